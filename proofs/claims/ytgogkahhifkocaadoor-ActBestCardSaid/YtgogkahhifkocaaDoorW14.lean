/- Functions. No conditions. -/
import Derived.Test.YtgogkahhifkocaaDoorW13
import Derived.Test.YtgogkahhifkocaaDoorRows
import Derived.Test.YtgogkahhifkocaaDoorEng6
import Derived.WalkKit
import Derived.ProofKit
import Derived.LaidMore
import Derived.Lib.LaidTab
import Derived.Stop.LaidErr
import Derived.Stop.Joined
import Derived.OpenShut
set_option maxRecDepth 100000
set_option maxHeartbeats 400000
set_option linter.all false
namespace Go.Ab
open Go
def Qcl (S E:Nat -> Int):Nat -> Int:=fun j=>if S j=-1 then E j else if E j=-1\/E j=S j then S j else 100
theorem Qg0 {S E:Nat -> Int} {j x:Nat} (hx:x < 100):okE (Qcl S E) j x↔okE S j x/\okE E j x:=by
 unfold okE Qcl
 by_cases h1:S j=-1
 ·simp [h1]
 by_cases h2:E j=-1\/E j=S j
 ·rw [aI h1,aH h2]; omega
 rw [aI h1,aI h2]; omega
def NF.fr (D:NF) (m:Nat) (w:Nat -> Nat):Nat -> Nat := fun k=>Qh k fun v=>if m.testBit v=true then 1 else D.wt w v
def NF.wh (D:NF) (m:Nat):Nat -> Nat := fun k=>Qh k fun v=>if m.testBit v=true then 1 else D.g
def fS (D:NF) (m:Nat) (w:Nat -> Nat):Int:=(D.fr m w D.n:Int)
def actS (n:Nat) (S:Nat -> Int):Nat := msk n fun j=>decide (0<=S j)
theorem Qyf {n:Nat} {S:Nat -> Int} {j:Nat}:(actS n S).testBit j=(decide (j < n) && decide (0<=S j)):=Qs3 _ _ _
theorem Q0p {n:Nat} {p:Nat -> Bool}:msk n p < 2^n:=Nat.lt_pow_two_of_testBit _ fun j hj=>by rw [Qs3]; simp; omega
theorem Qtt {n:Nat} {S:Nat -> Int} (hn:n<=8):actS n S < 18446744073709551616:=bK Q0p (bT (aT (by omega) hn) (by decide))
theorem Qkv {a k:Nat} (ha:a < 18446744073709551616) (hk:k < 64) :
  ((zv (zb (Int.fdiv (a:Int) (2^min (Int.toNat (k:Int)) zk)) &&& zb 1).toNat)==1)=a.testBit k:=by
 rw [Qu8 ha hk]; cases a.testBit k <;> rfl
theorem Qnk {a k:Nat} (ha:a < 18446744073709551616) (hk:k < 64) :
  ((zv (zb (Int.fdiv (a:Int) (2^min (Int.toNat (k:Int)) zk)) &&& zb 1).toNat)==0)=!a.testBit k:=by
 rw [Qu8 ha hk]; cases a.testBit k <;> rfl
section
variable {D:NF} {w:Nat -> Nat} {m:Nat}
theorem Qyh {n:Nat} (hn:n<=8) {S:Nat -> Int}:Jo (Qd n S)=some (actS n S:Int):=by
 have hr:=Qa3 (n:=n) (k0:=0) (by omega) (by omega) (fun i (t:Int)=>(t,i)) (body:=Km (Qd n S)) (fun k=>(actS k S:Int)) (actS n S:Int)
  (fun k _ hk=>by
   unfold Km
   rw [aH (by rw [Q2]; exact dlt hk),show lkI (Qd n S) (k:Int)=some (S k) from Q3 hk,aC]
   by_cases c:0<=S k
   ·rw [aH (by simpa using c),aH (by omega)]
    simp only
    rw [Qu4 (Qtt (by omega)) (by omega),show actS (k+1) S=actS k S ||| 2^k by show msk k _ ||| _=_; rw [aH (by simpa using c)]; rfl]
   rw [aI (by simpa using c),show actS (k+1) S=actS k S by show msk k _ ||| _=_; rw [aI (by simpa using c)]; simp [actS]])
  (by unfold Km; rw [aI (by rw [Q2]; exact nlt n)])
 unfold Jo
 rw [show ((0:Int),(0:Int))=(((actS 0 S:Nat):Int),((0:Nat):Int)) from rfl,hr]; rfl
variable (V:VN D)
include V
theorem VN.aweigh0 (hw:D.ok w) {v:Nat} (hv:v < D.n):Qb fuel (Kn (D.node v) D.net (Q6 D.n w)) (0,0)=some (D.idx v w:Int):=by
 have hl:(D.node v).Parents.length=(D.par v).length:=by simp [NF.node]
 refine Xb (fun k=>((Y2 D.card w ((D.par v).take k):Int),(k:Int))) (D.par v).length _ rfl (fun k hk=>?_) ?_ (by have:=V.len v hv; omega)
 ·have hlen:=V.len v hv
  have hp:=V.par v hv (D.par v)[k] (bH hk)
  have hpar:lkI (D.node v).Parents (k:Int)=some (((D.par v)[k]:Nat):Int):=by rw [Yj (by rw [hl]; exact hk)]; simp [NF.node]
  have h1:Y2 D.card w ((D.par v).take k) < lprod D.card ((D.par v).take k):=Qo4 fun p hp=>hw p (V.par v hv p (bF hp))
  have h2:lprod D.card ((D.par v).take k)<=4^8:=bT (Qfh fun p hp=>(V.card p (V.par v hv p (bF hp))).2) (aT (by omega) (by rw [cM]; omega))
  have h3:Y2 D.card w ((D.par v).take (k+1))=Y2 D.card w ((D.par v).take k)*D.card (D.par v)[k]+w (D.par v)[k]:=by rw [Vj hk,Qpd]
  have hc:=(V.card _ hp).2
  have hww:=hw _ hp
  have h4:Y2 D.card w ((D.par v).take k)*D.card (D.par v)[k]<=65536*4:=Nat.mul_le_mul (by omega) hc
  unfold Kn
  simp only
  rw [aH (by rw [hl]; simpa using hk),hpar]
  simp only [aC]
  rw [V.node hp]
  simp only [aC]
  rw [Yz hp]
  simp only [aC]
  have e1:((Y2 D.card w ((D.par v).take k):Nat):Int)*(D.node (D.par v)[k]).Card=((Y2 D.card w ((D.par v).take k)*D.card (D.par v)[k]:Nat):Int):=by simp [NF.node]
  have w1:zw ((Y2 D.card w ((D.par v).take k)*D.card (D.par v)[k]:Nat):Int)=((Y2 D.card w ((D.par v).take k)*D.card (D.par v)[k]:Nat):Int):=w64 (by omega)
  rw [e1,w1,w64 (by omega),w64 (by omega),h3]
  simp
 unfold Kn
 simp only
 rw [aI (by rw [hl]; simp)]
 simp [NF.idx]
theorem VN.fr_le (hw:D.ok w) {k:Nat} (hk:k<=D.n):D.fr m w k<=167961600000000:=by
 have h1:D.fr m w k<=60^k:=Qfq fun v hv=>by
  split
  ·omega
  exact V.wt_le hw (by omega)
 exact bT h1 (bT (aT (by omega) (bT hk V.n8)) (by decide))
theorem VN.wh_le {k:Nat} (hk:k<=D.n):D.wh m k<=167961600000000:=by
 have h1:D.wh m k<=60^k:=Qfq fun v hv=>by
  split
  ·omega
  exact V.g60
 exact bT h1 (bT (aT (by omega) (bT hk V.n8)) (by decide))
theorem VN.wh_pos {k:Nat} (hk:k<=D.n):1<=D.wh m k:=Qm3 fun v hv=>by
 split
 ·omega
 exact V.g1
theorem VN.aweigh (hm:m < 18446744073709551616) (hw:D.ok w):Jp D.net (m:Int) (Q6 D.n w)=some (fS D m w):=by
 have hlen:D.net.Nodes.length=D.n:=Q2
 have hn8:=V.n8
 have hr:=Qa3 (n:=D.n) (k0:=0) (by omega) (by omega) (fun i (t:Int)=>(t,i)) (body:=Kq D.net (m:Int) (Q6 D.n w)) (fun k=>(D.fr m w k:Int)) (D.fr m w D.n:Int)
  (fun k _ hk=>by
   have hb:=V.fr_le (m:=m) hw (k:=k) (by omega)
   have hwt:=V.wt_le hw hk
   have hi:=V.idx_lt hw hk
   have hmm:D.fr m w k*D.wt w k<=167961600000000*60:=Nat.mul_le_mul hb hwt
   unfold Kq
   rw [aH (by rw [hlen]; exact dlt hk),V.node hk,aC,aH (by omega)]
   simp only
   rw [Qkv hm (by omega)]
   by_cases c:m.testBit k=true
   ·rw [aH c,show D.fr m w (k+1)=D.fr m w k by show D.fr m w k*(if m.testBit k=true then 1 else D.wt w k)=_; rw [aH c,Nat.mul_one]]
   rw [aI c,V.aweigh0 hw hk,aC,show lkI (D.node k).Rows (D.idx k w:Int)=some (Qd (D.card k) fun x=>(D.W k (D.idx k w) x:Int)) from Q3 hi,aC,Yz hk,aC,
    show lkI (Qd (D.card k) fun x=>(D.W k (D.idx k w) x:Int)) (w k:Int)=some (D.wt w k:Int) from Q3 (hw k hk),aC,w64 (by rw [<-Int.natCast_mul]; omega),
    show D.fr m w (k+1)=D.fr m w k*D.wt w k by show D.fr m w k*(if m.testBit k=true then 1 else D.wt w k)=_; rw [aI c],Int.natCast_mul])
  (by unfold Kq; rw [aI (by rw [hlen]; exact nlt _)])
 unfold Jp
 rw [show ((1:Int),(0:Int))=(((D.fr m w 0:Nat):Int),((0:Nat):Int)) from rfl,hr]; rfl
theorem VN.awhole (hm:m < 18446744073709551616):K1 D.net (m:Int)=some (D.wh m D.n:Int):=by
 have hlen:D.net.Nodes.length=D.n:=Q2
 have hn8:=V.n8
 have hr:=Qa3 (n:=D.n) (k0:=0) (by omega) (by omega) (fun i (t:Int)=>(t,i)) (body:=Kf D.net (m:Int)) (fun k=>(D.wh m k:Int)) (D.wh m D.n:Int)
  (fun k _ hk=>by
   have hb:=V.wh_le (m:=m) (k:=k) (by omega)
   have hg:=V.g60
   have hmm:D.wh m k*D.g<=167961600000000*60:=Nat.mul_le_mul hb hg
   unfold Kf
   rw [aH (by rw [hlen]; exact dlt hk),aH (by omega)]
   simp only
   rw [Qnk hm (by omega)]
   by_cases c:m.testBit k=true
   ·rw [aI (by simp [c]),show D.wh m (k+1)=D.wh m k by show D.wh m k*(if m.testBit k=true then 1 else D.g)=_; rw [aH c,Nat.mul_one]]
   rw [aH (by simpa using c),show D.net.Grain=(D.g:Int) from rfl,w64 (by rw [<-Int.natCast_mul]; omega),
    show D.wh m (k+1)=D.wh m k*D.g by show D.wh m k*(if m.testBit k=true then 1 else D.g)=_; rw [aI c],Int.natCast_mul])
  (by unfold Kf; rw [aI (by rw [hlen]; exact nlt _)])
 unfold K1
 rw [show ((1:Int),(0:Int))=(((D.wh m 0:Nat):Int),((0:Nat):Int)) from rfl,hr]; rfl
theorem Qry:Ext D (fS D m):=fun w w' h=>by
 unfold fS NF.fr
 congr 1
 exact Qrx fun v hv=>by rw [Q0o V h hv]
theorem Qp1:∀w,D.ok w->BD 1 (fS D m w):=fun w hw=>by
 have:=V.fr_le (m:=m) hw (aY _)
 unfold fS BD KK; omega
theorem Qo2 {w:Nat -> Nat}:0<=fS D m w:=by unfold fS; omega
end
def FWl {τ:Type} (D:NF) (K:Nat -> Nat -> Bool) (leaf:τ->(Nat -> Nat)->τ):Nat -> Nat -> (Nat -> Nat)->τ->τ
 | 0,_,w,t=>leaf t w
 | d+1,i,w,t=>(List.range (D.card i)).foldl (fun t x=>if K i x then FWl D K leaf d (i+1) (Zs w i x) t else t) t
def FXl {τ:Type} (D:NF) (K:Nat -> Nat -> Bool) (leaf:τ->(Nat -> Nat)->τ) (d i:Nat) (w:Nat -> Nat) (t:τ) (x:Nat):τ:=(List.range x).foldl (fun t x=>if K i x then FWl D K leaf d (i+1) (Zs w i x) t else t) t
theorem Qhv {τ:Type} {D:NF} {K:Nat -> Nat -> Bool} {leaf:τ->(Nat -> Nat)->τ} {d i:Nat} {w:Nat -> Nat} {t:τ} {x:Nat} :
  FXl D K leaf d i w t (x+1)=if K i x then FWl D K leaf d (i+1) (Zs w i x) (FXl D K leaf d i w t x) else FXl D K leaf d i w t x:=by
 unfold FXl; rw [List.range_succ,List.foldl_append]; rfl
theorem Qo9 {τ:Type} {D:NF} {K:Nat -> Nat -> Bool} {leaf:τ->(Nat -> Nat)->τ} (hf:∀t w w',(∀j,j < D.n->w j=w' j)->leaf t w=leaf t w') :
  ∀(d i:Nat) (w w':Nat -> Nat) (t:τ),i+d=D.n->(∀j,j < i->w j=w' j)->FWl D K leaf d i w t=FWl D K leaf d i w' t
 | 0,i,w,w',t,hi,h=>hf t w w' fun j hj=>h j (by omega)
 | d+1,i,w,w',t,hi,h=>by
  unfold FWl
  have:∀(l:List Nat) (t:τ),l.foldl (fun t x=>if K i x then FWl D K leaf d (i+1) (Zs w i x) t else t) t=l.foldl (fun t x=>if K i x then FWl D K leaf d (i+1) (Zs w' i x) t else t) t:=fun l=>by
   induction l with
   | nil=>intro t; rfl
   | cons x l ih =>
    intro t
    simp only [List.foldl_cons]
    rw [ih]
    congr 1
    split
    ·exact Qo9 hf d (i+1) _ _ t (by omega) fun j hj=>by
      by_cases e:j=i
      ·subst e; rw [Zz,Zz]
      rw [Yk e,Yk e]; exact h j (by omega)
    rfl
  exact this _ t
theorem Qto {τ:Type} {D:NF} {K:Nat -> Nat -> Bool} {leaf:τ->(Nat -> Nat)->τ} {I:Nat -> τ->Prop} (mono:∀m p t,I m t->m<=p->I p t) (hl:∀m t w,I m t->D.ok w->I (m+1) (leaf t w)) :
  ∀(d i:Nat) (w:Nat -> Nat) (t:τ) (m:Nat),i+d=D.n->D.ok w->I m t->I (m+PC D d i) (FWl D K leaf d i w t)
 | 0,i,w,t,m,hi,hw,h=>hl m t w h hw
 | d+1,i,w,t,m,hi,hw,h=>by
  have:∀x,x<=D.card i->I (m+x*PC D d (i+1)) (FXl D K leaf d i w t x):=fun x=>by
   induction x with
   | zero=>intro _; simpa [FXl] using h
   | succ x ih =>
    intro hx
    rw [Qhv,dM,<-cE]
    split
    ·exact Qto mono hl d (i+1) _ _ _ (by omega) (Qmm hw (by omega)) (ih (by omega))
    exact mono _ _ _ (ih (by omega)) (by omega)
  exact this _ (aY _)
theorem Ql1 {τ σ ρ:Type} {D:NF} (V:VN D) {K:Nat -> Nat -> Bool} {leaf:τ->(Nat -> Nat)->τ} (hext:∀t w w',(∀j,j < D.n->w j=w' j)->leaf t w=leaf t w')
  {I:Nat -> τ->Prop} (mono:∀m p t,I m t->m<=p->I p t) (hl:∀m t w,I m t->D.ok w->I (m+1) (leaf t w))
  (mkS:Int->τ->List Int->σ) (mkT:τ->List Int->ρ) {F:(σ->Option ρ)->σ->Option ρ} {B:(σ->Option ρ)->Nat -> τ->(Nat -> Nat)->σ->Option (Qi σ ρ)}
  (hleaf:∀r m t w,D.ok w->I m t->m+1<=1024->F r (mkS (D.n:Int) t (Q6 D.n w))=some (mkT (leaf t w) (Q6 D.n w)))
  (hnode:∀r i t w z,i < D.n->D.ok w->Qb fuel (B r i t w) (mkS 0 t (Q6 D.n w))=some z->F r (mkS (i:Int) t (Q6 D.n w))=some z)
  (hyes:∀r i t0 w0 x t w z w',i < D.n->D.ok w->x < D.card i->K i x=true->r (mkS ((i+1:Nat):Int) t (Q6 D.n (Zs w i x)))=some (mkT z (Q6 D.n w'))->B r i t0 w0 (mkS (x:Int) t (Q6 D.n w))=some (.next (mkS ((x+1:Nat):Int) z (Q6 D.n w'))))
  (hno:∀r i t0 w0 x t w,i < D.n->D.ok w->x < D.card i->K i x=false->B r i t0 w0 (mkS (x:Int) t (Q6 D.n w))=some (.next (mkS ((x+1:Nat):Int) t (Q6 D.n w))))
  (hend:∀r i t0 w0 t w,i < D.n->D.ok w->B r i t0 w0 (mkS (D.card i:Int) t (Q6 D.n w))=some (.done (mkT t (Q6 D.n w)))) :
  ∀(d N:Nat),d < N->∀(i m:Nat) (w:Nat -> Nat) (t:τ),i+d=D.n->D.ok w->I m t->m+PC D d i<=1024 ->
   ∃w',D.ok w'/\(∀j,j < i->w' j=w j)/\Qa8 F N (mkS (i:Int) t (Q6 D.n w))=some (mkT (FWl D K leaf d i w t) (Q6 D.n w'))
 | 0,N+1,_,i,m,w,t,hi,hw,hI,hm=>by
  have e:i=D.n:=by omega
  subst e
  refine ⟨w,hw,fun _ _=>rfl,?_⟩
  show F (Qa8 F N) _=_
  exact hleaf _ m t w hw hI hm
 | d+1,N+1,hN,i,m,w,t,hi,hw,hI,hm=>by
  have hin:i < D.n:=by omega
  have hc:=V.card i hin
  have hPC:PC D (d+1) i=D.card i*PC D d (i+1):=rfl
  have key:∀x,x<=D.card i->I (m+x*PC D d (i+1)) (FXl D K leaf d i w t x):=fun x=>by
   induction x with
   | zero=>intro _; simpa [FXl] using hI
   | succ x ih =>
    intro hx
    rw [Qhv,dM,<-cE]
    split
    ·exact Qto mono hl d (i+1) _ _ _ (by omega) (Qmm hw (by omega)) (ih (by omega))
    exact mono _ _ _ (ih (by omega)) (by omega)
  have hloop:∀x w',x<=D.card i->D.ok w'->(∀j,j < i->w' j=w j)->∀k,D.card i - x < k ->
    ∃w2,D.ok w2/\(∀j,j < i->w2 j=w j)/\Qb k (B (Qa8 F N) i t w) (mkS (x:Int) (FXl D K leaf d i w t x) (Q6 D.n w'))=some (mkT (FXl D K leaf d i w t (D.card i)) (Q6 D.n w2)):=by
   intro x w' hx hw' hag k
   induction hk:D.card i - x generalizing x w' k with
   | zero =>
    intro hk'
    obtain ⟨k,rfl⟩:∃k',k=k'+1:=⟨k - 1,by omega⟩
    have:x=D.card i:=by omega
    subst this
    refine ⟨w',hw',hag,?_⟩
    unfold Qb
    rw [hend _ i t w _ w' hin hw']
   | succ q ih =>
    intro hk'
    obtain ⟨k,rfl⟩:∃k',k=k'+1:=⟨k - 1,by omega⟩
    have hlt:x < D.card i:=by omega
    by_cases c:K i x=true
    ·have hxm:m+x*PC D d (i+1)+PC D d (i+1)<=1024:=by
      have:(x+1)*PC D d (i+1)<=D.card i*PC D d (i+1):=aR _ hlt
      rw [dM] at this
      omega
     obtain ⟨w2,k1,k2,k3⟩:=Ql1 V hext mono hl mkS mkT hleaf hnode hyes hno hend d N (by omega) (i+1) (m+x*PC D d (i+1)) (Zs w' i x) (FXl D K leaf d i w t x) (by omega) (Qmm hw' hlt) (key x (by omega)) hxm
     have e1:FXl D K leaf d i w t (x+1)=FWl D K leaf d (i+1) (Zs w' i x) (FXl D K leaf d i w t x):=by
      rw [Qhv,aH c]
      exact Qo9 hext d (i+1) _ _ _ (by omega) fun j hj=>by
       by_cases e:j=i
       ·subst e; rw [Zz,Zz]
       rw [Yk e,Yk e]; exact (hag j (by omega)).symm
     rw [<-e1] at k3
     obtain ⟨w3,j1,j2,j3⟩:=ih (x+1) w2 (by omega) k1 (fun j hj=>by rw [k2 j (by omega),Yk (by omega),hag j hj]) k (by omega) (by omega)
     refine ⟨w3,j1,j2,?_⟩
     unfold Qb
     rw [hyes _ i t w x _ w' _ w2 hin hw' hlt c k3]
     exact j3
    have c':K i x=false:=by simpa using c
    obtain ⟨w3,j1,j2,j3⟩:=ih (x+1) w' (by omega) hw' hag k (by omega) (by omega)
    refine ⟨w3,j1,j2,?_⟩
    unfold Qb
    rw [hno _ i t w x _ w' hin hw' hlt c']
    rw [Qhv,aI c] at j3
    exact j3
  obtain ⟨w2,k1,k2,k3⟩:=hloop 0 w (by omega) hw (fun _ _=>rfl) fuel (by unfold fuel; omega)
  refine ⟨w2,k1,k2,?_⟩
  show F (Qa8 F N) _=_
  exact hnode _ i t w _ hin hw k3
end Go.Ab
namespace Go.Ab
open Go
theorem Qbj {D:NF} {τ:Type} {p:τ->Int} {K:Nat -> Nat -> Bool} {g:Nat -> τ->τ} {h:Nat -> Int} {i:Nat} (hh:∀x t,K i x=true->p (g x t)=p t+h x) :
  ∀(n:Nat) (t:τ),p ((List.range n).foldl (fun t x=>if K i x then g x t else t) t)=p t+Qn n fun x=>if K i x=true then h x else 0
 | 0,t=>by simp [Qn]
 | n+1,t=>by
  rw [List.range_succ,List.foldl_append]
  simp only [List.foldl_cons,List.foldl_nil,Qn]
  split
  ·rename_i c; rw [hh _ _ c,Qbj (D:=D) hh n t]; omega
  rw [Qbj (D:=D) hh n t]; omega
def KE (E:Nat -> Int):Nat -> Nat -> Bool:=fun i x=>decide (okE E i x)
theorem Qln {D:NF} {τ:Type} {E:Nat -> Int} {leaf:τ->(Nat -> Nat)->τ} {p:τ->Int} {f:(Nat -> Nat)->Int} (h:∀t w,p (leaf t w)=p t+f w) :
  ∀(d i:Nat) (w:Nat -> Nat) (t:τ),p (FWl D (KE E) leaf d i w t)=p t+TM D E f d i w
 | 0,i,w,t=>h t w
 | d+1,i,w,t=>by
  unfold FWl
  rw [Qbj (D:=D) (p:=p) (h:=fun x=>TM D E f d (i+1) (Zs w i x)) (fun x t _=>Qln h d (i+1) _ t)]
  congr 1
  refine Yu fun x _=>?_
  unfold KE
  by_cases c:okE E i x
  ·rw [aH (by simpa using c)]; exact (aH (show E i=-1\/E i=(x:Int) from c)).symm
  rw [aI (by simpa using c)]; exact (aI (show ¬ (E i=-1\/E i=(x:Int)) from c)).symm
theorem Quo {a b x:Int} {body:Int->Option (Qi Int (Unit ⊕ Unit))} (ha:-1<=a) (hb:-1<=b)
  (h0:body 0=if (decide (a>=0))=true then (if (a != x)=true then some (.done (Sum.inl ())) else some (.next 1)) else some (.next 1))
  (h1:body 1=if (decide (b>=0))=true then (if (b != x)=true then some (.done (Sum.inl ())) else some (.next 2)) else some (.next 2))
  (h2:body 2=some (.done (Sum.inr ()))):Qb fuel body 0=some (if (a=-1\/a=x)/\(b=-1\/b=x) then Sum.inr () else Sum.inl ()):=by
 have st:∀{y:Int} {o:Option (Qi Int (Unit ⊕ Unit))} {z:Int},-1<=y->o=(if (decide (y>=0))=true then (if (y != x)=true then some (.done (Sum.inl ())) else some (.next z)) else some (.next z)) ->
   ((y=-1\/y=x)->o=some (.next z))/\(¬ (y=-1\/y=x)->o=some (.done (Sum.inl ()))):=fun {y o z} hy h=>by
  constructor
  ·intro c
   rw [h]
   rcases c with c | c
   ·rw [aI (by simp; omega)]
   ·by_cases c2:0<=y
    ·rw [aH (by simpa using c2),aI (by simpa using c)]
    ·rw [aI (by simpa using c2)]
  ·intro c
   rw [h,aH (by simp; omega),aH (by simp; omega)]
 refine Qoj (fun s=>s=0\/(s=1/\(a=-1\/a=x))\/(s=2/\(a=-1\/a=x)/\(b=-1\/b=x))) (fun s=>(3 - s).toNat) _ (fun s hs=>?_) 0 (.inl rfl) (by decide)
 rcases hs with rfl | ⟨rfl,c⟩ | ⟨rfl,c,c'⟩
 ·by_cases c:a=-1\/a=x
  ·exact .inl ⟨1,(st ha h0).1 c,.inr (.inl ⟨rfl,c⟩),by decide⟩
  ·exact .inr (by rw [(st ha h0).2 c,aI (fun h=>c h.1)])
 ·by_cases c':b=-1\/b=x
  ·exact .inl ⟨2,(st hb h1).1 c',.inr (.inr ⟨rfl,c,c'⟩),by decide⟩
  ·exact .inr (by rw [(st hb h1).2 c',aI (fun h=>c' h.2)])
 ·exact .inr (by rw [h2,aH ⟨c,c'⟩])
theorem Qjv {D:NF} {S E:Nat -> Int} (hS:Qbv D S) (hE:Qbv D E) {i x:Nat} (hi:i < D.n) (hx:x < 100) {s t:Int × Int × List Int} (hs:s.1=i) (ht:t.1=x) :
  Qb fuel (Qby (Qd D.n S) (Qd D.n E) s t) 0=some (if KE (Qcl S E) i x=true then Sum.inr () else Sum.inl ()):=by
 have hl:∀F:Nat -> Int,lkI (Qd D.n F) s.1=some (F i):=fun F=>by rw [hs]; exact Q3 hi
 rw [Quo (a:=S i) (b:=E i) (x:=t.1) (hS i hi).1 (hE i hi).1]
 ·congr 1
  rw [ht]
  by_cases c:okE (Qcl S E) i x
  ·rw [aH (show (S i=-1\/S i=(x:Int))/\(E i=-1\/E i=(x:Int)) from (Qg0 hx).1 c),aH (by unfold KE; simpa using c)]
  ·rw [aI (fun h:(S i=-1\/S i=(x:Int))/\(E i=-1\/E i=(x:Int))=>c ((Qg0 hx).2 h)),aI (by unfold KE; simpa using c)]
 all_goals (unfold Qby; simp only [dA,List.length_nil])
 ·rw [aH (by simp),show lkI ([Qd D.n S,Qd D.n E]:List (List Int)) 0=some (Qd D.n S) from rfl,aC,hl,aC]; rfl
 ·rw [aH (by simp),show lkI ([Qd D.n S,Qd D.n E]:List (List Int)) 1=some (Qd D.n E) from rfl,aC,hl,aC]; rfl
 ·rfl
def Qug (D:NF) (S E:Nat -> Int):Int:=SW D (Qcl S E) (fS D (actS D.n S))
theorem Qyy {D:NF}:PC D D.n 0=Qh D.n D.card:=by have:=Qn8 (D:=D) D.n 0; simpa [Qh] using this
theorem Qqb {n i x:Nat} {w:Nat -> Nat}:(Q6 n w).set i (x:Int)=Q6 n (Zs w i x):=by
 unfold Q6; rw [Xz]
 refine Qp fun j _=>?_
 unfold Zs
 split <;> rfl
theorem Qk1 {n:Nat}:List.replicate (Int.toNat (n:Int)) (0:Int)=Q6 n fun _=>0:=by rw [aP]; exact Qe4 n 0
section
variable {D:NF} {S E:Nat -> Int}
theorem Qua (V:VN D) {m:Nat} (hm:m < 18446744073709551616) (hS:Qbv D S) (hE:Qbv D E) :
  ∃w',Qa8 (Ve D.net (m:Int) (Qd D.n S) (Qd D.n E)) fuel (0,0,Q6 D.n fun _=>0)=some (SW D (Qcl S E) (fS D m),Q6 D.n w'):=by
 have hw:=V.worlds
 have hn8:=V.n8
 obtain ⟨w',_,_,h⟩:=Ql1 V (K:=KE (Qcl S E)) (leaf:=fun (t:Int) w=>t+fS D m w) (fun t w w' h=>by show t+_=t+_; rw [Qry V w w' h])
  (I:=fun m t=>BD m t) (fun _ _ _ h hp=>h.mono hp) (fun _ _ w h hw=>h.add (Qp1 V w hw)) (fun i t l=>((i,t,l):Int × Int × List Int)) (fun t l=>((t,l):Int × List Int))
  (F:=Ve D.net (m:Int) (Qd D.n S) (Qd D.n E)) (B:=fun r i t w=>Vq (D.node i) (Qd D.n S) (Qd D.n E) ((i:Int),t,Q6 D.n w) r)
  (fun r p t w hw hI hp=>by
   unfold Ve
   simp only
   rw [aH (by rw [Kd]; simp),V.aweigh hm hw,aC,w64 ((hI.add (Qp1 V w hw)).fit hp)])
  (fun r i t w z hi hw hz=>by
   unfold Ve
   simp only
   rw [aI (by rw [Kd]; simp; omega),V.node hi,aC,hz,aC])
  (fun r i t0 w0 x t w z w' hi hw hx hk hr=>by
   have hc:=(V.card i hi).2
   unfold Vq
   simp only
   rw [aH (by simp [NF.node]; omega),Qjv hS hE hi (by omega) rfl rfl,aH hk,aC]
   simp only
   rw [Yz hi,aC,aP,Qqb,Qg4 (by omega),hr,aC,Qg4 (by omega)])
  (fun r i t0 w0 x t w hi hw hx hk=>by
   have hc:=(V.card i hi).2
   unfold Vq
   simp only
   rw [aH (by simp [NF.node]; omega),Qjv hS hE hi (by omega) rfl rfl,aI (by simp [hk]),aC]
   simp only
   rw [Qg4 (by omega)])
  (fun r i t0 w0 t w hi hw=>by
   unfold Vq
   simp only
   rw [aI (by simp [NF.node])])
  D.n fuel (by unfold fuel; omega) 0 0 (fun _=>0) 0 (by omega) (fun v hv=>(V.card v hv).1) BD.zero (by rw [Qyy]; omega)
 have hr:=Qln (D:=D) (E:=Qcl S E) (leaf:=fun (t:Int) w=>t+fS D m w) (p:=fun t=>t) (f:=fS D m) (fun _ _=>rfl) D.n 0 (fun _=>0) 0
 simp only [Int.zero_add] at hr
 rw [hr] at h
 exact ⟨w',h⟩
theorem Qju {f:(Nat -> Nat)->Int} {K:Nat -> Int} (hf:∀w,0<=f w):∀(d i:Nat) (w:Nat -> Nat),0<=TM D K f d i w
 | 0,i,w=>hf w
 | d+1,i,w=>Yd fun x _=>by
  split
  ·exact Qju hf d (i+1) _
  exact Int.le_refl _
theorem Qxg (V:VN D) {m:Nat} {K:Nat -> Int}:0<=SW D K (fS D m)/\(SW D K (fS D m)).natAbs<=MX:=by
 have h1:0<=SW D K (fS D m):=Qju (fun w=>Qo2 V) _ _ _
 have h2:=Qy3 V (m:=1024) (E:=K) V.worlds (Qp1 V (m:=m))
 unfold BD KK at h2
 refine ⟨h1,?_⟩
 unfold MX; omega
theorem Qrs (V:VN D) {m:Nat}:((D.wh m D.n:Nat):Int)≠0/\((D.wh m D.n:Nat):Int).natAbs<=MX:=by
 have h1:=V.wh_pos (m:=m) (aY _)
 have h2:=V.wh_le (m:=m) (aY _)
 constructor
 ·omega
 unfold MX; omega
theorem Qxk (X:VX D) (ls:List (Nat -> Int)) (hl:ls.length<=2) (h:∀S∈ls,Qbv D S):Yw D.net (ls.map (Qd D.n))=some 0:=by
 obtain ⟨order,hr⟩:=Qtd X
 have hr2:=Qa3 (n:=ls.length) (k0:=0) (by omega) (by omega) (fun i (_:Unit)=>i) (body:=Kp (ls.map (Qd D.n)) D.net) (fun _=>()) (.inr ())
  (fun k _ hk=>by
   unfold Kp
   rw [aH (by rw [bU]; exact dlt hk),Yj (by rw [bU]; exact hk),aC]
   have hc:Xi D.net (Qd D.n ls[k])=some 0:=by
    rcases Q0h X (Qd D.n ls[k]) with ⟨_,c⟩ | ⟨c,_⟩
    ·exact c
    refine absurd ⟨Q2,fun j hj=>?_⟩ c
    unfold evJ
    have e:((Qd D.n ls[k])[j]?).getD 0=ls[k] j:=by unfold Qd; rw [bC,List.getElem?_range hj]; rfl
    rw [e]; exact h _ (bH hk) j hj
   rw [List.getElem_map,hc,aC,aI (by decide)])
  (by unfold Kp; rw [aI (by rw [bU]; exact nlt _)])
 unfold Yw Qgo
 rw [hr]
 simp only [aC]
 rw [aI (by simp),show ((0:Int))=((0:Nat):Int) from rfl,hr2]; rfl
theorem Qv9 (X:VX D) (hS:Qbv D S) (hE:Qbv D E):Ye D.net (Qd D.n S) (Qd D.n E)=some (qI (Qug D S E) (D.wh (actS D.n S) D.n:Int),0):=by
 have V:=X.vn
 have hn8:=V.n8
 have hm:=Qtt (S:=S) hn8
 obtain ⟨w',hr⟩:=Qua V hm hS hE
 have hlen:D.net.Nodes.length=D.n:=Q2
 have hc:=Qxk X [S,E] (by simp) (by simp [hS,hE])
 obtain ⟨h1,h2⟩:=Qxg V (m:=actS D.n S) (K:=Qcl S E)
 obtain ⟨h3,h4⟩:=Qrs V (m:=actS D.n S)
 unfold Ye
 rw [show ([Qd D.n S,Qd D.n E]:List (List Int))=[S,E].map (Qd D.n) from rfl,hc,aC,aI (by decide),Qyh hn8,aC,hlen,aH (by omega),Qk1,hr]
 simp only [aC]
 rw [V.awhole hm,aC,Qtl h2 h4 h3,aC]
 rfl
end
end Go.Ab
namespace Go.Ab
open Go
open Classical
section
variable {D:NF} {S E:Nat -> Int}
theorem Qxj (V:VN D) {f:(Nat -> Nat)->Int} (hf:Ext D f) {K:Nat -> Int}:SW D K f=Qn (Qh D.n D.card) (fun W=>if Y0 D.n K 0 (dig D W) then f (dig D W) else 0):=by
 have hmix:∀W,mix D 0 (fun _=>0) W=dig D W:=fun W=>by funext j; simp [mix]
 unfold SW
 rw [<-Qne V hf D.n 0 (fun _=>0) (by omega),Qyy]
 exact Yu fun W _=>by rw [hmix]
theorem Qt6 {w:Nat -> Nat} (hw:∀j,j < D.n->w j < 100):Y0 D.n (Qcl S E) 0 w↔Y0 D.n S 0 w/\Y0 D.n E 0 w:=by
 constructor
 ·intro h
  exact ⟨fun j h1 h2=>((Qg0 (hw j h2)).1 (h j h1 h2)).1,fun j h1 h2=>((Qg0 (hw j h2)).1 (h j h1 h2)).2⟩
 rintro ⟨h1,h2⟩ j h3 h4
 exact (Qg0 (hw j h4)).2 ⟨h1 j h3 h4,h2 j h3 h4⟩
theorem Q1y (V:VN D) {W:Nat}:∀j,j < D.n->dig D W j < 100:=fun j hj=>by
 have h1:=Qw8 V W j hj
 have h2:=(V.card j hj).2
 omega
theorem Qxs {n v:Nat} {E:Nat -> Int} {x:Int}:(Qd n E).set v x=Qd n (Zs E v x):=by
 rw [Xz]; rfl
end
end Go.Ab
namespace Go.Ab
open Go
open Classical
theorem Qpw {n:Int} (h:(Lit.int .u8 n).wf=true):0<=n/\n<=255:=by
 simpa [Lit.wf,IntKind.min,IntKind.max,IntKind.bits,IntKind.signed] using h
section
variable {D:NF} {S E:Nat -> Int}
end
end Go.Ab
namespace Go.Ab
open Go
open Classical
def num (c w:Nat -> Nat):Nat -> Nat
 | 0=>0
 | n+1=>num c w n*c n+w n
def pd (c:Nat -> Nat):Nat -> Nat -> Nat -> Nat
 | 0,_,_=>0
 | n+1,k,j=>if j=n then k % c n else pd c n (k / c n) j
theorem Qcx {c w w':Nat -> Nat}:∀{n:Nat},(∀j,j < n->w j=w' j)->num c w n=num c w' n
 | 0,_=>rfl
 | n+1,h=>by unfold num; rw [Qcx fun j hj=>h j (by omega),h n (by omega)]
theorem Qmq {c w:Nat -> Nat}:∀{n:Nat},(∀j,j < n->w j < c j)->num c w n < Qh n c
 | 0,_=>by simp [num,Qh]
 | n+1,h=>by
  have h1:=Qmq (n:=n) fun j hj=>h j (by omega)
  have h2:=h n (by omega)
  unfold num Qh
  have:(num c w n+1)*c n<=Qh n c*c n:=aR _ h1
  rw [dM] at this
  omega
theorem Qq2 {c w:Nat -> Nat}:∀{n:Nat},(∀j,j < n->w j < c j)->∀j,j < n->pd c n (num c w n) j=w j
 | 0,_,j,hj=>by omega
 | n+1,h,j,hj=>by
  have h2:=h n (by omega)
  unfold pd num
  by_cases e:j=n
  ·subst e; rw [aH rfl,cG,Nat.mul_add_mod,Nat.mod_eq_of_lt h2]
  rw [aI e,cG,Nat.mul_add_div (by omega),Nat.div_eq_of_lt h2,dW]
  exact Qq2 (fun j hj=>h j (by omega)) j (by omega)
theorem Qmt {c:Nat -> Nat}:∀{n k:Nat},k < Qh n c->num c (pd c n k) n=k
 | 0,k,h=>by simp [Qh] at h; simp [num,h]
 | n+1,k,h=>by
  unfold Qh at h
  have hc:0 < c n:=Nat.pos_of_ne_zero fun e=>by rw [e] at h; omega
  have hk:k / c n < Qh n c:=(Nat.div_lt_iff_lt_mul hc).2 h
  have e1:pd c (n+1) k n=k % c n:=by unfold pd; rw [aH rfl]
  have e2:num c (pd c (n+1) k) n=num c (pd c n (k / c n)) n:=Qcx fun j hj=>by
   show (if j=n then _ else _)=_
   rw [aI (by omega)]
  unfold num
  rw [e1,e2,Qmt hk,cG]
  exact dG k (c n)
theorem Qkz {c:Nat -> Nat}:∀{n k:Nat},(∀j,j < n->1<=c j)->∀j,j < n->pd c n k j < c j
 | 0,k,_,j,hj=>by omega
 | n+1,k,h,j,hj=>by
  unfold pd
  by_cases e:j=n
  ·subst e; rw [aH rfl]; exact cD _ (h j (by omega))
  rw [aI e]; exact Qkz (fun j hj=>h j (by omega)) j (by omega)
def cS (D:NF) (m:Nat) (v:Nat):Nat := if m.testBit v=true then D.card v else 1
def wS (m:Nat) (w:Nat -> Nat) (v:Nat):Nat := if m.testBit v=true then w v else 0
def Zm (D:NF) (m n k:Nat) (v:Nat):Int:=if m.testBit v=true then (pd (cS D m) n k v:Int) else -1
section
variable {D:NF} {m:Nat}
theorem Qva {w:Nat -> Nat} (hw:D.ok w):∀j,j < D.n->wS m w j < cS D m j:=fun j hj=>by
 unfold wS cS
 split
 ·exact hw j hj
 omega
theorem Qer (V:VN D):∀j,j < D.n->1<=cS D m j:=fun j hj=>by
 unfold cS
 split
 ·exact (V.card j hj).1
 omega
theorem Qoz {f g:Nat -> Nat}:∀{n:Nat},(∀j,j < n->f j<=g j)->Qh n f<=Qh n g
 | 0,_=>aY _
 | n+1,h=>Nat.mul_le_mul (Qoz fun j hj=>h j (by omega)) (h n (by omega))
theorem Qkx (V:VN D) {n:Nat} (hn:n<=D.n):Qh n (cS D m)<=1024:=by
 have h1:Qh n (cS D m)<=Qh D.n (cS D m):=by
  obtain ⟨d,hd⟩:=Nat.exists_eq_add_of_le hn
  have:∀d,n+d<=D.n->Qh n (cS D m)<=Qh (n+d) (cS D m):=fun d=>by
   induction d with
   | zero=>intro _; exact aY _
   | succ d ih =>
    intro h
    refine bT (ih (by omega)) ?_
    show _<=Qh (n+d) _*cS D m (n+d)
    have:=Qer V (m:=m) (n+d) (by omega)
    exact Nat.le_mul_of_pos_right _ this
  rw [hd]; exact this d (by omega)
 refine bT h1 (bT (Qoz fun j hj=>?_) V.worlds)
 unfold cS
 split
 ·exact aY _
 exact (V.card j hj).1
theorem Qk8 (V:VN D) {n:Nat} (hn:n<=D.n):1<=Qh n (cS D m):=Qm3 fun j hj=>Qer V j (by omega)
theorem Qz3 (V:VN D) {k:Nat}:Qbv D (Zm D m D.n k):=fun j hj=>by
 have h:=Qkz (c:=cS D m) (n:=D.n) (k:=k) (Qer V) j hj
 have hc:=V.card j hj
 unfold Zm
 unfold cS at h
 split
 ·rename_i c; rw [aH c] at h; unfold cS; omega
 omega
theorem Qon {k:Nat} (hm:m < 2^D.n):actS D.n (Zm D m D.n k)=m:=by
 apply Nat.eq_of_testBit_eq
 intro j
 rw [Qyf]
 by_cases hj:j < D.n
 ·unfold Zm
  by_cases c:m.testBit j=true
  ·rw [aH c,c]; simp [hj]
  rw [aI c]; simp at c; rw [c]; simp
 have:m.testBit j=false:=Nat.testBit_lt_two_pow (bK hm (aT (by omega) (by omega)))
 rw [this]; simp [hj]
theorem Qvh (V:VN D) {w:Nat -> Nat} (hw:D.ok w) {k:Nat} (hk:k < Qh D.n (cS D m)):Y0 D.n (Zm D m D.n k) 0 w↔num (cS D m) (wS m w) D.n=k:=by
 constructor
 ·intro h
  rw [<-Qmt hk]
  refine Qcx fun j hj=>?_
  have h1:=h j (dT _) hj
  have h2:=Qkz (c:=cS D m) (n:=D.n) (k:=k) (Qer V) j hj
  unfold okE Zm at h1
  unfold wS
  unfold cS at h2
  split
  ·rename_i c
   rw [aH c] at h1
   rcases h1 with h1 | h1
   ·omega
   omega
  rename_i c
  rw [aI c] at h2; unfold cS; omega
 rintro rfl j _ hj
 unfold okE Zm
 by_cases c:m.testBit j=true
 ·rw [aH c,Qq2 (Qva hw) j hj]
  unfold wS; rw [aH c]; exact .inr rfl
 rw [aI c]; exact .inl rfl
theorem Qsq (V:VN D) (hm:m < 18446744073709551616) {w:Nat -> Nat} (hw:D.ok w):Kg D.net (m:Int) (Q6 D.n w)=some (num (cS D m) (wS m w) D.n:Int):=by
 have hlen:D.net.Nodes.length=D.n:=Q2
 have hn8:=V.n8
 have hr:=Qa3 (n:=D.n) (k0:=0) (by omega) (by omega) (fun i (t:Int)=>(t,i)) (body:=V1 D.net (m:Int) (Q6 D.n w)) (fun k=>(num (cS D m) (wS m w) k:Int)) (num (cS D m) (wS m w) D.n:Int)
  (fun k _ hk=>by
   have hb:num (cS D m) (wS m w) k < 1024:=bK (Qmq fun j hj=>Qva hw j (by omega)) (Qkx V (by omega))
   have hc:=(V.card k hk).2
   have hwk:=hw k hk
   have hmm:num (cS D m) (wS m w) k*D.card k<=1024*4:=Nat.mul_le_mul (by omega) hc
   have hs:num (cS D m) (wS m w) (k+1)=num (cS D m) (wS m w) k*cS D m k+wS m w k:=rfl
   unfold V1
   simp only
   rw [aH (by rw [hlen]; exact dlt hk),V.node hk,aC,aH (by omega),Qkv hm (by omega),hs]
   by_cases c:m.testBit k=true
   ·have e1:∀x:Nat,x*D.card k<=1024*4->zw (zw ((x:Int)*(D.card k:Int))+(w k:Int))=((x*D.card k+w k:Nat):Int):=fun x hx=>by
     rw [<-Int.natCast_mul,w64 (n:=((x*D.card k:Nat):Int)) (by omega),w64 (by omega)]; omega
    rw [aH c,Yz hk,aC,show (D.node k).Card=(D.card k:Int) from rfl,show cS D m k=D.card k from aH c,show wS m w k=w k from aH c,e1 _ hmm]
   rw [aI c,show cS D m k=1 from aI c,show wS m w k=0 from aI c,Nat.mul_one,dW])
  (by unfold V1; simp only; rw [hlen,aI (nlt _)])
 unfold Kg
 exact Vy hr rfl
theorem Qut (V:VN D) (hm:m < 18446744073709551616):Qb fuel (Jm D.net (m:Int)) (1,0)=some (Qh D.n (cS D m):Int):=by
 have hlen:D.net.Nodes.length=D.n:=Q2
 have hn8:=V.n8
 have hr:=Qa3 (n:=D.n) (k0:=0) (by omega) (by omega) (fun i (t:Int)=>(t,i)) (body:=Jm D.net (m:Int)) (fun k=>(Qh k (cS D m):Int)) (Qh D.n (cS D m):Int)
  (fun k _ hk=>by
   have hb:=Qkx V (m:=m) (n:=k) (by omega)
   have hc:=(V.card k hk).2
   have hmm:Qh k (cS D m)*D.card k<=1024*4:=Nat.mul_le_mul (by omega) hc
   have hs:Qh (k+1) (cS D m)=Qh k (cS D m)*cS D m k:=rfl
   unfold Jm
   simp only
   rw [aH (by rw [hlen]; exact dlt hk),V.node hk,aC,aH (by omega),Qkv hm (by omega),hs]
   by_cases c:m.testBit k=true
   ·rw [aH c,show (D.node k).Card=(D.card k:Int) from rfl,show cS D m k=D.card k from aH c,w64 (by rw [<-Int.natCast_mul]; omega),<-Int.natCast_mul]
   rw [aI c,show cS D m k=1 from aI c,Nat.mul_one])
  (by unfold Jm; simp only; rw [hlen,aI (nlt _)])
 exact hr
def Xf (D:NF) (m v x k:Nat):Int:=SW D (fun _=>-1) (fun w=>if w v=x/\num (cS D m) (wS m w) D.n=k then fS D m w else 0)
def Jx (D:NF) (m v x k:Nat) (w:Nat -> Nat):Int:=if w v=x/\num (cS D m) (wS m w) D.n=k then fS D m w else 0
theorem Qrw (V:VN D) {v x k:Nat} (hv:v < D.n):Ext D (Jx D m v x k):=fun w w' h=>by
 unfold Jx
 rw [h v hv,Qry V w w' h,Qcx (w:=wS m w) (w':=wS m w') fun j hj=>by unfold wS; rw [h j hj]]
theorem Qnw (V:VN D) {v x k:Nat}:∀w,D.ok w->BD 1 (Jx D m v x k w):=fun w hw=>by
 unfold Jx
 split
 ·exact Qp1 V w hw
 exact BD.zero
theorem Qyl (V:VN D) {v x:Nat} (hm:m < 18446744073709551616) (hv:v < D.n) :
  ∃w',Qa8 (Jj D.net (m:Int) (v:Int) (x:Int)) fuel (0,Q6 (Qh D.n (cS D m)) (fun _=>0),Q6 D.n fun _=>0)=some (Qd (Qh D.n (cS D m)) (fun k=>Xf D m v x k),Q6 D.n w'):=by
 have hw:=V.worlds
 have hn8:=V.n8
 obtain ⟨N,hN⟩:∃N,N=Qh D.n (cS D m):=⟨_,rfl⟩
 have hN1:=Qkx V (m:=m) (aY D.n)
 obtain ⟨w',_,_,h⟩:=Ql1 V (K:=KE fun _=>-1) (leaf:=fun (t:Nat -> Int) w=>fun k=>t k+Jx D m v x k w) (fun t w w' h=>by funext k; show t k+_=t k+_; rw [Qrw V hv w w' h])
  (I:=fun m t=>∀x,BD m (t x)) (fun _ _ _ h hp=>fun x=>(h x).mono hp) (fun _ _ w h hw=>fun x=>(h x).add (Qnw V w hw))
  (fun i t l=>((i,Qd N t,l):Int × List Int × List Int)) (fun t l=>((Qd N t,l):List Int × List Int))
  (F:=Jj D.net (m:Int) (v:Int) (x:Int)) (B:=fun r i t w=>K8 (D.node i) ((i:Int),Qd N t,Q6 D.n w) r)
  (fun r p t w hw hI hp=>by
   unfold Jj
   simp only
   rw [aH (by rw [Kd]; simp),V.aweigh hm hw,aC,Yz hv,aC]
   by_cases c:w v=x
   ·have hk:num (cS D m) (wS m w) D.n < N:=by rw [hN]; exact Qmq (Qva hw)
    have hit:Jx D m v x (num (cS D m) (wS m w) D.n) w=fS D m w:=aH ⟨c,rfl⟩
    have hf:=((hI (num (cS D m) (wS m w) D.n)).add (Qnw (m:=m) (v:=v) (x:=x) (k:=num (cS D m) (wS m w) D.n) V w hw)).fit hp
    rw [hit] at hf
    rw [aH (by simp [c]),Qsq V hm hw,aC,show lkI (Qd N t) (num (cS D m) (wS m w) D.n:Int)=some (t (num (cS D m) (wS m w) D.n)) from Q3 hk,aC,w64 hf,aP,Xz]
    have e:(Qd N fun s=>if s=num (cS D m) (wS m w) D.n then t (num (cS D m) (wS m w) D.n)+fS D m w else t s)=Qd N fun k=>t k+Jx D m v x k w:=Qp fun k _=>by
     by_cases e:k=num (cS D m) (wS m w) D.n
     ·subst e; rw [aH rfl,hit]
     rw [aI e]; unfold Jx; rw [aI fun h=>e h.2.symm,Int.add_zero]
    rw [e]
   rw [aI (by simp; omega)]
   have e:Qd N t=Qd N fun k=>t k+Jx D m v x k w:=Qp fun k _=>by unfold Jx; rw [aI fun h=>c h.1,Int.add_zero]
   rw [<-e])
  (fun r i t w z hi hw hz=>by
   unfold Jj
   simp only
   rw [aI (by rw [Kd]; simp; omega),V.node hi,aC,hz,aC])
  (fun r i t0 w0 x t w z w' hi hw hx hk hr=>by
   have hc:=(V.card i hi).2
   unfold K8
   simp only
   rw [aH (by simp [NF.node]; omega),Qj9 (fun _=>()) 0 () (fun k hk=>by omega) rfl (by decide),aC,Yz hi,aC,aP,Qqb,Qg4 (by omega),hr,aC,Qg4 (by omega)])
  (fun r i t0 w0 x t w hi hw hx hk=>by
   exfalso
   unfold KE okE at hk
   simp at hk)
  (fun r i t0 w0 t w hi hw=>by
   unfold K8
   simp only
   rw [aI (by simp [NF.node])])
  D.n fuel (by unfold fuel; omega) 0 0 (fun _=>0) (fun _=>0) (by omega) (fun v hv=>(V.card v hv).1) (fun _=>BD.zero) (by rw [Qyy]; omega)
 have hr:∀k,FWl D (KE fun _=>-1) (fun (t:Nat -> Int) w=>fun k=>t k+Jx D m v x k w) D.n 0 (fun _=>0) (fun _=>0) k=Xf D m v x k:=fun k=>by
  have:=Qln (D:=D) (E:=fun _=>-1) (leaf:=fun (t:Nat -> Int) w=>fun k=>t k+Jx D m v x k w) (p:=fun t=>t k) (f:=Jx D m v x k) (fun _ _=>rfl) D.n 0 (fun _=>0) (fun _=>0)
  rw [Int.zero_add] at this
  exact this
 refine ⟨w',?_⟩
 rw [<-hN]
 have h':=h
 rw [Qp (fun k _=>hr k)] at h'
 exact h'
theorem Qjl (V:VN D) {v x k:Nat}:0<=Xf D m v x k/\(Xf D m v x k).natAbs<=MX:=by
 have h1:0<=Xf D m v x k:=Qju (f:=Jx D m v x k) (fun w=>by unfold Jx; split; exact Qo2 V; exact Int.le_refl _) _ _ _
 have h2:=Qy3 V (m:=1024) (E:=fun _=>-1) V.worlds (Qnw (m:=m) (v:=v) (x:=x) (k:=k) V)
 unfold BD KK at h2
 have h2:-((1024:Nat):Int)*167961600000000<=Xf D m v x k/\Xf D m v x k<=((1024:Nat):Int)*167961600000000:=by
  have:Xf D m v x k=SW D (fun _=>-1) (Jx D m v x k):=rfl
  rw [this]; omega
 refine ⟨h1,?_⟩
 unfold MX; omega
theorem Qwp (V:VN D) {v x k:Nat} (hm:m < 2^D.n) (hv:v < D.n) (hk:k < Qh D.n (cS D m)):Qug D (Zm D m D.n k) (Zs (fun _=>-1) v (x:Int))=Xf D m v x k:=by
 have e:Xf D m v x k=SW D (fun _=>-1) (Jx D m v x k):=rfl
 unfold Qug
 rw [e,Qon hm,Qxj V (Qry V),Qxj V (Qrw V hv)]
 refine Yu fun W _=>?_
 simp only [Qt6 (Q1y V),Qvh V (Qw8 V W) hk]
 have h1:Y0 D.n (fun _=>-1) 0 (dig D W):=fun j _ _=>.inl rfl
 rw [aH h1]
 unfold Jx
 by_cases c:dig D W v=x
 ·have h2:Y0 D.n (Zs (fun _=>-1) v (x:Int)) 0 (dig D W):=fun j _ hj=>by
   unfold okE Zs
   by_cases e:j=v
   ·subst e; rw [aH rfl]; exact .inr (by rw [c])
   rw [aI e]; exact .inl rfl
  simp [h2,c]
 have h2:¬ Y0 D.n (Zs (fun _=>-1) v (x:Int)) 0 (dig D W):=fun h=>c (by
  have:=h v (dT _) hv
  unfold okE Zs at this
  rw [aH rfl] at this
  omega)
 simp [h2,c]
def argF (A:Nat -> Int):Nat -> Nat
 | 0=>0
 | n+1=>if A n > A (argF A n) then n else argF A n
theorem Qks {A:Nat -> Int}:∀{n:Nat},1<=n->argF A n < n
 | 1,_=>by unfold argF; split <;> (try unfold argF) <;> omega
 | n+2,_=>by
  have:=Qks (A:=A) (n:=n+1) (by omega)
  unfold argF
  split <;> omega
theorem Qll {A:Nat -> Int}:∀{n k:Nat},k < n->A k<=A (argF A n)
 | n+1,k,h=>by
  unfold argF
  by_cases e:k=n
  ·subst e; split <;> omega
  have:=Qll (A:=A) (n:=n) (k:=k) (by omega)
  split <;> omega
theorem Qm4 {A:Nat -> Int}:∀{n k:Nat},k < argF A n->argF A n<=n->A k < A (argF A n)
 | 0,k,h,_=>by unfold argF at h; omega
 | n+1,k,h,hn=>by
  unfold argF at h ⊢
  split
  ·rename_i c
   rw [aH c] at h
   have:=Qll (A:=A) (n:=n) h
   omega
  rename_i c
  rw [aI c] at h
  cases n with
  | zero=>unfold argF at h; omega
  | succ n=>exact Qm4 h (Nat.le_of_lt (Qks (by omega)))
theorem Qx7 {N:Nat} {A:Nat -> Int} {l:List Int} (hN:1<=N) (hN2:N<=1024):Qb fuel (Ji (Qd N A,l)) (0,0)=some (argF A N:Int):=by
 have hr:=Qa3 (n:=N) (k0:=0) (by omega) (by omega) (fun i (t:Int)=>(t,i)) (body:=Ji (Qd N A,l)) (fun k=>(argF A k:Int)) (argF A N:Int)
  (fun k _ hk=>by
   have hb:argF A k < N:=by
    rcases dR k with e | e
    ·subst e; unfold argF; omega
    have:=Qks (A:=A) e; omega
   unfold Ji
   simp only
   rw [aH (by rw [Q2]; exact dlt hk),show lkI (Qd N A) (k:Int)=some (A k) from Q3 hk,aC,show lkI (Qd N A) (argF A k:Int)=some (A (argF A k)) from Q3 hb,aC]
   by_cases c:A k > A (argF A k)
   ·rw [aH (by simpa using c),show argF A (k+1)=k from aH c]
   rw [aI (by simpa using c),show argF A (k+1)=argF A k from aI c])
  (by unfold Ji; simp only; rw [Q2,aI (nlt _)])
 exact hr
theorem Qw0 (V:VN D) {k:Nat} (hm:m < 18446744073709551616) (hk:k < 1024):Qbs D.net (m:Int) (k:Int)=some (Qd D.n (Zm D m D.n k)):=by
 have hlen:D.net.Nodes.length=D.n:=Q2
 have hn8:=V.n8
 have hn1:=V.n1
 unfold Qbs
 rw [hlen,aH (by omega),aP,cC]
 have hs:=K5 (body:=J0 (m:Int) D.net) (fun s=>∃(i r:Nat),i<=D.n/\r < 1024/\(∀j,j < i->pd (cS D m) D.n k j=pd (cS D m) i r j)/\s=((r:Int),(i:Int) - 1,Qd D.n fun j=>if j < i then 0 else Zm D m D.n k j))
  (fun s=>(s.2.1+1).toNat) (fun r=>r=Qd D.n (Zm D m D.n k))
  (fun s hs=>by
   obtain ⟨i,r,hi,hr,hp,rfl⟩:=hs
   cases i with
   | zero =>
    right
    unfold J0
    simp only
    rw [aI (by simp)]
    exact ⟨_,rfl,Qp fun j _=>by rw [aI (by omega)]⟩
   | succ i =>
    left
    have hc:=V.card i (by omega)
    have hgl:lkI (Qd D.n fun j=>if j < i+1 then 0 else Zm D m D.n k j) (i:Int)=some _:=Q3 (by omega)
    have hset:∀y,y=Zm D m D.n k i->(Qd D.n fun j=>if j < i+1 then 0 else Zm D m D.n k j).set i y=Qd D.n fun j=>if j < i then 0 else Zm D m D.n k j:=fun y hy=>by
     rw [Xz]
     refine Qp fun j _=>?_
     by_cases e:j=i
     ·subst e; rw [aH rfl,aI (by omega),hy]
     rw [aI e]
     by_cases e2:j < i
     ·rw [aH (by omega),aH e2]
     rw [aI (by omega),aI e2]
    have hpi:=hp i (by omega)
    have hpd:pd (cS D m) (i+1) r i=r % cS D m i:=by unfold pd; rw [aH rfl]
    have hpj:∀j,j < i->pd (cS D m) (i+1) r j=pd (cS D m) i (r / cS D m i) j:=fun j hj=>by
     show (if j=i then _ else _)=_
     rw [aI (by omega)]
    have hcs:cS D m i=1\/(m.testBit i=true/\cS D m i=D.card i):=by
     unfold cS; split
     ·rename_i c; exact .inr ⟨c,rfl⟩
     exact .inl rfl
    unfold J0
    simp only
    rw [show ((i+1:Nat):Int) - 1=(i:Int) by omega,aH (by simp),aH (by omega),Qnk hm (by omega)]
    by_cases c:m.testBit i=true
    ·have hci:cS D m i=D.card i:=aH c
     rw [aI (by simp [c]),V.node (by omega),aC,show (D.node i).Card=(D.card i:Int) from rfl,aH (by omega),hgl,aC,aH (by omega),aP]
     have ed:zw (Int.tdiv (r:Int) (D.card i:Int))=((r / D.card i:Nat):Int):=by
      rw [Qh2 (by omega),<-Int.natCast_ediv]
      have:=Nat.div_le_self r (D.card i)
      generalize r / D.card i=z at *
      rw [w64 (by omega)]
     have em:Int.tmod (r:Int) (D.card i:Int)=((r % D.card i:Nat):Int):=by rw [Vu (by omega),<-Int.natCast_emod]
     rw [ed,em,w64 (n:=(i:Int) - 1) (by omega),hset _ (by unfold Zm; rw [aH c,hpi,hpd,hci])]
     exact ⟨_,rfl,⟨i,r / D.card i,by omega,by have:=Nat.div_le_self r (D.card i); omega,fun j hj=>by rw [hp j (by omega),hpj j hj,hci],rfl⟩,by simp⟩
    have hci:cS D m i=1:=aI c
    rw [aH (by simpa using c),hgl,aC,aP,w64 (n:=(i:Int) - 1) (by omega),hset _ (by unfold Zm; rw [aI c])]
    exact ⟨_,rfl,⟨i,r,by omega,hr,fun j hj=>by rw [hp j (by omega),hpj j hj,hci,Nat.div_one],rfl⟩,by simp⟩)
  fuel ((k:Int),(D.n:Int) - 1,Qd D.n fun j=>if j < D.n then 0 else Zm D m D.n k j) ⟨D.n,k,aY _,hk,fun _ _=>rfl,rfl⟩ (by unfold fuel; simp; omega)
 obtain ⟨r,h1,rfl⟩:=hs
 have e0:List.replicate D.n (0:Int)=Qd D.n fun j=>if j < D.n then 0 else Zm D m D.n k j:=by
  rw [Qe4]; exact Qp fun j hj=>by rw [aH hj]
 rw [w64 (by omega),e0]
 exact Vy h1 rfl
def Qbm (D:NF) (m v x:Nat):Nat := argF (Xf D m v x) (Qh D.n (cS D m))
theorem Qqw (V:VN D) {v x:Nat}:Qbm D m v x < Qh D.n (cS D m):=Qks (Qk8 V (aY _))
theorem Qz4 (X:VX D) {v x:Nat} (hm:m < 2^D.n) (hv:v < D.n) (hx:x < D.card v) :
  Kl D.net (m:Int) (v:Int) (x:Int)=some (Qd D.n (Zm D m D.n (Qbm D m v x)),qI (Xf D m v x (Qbm D m v x)) (D.wh m D.n:Int),0):=by
 have V:=X.vn
 have hn8:=V.n8
 have hlen:D.net.Nodes.length=D.n:=Q2
 have hm64:m < 18446744073709551616:=bK hm (bT (aT (by omega) hn8) (by decide))
 have hN:=Qkx V (m:=m) (aY D.n)
 have hN1:=Qk8 V (m:=m) (aY D.n)
 obtain ⟨w',hr⟩:=Qyl V (x:=x) hm64 hv
 have hk:=Qqw V (m:=m) (v:=v) (x:=x)
 obtain ⟨h3,h4⟩:=Qrs V (m:=m)
 have hc:=Qxk X [] (by simp) (by simp)
 have hsh:Int.fdiv (m:Int) (2^min (Int.toNat (D.n:Int)) zk)=0:=by
  rw [aP,show min D.n zk=D.n from Nat.min_eq_left (by simp [IntKind.bits]; omega),Qre,Nat.div_eq_of_lt hm]; rfl
 unfold Kl
 rw [show ([]:List (List Int))=[].map (Qd D.n) from rfl,hc,aC,aI (by decide),hlen,aH (by omega),hsh,aI (by decide),aI (by simp),aI (by simp; omega),aI (by simp),V.node hv,aC,
  show (D.node v).Card=(D.card v:Int) from rfl,aI (by simp; omega),Qut V hm64,aC,aH (by omega),aH (by omega),Qk1,Qk1,hr,aC,Qx7 hN1 hN,aC]
 rw [show lkI (Qd (Qh D.n (cS D m)) (fun k=>Xf D m v x k)) (argF (fun k=>Xf D m v x k) (Qh D.n (cS D m)):Int)=some (Xf D m v x (Qbm D m v x)) from Q3 hk,aC,V.awhole hm64,aC,Qtl (Qjl V).2 h4 h3,aC]
 simp only
 rw [aI (by decide),show argF (fun k=>Xf D m v x k) (Qh D.n (cS D m))=Qbm D m v x from rfl,Qw0 V hm64 (by omega)]; rfl
end
end Go.Ab
namespace Go.Ab
open Go
open Classical
section
variable {D:NF} {m:Nat}
theorem Qq9 {a b c:Int} (h:0 < c):Qdb (a*c) (b*c)=Qdb a b:=by
 unfold Qdb
 by_cases h1:a < b
 ·rw [aH h1,aH (Int.mul_lt_mul_of_pos_right h1 h)]
 rw [aI h1,aI (Int.not_lt.2 (Int.mul_le_mul_of_nonneg_right (Int.not_lt.1 h1) (Int.le_of_lt h)))]
 by_cases h2:a=b
 ·rw [aH h2,aH (by rw [h2])]
 rw [aI h2,aI fun e=>h2 (Int.eq_of_mul_eq_mul_right (by omega) e)]
theorem Q12 {a b d:Int} (ha:a.natAbs<=MX) (hb:b.natAbs<=MX) (hd:d.natAbs<=MX) (h0:0 < d):Qdb ((qI a d).N*(qI b d).D) ((qI b d).N*(qI a d).D)=Qdb a b/\Rt (qI a d)/\Rt (qI b d):=by
 obtain ⟨r1,e1⟩:=Qtm ha hd (by omega)
 obtain ⟨r2,e2⟩:=Qtm hb hd (by omega)
 refine ⟨?_,r1,r2⟩
 have p1:0 < (qI a d).D:=by have:=r1.1; omega
 have p2:0 < (qI b d).D:=by have:=r2.1; omega
 rw [<-Qq9 (a:=(qI a d).N*(qI b d).D) h0]
 rw [show (qI a d).N*(qI b d).D*d=(qI a d).N*d*(qI b d).D by rw [Int.mul_assoc,Int.mul_comm (qI b d).D,<-Int.mul_assoc],e1,
  show (qI b d).N*(qI a d).D*d=(qI b d).N*d*(qI a d).D by rw [Int.mul_assoc,Int.mul_comm (qI a d).D,<-Int.mul_assoc],e2]
 rw [show a*(qI a d).D*(qI b d).D=a*((qI a d).D*(qI b d).D) by rw [Int.mul_assoc],show b*(qI b d).D*(qI a d).D=b*((qI a d).D*(qI b d).D) by rw [Int.mul_assoc,Int.mul_comm (qI b d).D]]
 exact Qq9 (Int.mul_pos p1 p2)
theorem Q0d {a b d:Int} (ha:a.natAbs<=MX) (hb:b.natAbs<=MX) (hd:d.natAbs<=MX) (h0:0 < d):Qdw (qI a d) (qI b d)=some (Qdb a b,0):=by
 obtain ⟨e,r1,r2⟩:=Q12 ha hb hd h0
 unfold Qdw
 rw [Qqk,aH r1,aC,aI (by decide),Qqk,aH r2,aC,aI (by decide)]
 unfold Jc
 have e1:(Ae.mk (qI a d).N (qI a d).D)=qI a d:=rfl
 have e2:(Ae.mk (qI b d).N (qI b d).D)=qI b d:=rfl
 rw [e1,e2,Q0g r1 r2,e]; rfl
theorem Q1k (V:VN D) {v x:Nat} (hv:v < D.n) (hx:x < D.card v):Qbv D (Zs (fun _=>-1) v (x:Int)):=fun j hj=>by
 unfold Zs
 have:=(V.card j hj).1
 split
 ·subst j; omega
 show -1<=(-1:Int)/\(-1:Int) < _; omega
end
end Go.Ab
namespace Go.Ab
open Go
open Classical
theorem Qs6 {c w w':Nat -> Nat}:∀{n i:Nat},(∀j,j < n->w j < c j)->(∀j,j < n->w' j < c j)->i < n->(∀j,j < i->w j=w' j)->num c w n<=num c w' n->w i<=w' i
 | n+1,i,h,h',hi,he,hl=>by
  have h1:=h n (by omega)
  have h2:=h' n (by omega)
  unfold num at hl
  have hle:num c w n<=num c w' n:=Nat.le_of_not_lt fun hgt=>by
   have:(num c w' n+1)*c n<=num c w n*c n:=aR _ hgt
   rw [dM] at this
   omega
  by_cases e:i=n
  ·subst e
   rw [Qcx he] at hl; omega
  exact Qs6 (fun j hj=>h j (by omega)) (fun j hj=>h' j (by omega)) (by omega) he hle
theorem Q2g {p n:Nat} (hp:p < 18446744073709551616) (hn:n < 63) :
  zv (zb (zv (p:Int)) &&& zb (zv ((zv (1*2^min (Int.toNat (n:Int)) zk)) - 1))).toNat = ((p % 2^n:Nat):Int):=by
 have h2:2^n < 2^63:=dZ (by omega) hn
 have h1:0 < 2^n:=Nat.two_pow_pos n
 have e0:min (Int.toNat (n:Int)) zk=n:=by rw [show zk=64 from rfl,aP]; omega
 have e1:(1:Int)*2^n=((2^n:Nat):Int):=by rw [Int.one_mul]; simp
 have e2:((2^n:Nat):Int) - 1=((2^n - 1:Nat):Int):=by omega
 rw [e0,e1,Xh (n:=2^n) (by omega),e2,Xh (n:=2^n - 1) (by omega),Xh hp]
 have e3:(zb (p:Int) &&& zb ((2^n - 1:Nat):Int)).toNat = p % 2^n:=by
  rw [BitVec.toNat_and,Qbp hp,Qbp (a:=2^n - 1) (by omega),Nat.and_two_pow_sub_one_eq_mod]
 rw [e3]
 exact Xh (Nat.lt_of_le_of_lt (Nat.mod_le _ _) hp)
section
variable {D:NF} {m:Nat}
def Ks (m:Nat) (S:Nat -> Int) (j:Nat):Int:=if m.testBit j=true then (if S j < 0 then 0 else S j) else -1
def Qhp (m:Nat) (S:Nat -> Int) (j:Nat):Nat := if m.testBit j=true then (S j).toNat else 0
theorem Qtj (V:VN D) {S:Nat -> Int} (hS:Qbv D S):∀j,j < D.n->Qhp m S j < cS D m j:=fun j hj=>by
 have h:=hS j hj
 have hc:=(V.card j hj).1
 unfold Qhp cS
 split <;> omega
theorem Qz0 (V:VN D) {S:Nat -> Int} (hS:Qbv D S):Qd D.n (Ks m S)=Qd D.n (Zm D m D.n (num (cS D m) (Qhp m S) D.n)):=Qp fun j hj=>by
 have h:=hS j hj
 have hp:=Qq2 (Qtj (m:=m) V hS) j hj
 unfold Ks Zm
 rw [hp]
 unfold Qhp
 split
 ·split <;> omega
 rfl
theorem Qzx (V:VN D) {S:Nat -> Int} (hS:Qbv D S) {p2:Int} {k:Nat} {x:Ae × Int}
  (hm:zv (zb (zv (p2)) &&& zb (zv ((zv (1*2^min (Int.toNat (D.n:Int)) zk)) - 1))).toNat = (m:Int)) (hm2:m < 18446744073709551616) :
  Qb fuel (Yh D.net p2 (Qd D.n (Zm D m D.n k),x)) (0,Qd D.n S,Qd D.n fun _=>0)=some (.inr (Qd D.n (Ks m S),Qd D.n fun _=>-1)):=by
 have hlen:D.net.Nodes.length=D.n:=Q2
 have hn8:=V.n8
 have hr:=Qa3 (n:=D.n) (k0:=0) (by omega) (by omega) (fun i (t:List Int × List Int)=>(i,t.1,t.2)) (body:=Yh D.net p2 (Qd D.n (Zm D m D.n k),x))
  (fun i=>(Qd D.n fun j=>if j < i then Ks m S j else S j,Qd D.n fun j=>if j < i then (-1:Int) else 0)) (.inr (Qd D.n (Ks m S),Qd D.n fun _=>-1))
  (fun i _ hi=>by
   have hg:lkI (Qd D.n fun j=>if j < i then Ks m S j else S j) (i:Int)=some (S i):=by rw [Q3 hi,aI (by omega)]
   have hw:lkI (Qd D.n fun j=>if j < i then (-1:Int) else 0) (i:Int)=some 0:=by rw [Q3 hi,aI (by omega)]
   have hset:∀y,y=Ks m S i->(Qd D.n fun j=>if j < i then Ks m S j else S j).set i y=Qd D.n fun j=>if j < i+1 then Ks m S j else S j:=fun y hy=>by
    rw [Xz]
    refine Qp fun j _=>?_
    by_cases e:j=i
    ·subst e; rw [aH rfl,aH (by omega),hy]
    rw [aI e]
    by_cases e2:j < i
    ·rw [aH e2,aH (by omega)]
    rw [aI e2,aI (by omega)]
   have hsame:S i=Ks m S i->Qd D.n (fun j=>if j < i then Ks m S j else S j)=Qd D.n fun j=>if j < i+1 then Ks m S j else S j:=fun hy=>by
    refine Qp fun j _=>?_
    by_cases e:j=i
    ·subst e; rw [aI (by omega),aH (by omega),hy]
    by_cases e2:j < i
    ·rw [aH e2,aH (by omega)]
    rw [aI e2,aI (by omega)]
   have hset2:(Qd D.n fun j=>if j < i then (-1:Int) else 0).set i (-1)=Qd D.n fun j=>if j < i+1 then (-1:Int) else 0:=by
    rw [Xz]
    refine Qp fun j _=>?_
    by_cases e:j=i
    ·subst e; rw [aH rfl,aH (by omega)]
    rw [aI e]
    by_cases e2:j < i
    ·rw [aH e2,aH (by omega)]
    rw [aI e2,aI (by omega)]
   have hl:lkI (Qd D.n (Zm D m D.n k)) (i:Int)=some (Zm D m D.n k i):=Q3 hi
   have hla:decide (Zm D m D.n k i>=0)=m.testBit i:=by
    unfold Zm
    by_cases c:m.testBit i=true
    ·rw [aH c,c]; simp
    rw [aI c]; simp at c; rw [c]; decide
   unfold Yh
   simp only
   rw [hlen,Qk1,Kd,aH (dlt hi),hw,aC,aH (by omega),hm,Qnk hm2 (by omega),Qkv hm2 (by omega),hg,hl]
   by_cases c:m.testBit i=true
   ·rw [aI (by simp [c]),aC]
    by_cases c2:S i < 0
    ·rw [aH (by simpa using c2),aC,aH (by omega),hla,aI (by simp),aP,hset _ (by unfold Ks; rw [aH c,aH c2]),hset2]
    rw [aI (by simpa using c2),aC,aH (by omega),hla,aI (by simp),aP,hsame (by unfold Ks; rw [aH c,aI c2]),hset2]
   rw [aH (by simpa using c),aC,aC,aH (by omega),hla,aI (by simp),aP,hset _ (by unfold Ks; rw [aI c]),hset2])
  (by
   unfold Yh
   simp only
   rw [hlen,Qk1,Kd,aI (nlt _)]
   refine congrArg (fun z=>some (Qi.done (Sum.inr z))) ?_
   exact Prod.ext (Qp fun j hj=>by simp [hj]) (Qp fun j hj=>by simp [hj]))
 have e0:(Qd D.n S)=Qd D.n fun j=>if j < 0 then Ks m S j else S j:=Qp fun j _=>by rw [aI (by omega)]
 have e1:(Qd D.n fun _=>(0:Int))=Qd D.n fun j=>if j < 0 then (-1:Int) else 0:=Qp fun j _=>by rw [aI (by omega)]
 rw [e0,e1]
 exact hr
theorem Qzq (V:VN D) {k k':Nat} (hk:k < Qh D.n (cS D m)) (hk':k' < Qh D.n (cS D m)) (hle:k<=k') {x:Ae × Int} {y:List Int} :
  ∃r,Qb fuel (Vh (Qd D.n (Zm D m D.n k),x) (Qd D.n (Zm D m D.n k'),y)) 0=some r/\(r=.inl true\/r=.inr ()):=by
 have hn8:=V.n8
 exact K5 (body:=Vh (Qd D.n (Zm D m D.n k),x) (Qd D.n (Zm D m D.n k'),y)) (fun s=>∃i:Nat,i<=D.n/\(∀j,j < i->pd (cS D m) D.n k j=pd (cS D m) D.n k' j\/m.testBit j=false)/\s=(i:Int))
  (fun s=>D.n - s.toNat) (fun r=>r=.inl true\/r=.inr ())
  (fun s hs=>by
   obtain ⟨i,hi,hp,rfl⟩:=hs
   unfold Vh
   simp only
   rw [Q2]
   rcases aZ i D.n with h | h
   ·rw [aH (dlt h),show lkI (Qd D.n (Zm D m D.n k)) (i:Int)=some (Zm D m D.n k i) from Q3 h,aC,show lkI (Qd D.n (Zm D m D.n k')) (i:Int)=some (Zm D m D.n k' i) from Q3 h,aC]
    by_cases c:Zm D m D.n k i=Zm D m D.n k' i
    ·left
     rw [aI (by simp [c])]
     refine ⟨_,rfl,⟨i+1,by omega,fun j hj=>?_,?_⟩,?_⟩
     ·by_cases e:j=i
      ·subst e
       unfold Zm at c
       by_cases cb:m.testBit j=true
       ·rw [aH cb,aH cb] at c; left; omega
       simp at cb; exact .inr cb
      exact hp j (by omega)
     ·rw [w64 (by omega)]; omega
     rw [w64 (by omega)]; omega
    right
    rw [aH (by simpa using c)]
    refine ⟨_,rfl,.inl ?_⟩
    congr 1
    rw [aN]
    have cb:m.testBit i=true:=by
     cases hb:m.testBit i with
     | true=>rfl
     | false=>exfalso; apply c; unfold Zm; rw [aI (by simp [hb]),aI (by simp [hb])]
    have hz:∀(q j:Nat),j < D.n->m.testBit j=false->pd (cS D m) D.n q j=0:=fun q j hj hb=>by
     have:=Qkz (c:=cS D m) (n:=D.n) (k:=q) (Qer V) j hj
     unfold cS at this
     rw [aI (by simp [hb])] at this
     unfold cS; omega
    have hx:=Qs6 (c:=cS D m) (w:=pd (cS D m) D.n k) (w':=pd (cS D m) D.n k') (n:=D.n) (i:=i) (Qkz (Qer V)) (Qkz (Qer V)) h
     (fun j hj=>by
      rcases hp j hj with h1 | h1
      ·exact h1
      rw [hz k j (by omega) h1,hz k' j (by omega) h1])
     (by rw [Qmt hk,Qmt hk']; exact hle)
    unfold Zm at c ⊢
    rw [aH cb,aH cb] at c ⊢
    omega
   right
   have:i=D.n:=by omega
   subst this
   rw [aI (nlt _)]
   exact ⟨_,rfl,.inr rfl⟩)
  fuel 0 ⟨0,by omega,fun j hj=>by omega,rfl⟩ (by unfold fuel; simp; omega)
end
theorem act_best_true (p0:Qe) (p1:Qv) (p2 p3 p4:Int) (h0:Vx p0) (h1:Vt p1) (h2:(Lit.int .u8 p2).wf=true) (h3:(Lit.int .u8 p3).wf=true) (h4:(Lit.int .u8 p4).wf=true) :
  Qbg p0 p1 p2 p3 p4=some true:=by
 obtain ⟨D,X0,hn,hcd,e1⟩:=Qxb (Qz9 h0)
 have X:DX D:=⟨X0,hn,hcd⟩
 have V:=X.vn
 have hn8:=V.n8
 have hn1:=V.n1
 have hlen:D.net.Nodes.length=D.n:=Q2
 obtain ⟨S,hS,eS⟩:=Qxo X h1
 obtain ⟨p,hp,rfl⟩:∃p:Nat,p<=255/\p2=p:=⟨p2.toNat,by have:=Qpw h2; omega,by have:=Qpw h2; omega⟩
 obtain ⟨v,hv⟩:∃v:Nat,v=p3.toNat % D.n:=⟨_,rfl⟩
 have hvn:v < D.n:=by rw [hv]; exact cD _ (by omega)
 have ev:Int.tmod (zw p3) (D.n:Int)=(v:Int):=by
  have:=Qpw h3
  rw [w64 (by omega),Vu (by omega),hv,Int.natCast_emod,Int.toNat_of_nonneg (by omega)]
 have hcv:=V.card v hvn
 obtain ⟨x,hx⟩:∃x:Nat,x=p4.toNat % D.card v:=⟨_,rfl⟩
 have hxn:x < D.card v:=by rw [hx]; exact cD _ (by omega)
 have ex:Int.tmod (zw p4) (D.card v:Int)=(x:Int):=by
  have:=Qpw h4
  rw [w64 (by omega),Vu (by omega),hx,Int.natCast_emod,Int.toNat_of_nonneg (by omega)]
 obtain ⟨m,hm⟩:∃m,m=p % 2^D.n:=⟨_,rfl⟩
 have hm2:m < 2^D.n:=by rw [hm]; exact cD _ (Nat.two_pow_pos _)
 have hm64:m < 18446744073709551616:=bK hm2 (bT (aT (by omega) hn8) (by decide))
 have em:=Q2g (p:=p) (n:=D.n) (by omega) (by omega)
 rw [<-hm] at em
 have hk:=Qqw V (m:=m) (v:=v) (x:=x)
 have hk':num (cS D m) (Qhp m S) D.n < Qh D.n (cS D m):=Qmq (Qtj V hS)
 obtain ⟨h5,h6⟩:=Qrs V (m:=m)
 have h5':0 < ((D.wh m D.n:Nat):Int):=by omega
 have hmax:Xf D m v x (num (cS D m) (Qhp m S) D.n)<=Xf D m v x (Qbm D m v x):=Qll hk'
 have ch:∀k,k < Qh D.n (cS D m)->Ye D.net (Qd D.n (Zm D m D.n k)) (Qd D.n (Zs (fun _=>-1) v (x:Int)))=some (qI (Xf D m v x k) (D.wh m D.n:Int),0):=fun k hk=>by
  rw [Qv9 X.toVX (Qz3 V) (Q1k V hvn hxn),Qwp V hm2 hvn hk,Qon hm2]
 unfold Qbg
 rw [Qtv,aC,aI (by decide),e1,aC,hlen,aH (by omega),aH (by omega),ev,V.node hvn,aC,show (D.node v).Card=(D.card v:Int) from rfl,aH (by omega),ex,em,
  Qz4 X.toVX hm2 hvn hxn,aC]
 rw [aI (by simp),aI (by simp [Q2]),show (Qv.mk p1.Which (p1.V.1,p1.V.2.1,p1.V.2.2.1,p1.V.2.2.2.1,p1.V.2.2.2.2.1,p1.V.2.2.2.2.2.1,p1.V.2.2.2.2.2.2.1,p1.V.2.2.2.2.2.2.2))=p1 from rfl,eS,aC,
  aH (by omega),Qk1]
 refine Vy (Qzx V hS em hm64) ?_
 dsimp only
 rw [show lkI (Qd D.n fun _=>(-1:Int)) (v:Int)=some (-1) from Q3 hvn,aC,aC,aP,Qxs,Qz0 V hS,ch _ hk,aC,ch _ hk',aC,aI (by simp),aI (by simp),aI (by simp),
  Q0d (Qjl V).2 (Qjl V).2 h6 h5',aC,aI (by simp)]
 by_cases c:Xf D m v x (num (cS D m) (Qhp m S) D.n) < Xf D m v x (Qbm D m v x)
 ·rw [aI (by rw [aN]; unfold Qdb; rw [aH c]; decide),aH (by rw [aN]; unfold Qdb; rw [aH c]; decide)]
 ·have ce:Xf D m v x (num (cS D m) (Qhp m S) D.n)=Xf D m v x (Qbm D m v x):=by omega
  have hle:Qbm D m v x<=num (cS D m) (Qhp m S) D.n:=Nat.le_of_not_lt fun h=>by
   have:=Qm4 (A:=Xf D m v x) (n:=Qh D.n (cS D m)) h (Nat.le_of_lt hk)
   have e:argF (Xf D m v x) (Qh D.n (cS D m))=Qbm D m v x:=rfl
   rw [e] at this
   omega
  rw [aI (by rw [aN]; unfold Qdb; rw [aI c,aH ce]; decide),aI (by rw [aN]; unfold Qdb; rw [aI c,aH ce]; decide)]
  obtain ⟨r,hr,hr2⟩:=Qzq V hk hk' hle (x:=(qI (Xf D m v x (Qbm D m v x)) (D.wh m D.n:Int),0)) (y:=Qd D.n fun _=>-1)
  refine Vy hr ?_
  rcases hr2 with rfl | rfl <;> rfl
end Go.Ab
namespace Go.Ab
open Go Go.Proofs Go.Proofs.YtgogkahhifkocaaDoor
open Go.ChangeShapes Go.WideShapes Go.ChangeAt Go.RowKit
abbrev dr_laid:List (String × DataW Unit):=[("math/bits.deBruijn32tab",Rows.laid_math_bits_deBruijn32tab),("math/bits.deBruijn64tab",Rows.laid_math_bits_deBruijn64tab)]
theorem dr_own:ownKnob Tryd.prog.godebug=none:=by kernel_rfl
theorem Qy8:Tryd.prog.globalNamed "math/bits.deBruijn32tab" = some 0:=by kernel_rfl
theorem Qy7:Tryd.prog.globalNamed "math/bits.deBruijn64tab" = some 1:=by kernel_rfl
theorem dr_met (os:Os) (args:Array Value):laidMetH Tryd.prog dr_laid ((World.doorLaid Tryd.prog 19 os).forCall (fun _ _=>0) ⟨#[],args,[]⟩).memory :=
 laidMetH_of_parts3 (fuel:=8) (laidMet_of_run' 8 (by kernel_rfl) (by kernel_rfl)) (by kernel_rfl) (by kernel_rfl)
theorem dr_glob {W:World} (h:laidMetH Tryd.prog dr_laid W):Go.Ab.GlobIn W:=by
 rw [MakeChecks.laidMetH_plain _ _ _ (by kernel_rfl)] at h
 have h0:=Lib.tabIs_of_head (k:=.u8) (zs:=Go.Ab.tab0) (t:=251) (e:=5) (n:=32) Qy8 (by kernel_rfl) (by kernel_rfl) (by kernel_rfl) (by kernel_rfl) (by kernel_rfl) h
 have h1:=Lib.tabIs_of_head (k:=.u8) (zs:=Go.Ab.tab1) (t:=252) (e:=5) (n:=64) Qy7 (by kernel_rfl) (by kernel_rfl) (by kernel_rfl) (by kernel_rfl) (by kernel_rfl) h.tail
 intro g xs hg i v hv
 match g,hg with
 | 0,hg =>
  cases hg
  have hi:i < Go.Ab.tab0.length:=by have:=(aD.1 hv).1; simpa using this
  have:=h0.cell Qy8 i hi
  rw [this]
  rw [bC] at hv
  simpa [List.getD,hi] using hv
 | 1,hg =>
  cases hg
  have hi:i < Go.Ab.tab1.length:=by have:=(aD.1 hv).1; simpa using this
  have:=h1.cell Qy7 i hi
  rw [this]
  rw [bC] at hv
  simpa [List.getD,hi] using hv
 | n+2,hg=>cases hg
end Go.Ab
