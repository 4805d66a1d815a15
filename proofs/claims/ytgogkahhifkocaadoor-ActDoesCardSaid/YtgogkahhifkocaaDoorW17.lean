/- Functions. No conditions. -/
import Derived.Test.YtgogkahhifkocaaDoorW16
import Derived.Test.YtgogkahhifkocaaDoorRows
import Derived.Test.YtgogkahhifkocaaDoorEng7
import Derived.WalkKit
import Derived.ProofKit
import Derived.LaidMore
import Derived.Lib.LaidTab
import Derived.Stop.LaidErr
import Derived.Stop.Joined
import Derived.OpenShut
set_option maxRecDepth 100000
set_option maxHeartbeats 400000
set_option linter.all false
namespace Go.Ab
open Go
def Zv (S E:Nat -> Int):Nat -> Int:=fun j=>if S j=-1 then E j else if E j=-1\/E j=S j then S j else 100
theorem Qfw {S E:Nat -> Int} {j x:Nat} (hx:x < 100):okE (Zv S E) j x↔okE S j x/\okE E j x:=by
 unfold okE Zv
 by_cases h1:S j=-1
 ·simp [h1]
 by_cases h2:E j=-1\/E j=S j
 ·rw [aI h1,aH h2]; omega
 rw [aI h1,aI h2]; omega
def NF.fr (D:NF) (m:Nat) (w:Nat -> Nat):Nat -> Nat := fun k=>prodTo k fun v=>if m.testBit v=true then 1 else D.wt w v
def NF.wh (D:NF) (m:Nat):Nat -> Nat := fun k=>prodTo k fun v=>if m.testBit v=true then 1 else D.g
def fS (D:NF) (m:Nat) (w:Nat -> Nat):Int:=(D.fr m w D.n:Int)
def actS (n:Nat) (S:Nat -> Int):Nat := msk n fun j=>decide (0<=S j)
theorem Q4b {n:Nat} {S:Nat -> Int} {j:Nat}:(actS n S).testBit j=(decide (j < n) && decide (0<=S j)):=Qti _ _ _
theorem Q71 {n:Nat} {p:Nat -> Bool}:msk n p < 2^n:=Nat.lt_pow_two_of_testBit _ fun j hj=>by rw [Qti]; simp; omega
theorem Qtj {n:Nat} {S:Nat -> Int} (hn:n<=8):actS n S < 18446744073709551616:=bM Q71 (bV (aT (by omega) hn) (by decide))
theorem Q7o {a k:Nat} (ha:a < 18446744073709551616) (hk:k < 64) :
  ((zv (zb (Int.fdiv (a:Int) (2^min (Int.toNat (k:Int)) zk)) &&& zb 1).toNat)==1)=a.testBit k:=by
 rw [Qsl ha hk]; cases a.testBit k <;> rfl
theorem Q6f {a k:Nat} (ha:a < 18446744073709551616) (hk:k < 64) :
  ((zv (zb (Int.fdiv (a:Int) (2^min (Int.toNat (k:Int)) zk)) &&& zb 1).toNat)==0)=!a.testBit k:=by
 rw [Qsl ha hk]; cases a.testBit k <;> rfl
section
variable {D:NF} {w:Nat -> Nat} {m:Nat}
theorem Qxm {n:Nat} (hn:n<=8) {S:Nat -> Int}:Qbg (rowG n S)=some (actS n S:Int):=by
 have hr:=Zs (n:=n) (k0:=0) (by omega) (by omega) (fun i (t:Int)=>(t,i)) (body:=Qcm (rowG n S)) (fun k=>(actS k S:Int)) (actS n S:Int)
  (fun k _ hk=>by
   unfold Qcm
   rw [aH (by rw [Qo]; exact dlt hk),show lkI (rowG n S) (k:Int)=some (S k) from Qt hk,aC]
   by_cases c:0<=S k
   ·rw [aH (by simpa using c),aH (by omega)]
    simp only
    rw [Qpo (Qtj (by omega)) (by omega),show actS (k+1) S=actS k S ||| 2^k by show msk k _ ||| _=_; rw [aH (by simpa using c)]; rfl]
   rw [aI (by simpa using c),show actS (k+1) S=actS k S by show msk k _ ||| _=_; rw [aI (by simpa using c)]; simp [actS]])
  (by unfold Qcm; rw [aI (by rw [Qo]; exact nlt n)])
 unfold Qbg
 rw [show ((0:Int),(0:Int))=(((actS 0 S:Nat):Int),((0:Nat):Int)) from rfl,hr]; rfl
variable (V:VN D)
include V
theorem VN.aweigh0 (hw:D.ok w) {v:Nat} (hv:v < D.n):Qb fuel (Qck (D.node v) D.net (Qn D.n w)) (0,0)=some (D.idx v w:Int):=by
 have hl:(D.node v).Parents.length=(D.par v).length:=by simp [NF.node]
 refine Zk (fun k=>((horner D.card w ((D.par v).take k):Int),(k:Int))) (D.par v).length _ rfl (fun k hk=>?_) ?_ (by have:=V.len v hv; omega)
 ·have hlen:=V.len v hv
  have hp:=V.par v hv (D.par v)[k] (bJ hk)
  have hpar:lkI (D.node v).Parents (k:Int)=some (((D.par v)[k]:Nat):Int):=by rw [Qm (by rw [hl]; exact hk)]; simp [NF.node]
  have h1:horner D.card w ((D.par v).take k) < lprod D.card ((D.par v).take k):=Quo fun p hp=>hw p (V.par v hv p (bH hp))
  have h2:lprod D.card ((D.par v).take k)<=4^8:=bV (Qf4 fun p hp=>(V.card p (V.par v hv p (bH hp))).2) (aT (by omega) (by rw [cQ]; omega))
  have h3:horner D.card w ((D.par v).take (k+1))=horner D.card w ((D.par v).take k)*D.card (D.par v)[k]+w (D.par v)[k]:=by rw [Xf hk,Qu0]
  have hc:=(V.card _ hp).2
  have hww:=hw _ hp
  have h4:horner D.card w ((D.par v).take k)*D.card (D.par v)[k]<=65536*4:=Nat.mul_le_mul (by omega) hc
  unfold Qck
  simp only
  rw [aH (by rw [hl]; simpa using hk),hpar]
  simp only [aC]
  rw [V.node hp]
  simp only [aC]
  rw [Z9 hp]
  simp only [aC]
  have e1:((horner D.card w ((D.par v).take k):Nat):Int)*(D.node (D.par v)[k]).Card=((horner D.card w ((D.par v).take k)*D.card (D.par v)[k]:Nat):Int):=by simp [NF.node]
  have w1:zw ((horner D.card w ((D.par v).take k)*D.card (D.par v)[k]:Nat):Int)=((horner D.card w ((D.par v).take k)*D.card (D.par v)[k]:Nat):Int):=w64 (by omega)
  rw [e1,w1,w64 (by omega),w64 (by omega),h3]
  simp
 unfold Qck
 simp only
 rw [aI (by rw [hl]; simp)]
 simp [NF.idx]
theorem VN.fr_le (hw:D.ok w) {k:Nat} (hk:k<=D.n):D.fr m w k<=167961600000000:=by
 have h1:D.fr m w k<=60^k:=Qam fun v hv=>by
  split
  ·omega
  exact V.wt_le hw (by omega)
 exact bV h1 (bV (aT (by omega) (bV hk V.n8)) (by decide))
theorem VN.wh_le {k:Nat} (hk:k<=D.n):D.wh m k<=167961600000000:=by
 have h1:D.wh m k<=60^k:=Qam fun v hv=>by
  split
  ·omega
  exact V.g60
 exact bV h1 (bV (aT (by omega) (bV hk V.n8)) (by decide))
theorem VN.wh_pos {k:Nat} (hk:k<=D.n):1<=D.wh m k:=Q01 fun v hv=>by
 split
 ·omega
 exact V.g1
theorem VN.aweigh (hm:m < 18446744073709551616) (hw:D.ok w):Qbi D.net (m:Int) (Qn D.n w)=some (fS D m w):=by
 have hlen:D.net.Nodes.length=D.n:=Qo
 have hn8:=V.n8
 have hr:=Zs (n:=D.n) (k0:=0) (by omega) (by omega) (fun i (t:Int)=>(t,i)) (body:=Qcn D.net (m:Int) (Qn D.n w)) (fun k=>(D.fr m w k:Int)) (D.fr m w D.n:Int)
  (fun k _ hk=>by
   have hb:=V.fr_le (m:=m) hw (k:=k) (by omega)
   have hwt:=V.wt_le hw hk
   have hi:=V.idx_lt hw hk
   have hmm:D.fr m w k*D.wt w k<=167961600000000*60:=Nat.mul_le_mul hb hwt
   unfold Qcn
   rw [aH (by rw [hlen]; exact dlt hk),V.node hk,aC,aH (by omega)]
   simp only
   rw [Q7o hm (by omega)]
   by_cases c:m.testBit k=true
   ·rw [aH c,show D.fr m w (k+1)=D.fr m w k by show D.fr m w k*(if m.testBit k=true then 1 else D.wt w k)=_; rw [aH c,Nat.mul_one]]
   rw [aI c,V.aweigh0 hw hk,aC,show lkI (D.node k).Rows (D.idx k w:Int)=some (rowG (D.card k) fun x=>(D.W k (D.idx k w) x:Int)) from Qt hi,aC,Z9 hk,aC,
    show lkI (rowG (D.card k) fun x=>(D.W k (D.idx k w) x:Int)) (w k:Int)=some (D.wt w k:Int) from Qt (hw k hk),aC,w64 (by rw [<-Int.natCast_mul]; omega),
    show D.fr m w (k+1)=D.fr m w k*D.wt w k by show D.fr m w k*(if m.testBit k=true then 1 else D.wt w k)=_; rw [aI c],Int.natCast_mul])
  (by unfold Qcn; rw [aI (by rw [hlen]; exact nlt _)])
 unfold Qbi
 rw [show ((1:Int),(0:Int))=(((D.fr m w 0:Nat):Int),((0:Nat):Int)) from rfl,hr]; rfl
theorem VN.awhole (hm:m < 18446744073709551616):Qc7 D.net (m:Int)=some (D.wh m D.n:Int):=by
 have hlen:D.net.Nodes.length=D.n:=Qo
 have hn8:=V.n8
 have hr:=Zs (n:=D.n) (k0:=0) (by omega) (by omega) (fun i (t:Int)=>(t,i)) (body:=Qct D.net (m:Int)) (fun k=>(D.wh m k:Int)) (D.wh m D.n:Int)
  (fun k _ hk=>by
   have hb:=V.wh_le (m:=m) (k:=k) (by omega)
   have hg:=V.g60
   have hmm:D.wh m k*D.g<=167961600000000*60:=Nat.mul_le_mul hb hg
   unfold Qct
   rw [aH (by rw [hlen]; exact dlt hk),aH (by omega)]
   simp only
   rw [Q6f hm (by omega)]
   by_cases c:m.testBit k=true
   ·rw [aI (by simp [c]),show D.wh m (k+1)=D.wh m k by show D.wh m k*(if m.testBit k=true then 1 else D.g)=_; rw [aH c,Nat.mul_one]]
   rw [aH (by simpa using c),show D.net.Grain=(D.g:Int) from rfl,w64 (by rw [<-Int.natCast_mul]; omega),
    show D.wh m (k+1)=D.wh m k*D.g by show D.wh m k*(if m.testBit k=true then 1 else D.g)=_; rw [aI c],Int.natCast_mul])
  (by unfold Qct; rw [aI (by rw [hlen]; exact nlt _)])
 unfold Qc7
 rw [show ((1:Int),(0:Int))=(((D.wh m 0:Nat):Int),((0:Nat):Int)) from rfl,hr]; rfl
theorem Qjg:Ext D (fS D m):=fun w w' h=>by
 unfold fS NF.fr
 congr 1
 exact Qv1 fun v hv=>by rw [Q82 V h hv]
theorem Qh3:∀w,D.ok w->BD 1 (fS D m w):=fun w hw=>by
 have:=V.fr_le (m:=m) hw (aY _)
 unfold fS BD KK; omega
theorem Quf {w:Nat -> Nat}:0<=fS D m w:=by unfold fS; omega
end
def FWl {τ:Type} (D:NF) (K:Nat -> Nat -> Bool) (leaf:τ->(Nat -> Nat)->τ):Nat -> Nat -> (Nat -> Nat)->τ->τ
 | 0,_,w,t=>leaf t w
 | d+1,i,w,t=>(List.range (D.card i)).foldl (fun t x=>if K i x then FWl D K leaf d (i+1) (Xm w i x) t else t) t
def FXl {τ:Type} (D:NF) (K:Nat -> Nat -> Bool) (leaf:τ->(Nat -> Nat)->τ) (d i:Nat) (w:Nat -> Nat) (t:τ) (x:Nat):τ:=(List.range x).foldl (fun t x=>if K i x then FWl D K leaf d (i+1) (Xm w i x) t else t) t
theorem Ql8 {τ:Type} {D:NF} {K:Nat -> Nat -> Bool} {leaf:τ->(Nat -> Nat)->τ} {d i:Nat} {w:Nat -> Nat} {t:τ} {x:Nat} :
  FXl D K leaf d i w t (x+1)=if K i x then FWl D K leaf d (i+1) (Xm w i x) (FXl D K leaf d i w t x) else FXl D K leaf d i w t x:=by
 unfold FXl; rw [List.range_succ,List.foldl_append]; rfl
theorem Quw {τ:Type} {D:NF} {K:Nat -> Nat -> Bool} {leaf:τ->(Nat -> Nat)->τ} (hf:∀t w w',(∀j,j < D.n->w j=w' j)->leaf t w=leaf t w') :
  ∀(d i:Nat) (w w':Nat -> Nat) (t:τ),i+d=D.n->(∀j,j < i->w j=w' j)->FWl D K leaf d i w t=FWl D K leaf d i w' t
 | 0,i,w,w',t,hi,h=>hf t w w' fun j hj=>h j (by omega)
 | d+1,i,w,w',t,hi,h=>by
  unfold FWl
  have:∀(l:List Nat) (t:τ),l.foldl (fun t x=>if K i x then FWl D K leaf d (i+1) (Xm w i x) t else t) t=l.foldl (fun t x=>if K i x then FWl D K leaf d (i+1) (Xm w' i x) t else t) t:=fun l=>by
   induction l with
   | nil=>intro t; rfl
   | cons x l ih =>
    intro t
    simp only [List.foldl_cons]
    rw [ih]
    congr 1
    split
    ·exact Quw hf d (i+1) _ _ t (by omega) fun j hj=>by
      by_cases e:j=i
      ·subst e; rw [Xr,Xr]
      rw [Jm e,Jm e]; exact h j (by omega)
    rfl
  exact this _ t
theorem Qzh {τ:Type} {D:NF} {K:Nat -> Nat -> Bool} {leaf:τ->(Nat -> Nat)->τ} {I:Nat -> τ->Prop} (mono:∀m p t,I m t->m<=p->I p t) (hl:∀m t w,I m t->D.ok w->I (m+1) (leaf t w)) :
  ∀(d i:Nat) (w:Nat -> Nat) (t:τ) (m:Nat),i+d=D.n->D.ok w->I m t->I (m+PC D d i) (FWl D K leaf d i w t)
 | 0,i,w,t,m,hi,hw,h=>hl m t w h hw
 | d+1,i,w,t,m,hi,hw,h=>by
  have:∀x,x<=D.card i->I (m+x*PC D d (i+1)) (FXl D K leaf d i w t x):=fun x=>by
   induction x with
   | zero=>intro _; simpa [FXl] using h
   | succ x ih =>
    intro hx
    rw [Ql8,dQ,<-cH]
    split
    ·exact Qzh mono hl d (i+1) _ _ _ (by omega) (Qsv hw (by omega)) (ih (by omega))
    exact mono _ _ _ (ih (by omega)) (by omega)
  exact this _ (aY _)
theorem Qqr {τ σ ρ:Type} {D:NF} (V:VN D) {K:Nat -> Nat -> Bool} {leaf:τ->(Nat -> Nat)->τ} (hext:∀t w w',(∀j,j < D.n->w j=w' j)->leaf t w=leaf t w')
  {I:Nat -> τ->Prop} (mono:∀m p t,I m t->m<=p->I p t) (hl:∀m t w,I m t->D.ok w->I (m+1) (leaf t w))
  (mkS:Int->τ->List Int->σ) (mkT:τ->List Int->ρ) {F:(σ->Option ρ)->σ->Option ρ} {B:(σ->Option ρ)->Nat -> τ->(Nat -> Nat)->σ->Option (Qf σ ρ)}
  (hleaf:∀r m t w,D.ok w->I m t->m+1<=1024->F r (mkS (D.n:Int) t (Qn D.n w))=some (mkT (leaf t w) (Qn D.n w)))
  (hnode:∀r i t w z,i < D.n->D.ok w->Qb fuel (B r i t w) (mkS 0 t (Qn D.n w))=some z->F r (mkS (i:Int) t (Qn D.n w))=some z)
  (hyes:∀r i t0 w0 x t w z w',i < D.n->D.ok w->x < D.card i->K i x=true->r (mkS ((i+1:Nat):Int) t (Qn D.n (Xm w i x)))=some (mkT z (Qn D.n w'))->B r i t0 w0 (mkS (x:Int) t (Qn D.n w))=some (.next (mkS ((x+1:Nat):Int) z (Qn D.n w'))))
  (hno:∀r i t0 w0 x t w,i < D.n->D.ok w->x < D.card i->K i x=false->B r i t0 w0 (mkS (x:Int) t (Qn D.n w))=some (.next (mkS ((x+1:Nat):Int) t (Qn D.n w))))
  (hend:∀r i t0 w0 t w,i < D.n->D.ok w->B r i t0 w0 (mkS (D.card i:Int) t (Qn D.n w))=some (.done (mkT t (Qn D.n w)))) :
  ∀(d N:Nat),d < N->∀(i m:Nat) (w:Nat -> Nat) (t:τ),i+d=D.n->D.ok w->I m t->m+PC D d i<=1024 ->
   ∃w',D.ok w'/\(∀j,j < i->w' j=w j)/\Qfl F N (mkS (i:Int) t (Qn D.n w))=some (mkT (FWl D K leaf d i w t) (Qn D.n w'))
 | 0,N+1,_,i,m,w,t,hi,hw,hI,hm=>by
  have e:i=D.n:=by omega
  subst e
  refine ⟨w,hw,fun _ _=>rfl,?_⟩
  show F (Qfl F N) _=_
  exact hleaf _ m t w hw hI hm
 | d+1,N+1,hN,i,m,w,t,hi,hw,hI,hm=>by
  have hin:i < D.n:=by omega
  have hc:=V.card i hin
  have hPC:PC D (d+1) i=D.card i*PC D d (i+1):=rfl
  have key:∀x,x<=D.card i->I (m+x*PC D d (i+1)) (FXl D K leaf d i w t x):=fun x=>by
   induction x with
   | zero=>intro _; simpa [FXl] using hI
   | succ x ih =>
    intro hx
    rw [Ql8,dQ,<-cH]
    split
    ·exact Qzh mono hl d (i+1) _ _ _ (by omega) (Qsv hw (by omega)) (ih (by omega))
    exact mono _ _ _ (ih (by omega)) (by omega)
  have hloop:∀x w',x<=D.card i->D.ok w'->(∀j,j < i->w' j=w j)->∀k,D.card i - x < k ->
    ∃w2,D.ok w2/\(∀j,j < i->w2 j=w j)/\Qb k (B (Qfl F N) i t w) (mkS (x:Int) (FXl D K leaf d i w t x) (Qn D.n w'))=some (mkT (FXl D K leaf d i w t (D.card i)) (Qn D.n w2)):=by
   intro x w' hx hw' hag k
   induction hk:D.card i - x generalizing x w' k with
   | zero =>
    intro hk'
    obtain ⟨k,rfl⟩:∃k',k=k'+1:=⟨k - 1,by omega⟩
    have:x=D.card i:=by omega
    subst this
    refine ⟨w',hw',hag,?_⟩
    unfold Qb
    rw [hend _ i t w _ w' hin hw']
   | succ q ih =>
    intro hk'
    obtain ⟨k,rfl⟩:∃k',k=k'+1:=⟨k - 1,by omega⟩
    have hlt:x < D.card i:=by omega
    by_cases c:K i x=true
    ·have hxm:m+x*PC D d (i+1)+PC D d (i+1)<=1024:=by
      have:(x+1)*PC D d (i+1)<=D.card i*PC D d (i+1):=aR _ hlt
      rw [dQ] at this
      omega
     obtain ⟨w2,k1,k2,k3⟩:=Qqr V hext mono hl mkS mkT hleaf hnode hyes hno hend d N (by omega) (i+1) (m+x*PC D d (i+1)) (Xm w' i x) (FXl D K leaf d i w t x) (by omega) (Qsv hw' hlt) (key x (by omega)) hxm
     have e1:FXl D K leaf d i w t (x+1)=FWl D K leaf d (i+1) (Xm w' i x) (FXl D K leaf d i w t x):=by
      rw [Ql8,aH c]
      exact Quw hext d (i+1) _ _ _ (by omega) fun j hj=>by
       by_cases e:j=i
       ·subst e; rw [Xr,Xr]
       rw [Jm e,Jm e]; exact (hag j (by omega)).symm
     rw [<-e1] at k3
     obtain ⟨w3,j1,j2,j3⟩:=ih (x+1) w2 (by omega) k1 (fun j hj=>by rw [k2 j (by omega),Jm (by omega),hag j hj]) k (by omega) (by omega)
     refine ⟨w3,j1,j2,?_⟩
     unfold Qb
     rw [hyes _ i t w x _ w' _ w2 hin hw' hlt c k3]
     exact j3
    have c':K i x=false:=by simpa using c
    obtain ⟨w3,j1,j2,j3⟩:=ih (x+1) w' (by omega) hw' hag k (by omega) (by omega)
    refine ⟨w3,j1,j2,?_⟩
    unfold Qb
    rw [hno _ i t w x _ w' hin hw' hlt c']
    rw [Ql8,aI c] at j3
    exact j3
  obtain ⟨w2,k1,k2,k3⟩:=hloop 0 w (by omega) hw (fun _ _=>rfl) fuel (by unfold fuel; omega)
  refine ⟨w2,k1,k2,?_⟩
  show F (Qfl F N) _=_
  exact hnode _ i t w _ hin hw k3
end Go.Ab
namespace Go.Ab
open Go
theorem Qe3 {D:NF} {τ:Type} {p:τ->Int} {K:Nat -> Nat -> Bool} {g:Nat -> τ->τ} {h:Nat -> Int} {i:Nat} (hh:∀x t,K i x=true->p (g x t)=p t+h x) :
  ∀(n:Nat) (t:τ),p ((List.range n).foldl (fun t x=>if K i x then g x t else t) t)=p t+Qq n fun x=>if K i x=true then h x else 0
 | 0,t=>by simp [Qq]
 | n+1,t=>by
  rw [List.range_succ,List.foldl_append]
  simp only [List.foldl_cons,List.foldl_nil,Qq]
  split
  ·rename_i c; rw [hh _ _ c,Qe3 (D:=D) hh n t]; omega
  rw [Qe3 (D:=D) hh n t]; omega
def KE (E:Nat -> Int):Nat -> Nat -> Bool:=fun i x=>decide (okE E i x)
theorem Qmd {D:NF} {τ:Type} {E:Nat -> Int} {leaf:τ->(Nat -> Nat)->τ} {p:τ->Int} {f:(Nat -> Nat)->Int} (h:∀t w,p (leaf t w)=p t+f w) :
  ∀(d i:Nat) (w:Nat -> Nat) (t:τ),p (FWl D (KE E) leaf d i w t)=p t+TM D E f d i w
 | 0,i,w,t=>h t w
 | d+1,i,w,t=>by
  unfold FWl
  rw [Qe3 (D:=D) (p:=p) (h:=fun x=>TM D E f d (i+1) (Xm w i x)) (fun x t _=>Qmd h d (i+1) _ t)]
  congr 1
  refine V1 fun x _=>?_
  unfold KE
  by_cases c:okE E i x
  ·rw [aH (by simpa using c)]; exact (aH (show E i=-1\/E i=(x:Int) from c)).symm
  rw [aI (by simpa using c)]; exact (aI (show ¬ (E i=-1\/E i=(x:Int)) from c)).symm
theorem Qq9 {a b x:Int} {body:Int->Option (Qf Int (Unit ⊕ Unit))} (ha:-1<=a) (hb:-1<=b)
  (h0:body 0=if (decide (a>=0))=true then (if (a != x)=true then some (.done (Sum.inl ())) else some (.next 1)) else some (.next 1))
  (h1:body 1=if (decide (b>=0))=true then (if (b != x)=true then some (.done (Sum.inl ())) else some (.next 2)) else some (.next 2))
  (h2:body 2=some (.done (Sum.inr ()))):Qb fuel body 0=some (if (a=-1\/a=x)/\(b=-1\/b=x) then Sum.inr () else Sum.inl ()):=by
 have st:∀{y:Int} {o:Option (Qf Int (Unit ⊕ Unit))} {z:Int},-1<=y->o=(if (decide (y>=0))=true then (if (y != x)=true then some (.done (Sum.inl ())) else some (.next z)) else some (.next z)) ->
   ((y=-1\/y=x)->o=some (.next z))/\(¬ (y=-1\/y=x)->o=some (.done (Sum.inl ()))):=fun {y o z} hy h=>by
  constructor
  ·intro c
   rw [h]
   rcases c with c | c
   ·rw [aI (by simp; omega)]
   ·by_cases c2:0<=y
    ·rw [aH (by simpa using c2),aI (by simpa using c)]
    ·rw [aI (by simpa using c2)]
  ·intro c
   rw [h,aH (by simp; omega),aH (by simp; omega)]
 refine Qan (fun s=>s=0\/(s=1/\(a=-1\/a=x))\/(s=2/\(a=-1\/a=x)/\(b=-1\/b=x))) (fun s=>(3 - s).toNat) _ (fun s hs=>?_) 0 (.inl rfl) (by decide)
 rcases hs with rfl | ⟨rfl,c⟩ | ⟨rfl,c,c'⟩
 ·by_cases c:a=-1\/a=x
  ·exact .inl ⟨1,(st ha h0).1 c,.inr (.inl ⟨rfl,c⟩),by decide⟩
  ·exact .inr (by rw [(st ha h0).2 c,aI (fun h=>c h.1)])
 ·by_cases c':b=-1\/b=x
  ·exact .inl ⟨2,(st hb h1).1 c',.inr (.inr ⟨rfl,c,c'⟩),by decide⟩
  ·exact .inr (by rw [(st hb h1).2 c',aI (fun h=>c' h.2)])
 ·exact .inr (by rw [h2,aH ⟨c,c'⟩])
theorem Qoa {D:NF} {S E:Nat -> Int} (hS:Yz D S) (hE:Yz D E) {i x:Nat} (hi:i < D.n) (hx:x < 100) {s t:Int × Int × List Int} (hs:s.1=i) (ht:t.1=x) :
  Qb fuel (Qex (rowG D.n S) (rowG D.n E) s t) 0=some (if KE (Zv S E) i x=true then Sum.inr () else Sum.inl ()):=by
 have hl:∀F:Nat -> Int,lkI (rowG D.n F) s.1=some (F i):=fun F=>by rw [hs]; exact Qt hi
 rw [Qq9 (a:=S i) (b:=E i) (x:=t.1) (hS i hi).1 (hE i hi).1]
 ·congr 1
  rw [ht]
  by_cases c:okE (Zv S E) i x
  ·rw [aH (show (S i=-1\/S i=(x:Int))/\(E i=-1\/E i=(x:Int)) from (Qfw hx).1 c),aH (by unfold KE; simpa using c)]
  ·rw [aI (fun h:(S i=-1\/S i=(x:Int))/\(E i=-1\/E i=(x:Int))=>c ((Qfw hx).2 h)),aI (by unfold KE; simpa using c)]
 all_goals (unfold Qex; simp only [dE,List.length_nil])
 ·rw [aH (by simp),show lkI ([rowG D.n S,rowG D.n E]:List (List Int)) 0=some (rowG D.n S) from rfl,aC,hl,aC]; rfl
 ·rw [aH (by simp),show lkI ([rowG D.n S,rowG D.n E]:List (List Int)) 1=some (rowG D.n E) from rfl,aC,hl,aC]; rfl
 ·rfl
def Yg (D:NF) (S E:Nat -> Int):Int:=SW D (Zv S E) (fS D (actS D.n S))
theorem Q3z {D:NF}:PC D D.n 0=prodTo D.n D.card:=by have:=Qs8 (D:=D) D.n 0; simpa [prodTo] using this
theorem Qw7 {n i x:Nat} {w:Nat -> Nat}:(Qn n w).set i (x:Int)=Qn n (Xm w i x):=by
 unfold Qn; rw [X4]
 refine Qp fun j _=>?_
 unfold Xm
 split <;> rfl
theorem Qzu {n:Nat}:List.replicate (Int.toNat (n:Int)) (0:Int)=Qn n fun _=>0:=by rw [aP]; exact Qav n 0
section
variable {D:NF} {S E:Nat -> Int}
theorem Q0a (V:VN D) {m:Nat} (hm:m < 18446744073709551616) (hS:Yz D S) (hE:Yz D E) :
  ∃w',Qfl (Kr D.net (m:Int) (rowG D.n S) (rowG D.n E)) fuel (0,0,Qn D.n fun _=>0)=some (SW D (Zv S E) (fS D m),Qn D.n w'):=by
 have hw:=V.worlds
 have hn8:=V.n8
 obtain ⟨w',_,_,h⟩:=Qqr V (K:=KE (Zv S E)) (leaf:=fun (t:Int) w=>t+fS D m w) (fun t w w' h=>by show t+_=t+_; rw [Qjg V w w' h])
  (I:=fun m t=>BD m t) (fun _ _ _ h hp=>h.mono hp) (fun _ _ w h hw=>h.add (Qh3 V w hw)) (fun i t l=>((i,t,l):Int × Int × List Int)) (fun t l=>((t,l):Int × List Int))
  (F:=Kr D.net (m:Int) (rowG D.n S) (rowG D.n E)) (B:=fun r i t w=>Ks (D.node i) (rowG D.n S) (rowG D.n E) ((i:Int),t,Qn D.n w) r)
  (fun r p t w hw hI hp=>by
   unfold Kr
   simp only
   rw [aH (by rw [Xa]; simp),V.aweigh hm hw,aC,w64 ((hI.add (Qh3 V w hw)).fit hp)])
  (fun r i t w z hi hw hz=>by
   unfold Kr
   simp only
   rw [aI (by rw [Xa]; simp; omega),V.node hi,aC,hz,aC])
  (fun r i t0 w0 x t w z w' hi hw hx hk hr=>by
   have hc:=(V.card i hi).2
   unfold Ks
   simp only
   rw [aH (by simp [NF.node]; omega),Qoa hS hE hi (by omega) rfl rfl,aH hk,aC]
   simp only
   rw [Z9 hi,aC,aP,Qw7,Qdi (by omega),hr,aC,Qdi (by omega)])
  (fun r i t0 w0 x t w hi hw hx hk=>by
   have hc:=(V.card i hi).2
   unfold Ks
   simp only
   rw [aH (by simp [NF.node]; omega),Qoa hS hE hi (by omega) rfl rfl,aI (by simp [hk]),aC]
   simp only
   rw [Qdi (by omega)])
  (fun r i t0 w0 t w hi hw=>by
   unfold Ks
   simp only
   rw [aI (by simp [NF.node])])
  D.n fuel (by unfold fuel; omega) 0 0 (fun _=>0) 0 (by omega) (fun v hv=>(V.card v hv).1) BD.zero (by rw [Q3z]; omega)
 have hr:=Qmd (D:=D) (E:=Zv S E) (leaf:=fun (t:Int) w=>t+fS D m w) (p:=fun t=>t) (f:=fS D m) (fun _ _=>rfl) D.n 0 (fun _=>0) 0
 simp only [Int.zero_add] at hr
 rw [hr] at h
 exact ⟨w',h⟩
theorem Qop {f:(Nat -> Nat)->Int} {K:Nat -> Int} (hf:∀w,0<=f w):∀(d i:Nat) (w:Nat -> Nat),0<=TM D K f d i w
 | 0,i,w=>hf w
 | d+1,i,w=>Vb fun x _=>by
  split
  ·exact Qop hf d (i+1) _
  exact Int.le_refl _
theorem Qj3 (V:VN D) {m:Nat} {K:Nat -> Int}:0<=SW D K (fS D m)/\(SW D K (fS D m)).natAbs<=MX:=by
 have h1:0<=SW D K (fS D m):=Qop (fun w=>Quf V) _ _ _
 have h2:=Q5m V (m:=1024) (E:=K) V.worlds (Qh3 V (m:=m))
 unfold BD KK at h2
 refine ⟨h1,?_⟩
 unfold MX; omega
theorem Q3a (V:VN D) {m:Nat}:((D.wh m D.n:Nat):Int)≠0/\((D.wh m D.n:Nat):Int).natAbs<=MX:=by
 have h1:=V.wh_pos (m:=m) (aY _)
 have h2:=V.wh_le (m:=m) (aY _)
 constructor
 ·omega
 unfold MX; omega
theorem Qsp (X:VX D) (ls:List (Nat -> Int)) (hl:ls.length<=2) (h:∀S∈ls,Yz D S):X9 D.net (ls.map (rowG D.n))=some 0:=by
 obtain ⟨order,hr⟩:=Qtq X
 have hr2:=Zs (n:=ls.length) (k0:=0) (by omega) (by omega) (fun i (_:Unit)=>i) (body:=Y8 (ls.map (rowG D.n)) D.net) (fun _=>()) (.inr ())
  (fun k _ hk=>by
   unfold Y8
   rw [aH (by rw [bW]; exact dlt hk),Qm (by rw [bW]; exact hk),aC]
   have hc:Yr D.net (rowG D.n ls[k])=some 0:=by
    rcases Qtn X (rowG D.n ls[k]) with ⟨_,c⟩ | ⟨c,_⟩
    ·exact c
    refine absurd ⟨Qo,fun j hj=>?_⟩ c
    unfold evJ
    have e:((rowG D.n ls[k])[j]?).getD 0=ls[k] j:=by unfold rowG; rw [bD,List.getElem?_range hj]; rfl
    rw [e]; exact h _ (bJ hk) j hj
   rw [List.getElem_map,hc,aC,aI (by decide)])
  (by unfold Y8; rw [aI (by rw [bW]; exact nlt _)])
 unfold X9 Qdh
 rw [hr]
 simp only [aC]
 rw [aI (by simp),show ((0:Int))=((0:Nat):Int) from rfl,hr2]; rfl
theorem Q1d (X:VX D) (hS:Yz D S) (hE:Yz D E):Ve D.net (rowG D.n S) (rowG D.n E)=some (qI (Yg D S E) (D.wh (actS D.n S) D.n:Int),0):=by
 have V:=X.vn
 have hn8:=V.n8
 have hm:=Qtj (S:=S) hn8
 obtain ⟨w',hr⟩:=Q0a V hm hS hE
 have hlen:D.net.Nodes.length=D.n:=Qo
 have hc:=Qsp X [S,E] (by simp) (by simp [hS,hE])
 obtain ⟨h1,h2⟩:=Qj3 V (m:=actS D.n S) (K:=Zv S E)
 obtain ⟨h3,h4⟩:=Q3a V (m:=actS D.n S)
 unfold Ve
 rw [show ([rowG D.n S,rowG D.n E]:List (List Int))=[S,E].map (rowG D.n) from rfl,hc,aC,aI (by decide),Qxm hn8,aC,hlen,aH (by omega),Qzu,hr]
 simp only [aC]
 rw [V.awhole hm,aC,Qy0 h2 h4 h3,aC]
 rfl
end
end Go.Ab
namespace Go.Ab
open Go
open Classical
section
variable {D:NF} {S E:Nat -> Int}
theorem Qsh (V:VN D) {f:(Nat -> Nat)->Int} (hf:Ext D f) {K:Nat -> Int}:SW D K f=Qq (prodTo D.n D.card) (fun W=>if Xl D.n K 0 (dig D W) then f (dig D W) else 0):=by
 have hmix:∀W,mix D 0 (fun _=>0) W=dig D W:=fun W=>by funext j; simp [mix]
 unfold SW
 rw [<-Qrj V hf D.n 0 (fun _=>0) (by omega),Q3z]
 exact V1 fun W _=>by rw [hmix]
theorem Ql1 {w:Nat -> Nat} (hw:∀j,j < D.n->w j < 100):Xl D.n (Zv S E) 0 w↔Xl D.n S 0 w/\Xl D.n E 0 w:=by
 constructor
 ·intro h
  exact ⟨fun j h1 h2=>((Qfw (hw j h2)).1 (h j h1 h2)).1,fun j h1 h2=>((Qfw (hw j h2)).1 (h j h1 h2)).2⟩
 rintro ⟨h1,h2⟩ j h3 h4
 exact (Qfw (hw j h4)).2 ⟨h1 j h3 h4,h2 j h3 h4⟩
theorem Qv0 (V:VN D) {W:Nat}:∀j,j < D.n->dig D W j < 100:=fun j hj=>by
 have h1:=Qwc V W j hj
 have h2:=(V.card j hj).2
 omega
theorem Qyw {S:Nat -> Int} (hS:Yz D S) {k:Nat} (hk:k < D.n):(actS D.n S).testBit k=decide (0<=S k):=by
 rw [Q4b]; simp [hk]
theorem Q6w (V:VN D) (hS:Yz D S):Qb fuel (Qah (rowG D.n S) D.net) (1,0)=some (D.wh (actS D.n S) D.n:Int):=by
 have hn8:=V.n8
 have hr:=Zs (n:=D.n) (k0:=0) (by omega) (by omega) (fun i (t:Int)=>(t,i)) (body:=Qah (rowG D.n S) D.net) (fun k=>(D.wh (actS D.n S) k:Int)) (D.wh (actS D.n S) D.n:Int)
  (fun k _ hk=>by
   have hb:=V.wh_le (m:=actS D.n S) (k:=k) (by omega)
   have hg:=V.g60
   have hmm:D.wh (actS D.n S) k*D.g<=167961600000000*60:=Nat.mul_le_mul hb hg
   have hs:D.wh (actS D.n S) (k+1)=D.wh (actS D.n S) k*(if (actS D.n S).testBit k=true then 1 else D.g):=rfl
   unfold Qah
   rw [aH (by rw [Qo]; exact dlt hk),show lkI (rowG D.n S) (k:Int)=some (S k) from Qt hk,aC]
   simp only
   rw [hs,Qyw hS hk]
   by_cases c:S k < 0
   ·rw [aH (by simpa using c),aI (by simp; omega),show D.net.Grain=(D.g:Int) from rfl,w64 (by rw [<-Int.natCast_mul]; omega),Int.natCast_mul]
   rw [aI (by simpa using c),aH (by simp; omega),Nat.mul_one])
  (by unfold Qah; rw [aI (by rw [Qo]; exact nlt _)])
 exact hr
theorem Q63 (V:VN D) (hS:Yz D S) {w:Nat -> Nat} (hw:D.ok w):Qb fuel (Qae (Qn D.n w) (rowG D.n S) D.net) (1,0)=some (fS D (actS D.n S) w):=by
 have hn8:=V.n8
 have hr:=Zs (n:=D.n) (k0:=0) (by omega) (by omega) (fun i (t:Int)=>(t,i)) (body:=Qae (Qn D.n w) (rowG D.n S) D.net) (fun k=>(D.fr (actS D.n S) w k:Int)) (D.fr (actS D.n S) w D.n:Int)
  (fun k _ hk=>by
   have hb:=V.fr_le (m:=actS D.n S) hw (k:=k) (by omega)
   have hwt:=V.wt_le hw hk
   have hmm:D.fr (actS D.n S) w k*D.wt w k<=167961600000000*60:=Nat.mul_le_mul hb hwt
   have hs:D.fr (actS D.n S) w (k+1)=D.fr (actS D.n S) w k*(if (actS D.n S).testBit k=true then 1 else D.wt w k):=rfl
   unfold Qae
   rw [aH (by rw [Xa]; exact dlt hk),show lkI (rowG D.n S) (k:Int)=some (S k) from Qt hk,aC]
   simp only
   rw [hs,Qyw hS hk]
   by_cases c:S k < 0
   ·rw [aH (by simpa using c),aI (by simp; omega),Q8a V hw hk,aC,Z9 hk,aC,
     show lkI (rowG (D.card k) fun x=>(D.W k (D.idx k w) x:Int)) (w k:Int)=some (D.wt w k:Int) from Qt (hw k hk),aC,w64 (by rw [<-Int.natCast_mul]; omega),Int.natCast_mul]
   rw [aI (by simpa using c),aH (by simp; omega),Nat.mul_one])
  (by unfold Qae; rw [aI (by rw [Xa]; exact nlt _)])
 exact hr
theorem Qpg (V:VN D) (hS:Yz D S) (hE:Yz D E):V5 D.net (rowG D.n S) (rowG D.n E)=some (Yg D S E,(D.wh (actS D.n S) D.n:Int)):=by
 have hn8:=V.n8
 have hw:=V.worlds
 obtain ⟨m,hm⟩:∃m,m=actS D.n S:=⟨_,rfl⟩
 have key:Yg D S E=Qq (prodTo D.n D.card) (fun W=>if Xl D.n (Zv S E) 0 (dig D W) then fS D m (dig D W) else 0):=by
  unfold Yg; rw [<-hm]; exact Qsh V (Qjg V)
 have hb:∀k,BD (k*1) (Qq k (fun W=>if Xl D.n (Zv S E) 0 (dig D W) then fS D m (dig D W) else 0)):=fun k=>BD.sum fun W _=>by
  split
  ·exact Qh3 V _ (Qwc V W)
  exact BD.zero
 unfold V5
 rw [Q6w V hS,aC]
 refine Zf (Zk (s0:=((0:Int),(0:Int))) (r:=Yg D S E) (fun k=>(Qq k (fun W=>if Xl D.n (Zv S E) 0 (dig D W) then fS D m (dig D W) else 0),(k:Int))) (prodTo D.n D.card) rfl (fun k hk=>?_) ?_ (by omega)) rfl
 ·have e:zw ((k:Int)+1)=((k+1:Nat):Int):=Qdi (by omega)
  have hfit:=(hb (k+1)).fit (by omega)
  have hmb:=Ql1 (S:=S) (E:=E) (Qv0 V (W:=k))
  unfold Qfp
  simp only
  rw [Qul V]
  simp only [aC]
  rw [aH (by simpa using hk),Q23 V (by omega)]
  simp only [aC]
  have no:¬ Xl D.n (Zv S E) 0 (dig D k)->Qq (k+1) (fun W=>if Xl D.n (Zv S E) 0 (dig D W) then fS D m (dig D W) else 0)=Qq k (fun W=>if Xl D.n (Zv S E) 0 (dig D W) then fS D m (dig D W) else 0):=fun c=>by
   simp only [Qq]; rw [aI c]; omega
  by_cases hs:Xl D.n S 0 (dig D k)
  ·rw [Qoq hn8 (fun j hj=>(hS j hj).1) hs]
   simp only [aC]
   rw [aI (by simp)]
   by_cases he:Xl D.n E 0 (dig D k)
   ·rw [Qoq hn8 (fun j hj=>(hE j hj).1) he]
    simp only [aC]
    rw [aI (by simp),Q63 V hS (Qwc V k),<-hm]
    simp only [aC]
    have e2:Qq (k+1) (fun W=>if Xl D.n (Zv S E) 0 (dig D W) then fS D m (dig D W) else 0)=Qq k (fun W=>if Xl D.n (Zv S E) 0 (dig D W) then fS D m (dig D W) else 0)+fS D m (dig D k):=by
     simp only [Qq]; rw [aH (hmb.2 ⟨hs,he⟩)]
    rw [e2] at hfit ⊢
    rw [w64 hfit,e]
   rw [Qm6 hn8 (fun j hj=>(hE j hj).1) he]
   simp only [aC]
   rw [aH (by simp),no (fun c=>he (hmb.1 c).2),e]
  rw [Qm6 hn8 (fun j hj=>(hS j hj).1) hs]
  simp only [aC]
  rw [aH (by simp),no (fun c=>hs (hmb.1 c).1),e]
 unfold Qfp
 simp only
 rw [Qul V]
 simp only [aC]
 rw [aI (by simp),key]
theorem Qpd {a:Int} (h:a.natAbs<=MX):-9223372036854775808<=a/\a<=9223372036854775807:=by unfold MX at h; omega
theorem Q28 (V:VN D) (hS:Yz D S) (hE:Yz D E):Qcg D.net (rowG D.n S) (rowG D.n E)=some (qI (Yg D S E) (D.wh (actS D.n S) D.n:Int)):=by
 obtain ⟨h1,h2⟩:=Qj3 V (m:=actS D.n S) (K:=Zv S E)
 obtain ⟨h3,h4⟩:=Q3a V (m:=actS D.n S)
 unfold Qcg
 rw [Qpg V hS hE,aC]
 simp only
 rw [show Yg D S E=SW D (Zv S E) (fS D (actS D.n S)) from rfl,Q55 (Qpd h2) (Qpd h4) h3]; rfl
def Qbz (D:NF) (S E:Nat -> Int) (v k:Nat):Int:=SW D (Zv S E) (at' v k (fS D (actS D.n S)))
def acL (f:(Nat -> Nat)->Int) (v:Nat) (t:Int × (Nat -> Int)) (w:Nat -> Nat):Int × (Nat -> Int):=(t.1+f w,fun x=>t.2 x+at' v x f w)
theorem Qoz (hS:Yz D S) (hE:Yz D E) {i x:Nat} (hi:i < D.n) (hx:x < 100) {s t:Int × Int × List Int × List Int} (hs:s.1=i) (ht:t.1=x) :
  Qb fuel (Qfg (rowG D.n S) (rowG D.n E) s t) 0=some (if KE (Zv S E) i x=true then Sum.inr () else Sum.inl ()):=by
 have hl:∀F:Nat -> Int,lkI (rowG D.n F) s.1=some (F i):=fun F=>by rw [hs]; exact Qt hi
 rw [Qq9 (a:=S i) (b:=E i) (x:=t.1) (hS i hi).1 (hE i hi).1]
 ·congr 1
  rw [ht]
  by_cases c:okE (Zv S E) i x
  ·rw [aH (show (S i=-1\/S i=(x:Int))/\(E i=-1\/E i=(x:Int)) from (Qfw hx).1 c),aH (by unfold KE; simpa using c)]
  ·rw [aI (fun h:(S i=-1\/S i=(x:Int))/\(E i=-1\/E i=(x:Int))=>c ((Qfw hx).2 h)),aI (by unfold KE; simpa using c)]
 all_goals (unfold Qfg; simp only [dE,List.length_nil])
 ·rw [aH (by simp),show lkI ([rowG D.n S,rowG D.n E]:List (List Int)) 0=some (rowG D.n S) from rfl,aC,hl,aC]; rfl
 ·rw [aH (by simp),show lkI ([rowG D.n S,rowG D.n E]:List (List Int)) 1=some (rowG D.n E) from rfl,aC,hl,aC]; rfl
 ·rfl
theorem Q0r (V:VN D) {m v:Nat} (hm:m < 18446744073709551616) (hv:v < D.n) (hS:Yz D S) (hE:Yz D E) :
  ∃w',Qfl (Ky D.net (m:Int) (v:Int) (rowG D.n S) (rowG D.n E)) fuel (0,0,Qn (D.card v) (fun _=>0),Qn D.n fun _=>0) =
   some (SW D (Zv S E) (fS D m),rowG (D.card v) (fun k=>SW D (Zv S E) (at' v k (fS D m))),Qn D.n w'):=by
 have hw:=V.worlds
 have hn8:=V.n8
 obtain ⟨w',_,_,h⟩:=Qqr V (K:=KE (Zv S E)) (leaf:=acL (fS D m) v) (fun t w w' h=>by unfold acL; rw [Qjg V w w' h]; congr 1; funext x; rw [Qwn hv (Qjg V) w w' h])
  (I:=fun m t=>BD m t.1/\∀x,BD m (t.2 x)) (fun _ _ _ h hp=>⟨h.1.mono hp,fun x=>(h.2 x).mono hp⟩) (fun _ _ w h hw=>⟨h.1.add (Qh3 V w hw),fun x=>(h.2 x).add (Q5q (Qh3 V) w hw)⟩)
  (fun i t l=>((i,t.1,rowG (D.card v) t.2,l):Int × Int × List Int × List Int)) (fun t l=>((t.1,rowG (D.card v) t.2,l):Int × List Int × List Int))
  (F:=Ky D.net (m:Int) (v:Int) (rowG D.n S) (rowG D.n E)) (B:=fun r i t w=>Km (D.node i) (rowG D.n S) (rowG D.n E) ((i:Int),t.1,rowG (D.card v) t.2,Qn D.n w) r)
  (fun r p t w hw hI hp=>by
   have hwv:=hw v hv
   unfold Ky
   simp only
   rw [aH (by rw [Xa]; simp),V.aweigh hm hw,aC,w64 ((hI.1.add (Qh3 V w hw)).fit hp),Z9 hv,aC,show lkI (rowG (D.card v) t.2) (w v:Int)=some (t.2 (w v)) from Qt hwv,aC,
    w64 (((hI.2 (w v)).add (Qh3 V w hw)).fit hp),aP,X4]
   have e:(rowG (D.card v) fun s=>if s=w v then t.2 (w v)+fS D m w else t.2 s)=rowG (D.card v) (acL (fS D m) v t w).2:=Qp fun x _=>by
    show _=t.2 x+at' v x (fS D m) w
    unfold at'
    by_cases c:x=w v
    ·subst c; rw [aH rfl,aH rfl]
    rw [aI c,aI (Ne.symm c),Int.add_zero]
   rw [e]; rfl)
  (fun r i t w z hi hw hz=>by
   unfold Ky
   simp only
   rw [aI (by rw [Xa]; simp; omega),V.node hi,aC,hz,aC])
  (fun r i t0 w0 x t w z w' hi hw hx hk hr=>by
   have hc:=(V.card i hi).2
   unfold Km
   simp only
   rw [aH (by simp [NF.node]; omega),Qoz hS hE hi (by omega) rfl rfl,aH hk,aC]
   simp only
   rw [Z9 hi,aC,aP,Qw7,Qdi (by omega),hr,aC,Qdi (by omega)])
  (fun r i t0 w0 x t w hi hw hx hk=>by
   have hc:=(V.card i hi).2
   unfold Km
   simp only
   rw [aH (by simp [NF.node]; omega),Qoz hS hE hi (by omega) rfl rfl,aI (by simp [hk]),aC]
   simp only
   rw [Qdi (by omega)])
  (fun r i t0 w0 t w hi hw=>by
   unfold Km
   simp only
   rw [aI (by simp [NF.node])])
  D.n fuel (by unfold fuel; omega) 0 0 (fun _=>0) (0,fun _=>0) (by omega) (fun v hv=>(V.card v hv).1) ⟨BD.zero,fun _=>BD.zero⟩ (by rw [Q3z]; omega)
 have hr1:=Qmd (D:=D) (E:=Zv S E) (leaf:=acL (fS D m) v) (p:=fun t=>t.1) (f:=fS D m) (fun _ _=>rfl) D.n 0 (fun _=>0) (0,fun _=>0)
 have hr2:∀x,_:=fun x=>Qmd (D:=D) (E:=Zv S E) (leaf:=acL (fS D m) v) (p:=fun t=>t.2 x) (f:=at' v x (fS D m)) (fun _ _=>rfl) D.n 0 (fun _=>0) (0,fun _=>0)
 simp only [Int.zero_add] at hr1 hr2
 refine ⟨w',?_⟩
 have h':=h
 simp only at h'
 rw [hr1,Qp (fun x _=>hr2 x)] at h'
 exact h'
theorem Qw2 (V:VN D) {m v k:Nat} {K:Nat -> Int}:0<=SW D K (at' v k (fS D m))/\(SW D K (at' v k (fS D m))).natAbs<=MX:=by
 have h1:0<=SW D K (at' v k (fS D m)):=Qop (fun w=>by unfold at'; split; exact Quf V; exact Int.le_refl _) _ _ _
 have h2:=Q5m V (m:=1024) (E:=K) V.worlds (Q5q (v:=v) (x:=k) (Qh3 V (m:=m)))
 unfold BD KK at h2
 refine ⟨h1,?_⟩
 unfold MX; omega
def Q1b (D:NF) (S E:Nat -> Int) (v:Nat):List Qk × Int:=if Yg D S E=0 then ([],7) else (rowG (D.card v) (fun k=>qI (Qbz D S E v k) (Yg D S E)),0)
theorem Q25 (X:VX D) (hS:Yz D S) (hE:Yz D E) {v:Nat} (hv:v < D.n):Yt D.net (rowG D.n S) (rowG D.n E) (v:Int)=some (Q1b D S E v):=by
 have V:=X.vn
 have hn8:=V.n8
 have hc4:=V.card v hv
 have hm:=Qtj (S:=S) hn8
 obtain ⟨w',hr⟩:=Q0r V hm hv hS hE
 have hlen:D.net.Nodes.length=D.n:=Qo
 have hc:=Qsp X [S,E] (by simp) (by simp [hS,hE])
 obtain ⟨h1,h2⟩:=Qj3 V (m:=actS D.n S) (K:=Zv S E)
 unfold Yt
 rw [show ([rowG D.n S,rowG D.n E]:List (List Int))=[S,E].map (rowG D.n) from rfl,hc,aC,aI (by decide),aI (by simp),aI (by rw [hlen]; simp; omega),V.node hv,aC]
 rw [show (D.node v).Card=(D.card v:Int) from rfl,aH (by omega),Qxm hn8,aC,hlen,aH (by omega),Qzu,Qzu,hr]
 simp only [aC]
 unfold Q1b
 by_cases c:SW D (Zv S E) (fS D (actS D.n S))=0
 ·rw [aH (by simpa using c),aH (show Yg D S E=0 from c)]
 rw [aI (by simpa using c),aI (show ¬ Yg D S E=0 from c),Qo,aH (by omega),aP]
 have hl:=Zs (n:=D.card v) (k0:=0) (by omega) (by omega) (fun i (t:List Qk)=>(i,t)) (body:=Qbt (SW D (Zv S E) (fS D (actS D.n S)),rowG (D.card v) (fun k=>SW D (Zv S E) (at' v k (fS D (actS D.n S)))),Qn D.n w'))
  (fun k=>rowG (D.card v) fun j=>if j < k then qI (Qbz D S E v j) (Yg D S E) else ⟨0,0⟩) (.inr (rowG (D.card v) (fun k=>qI (Qbz D S E v k) (Yg D S E))))
  (fun k _ hk=>by
   unfold Qbt
   simp only
   rw [aH (by rw [Qo]; exact dlt hk),show lkI (rowG (D.card v) fun k=>SW D (Zv S E) (at' v k (fS D (actS D.n S)))) (k:Int)=some (SW D (Zv S E) (at' v k (fS D (actS D.n S)))) from Qt hk,aC,
    Qy0 (Qw2 V).2 h2 c,aC]
   simp only
   rw [aI (by decide),show lkI (rowG (D.card v) fun j=>if j < k then qI (Qbz D S E v j) (Yg D S E) else ⟨0,0⟩) (k:Int)=some _ from Qt hk,aC,aP,X4]
   refine congrArg (fun l=>some (Qf.next (zw ((k:Int)+1),l))) (Qp fun j _=>?_)
   by_cases e:j=k
   ·subst e; rw [aH rfl,aH (by omega)]; rfl
   rw [aI e]
   by_cases e2:j < k
   ·rw [aH e2,aH (by omega)]
   rw [aI e2,aI (by omega)])
  (by
   unfold Qbt
   simp only
   rw [aI (by rw [Qo]; exact nlt _)]
   congr 3
   exact Qp fun j hj=>by rw [aH hj])
 have e0:List.replicate (D.card v) (Qk.mk 0 0)=rowG (D.card v) fun j=>if j < 0 then qI (Qbz D S E v j) (Yg D S E) else ⟨0,0⟩:=by
  rw [Qav]; exact Qp fun j _=>by rw [aI (by omega)]
 rw [e0]
 exact Zf hl rfl
theorem Q7p (hE:Yz D E) {v k:Nat} (hk:k < D.card v):Yz D (Xm E v (k:Int)):=fun j hj=>by
 unfold Xm
 split
 ·subst j; omega
 exact hE j hj
theorem Q4q {n v:Nat} {E:Nat -> Int} {x:Int}:(rowG n E).set v x=rowG n (Xm E v x):=by
 rw [X4]; rfl
theorem Q10 (V:VN D) {v k:Nat} (hv:v < D.n) (hk:k < D.card v) (h:E v=-1\/E v=(k:Int)):Yg D S (Xm E v (k:Int))=Qbz D S E v k:=by
 unfold Yg Qbz
 rw [Qsh V (Qjg V),Qsh V (Qwn hv (Qjg V))]
 refine V1 fun W _=>?_
 simp only [Ql1 (Qv0 V)]
 by_cases c:Xl D.n S 0 (dig D W)/\Xl D.n E 0 (dig D W)
 ·rw [aH c]
  unfold at'
  by_cases c2:dig D W v=k
  ·rw [aH c2,aH ⟨c.1,fun j h1 h2=>by
    unfold okE Xm
    by_cases e:j=v
    ·subst e; rw [aH rfl,c2]; exact .inr rfl
    rw [aI e]; exact c.2 j h1 h2⟩]
  rw [aI c2,aI fun h=>c2 (by
   have:=h.2 v (dZ _) hv
   unfold okE Xm at this
   rw [aH rfl] at this
   omega)]
 rw [aI c,aI fun hh=>c ⟨hh.1,fun j h1 h2=>by
  have:=hh.2 j h1 h2
  unfold okE Xm at this
  by_cases e:j=v
  ·subst e
   rw [aH rfl] at this
   rcases h with h | h
   ·exact .inl h
   exact .inr (by omega)
  rwa [aI e] at this⟩]
theorem Q19 (V:VN D) {v k:Nat} (hv:v < D.n) (h:¬ (E v=-1\/E v=(k:Int))):Qbz D S E v k=0:=by
 unfold Qbz
 rw [Qsh V (Qwn hv (Qjg V)),V1 (g:=fun _=>0) (fun W _=>?_),Qgp]
 simp only [Ql1 (Qv0 V)]
 split
 ·rename_i c
  unfold at'
  rw [aI fun e=>h (by rw [<-e]; exact c.2 v (dZ _) hv)]
 rfl
theorem Q6l (V:VN D) (hS:Yz D S) (hE:Yz D E) {v:Nat} (hv:v < D.n) (h0:Yg D S E≠0):Qev D.net (rowG D.n S) (rowG D.n E) (v:Int)=some (rowG (D.card v) (fun k=>qI (Qbz D S E v k) (Yg D S E))):=by
 have hn8:=V.n8
 have hc4:=V.card v hv
 obtain ⟨h1,h2⟩:=Qj3 V (m:=actS D.n S) (K:=Zv S E)
 unfold Qev
 rw [Qpg V hS hE,aC]
 have hl:=Zs (n:=D.card v) (k0:=0) (by omega) (by omega) (fun i (t:List Qk)=>(i,t)) (body:=Qbs D.net (v:Int) (rowG D.n E) (rowG D.n S) (Yg D S E,(D.wh (actS D.n S) D.n:Int)))
  (fun k=>rowG k fun j=>qI (Qbz D S E v j) (Yg D S E)) (rowG (D.card v) fun j=>qI (Qbz D S E v j) (Yg D S E))
  (fun k _ hk=>by
   have hofq:∀a:Int,a=Qbz D S E v k->Kt a (Yg D S E)=some (qI (Qbz D S E v k) (Yg D S E)):=fun a ha=>by
    rw [ha]; exact Q55 (Qpd (Qw2 V).2) (Qpd h2) h0
   have hlk:(rowG k (fun j=>qI (Qbz D S E v j) (Yg D S E))++[qI (Qbz D S E v k) (Yg D S E)]).length*16<=140737488355328:=by simp [Qo]; omega
   unfold Qbs
   simp only
   rw [V.node hv,aC,show (D.node v).Card=(D.card v:Int) from rfl,aH (dlt hk),show lkI (rowG D.n E) (v:Int)=some (E v) from Qt hv,aC]
   by_cases c:E v=-1\/E v=(k:Int)
   ·have hs:(V5 D.net (rowG D.n S) (List.set (rowG D.n E) (Int.toNat (v:Int)) (k:Int)))=some (Qbz D S E v k,(D.wh (actS D.n S) D.n:Int)):=by
     rw [aP,Q4q,Qpg V hS (Q7p hE hk),Q10 V hv hk c]
    by_cases c1:E v < 0
    ·rw [aH (by simpa using c1),aH (by rw [Qo]; omega),hs,aC,hofq _ rfl,aC,aH hlk,Vo]
    rw [aI (by simpa using c1),aH (by simp; omega),aH (by rw [Qo]; omega),hs,aC,hofq _ rfl,aC,aH hlk,Vo]
   have hE1:=(hE v hv).1
   rw [aI (by simp; omega),aI (by simp; omega),hofq 0 (Q19 V hv c).symm,aC,aH hlk,Vo])
  (by
   unfold Qbs
   simp only
   rw [V.node hv,aC,show (D.node v).Card=(D.card v:Int) from rfl,aI (nlt _)])
 exact Zf hl rfl
end
end Go.Ab
namespace Go.Ab
open Go
open Classical
theorem Q59 {n:Int} (h:(Lit.int .u8 n).wf=true):0<=n/\n<=255:=by
 simpa [Lit.wf,IntKind.min,IntKind.max,IntKind.bits,IntKind.signed] using h
theorem Qq7 {D:NF} (X:VX D):∀x∈rowG D.n D.node,Vq 65536 x:=fun x hx=>by
 have V:=X.vn
 unfold rowG at hx
 obtain ⟨v,hv,rfl⟩:=cD.1 hx
 have hv:=cO.1 hv
 have hc:=V.card v hv
 refine ⟨?_,?_,fun r hr=>?_⟩
 ·have:=V.len v hv
  show (List.map _ (D.par v)).length<=_
  rw [bW]; omega
 ·show (rowG (D.rows v) _).length<=_
  rw [Qo]; exact V.rows_le hv
 have hr:r∈rowG (D.rows v) fun r=>rowG (D.card v) fun x=>(D.W v r x:Int):=hr
 unfold rowG at hr
 obtain ⟨i,hi,rfl⟩:=cD.1 hr
 rw [bW,List.length_range]; omega
theorem Q3s {p0:Qe} {p1:Zc} (h0:V2 p0) (h1:Qag p1) :
  ∃(D:NF) (n:Nat) (g:Int) (F:Nat -> Ad),DX D/\NB n F/\n<=6/\Js p0=some D.net/\Ji p1 D.net=some ⟨g,rowG n F⟩:=by
 obtain ⟨D,X,hn,hc,e⟩:=Q29 (Q6v h0)
 have hs:=Qq7 X
 have V:=X.vn
 have hlen:(rowG D.n D.node).length=D.n:=Qo
 obtain ⟨g,l,e2,h2,h3⟩:=Q5c (b:=p1) (g:=D.g) (l:=rowG D.n D.node) (m:=65536) (by omega) (by rw [hlen]; exact V.n1) (by rw [hlen]; exact V.n8) hs (Q59 h1.2.1) (Q59 h1.2.2.1)
 rw [hlen] at h2
 refine ⟨D,l.length,g,fun v=>(l[v]?).getD default,⟨X,hn,hc⟩,Zaf (m:=65536+1) (by omega) h3,by omega,e,?_⟩
 have e2:Ji p1 D.net=some ⟨g,l⟩:=e2
 rw [e2,<-Q4v]
theorem Q47 {n:Nat} {g:Int} {F:Nat -> Ad} (hb:NB n F) (hn:n<=6):(∃D:NF,D.n=n/\VX D/\D.net=⟨g,rowG n F⟩)\/(Yu ⟨g,rowG n F⟩=some Qsk/\X7 ⟨g,rowG n F⟩=some false):=by
 by_cases hf:Qqi n g F
 ·exact .inl (Q7a hf)
 right
 constructor
 ·rcases Q2i (g:=g) hb (by omega) with ⟨h,_⟩ | ⟨_,h⟩
  ·exact absurd h hf
  exact h
 rcases Qrh (g:=g) hb with ⟨h,_⟩ | ⟨_,h⟩
 ·exact absurd h hf
 exact h
theorem Qtz {l:List Int} (h:l.length<=1000000):J5 l l=some true:=by
 unfold J5
 rw [aI (by simp)]
 have hr:=Zs (n:=l.length) (k0:=0) (by omega) (by omega) (fun i (_:Unit)=>i) (body:=Qbr l l) (fun _=>()) (.inr ())
  (fun k _ hk=>by
   unfold Qbr
   rw [aH (dlt hk),Qm hk,aC,aC,aI (by simp)])
  (by unfold Qbr; rw [aI (nlt _)])
 exact Zf hr rfl
theorem Qzv {l:List Qk} (h:l.length<=1000000):Qa7 l l=some true:=by
 unfold Qa7
 rw [aI (by simp)]
 have hr:=Zs (n:=l.length) (k0:=0) (by omega) (by omega) (fun i (_:Unit)=>i) (body:=Qaq l l) (fun _=>()) (.inr ())
  (fun k _ hk=>by
   unfold Qaq
   rw [aH (dlt hk),Qm hk,aC,aC,aI (by simp)])
  (by unfold Qaq; rw [aI (nlt _)])
 exact Zf hr rfl
theorem Qwf {g:Int} {l:List Ad} (hl:l.length<=1000000) (h:∀x∈l,Vq 1000000 x):K1 ⟨g,l⟩ ⟨g,l⟩=some true:=by
 unfold K1
 rw [aI (by simp),aI (by simp)]
 have hr:=Zs (n:=l.length) (k0:=0) (by omega) (by omega) (fun i (_:Unit)=>i) (body:=Kk ⟨g,l⟩ ⟨g,l⟩) (fun _=>()) (.inr ())
  (fun k _ hk=>by
   have hx:=h _ (bJ hk)
   unfold Kk
   simp only
   rw [aH (dlt hk),Qm hk,aC,aC,aI (by simp),Qtz hx.par,aC,aI (by simp),aI (by simp)]
   have hr2:=Zs (n:=l[k].Rows.length) (k0:=0) (by omega) (by have:=hx.rows; omega) (fun i (_:Unit)=>i) (body:=Ko l[k] l[k]) (fun _=>()) (.inr ())
    (fun j _ hj=>by
     unfold Ko
     rw [aH (dlt hj),Qm hj,aC,aC,Qtz (hx.row _ (bJ hj)),aC,aI (by simp)])
    (by unfold Ko; rw [aI (nlt _)])
   exact Zf hr2 rfl)
  (by unfold Kk; rw [aI (nlt _)])
 exact Zf hr rfl
def doD (D:NF) (S:Nat -> Int):NF:=⟨D.n,D.g,D.card,fun v=>if 0<=S v then [] else D.par v,fun v r x=>if 0<=S v then (if (x:Int)=S v then D.g else 0) else D.W v r x⟩
theorem Qqj {D:NF} {S:Nat -> Int} {v:Nat} (h:¬ 0<=S v):(doD D S).node v=D.node v:=by
 unfold NF.node NF.rows doD
 simp only [aI h]
theorem Qtv {D:NF} {S:Nat -> Int} {v:Nat} (h:0<=S v):(doD D S).node v=⟨D.card v,[],[(List.replicate (D.card v) (0:Int)).set (S v).toNat D.g]⟩:=by
 unfold NF.node NF.rows doD
 simp only [aH h]
 rw [Qav,X4]
 congr 1
 show [rowG _ _]=_
 congr 1
 refine Qp fun x _=>?_
 by_cases c:(x:Int)=S v
 ·rw [aH c,aH (by omega)]
 rw [aI c,aI (by omega)]; rfl
section
variable {D:NF} {S E:Nat -> Int}
theorem Q2u {m:Nat} {x:Ad} (hm:m<=1000000) (h:Vq m x):Qb fuel (Qp3 x) (0,([]:List (List Int)))=some x.Rows:=Qgr hm h
theorem Q0s {m:Nat} {x:Ad} (hm:m<=1000000) (h:Vq m x):Qb fuel (Qhi x) (0,([]:List (List Int)))=some x.Rows:=Qgr hm h
theorem Q2m (X:VX D) {v:Nat} (hv:v < D.n):Vq 65536 (D.node v):=Qq7 X _ (by unfold rowG; exact cD.2 ⟨v,cO.2 hv,rfl⟩)
theorem Qzg (X:VX D) (hS:Yz D S) {v:Nat} (hv:v < D.n):Vq 65536 ((doD D S).node v):=by
 have hc:=X.vn.card v hv
 by_cases c:0<=S v
 ·rw [Qtv c]
  refine ⟨by simp,by simp,fun r hr=>?_⟩
  simp at hr; subst hr; simp; omega
 rw [Qqj c]; exact Q2m X hv
theorem Q48 (X:VX D) (hS:Yz D S):∀x∈rowG D.n (doD D S).node,Vq 1000000 x:=fun x hx=>by
 unfold rowG at hx
 obtain ⟨v,hv,rfl⟩:=cD.1 hx
 have h:=Qzg X hS (cO.1 hv)
 exact ⟨by have:=h.par; omega,by have:=h.rows; omega,fun r hr=>by have:=h.row r hr; omega⟩
theorem Q2p {n k:Nat} {F:Nat -> Ad} {z y:Ad} (h:y=F k):(rowG n fun j=>if j < k then F j else z).set k y=rowG n fun j=>if j < k+1 then F j else z:=by
 rw [X4]
 refine Qp fun j _=>?_
 by_cases e:j=k
 ·subst e; rw [aH rfl,aH (by omega),h]
 rw [aI e]
 by_cases e2:j < k
 ·rw [aH e2,aH (by omega)]
 rw [aI e2,aI (by omega)]
theorem Zac (X:VX D) (hS:Yz D S):Qb6 D.net (rowG D.n S)=some ((doD D S).net,0):=by
 have V:=X.vn
 have hn8:=V.n8
 have hlen:D.net.Nodes.length=D.n:=Qo
 have hc:=Qsp X [S] (by simp) (by simp [hS])
 unfold Qb6
 rw [show ([rowG D.n S]:List (List Int))=[S].map (rowG D.n) from rfl,hc,aC,aI (by decide),hlen,aH (by omega),aP]
 have hl:=Zs (n:=D.n) (k0:=0) (by omega) (by omega) (fun i (t:List Ad)=>(i,t)) (body:=Qge D.net (rowG D.n S))
  (fun k=>rowG D.n fun j=>if j < k then (doD D S).node j else ⟨0,[],[]⟩) (rowG D.n (doD D S).node)
  (fun k _ hk=>by
   have hcd:=V.card k hk
   have hSk:=hS k hk
   unfold Qge
   simp only
   rw [hlen,aH (dlt hk),V.node hk,aC,show lkI (rowG D.n S) (k:Int)=some (S k) from Qt hk,aC]
   have hg:lkI (rowG D.n fun j=>if j < k then (doD D S).node j else ⟨0,[],[]⟩) (k:Int)=some _:=Qt hk
   by_cases c:0<=S k
   ·rw [aH (by simpa using c),show (D.node k).Card=(D.card k:Int) from rfl,aH (by omega),Q2j c (by simp; omega),aC,hg,aC,aP,aP,
     Q2p (F:=(doD D S).node) (by rw [Qtv c]; rfl)]
   have hs:=Q2m X hk
   rw [aI (by simpa using c),aH (by have:=hs.par; omega),Q2u (m:=65536) (by omega) hs,aC,hg,aC,aP,
    Q2p (F:=(doD D S).node) (by rw [Qqj c])])
  (by
   unfold Qge
   simp only
   rw [hlen,aI (nlt _)]
   congr 2
   exact Qp fun j hj=>by rw [aH hj])
 have e0:List.replicate D.n (Ad.mk 0 [] [])=rowG D.n fun j=>if j < 0 then (doD D S).node j else ⟨0,[],[]⟩:=by
  rw [Qav]; exact Qp fun j _=>by rw [aI (by omega)]
 rw [e0]
 exact Zf hl rfl
theorem Q8e (X:VX D) (hS:Yz D S):∃y,Qey D.net (rowG D.n S)=some y/\Qcj y=some (doD D S).net:=by
 have V:=X.vn
 have hn8:=V.n8
 have hlen:D.net.Nodes.length=D.n:=Qo
 refine ⟨(doD D S).net,?_,?_⟩
 ·have hl:=Zs (n:=D.n) (k0:=0) (by omega) (by omega) (fun i (t:List Ad)=>(i,t)) (body:=Qbo D.net (rowG D.n S)) (fun k=>rowG k (doD D S).node) (rowG D.n (doD D S).node)
   (fun k _ hk=>by
    have hcd:=V.card k hk
    have hSk:=hS k hk
    have hlk:(rowG k (doD D S).node++[(doD D S).node k]).length*56<=140737488355328:=by simp [Qo]; omega
    unfold Qbo
    simp only
    rw [hlen,aH (dlt hk),V.node hk,aC,show lkI (rowG D.n S) (k:Int)=some (S k) from Qt hk,aC]
    by_cases c:0<=S k
    ·have e:(Ad.mk (D.card k:Int) [] [(List.replicate (Int.toNat (D.card k:Int)) (0:Int)).set (S k).toNat D.net.Grain])=(doD D S).node k:=by rw [Qtv c,aP]; rfl
     rw [aH (by simpa using c),show (D.node k).Card=(D.card k:Int) from rfl,aH (by omega),Q2j c (by simp; omega),aC,e,aH hlk,Vo]
    rw [aI (by simpa using c),<-Qqj c,aH hlk,Vo])
   (by unfold Qbo; simp only; rw [hlen,aI (nlt _)])
  unfold Qey
  exact Zf hl rfl
 have hlen2:(doD D S).net.Nodes.length=D.n:=Qo
 have hl:=Zs (n:=D.n) (k0:=0) (by omega) (by omega) (fun i (t:List Ad)=>(i,t)) (body:=K9 (doD D S).net) (fun k=>rowG k (doD D S).node) (rowG D.n (doD D S).node)
  (fun k _ hk=>by
   have hs:=Qzg X hS hk
   have hlk:(rowG k (doD D S).node++[(doD D S).node k]).length*56<=140737488355328:=by simp [Qo]; omega
   unfold K9
   simp only
   rw [hlen2,aH (dlt hk),show lkI (doD D S).net.Nodes (k:Int)=some ((doD D S).node k) from Qt hk,aC,aH (by have:=hs.par; omega),Q0s (m:=65536) (by omega) hs,aC,aH hlk,Vo])
  (by unfold K9; simp only; rw [hlen2,aI (nlt _)])
 unfold Qcj
 exact Zf hl rfl
theorem Qlr (X:VX D) {ls:List (List Int)} (hl:ls.length<=2) (h:¬ ∀l∈ls,evL D l):X9 D.net ls=some 2:=by
 obtain ⟨order,hr⟩:=Qtq X
 have key:=Yo (n:=ls.length) (by omega) (fun j=>∀l,ls[j]?=some l->evL D l) (fun i (_:Unit)=>i) (body:=Y8 ls D.net) (fun _=>()) (.inr ()) (.inl 2)
  (fun k hk _ hg=>by
   have hg:=hg _ (aG hk)
   unfold Y8
   rw [aH (dlt hk),Qm hk,aC]
   rcases Qtn X ls[k] with ⟨_,c⟩ | ⟨c,_⟩
   ·rw [c,aC,aI (by decide)]
   exact absurd hg c)
  (fun k hk _ hg=>by
   unfold Y8
   rw [aH (dlt hk),Qm hk,aC]
   rcases Qtn X ls[k] with ⟨c,_⟩ | ⟨_,c⟩
   ·exact absurd (fun l hl=>by rw [aG hk] at hl; cases hl; exact c) hg
   rw [c,aC,aH (by decide)])
  (fun _=>by unfold Y8; rw [aI (nlt _)])
 rcases key with ⟨hg,_⟩ | ⟨_,e⟩
 ·refine absurd (fun l hl=>?_) h
  obtain ⟨j,hj,rfl⟩:=bA.1 hl
  exact hg j hj _ (aG hj)
 unfold X9 Qdh
 rw [hr]
 simp only [aC]
 rw [aI (by simp)]
 exact Zf e rfl
theorem Qjj {m:Qa} (h:Yu m=some Qsk) (ls:List (List Int)):X9 m ls=some 50:=by
 unfold X9 Qdh
 rw [h]; rfl
structure DoesM (m:Qa):Prop where
 do_:∀a,∃(g:Int) (l:List Ad) (c:Int),Qb6 m a=some (⟨g,l⟩,c)/\Qcr m a=some (⟨g,l⟩,c)/\l.length<=1000000/\∀x∈l,Vq 1000000 x
 chance:∀a b,∃y:Qk × Int,Ve m a b=some y/\J0 m a b=some y
 effect:∀a b v,∃y:List Qk × Int,Yt m a b v=some y/\Vv m a b v=some y/\y.1.length<=1000000
theorem Q32 {m:Qa} (h:Yu m=some Qsk) (hr:X7 m=some false):DoesM m:=by
 refine ⟨fun a=>⟨0,[],50,?_,?_,by simp,by simp⟩,fun a b=>⟨(⟨0,0⟩,50),?_,?_⟩,fun a b v=>⟨([],50),?_,?_,by simp⟩⟩
 ·unfold Qb6; rw [Qjj h]; rfl
 ·unfold Qcr; rw [hr]; rfl
 ·unfold Ve; rw [Qjj h]; rfl
 ·unfold J0; rw [hr]; rfl
 ·unfold Yt; rw [Qjj h]; rfl
 unfold Vv; rw [hr]; rfl
theorem Qua (X:VX D):DoesM D.net:=by
 have V:=X.vn
 have hR:=Q3v X
 have hlen:D.net.Nodes.length=D.n:=Qo
 have rE:∀{l:List Int},evL D l->Zo D.net l=some true:=fun {l} h=>by
  rcases Q1l V l with ⟨_,c⟩ | ⟨c,_⟩
  ·exact c
  exact absurd h c
 have rN:∀{l:List Int},¬ evL D l->Zo D.net l=some false:=fun {l} h=>by
  rcases Q1l V l with ⟨c,_⟩ | ⟨_,c⟩
  ·exact absurd c h
  exact c
 refine ⟨fun a=>?_,fun a b=>?_,fun a b v=>?_⟩
 ·by_cases ha:evL D a
  ·obtain ⟨S,rfl,hS⟩:=Qli ha
   obtain ⟨y,h1,h2⟩:=Q8e X hS
   refine ⟨_,_,_,Zac X hS,?_,by show (rowG D.n _).length<=_; rw [Qo]; have:=V.n8; omega,Q48 X hS⟩
   unfold Qcr
   rw [hR,aC,aI (by decide),rE ha,aC,aI (by decide),h1,aC,h2]; rfl
  refine ⟨0,[],2,?_,?_,by simp,by simp⟩
  ·unfold Qb6; rw [Qlr X (by simp) (by simpa using ha)]; rfl
  unfold Qcr; rw [hR,aC,aI (by decide),rN ha]; rfl
 ·by_cases hab:evL D a/\evL D b
  ·obtain ⟨ha,hb⟩:=hab
   obtain ⟨S,rfl,hS⟩:=Qli ha
   obtain ⟨E,rfl,hE⟩:=Qli hb
   refine ⟨_,Q1d X hS hE,?_⟩
   unfold J0
   rw [hR,aC,aI (by decide),rE ha,aC,aI (by decide),rE hb,aC,aI (by decide),Q28 V hS hE]; rfl
  refine ⟨(⟨0,0⟩,2),?_,?_⟩
  ·unfold Ve; rw [Qlr X (by simp) (by simpa using hab)]; rfl
  unfold J0
  rw [hR,aC,aI (by decide)]
  by_cases ha:evL D a
  ·rw [rE ha,aC,aI (by decide),rN (fun hb=>hab ⟨ha,hb⟩)]; rfl
  rw [rN ha]; rfl
 by_cases hab:evL D a/\evL D b
 ·obtain ⟨ha,hb⟩:=hab
  obtain ⟨S,rfl,hS⟩:=Qli ha
  obtain ⟨E,rfl,hE⟩:=Qli hb
  by_cases hv:0<=v/\v < D.n
  ·obtain ⟨u,rfl⟩:∃u:Nat,v=u:=⟨v.toNat,by omega⟩
   have hu:u < D.n:=by omega
   refine ⟨_,Q25 X hS hE hu,?_,?_⟩
   ·unfold Vv
    rw [hR,aC,aI (by decide),rE ha,aC,aI (by decide),rE hb,aC,aI (by decide),aI (by simp),aI (by rw [hlen]; simp; omega),Qpg V hS hE,aC]
    unfold Q1b
    by_cases c:Yg D S E=0
    ·rw [aH (by simpa using c),aH c]
    rw [aI (by simpa using c),aI c,Q6l V hS hE hu c]; rfl
   unfold Q1b
   split
   ·simp
   rw [Qo]; have:=V.card u hu; omega
  refine ⟨([],2),?_,?_,by simp⟩
  ·unfold Yt
   rw [show ([rowG D.n S,rowG D.n E]:List (List Int))=[S,E].map (rowG D.n) from rfl,Qsp X [S,E] (by simp) (by simp [hS,hE]),aC,aI (by decide)]
   by_cases c:v < 0
   ·rw [aH (by simpa using c)]
   rw [aI (by simpa using c),aH (by rw [hlen]; simp; omega)]
  unfold Vv
  rw [hR,aC,aI (by decide),rE ha,aC,aI (by decide),rE hb,aC,aI (by decide)]
  by_cases c:v < 0
  ·rw [aH (by simpa using c)]
  rw [aI (by simpa using c),aH (by rw [hlen]; simp; omega)]
 refine ⟨([],2),?_,?_,by simp⟩
 ·unfold Yt; rw [Qlr X (by simp) (by simpa using hab)]; rfl
 unfold Vv
 rw [hR,aC,aI (by decide)]
 by_cases ha:evL D a
 ·rw [rE ha,aC,aI (by decide),rN (fun hb=>hab ⟨ha,hb⟩)]; rfl
 rw [rN ha]; rfl
end
theorem Q4o {n:Nat} {g:Int} {F:Nat -> Ad} (hb:NB n F) (hn:n<=6):DoesM ⟨g,rowG n F⟩:=by
 rcases Q47 (g:=g) hb hn with ⟨D,_,X,e⟩ | ⟨h1,h2⟩
 ·rw [<-e]; exact Qua X
 exact Q32 h1 h2
theorem Q6j {m:Qa} (h:DoesM m) {p5:Int} {a:List Int × List Int}:Qb fuel (Jf p5 m a) 0=some (.inr ()):=by
 have hr:=Zs (n:=4) (k0:=0) (by omega) (by omega) (fun i (_:Unit)=>i) (body:=Jf p5 m a) (fun _=>()) (.inr ())
  (fun k _ hk=>by
   unfold Jf
   rw [aH (by rw [aN]; omega),Qm (by simpa using hk),aC]
   obtain ⟨y,h1,h2,h3⟩:=h.effect a.1 a.2 (([0,zw (Int.tmod (zv p5) 9),p5,-1]:List Int)[k]'(by simpa using hk))
   rw [h1,aC,h2,aC,aI (by simp),Qzv h3,aC,aI (by simp)])
  (by unfold Jf; rw [aI (by decide)])
 exact hr
theorem Q62 {m:Qa} (h:DoesM m) {p5:Int} {x17 x19 x21 x23:List Int} {x9:List Int × List Int}:Qb fuel (V7 x17 x19 x9 x21 x23 m p5) 0=some (.inr ()):=by
 have hr:=Zs (n:=3) (k0:=0) (by omega) (by omega) (fun i (_:Unit)=>i) (body:=V7 x17 x19 x9 x21 x23 m p5) (fun _=>()) (.inr ())
  (fun k _ hk=>by
   unfold V7
   rw [aH (by rw [aN]; omega),Qm (by simpa using hk),aC]
   obtain ⟨a,ha⟩:∃a,a=([(x17,x19),(x9.1,x21),(x23,x9.2)]:List ((List Int) × (List Int)))[k]'(by simpa using hk):=⟨_,rfl⟩
   rw [<-ha]
   obtain ⟨g,l,c,h1,h2,h3,h4⟩:=h.do_ a.1
   obtain ⟨y,k1,k2⟩:=h.chance a.1 a.2
   rw [h1,aC,h2,aC,k1,aC,k2,aC,aI (by simp)]
   dsimp only
   rw [Qwf h3 h4,aC,aI (by simp),aI (by simp),aI (by simp)]
   exact Zf (Q6j h) rfl)
  (by unfold V7; rw [aI (by decide)])
 exact hr
theorem Zap {α:Type} {a b:α} {k:Nat} (h:k < 2) {Q:α->Prop} (h1:Q a) (h2:Q b):∃x,lkI ([a,b]:List α) (k:Int)=some x/\Q x:=by
 match k,h with
 | 0,_=>exact ⟨a,rfl,h1⟩
 | 1,_=>exact ⟨b,rfl,h2⟩
theorem Q78 (a b:List Int):∃y,Qb fuel (Y5) (0,a,b)=some y:=by
 have hc:∀l:List Int,0<=(0:Int)/\(0:Int)<=(if 9 < (l.length:Int) then 9 else (l.length:Int))/\(if 9 < (l.length:Int) then 9 else (l.length:Int))<=(l.length:Int):=fun l=>by
  split <;> omega
 have hr:=Zu (body:=Y5) (fun s=>s.1=0\/s.1=1\/s.1=2) (fun s=>(3 - s.1).toNat) (fun _=>True)
  (fun s hs=>by
   rcases hs with h | h | h
   ·left
    unfold Y5
    rw [h,aH (by decide),aH rfl,aH (hc _)]
    exact ⟨_,rfl,.inr (.inl rfl),by simp⟩
   ·left
    unfold Y5
    rw [h,aH (by decide),aI (by decide),aH rfl,aH (hc _)]
    exact ⟨_,rfl,.inr (.inr rfl),by simp⟩
   right
   unfold Y5
   rw [h,aI (by decide)]
   exact ⟨_,rfl,trivial⟩) (0,a,b) (.inl rfl) (by simp)
 obtain ⟨r,h,_⟩:=hr
 exact ⟨r,h⟩
theorem does_true (p0:Qe) (p1:Zc) (p2 p3:Qj) (p4:List Int × List Int) (p5:Int) (h0:V2 p0) (h1:Qag p1) (h2:V3 p2) (h3:V3 p3) {H4 H5:Prop} (_:H4) (_:H5) :
  Qe9 p0 p1 p2 p3 p4 p5=some true:=by
 obtain ⟨D,n,g,F,X,hB,hn6,e1,e2⟩:=Q3s h0 h1
 obtain ⟨S,hS,eS⟩:=Qxg X h2
 obtain ⟨E,hE,eE⟩:=Qxg X h3
 obtain ⟨x9,e9⟩:=Q78 p4.1 p4.2
 unfold Qe9
 rw [e1,aC,e9,aC,e2,aC]
 have hr:=Zs (n:=2) (k0:=0) (by omega) (by omega) (fun i (_:Unit)=>i) (body:=Kq D.net ⟨g,rowG n F⟩ p2 p3 x9 p5) (fun _=>()) (.inr ())
  (fun k _ hk=>by
   obtain ⟨m,hm,hq⟩:=Zap (a:=D.net) (b:=(⟨g,rowG n F⟩:Qa)) hk (Q:=DoesM) (Qua X.toVX) (Q4o hB hn6)
   unfold Kq
   rw [aH (by rw [aN]; omega),hm,aC]
   rw [show (Qj.mk p2.Which (p2.V.1,p2.V.2.1,p2.V.2.2.1,p2.V.2.2.2.1,p2.V.2.2.2.2.1,p2.V.2.2.2.2.2.1,p2.V.2.2.2.2.2.2.1,p2.V.2.2.2.2.2.2.2))=p2 from rfl,show (Qj.mk p3.Which (p3.V.1,p3.V.2.1,p3.V.2.2.1,p3.V.2.2.2.1,p3.V.2.2.2.2.1,p3.V.2.2.2.2.2.1,p3.V.2.2.2.2.2.2.1,p3.V.2.2.2.2.2.2.2))=p3 from rfl]
   rw [eS,aC,eE,aC,aC,aC]
   exact Zf (Q62 hq) rfl)
  (by unfold Kq; rw [aI (by decide)])
 refine Zf hr ?_
 dsimp only
 rw [Q0k]; rfl
end Go.Ab
namespace Go.Ab
open Go Go.Proofs Go.Proofs.YtgogkahhifkocaaDoor
open Go.ChangeShapes Go.WideShapes Go.ChangeAt Go.RowKit
abbrev dr_laid:List (String × DataW Unit):=[("math/bits.deBruijn32tab",Rows.laid_math_bits_deBruijn32tab),("math/bits.deBruijn64tab",Rows.laid_math_bits_deBruijn64tab)]
theorem dr_own:ownKnob Tryd.prog.godebug=none:=by kernel_rfl
theorem Q5u:Tryd.prog.globalNamed "math/bits.deBruijn32tab" = some 0:=by kernel_rfl
theorem Q5l:Tryd.prog.globalNamed "math/bits.deBruijn64tab" = some 1:=by kernel_rfl
theorem dr_met (os:Os) (args:Array Value):laidMetH Tryd.prog dr_laid ((World.doorLaid Tryd.prog 19 os).forCall (fun _ _=>0) ⟨#[],args,[]⟩).memory :=
 laidMetH_of_parts3 (fuel:=8) (laidMet_of_run' 8 (by kernel_rfl) (by kernel_rfl)) (by kernel_rfl) (by kernel_rfl)
theorem dr_glob {W:World} (h:laidMetH Tryd.prog dr_laid W):Go.Ab.GlobIn W:=by
 rw [MakeChecks.laidMetH_plain _ _ _ (by kernel_rfl)] at h
 have h0:=Lib.tabIs_of_head (k:=.u8) (zs:=Go.Ab.tab0) (t:=251) (e:=5) (n:=32) Q5u (by kernel_rfl) (by kernel_rfl) (by kernel_rfl) (by kernel_rfl) (by kernel_rfl) h
 have h1:=Lib.tabIs_of_head (k:=.u8) (zs:=Go.Ab.tab1) (t:=252) (e:=5) (n:=64) Q5l (by kernel_rfl) (by kernel_rfl) (by kernel_rfl) (by kernel_rfl) (by kernel_rfl) h.tail
 intro g xs hg i v hv
 match g,hg with
 | 0,hg =>
  cases hg
  have hi:i < Go.Ab.tab0.length:=by have:=(aD.1 hv).1; simpa using this
  have:=h0.cell Q5u i hi
  rw [this]
  rw [bD] at hv
  simpa [List.getD,hi] using hv
 | 1,hg =>
  cases hg
  have hi:i < Go.Ab.tab1.length:=by have:=(aD.1 hv).1; simpa using this
  have:=h1.cell Q5l i hi
  rw [this]
  rw [bD] at hv
  simpa [List.getD,hi] using hv
 | n+2,hg=>cases hg
end Go.Ab
