/- Functions. No conditions. -/
import Derived.Test.YtgogkahhifkocaaDoorW14
set_option maxRecDepth 100000
set_option maxHeartbeats 1000000
set_option linter.all false
namespace Go.Ab
open Go
theorem Q35 {τ ρ σ:Type} {n:Nat} (hn:n<=10) (mkS:Int->τ->σ) {body:σ->Option (Qg σ ρ)} (I:Nat -> τ->Prop) (Q:ρ->Prop) (p:Nat -> Bool)
  (step:∀(x:Nat) (t:τ) (R R':Int),x < n->p x=true->I x t->(R != 0)=true->Qv R=some (x:Int) ->
   zv (zb R &&& zb (zv (R - 1))).toNat = R' ->
   (∃t',body (mkS R t)=some (.next (mkS R' t'))/\I (x+1) t')\/(∃r,body (mkS R t)=some (.done r)/\Q r))
  (skip:∀(x:Nat) (t:τ),x < n->p x=false->I x t->I (x+1) t)
  (done:∀t,I n t->∃r,body (mkS 0 t)=some (.done r)/\Q r) (t0:τ) (h0:I 0 t0) :
  ∃r,Qb fuel body (mkS ((msk n p:Nat):Int) t0)=some r/\Q r:=by
 have key:∀(j N k:Nat) (t:τ),k+j=n->j < N->I k t->∃r,Qb N body (mkS ((msk n fun i=>p i && decide (k<=i):Nat):Int) t)=some r/\Q r:=by
  intro j
  induction j using Nat.strongRecOn with
  | _ j ih =>
   intro N k t hk hN hI
   by_cases hx:∃i,k<=i/\i < n/\p i=true
   ·obtain ⟨x,x1,x2,x3,x4⟩:∃x,k<=x/\x < n/\p x=true/\∀i,k<=i->i < x->p i=false:=by
     have hs:=Qos n (fun i=>p i && decide (k<=i)) (by obtain ⟨i,a,b,c⟩:=hx; exact ⟨i,b,by simp [a,c]⟩)
     refine ⟨_,?_,hs.1,?_,fun i a b=>?_⟩
     ·have:=hs.2.1; simp at this; exact this.2
     ·have:=hs.2.1; simp at this; exact this.1
     have:=hs.2.2 i b; simpa [a] using this
    have hIx:I x t:=by
     have:∀d,k+d<=x->I (k+d) t:=by
      intro d
      induction d with
      | zero=>intro _; exact hI
      | succ d ihd=>intro h; exact skip (k+d) t (by omega) (x4 _ (by omega) (by omega)) (ihd (by omega))
     have h:=this (x - k) (by omega)
     rwa [show k+(x - k)=x by omega] at h
    obtain ⟨N,rfl⟩:∃M,N=M+1:=⟨N - 1,by omega⟩
    obtain ⟨a1,a2,a3⟩:=Q2z (n:=n) (v:=x) (p:=fun i=>p i && decide (k<=i)) hn x2 (by simp [x1,x3]) (fun i hi=>by
     by_cases h:k<=i
     ·rw [x4 i h hi]; rfl
     simp [h])
    have e:msk n (fun i=>(p i && decide (k<=i)) && !decide (x=i))=msk n fun i=>p i && decide (x+1<=i):=Ye fun i hi=>by
     by_cases h:x+1<=i
     ·have h2:¬ x=i:=by omega
      have h3:k<=i:=by omega
      simp [h,h2,h3]
     by_cases h2:x=i
     ·subst h2; simp
     by_cases h3:k<=i
     ·rw [x4 i h3 (by omega)]; simp
     simp [h,h3]
    rw [e] at a3
    rcases step x t _ _ x2 x3 hIx a1 a2 a3 with ⟨t',b1,b2⟩ | ⟨r,b1,b2⟩
    ·simp only [Qb,b1]
     exact ih (n - (x+1)) (by omega) N (x+1) t' (by omega) (by omega) b2
    simp only [Qb,b1]
    exact ⟨r,rfl,b2⟩
   have hno:∀i,k<=i->i < n->p i=false:=fun i a b=>by
    rw [bK]; exact fun h=>hx ⟨i,a,b,h⟩
   have e:msk n (fun i=>p i && decide (k<=i))=0:=by
    have:msk n (fun _=>false)=0:=(Qdy (by have:=Nat.two_pow_pos n; omega) fun i _=>by simp).symm
    rw [<-this]
    exact Ye fun i hi=>by
     by_cases h:k<=i
     ·rw [hno i h hi]; rfl
     simp [h]
   have hIn:I n t:=by
    have:∀d,k+d<=n->I (k+d) t:=by
     intro d
     induction d with
     | zero=>intro _; exact hI
     | succ d ihd=>intro h; exact skip (k+d) t (by omega) (hno _ (by omega) (by omega)) (ihd (by omega))
    have h:=this (n - k) (by omega)
    rwa [show k+(n - k)=n by omega] at h
   obtain ⟨N,rfl⟩:∃M,N=M+1:=⟨N - 1,by omega⟩
   rw [e]
   obtain ⟨r,b1,b2⟩:=done t hIn
   refine ⟨r,?_,b2⟩
   show Qb (N+1) body (mkS 0 t)=_
   simp only [Qb,b1]
 have h:=key n fuel 0 t0 (by omega) (by show n < 1152921504606846976; omega) h0
 have e:msk n (fun i=>p i && decide (0<=i))=msk n p:=Ye fun i _=>by simp
 rwa [e] at h
abbrev Stp:=List (Ag × Bool)
def vis (m:Stp) (v:Nat) (d:Bool):Bool:=(Ve An m ⟨(v:Int),d⟩).getD false
theorem Qv7 (a b:Ag):An a b=decide (a=b):=by
 obtain ⟨a1,a2⟩:=a; obtain ⟨b1,b2⟩:=b
 rw [aP]
 simp [An]
theorem Q3b {m:Stp} {k k':Ag} {v:Bool}:Ve An (kput An m k v) k'=if k'=k then some v else Ve An m k':=by
 induction m with
 | nil=>simp only [kput,Ve,Qv7,aN]
 | cons p r ih =>
  simp only [kput]
  by_cases h:k=p.1
  ·rw [aH (by rw [Qv7]; exact cW h)]
   simp only [Ve,Qv7,aN]
   by_cases h2:k'=k
   ·rw [aH h2,aH h2]
   rw [aI h2,aI h2,aI (by rw [<-h]; exact h2)]
  rw [aI (by rw [Qv7]; simpa using h)]
  simp only [Ve,Qv7,aN]
  by_cases h2:k'=p.1
  ·rw [aH h2,aI (by rw [h2]; exact fun e=>h e.symm),aH h2]
  rw [aI h2,ih,aI h2]
theorem Q6p {m:Stp} {v u:Nat} {d e:Bool}:vis (kput An m ⟨(v:Int),d⟩ true) u e=(vis m u e || (decide (u=v) && decide (e=d))):=by
 unfold vis
 rw [Q3b]
 by_cases h:(⟨(u:Int),e⟩:Ag)=⟨(v:Int),d⟩
 ·rw [aH h]
  simp only [Ag.mk.injEq,cY] at h
  simp [h.1,h.2]
 rw [aI h]
 simp only [Ag.mk.injEq,cY,not_and] at h
 by_cases h1:u=v
 ·simp [h1,h h1]
 simp [h1]
section
variable (n:Nat) (S:Nat -> Nat) (z az x:Nat)
def Suc (m:Stp) (u:Nat) (e:Bool):Prop :=
 (z.testBit u=false->∀c,c < n->(S c).testBit u=true->vis m c true=true)/\(e=false->z.testBit u=false->∀p,p < n->(S u).testBit p=true->vis m p false=true)/\(e=true->az.testBit u=true->∀p,p < n->(S u).testBit p=true->vis m p false=true)
structure DI (m:Stp) (r:Nat):Prop where
 rr:∀u,r.testBit u=true↔(u < n/\z.testBit u=false/\(vis m u true=true\/vis m u false=true))
 sd:∀u e,vis m u e=true->Rch S z az x u e
structure DE (m m':Stp):Prop where
 le:∀u e,vis m u e=true->vis m' u e=true
 new:∀u e,vis m' u e=true->vis m u e=false->Suc n S z az m' u e
def unv (m:Stp):Nat := cnt (2*n) fun k=>!vis m (k / 2) (k % 2==1)
variable {n S z az x}
theorem Suc.mono {m m':Stp} (h:∀u e,vis m u e=true->vis m' u e=true) {u:Nat} {e:Bool} (k:Suc n S z az m u e):Suc n S z az m' u e :=
 ⟨fun a c b d=>h _ _ (k.1 a c b d),fun a b p c d=>h _ _ (k.2.1 a b p c d),fun a b p c d=>h _ _ (k.2.2 a b p c d)⟩
theorem DE.refl {m:Stp}:DE n S z az m m:=⟨fun _ _ h=>h,fun u e h k=>by rw [h] at k; cases k⟩
theorem DE.trans {m m1 m2:Stp} (h:DE n S z az m m1) (k:DE n S z az m1 m2):DE n S z az m m2:=⟨fun u e a=>k.le u e (h.le u e a),fun u e a b=>by
 cases hv:vis m1 u e with
 | true=>exact (h.new u e hv b).mono k.le
 | false=>exact k.new u e a hv⟩
theorem Quw {m m':Stp} (h:∀u e,vis m u e=true->vis m' u e=true):unv n m'<=unv n m:=Qkn fun k _ hk=>by
 cases hv:vis m (k / 2) (k % 2==1) with
 | true=>rw [h _ _ hv] at hk; cases hk
 | false=>rfl
theorem Q80 {m m':Stp} (h:∀u e,vis m u e=true->vis m' u e=true) {v:Nat} {d:Bool} (hv:v < n) (h0:vis m v d=false) (h1:vis m' v d=true):unv n m' < unv n m:=by
 have hk:2*v+d.toNat < 2*n:=by cases d <;> simp <;> omega
 have e1:(2*v+d.toNat) / 2=v:=by cases d <;> simp <;> omega
 have e2:((2*v+d.toNat) % 2==1)=d:=by cases d <;> simp <;> omega
 have e:=Qi3 (n:=2*n) (v:=2*v+d.toNat) (p:=fun k=>!vis m (k / 2) (k % 2==1)) hk (by rw [e1,e2,h0]; rfl)
 have:unv n m'<=cnt (2*n) (fun i=>!vis m (i / 2) (i % 2==1) && !decide (2*v+d.toNat = i)):=Qkn fun k _ hk=>by
  have hne:¬ 2*v+d.toNat = k:=fun e3=>by subst e3; rw [e1,e2,h1] at hk; cases hk
  cases hv2:vis m (k / 2) (k % 2==1) with
  | true=>rw [h _ _ hv2] at hk; cases hk
  | false=>simp [hne]
 unfold unv at *
 omega
def Qrn (s:Int × Bool × Int × Stp) (y:Int × Stp):Prop:=∃v r':Nat,s.1=(v:Int)/\y.1=(r':Int)/\DI n S z az x y.2 r'/\DE n S z az s.2.2.2 y.2/\vis y.2 v s.2.1=true
def Qwi (s:Int × Bool × Int × Stp):Prop:=∃v r:Nat,s.1=(v:Int)/\v < n/\s.2.2.1=(r:Int)/\DI n S z az x s.2.2.2 r/\Rch S z az x v s.2.1
theorem Qhl {D:Bool} {p:Nat -> Bool} (hn:n<=8) {M:Nat} {d:Int × Bool × Int × Stp->Option (Int × Stp)} (hd:∀s',Qwi (n:=n) (S:=S) (z:=z) (az:=az) (x:=x) s'->unv n s'.2.2.2 < M->∃y,d s'=some y/\Qrn (n:=n) (S:=S) (z:=z) (az:=az) (x:=x) s' y)
  {body:Int × Int × Stp->Option (Qg (Int × Int × Stp) (Int × Stp))}
  (hb:∀s,body s=if (s.1 != 0)=true then (Qv s.1).bind fun i=>(d (i,D,s.2.1,s.2.2)).bind fun y=>some (.next (zv (zb s.1 &&& zb (zv (s.1 - 1))).toNat,y.1,y.2)) else some (.done (s.2.1,s.2.2)))
  (hr:∀i,i < n->p i=true->Rch S z az x i D) {m0:Stp} {r0:Nat} (h0:DI n S z az x m0 r0) (hM:unv n m0 < M) :
  ∃y,Qb fuel body (((msk n p:Nat):Int),(r0:Int),m0)=some y/\∃r':Nat,y.1=(r':Int)/\DI n S z az x y.2 r'/\DE n S z az m0 y.2/\∀i,i < n->p i=true->vis y.2 i D=true:=by
 have h:=Q35 (n:=n) (by omega) (fun R (t:Int × Stp)=>(R,t.1,t.2)) (body:=body)
  (fun k t=>∃r:Nat,t.1=(r:Int)/\DI n S z az x t.2 r/\DE n S z az m0 t.2/\∀i,i < k->i < n->p i=true->vis t.2 i D=true)
  (fun y=>∃r':Nat,y.1=(r':Int)/\DI n S z az x y.2 r'/\DE n S z az m0 y.2/\∀i,i < n->p i=true->vis y.2 i D=true) p
  (fun i t R R' hi hp hI hR htz hrest=>by
   left
   obtain ⟨r,h1,h2,h3,h4⟩:=hI
   obtain ⟨y,g1,v,r',g2,g3,g4,g5,g6⟩:=hd ((i:Int),D,t.1,t.2) ⟨i,r,rfl,hi,h1,h2,hr i hi hp⟩ (bX (Quw h3.le) hM)
   have hv:i=v:=cY.1 g2
   subst hv
   refine ⟨y,?_,r',g3,g4,h3.trans g5,fun j hj hjn hpj=>?_⟩
   ·rw [hb]
    dsimp only
    rw [aH hR,htz,aC,g1,aC,hrest]
   by_cases e:j=i
   ·subst e; exact g6
   exact g5.le _ _ (h4 j (by omega) hjn hpj))
  (fun i t hi hp hI=>by
   obtain ⟨r,h1,h2,h3,h4⟩:=hI
   refine ⟨r,h1,h2,h3,fun j hj hjn hpj=>?_⟩
   by_cases e:j=i
   ·subst e; rw [hp] at hpj; cases hpj
   exact h4 j (by omega) hjn hpj)
  (fun t hI=>by
   obtain ⟨r,h1,h2,h3,h4⟩:=hI
   refine ⟨t,?_,r,h1,h2,h3,fun i hi hp=>h4 i hi hi hp⟩
   rw [hb]
   dsimp only
   rw [aI (by decide)]) ((r0:Int),m0) ⟨r0,rfl,h0,.refl,fun i hi=>by omega⟩
 exact h
end
end Go.Ab
namespace Go.Ab
open Go
section
variable {n:Nat} {S:Nat -> Nat} {z x:Nat} (hn:n<=8) (hS:Gd n S) (hz:∀j,z.testBit j=true->j < n) (hx:∀j,x.testBit j=true->j < n)
def chN (n:Nat) (S:Nat -> Nat) (v:Nat):Nat := msk n fun c=>(S c).testBit v
abbrev grS (n:Nat) (S:Nat -> Nat):Qx:=⟨⟨Qe n S⟩,Qe n (chN n S)⟩
include hn hS hz hx
theorem Zy {a:Nat} (h:∀j,a.testBit j=true->j < n):a < 18446744073709551616:=by
 have:=lt_pow h
 have:(2:Nat)^n<=256:=aV (n:=2) (by omega) hn
 omega
theorem Qq9 {v:Nat} (hv:v < n):(S v:Int)=((msk n (S v).testBit:Nat):Int):=by
 rw [<-Qdy (lt_pow (hS.inn v hv)) fun i _=>rfl]
theorem Q4u {j:Nat} (h:(anZ n S z).testBit j=true):j < n:=Qmq hS.inn hz h
theorem Q9p {d:Int × Bool × Int × Stp->Option (Int × Stp)} {s:Int × Bool × Int × Stp} (hI:Qwi (n:=n) (S:=S) (z:=z) (az:=anZ n S z) (x:=x) s)
  (hd:∀s',Qwi (n:=n) (S:=S) (z:=z) (az:=anZ n S z) (x:=x) s'->unv n s'.2.2.2 < unv n s.2.2.2->∃y,d s'=some y/\Qrn (n:=n) (S:=S) (z:=z) (az:=anZ n S z) (x:=x) s' y) :
  ∃y,Zu (z:Int) (grS n S) ((anZ n S z:Nat):Int) d s=some y/\Qrn (n:=n) (S:=S) (z:=z) (az:=anZ n S z) (x:=x) s y:=by
 obtain ⟨sv,D,sr,m⟩:=s
 obtain ⟨v,r,h1,hv,h2,hDI,hR⟩:=hI
 dsimp only at h1 h2 hDI hR hd
 subst h1; subst h2
 have z64:=Zy hn hS hz hx hz
 have az64:=Zy hn hS hz hx (fun j hj=>Q4u hn hS hz hx hj)
 have hch:(chN n S v:Int)=((msk n fun c=>(S c).testBit v:Nat):Int):=rfl
 have bitz:∀{a k:Nat},a < 18446744073709551616->k < 64->((zv (zb (Int.fdiv (a:Int) (2^min (Int.toNat (k:Int)) zk)) &&& zb 1).toNat)==0)=!a.testBit k:=fun {a k} ha hk=>by
  rw [Qe2 ha hk]; cases a.testBit k <;> rfl
 have bito:∀{a k:Nat},a < 18446744073709551616->k < 64->((zv (zb (Int.fdiv (a:Int) (2^min (Int.toNat (k:Int)) zk)) &&& zb 1).toNat)==1)=a.testBit k:=fun {a k} ha hk=>by
  rw [Qe2 ha hk]; cases a.testBit k <;> rfl
 unfold Zu
 dsimp only
 cases hvis:vis m v D with
 | true =>
  refine ⟨((r:Int),m),?_,v,r,rfl,rfl,hDI,.refl,hvis⟩
  have:(Ve An m ⟨(v:Int),D⟩).getD false=true:=hvis
  rw [aH this]
 | false =>
  have hnk:¬ (Ve An m ⟨(v:Int),D⟩).getD false=true:=by
   have:(Ve An m ⟨(v:Int),D⟩).getD false=false:=hvis
   rw [this]; decide
  rw [aI hnk,aH (Z4 v),bitz z64 (show v < 64 by omega)]
  generalize hm1:kput An m ⟨(v:Int),D⟩ true=m1
  have hv1:∀u e,vis m1 u e=(vis m u e || (decide (u=v) && decide (e=D))):=fun u e=>by rw [<-hm1]; exact Q6p
  have le1:∀u e,vis m u e=true->vis m1 u e=true:=fun u e h=>by rw [hv1,h]; rfl
  have hself:vis m1 v D=true:=by rw [hv1]; simp
  have hunv:unv n m1 < unv n m:=Q80 le1 hv hvis hself
  have sd1:∀u e,vis m1 u e=true->Rch S z (anZ n S z) x u e:=fun u e h=>by
   rw [hv1,aM,aE] at h
   rcases h with h | ⟨h3,h4⟩
   ·exact hDI.sd u e h
   rw [aQ h3,aQ h4]; exact hR
  have fin:∀{m2:Stp} {r2:Nat},DI n S z (anZ n S z) x m2 r2->DE n S z (anZ n S z) m1 m2->Suc n S z (anZ n S z) m2 v D->Qrn (n:=n) (S:=S) (z:=z) (az:=anZ n S z) (x:=x) ((v:Int),D,(r:Int),m) ((r2:Int),m2):=fun {m2 r2} g1 g2 g3=>by
   refine ⟨v,r2,rfl,rfl,g1,⟨fun u e h=>g2.le u e (le1 u e h),fun u e h k=>?_⟩,g2.le _ _ hself⟩
   cases hu:vis m1 u e with
   | true =>
    rw [hv1,k,Bool.false_or,aE] at hu
    rw [aQ hu.1,aQ hu.2]
    exact g3
   | false=>exact g2.new u e h hu
  cases hvz:z.testBit v with
  | false =>
   rw [aH (by decide),aH (Z4 v),Qy hv,aC,hch]
   have hr64:r < 18446744073709551616:=Zy hn hS hz hx fun j hj=>((hDI.rr j).1 hj).1
   rw [Qrh (show v < 64 by omega),Vc hr64 (Qpy (by omega))]
   have hDI1:DI n S z (anZ n S z) x m1 (r ||| 2^v):=⟨fun u=>by
    rw [bH,V5,aM,hDI.rr u,hv1,hv1]
    constructor
    ·rintro (⟨g1,g2,g3⟩ | g)
     ·refine ⟨g1,g2,?_⟩
      rcases g3 with g3 | g3
      ·left; rw [g3]; rfl
      right; rw [g3]; rfl
     have:=aQ g
     subst this
     refine ⟨hv,hvz,?_⟩
     cases D with
     | true=>left; simp
     | false=>right; simp
    rintro ⟨g1,g2,g3⟩
    by_cases e:v=u
    ·right; simp [e]
    have e':¬ u=v:=fun h=>e h.symm
    left
    refine ⟨g1,g2,?_⟩
    simp only [e',decide_false,Bool.false_and,Bool.or_false] at g3
    exact g3,sd1⟩
   obtain ⟨y1,w1,r1,e1,g1,g2,g3⟩:=Qhl (D:=true) (p:=fun c=>(S c).testBit v) hn (M:=unv n m) hd (body:=Qbc d) (fun s=>rfl) (fun i _ hp=>.dn hR hvz hp) hDI1 hunv
   rw [w1,aC]
   have hs1:z.testBit v=false->∀c,c < n->(S c).testBit v=true->vis y1.2 c true=true:=fun _ c hc hb=>g3 c hc hb
   cases hD:D with
   | true =>
    rw [aH rfl,aH (Z4 v),bitz az64 (show v < 64 by omega)]
    cases haz:(anZ n S z).testBit v with
    | false =>
     rw [aH (by decide)]
     refine ⟨_,rfl,?_⟩
     have:=fin g1 g2 ⟨hs1,fun e=>(by rw [hD] at e; cases e),fun _ e=>(by rw [haz] at e; cases e)⟩
     rw [hD] at this
     rw [e1]; exact this
    | true =>
     rw [aI (by decide),Qy hv,aC,Qq9 hn hS hz hx hv,e1]
     obtain ⟨y2,w2,r2,e2,k1,k2,k3⟩:=Qhl (D:=false) (p:=(S v).testBit) hn (M:=unv n m) hd (body:=Qa9 d) (fun s=>rfl) (fun i _ hp=>.turn (by rw [<-hD]; exact hR) haz hp) g1 (bX (Quw g2.le) hunv)
     rw [w2,aC]
     refine ⟨_,rfl,?_⟩
     have:=fin k1 (g2.trans k2) ⟨fun a c hc hb=>k2.le _ _ (hs1 a c hc hb),fun e=>(by rw [hD] at e; cases e),fun _ _ p hp hb=>k3 p hp hb⟩
     rw [hD] at this
     rw [e2]; exact this
   | false =>
    rw [aI (by decide),aH (Z4 v),bito z64 (show v < 64 by omega),hvz,aI (by decide),Qy hv,aC,Qq9 hn hS hz hx hv,e1]
    obtain ⟨y2,w2,r2,e2,k1,k2,k3⟩:=Qhl (D:=false) (p:=(S v).testBit) hn (M:=unv n m) hd (body:=Qa6 d) (fun s=>rfl) (fun i _ hp=>.up (by rw [<-hD]; exact hR) hvz hp) g1 (bX (Quw g2.le) hunv)
    rw [w2,aC]
    refine ⟨_,rfl,?_⟩
    have:=fin k1 (g2.trans k2) ⟨fun a c hc hb=>k2.le _ _ (hs1 a c hc hb),fun _ _ p hp hb=>k3 p hp hb,fun e=>(by rw [hD] at e; cases e)⟩
    rw [hD] at this
    rw [e2]; exact this
  | true =>
   rw [aI (by decide)]
   have hDI1:DI n S z (anZ n S z) x m1 r:=⟨fun u=>by
    rw [hDI.rr u,hv1,hv1]
    constructor
    ·rintro ⟨g1,g2,g3⟩
     refine ⟨g1,g2,?_⟩
     rcases g3 with g3 | g3
     ·left; rw [g3]; rfl
     right; rw [g3]; rfl
    rintro ⟨g1,g2,g3⟩
    have e':¬ u=v:=fun h=>by subst h; rw [hvz] at g2; cases g2
    refine ⟨g1,g2,?_⟩
    simp only [e',decide_false,Bool.false_and,Bool.or_false] at g3
    exact g3,sd1⟩
   have hs1:z.testBit v=false->False:=fun e=>by rw [hvz] at e; cases e
   cases hD:D with
   | true =>
    rw [aH rfl,aH (Z4 v),bitz az64 (show v < 64 by omega)]
    have haz:(anZ n S z).testBit v=true:=Xq n v hvz
    rw [haz,aI (by decide),Qy hv,aC,Qq9 hn hS hz hx hv]
    obtain ⟨y2,w2,r2,e2,k1,k2,k3⟩:=Qhl (D:=false) (p:=(S v).testBit) hn (M:=unv n m) hd (body:=Qbe d) (fun s=>rfl) (fun i _ hp=>.turn (by rw [<-hD]; exact hR) haz hp) hDI1 hunv
    rw [w2,aC]
    refine ⟨_,rfl,?_⟩
    have:=fin k1 k2 ⟨fun a=>(hs1 a).elim,fun e=>(by rw [hD] at e; cases e),fun _ _ p hp hb=>k3 p hp hb⟩
    rw [hD] at this
    rw [e2]; exact this
   | false =>
    rw [aI (by decide),aH (Z4 v),bito z64 (show v < 64 by omega),hvz,aH rfl]
    refine ⟨_,rfl,?_⟩
    have:=fin hDI1 .refl ⟨fun a=>(hs1 a).elim,fun _ a=>(hs1 a).elim,fun e=>(by rw [hD] at e; cases e)⟩
    rw [hD] at this
    exact this
theorem Q4c:Qb fuel (Xm (grS n S)) (0,(z:Int))=some ((anZ n S z:Nat):Int):=by
 have hlen:(Qe n S).length=n:=Ql
 have hfull:=Qc2 n hS.inn
 have hs0:Zh z (2^n - 1):=fun j hj=>by rw [bD]; simpa using hz j hj
 have hlt:∀{t:Nat},Zh t (2^n - 1)->t < 18446744073709551616:=fun h=>Zy hn hS hz hx fun j hj=>by have:=h j hj; rw [bD] at this; simpa using this
 have inner:∀t,Zh t (2^n - 1)->Qb fuel (Xp (grS n S)) ((0:Int),(t:Int))=some ((upR n S t:Nat):Int):=fun t ht=>by
  have h:=Zc (n:=n) (k0:=0) (by omega) (by omega) (fun i (x:Int)=>(i,x)) (body:=Xp (grS n S)) (fun k=>(((List.range k).foldl (upV S) t:Nat):Int)) ((upR n S t:Nat):Int)
   (fun k _ hk=>by
    have hsub:=Qjq (S:=S) (T:=2^n - 1) (List.range k) t (fun v hv=>hfull v (by have:=cS.1 hv; omega)) ht
    unfold Xp
    dsimp only
    rw [hlen,aH (dlt hk),Qy hk,aC,aH (Z4 k),Qe2 (hlt hsub) (by omega),List.range_succ,List.foldl_append]
    simp only [List.foldl_cons,List.foldl_nil]
    generalize (List.range k).foldl (upV S) t=q at *
    unfold upV
    cases c:q.testBit k with
    | true =>
     rw [aH (by rfl),aH rfl,Vc (hlt hsub) (Zy hn hS hz hx (hS.inn k hk))]
    | false=>rw [aI (by decide),aI (by decide)])
   (by unfold Xp; dsimp only; rw [hlen,aI (nlt n)]; rfl)
  rw [show ((0:Nat):Int)=0 from rfl] at h
  exact h
 have h:=Zc (n:=n) (k0:=0) (by omega) (by omega) (fun i (x:Int)=>(i,x)) (body:=Xm (grS n S)) (fun k=>((ups n S k z:Nat):Int)) ((ups n S n z:Nat):Int)
  (fun k _ hk=>by
   unfold Xm
   dsimp only
   rw [hlen,aH (dlt hk),inner _ (Ya hfull hs0 k)]; rfl)
  (by unfold Xm; dsimp only; rw [hlen,aI (nlt n)])
 rw [show ((0:Nat):Int)=0 from rfl] at h
 exact h
theorem Q0x:∃r:Nat,Vq (grS n S) (x:Int) (z:Int)=some (r:Int)/\∀u,r.testBit u=true↔(u < n/\z.testBit u=false/\∃d,Rch S z (anZ n S z) x u d):=by
 have hzero:DI n S z (anZ n S z) x ([]:Stp) 0:=⟨fun u=>by simp [vis,Ve],fun u e h=>by simp [vis,Ve] at h⟩
 have hpx:(x:Int)=((msk n x.testBit:Nat):Int):=by rw [<-Qdy (lt_pow hx) fun i _=>rfl]
 have hrec:∀s,Qwi (n:=n) (S:=S) (z:=z) (az:=anZ n S z) (x:=x) s->∃y,Qbh (Zu (z:Int) (grS n S) ((anZ n S z:Nat):Int)) fuel s=some y/\Qrn (n:=n) (S:=S) (z:=z) (az:=anZ n S z) (x:=x) s y:=fun s hs =>
  Qsu (F:=Zu (z:Int) (grS n S) ((anZ n S z:Nat):Int)) (Qwi (n:=n) (S:=S) (z:=z) (az:=anZ n S z) (x:=x)) (fun s=>unv n s.2.2.2) (Qrn (n:=n) (S:=S) (z:=z) (az:=anZ n S z) (x:=x))
   (fun d s hs hd=>Q9p hn hS hz hx hs hd) fuel s hs (by
    have:unv n s.2.2.2<=2*n:=Qqx _ _
    show unv n s.2.2.2 < fuel
    unfold fuel; omega)
 obtain ⟨y,w,r,e1,g1,g2,g3⟩:=Qhl (S:=S) (z:=z) (az:=anZ n S z) (x:=x) (D:=false) (p:=x.testBit) hn (M:=unv n ([]:Stp)+1) (d:=Qbh (Zu (z:Int) (grS n S) ((anZ n S z:Nat):Int)) fuel) (fun s' hs' _=>hrec s' hs')
  (body:=Qbd (z:Int) (grS n S) ((anZ n S z:Nat):Int)) (fun s=>rfl) (fun i _ hp=>.start hp) hzero (by omega)
 refine ⟨r,?_,fun u=>?_⟩
 ·unfold Vq
  rw [Q4c hn hS hz hx,aC,hpx]
  rw [show ((0:Nat):Int)=0 from rfl] at w
  rw [w,aC,e1]
 rw [g1.rr u]
 constructor
 ·rintro ⟨h1,h2,h3⟩
  refine ⟨h1,h2,?_⟩
  rcases h3 with h3 | h3
  ·exact ⟨_,g1.sd u true h3⟩
  exact ⟨_,g1.sd u false h3⟩
 rintro ⟨h1,h2,d,h3⟩
 refine ⟨h1,h2,?_⟩
 have hall:∀u e,Rch S z (anZ n S z) x u e->u < n->vis y.2 u e=true:=fun u e h=>by
  have hsuc:∀u e,vis y.2 u e=true->Suc n S z (anZ n S z) y.2 u e:=fun u e h=>g2.new u e h (by simp [vis,Ve])
  have key:(vis y.2 u e=true/\u < n)\/(n<=u/\e=true):=by
   induction h with
   | start h=>exact .inl ⟨g3 _ (hx _ h) h,hx _ h⟩
   | @up v p hr hv hp ih =>
    rcases ih with ⟨ih,hvn⟩ | ⟨_,ih⟩
    ·have hpn:=hS.inn v hvn p hp
     exact .inl ⟨(hsuc v false ih).2.1 rfl hv p hpn hp,hpn⟩
    cases ih
   | @dn v c d hr hv hc ih =>
    by_cases hcn:c < n
    ·have hvn:=hS.inn c hcn v hc
     rcases ih with ⟨ih,_⟩ | ⟨ih,_⟩
     ·exact .inl ⟨(hsuc v d ih).1 hv c hcn hc,hcn⟩
     omega
    exact .inr ⟨by omega,rfl⟩
   | @turn v p hr hv hp ih =>
    have hvn:=Q4u hn hS hz hx hv
    rcases ih with ⟨ih,_⟩ | ⟨ih,_⟩
    ·have hpn:=hS.inn v hvn p hp
     exact .inl ⟨(hsuc v true ih).2.2 rfl hv p hpn hp,hpn⟩
    omega
  intro hu
  rcases key with h | h
  ·exact h.1
  omega
 cases d with
 | true=>exact .inl (hall u true h3 h1)
 | false=>exact .inr (hall u false h3 h1)
end
end Go.Ab
namespace Go.Ab
open Go
section
variable {n:Nat} {S:Nat -> Nat} (hn1:1<=n) (hn:n<=8) (hS:Gd n S)
theorem Q7p {b:Bool} {i:Nat} (hi:i < 64):zv ((b.toNat : Int)*2^min (Int.toNat (i:Int)) zk)=(((if b=true then 2^i else 0:Nat)):Int):=by
 cases b with
 | true=>exact Qrh hi
 | false=>simp; rfl
def chP (n:Nat) (S:Nat -> Nat) (i p u:Nat):Nat := msk n fun c=>(decide (c < i) || (decide (c=i) && decide (u < p))) && (S c).testBit u
include hn hS
theorem Q7j {i p u:Nat}:chP n S i p u < 18446744073709551616:=by
 have:=Qju n fun c=>(decide (c < i) || (decide (c=i) && decide (u < p))) && (S c).testBit u
 have:(2:Nat)^n<=256:=aV (n:=2) (by omega) hn
 unfold chP; omega
theorem Q2p {i p:Nat} (hi:i < n) (u:Nat):(if u=p then chP n S i p p ||| (if (S i).testBit p=true then 2^i else 0) else chP n S i p u)=chP n S i (p+1) u:=by
 by_cases e:u=p
 ·subst e
  rw [aH rfl]
  apply dX
  intro c
  unfold chP
  rw [bH,Q3,Q3]
  by_cases h:c=i
  ·subst h
   cases hb:(S c).testBit u <;> simp [hi,hb,V5]
  have h':¬ i=c:=fun e=>h e.symm
  cases hb:(S i).testBit u <;> simp [h,h',V5]
 rw [aI e]
 unfold chP
 refine Ye fun c _=>?_
 have:decide (u < p+1)=decide (u < p):=by rw [aP]; simp; omega
 rw [this]
theorem Q1j:Qb fuel (Vt (Qe n S)) (0,List.replicate n (0:Int))=some (.inr (Qe n (chN n S))):=by
 have hlen:(Qe n S).length=n:=Ql
 have h64:=Q73 hn hS
 have inner:∀i,i < n->∀s:Int × List Int,s.1=(i:Int)->Qb fuel (Vv (Qe n S) s (S i:Int)) (0,Qe n (chP n S i 0))=some (Qe n (chP n S i n)):=fun i hi s hs=>by
  have h:=Zc (n:=n) (k0:=0) (by omega) (by omega) (fun i (x:List Int)=>(i,x)) (body:=Vv (Qe n S) s (S i:Int)) (fun p=>Qe n (chP n S i p)) (Qe n (chP n S i n))
   (fun p _ hp=>by
    unfold Vv
    dsimp only
    rw [hlen,aH (dlt hp),Qy hp,aC,aH (Z4 p),hs,aH (Z4 i),Qe2 (h64 i hi) (by omega),Q7p (by omega),Vc (Q7j hn hS) (by
     split
     ·exact Qpy (by omega)
     omega),aR,Qec]
    refine congrArg (fun F=>some (Qg.next (zw ((p:Int)+1),Qe n F))) ?_
    funext u
    exact Q2p hn hS hi u)
   (by unfold Vv; dsimp only; rw [hlen,aI (nlt n)])
  rw [show ((0:Nat):Int)=0 from rfl] at h
  exact h
 have hz:List.replicate n (0:Int)=Qe n (chP n S 0 0):=by
  have e:∀u,chP n S 0 0 u=0:=fun u=>by
   unfold chP
   have:(msk n fun c=>(decide (c < 0) || (decide (c=0) && decide (u < 0))) && (S c).testBit u)=msk n fun _=>false:=Ye fun c _=>by simp
   rw [this]
   have:∀m,msk m (fun _=>false)=0:=fun m=>by
    induction m with
    | zero=>rfl
    | succ m ih=>simp [msk,ih]
   exact this n
  apply List.ext_getElem
  ·simp [Qe,Qd]
  intro k h1 h2
  simp [Qe,Qd,e]
 have h:=Zc (n:=n) (k0:=0) (by omega) (by omega) (fun i (x:List Int)=>(i,x)) (body:=Vt (Qe n S)) (fun k=>Qe n (chP n S k 0)) (.inr (Qe n (chN n S)))
  (fun i _ hi=>by
   unfold Vt
   dsimp only
   rw [hlen,aH (dlt hi),Qy hi,aC,aH (Z4 n),Qc8 (by omega),aI (by
    have:=lt_pow (hS.inn i hi)
    simpa using this),inner i hi _ rfl,aC]
   refine congrArg (fun F=>some (Qg.next (zw ((i:Int)+1),Qe n F))) ?_
   funext u
   unfold chP
   refine Ye fun c _=>?_
   by_cases hc:c < i
   ·have:c < i+1:=by omega
    simp [hc,this]
   by_cases hc2:c=i
   ·subst hc2
    cases hb:(S c).testBit u with
    | true=>have:=hS.inn c hi u hb; simp [this]
    | false=>simp
   have:¬ c < i+1:=by omega
   simp [hc,hc2,this])
  (by
   unfold Vt
   dsimp only
   rw [hlen,aI (nlt n)]
   refine congrArg (fun F=>some (Qg.done (Sum.inr (Qe n F)))) ?_
   funext u
   unfold chP chN
   refine Ye fun c hc=>?_
   simp [hc])
 rw [show ((0:Nat):Int)=0 from rfl,<-hz] at h
 exact h
theorem Qyw:Qb fuel (Vy (Qe n S)) (0,0)=some (.inr ()):=by
 have hlen:(Qe n S).length=n:=Ql
 have h64:=Q73 hn hS
 obtain ⟨r,hr⟩:=Q6k hS
 have p64:∀{P:Nat},(∀j,P.testBit j=true->j < n)->P < 18446744073709551616:=fun h=>by
  have:=lt_pow h
  have:(2:Nat)^n<=256:=aV (n:=2) (by omega) hn
  omega
 have h:=Qen (n:=n) (k0:=0) (by omega) (by omega) (fun i (x:Int)=>(x,i)) (body:=Vy (Qe n S)) (fun k x=>∃P:Nat,x=(P:Int)/\(∀j,P.testBit j=true->j < n)/\cnt n P.testBit=k) (fun r=>r=.inr ())
  (fun k x _ hk hI=>by
   left
   obtain ⟨P,rfl,hP,hc⟩:=hI
   have hex:∃v,v < n/\P.testBit v=false/\Zh (S v) P:=by
    have hun:∃v,v < n/\P.testBit v=false:=by
     apply Classical.byContradiction
     intro hno
     have:cnt n P.testBit=cnt n (fun _=>true):=Qdk fun i hi=>by
      cases hb:P.testBit i with
      | true=>rfl
      | false=>exact absurd ⟨i,hi,hb⟩ hno
     have hall:∀m,cnt m (fun _=>true)=m:=fun m=>by
      induction m with
      | zero=>rfl
      | succ m ih=>simp [cnt,ih]
     rw [hall] at this; omega
    have key:∀c v,v < n->P.testBit v=false->r v=c->∃v,v < n/\P.testBit v=false/\Zh (S v) P:=by
     intro c
     induction c using Nat.strongRecOn with
     | _ c ih =>
      intro v hv hb hc
      by_cases hs:Zh (S v) P
      ·exact ⟨v,hv,hb,hs⟩
      obtain ⟨j,hj,hjp⟩:∃j,(S v).testBit j=true/\P.testBit j=false:=by
       apply Classical.byContradiction
       intro hno
       refine hs fun j hj=>?_
       cases hb2:P.testBit j with
       | true=>rfl
       | false=>exact absurd ⟨j,hj,hb2⟩ hno
      have:=hr v hv j hj
      exact ih (r j) (by omega) j (hS.inn v hv j hj) hjp rfl
    obtain ⟨v,hv,hb⟩:=hun
    exact key _ v hv hb rfl
   have hl:=Qen (n:=n) (k0:=0) (by omega) (by omega) (fun i (_:Unit)=>i) (body:=Ke (Qe n S) ((P:Int),(k:Int))) (fun k _=>∀v,v < k->¬ (P.testBit v=false/\Zh (S v) P)) (fun r=>∃v,v < n/\P.testBit v=false/\r=.inl ((P ||| 2^v:Nat):Int))
    (fun v _ _ hv hI=>by
     have e:Ke (Qe n S) ((P:Int),(k:Int)) (v:Int)=if P.testBit v=false/\Qo0 (S v) P=true then some (.done (.inl ((P ||| 2^v:Nat):Int))) else some (.next (zw ((v:Int)+1))):=by
      unfold Ke
      dsimp only
      rw [hlen,aH (dlt hv),Qy hv,aC,aH (Z4 v),Qe2 (p64 hP) (by omega),Q8v (h64 v hv) (p64 hP)]
      cases hb:P.testBit v with
      | true=>simp
      | false =>
       rw [aH (by rfl)]
       cases hsb:Qo0 (S v) P with
       | true =>
        rw [aH rfl,aH (Z4 v),Qrh (by omega),Vc (p64 hP) (Qpy (by omega)),aH ⟨rfl,rfl⟩]
       | false=>simp
     by_cases hg:P.testBit v=false/\Qo0 (S v) P=true
     ·right
      exact ⟨_,by rw [e,aH hg],v,hv,hg.1,rfl⟩
     left
     refine ⟨(),by rw [e,aI hg],fun w hw hg2=>?_⟩
     by_cases e2:w=v
     ·subst e2; exact hg ⟨hg2.1,Qj2.2 hg2.2⟩
     exact hI w (by omega) hg2)
    (fun _ hI=>by
     obtain ⟨v,h1,h2,h3⟩:=hex
     exact absurd ⟨h2,h3⟩ (hI v h1)) () (fun v hv=>by omega)
   obtain ⟨y,h1,v,hv,hb,rfl⟩:=hl
   rw [show ((0:Nat):Int)=0 from rfl] at h1
   refine ⟨((P ||| 2^v:Nat):Int),?_,P ||| 2^v,rfl,fun j hj=>?_,?_⟩
   ·unfold Vy
    dsimp only
    rw [hlen,aH (dlt hk),h1]; rfl
   ·rw [bH,V5,aM] at hj
    rcases hj with hj | hj
    ·exact hP j hj
    have:=aQ hj; omega
   have e:=Qi3 (n:=n) (v:=v) (p:=(P ||| 2^v).testBit) hv (by rw [bH,V5]; simp)
   rw [<-e]
   congr 1
   rw [<-hc]
   refine Qdk fun i _=>?_
   rw [bH,V5]
   by_cases e2:v=i
   ·subst e2; simp [hb]
   simp [e2])
  (fun x _=>⟨_,by unfold Vy; dsimp only; rw [hlen,aI (nlt n)],rfl⟩) 0 ⟨0,rfl,fun j hj=>by simp at hj,by
   have:∀m,cnt m (0:Nat).testBit=0:=fun m=>Qv4 fun i _=>Nat.zero_testBit i
   exact this n⟩
 obtain ⟨y,h1,rfl⟩:=h
 exact h1
include hn1
theorem Q3t:Qbb (Qe n S)=some (grS n S,0):=by
 have hlen:(Qe n S).length=n:=Ql
 unfold Qbb
 rw [hlen,aI (by simp; omega),aI (by simp; omega),aH (by omega),aR,Q1j hn hS,aC]
 dsimp only
 rw [Qyw hn hS,aC]
theorem Qom {a b:Nat} (ha:a < 18446744073709551616) (hb:b < 18446744073709551616):((zv (zb (a:Int) &&& zb (b:Int)).toNat)==0)=(a &&& b==0):=by
 rw [BitVec.toNat_and,Y9 ha,Y9 hb,Zf (bX Nat.and_le_left ha)]
 rw [aP,dG,dG]
 exact ⟨fun h=>by exact_mod_cast h,fun h=>by rw [h]; rfl⟩
theorem Qrs {a b:Nat}:(a &&& b==0)=true↔∀j,¬ (a.testBit j=true/\b.testBit j=true):=by
 rw [dG]
 constructor
 ·intro h j ⟨h1,h2⟩
  have:(a &&& b).testBit j=false:=by rw [h]; exact Nat.zero_testBit j
  rw [Nat.testBit_and,h1,h2] at this; cases this
 intro h
 apply dX
 intro j
 rw [Nat.testBit_and,Nat.zero_testBit,bK]
 intro hb
 rw [aE] at hb
 exact h j hb
variable {x y z:Nat} (hx:∀j,x.testBit j=true->j < n) (hy:∀j,y.testBit j=true->j < n) (hxy:∀j,¬ (y.testBit j=true/\x.testBit j=true)) (hz:∀j,z.testBit j=true->j < n) (hxz:∀j,x.testBit j=true->z.testBit j=false) (hyz:∀j,y.testBit j=true->z.testBit j=false)
include hx hy hxy hz hxz hyz
theorem Qvs:Y2 (grS n S) [(x:Int),(y:Int),(z:Int)]=some true:=by
 have hlen:(Qe n S).length=n:=Ql
 have z64:=Zy hn hS hz hx hz
 have x64:=Zy hn hS hz hx hx
 have y64:=Zy hn hS hz hx hy
 have ltx:=lt_pow hx
 have lty:=lt_pow hy
 have ltz:z < 2^n:=lt_pow hz
 have h:=Zc (n:=3) (k0:=0) (by omega) (by omega) (fun i (t:Int)=>(t,i)) (body:=Z2 [(x:Int),(y:Int),(z:Int)] (grS n S))
  (fun k=>((match k with | 0=>0 | 1=>x | 2=>x ||| y | _=>x ||| y ||| z:Nat):Int)) (Sum.inr ())
  (fun k _ hk=>by
   unfold Z2
   dsimp only
   rw [aH (cW (by simp; omega))]
   have hnz:∀{a b:Nat},a < 18446744073709551616->b < 18446744073709551616->(∀j,¬ (a.testBit j=true/\b.testBit j=true))->¬ ((zv (zb (a:Int) &&& zb (b:Int)).toNat) != 0)=true:=fun {a b} ha hb h=>by
    have:=Qom hn1 hn hS ha hb
    rw [(Qrs hn1 hn hS).2 h] at this
    rw [bne,this]; decide
   match k,hk with
   | 0,_ =>
    rw [Zd (by simp),aC]
    simp only [List.getElem_cons_zero,List.getElem_cons_succ]
    rw [hlen,aH (Z4 n),Qc8 (by omega),aI (by simpa using ltx)]
    rw [aI (hnz x64 (show 0 < 18446744073709551616 by omega) (fun j h=>by simp at h)),Vc (show 0 < 18446744073709551616 by omega) x64,Nat.zero_or]
   | 1,_ =>
    rw [Zd (by simp),aC]
    simp only [List.getElem_cons_zero,List.getElem_cons_succ]
    rw [hlen,aH (Z4 n),Qc8 (by omega),aI (by simpa using lty)]
    rw [aI (hnz y64 x64 hxy),Vc x64 y64]
   | 2,_ =>
    rw [Zd (by simp),aC]
    simp only [List.getElem_cons_zero,List.getElem_cons_succ]
    rw [hlen,aH (Z4 n),Qc8 (by omega),aI (by simpa using ltz)]
    rw [aI (hnz z64 (eF (n:=64) x64 y64) (fun j h=>by
     rw [bH,aM] at h
     rcases h.2 with e | e
     ·rw [hxz j e] at h; cases h.1
     rw [hyz j e] at h; cases h.1)),Vc (eF (n:=64) x64 y64) z64])
  (by unfold Z2; dsimp only; rw [aI (by simp)])
 rw [show ((0:Nat):Int)=0 from rfl] at h
 unfold Y2
 have h':Qb fuel (Z2 [(x:Int),(y:Int),(z:Int)] (grS n S)) (0,0)=some (Sum.inr ()):=h
 rw [h']; rfl
theorem Q0j:∃b,Xw (Qe n S) (x:Int) (y:Int) (z:Int)=some (b,0)/\(b=true↔¬ ∃u,y.testBit u=true/\(V7 n S x y z).testBit u=true):=by
 obtain ⟨r,h1,h2⟩:=Q0x (x:=x) (z:=z) hn hS hz hx
 unfold Xw
 rw [Q3t hn1 hn hS,aC]
 dsimp only
 rw [aI (by decide)]
 rw [Qvs hn1 hn hS hx hy hxy hz hxz hyz,aC,aI (by decide),h1,aC]
 have r64:r < 18446744073709551616:=Zy hn hS hz hx fun j hj=>((h2 j).1 hj).1
 rw [Qom hn1 hn hS r64 (Zy hn hS hz hx hy)]
 refine ⟨_,rfl,?_⟩
 rw [Qrs hn1 hn hS,Q6f (x:=x) (y:=y) hS hz hx hy hxz hyz]
 constructor
 ·rintro h ⟨u,d,hu,hd⟩
  exact h u ⟨(h2 u).2 ⟨hy u hu,hyz u hu,d,hd⟩,hu⟩
 rintro h j ⟨g1,g2⟩
 obtain ⟨_,_,d,hd⟩:=(h2 j).1 g1
 exact h ⟨j,d,g2,hd⟩
end
end Go.Ab
namespace Go.Ab
open Go
def mgB (n:Nat) (S:Nat -> Nat) (u w:Nat):Bool:=!decide (u=w) && ((S u).testBit w || (S w).testBit u || (List.range n).any fun v=>(S v).testBit u && (S v).testBit w)
theorem Qj1 {n:Nat} {S:Nat -> Nat} {a b:Nat} (hne:a≠b):mgB n S a b=true↔(S a).testBit b=true\/(S b).testBit a=true\/∃v,v < n/\(S v).testBit a=true/\(S v).testBit b=true:=by
 unfold mgB
 simp only [hne,decide_false,Bool.not_false,eE,aM,bR,cS,aE,or_assoc]
theorem Qu6 {n:Nat} {L:List Int} (hL:L.length=n) (hn:n<=8):Qb fuel (J0 L) 0=some ():=by
 have h:=Zc (n:=n) (k0:=0) (by omega) (by omega) (fun i (_:Unit)=>i) (body:=J0 L) (fun _=>()) ()
  (fun k _ hk=>by unfold J0; rw [hL,aH (dlt hk)])
  (by unfold J0; rw [hL,aI (nlt n)])
 exact h
def gr (n:Nat) (A:Nat -> Nat -> Bool):List Int:=Qe n fun u=>msk n (A u)
theorem Qpl {n:Nat} {A:Nat -> Nat -> Bool}:(gr n A).length=n:=Ql
theorem Qz3 {n a:Nat} {A:Nat -> Nat -> Bool} (h:a < n):lkI (gr n A) (a:Int)=some ((msk n (A a):Nat):Int):=Qy h
theorem Qj4 {n:Nat} {A B:Nat -> Nat -> Bool} (h:∀u w,u < n->w < n->A u w=B u w):gr n A=gr n B:=Qm fun u hu=>by
 show ((msk n (A u):Nat):Int)=((msk n (B u):Nat):Int)
 rw [Ye fun w hw=>h u w hu hw]
theorem Q7b {n a:Nat} {A B:Nat -> Nat -> Bool} {q:Nat -> Bool} (h:∀u w,u < n->w < n->(if u=a then q w else A u w)=B u w):(gr n A).set (Int.toNat (a:Int)) ((msk n q:Nat):Int)=gr n B:=by
 unfold gr
 rw [aR,Qec]
 refine Qm fun u hu=>?_
 unfold updF
 show (((if u=a then msk n q else msk n (A u)):Nat):Int)=((msk n (B u):Nat):Int)
 split
 ·rename_i e; exact congrArg Nat.cast (Ye (p:=q) (q:=B u) fun w hw=>by have:=h u w hu hw; rwa [aH e] at this)
 rename_i e; exact congrArg Nat.cast (Ye (p:=A u) (q:=B u) fun w hw=>by have:=h u w hu hw; rwa [aI e] at this)
section
variable {n:Nat} {S:Nat -> Nat} (h1:1<=n) (hn:n<=8) (hS:∀v,v < n->∀j,(S v).testBit j=true->j < n) (hq:∀v,v < n->(S v).testBit v=false)
include h1 hn hS hq
theorem Qp0 {v j:Nat} (hv:v < n) (hj:j < n):X9 (S v:Int) (j:Int)=some ((S v).testBit j):=by
 have:=lt_pow (hS v hv)
 have h2:(2:Nat)^n<=256:=aV (n:=2) (by omega) hn
 exact Qhv (by omega) (by omega)
theorem Q20 (a b:Nat) (X Y:List Int) (x:Bool) (ha:a < n) (hb:b < n) :
  ∃y,Qb fuel (Jt (Qe n S) ((a:Int),X) ((b:Int),Y)) (x,(0:Int))=some y/\(y=true↔x=true\/∃v,v < n/\(S v).testBit a=true/\(S v).testBit b=true):=by
 have h:=Qen (n:=n) (k0:=0) (by omega) (by omega) (fun i (t:Bool)=>(t,i)) (body:=Jt (Qe n S) ((a:Int),X) ((b:Int),Y)) (fun k t=>t=true↔x=true\/∃v,v < k/\(S v).testBit a=true/\(S v).testBit b=true) (fun y=>y=true↔x=true\/∃v,v < n/\(S v).testBit a=true/\(S v).testBit b=true)
  (fun k t _ hk hI=>by
   left
   unfold Jt
   dsimp only
   rw [Ql,aH (dlt hk)]
   by_cases c:t=true
   ·rw [aH c]
    refine ⟨true,rfl,by
     simp only [true_iff]
     rcases hI.1 c with h | ⟨v,hv,h⟩
     ·exact .inl h
     exact .inr ⟨v,by omega,h⟩⟩
   rw [aI c,Qy hk,aC,Qp0 h1 hn hS hq hk ha,aC]
   have hno:¬ (x=true\/∃v,v < k/\(S v).testBit a=true/\(S v).testBit b=true):=fun h=>c (hI.2 h)
   have key:(x=true\/∃v,v < k+1/\(S v).testBit a=true/\(S v).testBit b=true)↔(S k).testBit a=true/\(S k).testBit b=true:=by
    constructor
    ·rintro (h | ⟨v,hv,h⟩)
     ·exact absurd (.inl h) hno
     by_cases e:v=k
     ·rw [<-e]; exact h
     exact absurd (.inr ⟨v,by omega,h⟩) hno
    intro h; exact .inr ⟨k,by omega,h⟩
   by_cases c2:(S k).testBit a=true
   ·rw [aH c2,Qp0 h1 hn hS hq hk hb,aC]
    exact ⟨_,rfl,by rw [key]; simp [c2]⟩
   rw [aI c2]
   exact ⟨false,rfl,by rw [key]; simp [c2]⟩)
  (fun t hI=>⟨t,by unfold Jt; dsimp only; rw [Ql,aI (nlt n)],hI⟩) x (by simp)
 exact h
theorem Q4o (a:Nat) (ha:a < n):Qb fuel (Jz (Qe n S) ((a:Int),gr n fun u w=>decide (u < a) && mgB n S u w)) ((0:Int),gr n fun u w=>decide (u < a) && mgB n S u w)=some (gr n fun u w=>decide (u < a+1) && mgB n S u w):=by
 have h:=Zc (n:=n) (k0:=0) (by omega) (by omega) (fun i (t:List Int)=>(i,t)) (body:=Jz (Qe n S) ((a:Int),gr n fun u w=>decide (u < a) && mgB n S u w)) (fun b=>gr n fun u w=>(decide (u < a) || (decide (u=a) && decide (w < b))) && mgB n S u w) (gr n fun u w=>decide (u < a+1) && mgB n S u w)
  (fun b _ hb=>by
   have put:mgB n S a b=true->(gr n fun u w=>(decide (u < a) || (decide (u=a) && decide (w < b))) && mgB n S u w).set (Int.toNat (a:Int)) ((msk n fun i=>((decide (a < a) || (decide (a=a) && decide (i < b))) && mgB n S a i) || decide (b=i):Nat):Int)=gr n fun u w=>(decide (u < a) || (decide (u=a) && decide (w < b+1))) && mgB n S u w:=fun hm=>Q7b fun u w hu hw=>by
    by_cases e:u=a
    ·subst e
     rw [aH rfl]
     by_cases e2:b=w
     ·subst e2; simp [hm]
     have:(w < b+1)↔w < b:=by omega
     simp [e2,this]
    rw [aI e]; simp [e]
   have skip:mgB n S a b=false->(gr n fun u w=>(decide (u < a) || (decide (u=a) && decide (w < b))) && mgB n S u w)=gr n fun u w=>(decide (u < a) || (decide (u=a) && decide (w < b+1))) && mgB n S u w:=fun hm=>Qj4 fun u w hu hw=>by
    by_cases e:u=a
    ·subst e
     by_cases e2:b=w
     ·subst e2; simp [hm]
     have:(w < b+1)↔w < b:=by omega
     simp [this]
    simp [e]
   unfold Jz
   dsimp only
   rw [Ql,aH (dlt hb),Qy ha,aC,Qp0 h1 hn hS hq ha hb,aC]
   have self:mgB n S a a=false:=by unfold mgB; simp
   by_cases c:(S a).testBit b=true
   ·rw [aH c,Qu6 Ql hn,aC]
    have hne:a≠b:=fun e=>by subst e; rw [hq a ha] at c; cases c
    have hm:=(Qj1 (n:=n) (S:=S) hne).2 (.inl c)
    rw [aH (by simp; omega),Qz3 ha,aC,Zf (n:=b) (by omega),aH (Z4 b),Q4t (by omega) hb,put hm]
   rw [aI c,Qy hb,aC,Qp0 h1 hn hS hq hb ha,aC]
   obtain ⟨y,e1,e2⟩:=Q20 h1 hn hS hq a b (gr n fun u w=>decide (u < a) && mgB n S u w) (gr n fun u w=>(decide (u < a) || (decide (u=a) && decide (w < b))) && mgB n S u w) ((S b).testBit a) ha hb
   rw [e1,aC]
   by_cases hne:a=b
   ·subst hne
    rw [aI (by simp),skip self]
   rw [aH (by simp; omega)]
   by_cases c2:y=true
   ·have hm:mgB n S a b=true:=(Qj1 hne).2 (.inr (e2.1 c2))
    rw [aH c2,Qz3 ha,aC,Zf (n:=b) (by omega),aH (Z4 b),Q4t (by omega) hb,put hm]
   have hm:mgB n S a b=false:=by
    rw [bK]; intro h
    rcases (Qj1 hne).1 h with h | h
    ·exact c h
    exact c2 (e2.2 h)
   rw [aI c2,skip hm])
  (by
   unfold Jz
   dsimp only
   rw [Ql,aI (nlt n)]
   congr 2
   refine Qj4 fun u w hu hw=>?_
   have:(u < a+1)↔(u < a\/u=a):=by omega
   simp [hw,this])
 have e0:(gr n fun u w=>(decide (u < a) || (decide (u=a) && decide (w < 0))) && mgB n S u w)=gr n fun u w=>decide (u < a) && mgB n S u w:=Qj4 fun u w _ _=>by simp
 simp only [e0] at h
 exact h
theorem Q2e:Qfr (Qe n S)=some (gr n (mgB n S)):=by
 have h:=Zc (n:=n) (k0:=0) (by omega) (by omega) (fun i (t:List Int)=>(i,t)) (body:=Qah (Qe n S)) (fun a=>gr n fun u w=>decide (u < a) && mgB n S u w) (gr n (mgB n S))
  (fun a _ ha=>by
   unfold Qah
   dsimp only
   rw [Ql,aH (dlt ha),Q4o h1 hn hS hq a ha]; rfl)
  (by
   unfold Qah
   dsimp only
   rw [Ql,aI (nlt n)]
   congr 2
   refine Qj4 fun u w hu hw=>?_
   simp [hu])
 have e0:(gr n fun u w=>decide (u < 0) && mgB n S u w)=Qe n fun _=>0:=Qm fun u _=>by
  show ((msk n (fun w=>decide (u < 0) && mgB n S u w):Nat):Int)=((0:Nat):Int)
  congr 1
  exact dX fun j=>by rw [Q3]; simp
 simp only [e0] at h
 unfold Qfr
 rw [Ql,aH (by omega),Qne]
 rw [show ((0:Nat):Int)=0 from rfl] at h
 rw [h]; rfl
end
end Go.Ab
namespace Go.Ab
open Go
section
variable {n:Nat} {S:Nat -> Nat} (h1:1<=n) (hn:n<=8) (hS:Gd n S) {x y z:Nat} (hx:∀j,x.testBit j=true->j < n) (hy:∀j,y.testBit j=true->j < n) (hz:∀j,z.testBit j=true->j < n)
def inS (S:Nat -> Nat) (an v:Nat):Nat := if an.testBit v=true then S v else 0
def tS (n:Nat) (S:Nat -> Nat) (an z a:Nat):Nat := if z.testBit a=true then 0 else msk n (fun b=>mgB n (inS S an) a b && an.testBit b)
include h1 hn hS
theorem Q5r {v:Nat} (hv:v < n):(S v).testBit v=false:=by
 rw [bK]; intro h
 exact hS.acyc v hv (Xq n v h)
theorem Q7d {an:Nat}:∀v,v < n->∀j,(inS S an v).testBit j=true->j < n:=fun v hv j hj=>by
 unfold inS at hj
 split at hj
 ·exact hS.inn v hv j hj
 simp at hj
theorem Q4h {an:Nat}:∀v,v < n->(inS S an v).testBit v=false:=fun v hv=>by
 unfold inS
 split
 ·exact Q5r h1 hn hS hv
 simp
theorem ref_inner {an:Nat} (ha:∀j,an.testBit j=true->j < n):Qb fuel (Jy (Qe n S) (an:Int)) (0,([]:List Int))=some (Qe n (inS S an)):=by
 have han:=Zy hn hS ha ha ha
 have hr:=Zc (n:=n) (k0:=0) (by omega) (by omega) (fun i (t:List Int)=>(i,t)) (body:=Jy (Qe n S) (an:Int)) (fun k=>Qe k (inS S an)) (Qe n (inS S an))
  (fun v _ hv=>by
   have hs:Qe v (inS S an)++[(inS S an v:Int)]=Qe (v+1) (inS S an):=Qdh
   unfold Jy
   simp only
   rw [Ql,aH (dlt hv),Qy hv,aC,Qhv han (by omega),aC]
   by_cases c:an.testBit v=true
   ·have e:inS S an v=S v:=aH c
    rw [aI (by simp [c]),aH (by simp [Ql]; omega),<-e,hs]
   have e:inS S an v=0:=aI c
   rw [aH (by simpa using c),aH (by simp [Ql]; omega),show ([0]:List Int)=[((inS S an v:Nat):Int)] by rw [e]; rfl,hs])
  (by unfold Jy; simp only; rw [Ql,aI (nlt n)])
 exact hr
theorem Q4n {an:Nat} (ha:∀j,an.testBit j=true->j < n) (hx:∀j,x.testBit j=true->j < n) (hz:∀j,z.testBit j=true->j < n) :
  Qb fuel (Jw (gr n (mgB n (inS S an))) (z:Int) (an:Int)) ((x:Int),0)=some ((ups n (tS n S an z) n x:Nat):Int):=by
 have han:=Zy hn hS ha ha ha
 have hz64:=Zy hn hS hz hz hz
 have tin:∀v,v < n->∀j,(tS n S an z v).testBit j=true->j < n:=fun v _ j hj=>by
  unfold tS at hj
  split at hj
  ·simp at hj
  rw [Q3] at hj
  simp only [aE,aN] at hj; exact hj.1
 have hfull:=Qc2 n tin
 have hs0:Zh x (2^n - 1):=fun j hj=>by rw [bD]; simpa using hx j hj
 have hin:∀{t:Nat},Zh t (2^n - 1)->∀j,t.testBit j=true->j < n:=fun h j hj=>by have:=h j hj; rw [bD] at this; simpa using this
 have inner:∀t,Zh t (2^n - 1)->Qb fuel (Jr (gr n (mgB n (inS S an))) (z:Int) (an:Int)) ((t:Int),(0:Int))=some ((upR n (tS n S an z) t:Nat):Int):=fun t ht=>by
  have h:=Zc (n:=n) (k0:=0) (by omega) (by omega) (fun i (x:Int)=>(x,i)) (body:=Jr (gr n (mgB n (inS S an))) (z:Int) (an:Int)) (fun k=>(((List.range k).foldl (upV (tS n S an z)) t:Nat):Int)) ((upR n (tS n S an z) t:Nat):Int)
   (fun k _ hk=>by
    have hsub:=Qjq (S:=tS n S an z) (T:=2^n - 1) (List.range k) t (fun v hv=>hfull v (by have:=cS.1 hv; omega)) ht
    have htl:=hin hsub
    have hlt:=Zy hn hS htl htl htl
    unfold Jr
    dsimp only
    rw [Qpl,aH (dlt hk),Qhv hlt (by omega),aC,List.range_succ,List.foldl_append]
    simp only [List.foldl_cons,List.foldl_nil]
    unfold upV
    by_cases c:((List.range k).foldl (upV (tS n S an z)) t).testBit k=true
    ·have c':=c
     unfold upV at c'
     rw [aH c',aH c',Qhv hz64 (by omega),aC]
     by_cases cz:z.testBit k=true
     ·rw [aI (by simp [cz]),show tS n S an z k=0 from aH cz,Nat.or_zero]
     have e2:zv (zb ((msk n (mgB n (inS S an) k):Nat):Int) &&& zb (an:Int)).toNat = ((tS n S an z k:Nat):Int):=by
      rw [Q89 (n:=n) (p:=mgB n (inS S an) k) (q:=an.testBit) (by omega) (Qjg) han Q3z (fun _ _=>rfl)]
      unfold tS; rw [aI cz]
     have h64:tS n S an z k < 18446744073709551616:=Zy hn hS (tin k hk) (tin k hk) (tin k hk)
     unfold upV at hlt
     rw [aH (by simpa using cz),Qz3 hk,aC,e2,Vc hlt h64]
    have c':=c
    unfold upV at c'
    rw [aI c',aI c'])
   (by unfold Jr; dsimp only; rw [Qpl,aI (nlt n)]; rfl)
  exact h
 have h:=Zc (n:=n) (k0:=0) (by omega) (by omega) (fun i (x:Int)=>(x,i)) (body:=Jw (gr n (mgB n (inS S an))) (z:Int) (an:Int)) (fun k=>((ups n (tS n S an z) k x:Nat):Int)) ((ups n (tS n S an z) n x:Nat):Int)
  (fun k _ hk=>by
   unfold Jw
   dsimp only
   rw [Qpl,aH (dlt hk),inner _ (Ya hfull hs0 k)]; rfl)
  (by unfold Jw; dsimp only; rw [Qpl,aI (nlt n)])
 exact h
include hx hy hz
variable (hxz:∀j,x.testBit j=true->z.testBit j=false) (hyz:∀j,y.testBit j=true->z.testBit j=false)
include hxz hyz
theorem Q6c:ups n (tS n S (anS n S x y z) z) n x=V7 n S x y z:=by
 have tin:∀v,v < n->∀j,(tS n S (anS n S x y z) z v).testBit j=true->j < n:=fun v _ j hj=>by
  unfold tS at hj
  split at hj
  ·simp at hj
  rw [Q3] at hj
  simp only [aE,aN] at hj; exact hj.1
 have hclo:=Qcf hS hz hx hy hxz hyz
 have hlt:=fun {j:Nat} h=>Qgc hS hz hx hy hxz hyz (j:=j) h
 have ib:∀a b,(inS S (anS n S x y z) a).testBit b=true↔(anS n S x y z).testBit a=true/\(S a).testBit b=true:=fun a b=>by
  unfold inS
  by_cases c:(anS n S x y z).testBit a=true
  ·rw [aH c]; simp [c]
  rw [aI c]; simp [c]
 have tb:∀a b,a < n->b < n->a≠b->((tS n S (anS n S x y z) z a).testBit b=true↔(jo n S (anS n S x y z) z a).testBit b=true):=fun a b ha hb hne=>by
  rw [Qvk hb]
  unfold tS
  by_cases cz:z.testBit a=true
  ·rw [aH cz]; simp [cz]
  rw [aI cz,Q3]
  simp only [hb,decide_true,eE,aE]
  rw [Qj1 hne,ib,ib]
  simp only [ib]
  simp only [cP] at cz
  constructor
  ·rintro ⟨h,hbn⟩
   refine ⟨cz,hbn,?_⟩
   rcases h with ⟨h,k⟩ | ⟨h,k⟩ | ⟨v,hv,⟨h,k⟩,_,m⟩
   ·exact ⟨a,ha,h,.inr rfl,.inl k⟩
   ·exact ⟨b,hb,h,.inl k,.inr rfl⟩
   exact ⟨v,hv,h,.inl k,.inl m⟩
  rintro ⟨_,hbn,k,hk,hka,h4,h5⟩
  refine ⟨?_,hbn⟩
  rcases h4 with h4 | rfl
  ·rcases h5 with h5 | rfl
   ·exact .inr (.inr ⟨k,hk,⟨hka,h4⟩,hka,h5⟩)
   exact .inr (.inl ⟨hka,h4⟩)
  rcases h5 with h5 | rfl
  ·exact .inl ⟨hka,h5⟩
  exact absurd rfl hne
 refine sub_anti (Ya (fun v hv hb j hj=>?_) (Xq n) n) (Ya (fun v hv hb j hj=>?_) (Xq n) n)
 ·have hj':=tin v hv j hj
  by_cases e:v=j
  ·subst e; exact hb
  exact Qt7 hS hz hx hy hxz hyz v hv hb j ((tb v j hv hj' e).1 hj)
 have hj':=Qzm hS hz hx hy hxz hyz hj
 by_cases e:v=j
 ·subst e; exact hb
 exact J3 tin hx v hv hb j ((tb v j hv hj' e).2 hj)
theorem Qs6:∃b,Jf (Qe n S) (x:Int) (y:Int) (z:Int)=some b/\(b=true↔¬ ∃u,y.testBit u=true/\(V7 n S x y z).testBit u=true):=by
 have hx64:=Zy hn hS hx hx hx
 have hy64:=Zy hn hS hy hy hy
 have hz64:=Zy hn hS hz hz hz
 have hsl:=fun {j:Nat} h=>Qxz hS hz hx hy hxz hyz (j:=j) h
 unfold Jf
 rw [Vc hx64 hy64,Vc (eF (n:=64) hx64 hy64) hz64,Qp1 hn hS.inn (fun j hj=>Qtw hS hz hx hy hxz hyz hj),aC,
  show ups n S n (x ||| y ||| z)=anS n S x y z from rfl,ref_inner h1 hn hS (fun j h=>Qgc hS hz hx hy hxz hyz h),aC,Q2e h1 hn (Q7d h1 hn hS) (Q4h h1 hn hS),aC,
  Q4n h1 hn hS (fun j h=>Qgc hS hz hx hy hxz hyz h) hx hz,aC,Q6c h1 hn hS hx hy hz hxz hyz]
 rw [Qi7 (n:=n) (p:=(V7 n S x y z).testBit) (q:=z.testBit) (by omega) (lt_pow fun j hj=>hsl hj) hz64 (fun _ _=>rfl) (fun _ _=>rfl)]
 refine ⟨_,rfl,?_⟩
 have h8:(2:Nat)^n<=256:=aV (n:=2) (by omega) hn
 rw [Qom h1 hn hS (bO Qjg (by omega)) hy64,Qrs h1 hn hS]
 constructor
 ·rintro h ⟨u,hu,hs⟩
  exact h u ⟨by rw [Q3,hs,hyz u hu]; simp [hy u hu],hu⟩
 rintro h j ⟨g1,g2⟩
 rw [Q3] at g1
 simp only [aE] at g1
 exact h ⟨j,g2,g1.2.1⟩
end
end Go.Ab
namespace Go.Ab
open Go
def t8 (f:Nat -> Bool):Bool × Bool × Bool × Bool × Bool × Bool × Bool × Bool:=(f 0,f 1,f 2,f 3,f 4,f 5,f 6,f 7)
theorem t8_congr {f g:Nat -> Bool} (h:∀j,j < 8->f j=g j):t8 f=t8 g:=by
 unfold t8
 rw [h 0 (by omega),h 1 (by omega),h 2 (by omega),h 3 (by omega),h 4 (by omega),h 5 (by omega),h 6 (by omega),h 7 (by omega)]
theorem lk8 {f:Nat -> Bool}:∀{k:Nat},k < 8->lkI ([f 0,f 1,f 2,f 3,f 4,f 5,f 6,f 7]:List Bool) (k:Int)=some (f k)
 | 0,_=>rfl
 | 1,_=>rfl
 | 2,_=>rfl
 | 3,_=>rfl
 | 4,_=>rfl
 | 5,_=>rfl
 | 6,_=>rfl
 | 7,_=>rfl
theorem up8 {k:Nat} {b:Bool} {f:Nat -> Bool}:((if (k:Int)=0 then b else f 0),(if (k:Int)=1 then b else f 1),(if (k:Int)=2 then b else f 2),(if (k:Int)=3 then b else f 3),(if (k:Int)=4 then b else f 4),(if (k:Int)=5 then b else f 5),(if (k:Int)=6 then b else f 6),(if (k:Int)=7 then b else f 7))=t8 fun j=>if j=k then b else f j:=by
 have e:∀(j:Nat) (z:Int),z=(j:Int)->(if (k:Int)=z then b else f j)=if j=k then b else f j:=fun j z hz=>by
  by_cases c:j=k
  ·subst c; rw [aH hz.symm,aH rfl]
  rw [aI (by omega),aI c]
 unfold t8
 rw [e 0 0 rfl,e 1 1 rfl,e 2 2 rfl,e 3 3 rfl,e 4 4 rfl,e 5 5 rfl,e 6 6 rfl,e 7 7 rfl]
theorem eq8 {f g:Nat -> Bool}:((f 0==g 0) && ((f 1==g 1) && ((f 2==g 2) && ((f 3==g 3) && ((f 4==g 4) && ((f 5==g 5) && ((f 6==g 6) && ((f 7==g 7) && true))))))))=true↔∀j,j < 8->f j=g j:=by
 simp only [aE,dG,and_true]
 constructor
 ·rintro ⟨h0,h1,h2,h3,h4,h5,h6,h7⟩ j hj
  match j,hj with
  | 0,_=>exact h0
  | 1,_=>exact h1
  | 2,_=>exact h2
  | 3,_=>exact h3
  | 4,_=>exact h4
  | 5,_=>exact h5
  | 6,_=>exact h6
  | 7,_=>exact h7
 intro h
 exact ⟨h 0 (by omega),h 1 (by omega),h 2 (by omega),h 3 (by omega),h 4 (by omega),h 5 (by omega),h 6 (by omega),h 7 (by omega)⟩
def cutG (n:Nat) (I O:Nat) (S:Nat -> Nat) (v:Nat):Nat := if I.testBit v=true then 0 else msk n fun i=>(S v).testBit i && !O.testBit i
abbrev agr (n:Nat) (S:Nat -> Nat):Aa:=⟨⟨Qe n S⟩⟩
section
variable {n:Nat} {S:Nat -> Nat} (h1:1<=n) (hn:n<=8) (hS:Gd n S)
theorem Jp {I O v j:Nat} (hj:j < n):(cutG n I O S v).testBit j=true↔I.testBit v=false/\(S v).testBit j=true/\O.testBit j=false:=by
 unfold cutG
 by_cases c:I.testBit v=true
 ·rw [aH c]; simp [c]
 rw [aI c,Q3]; simp only [cP] at c; simp [hj,c]
theorem Qhe {I O v j:Nat} (h:(cutG n I O S v).testBit j=true):j < n:=by
 unfold cutG at h
 split at h
 ·simp at h
 rw [Q3] at h
 simp only [aE,aN] at h; exact h.1
include hS in
theorem Q8m {S':Nat -> Nat} (h:∀v,v < n->∀j,(S' v).testBit j=true->j < n/\(S v).testBit j=true):Gd n S':=by
 refine ⟨fun v hv j hj=>(h v hv j hj).1,fun v hv hb=>hS.acyc v hv ?_⟩
 have hc:=J3 hS.inn (s:=S v) (hS.inn v hv)
 exact Ya (S:=S') (s:=S' v) (T:=ups n S n (S v)) (fun u hu hb j hj=>hc u hu hb j (h u hu j hj).2) (fun j hj=>Xq n j (h v hv j hj).2) n v hb
include hS in
theorem Qdu {I O:Nat}:Gd n (cutG n I O S):=Q8m hS fun v hv j hj=>⟨Qhe hj,((Jp (Qhe hj)).1 hj).2.1⟩
include h1 hn hS
theorem Qnw {x:Nat} (hx:x < 18446744073709551616):Zo (agr n S) (x:Int)=some (agr n (cutG n x 0 S)):=by
 have hr:=Zc (n:=n) (k0:=0) (by omega) (by omega) (fun i (t:List Int)=>(i,t)) (body:=Yo (agr n S) (x:Int)) (fun k=>Qe n fun v=>if v < k then cutG n x 0 S v else S v) (Qe n (cutG n x 0 S))
  (fun v _ hv=>by
   have hset:∀y,y=cutG n x 0 S v->(Qe n fun u=>if u < v then cutG n x 0 S u else S u).set (Int.toNat (v:Int)) (y:Int)=Qe n fun u=>if u < v+1 then cutG n x 0 S u else S u:=fun y hy=>by
    rw [aR,Qec]
    refine Qm fun u _=>congrArg Nat.cast ?_
    unfold updF
    dsimp only
    by_cases e:u=v
    ·subst e; rw [aH rfl,aH (by omega),hy]
    rw [aI e]
    by_cases e2:u < v
    ·rw [aH e2,aH (by omega)]
    rw [aI e2,aI (by omega)]
   unfold Yo
   dsimp only
   rw [Ql,aH (dlt hv),aH (Z4 v),Qja hx (by omega)]
   by_cases c:x.testBit v=true
   ·rw [aH c,Qy hv,aC,show (0:Int)=((0:Nat):Int) from rfl,hset 0 (by unfold cutG; rw [aH c])]
   rw [aI c]
   have e:cutG n x 0 S v=S v:=by
    unfold cutG
    rw [aI c]
    exact (Qdy (lt_pow (hS.inn v hv)) fun i _=>by simp).symm
   refine congrArg (fun l=>some (Qg.next (zw ((v:Int)+1),l))) (Qm fun u _=>congrArg Nat.cast ?_)
   dsimp only
   by_cases e1:u=v
   ·subst e1; rw [aI (by omega),aH (by omega),e]
   by_cases e2:u < v
   ·rw [aH e2,aH (by omega)]
   rw [aI e2,aI (by omega)])
  (by
   unfold Yo
   dsimp only
   rw [Ql,aI (nlt n)]
   exact congrArg (fun l=>some (Qg.done l)) (Qm fun u hu=>by simp [hu]))
 have e0:Qe n S=Qe n fun v=>if v < 0 then cutG n x 0 S v else S v:=Qm fun u _=>by simp
 unfold Zo
 dsimp only
 rw [Ql,aH (by omega)]
 refine Xg (a:=Qe n (cutG n x 0 S)) ?_ rfl
 have hr':=hr
 rw [<-e0] at hr'
 exact hr'
theorem Q63 {z:Nat} (hz:z < 18446744073709551616):Vs (agr n S) (z:Int)=some (agr n (cutG n 0 z S)):=by
 have hr:=Zc (n:=n) (k0:=0) (by omega) (by omega) (fun i (t:List Int)=>(i,t)) (body:=Y0 (agr n S) (z:Int)) (fun k=>Qe n fun v=>if v < k then cutG n 0 z S v else S v) (Qe n (cutG n 0 z S))
  (fun v _ hv=>by
   have hg:lkI (Qe n fun u=>if u < v then cutG n 0 z S u else S u) (v:Int)=some (S v:Int):=by
    have:lkI (Qe n fun u=>if u < v then cutG n 0 z S u else S u) (v:Int)=some (((if v < v then cutG n 0 z S v else S v:Nat)):Int):=Qy hv
    rw [this,aI (by omega)]
   have e1:zv (zb (S v:Int) &&& ~~~ zb (z:Int)).toNat = ((cutG n 0 z S v:Nat):Int):=by
    rw [Qi7 (n:=n) (p:=(S v).testBit) (q:=z.testBit) (by omega) (lt_pow (hS.inn v hv)) hz (fun _ _=>rfl) (fun _ _=>rfl)]
    unfold cutG; rw [aI (by simp)]
   have hset:(Qe n fun u=>if u < v then cutG n 0 z S u else S u).set (Int.toNat (v:Int)) (cutG n 0 z S v:Int)=Qe n fun u=>if u < v+1 then cutG n 0 z S u else S u:=by
    rw [aR,Qec]
    refine Qm fun u _=>congrArg Nat.cast ?_
    unfold updF
    dsimp only
    by_cases e:u=v
    ·subst e; rw [aH rfl,aH (by omega)]
    rw [aI e]
    by_cases e2:u < v
    ·rw [aH e2,aH (by omega)]
    rw [aI e2,aI (by omega)]
   unfold Y0
   dsimp only
   rw [Ql,aH (dlt hv),hg,aC,e1,hset])
  (by
   unfold Y0
   dsimp only
   rw [Ql,aI (nlt n)]
   exact congrArg (fun l=>some (Qg.done l)) (Qm fun u hu=>by simp [hu]))
 have e0:Qe n S=Qe n fun v=>if v < 0 then cutG n 0 z S v else S v:=Qm fun u _=>by simp
 unfold Vs
 dsimp only
 rw [Ql,aH (by omega)]
 refine Xg (a:=Qe n (cutG n 0 z S)) ?_ rfl
 have hr':=hr
 rw [<-e0] at hr'
 exact hr'
theorem Qka {I O:Nat} (hI:I < 18446744073709551616) (hO:O < 18446744073709551616):Kl (Qe n S) (I:Int) (O:Int)=some (Qe n (cutG n I O S)):=by
 have hr:=Zc (n:=n) (k0:=0) (by omega) (by omega) (fun i (t:List Int)=>(i,t)) (body:=Ki (Qe n S) (I:Int) (O:Int)) (fun k=>Qe k (cutG n I O S)) (Qe n (cutG n I O S))
  (fun v _ hv=>by
   have hs:Qe v (cutG n I O S)++[(cutG n I O S v:Int)]=Qe (v+1) (cutG n I O S):=Qdh
   have e1:zv (zb (S v:Int) &&& ~~~ zb (O:Int)).toNat = ((msk n fun i=>(S v).testBit i && !O.testBit i:Nat):Int) :=
    Qi7 (n:=n) (p:=(S v).testBit) (q:=O.testBit) (by omega) (lt_pow (hS.inn v hv)) hO (fun _ _=>rfl) (fun _ _=>rfl)
   unfold Ki
   dsimp only
   rw [Ql,aH (dlt hv),Qy hv,aC,Qhv hI (by omega),aC,e1]
   by_cases c:I.testBit v=true
   ·have e:cutG n I O S v=0:=aH c
    rw [aH c,aH (by simp [Ql]; omega),show ([0]:List Int)=[((cutG n I O S v:Nat):Int)] by rw [e]; rfl,hs]
   have e:cutG n I O S v=msk n fun i=>(S v).testBit i && !O.testBit i:=aI c
   rw [aI c,<-e,aH (by simp [Ql]; omega),hs])
  (by unfold Ki; dsimp only; rw [Ql,aI (nlt n)])
 unfold Kl
 exact Xg hr rfl
theorem Q8b {w:Nat} (hw:w < 18446744073709551616):Qb fuel (Xz (agr n S) (w:Int)) (0,false,false,false,false,false,false,false,false)=some (t8 fun j=>decide (j < n) && w.testBit j):=by
 have hr:=Zc (n:=n) (k0:=0) (by omega) (by omega) (fun i (t:Bool × Bool × Bool × Bool × Bool × Bool × Bool × Bool)=>(i,t)) (body:=Xz (agr n S) (w:Int)) (fun k=>t8 fun j=>decide (j < k) && w.testBit j) (t8 fun j=>decide (j < n) && w.testBit j)
  (fun k _ hk=>by
   unfold Xz
   dsimp only [t8]
   rw [Ql,aH (dlt hk),aH (Z4 k),Qja hw (by omega),lk8 (f:=fun j=>decide (j < k) && w.testBit j) (by omega),aC,
    up8 (b:=w.testBit k) (f:=fun j=>decide (j < k) && w.testBit j)]
   refine congrArg (fun l=>some (Qg.next (zw ((k:Int)+1),l))) (t8_congr (g:=fun j=>decide (j < k+1) && w.testBit j) fun j _=>?_)
   by_cases e:j=k
   ·subst e; simp
   have:(j < k+1)↔j < k:=by omega
   simp [e,this])
  (by unfold Xz; dsimp only [t8]; rw [Ql,aI (nlt n)])
 have e0:(false,false,false,false,false,false,false,false)=t8 fun j=>decide (j < 0) && w.testBit j:=by simp [t8]
 rw [e0]; exact hr
theorem Q7v {v M:Nat} (hv:v < n) {f:Nat -> Bool} {s9:Int × Bool × Bool × Bool × Bool × Bool × Bool × Bool × Bool × Bool} (h9:s9.1=v) (h92:s9.2.1=M.testBit 0) :
  Qb fuel (Xv (agr n S) s9 (t8 M.testBit) (S v:Int)) (0,t8 f)=some (t8 fun j=>f j || (decide (j < n) && (M.testBit v && (S v).testBit j))):=by
 have h64:S v < 18446744073709551616:=Zy hn hS (hS.inn v hv) (hS.inn v hv) (hS.inn v hv)
 have hr:=Zc (n:=n) (k0:=0) (by omega) (by omega) (fun i (t:Bool × Bool × Bool × Bool × Bool × Bool × Bool × Bool)=>(i,t)) (body:=Xv (agr n S) s9 (t8 M.testBit) (S v:Int)) (fun k=>t8 fun j=>f j || (decide (j < k) && (M.testBit v && (S v).testBit j))) (t8 fun j=>f j || (decide (j < n) && (M.testBit v && (S v).testBit j)))
  (fun k _ hk=>by
   have skip:(M.testBit v && (S v).testBit k)=false->(t8 fun j=>f j || (decide (j < k) && (M.testBit v && (S v).testBit j)))=t8 fun j=>f j || (decide (j < k+1) && (M.testBit v && (S v).testBit j)):=fun h=>t8_congr fun j _=>by
    by_cases e:j=k
    ·subst e; simp [h]
    have:(j < k+1)↔j < k:=by omega
    simp [this]
   unfold Xv
   dsimp only [t8]
   rw [Ql,aH (dlt hk),h9,h92,lk8 (f:=M.testBit) (by omega),aC]
   by_cases c:M.testBit v=true
   ·rw [aH c,aH (Z4 k),Qja h64 (by omega)]
    by_cases c2:(S v).testBit k=true
    ·rw [aH c2,lk8 (f:=fun j=>f j || (decide (j < k) && (M.testBit v && (S v).testBit j))) (by omega),aC,up8 (b:=true) (f:=fun j=>f j || (decide (j < k) && (M.testBit v && (S v).testBit j)))]
     refine congrArg (fun l=>some (Qg.next (zw ((k:Int)+1),l))) (t8_congr (g:=fun j=>f j || (decide (j < k+1) && (M.testBit v && (S v).testBit j))) fun j _=>?_)
     by_cases e:j=k
     ·subst e; simp [c,c2]
     have:(j < k+1)↔j < k:=by omega
     simp [e,this]
    rw [aI c2]
    exact congrArg (fun l=>some (Qg.next (zw ((k:Int)+1),l))) (skip (by simp [c2]))
   rw [aI c]
   exact congrArg (fun l=>some (Qg.next (zw ((k:Int)+1),l))) (skip (by simp [c])))
  (by unfold Xv; dsimp only [t8]; rw [Ql,aI (nlt n)])
 have e0:t8 f=t8 fun j=>f j || (decide (j < 0) && (M.testBit v && (S v).testBit j)):=t8_congr fun j _=>by simp
 rw [e0]; exact hr
def rnd (n:Nat) (S:Nat -> Nat) (M:Nat):Nat := msk n fun j=>M.testBit j || (List.range n).any fun v=>M.testBit v && (S v).testBit j
theorem Q8q {M:Nat} (hM:∀j,M.testBit j=true->j < n):Qb fuel (Xy (agr n S) (t8 M.testBit)) (0,M.testBit 0,t8 M.testBit)=some (M.testBit 0,t8 (rnd n S M).testBit):=by
 have hr:=Zc (n:=n) (k0:=0) (by omega) (by omega) (fun i (t:Bool × Bool × Bool × Bool × Bool × Bool × Bool × Bool)=>(i,M.testBit 0,t)) (body:=Xy (agr n S) (t8 M.testBit)) (fun k=>t8 fun j=>M.testBit j || (List.range k).any fun v=>M.testBit v && (decide (j < n) && (S v).testBit j)) (M.testBit 0,t8 (rnd n S M).testBit)
  (fun k _ hk=>by
   have hb:=Q7v h1 hn hS (v:=k) (M:=M) hk (f:=fun j=>M.testBit j || (List.range k).any fun v=>M.testBit v && (decide (j < n) && (S v).testBit j)) (s9:=((k:Int),M.testBit 0,t8 fun j=>M.testBit j || (List.range k).any fun v=>M.testBit v && (decide (j < n) && (S v).testBit j))) rfl rfl
   unfold Xy
   dsimp only
   rw [Ql,aH (dlt hk),Qy hk,aC]
   refine Xg hb ?_
   refine congrArg (fun l=>some (Qg.next (zw ((k:Int)+1),M.testBit 0,l))) (t8_congr (f:=fun j=>(M.testBit j || (List.range k).any fun v=>M.testBit v && (decide (j < n) && (S v).testBit j)) || (decide (j < n) && (M.testBit k && (S k).testBit j))) (g:=fun j=>M.testBit j || (List.range (k+1)).any fun v=>M.testBit v && (decide (j < n) && (S v).testBit j)) fun j _=>?_)
   rw [List.range_succ,List.any_append]
   simp only [List.any_cons,List.any_nil,Bool.or_false,Bool.or_assoc]
   congr 2
   cases M.testBit k <;> simp)
  (by
   unfold Xy
   dsimp only [t8]
   rw [Ql,aI (nlt n)]
   refine congrArg (fun l=>some (Qg.done (M.testBit 0,l))) (t8_congr (f:=fun j=>M.testBit j || (List.range n).any fun v=>M.testBit v && (decide (j < n) && (S v).testBit j)) (g:=(rnd n S M).testBit) fun j _=>?_)
   unfold rnd
   rw [Q3]
   by_cases hj:j < n
   ·simp [hj]
   have:M.testBit j=false:=by rw [bK]; exact fun h=>hj (hM j h)
   simp [hj,this])
 have e0:t8 M.testBit=t8 fun j=>M.testBit j || (List.range 0).any fun v=>M.testBit v && (decide (j < n) && (S v).testBit j):=t8_congr fun j _=>by simp
 have hr':=hr
 rw [<-e0] at hr'
 exact hr'
theorem Qv8 {M j:Nat} (h:(rnd n S M).testBit j=true):j < n:=by
 unfold rnd at h; rw [Q3] at h
 simp only [aE,aN] at h; exact h.1
theorem Q0z {M:Nat} (hM:∀j,M.testBit j=true->j < n):Zh M (rnd n S M):=fun j hj=>by
 unfold rnd; rw [Q3]; simp [hj,hM j hj]
theorem Q7f {M T:Nat} (hT:Clo n S T) (h:Zh M T):Zh (rnd n S M) T:=fun j hj=>by
 unfold rnd at hj; rw [Q3] at hj
 simp only [aE,aN,aM,bR,cS] at hj
 rcases hj.2 with h2 | ⟨v,hv,h2,h3⟩
 ·exact h j h2
 exact hT v hv (h v h2) j h3
theorem Q5e {M:Nat} (h:rnd n S M=M):Clo n S M:=fun v hv hb j hj=>by
 rw [<-h]
 unfold rnd; rw [Q3]
 have:=hS.inn v hv j hj
 simp only [this,decide_true,eE,aM,bR,cS,aE]
 exact .inr ⟨v,hv,hb,hj⟩
theorem Qn5 {M:Nat} (hM:∀j,M.testBit j=true->j < n):Z1 (agr n S) (t8 M.testBit)=if (((rnd n S M).testBit 0==M.testBit 0) && (((rnd n S M).testBit 1==M.testBit 1) && (((rnd n S M).testBit 2==M.testBit 2) && (((rnd n S M).testBit 3==M.testBit 3) && (((rnd n S M).testBit 4==M.testBit 4) && (((rnd n S M).testBit 5==M.testBit 5) && (((rnd n S M).testBit 6==M.testBit 6) && (((rnd n S M).testBit 7==M.testBit 7) && true))))))))=true then some (.done (t8 M.testBit)) else some (.next (t8 (rnd n S M).testBit)):=by
 have hb:=Q8q h1 hn hS hM
 unfold Z1
 exact Xg hb rfl
theorem Qw2 {M:Nat} (hM:∀j,M.testBit j=true->j < n) (c:∀j,j < 8->(rnd n S M).testBit j=M.testBit j):Z1 (agr n S) (t8 M.testBit)=some (.done (t8 M.testBit)):=by
 rw [Qn5 h1 hn hS hM]; exact aH (eq8.2 c)
theorem Qw5 {M:Nat} (hM:∀j,M.testBit j=true->j < n) (c:¬ ∀j,j < 8->(rnd n S M).testBit j=M.testBit j):Z1 (agr n S) (t8 M.testBit)=some (.next (t8 (rnd n S M).testBit)):=by
 rw [Qn5 h1 hn hS hM]; exact aI fun h=>c (eq8.1 h)
theorem Q7z {w:Nat} (hw:∀j,w.testBit j=true->j < n):V3 (agr n S) (w:Int)=some (t8 (ups n S n w).testBit):=by
 have hw64:=Zy hn hS hw hw hw
 have e1:(t8 fun j=>decide (j < n) && w.testBit j)=t8 w.testBit:=t8_congr fun j _=>by
  by_cases hj:j < n
  ·simp [hj]
  have:w.testBit j=false:=by rw [bK]; exact fun h=>hj (hw j h)
  simp [hj,this]
 have hs:=Qch (body:=Z1 (agr n S)) (fun s=>∃M,(∀j,M.testBit j=true->j < n)/\Zh w M/\Zh M (ups n S n w)/\s=t8 M.testBit) (fun s=>8 - cnt 8 fun j=>(s.1 && decide (j=0)) || (s.2.1 && decide (j=1)) || (s.2.2.1 && decide (j=2)) || (s.2.2.2.1 && decide (j=3)) || (s.2.2.2.2.1 && decide (j=4)) || (s.2.2.2.2.2.1 && decide (j=5)) || (s.2.2.2.2.2.2.1 && decide (j=6)) || (s.2.2.2.2.2.2.2 && decide (j=7)))
  (fun r=>r=t8 (ups n S n w).testBit)
  (fun s hs=>by
   obtain ⟨M,hM,h2,h3,rfl⟩:=hs
   have hc:=J3 hS.inn hw
   have hmeas:∀M:Nat,(fun j=>((t8 M.testBit).1 && decide (j=0)) || ((t8 M.testBit).2.1 && decide (j=1)) || ((t8 M.testBit).2.2.1 && decide (j=2)) || ((t8 M.testBit).2.2.2.1 && decide (j=3)) || ((t8 M.testBit).2.2.2.2.1 && decide (j=4)) || ((t8 M.testBit).2.2.2.2.2.1 && decide (j=5)) || ((t8 M.testBit).2.2.2.2.2.2.1 && decide (j=6)) || ((t8 M.testBit).2.2.2.2.2.2.2 && decide (j=7)))=fun j=>decide (j < 8) && M.testBit j:=fun M=>by
    funext j
    by_cases hj:j < 8
    ·match j,hj with
     | 0,_=>simp [t8]
     | 1,_=>simp [t8]
     | 2,_=>simp [t8]
     | 3,_=>simp [t8]
     | 4,_=>simp [t8]
     | 5,_=>simp [t8]
     | 6,_=>simp [t8]
     | 7,_=>simp [t8]
    have:∀k,k < 8->decide (j=k)=false:=fun k hk=>by simp; omega
    simp [hj,this 0 (by omega),this 1 (by omega),this 2 (by omega),this 3 (by omega),this 4 (by omega),this 5 (by omega),this 6 (by omega),this 7 (by omega)]
   by_cases c:∀j,j < 8->(rnd n S M).testBit j=M.testBit j
   ·right
    refine ⟨_,Qw2 h1 hn hS hM c,?_⟩
    have e:rnd n S M=M:=dX fun j=>by
     by_cases hj:j < 8
     ·exact c j hj
     have q1:M.testBit j=false:=by rw [bK]; exact fun h=>by have:=hM j h; omega
     have q2:(rnd n S M).testBit j=false:=by rw [bK]; exact fun h=>by have:=Qv8 h1 hn hS h; omega
     rw [q1,q2]
    have e2:M=ups n S n w:=sub_anti h3 (Ya (Q5e h1 hn hS e) h2 n)
    rw [<-e2]
   left
   refine ⟨_,Qw5 h1 hn hS hM c,⟨rnd n S M,fun j h=>Qv8 h1 hn hS h,h2.trans (Q0z h1 hn hS hM),Q7f h1 hn hS hc h3,rfl⟩,?_⟩
   rw [hmeas M,hmeas (rnd n S M)]
   have hlt:cnt 8 M.testBit < cnt 8 (rnd n S M).testBit:=Qmv (Q0z h1 hn hS hM) (fun j h=>by have:=Qv8 h1 hn hS h; omega) fun e=>c fun j _=>by rw [<-e]
   have q:∀M:Nat,cnt 8 (fun j=>decide (j < 8) && M.testBit j)=cnt 8 M.testBit:=fun M=>Qdk fun j hj=>by simp [hj]
   rw [q,q]
   have:=Qqx 8 (rnd n S M).testBit
   omega)
  fuel (t8 w.testBit) ⟨w,hw,.refl,Xq n,rfl⟩ (by unfold fuel; omega)
 obtain ⟨r,hr,rfl⟩:=hs
 unfold V3
 rw [Q8b h1 hn hS hw64,aC,e1]
 exact Xg hr rfl
theorem Q30 {z M:Nat} (hz:∀j,z.testBit j=true->j < n):Qb fuel (Va (t8 M.testBit)) ((z:Int),M.testBit 0,0)=some ((msk n (fun i=>z.testBit i && !M.testBit i):Nat):Int):=by
 have hr:=Zc (n:=8) (k0:=0) (by omega) (by omega) (fun i (t:Int)=>(t,M.testBit 0,i)) (body:=Va (t8 M.testBit)) (fun k=>((msk n (fun i=>z.testBit i && !(decide (i < k) && M.testBit i)):Nat):Int)) ((msk n (fun i=>z.testBit i && !M.testBit i):Nat):Int)
  (fun k _ hk=>by
   unfold Va
   dsimp only [t8]
   rw [aH (by rw [aN]; omega),lk8 (f:=M.testBit) hk,aC]
   by_cases c:M.testBit k=true
   ·rw [aH c,aH (Z4 k),Q9h (by omega) (by omega)]
    refine congrArg (fun l:Nat => some (Qg.next ((l:Int),M.testBit 0,zw ((k:Int)+1)))) (Ye fun i _=>?_)
    by_cases e:i=k
    ·subst e; simp [c]
    have:(i < k+1)↔i < k:=by omega
    have e':¬ k=i:=fun h=>e h.symm
    simp [e',this]
   rw [aI c]
   refine congrArg (fun l:Nat => some (Qg.next ((l:Int),M.testBit 0,zw ((k:Int)+1)))) (Ye fun i _=>?_)
   by_cases e:i=k
   ·subst e; simp [c]
   have:(i < k+1)↔i < k:=by omega
   simp [this])
  (by
   unfold Va
   dsimp only
   rw [aI (by simp)]
   refine congrArg (fun l:Nat => some (Qg.done (l:Int))) (Ye fun i hi=>?_)
   have:i < 8:=by omega
   simp [this])
 have e0:(z:Int)=((msk n (fun i=>z.testBit i && !(decide (i < 0) && M.testBit i)):Nat):Int):=by
  congr 1
  exact Qdy (lt_pow hz) fun i _=>by simp
 have hr':=hr
 rw [<-e0] at hr'
 exact hr'
end
end Go.Ab
namespace Go.Ab
open Go
theorem Q9e {D:NF} (X:VX D):NB D.n D.node:=⟨fun v hv=>by
   have V:=X.vn
   have:=V.len v hv
   show (List.map _ (D.par v)).length<=_; rw [bZ]; have:=V.n8; omega,fun v hv=>by
   have V:=X.vn
   have:=V.rows_le hv
   show (Qd _ _).length<=_; rw [Q1]; omega,fun v hv r hr=>by
   have V:=X.vn
   have hr:r∈Qd (D.rows v) fun r=>Qd (D.card v) fun x=>(D.W v r x:Int):=hr
   unfold Qd at hr
   obtain ⟨i,_,rfl⟩:=cG.1 hr
   have:=(V.card v hv).2
   rw [bZ,List.length_range]; omega⟩
theorem Qzr {n:Nat} {F:Nat -> Ad} (hP:∀v,v < n->∀p∈Yk F v,p < n) (hr:Qhd n (Yk F)):Gd n (setF F):=by
 have hb:∀v j,(setF F v).testBit j=true↔j∈Yk F v:=fun v j=>by unfold setF; rw [X8]; simp
 obtain ⟨rk,hrk⟩:=hr
 refine ⟨fun v hv j hj=>hP v hv j ((hb v j).1 hj),fun v hv h=>?_⟩
 obtain ⟨T,hT⟩:=Qr2 n fun j=>rk j < rk v
 have:=Ya (S:=setF F) (s:=setF F v) (T:=T) (fun u hu hub j hj=>(hT j).2 ⟨hP u hu j ((hb u j).1 hj),Nat.lt_trans (hrk u hu j ((hb u j).1 hj)) ((hT u).1 hub).2⟩)
  (fun j hj=>(hT j).2 ⟨hP v hv j ((hb v j).1 hj),hrk v hv j ((hb v j).1 hj)⟩) n v h
 exact dH _ ((hT v).1 this).2
theorem Q7h {α:Type} {K E:α} {b1 b2 b3 b4:Bool} {ok:Prop} [Decidable ok] (h:(b1 || b2 || b3 || b4)=!decide ok):(if b1=true then E else if b2=true then E else if b3=true then E else if b4=true then E else K)=if ok then K else E:=by
 by_cases c:ok
 ·simp [c] at h; simp [c,h]
 simp [c] at h; rw [aI c]
 cases b1 <;> cases b2 <;> cases b3 <;> cases b4 <;> simp_all
theorem Q71 {α:Type} {K E:α} {b1 b2 b3 b4 b5 b6 b7 b8 b9:Bool} {ok:Prop} [Decidable ok] (h2:b2=false) (h3:b3=false) (h:(b1 || b4 || b5 || b6 || b7 || b8 || b9)=!decide ok) :
  (if b1=true then E else if b2=true then E else if b3=true then E else if b4=true then E else if b5=true then E else if b6=true then E else if b7=true then E else if b8=true then E else if b9=true then E else K)=if ok then K else E:=by
 subst h2 h3
 by_cases c:ok
 ·simp [c] at h; simp [c,h]
 ·simp [c] at h; rw [aI c]
  cases b1 <;> cases b4 <;> cases b5 <;> cases b6 <;> cases b7 <;> cases b8 <;> cases b9 <;> simp_all
theorem Qds {a b:Nat} (ha:a < 18446744073709551616) (hb:b < 18446744073709551616):((zv (zb (a:Int) &&& zb (b:Int)).toNat) != 0)=!(a &&& b==0):=by
 rw [BitVec.toNat_and,Y9 ha,Y9 hb,Zf (bX Nat.and_le_left ha),bne]
 congr 1
 rw [aP,dG,dG]
 exact ⟨fun h=>by exact_mod_cast h,fun h=>by rw [h]; rfl⟩
theorem Qi0 {a b:Nat}:(a &&& b==0)=true↔∀j,¬ (a.testBit j=true/\b.testBit j=true):=by
 rw [dG]
 constructor
 ·intro h j ⟨h1,h2⟩
  have:(a &&& b).testBit j=false:=by rw [h]; exact Nat.zero_testBit j
  rw [Nat.testBit_and,h1,h2] at this; cases this
 intro h
 apply dX
 intro j
 rw [Nat.testBit_and,Nat.zero_testBit,bK]
 intro hb
 rw [aE] at hb
 exact h j hb
theorem Qvz {a b c:Nat}:((a ||| b) &&& c==0)=((a &&& c==0) && (b &&& c==0)):=by
 rw [aP,aE,Qi0,Qi0,Qi0]
 constructor
 ·intro h
  exact ⟨fun j k=>h j ⟨by rw [bH,k.1]; rfl,k.2⟩,fun j k=>h j ⟨by rw [bH,k.1]; simp,k.2⟩⟩
 rintro ⟨h1,h2⟩ j ⟨k1,k2⟩
 rw [bH,aM] at k1
 rcases k1 with k1 | k1
 ·exact h1 j ⟨k1,k2⟩
 exact h2 j ⟨k1,k2⟩
def DjB (n y z x w:Nat):Bool:=decide (y ||| z ||| x ||| w < 2^n) && (y &&& z==0) && (y &&& x==0) && (z &&& x==0) && (y &&& w==0) && (z &&& w==0) && (x &&& w==0)
section
variable {n:Nat} {S:Nat -> Nat} (h1:1<=n) (hn:n<=8) (hS:Gd n S) {y z x w:Nat}
theorem Qb6 (hd:DjB n y z x w=true):(∀j,y.testBit j=true->j < n)/\(∀j,z.testBit j=true->j < n)/\(∀j,x.testBit j=true->j < n)/\(∀j,w.testBit j=true->j < n)/\(∀j,¬ (z.testBit j=true/\y.testBit j=true))/\(∀j,y.testBit j=true->(x ||| w).testBit j=false)/\(∀j,z.testBit j=true->(x ||| w).testBit j=false):=by
 unfold DjB at hd
 simp only [aE,aN,Qi0] at hd
 obtain ⟨⟨⟨⟨⟨⟨hu,a1⟩,a2⟩,a3⟩,a4⟩,a5⟩,a6⟩:=hd
 have hb:=Q5k.1 hu
 have no:∀{a:Nat},(∀j,¬ (a.testBit j=true/\x.testBit j=true))->(∀j,¬ (a.testBit j=true/\w.testBit j=true))->∀j,a.testBit j=true->(x ||| w).testBit j=false:=fun {a} p q j hj=>by
  rw [bH,cQ,bK,bK]
  exact ⟨fun e=>p j ⟨hj,e⟩,fun e=>q j ⟨hj,e⟩⟩
 exact ⟨fun j hj=>hb j (by simp [bH,hj]),fun j hj=>hb j (by simp [bH,hj]),fun j hj=>hb j (by simp [bH,hj]),fun j hj=>hb j (by simp [bH,hj]),
  fun j h=>a1 j ⟨h.2,h.1⟩,no a2 a4,no a3 a5⟩
include h1 hn hS
theorem Q05 (hd:DjB n y z x w=true):∃b,Xw (Qe n S) (y:Int) (z:Int) (zv (zb (x:Int) ||| zb (w:Int)).toNat)=some (b,0) /\
  Jf (Qe n S) (y:Int) (z:Int) (zv (zb (x:Int) ||| zb (w:Int)).toNat)=some b/\((y=0\/z=0)->b=true)/\(b=true↔¬ ∃u,z.testBit u=true/\(V7 n S y z (x ||| w)).testBit u=true):=by
 obtain ⟨hy,hz,hx,hw,d1,d2,d3⟩:=Qb6 hd
 have hxw:∀j,(x ||| w).testBit j=true->j < n:=fun j hj=>by
  rw [bH,aM] at hj
  exact hj.elim (hx j) (hw j)
 rw [Vc (Zy hn hS hx hx hx) (Zy hn hS hw hw hw)]
 obtain ⟨b,e1,e2⟩:=Q0j h1 hn hS hy hz d1 hxw d2 d3
 obtain ⟨b',e3,e4⟩:=Qs6 h1 hn hS hy hz hxw d2 d3
 have e:b'=b:=by rw [aP,e2,e4]
 subst e
 refine ⟨b',e1,e3,fun h=>e2.2 ?_,e2⟩
 rintro ⟨u,hu,hs⟩
 rcases h with rfl | rfl
 ·have:=Ya (n:=n) (S:=jo n S (anS n S 0 z (x ||| w)) (x ||| w)) (s:=0) (T:=0) (fun v _ hv=>by simp at hv) .refl n u hs
  simp at this
 ·simp at hu
def rG (n:Nat) (S:Nat -> Nat) (k:Nat) (z x w:Nat):Nat -> Nat :=
 if k=1 then cutG n x 0 S else if k=2 then cutG n x z S else cutG n (x ||| msk n fun i=>z.testBit i && !(ups n (cutG n x 0 S) n w).testBit i) 0 S
theorem Qy0 {k:Nat}:Gd n (rG n S k z x w):=by
 unfold rG
 split
 ·exact Qdu hS
 split
 ·exact Qdu hS
 exact Qdu hS
theorem Q3g (hx:∀j,x.testBit j=true->j < n):Kv (agr n S) (z:Int) (x:Int) (w:Int)=some (agr n (rG n S 1 z x w)):=by
 unfold Kv
 rw [Qnw h1 hn hS (Zy hn hS hx hx hx)]; rfl
theorem Q14 (hx:∀j,x.testBit j=true->j < n) (hz:∀j,z.testBit j=true->j < n):J7 (agr n S) (z:Int) (x:Int) (w:Int)=some (agr n (rG n S 2 z x w)):=by
 unfold J7
 rw [Qnw h1 hn hS (Zy hn hS hx hx hx),aC,Q63 h1 hn (Qdu hS) (Zy hn hS hz hz hz),aC]
 have e:Qe n (cutG n 0 z (cutG n x 0 S))=Qe n (rG n S 2 z x w):=Qm fun v hv=>congrArg Nat.cast (dX fun j=>by
  show _=(cutG n x z S v).testBit j
  by_cases hj:j < n
  ·rw [aP,Jp hj,Jp hj,Jp hj]; simp [and_assoc]
  have q1:(cutG n 0 z (cutG n x 0 S) v).testBit j=false:=by rw [bK]; exact fun h=>hj (Qhe h)
  have q2:(cutG n x z S v).testBit j=false:=by rw [bK]; exact fun h=>hj (Qhe h)
  rw [q1,q2])
 unfold agr
 rw [e]
theorem Q2u (hx:∀j,x.testBit j=true->j < n) (hz:∀j,z.testBit j=true->j < n) (hw:∀j,w.testBit j=true->j < n):Ky (agr n S) (z:Int) (x:Int) (w:Int)=some (agr n (rG n S 3 z x w)):=by
 unfold Ky
 have hc:Gd n (cutG n x 0 S):=Qdu hS
 have h8:(2:Nat)^n<=256:=aV (n:=2) (by omega) hn
 rw [Qnw h1 hn hS (Zy hn hS hx hx hx),aC,Q7z h1 hn hc hw,aC]
 refine Xg (Q30 h1 hn hc hz) ?_
 rw [Qnw h1 hn hc (bO Qjg (by omega)),aC]
 have e:Qe n (cutG n (msk n fun i=>z.testBit i && !(ups n (cutG n x 0 S) n w).testBit i) 0 (cutG n x 0 S))=Qe n (rG n S 3 z x w):=Qm fun v hv=>congrArg Nat.cast (dX fun j=>by
  show _=(cutG n (x ||| msk n fun i=>z.testBit i && !(ups n (cutG n x 0 S) n w).testBit i) 0 S v).testBit j
  by_cases hj:j < n
  ·rw [aP,Jp hj,Jp hj,Jp hj,bH]; simp; grind
  have q1:(cutG n (msk n fun i=>z.testBit i && !(ups n (cutG n x 0 S) n w).testBit i) 0 (cutG n x 0 S) v).testBit j=false:=by rw [bK]; exact fun h=>hj (Qhe h)
  have q2:(cutG n (x ||| msk n fun i=>z.testBit i && !(ups n (cutG n x 0 S) n w).testBit i) 0 S v).testBit j=false:=by rw [bK]; exact fun h=>hj (Qhe h)
  rw [q1,q2])
 unfold agr
 rw [e]
theorem Qpv (hd:DjB n y z x w=true) {k:Nat} (hk:1<=k/\k<=3) {b:Bool} (hb:Jf (Qe n (rG n S k z x w)) (y:Int) (z:Int) (zv (zb (x:Int) ||| zb (w:Int)).toNat)=some b) :
  Qdz (Qe n S) (k:Int) (y:Int) (z:Int) (x:Int) (w:Int)=some b:=by
 obtain ⟨hy,hz,hx,hw,d1,d2,d3⟩:=Qb6 hd
 have hx64:=Zy hn hS hx hx hx
 have hz64:=Zy hn hS hz hz hz
 have hw64:=Zy hn hS hw hw hw
 have h8:(2:Nat)^n<=256:=aV (n:=2) (by omega) hn
 unfold Qdz
 rw [show (0:Int)=((0:Nat):Int) from rfl,Qka h1 hn hS hx64 (O:=0) (by omega),aC]
 have hk':k=1\/k=2\/k=3:=by omega
 rcases hk' with rfl | rfl | rfl
 ·rw [aI (by decide),aI (by decide),show cutG n x 0 S=rG n S 1 z x w from rfl,hb]; rfl
 ·rw [aH (by decide),Qka h1 hn hS hx64 hz64,aC,show cutG n x z S=rG n S 2 z x w from rfl,hb]; rfl
 ·have hc:Gd n (cutG n x 0 S):=Qdu hS
  have hup:∀j,(ups n (cutG n x 0 S) n w).testBit j=true->j < n:=fun j hj=>Qmq hc.inn hw hj
  have e1:zv (zb (z:Int) &&& ~~~ zb ((ups n (cutG n x 0 S) n w:Nat):Int)).toNat = ((msk n fun i=>z.testBit i && !(ups n (cutG n x 0 S) n w).testBit i:Nat):Int) :=
   Qi7 (n:=n) (by omega) (lt_pow hz) (Zy hn hS hup hup hup) (fun _ _=>rfl) (fun _ _=>rfl)
  have hm64:(msk n fun i=>z.testBit i && !(ups n (cutG n x 0 S) n w).testBit i) < 18446744073709551616:=bO Qjg (by omega)
  rw [aI (by decide),aH (by decide),Qp1 hn hc.inn hw,aC,e1,Vc hx64 hm64,Qka h1 hn hS (eF (n:=64) hx64 hm64) (O:=0) (by omega),aC,
   show cutG n (x ||| msk n fun i=>z.testBit i && !(ups n (cutG n x 0 S) n w).testBit i) 0 S=rG n S 3 z x w from rfl,hb]; rfl
end
def Qyz (m:Qc):Prop:=∀(k:Int) (y z x w:Nat),y < 18446744073709551616->z < 18446744073709551616->x < 18446744073709551616->w < 18446744073709551616->∃(b:Bool) (e:Int),Vn m k (y:Int) (z:Int) (x:Int) (w:Int)=some (b,e)/\V1 m k (y:Int) (z:Int) (x:Int) (w:Int)=some (b,e)
section
variable {n:Nat} {g:Int} {F:Nat -> Ad}
theorem Qxv (hf:Qox n g F):Gd n (setF F):=Qzr (fun v hv=>(Qa2 (hf.node v hv).1.1).2.2) hf.rank
theorem Qb2 {y z x w:Nat} (hn:n<=8) (hy:y < 18446744073709551616) (hz:z < 18446744073709551616) (hx:x < 18446744073709551616) (hw:w < 18446744073709551616) {α:Type} {K E:α} :
  (if ((Int.fdiv (zv (zb (zv (zb (zv (zb (y:Int) ||| zb (z:Int)).toNat) ||| zb (x:Int)).toNat) ||| zb (w:Int)).toNat) (2^min (Int.toNat (n:Int)) zk)) != 0)=true then E else
   if ((zv (zb (y:Int) &&& zb (z:Int)).toNat) != 0)=true then E else
   if ((zv (zb (zv (zb (y:Int) ||| zb (z:Int)).toNat) &&& zb (x:Int)).toNat) != 0)=true then E else
   if ((zv (zb (zv (zb (zv (zb (y:Int) ||| zb (z:Int)).toNat) ||| zb (x:Int)).toNat) &&& zb (w:Int)).toNat) != 0)=true then E else K)=if DjB n y z x w=true then K else E:=by
 have o1:=eF (n:=64) hy hz
 have o2:=eF (n:=64) o1 hx
 refine Q7h ?_
 rw [Vc hy hz,Vc o1 hx,Vc o2 hw,Qc8 (by omega),Qds hy hz,Qds o1 hx,Qds o2 hw,Qvz,Qvz,Qvz]
 unfold DjB
 cases decide (y ||| z ||| x ||| w < 2^n) <;> cases (y &&& z==0) <;> cases (y &&& x==0) <;> cases (z &&& x==0) <;> cases (y &&& w==0) <;> cases (z &&& w==0) <;> cases (x &&& w==0) <;> rfl
theorem Qmz {y z x w:Nat} {k:Int} (hk:1<=k/\k<=3) (hn:n<=8) (hy:y < 18446744073709551616) (hz:z < 18446744073709551616) (hx:x < 18446744073709551616) (hw:w < 18446744073709551616) {α:Type} {K E:α} :
  (if ((Int.fdiv (zv (zb (zv (zb (zv (zb (y:Int) ||| zb (z:Int)).toNat) ||| zb (x:Int)).toNat) ||| zb (w:Int)).toNat) (2^min (Int.toNat (n:Int)) zk)) != 0)=true then E else
   if (decide (k < 1))=true then E else if (decide (k > 3))=true then E else
   if ((zv (zb (y:Int) &&& zb (z:Int)).toNat) != 0)=true then E else
   if ((zv (zb (y:Int) &&& zb (x:Int)).toNat) != 0)=true then E else
   if ((zv (zb (y:Int) &&& zb (w:Int)).toNat) != 0)=true then E else
   if ((zv (zb (z:Int) &&& zb (x:Int)).toNat) != 0)=true then E else
   if ((zv (zb (z:Int) &&& zb (w:Int)).toNat) != 0)=true then E else
   if ((zv (zb (x:Int) &&& zb (w:Int)).toNat) != 0)=true then E else K)=if DjB n y z x w=true then K else E:=by
 have o1:=eF (n:=64) hy hz
 have o2:=eF (n:=64) o1 hx
 refine Q71 (by simp; omega) (by simp; omega) ?_
 rw [Vc hy hz,Vc o1 hx,Vc o2 hw,Qc8 (by omega),Qds hy hz,Qds hy hx,Qds hy hw,Qds hz hx,Qds hz hw,Qds hx hw]
 unfold DjB
 cases decide (y ||| z ||| x ||| w < 2^n) <;> cases (y &&& z==0) <;> cases (y &&& x==0) <;> cases (z &&& x==0) <;> cases (y &&& w==0) <;> cases (z &&& w==0) <;> cases (x &&& w==0) <;> rfl
theorem Q0m (hf:Qox n g F) {o:List Int} (hr:Xn ⟨g,Qd n F⟩=some (⟨⟨g,Qd n F⟩,Qe n (cardN F),Qe n (setF F),o⟩,0)) (ht:Jc ⟨g,Qd n F⟩=some true):Qyz ⟨g,Qd n F⟩:=fun k y z x w hy hz hx hw=>by
 have h1:=hf.n1
 have hn:=hf.n8
 have hS:=Qxv hf
 have hlen:(Qd n F).length=n:=Q1
 have hc:X4 ⟨g,Qd n F⟩ []=some 0:=by
  unfold X4 Qcb
  rw [hr]; rfl
 have hp:J5 ⟨g,Qd n F⟩=some (Qe n (setF F),0):=by
  unfold J5
  rw [hr]; rfl
 have hps:=Qoj (n:=n) (g:=g) (F:=F) hn fun v hv=>(hf.node v hv).1.1
 have hu:zv (n:Int)=(n:Int):=Zf (by omega)
 by_cases hk:1<=k/\k<=3
 ·by_cases hd:DjB n y z x w=true
  ·obtain ⟨kk,rfl⟩:∃kk:Nat,k=kk:=⟨k.toNat,by omega⟩
   obtain ⟨b,e1,e2,e3,_⟩:=Q05 h1 hn (Qy0 h1 hn hS (k:=kk) (z:=z) (x:=x) (w:=w)) hd
   obtain ⟨by',bz,bx,bw,_⟩:=Qb6 hd
   refine ⟨b,0,?_,?_⟩
   ·unfold Vn
    dsimp only
    rw [hc,aC,aI (by decide),hlen,Qb2 hn hy hz hx hw,Qb2 hn hy hz hx hw,Qb2 hn hy hz hx hw,aH hd,aH hd,aH hd,hp,aC,aC,aC]
    dsimp only
    have hk':kk=1\/kk=2\/kk=3:=by omega
    have fin:∀{G:Option Aa},G=some (agr n (rG n (setF F) kk z x w))->(if ((0:Int) != 0)=true then some (false,(0:Int)) else if ((y:Int)==0)=true then some (true,0) else if ((z:Int)==0)=true then some (true,0) else G.bind fun x23=>(Xw x23.sets.parents (y:Int) (z:Int) (zv (zb (x:Int) ||| zb (w:Int)).toNat)).bind fun x25=>some (x25.1,x25.2))=some (b,0):=fun {G} hG=>by
     rw [aI (by decide)]
     by_cases cy:y=0
     ·rw [aH (by simp [cy]),e3 (.inl cy)]
     rw [aI (by simpa using cy)]
     by_cases cz:z=0
     ·rw [aH (by simp [cz]),e3 (.inr cz)]
     rw [aI (by simpa using cz),hG,aC,e1]; rfl
    rcases hk' with rfl | rfl | rfl
    ·rw [aH (by decide),aH (by omega)]; exact fin (Q3g h1 hn hS bx)
    ·rw [aI (by decide),aH (by decide),aH (by omega)]; exact fin (Q14 h1 hn hS bx bz)
    rw [aI (by decide),aI (by decide),aH (by decide),aH (by omega)]; exact fin (Q2u h1 hn hS bx bz bw)
   unfold V1
   dsimp only
   rw [ht,aC,aI (by decide),hlen,hu,aH (by omega),Qmz hk hn hy hz hx hw,aH hd,hps,aC,Qpv h1 hn hS hd (by omega) e2]; rfl
  refine ⟨false,2,?_,?_⟩
  ·unfold Vn
   dsimp only
   rw [hc,aC,aI (by decide),hlen,Qb2 hn hy hz hx hw,Qb2 hn hy hz hx hw,Qb2 hn hy hz hx hw,aI hd,aI hd,aI hd]
   have hk':k=1\/k=2\/k=3:=by omega
   rcases hk' with rfl | rfl | rfl
   ·rw [aH (by decide),aH (by omega)]
   ·rw [aI (by decide),aH (by decide),aH (by omega)]
   rw [aI (by decide),aI (by decide),aH (by decide),aH (by omega)]
  unfold V1
  dsimp only
  rw [ht,aC,aI (by decide),hlen,hu,aH (by omega),Qmz hk hn hy hz hx hw,aI hd]
 refine ⟨false,2,?_,?_⟩
 ·unfold Vn
  rw [hc,aC,aI (by decide),aI (by omega),aI (by omega),aI (by omega)]
 unfold V1
 dsimp only
 rw [ht,aC,aI (by decide),hlen,hu,aH (by omega)]
 split
 ·rfl
 by_cases c:k < 1
 ·rw [aH (by simpa using c)]
 rw [aI (by simpa using c),aH (by simp; omega)]
theorem Q3l {m:Qc} (h:Xn m=some Quy) (hr:Jc m=some false):Qyz m:=fun k y z x w hy hz hx hw=>by
 refine ⟨false,50,?_,?_⟩
 ·unfold Vn
  rw [Qut h,aC,aH (by decide)]
 unfold V1
 rw [hr,aC,aH (by decide)]
theorem Q2s (hb:NB n F) (hn:n<=1000000):Qyz ⟨g,Qd n F⟩:=by
 rcases Q00 (g:=g) hb hn with ⟨hf,o,hr⟩ | ⟨hf,hr⟩
 ·rcases Qj3 (g:=g) hb with ⟨_,ht⟩ | ⟨no,_⟩
  ·exact Q0m hf hr ht
  exact absurd hf no
 rcases Qj3 (g:=g) hb with ⟨hf',_⟩ | ⟨_,ht⟩
 ·exact absurd hf' hf
 exact Q3l hr ht
end
end Go.Ab
namespace Go.Ab
open Go
open Classical
def NS (c:Nat -> Nat) (f:(Nat -> Nat)->Int):Nat -> Nat -> (Nat -> Nat)->Int
 | 0,_,w=>f w
 | d+1,i,w=>Qj (c i) fun x=>NS c f d (i+1) (updF w i x)
def Qmp (c:Nat -> Nat) (H:(Nat -> Nat)->(Nat -> Nat)->Int):Nat -> Nat -> (Nat -> Nat)->(Nat -> Nat)->Int
 | 0,_,w,w'=>H w w'
 | d+1,i,w,w'=>Qj (c i) fun x=>Qj (c i) fun y=>Qmp c H d (i+1) (updF w i x) (updF w' i y)
theorem Q1o {n:Nat} {F G:Nat -> Int}:Qj n F*Qj n G=Qj n fun x=>Qj n fun y=>F x*G y:=by
 rw [<-Qhp]
 refine Q2 fun x _=>?_
 rw [Int.mul_comm,<-Qhp]
 exact Q2 fun y _=>Int.mul_comm _ _
theorem Qwd {c:Nat -> Nat} {f f':(Nat -> Nat)->Int}:∀(d i:Nat) (w w':Nat -> Nat),NS c f d i w*NS c f' d i w'=Qmp c (fun a b=>f a*f' b) d i w w'
 | 0,_,_,_=>rfl
 | d+1,i,w,w'=>by
  unfold NS Qmp
  rw [Q1o]
  exact Q2 fun x _=>Q2 fun y _=>Qwd d (i+1) _ _
def okW (c:Nat -> Nat) (n:Nat) (w:Nat -> Nat):Prop:=∀v,v < n->w v < c v
theorem okW.upd {c:Nat -> Nat} {n i x:Nat} {w:Nat -> Nat} (h:okW c n w) (hx:x < c i):okW c n (updF w i x):=fun v hv=>by
 unfold updF
 split
 ·rename_i e; subst e; exact hx
 exact h v hv
def Yr (q:Nat -> Bool) (a b:Nat -> Nat):Nat -> Nat := fun v=>if q v=true then a v else b v
theorem Qxt {q:Nat -> Bool} {a b:Nat -> Nat} {i x y:Nat}:Yr q (updF a i x) (updF b i y)=updF (Yr q a b) i (if q i=true then x else y):=by
 funext v
 unfold Yr updF
 by_cases e:v=i
 ·subst e; simp
 simp [e]
theorem Qxo {c:Nat -> Nat} {n:Nat} {q:Nat -> Bool} {H H':(Nat -> Nat)->(Nat -> Nat)->Int} (h:∀a b,okW c n a->okW c n b->H a b=H' (Yr q a b) (Yr q b a)) :
  ∀(d i:Nat) (w w':Nat -> Nat),okW c n w->okW c n w'->Qmp c H d i w w'=Qmp c H' d i (Yr q w w') (Yr q w' w)
 | 0,_,w,w',h1,h2=>h w w' h1 h2
 | d+1,i,w,w',h1,h2=>by
  unfold Qmp
  have e:(Qj (c i) fun x=>Qj (c i) fun y=>Qmp c H d (i+1) (updF w i x) (updF w' i y))=Qj (c i) fun x=>Qj (c i) fun y=>Qmp c H' d (i+1) (updF (Yr q w w') i (if q i=true then x else y)) (updF (Yr q w' w) i (if q i=true then y else x)) :=
   Q2 fun x hx=>Q2 fun y hy=>by rw [Qxo h d (i+1) _ _ (h1.upd hx) (h2.upd hy),Qxt,Qxt]
  rw [e]
  by_cases hq:q i=true
  ·simp only [hq,eP]
  simp only [hq,eO,aU]
  exact Qsq
theorem Qob {c:Nat -> Nat} {n:Nat} {f g:(Nat -> Nat)->Int} (h:∀w,okW c n w->f w=g w):∀(d i:Nat) (w:Nat -> Nat),okW c n w->NS c f d i w=NS c g d i w
 | 0,_,w,hw=>h w hw
 | d+1,i,w,hw=>Q2 fun x hx=>Qob h d (i+1) _ (hw.upd hx)
theorem Q3r {w:Nat -> Nat} {i j x y:Nat} (h:i≠j):updF (updF w i x) j y=updF (updF w j y) i x:=by
 funext v
 unfold updF
 by_cases e:v=j
 ·subst e
  rw [aH rfl,aI (fun e=>h e.symm),aH rfl]
 rw [aI e]
 by_cases e2:v=i
 ·rw [aH e2,aH e2]
 rw [aI e2,aI e2,aI e]
theorem Qui {c:Nat -> Nat} {n b:Nat} {h1 h2:(Nat -> Nat)->Int} {g:Int} (h:∀w,okW c n w->Qj (c b) (fun x=>h1 (updF w b x))=g*Qj (c b) fun x=>h2 (updF w b x)) :
  ∀(d j:Nat) (w:Nat -> Nat),b < j->okW c n w->(Qj (c b) fun x=>NS c h1 d j (updF w b x))=g*Qj (c b) fun x=>NS c h2 d j (updF w b x)
 | 0,_,w,_,hw=>h w hw
 | d+1,j,w,hj,hw=>by
  have sw:∀h:(Nat -> Nat)->Int,(Qj (c b) fun x=>NS c h (d+1) j (updF w b x))=Qj (c j) fun y=>Qj (c b) fun x=>NS c h d (j+1) (updF (updF w j y) b x):=fun h=>by
   show (Qj (c b) fun x=>Qj (c j) fun y=>NS c h d (j+1) (updF (updF w b x) j y))=_
   rw [Qsq]
   exact Q2 fun y _=>Q2 fun x _=>by rw [Q3r (by omega)]
  rw [sw,sw,Int.mul_comm,<-Qhp]
  exact Q2 fun y hy=>by rw [Qui h d (j+1) _ (by omega) (hw.upd hy),Int.mul_comm]
theorem Qur {c:Nat -> Nat} {n b:Nat} {h1 h2:(Nat -> Nat)->Int} {g:Int} (h:∀w,okW c n w->Qj (c b) (fun x=>h1 (updF w b x))=g*Qj (c b) fun x=>h2 (updF w b x)) :
  ∀(d i:Nat) (w:Nat -> Nat),i<=b->b < i+d->okW c n w->NS c h1 d i w=g*NS c h2 d i w
 | 0,i,w,h3,h4,_=>by omega
 | d+1,i,w,h3,h4,hw=>by
  by_cases e:i=b
  ·subst e
   exact Qui h d (i+1) w (by omega) hw
  unfold NS
  rw [Int.mul_comm,<-Qhp]
  exact Q2 fun x hx=>by rw [Qur h d (i+1) _ (by omega) (by omega) (hw.upd hx),Int.mul_comm]
theorem Q41 {D:NF} {f:(Nat -> Nat)->Int}:∀(d i:Nat) (w:Nat -> Nat),TM D (fun _=>-1) f d i w=NS D.card f d i w
 | 0,_,_=>rfl
 | d+1,i,w=>Q2 fun x _=>by rw [aH (.inl rfl),Q41 d (i+1)]
section
variable {D:NF} {u:Nat -> Nat} {m M:Nat}
def hT (D:NF) (u:Nat -> Nat) (m M:Nat) (w:Nat -> Nat):Int:=if ∀v,v < D.n->M.testBit v=true->w v=u v then fS D m w else 0
def TT (D:NF) (u:Nat -> Nat) (m M:Nat):Int:=NS D.card (hT D u m M) D.n 0 fun _=>0
theorem Qjv (V:VN D):okW D.card D.n fun _=>0:=fun v hv=>(V.card v hv).1
theorem Quj {m m':Nat} {w w':Nat -> Nat} (h:∀v,v < D.n->(if m.testBit v=true then 1 else D.wt w v)=if m'.testBit v=true then 1 else D.wt w' v):fS D m w=fS D m' w':=by
 unfold fS NF.fr
 rw [Qbj h]
theorem Qok {m' M':Nat} (V:VN D) (h1:∀v,v < D.n->m.testBit v=m'.testBit v) (h2:∀v,v < D.n->M.testBit v=M'.testBit v):TT D u m M=TT D u m' M':=by
 refine Qob (n:=D.n) (fun w _=>?_) D.n 0 _ (Qjv V)
 unfold hT
 rw [Quj (m':=m') (w':=w) fun v hv=>by rw [h1 v hv]]
 have e:(∀v,v < D.n->M.testBit v=true->w v=u v)↔∀v,v < D.n->M'.testBit v=true->w v=u v:=⟨fun h v hv hb=>h v hv (by rw [h2 v hv]; exact hb),fun h v hv hb=>h v hv (by rw [<-h2 v hv]; exact hb)⟩
 by_cases c:∀v,v < D.n->M.testBit v=true->w v=u v
 ·rw [aH c,aH (e.1 c)]
 rw [aI c,aI fun h=>c (e.2 h)]
theorem Qmb {w w':Nat -> Nat} {v:Nat} (h0:w v=w' v) (h:∀p∈D.par v,w p=w' p):D.wt w v=D.wt w' v:=by
 have:D.idx v w=D.idx v w':=by
  unfold NF.idx Vw
  have:∀(l:List Nat) (r:Nat),(∀p∈l,w p=w' p)->l.foldl (fun r p=>r*D.card p+w p) r=l.foldl (fun r p=>r*D.card p+w' p) r:=fun l=>by
   induction l with
   | nil=>intro r _; rfl
   | cons p l ih =>
    intro r h
    simp only [List.foldl_cons]
    rw [h p (by simp)]
    exact ih _ fun p hp=>h p (cN _ hp)
  exact this _ _ h
 unfold NF.wt
 rw [this,h0]
theorem Qqd {n:Nat} {f g:Nat -> Nat}:Qi n f*Qi n g=Qi n fun v=>f v*g v:=by
 induction n with
 | zero=>rfl
 | succ n ih =>
  unfold Qi
  rw [<-ih,Nat.mul_mul_mul_comm]
theorem Qre (V:VN D) {m1 M1 m2 M2 m1' M1' m2' M2':Nat} {q:Nat -> Bool} (hM:∀v,v < D.n->M1'.testBit v=(if q v=true then M1.testBit v else M2.testBit v)/\M2'.testBit v=(if q v=true then M2.testBit v else M1.testBit v))
  (hv:∀v,v < D.n->((∀p,p=v\/p∈D.par v->q p=true\/(M1.testBit p=true/\M2.testBit p=true))/\m1.testBit v=m1'.testBit v/\m2.testBit v=m2'.testBit v)\/((∀p,p=v\/p∈D.par v->q p=false)/\m1.testBit v=m2'.testBit v/\m2.testBit v=m1'.testBit v) \/
   (m1.testBit v=true/\m2.testBit v=true/\m1'.testBit v=true/\m2'.testBit v=true)):TT D u m1 M1*TT D u m2 M2=TT D u m1' M1'*TT D u m2' M2':=by
 unfold TT
 rw [Qwd,Qwd]
 have h0:Yr q (fun _=>0) (fun _=>0)=fun _=>0:=by funext v; unfold Yr; split <;> rfl
 have hs:=Qxo (c:=D.card) (n:=D.n) (q:=q) (H:=fun a b=>hT D u m1 M1 a*hT D u m2 M2 b) (H':=fun a b=>hT D u m1' M1' a*hT D u m2' M2' b) (fun a b ha hb=>by
  show hT D u m1 M1 a*hT D u m2 M2 b=hT D u m1' M1' (Yr q a b)*hT D u m2' M2' (Yr q b a)
  unfold hT
  have hiff:((∀v,v < D.n->M1.testBit v=true->a v=u v)/\(∀v,v < D.n->M2.testBit v=true->b v=u v))↔((∀v,v < D.n->M1'.testBit v=true->Yr q a b v=u v)/\(∀v,v < D.n->M2'.testBit v=true->Yr q b a v=u v)):=by
   constructor
   ·rintro ⟨k1,k2⟩
    constructor
    ·intro v hv hb'
     rw [(hM v hv).1] at hb'
     unfold Yr
     by_cases c:q v=true
     ·rw [aH c] at hb' ⊢; exact k1 v hv hb'
     rw [aI c] at hb' ⊢; exact k2 v hv hb'
    intro v hv hb'
    rw [(hM v hv).2] at hb'
    unfold Yr
    by_cases c:q v=true
    ·rw [aH c] at hb' ⊢; exact k2 v hv hb'
    rw [aI c] at hb' ⊢; exact k1 v hv hb'
   rintro ⟨k1,k2⟩
   constructor
   ·intro v hv hb'
    by_cases c:q v=true
    ·have:=k1 v hv (by rw [(hM v hv).1,aH c]; exact hb')
     unfold Yr at this; rwa [aH c] at this
    have:=k2 v hv (by rw [(hM v hv).2,aI c]; exact hb')
    unfold Yr at this; rwa [aI c] at this
   intro v hv hb'
   by_cases c:q v=true
   ·have:=k2 v hv (by rw [(hM v hv).2,aH c]; exact hb')
    unfold Yr at this; rwa [aH c] at this
   have:=k1 v hv (by rw [(hM v hv).1,aI c]; exact hb')
   unfold Yr at this; rwa [aI c] at this
  by_cases c:(∀v,v < D.n->M1.testBit v=true->a v=u v)/\(∀v,v < D.n->M2.testBit v=true->b v=u v)
  ·have c':=hiff.1 c
   rw [aH c.1,aH c.2,aH c'.1,aH c'.2]
   unfold fS NF.fr
   rw [<-Int.natCast_mul,<-Int.natCast_mul,Qqd,Qqd]
   congr 1
   refine Qbj fun v hvn=>?_
   rcases hv v hvn with ⟨hf,e1,e2⟩ | ⟨hf,e1,e2⟩ | ⟨e1,e2,e3,e4⟩
   ·have agree:∀p,p=v\/p∈D.par v->Yr q a b p=a p/\Yr q b a p=b p:=fun p hp=>by
     have hpn:p < D.n:=hp.elim (fun e=>e ▸ hvn) (V.par v hvn p)
     unfold Yr
     rcases hf p hp with h | ⟨h1,h2⟩
     ·rw [aH h,aH h]; exact ⟨rfl,rfl⟩
     have:=c.1 p hpn h1
     have:=c.2 p hpn h2
     constructor <;> split <;> omega
    rw [Qmb (D:=D) (w:=Yr q a b) (w':=a) (agree v (.inl rfl)).1 fun p hp=>(agree p (.inr hp)).1,Qmb (D:=D) (w:=Yr q b a) (w':=b) (agree v (.inl rfl)).2 fun p hp=>(agree p (.inr hp)).2,e1,e2]
   ·have agree:∀p,p=v\/p∈D.par v->Yr q a b p=b p/\Yr q b a p=a p:=fun p hp=>by
     unfold Yr
     rw [hf p hp]; exact ⟨rfl,rfl⟩
    rw [Qmb (D:=D) (w:=Yr q a b) (w':=b) (agree v (.inl rfl)).1 fun p hp=>(agree p (.inr hp)).1,Qmb (D:=D) (w:=Yr q b a) (w':=a) (agree v (.inl rfl)).2 fun p hp=>(agree p (.inr hp)).2,e1,e2]
    exact cL _ _
   rw [aH e1,aH e2,aH e3,aH e4]
  have c':¬ _:=fun h=>c (hiff.2 h)
  have z:∀{P Q:Prop} [Decidable P] [Decidable Q] {x y:Int},¬ (P/\Q)->(if P then x else 0)*(if Q then y else 0)=0:=fun {P Q} _ _ {x y} h=>by
   by_cases p1:P
   ·rw [aI (fun p2=>h ⟨p1,p2⟩),Int.mul_zero]
   rw [aI p1,Int.zero_mul]
  rw [z c,z c']) D.n 0 (fun _=>0) (fun _=>0) (Qjv V) (Qjv V)
 rw [h0] at hs
 exact hs
theorem Qzz {n k:Nat} {R:Int} (hk:k < n):Qj n (fun x=>if x=k then R else 0)=R:=by
 induction n with
 | zero=>omega
 | succ n ih =>
  simp only [Qj]
  by_cases e:n=k
  ·subst e
   rw [aH rfl,Q2 (g:=fun _=>0) fun x hx=>aI (by omega),K6]; omega
  rw [aI e,ih (by omega)]; omega
theorem Qww {n b:Nat} {f:Nat -> Nat} (hb:b < n):Qi n f=Qi n (fun v=>if v=b then 1 else f v)*f b:=by
 induction n with
 | zero=>omega
 | succ n ih =>
  unfold Qi
  dsimp only
  by_cases e:n=b
  ·subst e
   rw [aH rfl,Nat.mul_one,Qbj (g:=fun v=>if v=n then 1 else f v) fun v hv=>(aI (by omega)).symm]
  rw [aI e,ih (by omega),Nat.mul_right_comm]
theorem Q1l (X:VX D) {b:Nat} (hb:b < D.n) (hbM:M.testBit b=false) (hbm:m.testBit b=false) (hch:∀v,v < D.n->m.testBit v=false->v≠b->b ∉ D.par v) (hu:u b < D.card b) :
  TT D u m M=D.g*TT D u (m ||| 2^b) (M ||| 2^b):=by
 have V:=X.vn
 have bb:∀(s v:Nat),(s ||| 2^b).testBit v=(s.testBit v || decide (b=v)):=fun s v=>by rw [bH,V5]
 refine Qur (n:=D.n) (b:=b) (fun w hw=>?_) D.n 0 _ (eJ _) (by omega) (Qjv V)
 have hR:∀x,fS D (m ||| 2^b) (updF w b x)=fS D (m ||| 2^b) w:=fun x=>Quj fun v hv=>by
  rw [bb]
  by_cases e:b=v
  ·simp [e]
  by_cases c:m.testBit v=true
  ·simp [c]
  simp only [cP] at c
  simp only [c,e,decide_false,Bool.or_false,aU,eO]
  exact Qmb (Yw fun h=>e h.symm) fun p hp=>Yw fun h=>hch v hv c (fun h=>e h.symm) (h ▸ hp)
 have hF:∀x,fS D m (updF w b x)=fS D (m ||| 2^b) w*(D.W b (D.idx b w) x:Int):=fun x=>by
  rw [<-hR x]
  unfold fS NF.fr
  rw [Qww hb,hbm,<-Int.natCast_mul]
  have e1:D.wt (updF w b x) b=D.W b (D.idx b w) x:=by
   have:D.idx b (updF w b x)=D.idx b w:=by
    unfold NF.idx Vw
    have:∀(l:List Nat) (r:Nat),(∀p∈l,p≠b)->l.foldl (fun r p=>r*D.card p+updF w b x p) r=l.foldl (fun r p=>r*D.card p+w p) r:=fun l=>by
     induction l with
     | nil=>intro r _; rfl
     | cons p l ih =>
      intro r h
      simp only [List.foldl_cons]
      rw [Yw (h p (by simp))]
      exact ih _ fun p hp=>h p (cN _ hp)
    exact this _ _ fun p hp e=>X.self b hb (e ▸ hp)
   unfold NF.wt
   rw [this,Z6]
  congr 1
  rw [aI (by simp),e1]
  congr 1
  exact Qbj fun v hv=>by
   rw [bb]
   by_cases e:v=b
   ·subst e; simp
   have:¬ b=v:=fun h=>e h.symm
   simp [e,this]
 have hm1:∀x,(∀v,v < D.n->M.testBit v=true->updF w b x v=u v)↔∀v,v < D.n->M.testBit v=true->w v=u v:=fun x=>by
  have:∀v,M.testBit v=true->updF w b x v=w v:=fun v hv=>Yw fun h=>by rw [h,hbM] at hv; cases hv
  exact ⟨fun h v hv hb=>by rw [<-this v hb]; exact h v hv hb,fun h v hv hb=>by rw [this v hb]; exact h v hv hb⟩
 have hm2:∀x,(∀v,v < D.n->(M ||| 2^b).testBit v=true->updF w b x v=u v)↔(∀v,v < D.n->M.testBit v=true->w v=u v)/\x=u b:=fun x=>by
  constructor
  ·intro h
   refine ⟨(hm1 x).1 fun v hv hb=>h v hv (by rw [bb,hb]; rfl),?_⟩
   have:=h b hb (by rw [bb]; simp)
   rwa [Z6] at this
  rintro ⟨h,rfl⟩ v hv hbv
  by_cases e:v=b
  ·subst e; rw [Z6]
  rw [bb] at hbv
  have:¬ b=v:=fun h=>e h.symm
  simp [this] at hbv
  rw [Yw e]; exact h v hv hbv
 unfold hT
 by_cases c:∀v,v < D.n->M.testBit v=true->w v=u v
 ·have l1:(Qj (D.card b) fun x=>if ∀v,v < D.n->M.testBit v=true->updF w b x v=u v then fS D m (updF w b x) else 0)=fS D (m ||| 2^b) w*D.g:=by
   rw [Q2 (g:=fun x=>(D.W b (D.idx b w) x:Int)*fS D (m ||| 2^b) w) fun x _=>by rw [aH ((hm1 x).2 c),hF,Int.mul_comm],Qhp,X.sum b _ hb (V.idx_lt hw hb),Int.mul_comm]
  have l2:(Qj (D.card b) fun x=>if ∀v,v < D.n->(M ||| 2^b).testBit v=true->updF w b x v=u v then fS D (m ||| 2^b) (updF w b x) else 0)=fS D (m ||| 2^b) w:=by
   rw [Q2 (g:=fun x=>if x=u b then fS D (m ||| 2^b) w else 0) fun x _=>by
    rw [hR]
    by_cases e:x=u b
    ·rw [aH ((hm2 x).2 ⟨c,e⟩),aH e]
    ·rw [aI (fun h=>e ((hm2 x).1 h).2),aI e],Qzz hu]
  rw [l1,l2,Int.mul_comm]
 ·have l1:(Qj (D.card b) fun x=>if ∀v,v < D.n->M.testBit v=true->updF w b x v=u v then fS D m (updF w b x) else 0)=0:=by
   rw [Q2 (g:=fun _=>0) fun x _=>aI fun h=>c ((hm1 x).1 h),K6]
  have l2:(Qj (D.card b) fun x=>if ∀v,v < D.n->(M ||| 2^b).testBit v=true->updF w b x v=u v then fS D (m ||| 2^b) (updF w b x) else 0)=0:=by
   rw [Q2 (g:=fun _=>0) fun x _=>aI fun h=>c ((hm2 x).1 h).1,K6]
  rw [l1,l2,Int.mul_zero]
theorem Q8s (rk:Nat -> Nat) {n:Nat} {P:Nat -> Prop}:(∃v,v < n/\P v)->∃b,b < n/\P b/\∀v,v < n->P v->rk v<=rk b:=by
 induction n with
 | zero=>rintro ⟨v,hv,_⟩; omega
 | succ n ih =>
  rintro ⟨v,hv,hP⟩
  by_cases h:∃v,v < n/\P v
  ·obtain ⟨b,hb,hPb,hm⟩:=ih h
   by_cases c:P n/\rk b < rk n
   ·refine ⟨n,by omega,c.1,fun v hv hPv=>?_⟩
    by_cases e:v=n
    ·subst e; exact bA _
    have:=hm v (by omega) hPv; omega
   refine ⟨b,by omega,hPb,fun v hv hPv=>?_⟩
   by_cases e:v=n
   ·subst e; exact Nat.le_of_not_lt fun h=>c ⟨hPv,h⟩
   exact hm v (by omega) hPv
  have:v=n:=by
   by_cases e:v=n
   ·exact e
   exact absurd ⟨v,by omega,hP⟩ h
  subst this
  refine ⟨v,by omega,hP,fun w hw hPw=>?_⟩
  by_cases e:w=v
  ·subst e; exact bA _
  exact absurd ⟨w,by omega,hPw⟩ h
theorem Qep (X:VX D) {A N:Nat} (hN:∀v,v < D.n->N.testBit v=!A.testBit v) (hu:∀v,v < D.n->u v < D.card v):∀(k:Nat) (m M:Nat),cnt D.n (fun v=>!A.testBit v && !m.testBit v)=k ->
  (∀v,m.testBit v=true->M.testBit v=true)->(∀v,v < D.n->A.testBit v=true->m.testBit v=false->∀p∈D.par v,A.testBit p=true\/m.testBit p=true)->(∀v,v < D.n->M.testBit v=true->A.testBit v=true\/m.testBit v=true) ->
  TT D u m M=(D.g:Int)^k*TT D u (m ||| N) (M ||| N)
 | 0,m,M,hk,hmM,hA,hM=>by
  rw [Int.pow_zero,Int.one_mul]
  have h0:∀v,v < D.n->A.testBit v=false->m.testBit v=true:=fun v hv ha=>by
   cases hm:m.testBit v with
   | true=>rfl
   | false=>have:=Qxs (p:=fun v=>!A.testBit v && !m.testBit v) hv (by simp [ha,hm]); omega
  refine Qok X.vn (fun v hv=>?_) fun v hv=>?_
  ·rw [bH,hN v hv]
   cases ha:A.testBit v with
   | true=>simp
   | false=>simp [h0 v hv ha]
  rw [bH,hN v hv]
  cases ha:A.testBit v with
  | true=>simp
  | false=>simp [hmM v (h0 v hv ha)]
 | k+1,m,M,hk,hmM,hA,hM=>by
  obtain ⟨rk,hrk⟩:=X.rank
  have hex:∃v,v < D.n/\(A.testBit v=false/\m.testBit v=false):=by
   refine Classical.byContradiction fun h=>?_
   have:cnt D.n (fun v=>!A.testBit v && !m.testBit v)=0:=Qv4 fun v hv=>by
    rw [bK]
    intro hc
    simp only [aE,bI] at hc
    exact h ⟨v,hv,hc⟩
   omega
  obtain ⟨b,hb,⟨hbA,hbm⟩,hmax⟩:=Q8s rk hex
  have hbM:M.testBit b=false:=by
   rw [bK]; intro h
   rcases hM b hb h with e | e
   ·rw [hbA] at e; cases e
   rw [hbm] at e; cases e
  have bb:∀(s v:Nat),(s ||| 2^b).testBit v=(s.testBit v || decide (b=v)):=fun s v=>by rw [bH,V5]
  rw [Q1l X hb hbM hbm (fun v hv hmv hne hp=>by
   cases ha:A.testBit v with
   | true =>
    rcases hA v hv ha hmv b hp with e | e
    ·rw [hbA] at e; cases e
    rw [hbm] at e; cases e
   | false =>
    have h1:=hmax v hv ⟨ha,hmv⟩
    have h2:=hrk v hv b hp
    omega) (hu b hb)]
  have hcnt:cnt D.n (fun v=>!A.testBit v && !(m ||| 2^b).testBit v)=k:=by
   have:=Qi3 (n:=D.n) (v:=b) (p:=fun v=>!A.testBit v && !m.testBit v) hb (by simp [hbA,hbm])
   rw [Qdk (q:=fun i=>(!A.testBit i && !m.testBit i) && !decide (b=i)) fun i hi=>by rw [bb]; cases A.testBit i <;> cases m.testBit i <;> simp]
   omega
  rw [Qep X hN hu k (m ||| 2^b) (M ||| 2^b) hcnt (fun v hv=>by
    rw [bb,aM] at hv ⊢
    exact hv.imp (hmM v) id) (fun v hv ha hmv p hp=>by
    rw [bb,cQ] at hmv
    refine (hA v hv ha hmv.1 p hp).imp id fun h=>by rw [bb,h]; rfl) (fun v hv hMv=>by
    rw [bb,aM] at hMv
    rcases hMv with h | h
    ·exact (hM v hv h).imp id fun h=>by rw [bb,h]; rfl
    right; rw [bb,h]; simp)]
  rw [Int.pow_succ,<-Int.mul_assoc,Int.mul_comm (D.g:Int)]
  congr 1
  refine Qok X.vn (fun v hv=>?_) fun v hv=>?_
  ·rw [bH,bb,bH,hN v hv]
   by_cases e:b=v
   ·subst e; simp [hbA]
   simp [e]
  rw [bH,bb,bH,hN v hv]
  by_cases e:b=v
  ·subst e; simp [hbA]
  simp [e]
end
end Go.Ab
namespace Go.Ab
open Go
open Classical
section
variable {D:NF} (X:VX D) {u:Nat -> Nat} (hu:∀v,v < D.n->u v < D.card v)
theorem Qje {v p:Nat}:(setF D.node v).testBit p=true↔p∈D.par v:=by
 unfold setF
 rw [X8]
 have:Yk D.node v=D.par v:=by
  show List.map Int.toNat ((D.par v).map fun (p:Nat)=>(p:Int))=D.par v
  rw [List.map_map]
  conv=>rhs; rw [<-List.map_id (D.par v)]
  exact List.map_congr_left fun p _=>rfl
 rw [this]; simp
include X in
theorem Qnp:Gd D.n (setF D.node):=Qxv (Qq0 X)
section
variable {n:Nat} {S:Nat -> Nat} (hS:Gd n S) {z x y:Nat} (hz:∀j,z.testBit j=true->j < n) (hx:∀j,x.testBit j=true->j < n) (hy:∀j,y.testBit j=true->j < n) (hxz:∀j,x.testBit j=true->z.testBit j=false) (hyz:∀j,y.testBit j=true->z.testBit j=false)
def dS (n:Nat) (S:Nat -> Nat) (x y z v:Nat):Bool:=(V7 n S x y z).testBit v && !z.testBit v
include hS hz hx hy hxz hyz
theorem Qo6 {v d p:Nat} (hv:(anS n S x y z).testBit v=true) (hd:dS n S x y z d=true) (hd1:(S v).testBit d=true\/v=d) (hp1:(S v).testBit p=true\/v=p):dS n S x y z p=true\/z.testBit p=true:=by
 unfold dS at hd ⊢
 simp only [aE,bI] at hd ⊢
 have hvn:=Qgc hS hz hx hy hxz hyz hv
 have hpa:(anS n S x y z).testBit p=true:=by
  rcases hp1 with h | rfl
  ·exact Qcf hS hz hx hy hxz hyz v hvn hv p h
  exact hv
 have hs:=Qg1 hS hz hx hy hxz hyz hd.1 hd.2 (Qgc hS hz hx hy hxz hyz hpa) hpa hv hd1 hp1
 cases hz':z.testBit p with
 | true=>exact .inr rfl
 | false=>exact .inl ⟨hs,rfl⟩
theorem d_x {v:Nat} (h:x.testBit v=true):dS n S x y z v=true:=by
 unfold dS V7
 rw [hxz v h,Xq n v h]; rfl
end
theorem tor {a b v:Nat}:(a ||| b).testBit v=(a.testBit v || b.testBit v):=bH ..
def coS (n A:Nat):Nat := msk n fun v=>!A.testBit v
theorem Qbi {n A v:Nat} (h:v < n):(coS n A).testBit v=!A.testBit v:=by unfold coS; rw [Q3]; simp [h]
variable {y z x w:Nat} (hd:DjB D.n y z x w=true)
include X hu hd
theorem Q87 (hsep:¬ ∃v,z.testBit v=true/\(V7 D.n (cutG D.n x 0 (setF D.node)) y z (x ||| w)).testBit v=true) :
  TT D u x (x ||| (y ||| (z ||| w)))*TT D u x (x ||| w)=TT D u x (x ||| (y ||| w))*TT D u x (x ||| (z ||| w)):=by
 have V:=X.vn
 have hS:=Qnp X
 have hG:Gd D.n (cutG D.n x 0 (setF D.node)):=Qdu hS
 obtain ⟨hy,hz,hx,hw,d1,d2,d3⟩:=Qb6 hd
 have hxw:∀j,(x ||| w).testBit j=true->j < D.n:=fun j hj=>by
  rw [bH,aM] at hj
  exact hj.elim (hx j) (hw j)
 obtain ⟨A,hA⟩:∃A,A=anS D.n (cutG D.n x 0 (setF D.node)) y z (x ||| w):=⟨_,rfl⟩
 obtain ⟨q,hq⟩:∃q,q=dS D.n (cutG D.n x 0 (setF D.node)) y z (x ||| w):=⟨_,rfl⟩
 have qz:∀v,z.testBit v=true->q v=false:=fun v h=>by
  rw [hq]; unfold dS
  rw [bK]; intro h2
  simp only [aE] at h2
  exact hsep ⟨v,h,h2.1⟩
 have qy:∀v,y.testBit v=true->q v=true:=fun v h=>by rw [hq]; exact d_x hG hxw hy hz d2 d3 h
 have inA:∀v,y.testBit v=true\/z.testBit v=true\/x.testBit v=true\/w.testBit v=true->A.testBit v=true:=fun v h=>by
  rw [hA]
  refine Xq D.n v ?_
  rw [tor,tor,tor]
  rcases h with h | h | h | h <;> simp [h]
 have cl:∀v,v < D.n->A.testBit v=true->x.testBit v=false->∀p∈D.par v,A.testBit p=true:=fun v hv ha hxv p hp=>by
  rw [hA] at ha ⊢
  exact Qcf hG hxw hy hz d2 d3 v hv ha p ((Jp (V.par v hv p hp)).2 ⟨hxv,Qje.2 hp,by simp⟩)
 have pr:∀M,(∀v,x.testBit v=true->M.testBit v=true)->(∀v,M.testBit v=true->A.testBit v=true)->TT D u x M=(D.g:Int)^cnt D.n (fun v=>!A.testBit v && !x.testBit v)*TT D u (x ||| coS D.n A) (M ||| coS D.n A):=fun M h1 h2 =>
  Qep X (A:=A) (N:=coS D.n A) (fun v hv=>Qbi hv) hu _ x M rfl h1 (fun v hv ha hxv p hp=>.inl (cl v hv ha hxv p hp)) (fun v _ h=>.inl (h2 v h))
 rw [pr (x ||| (y ||| (z ||| w))) (fun v h=>by simp [tor,h]) (fun v h=>inA v (by simp only [tor,aM] at h; grind)),
  pr (x ||| w) (fun v h=>by simp [tor,h]) (fun v h=>inA v (by simp only [tor,aM] at h; grind)),
  pr (x ||| (y ||| w)) (fun v h=>by simp [tor,h]) (fun v h=>inA v (by simp only [tor,aM] at h; grind)),
  pr (x ||| (z ||| w)) (fun v h=>by simp [tor,h]) (fun v h=>inA v (by simp only [tor,aM] at h; grind))]
 have sw:=Qre (D:=D) (u:=u) V (m1:=x ||| coS D.n A) (M1:=x ||| (y ||| (z ||| w)) ||| coS D.n A) (m2:=x ||| coS D.n A) (M2:=x ||| w ||| coS D.n A) (m1':=x ||| coS D.n A) (M1':=x ||| (y ||| w) ||| coS D.n A) (m2':=x ||| coS D.n A) (M2':=x ||| (z ||| w) ||| coS D.n A) (q:=q)
  (fun v hv=>by
   have:=qz v
   have:=qy v
   simp only [tor,Qbi hv]
   cases hqv:q v <;> cases hyv:y.testBit v <;> cases hzv:z.testBit v <;> simp_all)
  (fun v hv=>by
   simp only [tor,Qbi hv]
   cases hav:A.testBit v with
   | false=>right; right; simp
   | true =>
    cases hxv:x.testBit v with
    | true=>right; right; simp
    | false =>
     by_cases ht:∃d,(d=v\/d∈D.par v)/\q d=true
     ·left
      obtain ⟨d,hdv,hqd⟩:=ht
      refine ⟨fun p hp=>?_,by simp,by simp⟩
      have tr:∀p,p=v\/p∈D.par v->((cutG D.n x 0 (setF D.node) v).testBit p=true\/v=p):=fun p hp=>by
       rcases hp with rfl | hp
       ·exact .inr rfl
       exact .inl ((Jp (V.par v hv p hp)).2 ⟨hxv,Qje.2 hp,by simp⟩)
      rw [hA] at hav
      rw [hq] at hqd ⊢
      rcases Qo6 hG hxw hy hz d2 d3 hav hqd (tr d hdv) (tr p hp) with h | h
      ·exact .inl h
      right; rw [tor,aM] at h; rcases h with h | h <;> simp [h]
     right; left
     exact ⟨fun p hp=>by rw [bK]; exact fun h=>ht ⟨p,hp,h⟩,by simp,by simp⟩)
 grind
theorem Q9s (hsep:¬ ∃v,z.testBit v=true/\(V7 D.n (cutG D.n x z (setF D.node)) y z (x ||| w)).testBit v=true) :
  TT D u (x ||| z) (x ||| z ||| (y ||| w))*TT D u x (x ||| (z ||| w))=TT D u x (x ||| (y ||| (z ||| w)))*TT D u (x ||| z) (x ||| z ||| w):=by
 have V:=X.vn
 have hS:=Qnp X
 have hG:Gd D.n (cutG D.n x z (setF D.node)):=Qdu hS
 obtain ⟨hy,hz,hx,hw,d1,d2,d3⟩:=Qb6 hd
 have hxw:∀j,(x ||| w).testBit j=true->j < D.n:=fun j hj=>by
  rw [bH,aM] at hj
  exact hj.elim (hx j) (hw j)
 obtain ⟨A,hA⟩:∃A,A=anS D.n (cutG D.n x z (setF D.node)) y z (x ||| w):=⟨_,rfl⟩
 obtain ⟨q,hq⟩:∃q,q=dS D.n (cutG D.n x z (setF D.node)) y z (x ||| w):=⟨_,rfl⟩
 have qz:∀v,z.testBit v=true->q v=false:=fun v h=>by
  rw [hq]; unfold dS
  rw [bK]; intro h2
  simp only [aE] at h2
  exact hsep ⟨v,h,h2.1⟩
 have qy:∀v,y.testBit v=true->q v=true:=fun v h=>by rw [hq]; exact d_x hG hxw hy hz d2 d3 h
 have inA:∀v,y.testBit v=true\/z.testBit v=true\/x.testBit v=true\/w.testBit v=true->A.testBit v=true:=fun v h=>by
  rw [hA]
  refine Xq D.n v ?_
  rw [tor,tor,tor]
  rcases h with h | h | h | h <;> simp [h]
 have tr:∀v,v < D.n->x.testBit v=false->∀p,p∈D.par v->z.testBit p=false->(cutG D.n x z (setF D.node) v).testBit p=true:=fun v hv hxv p hp hzp=>(Jp (V.par v hv p hp)).2 ⟨hxv,Qje.2 hp,hzp⟩
 have cl:∀v,v < D.n->A.testBit v=true->x.testBit v=false->∀p∈D.par v,A.testBit p=true:=fun v hv ha hxv p hp=>by
  cases hzp:z.testBit p with
  | true=>exact inA p (.inr (.inl hzp))
  | false =>
   rw [hA] at ha ⊢
   exact Qcf hG hxw hy hz d2 d3 v hv ha p (tr v hv hxv p hp hzp)
 have c1:cnt D.n (fun v=>!A.testBit v && !(x ||| z).testBit v)=cnt D.n (fun v=>!A.testBit v && !x.testBit v):=Qdk fun v _=>by
  rw [tor]
  cases hzv:z.testBit v with
  | true=>simp [inA v (.inr (.inl hzv))]
  | false=>simp
 have pr:∀M,(∀v,x.testBit v=true->M.testBit v=true)->(∀v,M.testBit v=true->A.testBit v=true)->TT D u x M=(D.g:Int)^cnt D.n (fun v=>!A.testBit v && !x.testBit v)*TT D u (x ||| coS D.n A) (M ||| coS D.n A):=fun M h1 h2 =>
  Qep X (A:=A) (N:=coS D.n A) (fun v hv=>Qbi hv) hu _ x M rfl h1 (fun v hv ha hxv p hp=>.inl (cl v hv ha hxv p hp)) (fun v _ h=>.inl (h2 v h))
 have pr2:∀M,(∀v,(x ||| z).testBit v=true->M.testBit v=true)->(∀v,M.testBit v=true->A.testBit v=true)->TT D u (x ||| z) M=(D.g:Int)^cnt D.n (fun v=>!A.testBit v && !x.testBit v)*TT D u (x ||| z ||| coS D.n A) (M ||| coS D.n A):=fun M h1 h2 =>
  Qep X (A:=A) (N:=coS D.n A) (fun v hv=>Qbi hv) hu _ (x ||| z) M c1 h1 (fun v hv ha hxv p hp=>.inl (cl v hv ha (by rw [tor,cQ] at hxv; exact hxv.1) p hp)) (fun v _ h=>.inl (h2 v h))
 rw [pr2 (x ||| z ||| (y ||| w)) (fun v h=>by rw [tor,h]; rfl) (fun v h=>inA v (by simp only [tor,aM] at h; grind)),
  pr (x ||| (z ||| w)) (fun v h=>by simp [tor,h]) (fun v h=>inA v (by simp only [tor,aM] at h; grind)),
  pr (x ||| (y ||| (z ||| w))) (fun v h=>by simp [tor,h]) (fun v h=>inA v (by simp only [tor,aM] at h; grind)),
  pr2 (x ||| z ||| w) (fun v h=>by rw [tor,h]; rfl) (fun v h=>inA v (by simp only [tor,aM] at h; grind))]
 have sw:=Qre (D:=D) (u:=u) V (m1:=x ||| z ||| coS D.n A) (M1:=x ||| z ||| (y ||| w) ||| coS D.n A) (m2:=x ||| coS D.n A) (M2:=x ||| (z ||| w) ||| coS D.n A) (m1':=x ||| coS D.n A) (M1':=x ||| (y ||| (z ||| w)) ||| coS D.n A) (m2':=x ||| z ||| coS D.n A) (M2':=x ||| z ||| w ||| coS D.n A) (q:=q)
  (fun v hv=>by
   have:=qz v
   have:=qy v
   simp only [tor,Qbi hv]
   cases hqv:q v <;> cases hyv:y.testBit v <;> cases hzv:z.testBit v <;> simp_all)
  (fun v hv=>by
   simp only [tor,Qbi hv]
   cases hav:A.testBit v with
   | false=>right; right; simp
   | true =>
    cases hxv:x.testBit v with
    | true=>right; right; simp
    | false =>
     by_cases ht:∃d,(d=v\/d∈D.par v)/\q d=true
     ·left
      obtain ⟨d,hdv,hqd⟩:=ht
      have trd:∀p,p=v\/p∈D.par v->z.testBit p=false->((cutG D.n x z (setF D.node) v).testBit p=true\/v=p):=fun p hp hzp=>by
       rcases hp with rfl | hp
       ·exact .inr rfl
       exact .inl (tr v hv hxv p hp hzp)
      have hdz:z.testBit d=false:=by
       rw [bK]; intro h; rw [qz d h] at hqd; cases hqd
      rw [hA] at hav
      have fm:∀p,p=v\/p∈D.par v->z.testBit p=false->q p=true\/(x ||| w).testBit p=true:=fun p hp hzp=>by
       rw [hq] at hqd ⊢
       exact Qo6 hG hxw hy hz d2 d3 hav hqd (trd d hdv hdz) (trd p hp hzp)
      have hvz:z.testBit v=false:=by
       rw [bK]; intro h
       have hs:q v=true\/(x ||| w).testBit v=true:=by
        rw [hq] at hqd ⊢
        exact Qo6 hG hxw hy hz d2 d3 hav hqd (trd d hdv hdz) (.inr rfl)
       rcases hs with e | e
       ·rw [qz v h] at e; cases e
       rw [d3 v h] at e; cases e
      refine ⟨fun p hp=>?_,by simp [hvz],by simp [hvz]⟩
      cases hzp:z.testBit p with
      | true=>right; simp
      | false =>
       rcases fm p hp hzp with h | h
       ·exact .inl h
       right; rw [tor,aM] at h; rcases h with h | h <;> simp [h]
     right; left
     exact ⟨fun p hp=>by rw [bK]; exact fun h=>ht ⟨p,hp,h⟩,by simp,by simp⟩)
 grind
end
end Go.Ab
