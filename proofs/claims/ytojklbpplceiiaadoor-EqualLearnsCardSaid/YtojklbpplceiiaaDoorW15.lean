/- Functions. No conditions. -/
import Derived.Test.YtojklbpplceiiaaDoorW14
set_option maxRecDepth 100000
set_option maxHeartbeats 1000000
set_option linter.all false
namespace Go.Ab
open Go
inductive Rch (S:Nat -> Nat) (z anz x:Nat):Nat -> Bool->Prop
 | start:Rch S z anz x x false
 | up {v p:Nat}:Rch S z anz x v false->z.testBit v=false->(S v).testBit p=true->Rch S z anz x p false
 | dn {v c:Nat} {d:Bool}:Rch S z anz x v d->z.testBit v=false->(S c).testBit v=true->Rch S z anz x c true
 | turn {v p:Nat}:Rch S z anz x v true->anz.testBit v=true->(S v).testBit p=true->Rch S z anz x p false
inductive Tow (S:Nat -> Nat) (z anz y:Nat):Nat -> Bool->Prop
 | here (d:Bool):Tow S z anz y y d
 | up {v p:Nat}:Tow S z anz y p false->z.testBit v=false->(S v).testBit p=true->Tow S z anz y v false
 | dn {v c:Nat} {d:Bool}:Tow S z anz y c true->z.testBit v=false->(S c).testBit v=true->Tow S z anz y v d
 | turn {v p:Nat}:Tow S z anz y p false->anz.testBit v=true->(S v).testBit p=true->Tow S z anz y v true
theorem Qqe (n:Nat) (P:Nat -> Prop):∃T:Nat,(∀v,T.testBit v=true↔v < n/\P v):=by
 classical
 refine ⟨msk n fun v=>decide (P v),fun v=>?_⟩
 rw [Qv]
 simp
theorem Qhg {n:Nat} {S:Nat -> Nat} (hS:∀v,v < n->∀j,(S v).testBit j=true->j < n) {s:Nat} (hs:∀j,s.testBit j=true->j < n) {j:Nat} (hj:(ups n S n s).testBit j=true):j < n:=by
 have:=Vp (Qb3 n hS) (s:=s) (fun i hi=>by rw [bF]; simpa using hs i hi) n j hj
 rw [bF] at this; simpa using this
theorem Qb2 {n:Nat} {S:Nat -> Nat} (hS:Gd n S) {s:Nat} (hs:∀j,s.testBit j=true->j < n) (P:Nat -> Prop) (h0:∀j,s.testBit j=true->P j) (h1:∀v p,v < n->P v->(S v).testBit p=true->P p) {v:Nat} (hv:(ups n S n s).testBit v=true):P v:=by
 obtain ⟨T,hT⟩:=Qqe n P
 have hc:Clo n S T:=fun u hu hb j hj=>(hT j).2 ⟨hS.inn u hu j hj,h1 u j hu ((hT u).1 hb).2 hj⟩
 exact ((hT v).1 (Vp hc (fun j hj=>(hT j).2 ⟨hs j hj,h0 j hj⟩) n v hv)).2
def jo (n:Nat) (S:Nat -> Nat) (an z a:Nat):Nat := msk n fun b=>an.testBit b && !z.testBit b && (List.range n).any fun k=>an.testBit k && ((S k).testBit a || decide (k=a)) && ((S k).testBit b || decide (k=b))
theorem Qtp {n:Nat} {S:Nat -> Nat} {an z a b:Nat} (hb:b < n):(jo n S an z a).testBit b=true↔an.testBit b=true/\z.testBit b=false/\∃k,k < n/\an.testBit k=true/\((S k).testBit a=true\/k=a)/\((S k).testBit b=true\/k=b):=by
 unfold jo
 rw [Qv]
 simp only [hb,decide_true,eK,aE,bK,bV,aN,aO,cX]
 constructor
 ·rintro ⟨⟨h1,h2⟩,k,h3,⟨h4,h5⟩,h6⟩; exact ⟨h1,h2,k,h3,h4,h5,h6⟩
 rintro ⟨h1,h2,k,h3,h4,h5,h6⟩; exact ⟨⟨h1,h2⟩,k,h3,⟨h4,h5⟩,h6⟩
section
variable {n:Nat} {S:Nat -> Nat} (hS:Gd n S) {z x y:Nat} (hz:∀j,z.testBit j=true->j < n) (hx:x < n) (hy:y < n) (hxz:z.testBit x=false) (hyz:z.testBit y=false)
def anS (n:Nat) (S:Nat -> Nat) (x y z:Nat):Nat := ups n S n (2^x ||| 2^y ||| z)
def anZ (n:Nat) (S:Nat -> Nat) (z:Nat):Nat := ups n S n z
def seenS (n:Nat) (S:Nat -> Nat) (x y z:Nat):Nat := ups n (jo n S (anS n S x y z) z) n (2^x)
include hS hz hx hy hxz hyz
theorem Qs0 {j:Nat} (h:(2^x ||| 2^y ||| z).testBit j=true):j < n:=by
 rw [bJ,bJ,Qo,Qo,aN,aN] at h
 rcases h with (h | h) | h
 ·have:=aR h; omega
 ·have:=aR h; omega
 exact hz j h
theorem Qjj:Clo n S (anS n S x y z):=Qds hS.inn (fun j hj=>Qs0 hS hz hx hy hxz hyz hj)
theorem Qjv:Clo n S (anZ n S z):=Qds hS.inn hz
theorem Qox {j:Nat} (h:(anS n S x y z).testBit j=true):j < n:=Qhg hS.inn (fun j hj=>Qs0 hS hz hx hy hxz hyz hj) h
theorem Q62 {j:Nat} (h:(anZ n S z).testBit j=true):j < n:=Qhg hS.inn hz h
theorem Qtb {j:Nat} (h:(anZ n S z).testBit j=true):(anS n S x y z).testBit j=true :=
 Vp (Qjj hS hz hx hy hxz hyz) (fun i hi=>Jf n i (by rw [bJ,hi]; simp)) n j h
theorem Q9a:(anS n S x y z).testBit x=true:=Jf n x (by rw [bJ,bJ,Qo]; simp)
theorem Q8u:(anS n S x y z).testBit y=true:=Jf n y (by rw [bJ,bJ,Qo,Qo]; simp)
theorem Q24 {v:Nat} (h:(anS n S x y z).testBit v=true):(anZ n S z).testBit v=true\/(ups n S n (2^y)).testBit v=true\/(ups n S n (2^x)).testBit v=true:=by
 have px:∀j,(2^x).testBit j=true->j < n:=fun j hj=>by rw [Qo] at hj; have:=aR hj; omega
 have py:∀j,(2^y).testBit j=true->j < n:=fun j hj=>by rw [Qo] at hj; have:=aR hj; omega
 refine Qb2 hS (fun j hj=>Qs0 hS hz hx hy hxz hyz hj) (fun v=>(anZ n S z).testBit v=true\/(ups n S n (2^y)).testBit v=true\/(ups n S n (2^x)).testBit v=true) (fun j hj=>?_) (fun v p hv hP hp=>?_) h
 ·rw [bJ,bJ,aN,aN] at hj
  rcases hj with (hj | hj) | hj
  ·exact .inr (.inr (Jf n j hj))
  ·exact .inr (.inl (Jf n j hj))
  exact .inl (Jf n j hj)
 rcases hP with h | h | h
 ·exact .inl (Qjv hS hz hx hy hxz hyz v hv h p hp)
 ·exact .inr (.inl (Qds hS.inn py v hv h p hp))
 exact .inr (.inr (Qds hS.inn px v hv h p hp))
theorem Qyj {v:Nat} (h:(anZ n S z).testBit v=false):z.testBit v=false:=by
 rw [bN] at h ⊢
 exact fun e=>h (Jf n v e)
theorem Q4j {v:Nat} (h:(ups n S n (2^x)).testBit v=true):(anZ n S z).testBit v=true\/Rch S z (anZ n S z) x v false:=by
 refine Qb2 hS (s:=2^x) (fun j hj=>by rw [Qo] at hj; have:=aR hj; omega) (fun v=>(anZ n S z).testBit v=true\/Rch S z (anZ n S z) x v false) (fun j hj=>?_) (fun v p hv hP hp=>?_) h
 ·rw [Qo] at hj
  have:=aR hj
  subst this
  exact .inr .start
 rcases hP with h | h
 ·exact .inl (Qjv hS hz hx hy hxz hyz v hv h p hp)
 cases hz2:(anZ n S z).testBit v with
 | true=>exact .inl (Qjv hS hz hx hy hxz hyz v hv hz2 p hp)
 | false=>exact .inr (.up h (Qyj hS hz hx hy hxz hyz hz2) hp)
theorem Q5c {v:Nat} (h:(ups n S n (2^y)).testBit v=true):(anZ n S z).testBit v=true\/∀d,Rch S z (anZ n S z) x v d->∃d,Rch S z (anZ n S z) x y d:=by
 refine Qb2 hS (s:=2^y) (fun j hj=>by rw [Qo] at hj; have:=aR hj; omega) (fun v=>(anZ n S z).testBit v=true\/∀d,Rch S z (anZ n S z) x v d->∃d,Rch S z (anZ n S z) x y d) (fun j hj=>?_) (fun v p hv hP hp=>?_) h
 ·rw [Qo] at hj
  have:=aR hj
  subst this
  exact .inr fun d hd=>⟨d,hd⟩
 rcases hP with h | h
 ·exact .inl (Qjv hS hz hx hy hxz hyz v hv h p hp)
 cases hz2:(anZ n S z).testBit p with
 | true=>exact .inl rfl
 | false=>exact .inr fun d hd=>h true (.dn hd (Qyj hS hz hx hy hxz hyz hz2) hp)
theorem Q2e (hno:¬ ∃d,Rch S z (anZ n S z) x y d) {a:Nat} (h:(seenS n S x y z).testBit a=true):z.testBit a=false/\∃d,Rch S z (anZ n S z) x a d:=by
 obtain ⟨T,hT⟩:=Qqe n fun a=>z.testBit a=false/\∃d,Rch S z (anZ n S z) x a d
 have hc:Clo n (jo n S (anS n S x y z) z) T:=fun a ha hb b hbb=>by
  obtain ⟨_,haz,d,hd⟩:=(hT a).1 hb
  have hbn:b < n:=by
   unfold jo at hbb; rw [Qv] at hbb
   simp only [aE,aO] at hbb; exact hbb.1
  obtain ⟨h1,h2,k,hk,h3,h4,h5⟩:=(Qtp hbn).1 hbb
  refine (hT b).2 ⟨hbn,h2,?_⟩
  have on:∀p,(∀d,Rch S z (anZ n S z) x k d->True)->Rch S z (anZ n S z) x k true->(S k).testBit p=true->∃d,Rch S z (anZ n S z) x p d:=fun p _ hkr hp=>by
   cases hkz:(anZ n S z).testBit k with
   | true=>exact ⟨_,.turn hkr hkz hp⟩
   | false =>
    rcases Q24 hS hz hx hy hxz hyz h3 with e | e | e
    ·rw [hkz] at e; cases e
    ·rcases Q5c hS hz hx hy hxz hyz e with e | e
     ·rw [hkz] at e; cases e
     exact absurd (e _ hkr) hno
    rcases Q4j hS hz hx hy hxz hyz e with e | e
    ·rw [hkz] at e; cases e
    exact ⟨_,.up e (Qyj hS hz hx hy hxz hyz hkz) hp⟩
  rcases h4 with h4 | rfl
  ·have hkr:Rch S z (anZ n S z) x k true:=.dn hd haz h4
   rcases h5 with h5 | rfl
   ·exact on b (fun _ _=>trivial) hkr h5
   exact ⟨_,hkr⟩
  rcases h5 with h5 | rfl
  ·cases d with
   | false=>exact ⟨_,.up hd haz h5⟩
   | true=>exact on b (fun _ _=>trivial) hd h5
  exact ⟨_,hd⟩
 have hs:Zm (2^x) T:=fun j hj=>by
  rw [Qo] at hj
  have:=aR hj
  subst this
  exact (hT _).2 ⟨hx,hxz,_,.start⟩
 exact ((hT a).1 (Vp hc hs n a h)).2
theorem Qyz {a j:Nat} (h:(jo n S (anS n S x y z) z a).testBit j=true):j < n:=by
 unfold jo at h; rw [Qv] at h
 simp only [aE,aO] at h; exact h.1
theorem Q2f:Clo n (jo n S (anS n S x y z) z) (seenS n S x y z):=Qds (fun v _ j hj=>Qyz hS hz hx hy hxz hyz hj) fun j hj=>by
 rw [Qo] at hj; have:=aR hj; omega
theorem Qw3 {j:Nat} (h:(seenS n S x y z).testBit j=true):j < n:=Qhg (fun v _ j hj=>Qyz hS hz hx hy hxz hyz hj) (fun j hj=>by
 rw [Qo] at hj; have:=aR hj; omega) h
theorem Qhq {a b k:Nat} (ha:(seenS n S x y z).testBit a=true) (hb:b < n) (hban:(anS n S x y z).testBit b=true) (hbz:z.testBit b=false) (hk:(anS n S x y z).testBit k=true) (h1:(S k).testBit a=true\/k=a) (h2:(S k).testBit b=true\/k=b):(seenS n S x y z).testBit b=true :=
 Q2f hS hz hx hy hxz hyz a (Qw3 hS hz hx hy hxz hyz ha) ha b ((Qtp hb).2 ⟨hban,hbz,k,Qox hS hz hx hy hxz hyz hk,hk,h1,h2⟩)
theorem Q8a {v:Nat} {d:Bool} (h:Rch S z (anZ n S z) x v d) (hd:d=false):(anS n S x y z).testBit v=true:=by
 induction h with
 | start=>exact Q9a hS hz hx hy hxz hyz
 | up _ _ hp ih=>exact Qjj hS hz hx hy hxz hyz _ (Qox hS hz hx hy hxz hyz (ih rfl)) (ih rfl) _ hp
 | dn=>cases hd
 | @turn v p _ hv hp ih=>exact Qtb hS hz hx hy hxz hyz (Qjv hS hz hx hy hxz hyz v (Q62 hS hz hx hy hxz hyz hv) hv p hp)
theorem Q8l {v:Nat} {d:Bool} (h:Tow S z (anZ n S z) y v d) (hd:d=true):(anS n S x y z).testBit v=true:=by
 induction h with
 | here=>exact Q8u hS hz hx hy hxz hyz
 | up=>cases hd
 | @dn v c d _ hv hc ih=>exact Qjj hS hz hx hy hxz hyz c (Qox hS hz hx hy hxz hyz (ih rfl)) (ih rfl) v hc
 | turn _ hv _ _=>exact Qtb hS hz hx hy hxz hyz hv
theorem Q1q {v:Nat} {d:Bool} (h:Rch S z (anZ n S z) x v d):Tow S z (anZ n S z) y v d->(z.testBit v=false->(seenS n S x y z).testBit v=true)/\(z.testBit v=true->d=true->∃p,(S v).testBit p=true/\(seenS n S x y z).testBit p=true):=by
 have lt:=fun {j:Nat} h=>Qox hS hz hx hy hxz hyz (j:=j) h
 induction h with
 | start=>exact fun _=>⟨fun _=>Jf n x (by rw [Qo]; simp),fun e=>by rw [hxz] at e; cases e⟩
 | @up v p hr hv hp ih =>
  intro k
  have i1:=(ih (.up k hv hp)).1 hv
  have va:=Q8a hS hz hx hy hxz hyz hr rfl
  have pa:=Qjj hS hz hx hy hxz hyz v (lt va) va p hp
  exact ⟨fun hpz=>Qhq hS hz hx hy hxz hyz i1 (lt pa) pa hpz va (.inr rfl) (.inl hp),fun _ e=>by cases e⟩
 | @dn v c d hr hv hc ih =>
  intro k
  have i1:=(ih (.dn k hv hc)).1 hv
  have ca:=Q8l hS hz hx hy hxz hyz k rfl
  exact ⟨fun hcz=>Qhq hS hz hx hy hxz hyz i1 (lt ca) ca hcz ca (.inl hc) (.inr rfl),fun _ _=>⟨v,hc,i1⟩⟩
 | @turn v p hr hv hp ih =>
  intro k
  have i:=ih (.turn k hv hp)
  have va:=Qtb hS hz hx hy hxz hyz hv
  have pa:=Qjj hS hz hx hy hxz hyz v (lt va) va p hp
  refine ⟨fun hpz=>?_,fun _ e=>by cases e⟩
  cases hvz:z.testBit v with
  | false=>exact Qhq hS hz hx hy hxz hyz (i.1 hvz) (lt pa) pa hpz va (.inr rfl) (.inl hp)
  | true =>
   obtain ⟨q,hq1,hq2⟩:=i.2 hvz rfl
   exact Qhq hS hz hx hy hxz hyz hq2 (lt pa) pa hpz va (.inl hq1) (.inl hp)
theorem Qqp:(seenS n S x y z).testBit y=true↔∃d,Rch S z (anZ n S z) x y d:=by
 constructor
 ·intro h
  apply Classical.byContradiction
  intro hno
  exact hno (Q2e hS hz hx hy hxz hyz hno h).2
 rintro ⟨d,h⟩
 exact (Q1q hS hz hx hy hxz hyz h (.here d)).1 hyz
end
end Go.Ab
namespace Go.Ab
open Go
theorem Q21 {τ ρ σ:Type} {n:Nat} (hn:n<=10) (mkS:Int->τ->σ) {body:σ->Option (Qd σ ρ)} (I:Nat -> τ->Prop) (Q:ρ->Prop) (p:Nat -> Bool)
  (step:∀(x:Nat) (t:τ) (R R':Int),x < n->p x=true->I x t->(R != 0)=true->Qu R=some (x:Int) ->
   zv (zb R &&& zb (zv (R - 1))).toNat = R' ->
   (∃t',body (mkS R t)=some (.next (mkS R' t'))/\I (x+1) t')\/(∃r,body (mkS R t)=some (.done r)/\Q r))
  (skip:∀(x:Nat) (t:τ),x < n->p x=false->I x t->I (x+1) t)
  (done:∀t,I n t->∃r,body (mkS 0 t)=some (.done r)/\Q r) (t0:τ) (h0:I 0 t0) :
  ∃r,Qa fuel body (mkS ((msk n p:Nat):Int) t0)=some r/\Q r:=by
 have key:∀(j N k:Nat) (t:τ),k+j=n->j < N->I k t->∃r,Qa N body (mkS ((msk n fun i=>p i && decide (k<=i):Nat):Int) t)=some r/\Q r:=by
  intro j
  induction j using Nat.strongRecOn with
  | _ j ih =>
   intro N k t hk hN hI
   by_cases hx:∃i,k<=i/\i < n/\p i=true
   ·obtain ⟨x,x1,x2,x3,x4⟩:∃x,k<=x/\x < n/\p x=true/\∀i,k<=i->i < x->p i=false:=by
     have hs:=Qos n (fun i=>p i && decide (k<=i)) (by obtain ⟨i,a,b,c⟩:=hx; exact ⟨i,b,by simp [a,c]⟩)
     refine ⟨_,?_,hs.1,?_,fun i a b=>?_⟩
     ·have:=hs.2.1; simp at this; exact this.2
     ·have:=hs.2.1; simp at this; exact this.1
     have:=hs.2.2 i b; simpa [a] using this
    have hIx:I x t:=by
     have:∀d,k+d<=x->I (k+d) t:=by
      intro d
      induction d with
      | zero=>intro _; exact hI
      | succ d ihd=>intro h; exact skip (k+d) t (by omega) (x4 _ (by omega) (by omega)) (ihd (by omega))
     have h:=this (x - k) (by omega)
     rwa [show k+(x - k)=x by omega] at h
    obtain ⟨N,rfl⟩:∃M,N=M+1:=⟨N - 1,by omega⟩
    obtain ⟨a1,a2,a3⟩:=Q16 (n:=n) (v:=x) (p:=fun i=>p i && decide (k<=i)) hn x2 (by simp [x1,x3]) (fun i hi=>by
     by_cases h:k<=i
     ·rw [x4 i h hi]; rfl
     simp [h])
    have e:msk n (fun i=>(p i && decide (k<=i)) && !decide (x=i))=msk n fun i=>p i && decide (x+1<=i):=Zs fun i hi=>by
     by_cases h:x+1<=i
     ·have h2:¬ x=i:=by omega
      have h3:k<=i:=by omega
      simp [h,h2,h3]
     by_cases h2:x=i
     ·subst h2; simp
     by_cases h3:k<=i
     ·rw [x4 i h3 (by omega)]; simp
     simp [h,h3]
    rw [e] at a3
    rcases step x t _ _ x2 x3 hIx a1 a2 a3 with ⟨t',b1,b2⟩ | ⟨r,b1,b2⟩
    ·simp only [Qa,b1]
     exact ih (n - (x+1)) (by omega) N (x+1) t' (by omega) (by omega) b2
    simp only [Qa,b1]
    exact ⟨r,rfl,b2⟩
   have hno:∀i,k<=i->i < n->p i=false:=fun i a b=>by
    rw [bN]; exact fun h=>hx ⟨i,a,b,h⟩
   have e:msk n (fun i=>p i && decide (k<=i))=0:=by
    have:msk n (fun _=>false)=0:=(Qdw (by have:=Nat.two_pow_pos n; omega) fun i _=>by simp).symm
    rw [<-this]
    exact Zs fun i hi=>by
     by_cases h:k<=i
     ·rw [hno i h hi]; rfl
     simp [h]
   have hIn:I n t:=by
    have:∀d,k+d<=n->I (k+d) t:=by
     intro d
     induction d with
     | zero=>intro _; exact hI
     | succ d ihd=>intro h; exact skip (k+d) t (by omega) (hno _ (by omega) (by omega)) (ihd (by omega))
    have h:=this (n - k) (by omega)
    rwa [show k+(n - k)=n by omega] at h
   obtain ⟨N,rfl⟩:∃M,N=M+1:=⟨N - 1,by omega⟩
   rw [e]
   obtain ⟨r,b1,b2⟩:=done t hIn
   refine ⟨r,?_,b2⟩
   show Qa (N+1) body (mkS 0 t)=_
   simp only [Qa,b1]
 have h:=key n fuel 0 t0 (by omega) (by show n < 1152921504606846976; omega) h0
 have e:msk n (fun i=>p i && decide (0<=i))=msk n p:=Zs fun i _=>by simp
 rwa [e] at h
abbrev Stp:=List (Af × Bool)
def vis (m:Stp) (v:Nat) (d:Bool):Bool:=(Q6 Ai m ⟨(v:Int),d⟩).getD false
theorem Qte (a b:Af):Ai a b=decide (a=b):=by
 obtain ⟨a1,a2⟩:=a; obtain ⟨b1,b2⟩:=b
 rw [aQ]
 simp [Ai]
theorem Q3d {m:Stp} {k k':Af} {v:Bool}:Q6 Ai (kput Ai m k v) k'=if k'=k then some v else Q6 Ai m k':=by
 induction m with
 | nil=>simp only [kput,Q6,Qte,aO]
 | cons p r ih =>
  simp only [kput]
  by_cases h:k=p.1
  ·rw [aH (by rw [Qte]; exact dB h)]
   simp only [Q6,Qte,aO]
   by_cases h2:k'=k
   ·rw [aH h2,aH h2]
   rw [aJ h2,aJ h2,aJ (by rw [<-h]; exact h2)]
  rw [aJ (by rw [Qte]; simpa using h)]
  simp only [Q6,Qte,aO]
  by_cases h2:k'=p.1
  ·rw [aH h2,aJ (by rw [h2]; exact fun e=>h e.symm),aH h2]
  rw [aJ h2,ih,aJ h2]
theorem Q49 {m:Stp} {v u:Nat} {d e:Bool}:vis (kput Ai m ⟨(v:Int),d⟩ true) u e=(vis m u e || (decide (u=v) && decide (e=d))):=by
 unfold vis
 rw [Q3d]
 by_cases h:(⟨(u:Int),e⟩:Af)=⟨(v:Int),d⟩
 ·rw [aH h]
  simp only [Af.mk.injEq,dE] at h
  simp [h.1,h.2]
 rw [aJ h]
 simp only [Af.mk.injEq,dE,not_and] at h
 by_cases h1:u=v
 ·simp [h1,h h1]
 simp [h1]
section
variable (n:Nat) (S:Nat -> Nat) (z az x:Nat)
def Suc (m:Stp) (u:Nat) (e:Bool):Prop :=
 (z.testBit u=false->∀c,c < n->(S c).testBit u=true->vis m c true=true)/\(e=false->z.testBit u=false->∀p,p < n->(S u).testBit p=true->vis m p false=true)/\(e=true->az.testBit u=true->∀p,p < n->(S u).testBit p=true->vis m p false=true)
structure DI (m:Stp) (r:Nat):Prop where
 rr:∀u,r.testBit u=true↔(u < n/\z.testBit u=false/\(vis m u true=true\/vis m u false=true))
 sd:∀u e,vis m u e=true->Rch S z az x u e
structure DE (m m':Stp):Prop where
 le:∀u e,vis m u e=true->vis m' u e=true
 new:∀u e,vis m' u e=true->vis m u e=false->Suc n S z az m' u e
def unv (m:Stp):Nat := cnt (2*n) fun k=>!vis m (k / 2) (k % 2==1)
variable {n S z az x}
theorem Suc.mono {m m':Stp} (h:∀u e,vis m u e=true->vis m' u e=true) {u:Nat} {e:Bool} (k:Suc n S z az m u e):Suc n S z az m' u e :=
 ⟨fun a c b d=>h _ _ (k.1 a c b d),fun a b p c d=>h _ _ (k.2.1 a b p c d),fun a b p c d=>h _ _ (k.2.2 a b p c d)⟩
theorem DE.refl {m:Stp}:DE n S z az m m:=⟨fun _ _ h=>h,fun u e h k=>by rw [h] at k; cases k⟩
theorem DE.trans {m m1 m2:Stp} (h:DE n S z az m m1) (k:DE n S z az m1 m2):DE n S z az m m2:=⟨fun u e a=>k.le u e (h.le u e a),fun u e a b=>by
 cases hv:vis m1 u e with
 | true=>exact (h.new u e hv b).mono k.le
 | false=>exact k.new u e a hv⟩
theorem Que {m m':Stp} (h:∀u e,vis m u e=true->vis m' u e=true):unv n m'<=unv n m:=Qeu fun k _ hk=>by
 cases hv:vis m (k / 2) (k % 2==1) with
 | true=>rw [h _ _ hv] at hk; cases hk
 | false=>rfl
theorem Q7u {m m':Stp} (h:∀u e,vis m u e=true->vis m' u e=true) {v:Nat} {d:Bool} (hv:v < n) (h0:vis m v d=false) (h1:vis m' v d=true):unv n m' < unv n m:=by
 have hk:2*v+d.toNat < 2*n:=by cases d <;> simp <;> omega
 have e1:(2*v+d.toNat) / 2=v:=by cases d <;> simp <;> omega
 have e2:((2*v+d.toNat) % 2==1)=d:=by cases d <;> simp <;> omega
 have e:=Qgq (n:=2*n) (v:=2*v+d.toNat) (p:=fun k=>!vis m (k / 2) (k % 2==1)) hk (by rw [e1,e2,h0]; rfl)
 have:unv n m'<=cnt (2*n) (fun i=>!vis m (i / 2) (i % 2==1) && !decide (2*v+d.toNat = i)):=Qeu fun k _ hk=>by
  have hne:¬ 2*v+d.toNat = k:=fun e3=>by subst e3; rw [e1,e2,h1] at hk; cases hk
  cases hv2:vis m (k / 2) (k % 2==1) with
  | true=>rw [h _ _ hv2] at hk; cases hk
  | false=>simp [hne]
 unfold unv at *
 omega
def Qqv (s:Int × Bool × Int × Stp) (y:Int × Stp):Prop:=∃v r':Nat,s.1=(v:Int)/\y.1=(r':Int)/\DI n S z az x y.2 r'/\DE n S z az s.2.2.2 y.2/\vis y.2 v s.2.1=true
def Qvp (s:Int × Bool × Int × Stp):Prop:=∃v r:Nat,s.1=(v:Int)/\v < n/\s.2.2.1=(r:Int)/\DI n S z az x s.2.2.2 r/\Rch S z az x v s.2.1
theorem Qhc {D:Bool} {p:Nat -> Bool} (hn:n<=8) {M:Nat} {d:Int × Bool × Int × Stp->Option (Int × Stp)} (hd:∀s',Qvp (n:=n) (S:=S) (z:=z) (az:=az) (x:=x) s'->unv n s'.2.2.2 < M->∃y,d s'=some y/\Qqv (n:=n) (S:=S) (z:=z) (az:=az) (x:=x) s' y)
  {body:Int × Int × Stp->Option (Qd (Int × Int × Stp) (Int × Stp))}
  (hb:∀s,body s=if (s.1 != 0)=true then (Qu s.1).bind fun i=>(d (i,D,s.2.1,s.2.2)).bind fun y=>some (.next (zv (zb s.1 &&& zb (zv (s.1 - 1))).toNat,y.1,y.2)) else some (.done (s.2.1,s.2.2)))
  (hr:∀i,i < n->p i=true->Rch S z az x i D) {m0:Stp} {r0:Nat} (h0:DI n S z az x m0 r0) (hM:unv n m0 < M) :
  ∃y,Qa fuel body (((msk n p:Nat):Int),(r0:Int),m0)=some y/\∃r':Nat,y.1=(r':Int)/\DI n S z az x y.2 r'/\DE n S z az m0 y.2/\∀i,i < n->p i=true->vis y.2 i D=true:=by
 have h:=Q21 (n:=n) (by omega) (fun R (t:Int × Stp)=>(R,t.1,t.2)) (body:=body)
  (fun k t=>∃r:Nat,t.1=(r:Int)/\DI n S z az x t.2 r/\DE n S z az m0 t.2/\∀i,i < k->i < n->p i=true->vis t.2 i D=true)
  (fun y=>∃r':Nat,y.1=(r':Int)/\DI n S z az x y.2 r'/\DE n S z az m0 y.2/\∀i,i < n->p i=true->vis y.2 i D=true) p
  (fun i t R R' hi hp hI hR htz hrest=>by
   left
   obtain ⟨r,h1,h2,h3,h4⟩:=hI
   obtain ⟨y,g1,v,r',g2,g3,g4,g5,g6⟩:=hd ((i:Int),D,t.1,t.2) ⟨i,r,rfl,hi,h1,h2,hr i hi hp⟩ (cC (Que h3.le) hM)
   have hv:i=v:=dE.1 g2
   subst hv
   refine ⟨y,?_,r',g3,g4,h3.trans g5,fun j hj hjn hpj=>?_⟩
   ·rw [hb]
    dsimp only
    rw [aH hR,htz,aC,g1,aC,hrest]
   by_cases e:j=i
   ·subst e; exact g6
   exact g5.le _ _ (h4 j (by omega) hjn hpj))
  (fun i t hi hp hI=>by
   obtain ⟨r,h1,h2,h3,h4⟩:=hI
   refine ⟨r,h1,h2,h3,fun j hj hjn hpj=>?_⟩
   by_cases e:j=i
   ·subst e; rw [hp] at hpj; cases hpj
   exact h4 j (by omega) hjn hpj)
  (fun t hI=>by
   obtain ⟨r,h1,h2,h3,h4⟩:=hI
   refine ⟨t,?_,r,h1,h2,h3,fun i hi hp=>h4 i hi hi hp⟩
   rw [hb]
   dsimp only
   rw [aJ (by decide)]) ((r0:Int),m0) ⟨r0,rfl,h0,.refl,fun i hi=>by omega⟩
 exact h
end
end Go.Ab
namespace Go.Ab
open Go
section
variable {n:Nat} {S:Nat -> Nat} {z x:Nat} (hn:n<=8) (hS:Gd n S) (hz:∀j,z.testBit j=true->j < n) (hx:x < n)
def chN (n:Nat) (S:Nat -> Nat) (v:Nat):Nat := msk n fun c=>(S c).testBit v
abbrev grS (n:Nat) (S:Nat -> Nat):Qw:=⟨⟨Qc n S⟩,Qc n (chN n S)⟩
include hn hS hz hx
theorem Qcy {a:Nat} (h:∀j,a.testBit j=true->j < n):a < 18446744073709551616:=by
 have:=Jc h
 have:(2:Nat)^n<=256:=aW (n:=2) (by omega) hn
 omega
theorem Qqh {v:Nat} (hv:v < n):(S v:Int)=((msk n (S v).testBit:Nat):Int):=by
 rw [<-Qdw (Jc (hS.inn v hv)) fun i _=>rfl]
theorem Q3p {j:Nat} (h:(anZ n S z).testBit j=true):j < n:=Qhg hS.inn hz h
theorem Q8f {d:Int × Bool × Int × Stp->Option (Int × Stp)} {s:Int × Bool × Int × Stp} (hI:Qvp (n:=n) (S:=S) (z:=z) (az:=anZ n S z) (x:=x) s)
  (hd:∀s',Qvp (n:=n) (S:=S) (z:=z) (az:=anZ n S z) (x:=x) s'->unv n s'.2.2.2 < unv n s.2.2.2->∃y,d s'=some y/\Qqv (n:=n) (S:=S) (z:=z) (az:=anZ n S z) (x:=x) s' y) :
  ∃y,Z2 (z:Int) (grS n S) ((anZ n S z:Nat):Int) d s=some y/\Qqv (n:=n) (S:=S) (z:=z) (az:=anZ n S z) (x:=x) s y:=by
 obtain ⟨sv,D,sr,m⟩:=s
 obtain ⟨v,r,h1,hv,h2,hDI,hR⟩:=hI
 dsimp only at h1 h2 hDI hR hd
 subst h1; subst h2
 have z64:=Qcy hn hS hz hx hz
 have az64:=Qcy hn hS hz hx (fun j hj=>Q3p hn hS hz hx hj)
 have hch:(chN n S v:Int)=((msk n fun c=>(S c).testBit v:Nat):Int):=rfl
 have bitz:∀{a k:Nat},a < 18446744073709551616->k < 64->((zv (zb (Int.fdiv (a:Int) (2^min (Int.toNat (k:Int)) zk)) &&& zb 1).toNat)==0)=!a.testBit k:=fun {a k} ha hk=>by
  rw [Qas ha hk]; cases a.testBit k <;> rfl
 have bito:∀{a k:Nat},a < 18446744073709551616->k < 64->((zv (zb (Int.fdiv (a:Int) (2^min (Int.toNat (k:Int)) zk)) &&& zb 1).toNat)==1)=a.testBit k:=fun {a k} ha hk=>by
  rw [Qas ha hk]; cases a.testBit k <;> rfl
 unfold Z2
 dsimp only
 cases hvis:vis m v D with
 | true =>
  refine ⟨((r:Int),m),?_,v,r,rfl,rfl,hDI,.refl,hvis⟩
  have:(Q6 Ai m ⟨(v:Int),D⟩).getD false=true:=hvis
  rw [aH this]
 | false =>
  have hnk:¬ (Q6 Ai m ⟨(v:Int),D⟩).getD false=true:=by
   have:(Q6 Ai m ⟨(v:Int),D⟩).getD false=false:=hvis
   rw [this]; decide
  rw [aJ hnk,aH (Ql v),bitz z64 (show v < 64 by omega)]
  generalize hm1:kput Ai m ⟨(v:Int),D⟩ true=m1
  have hv1:∀u e,vis m1 u e=(vis m u e || (decide (u=v) && decide (e=D))):=fun u e=>by rw [<-hm1]; exact Q49
  have le1:∀u e,vis m u e=true->vis m1 u e=true:=fun u e h=>by rw [hv1,h]; rfl
  have hself:vis m1 v D=true:=by rw [hv1]; simp
  have hunv:unv n m1 < unv n m:=Q7u le1 hv hvis hself
  have sd1:∀u e,vis m1 u e=true->Rch S z (anZ n S z) x u e:=fun u e h=>by
   rw [hv1,aN,aE] at h
   rcases h with h | ⟨h3,h4⟩
   ·exact hDI.sd u e h
   rw [aR h3,aR h4]; exact hR
  have fin:∀{m2:Stp} {r2:Nat},DI n S z (anZ n S z) x m2 r2->DE n S z (anZ n S z) m1 m2->Suc n S z (anZ n S z) m2 v D->Qqv (n:=n) (S:=S) (z:=z) (az:=anZ n S z) (x:=x) ((v:Int),D,(r:Int),m) ((r2:Int),m2):=fun {m2 r2} g1 g2 g3=>by
   refine ⟨v,r2,rfl,rfl,g1,⟨fun u e h=>g2.le u e (le1 u e h),fun u e h k=>?_⟩,g2.le _ _ hself⟩
   cases hu:vis m1 u e with
   | true =>
    rw [hv1,k,Bool.false_or,aE] at hu
    rw [aR hu.1,aR hu.2]
    exact g3
   | false=>exact g2.new u e h hu
  cases hvz:z.testBit v with
  | false =>
   rw [aH (by decide),aH (Ql v),Q0 hv,aC,hch]
   have hr64:r < 18446744073709551616:=Qcy hn hS hz hx fun j hj=>((hDI.rr j).1 hj).1
   rw [K3 (show v < 64 by omega),Jo hr64 (Qac (by omega))]
   have hDI1:DI n S z (anZ n S z) x m1 (r ||| 2^v):=⟨fun u=>by
    rw [bJ,Qo,aN,hDI.rr u,hv1,hv1]
    constructor
    ·rintro (⟨g1,g2,g3⟩ | g)
     ·refine ⟨g1,g2,?_⟩
      rcases g3 with g3 | g3
      ·left; rw [g3]; rfl
      right; rw [g3]; rfl
     have:=aR g
     subst this
     refine ⟨hv,hvz,?_⟩
     cases D with
     | true=>left; simp
     | false=>right; simp
    rintro ⟨g1,g2,g3⟩
    by_cases e:v=u
    ·right; simp [e]
    have e':¬ u=v:=fun h=>e h.symm
    left
    refine ⟨g1,g2,?_⟩
    simp only [e',decide_false,Bool.false_and,Bool.or_false] at g3
    exact g3,sd1⟩
   obtain ⟨y1,w1,r1,e1,g1,g2,g3⟩:=Qhc (D:=true) (p:=fun c=>(S c).testBit v) hn (M:=unv n m) hd (body:=Qbn d) (fun s=>rfl) (fun i _ hp=>.dn hR hvz hp) hDI1 hunv
   rw [w1,aC]
   have hs1:z.testBit v=false->∀c,c < n->(S c).testBit v=true->vis y1.2 c true=true:=fun _ c hc hb=>g3 c hc hb
   cases hD:D with
   | true =>
    rw [aH rfl,aH (Ql v),bitz az64 (show v < 64 by omega)]
    cases haz:(anZ n S z).testBit v with
    | false =>
     rw [aH (by decide)]
     refine ⟨_,rfl,?_⟩
     have:=fin g1 g2 ⟨hs1,fun e=>(by rw [hD] at e; cases e),fun _ e=>(by rw [haz] at e; cases e)⟩
     rw [hD] at this
     rw [e1]; exact this
    | true =>
     rw [aJ (by decide),Q0 hv,aC,Qqh hn hS hz hx hv,e1]
     obtain ⟨y2,w2,r2,e2,k1,k2,k3⟩:=Qhc (D:=false) (p:=(S v).testBit) hn (M:=unv n m) hd (body:=Qbm d) (fun s=>rfl) (fun i _ hp=>.turn (by rw [<-hD]; exact hR) haz hp) g1 (cC (Que g2.le) hunv)
     rw [w2,aC]
     refine ⟨_,rfl,?_⟩
     have:=fin k1 (g2.trans k2) ⟨fun a c hc hb=>k2.le _ _ (hs1 a c hc hb),fun e=>(by rw [hD] at e; cases e),fun _ _ p hp hb=>k3 p hp hb⟩
     rw [hD] at this
     rw [e2]; exact this
   | false =>
    rw [aJ (by decide),aH (Ql v),bito z64 (show v < 64 by omega),hvz,aJ (by decide),Q0 hv,aC,Qqh hn hS hz hx hv,e1]
    obtain ⟨y2,w2,r2,e2,k1,k2,k3⟩:=Qhc (D:=false) (p:=(S v).testBit) hn (M:=unv n m) hd (body:=Qbe d) (fun s=>rfl) (fun i _ hp=>.up (by rw [<-hD]; exact hR) hvz hp) g1 (cC (Que g2.le) hunv)
    rw [w2,aC]
    refine ⟨_,rfl,?_⟩
    have:=fin k1 (g2.trans k2) ⟨fun a c hc hb=>k2.le _ _ (hs1 a c hc hb),fun _ _ p hp hb=>k3 p hp hb,fun e=>(by rw [hD] at e; cases e)⟩
    rw [hD] at this
    rw [e2]; exact this
  | true =>
   rw [aJ (by decide)]
   have hDI1:DI n S z (anZ n S z) x m1 r:=⟨fun u=>by
    rw [hDI.rr u,hv1,hv1]
    constructor
    ·rintro ⟨g1,g2,g3⟩
     refine ⟨g1,g2,?_⟩
     rcases g3 with g3 | g3
     ·left; rw [g3]; rfl
     right; rw [g3]; rfl
    rintro ⟨g1,g2,g3⟩
    have e':¬ u=v:=fun h=>by subst h; rw [hvz] at g2; cases g2
    refine ⟨g1,g2,?_⟩
    simp only [e',decide_false,Bool.false_and,Bool.or_false] at g3
    exact g3,sd1⟩
   have hs1:z.testBit v=false->False:=fun e=>by rw [hvz] at e; cases e
   cases hD:D with
   | true =>
    rw [aH rfl,aH (Ql v),bitz az64 (show v < 64 by omega)]
    have haz:(anZ n S z).testBit v=true:=Jf n v hvz
    rw [haz,aJ (by decide),Q0 hv,aC,Qqh hn hS hz hx hv]
    obtain ⟨y2,w2,r2,e2,k1,k2,k3⟩:=Qhc (D:=false) (p:=(S v).testBit) hn (M:=unv n m) hd (body:=Qbi d) (fun s=>rfl) (fun i _ hp=>.turn (by rw [<-hD]; exact hR) haz hp) hDI1 hunv
    rw [w2,aC]
    refine ⟨_,rfl,?_⟩
    have:=fin k1 k2 ⟨fun a=>(hs1 a).elim,fun e=>(by rw [hD] at e; cases e),fun _ _ p hp hb=>k3 p hp hb⟩
    rw [hD] at this
    rw [e2]; exact this
   | false =>
    rw [aJ (by decide),aH (Ql v),bito z64 (show v < 64 by omega),hvz,aH rfl]
    refine ⟨_,rfl,?_⟩
    have:=fin hDI1 .refl ⟨fun a=>(hs1 a).elim,fun _ a=>(hs1 a).elim,fun e=>(by rw [hD] at e; cases e)⟩
    rw [hD] at this
    exact this
theorem Q2b:Qa fuel (Xu (grS n S)) (0,(z:Int))=some ((anZ n S z:Nat):Int):=by
 have hlen:(Qc n S).length=n:=Zf
 have hfull:=Qb3 n hS.inn
 have hs0:Zm z (2^n - 1):=fun j hj=>by rw [bF]; simpa using hz j hj
 have hlt:∀{t:Nat},Zm t (2^n - 1)->t < 18446744073709551616:=fun h=>Qcy hn hS hz hx fun j hj=>by have:=h j hj; rw [bF] at this; simpa using this
 have inner:∀t,Zm t (2^n - 1)->Qa fuel (Xt (grS n S)) ((0:Int),(t:Int))=some ((upR n S t:Nat):Int):=fun t ht=>by
  have h:=Zt (n:=n) (k0:=0) (by omega) (by omega) (fun i (x:Int)=>(i,x)) (body:=Xt (grS n S)) (fun k=>(((List.range k).foldl (upV S) t:Nat):Int)) ((upR n S t:Nat):Int)
   (fun k _ hk=>by
    have hsub:=Qjk (S:=S) (T:=2^n - 1) (List.range k) t (fun v hv=>hfull v (by have:=cX.1 hv; omega)) ht
    unfold Xt
    dsimp only
    rw [hlen,aH (dlt hk),Q0 hk,aC,aH (Ql k),Qas (hlt hsub) (by omega),List.range_succ,List.foldl_append]
    simp only [List.foldl_cons,List.foldl_nil]
    generalize (List.range k).foldl (upV S) t=q at *
    unfold upV
    cases c:q.testBit k with
    | true =>
     rw [aH (by rfl),aH rfl,Jo (hlt hsub) (Qcy hn hS hz hx (hS.inn k hk))]
    | false=>rw [aJ (by decide),aJ (by decide)])
   (by unfold Xt; dsimp only; rw [hlen,aJ (nlt n)]; rfl)
  rw [show ((0:Nat):Int)=0 from rfl] at h
  exact h
 have h:=Zt (n:=n) (k0:=0) (by omega) (by omega) (fun i (x:Int)=>(i,x)) (body:=Xu (grS n S)) (fun k=>((ups n S k z:Nat):Int)) ((ups n S n z:Nat):Int)
  (fun k _ hk=>by
   unfold Xu
   dsimp only
   rw [hlen,aH (dlt hk),inner _ (Vp hfull hs0 k)]; rfl)
  (by unfold Xu; dsimp only; rw [hlen,aJ (nlt n)])
 rw [show ((0:Nat):Int)=0 from rfl] at h
 exact h
theorem Qz7:∃r:Nat,V1 (grS n S) ((2^x:Nat):Int) (z:Int)=some (r:Int)/\∀u,r.testBit u=true↔(u < n/\z.testBit u=false/\∃d,Rch S z (anZ n S z) x u d):=by
 have hzero:DI n S z (anZ n S z) x ([]:Stp) 0:=⟨fun u=>by simp [vis,Q6],fun u e h=>by simp [vis,Q6] at h⟩
 have hpx:((2^x:Nat):Int)=((msk n fun i=>decide (x=i):Nat):Int):=by
  congr 1
  exact Qdw (eV (by omega) hx) fun i _=>Qo x i
 have hrec:∀s,Qvp (n:=n) (S:=S) (z:=z) (az:=anZ n S z) (x:=x) s->∃y,Qj5 (Z2 (z:Int) (grS n S) ((anZ n S z:Nat):Int)) fuel s=some y/\Qqv (n:=n) (S:=S) (z:=z) (az:=anZ n S z) (x:=x) s y:=fun s hs =>
  Qr8 (F:=Z2 (z:Int) (grS n S) ((anZ n S z:Nat):Int)) (Qvp (n:=n) (S:=S) (z:=z) (az:=anZ n S z) (x:=x)) (fun s=>unv n s.2.2.2) (Qqv (n:=n) (S:=S) (z:=z) (az:=anZ n S z) (x:=x))
   (fun d s hs hd=>Q8f hn hS hz hx hs hd) fuel s hs (by
    have:unv n s.2.2.2<=2*n:=Qo5 _ _
    show unv n s.2.2.2 < fuel
    unfold fuel; omega)
 obtain ⟨y,w,r,e1,g1,g2,g3⟩:=Qhc (S:=S) (z:=z) (az:=anZ n S z) (x:=x) (D:=false) (p:=fun i=>decide (x=i)) hn (M:=unv n ([]:Stp)+1) (d:=Qj5 (Z2 (z:Int) (grS n S) ((anZ n S z:Nat):Int)) fuel) (fun s' hs' _=>hrec s' hs')
  (body:=Qbq (z:Int) (grS n S) ((anZ n S z:Nat):Int)) (fun s=>rfl) (fun i _ hp=>by have:=aR hp; subst this; exact .start) hzero (by omega)
 refine ⟨r,?_,fun u=>?_⟩
 ·unfold V1
  rw [Q2b hn hS hz hx,aC,hpx]
  rw [show ((0:Nat):Int)=0 from rfl] at w
  rw [w,aC,e1]
 rw [g1.rr u]
 constructor
 ·rintro ⟨h1,h2,h3⟩
  refine ⟨h1,h2,?_⟩
  rcases h3 with h3 | h3
  ·exact ⟨_,g1.sd u true h3⟩
  exact ⟨_,g1.sd u false h3⟩
 rintro ⟨h1,h2,d,h3⟩
 refine ⟨h1,h2,?_⟩
 have hall:∀u e,Rch S z (anZ n S z) x u e->u < n->vis y.2 u e=true:=fun u e h=>by
  have hsuc:∀u e,vis y.2 u e=true->Suc n S z (anZ n S z) y.2 u e:=fun u e h=>g2.new u e h (by simp [vis,Q6])
  have key:(vis y.2 u e=true/\u < n)\/(n<=u/\e=true):=by
   induction h with
   | start=>exact .inl ⟨g3 x hx (dB rfl),hx⟩
   | @up v p hr hv hp ih =>
    rcases ih with ⟨ih,hvn⟩ | ⟨_,ih⟩
    ·have hpn:=hS.inn v hvn p hp
     exact .inl ⟨(hsuc v false ih).2.1 rfl hv p hpn hp,hpn⟩
    cases ih
   | @dn v c d hr hv hc ih =>
    by_cases hcn:c < n
    ·have hvn:=hS.inn c hcn v hc
     rcases ih with ⟨ih,_⟩ | ⟨ih,_⟩
     ·exact .inl ⟨(hsuc v d ih).1 hv c hcn hc,hcn⟩
     omega
    exact .inr ⟨by omega,rfl⟩
   | @turn v p hr hv hp ih =>
    have hvn:=Q3p hn hS hz hx hv
    rcases ih with ⟨ih,_⟩ | ⟨ih,_⟩
    ·have hpn:=hS.inn v hvn p hp
     exact .inl ⟨(hsuc v true ih).2.2 rfl hv p hpn hp,hpn⟩
    omega
  intro hu
  rcases key with h | h
  ·exact h.1
  omega
 cases d with
 | true=>exact .inl (hall u true h3 h1)
 | false=>exact .inr (hall u false h3 h1)
end
end Go.Ab
namespace Go.Ab
open Go
section
variable {n:Nat} {S:Nat -> Nat} (hn1:1<=n) (hn:n<=8) (hS:Gd n S)
theorem Q7r {b:Bool} {i:Nat} (hi:i < 64):zv ((b.toNat : Int)*2^min (Int.toNat (i:Int)) zk)=(((if b=true then 2^i else 0:Nat)):Int):=by
 cases b with
 | true=>exact K3 hi
 | false=>simp; rfl
def chP (n:Nat) (S:Nat -> Nat) (i p u:Nat):Nat := msk n fun c=>(decide (c < i) || (decide (c=i) && decide (u < p))) && (S c).testBit u
include hn hS
theorem Q72 {i p u:Nat}:chP n S i p u < 18446744073709551616:=by
 have:=msk_lt n fun c=>(decide (c < i) || (decide (c=i) && decide (u < p))) && (S c).testBit u
 have:(2:Nat)^n<=256:=aW (n:=2) (by omega) hn
 unfold chP; omega
theorem Q3c {i p:Nat} (hi:i < n) (u:Nat):(if u=p then chP n S i p p ||| (if (S i).testBit p=true then 2^i else 0) else chP n S i p u)=chP n S i (p+1) u:=by
 by_cases e:u=p
 ·subst e
  rw [aH rfl]
  apply eE
  intro c
  unfold chP
  rw [bJ,Qv,Qv]
  by_cases h:c=i
  ·subst h
   cases hb:(S c).testBit u <;> simp [hi,hb,Qo]
  have h':¬ i=c:=fun e=>h e.symm
  cases hb:(S i).testBit u <;> simp [h,h',Qo]
 rw [aJ e]
 unfold chP
 refine Zs fun c _=>?_
 have:decide (u < p+1)=decide (u < p):=by rw [aQ]; simp; omega
 rw [this]
theorem Q02:Qa fuel (V4 (Qc n S)) (0,List.replicate n (0:Int))=some (.inr (Qc n (chN n S))):=by
 have hlen:(Qc n S).length=n:=Zf
 have h64:=Qkb hn hS
 have inner:∀i,i < n->∀s:Int × List Int,s.1=(i:Int)->Qa fuel (V3 (Qc n S) s (S i:Int)) (0,Qc n (chP n S i 0))=some (Qc n (chP n S i n)):=fun i hi s hs=>by
  have h:=Zt (n:=n) (k0:=0) (by omega) (by omega) (fun i (x:List Int)=>(i,x)) (body:=V3 (Qc n S) s (S i:Int)) (fun p=>Qc n (chP n S i p)) (Qc n (chP n S i n))
   (fun p _ hp=>by
    unfold V3
    dsimp only
    rw [hlen,aH (dlt hp),Q0 hp,aC,aH (Ql p),hs,aH (Ql i),Qas (h64 i hi) (by omega),Q7r (by omega),Jo (Q72 hn hS) (by
     split
     ·exact Qac (by omega)
     omega),aS,Qhd]
    refine congrArg (fun F=>some (Qd.next (zw ((p:Int)+1),Qc n F))) ?_
    funext u
    exact Q3c hn hS hi u)
   (by unfold V3; dsimp only; rw [hlen,aJ (nlt n)])
  rw [show ((0:Nat):Int)=0 from rfl] at h
  exact h
 have hz:List.replicate n (0:Int)=Qc n (chP n S 0 0):=by
  have e:∀u,chP n S 0 0 u=0:=fun u=>by
   unfold chP
   have:(msk n fun c=>(decide (c < 0) || (decide (c=0) && decide (u < 0))) && (S c).testBit u)=msk n fun _=>false:=Zs fun c _=>by simp
   rw [this]
   have:∀m,msk m (fun _=>false)=0:=fun m=>by
    induction m with
    | zero=>rfl
    | succ m ih=>simp [msk,ih]
   exact this n
  apply List.ext_getElem
  ·simp [Qc,Qb4]
  intro k h1 h2
  simp [Qc,Qb4,e]
 have h:=Zt (n:=n) (k0:=0) (by omega) (by omega) (fun i (x:List Int)=>(i,x)) (body:=V4 (Qc n S)) (fun k=>Qc n (chP n S k 0)) (.inr (Qc n (chN n S)))
  (fun i _ hi=>by
   unfold V4
   dsimp only
   rw [hlen,aH (dlt hi),Q0 hi,aC,aH (Ql n),Kz (by omega),aJ (by
    have:=Jc (hS.inn i hi)
    simpa using this),inner i hi _ rfl,aC]
   refine congrArg (fun F=>some (Qd.next (zw ((i:Int)+1),Qc n F))) ?_
   funext u
   unfold chP
   refine Zs fun c _=>?_
   by_cases hc:c < i
   ·have:c < i+1:=by omega
    simp [hc,this]
   by_cases hc2:c=i
   ·subst hc2
    cases hb:(S c).testBit u with
    | true=>have:=hS.inn c hi u hb; simp [this]
    | false=>simp
   have:¬ c < i+1:=by omega
   simp [hc,hc2,this])
  (by
   unfold V4
   dsimp only
   rw [hlen,aJ (nlt n)]
   refine congrArg (fun F=>some (Qd.done (Sum.inr (Qc n F)))) ?_
   funext u
   unfold chP chN
   refine Zs fun c hc=>?_
   simp [hc])
 rw [show ((0:Nat):Int)=0 from rfl,<-hz] at h
 exact h
theorem Qye:Qa fuel (V7 (Qc n S)) (0,0)=some (.inr ()):=by
 have hlen:(Qc n S).length=n:=Zf
 have h64:=Qkb hn hS
 obtain ⟨r,hr⟩:=Xp hS
 have p64:∀{P:Nat},(∀j,P.testBit j=true->j < n)->P < 18446744073709551616:=fun h=>by
  have:=Jc h
  have:(2:Nat)^n<=256:=aW (n:=2) (by omega) hn
  omega
 have h:=Zq (n:=n) (k0:=0) (by omega) (by omega) (fun i (x:Int)=>(x,i)) (body:=V7 (Qc n S)) (fun k x=>∃P:Nat,x=(P:Int)/\(∀j,P.testBit j=true->j < n)/\cnt n P.testBit=k) (fun r=>r=.inr ())
  (fun k x _ hk hI=>by
   left
   obtain ⟨P,rfl,hP,hc⟩:=hI
   have hex:∃v,v < n/\P.testBit v=false/\Zm (S v) P:=by
    have hun:∃v,v < n/\P.testBit v=false:=by
     apply Classical.byContradiction
     intro hno
     have:cnt n P.testBit=cnt n (fun _=>true):=Qlx fun i hi=>by
      cases hb:P.testBit i with
      | true=>rfl
      | false=>exact absurd ⟨i,hi,hb⟩ hno
     have hall:∀m,cnt m (fun _=>true)=m:=fun m=>by
      induction m with
      | zero=>rfl
      | succ m ih=>simp [cnt,ih]
     rw [hall] at this; omega
    have key:∀c v,v < n->P.testBit v=false->r v=c->∃v,v < n/\P.testBit v=false/\Zm (S v) P:=by
     intro c
     induction c using Nat.strongRecOn with
     | _ c ih =>
      intro v hv hb hc
      by_cases hs:Zm (S v) P
      ·exact ⟨v,hv,hb,hs⟩
      obtain ⟨j,hj,hjp⟩:∃j,(S v).testBit j=true/\P.testBit j=false:=by
       apply Classical.byContradiction
       intro hno
       refine hs fun j hj=>?_
       cases hb2:P.testBit j with
       | true=>rfl
       | false=>exact absurd ⟨j,hj,hb2⟩ hno
      have:=hr v hv j hj
      exact ih (r j) (by omega) j (hS.inn v hv j hj) hjp rfl
    obtain ⟨v,hv,hb⟩:=hun
    exact key _ v hv hb rfl
   have hl:=Zq (n:=n) (k0:=0) (by omega) (by omega) (fun i (_:Unit)=>i) (body:=K1 (Qc n S) ((P:Int),(k:Int))) (fun k _=>∀v,v < k->¬ (P.testBit v=false/\Zm (S v) P)) (fun r=>∃v,v < n/\P.testBit v=false/\r=.inl ((P ||| 2^v:Nat):Int))
    (fun v _ _ hv hI=>by
     have e:K1 (Qc n S) ((P:Int),(k:Int)) (v:Int)=if P.testBit v=false/\Qm4 (S v) P=true then some (.done (.inl ((P ||| 2^v:Nat):Int))) else some (.next (zw ((v:Int)+1))):=by
      unfold K1
      dsimp only
      rw [hlen,aH (dlt hv),Q0 hv,aC,aH (Ql v),Qas (p64 hP) (by omega),Q3m (h64 v hv) (p64 hP)]
      cases hb:P.testBit v with
      | true=>simp
      | false =>
       rw [aH (by rfl)]
       cases hsb:Qm4 (S v) P with
       | true =>
        rw [aH rfl,aH (Ql v),K3 (by omega),Jo (p64 hP) (Qac (by omega)),aH ⟨rfl,rfl⟩]
       | false=>simp
     by_cases hg:P.testBit v=false/\Qm4 (S v) P=true
     ·right
      exact ⟨_,by rw [e,aH hg],v,hv,hg.1,rfl⟩
     left
     refine ⟨(),by rw [e,aJ hg],fun w hw hg2=>?_⟩
     by_cases e2:w=v
     ·subst e2; exact hg ⟨hg2.1,Qkz.2 hg2.2⟩
     exact hI w (by omega) hg2)
    (fun _ hI=>by
     obtain ⟨v,h1,h2,h3⟩:=hex
     exact absurd ⟨h2,h3⟩ (hI v h1)) () (fun v hv=>by omega)
   obtain ⟨y,h1,v,hv,hb,rfl⟩:=hl
   rw [show ((0:Nat):Int)=0 from rfl] at h1
   refine ⟨((P ||| 2^v:Nat):Int),?_,P ||| 2^v,rfl,fun j hj=>?_,?_⟩
   ·unfold V7
    dsimp only
    rw [hlen,aH (dlt hk),h1]; rfl
   ·rw [bJ,Qo,aN] at hj
    rcases hj with hj | hj
    ·exact hP j hj
    have:=aR hj; omega
   have e:=Qgq (n:=n) (v:=v) (p:=(P ||| 2^v).testBit) hv (by rw [bJ,Qo]; simp)
   rw [<-e]
   congr 1
   rw [<-hc]
   refine Qlx fun i _=>?_
   rw [bJ,Qo]
   by_cases e2:v=i
   ·subst e2; simp [hb]
   simp [e2])
  (fun x _=>⟨_,by unfold V7; dsimp only; rw [hlen,aJ (nlt n)],rfl⟩) 0 ⟨0,rfl,fun j hj=>by simp at hj,by
   have:∀m,cnt m (0:Nat).testBit=0:=fun m=>Q2h fun i _=>Nat.zero_testBit i
   exact this n⟩
 obtain ⟨y,h1,rfl⟩:=h
 exact h1
include hn1
theorem Q25:Qbk (Qc n S)=some (grS n S,0):=by
 have hlen:(Qc n S).length=n:=Zf
 unfold Qbk
 rw [hlen,aJ (by simp; omega),aJ (by simp; omega),aH (by omega),aS,Q02 hn hS,aC]
 dsimp only
 rw [Qye hn hS,aC]
theorem Qu5 {a b:Nat} (ha:a < 18446744073709551616) (hb:b < 18446744073709551616):((zv (zb (a:Int) &&& zb (b:Int)).toNat)==0)=(a &&& b==0):=by
 rw [BitVec.toNat_and,Qbu ha,Qbu hb,Qb8 (cC Nat.and_le_left ha)]
 rw [aQ,dL,dL]
 exact ⟨fun h=>by exact_mod_cast h,fun h=>by rw [h]; rfl⟩
theorem Qxe {a b:Nat}:(a &&& b==0)=true↔∀j,¬ (a.testBit j=true/\b.testBit j=true):=by
 rw [dL]
 constructor
 ·intro h j ⟨h1,h2⟩
  have:(a &&& b).testBit j=false:=by rw [h]; exact Nat.zero_testBit j
  rw [Nat.testBit_and,h1,h2] at this; cases this
 intro h
 apply eE
 intro j
 rw [Nat.testBit_and,Nat.zero_testBit,bN]
 intro hb
 rw [aE] at hb
 exact h j hb
variable {x y z:Nat} (hx:x < n) (hy:y < n) (hxy:x≠y) (hz:∀j,z.testBit j=true->j < n) (hxz:z.testBit x=false) (hyz:z.testBit y=false)
include hx hy hxy hz hxz hyz
theorem Qty:Y3 (grS n S) [((2^x:Nat):Int),((2^y:Nat):Int),(z:Int)]=some true:=by
 have hlen:(Qc n S).length=n:=Zf
 have z64:=Qcy hn hS hz hx hz
 have px:∀j,(2^x).testBit j=true->j=x:=fun j hj=>by rw [Qo] at hj; exact (aR hj).symm
 have py:∀j,(2^y).testBit j=true->j=y:=fun j hj=>by rw [Qo] at hj; exact (aR hj).symm
 have x64:=Qac (show x < 64 by omega)
 have y64:=Qac (show y < 64 by omega)
 have ltx:2^x < 2^n:=eV (by omega) hx
 have lty:2^y < 2^n:=eV (by omega) hy
 have ltz:z < 2^n:=Jc hz
 have h:=Zt (n:=3) (k0:=0) (by omega) (by omega) (fun i (t:Int)=>(t,i)) (body:=Z6 [((2^x:Nat):Int),((2^y:Nat):Int),(z:Int)] (grS n S))
  (fun k=>((match k with | 0=>0 | 1=>2^x | 2=>2^x ||| 2^y | _=>2^x ||| 2^y ||| z:Nat):Int)) (Sum.inr ())
  (fun k _ hk=>by
   unfold Z6
   dsimp only
   rw [aH (dB (by simp; omega))]
   have hnz:∀{a b:Nat},a < 18446744073709551616->b < 18446744073709551616->(∀j,¬ (a.testBit j=true/\b.testBit j=true))->¬ ((zv (zb (a:Int) &&& zb (b:Int)).toNat) != 0)=true:=fun {a b} ha hb h=>by
    have:=Qu5 hn1 hn hS ha hb
    rw [(Qxe hn1 hn hS).2 h] at this
    rw [bne,this]; decide
   match k,hk with
   | 0,_ =>
    rw [Qs (by simp),aC]
    simp only [List.getElem_cons_zero,List.getElem_cons_succ]
    rw [hlen,aH (Ql n),Kz (by omega),aJ (by simpa using ltx)]
    rw [aJ (hnz x64 (show 0 < 18446744073709551616 by omega) (fun j h=>by simp at h)),Jo (show 0 < 18446744073709551616 by omega) x64,Nat.zero_or]
   | 1,_ =>
    rw [Qs (by simp),aC]
    simp only [List.getElem_cons_zero,List.getElem_cons_succ]
    rw [hlen,aH (Ql n),Kz (by omega),aJ (by simpa using lty)]
    rw [aJ (hnz y64 x64 (fun j h=>hxy ((px j h.2).symm.trans (py j h.1)))),Jo x64 y64]
   | 2,_ =>
    rw [Qs (by simp),aC]
    simp only [List.getElem_cons_zero,List.getElem_cons_succ]
    rw [hlen,aH (Ql n),Kz (by omega),aJ (by simpa using ltz)]
    rw [aJ (hnz z64 (eM (n:=64) x64 y64) (fun j h=>by
     rw [bJ,aN] at h
     rcases h.2 with e | e
     ·rw [px j e,hxz] at h; cases h.1
     rw [py j e,hyz] at h; cases h.1)),Jo (eM (n:=64) x64 y64) z64])
  (by unfold Z6; dsimp only; rw [aJ (by simp)])
 rw [show ((0:Nat):Int)=0 from rfl] at h
 unfold Y3
 have h':Qa fuel (Z6 [((2^x:Nat):Int),((2^y:Nat):Int),(z:Int)] (grS n S)) (0,0)=some (Sum.inr ()):=h
 rw [h']; rfl
theorem Q06:Qan (Qc n S) ((2^x:Nat):Int) ((2^y:Nat):Int) (z:Int)=some (!(seenS n S x y z).testBit y,0):=by
 obtain ⟨r,h1,h2⟩:=Qz7 (x:=x) (z:=z) hn hS hz hx
 unfold Qan
 rw [Q25 hn1 hn hS,aC]
 dsimp only
 rw [aJ (by decide)]
 rw [Qty hn1 hn hS hx hy hxy hz hxz hyz,aC,aJ (by decide),h1,aC]
 have r64:r < 18446744073709551616:=Qcy hn hS hz hx fun j hj=>((h2 j).1 hj).1
 rw [Qu5 hn1 hn hS r64 (Qac (by omega))]
 congr 2
 rw [aQ,Qxe hn1 hn hS]
 have hs:=Qqp (x:=x) (y:=y) hS hz hx hy hxz hyz
 rw [bK,<-cU,hs]
 constructor
 ·intro h hd
  exact h y ⟨(h2 y).2 ⟨hy,hyz,hd⟩,by rw [Qo]; simp⟩
 rintro h j ⟨g1,g2⟩
 rw [Qo] at g2
 have:=aR g2
 subst this
 exact h ((h2 _).1 g1).2.2
def jnP (n:Nat) (S:Nat -> Nat) (an b a u:Nat):Nat := msk n fun w=>(List.range n).any fun k=>(decide (k < b) || (decide (k=b) && decide (u < a))) && an.testBit k && ((S k).testBit u || decide (k=u)) && ((S k).testBit w || decide (k=w))
omit hn1 hS hx hy hxy hz hxz hyz in
theorem Q0u {an b a u:Nat}:jnP n S an b a u < 18446744073709551616:=by
 have:=msk_lt n fun w=>(List.range n).any fun k=>(decide (k < b) || (decide (k=b) && decide (u < a))) && an.testBit k && ((S k).testBit u || decide (k=u)) && ((S k).testBit w || decide (k=w))
 have:(2:Nat)^n<=256:=aW (n:=2) (by omega) hn
 unfold jnP; omega
omit hn1 hx hy hxy hz hxz hyz in
theorem Qi5 {b w:Nat}:(S b ||| 2^b).testBit w=((S b).testBit w || decide (b=w)):=by rw [bJ,Qo]
omit hn1 hx hy hxy hz hxz hyz in
theorem Q13 {an b a:Nat} (hb:b < n) (ha:a < n) (u:Nat):(if u=a then (if an.testBit b=true/\(S b ||| 2^b).testBit a=true then jnP n S an b a a ||| (S b ||| 2^b) else jnP n S an b a a) else jnP n S an b a u)=jnP n S an b (a+1) u:=by
 by_cases e:u=a
 ·subst e
  rw [aH rfl]
  apply eE
  intro w
  have hfam:∀w,(S b ||| 2^b).testBit w=true->w < n:=fun w h=>by
   rw [Qi5 hn hS,aN] at h
   rcases h with h | h
   ·exact hS.inn b hb w h
   have:=aR h; omega
  have key:(jnP n S an b (u+1) u).testBit w=true↔(jnP n S an b u u).testBit w=true\/(an.testBit b=true/\(S b ||| 2^b).testBit u=true/\(S b ||| 2^b).testBit w=true):=by
   unfold jnP
   rw [Qv,Qv]
   simp only [aE,aO,bV,cX,aN]
   constructor
   ·rintro ⟨hw,k,hk,⟨⟨h1,h2⟩,h3⟩,h4⟩
    rcases h1 with h1 | ⟨h1,_⟩
    ·exact .inl ⟨hw,k,hk,⟨⟨.inl h1,h2⟩,h3⟩,h4⟩
    subst h1
    refine .inr ⟨h2,?_,?_⟩
    ·rw [Qi5 hn hS,aN,aO]; exact h3
    rw [Qi5 hn hS,aN,aO]; exact h4
   rintro (⟨hw,k,hk,⟨⟨h1,h2⟩,h3⟩,h4⟩ | ⟨h2,h3,h4⟩)
   ·refine ⟨hw,k,hk,⟨⟨?_,h2⟩,h3⟩,h4⟩
    rcases h1 with h1 | h1
    ·exact .inl h1
    exact .inr ⟨h1.1,by omega⟩
   refine ⟨hfam w h4,b,hb,⟨⟨.inr ⟨rfl,by omega⟩,h2⟩,?_⟩,?_⟩
   ·rw [Qi5 hn hS,aN,aO] at h3; exact h3
   rw [Qi5 hn hS,aN,aO] at h4; exact h4
  rw [aQ,key]
  split
  ·rename_i hc
   rw [bJ,aN]
   constructor
   ·rintro (h | h)
    ·exact .inl h
    exact .inr ⟨hc.1,hc.2,h⟩
   rintro (h | h)
   ·exact .inl h
   exact .inr h.2.2
  rename_i hc
  constructor
  ·exact .inl
  rintro (h | h)
  ·exact h
  exact absurd ⟨h.1,h.2.1⟩ hc
 rw [aJ e]
 unfold jnP
 refine Zs fun w _=>?_
 have:decide (u < a+1)=decide (u < a):=by rw [aQ]; simp; omega
 rw [this]
omit hn1 hx hy hxy hz hxz hyz in
theorem Q0a {an:Nat} (han:∀j,an.testBit j=true->j < n):Qa fuel (Vw (Qc n S) (an:Int)) (0,List.replicate n (0:Int))=some (Qc n (jnP n S an n 0)):=by
 have hlen:(Qc n S).length=n:=Zf
 have h64:=Qkb hn hS
 have an64:an < 18446744073709551616:=by
  have:=Jc han
  have:(2:Nat)^n<=256:=aW (n:=2) (by omega) hn
  omega
 have inner:∀b,b < n->∀s:Int × List Int,s.1=(b:Int)->Qa fuel (Ki (Qc n S) (an:Int) s (S b:Int)) (0,Qc n (jnP n S an b 0))=some (Qc n (jnP n S an b n)):=fun b hb s hs=>by
  have f64:S b ||| 2^b < 18446744073709551616:=eM (n:=64) (h64 b hb) (Qac (by omega))
  have h:=Zt (n:=n) (k0:=0) (by omega) (by omega) (fun i (x:List Int)=>(i,x)) (body:=Ki (Qc n S) (an:Int) s (S b:Int)) (fun a=>Qc n (jnP n S an b a)) (Qc n (jnP n S an b n))
   (fun a _ ha=>by
    have hst:Qc n (jnP n S an b (a+1))=Qc n fun u=>if u=a then (if an.testBit b=true/\(S b ||| 2^b).testBit a=true then jnP n S an b a a ||| (S b ||| 2^b) else jnP n S an b a a) else jnP n S an b a u:=by
     congr 1; funext u; exact (Q13 hn hS hb ha u).symm
    have hid:∀F:Nat -> Nat,(Qc n fun u=>if u=a then F a else F u)=Qc n F:=fun F=>by
     congr 1; funext u
     by_cases e:u=a
     ·rw [aH e,e]
     rw [aJ e]
    unfold Ki
    dsimp only
    rw [hlen,aH (dlt ha),hs,Jz an64 (by omega),aC,K3 (show b < 64 by omega),Jo (h64 b hb) (Qac (by omega)),hst]
    cases c1:an.testBit b with
    | false =>
     rw [aJ (by decide)]
     simp only [aV,false_and,eT]
     rw [hid]
    | true =>
     rw [aH rfl,Jz f64 (by omega),aC]
     cases c2:(S b ||| 2^b).testBit a with
     | false =>
      rw [aJ (by decide)]
      simp only [aV,and_false,eT]
      rw [hid]
     | true =>
      rw [aH rfl,Q0 ha,aC,Jo (Q0u hn) f64,aS,Qhd]
      simp only [and_self,eU])
   (by unfold Ki; dsimp only; rw [hlen,aJ (nlt n)])
  rw [show ((0:Nat):Int)=0 from rfl] at h
  exact h
 have hzr:List.replicate n (0:Int)=Qc n (jnP n S an 0 0):=by
  have e:∀u,jnP n S an 0 0 u=0:=fun u=>by
   unfold jnP
   have:(msk n fun w=>(List.range n).any fun k=>(decide (k < 0) || (decide (k=0) && decide (u < 0))) && an.testBit k && ((S k).testBit u || decide (k=u)) && ((S k).testBit w || decide (k=w)))=msk n fun _=>false:=Zs fun c _=>by simp
   rw [this]
   have:∀m,msk m (fun _=>false)=0:=fun m=>by
    induction m with
    | zero=>rfl
    | succ m ih=>simp [msk,ih]
   exact this n
  apply List.ext_getElem
  ·simp [Qc,Qb4]
  intro k h1 h2
  simp [Qc,Qb4,e]
 have h:=Zt (n:=n) (k0:=0) (by omega) (by omega) (fun i (x:List Int)=>(i,x)) (body:=Vw (Qc n S) (an:Int)) (fun k=>Qc n (jnP n S an k 0)) (Qc n (jnP n S an n 0))
  (fun b _ hb=>by
   unfold Vw
   dsimp only
   rw [hlen,aH (dlt hb),Q0 hb,aC,aH (Ql b),inner b hb _ rfl,aC]
   refine congrArg (fun F=>some (Qd.next (zw ((b:Int)+1),F))) ?_
   unfold Qc Qb4
   refine List.map_congr_left fun u hu=>?_
   have hu:=cX.1 hu
   congr 1
   unfold jnP
   refine Zs fun w _=>?_
   congr 1
   funext k
   have:(decide (k < b) || (decide (k=b) && decide (u < n)))=(decide (k < b+1) || (decide (k=b+1) && decide (u < 0))):=by
    rw [aQ]; simp [hu]; omega
   rw [this])
  (by unfold Vw; dsimp only; rw [hlen,aJ (nlt n)])
 rw [show ((0:Nat):Int)=0 from rfl,<-hzr] at h
 exact h
theorem Qk9:Qa2 (Qc n S) (x:Int) (y:Int) (z:Int)=some (!(seenS n S x y z).testBit y):=by
 have hlen:(Qc n S).length=n:=Zf
 have z64:=Qcy hn hS hz hx hz
 have x64:=Qac (show x < 64 by omega)
 have y64:=Qac (show y < 64 by omega)
 have hst:∀j,(2^x ||| 2^y ||| z).testBit j=true->j < n:=fun j hj=>Qs0 hS hz hx hy hxz hyz hj
 have anl:∀j,(anS n S x y z).testBit j=true->j < n:=fun j hj=>Qox hS hz hx hy hxz hyz hj
 have an64:=Qcy hn hS hz hx anl
 have jl:∀v,v < n->∀j,(jo n S (anS n S x y z) z v).testBit j=true->j < n:=fun v _ j hj=>Qyz hS hz hx hy hxz hyz hj
 have hval:∀a,a < n->zv (zb (zv (zb ((jnP n S (anS n S x y z) n 0 a:Nat):Int) &&& zb ((anS n S x y z:Nat):Int)).toNat) &&& ~~~ zb (z:Int)).toNat = ((jo n S (anS n S x y z) z a:Nat):Int):=fun a ha=>by
  have j64:=Q0u (S:=S) (an:=anS n S x y z) (b:=n) (a:=0) (u:=a) hn
  have e1:zv (zb ((jnP n S (anS n S x y z) n 0 a:Nat):Int) &&& zb ((anS n S x y z:Nat):Int)).toNat = ((jnP n S (anS n S x y z) n 0 a &&& anS n S x y z:Nat):Int):=by
   rw [BitVec.toNat_and,Qbu j64,Qbu an64,Qb8 (cC Nat.and_le_left j64)]
  rw [e1]
  have al:(jnP n S (anS n S x y z) n 0 a &&& anS n S x y z) < 2^n:=cC Nat.and_le_left (msk_lt n _)
  rw [Qt0 (n:=n) (p:=(jnP n S (anS n S x y z) n 0 a &&& anS n S x y z).testBit) (q:=z.testBit) (by omega) al z64 (fun _ _=>rfl) (fun _ _=>rfl)]
  congr 1
  unfold jo
  refine Zs fun w hw=>?_
  rw [Nat.testBit_and]
  unfold jnP
  rw [Qv]
  have e:((List.range n).any fun k=>(decide (k < n) || (decide (k=n) && decide (a < 0))) && (anS n S x y z).testBit k && ((S k).testBit a || decide (k=a)) && ((S k).testBit w || decide (k=w)))=((List.range n).any fun k=>(anS n S x y z).testBit k && ((S k).testBit a || decide (k=a)) && ((S k).testBit w || decide (k=w))):=by
   rw [aQ,bV,bV]
   constructor
   ·rintro ⟨k,hk,h⟩
    have:=cX.1 hk
    exact ⟨k,hk,by simpa [this] using h⟩
   rintro ⟨k,hk,h⟩
   have:=cX.1 hk
   exact ⟨k,hk,by simpa [this] using h⟩
  rw [e]
  simp only [hw,decide_true,eK]
  cases (anS n S x y z).testBit w <;> cases z.testBit w <;> simp
 have hfull:=Qb3 n jl
 have hs0:Zm (2^x) (2^n - 1):=fun j hj=>by rw [Qo] at hj; have:=aR hj; rw [bF]; simp; omega
 have hlt:∀{t:Nat},Zm t (2^n - 1)->t < 18446744073709551616:=fun h=>Qcy hn hS hz hx fun j hj=>by have:=h j hj; rw [bF] at this; simpa using this
 have inner:∀t,Zm t (2^n - 1)->Qa fuel (J8 (Qc n S) (Qc n (jnP n S (anS n S x y z) n 0)) ((anS n S x y z:Nat):Int) (z:Int)) ((t:Int),(0:Int))=some ((upR n (jo n S (anS n S x y z) z) t:Nat):Int):=fun t ht=>by
  have h:=Zt (n:=n) (k0:=0) (by omega) (by omega) (fun i (x:Int)=>(x,i)) (body:=J8 (Qc n S) (Qc n (jnP n S (anS n S x y z) n 0)) ((anS n S x y z:Nat):Int) (z:Int)) (fun k=>(((List.range k).foldl (upV (jo n S (anS n S x y z) z)) t:Nat):Int)) ((upR n (jo n S (anS n S x y z) z) t:Nat):Int)
   (fun k _ hk=>by
    have hsub:=Qjk (S:=jo n S (anS n S x y z) z) (T:=2^n - 1) (List.range k) t (fun v hv=>hfull v (by have:=cX.1 hv; omega)) ht
    unfold J8
    dsimp only
    rw [hlen,aH (dlt hk),Jz (hlt hsub) (by omega),aC,List.range_succ,List.foldl_append]
    simp only [List.foldl_cons,List.foldl_nil]
    generalize (List.range k).foldl (upV (jo n S (anS n S x y z) z)) t=q at *
    unfold upV
    cases c:q.testBit k with
    | true =>
     rw [aH rfl,aH rfl,Q0 hk,aC,hval k hk,Jo (hlt hsub) (Qcy hn hS hz hx (jl k hk))]
    | false=>rw [aJ (by decide),aJ (by decide)])
   (by unfold J8; dsimp only; rw [hlen,aJ (nlt n)]; rfl)
  rw [show ((0:Nat):Int)=0 from rfl] at h
  exact h
 have h:=Zt (n:=n) (k0:=0) (by omega) (by omega) (fun i (x:Int)=>(x,i)) (body:=Vz (Qc n S) (Qc n (jnP n S (anS n S x y z) n 0)) ((anS n S x y z:Nat):Int) (z:Int)) (fun k=>((ups n (jo n S (anS n S x y z) z) k (2^x):Nat):Int)) ((seenS n S x y z:Nat):Int)
  (fun k _ hk=>by
   unfold Vz
   dsimp only
   rw [hlen,aH (dlt hk),inner _ (Vp hfull hs0 k)]; rfl)
  (by unfold Vz; dsimp only; rw [hlen,aJ (nlt n)]; rfl)
 rw [show ((0:Nat):Int)=0 from rfl] at h
 unfold Qa2
 rw [aH (Ql x),aH (Ql y),K3 (show x < 64 by omega),K3 (show y < 64 by omega),Jo x64 y64,Jo (eM (n:=64) x64 y64) z64,Qtc hn hS.inn hst,aC,hlen,aH (by omega),aS]
 show (Qa fuel (Vw (Qc n S) ((anS n S x y z:Nat):Int)) (0,List.replicate n (0:Int))).bind _=_
 rw [Q0a hn hS anl,aC,aH (Ql x)]
 show (Qa fuel (Vz (Qc n S) (Qc n (jnP n S (anS n S x y z) n 0)) ((anS n S x y z:Nat):Int) (z:Int)) (((2^x:Nat):Int),0)).bind _=_
 have h':Qa fuel (Vz (Qc n S) (Qc n (jnP n S (anS n S x y z) n 0)) ((anS n S x y z:Nat):Int) (z:Int)) (((2^x:Nat):Int),0)=some ((seenS n S x y z:Nat):Int):=h
 rw [h',aC,Jz (Qcy hn hS hz hx fun j hj=>Qw3 hS hz hx hy hxz hyz hj) (by omega),aC]
end
end Go.Ab
namespace Go.Ab
open Go
section
variable {n:Nat} {S:Nat -> Nat}
def apB (n:Nat) (S:Nat -> Nat) (x y z:Nat):Bool:=!z.testBit x && !z.testBit y && !(seenS n S x y z).testBit y
def fct (x y z:Nat):Ac:=⟨(x:Int),(y:Int),(z:Int)⟩
def fZ (n:Nat) (S:Nat -> Nat) (x y:Nat):List Ac:=apL (fun z=>if apB n S x y z=true then [fct x y z] else []) 0 (2^n)
def X6 (n:Nat) (S:Nat -> Nat):List Ac:=apL (fun x=>apL (fun y=>fZ n S x y) (x+1) (n - (x+1))) 0 n
theorem Qu1 (hn:n<=6) {x y:Nat}:(fZ n S x y).length<=64:=by
 have:=Zl (L:=fun z=>if apB n S x y z=true then [fct x y z] else []) (k0:=0) (m:=1) (fun _=>Y0) (2^n)
 have h:2^n<=64:=aW (n:=2) (by omega) hn
 unfold fZ; omega
theorem Q0o {k:Nat} (h:k < 1000000):zv ((k:Int)+1)=((k+1:Nat):Int):=by
 rw [show (k:Int)+1=((k+1:Nat):Int) by omega,Qb8 (by omega)]
theorem Qrn {α σ ρ:Type} {n c:Nat} (hn:n < 1000000) (mkS:Int->List α->σ) {body:σ->Option (Qd σ ρ)} (L:Nat -> List α) (fin:List α->ρ) (hL:∀k,(L k).length<=1) {out:List α} (hout:out.length<=c)
  (step:∀k o,k < n->o.length<=c+n->body (mkS (k:Int) o)=some (.next (mkS (zv ((k:Int)+1)) (o++L k))))
  (done:∀o,body (mkS (n:Int) o)=some (.done (fin o))):Qa fuel body (mkS 0 out)=some (fin (out++apL L 0 n)):=by
 have key:∀(j N k:Nat),k+j=n->j < N->Qa N body (mkS (k:Int) (out++apL L 0 k))=some (fin (out++apL L 0 n)):=by
  intro j
  induction j with
  | zero =>
   intro N k hk hN
   obtain ⟨N,rfl⟩:∃M,N=M+1:=⟨N - 1,by omega⟩
   have:k=n:=by omega
   subst this
   simp only [Qa,done]
  | succ j ih =>
   intro N k hk hN
   obtain ⟨N,rfl⟩:∃M,N=M+1:=⟨N - 1,by omega⟩
   have hb:=Zl (k0:=0) hL k
   have e:=step k (out++apL L 0 k) (by omega) (by rw [aP]; omega)
   simp only [Qa,e]
   rw [Q0o (by omega)]
   have:=ih N (k+1) (by omega) (by omega)
   simp only [apL,eC] at this
   rw [<-dT] at this
   exact this
 have h:=key n fuel 0 (by omega) (by unfold fuel; omega)
 simpa [apL] using h
section
variable (hn1:1<=n) (hn:n<=6) (hS:Gd n S)
include hn1 hn hS
theorem Q6v {z:Nat} (h:z < 2^n):∀j,z.testBit j=true->j < n:=Jp.1 h
theorem Q0g {x y:Nat} (hx:x < n) (hy:y < n) (hxy:x≠y) {o:List Ac} (ho:o.length<=10000) {s1 s4:Int × List Ac} (h1:s1.1=(x:Int)) (h4:s4.1=(y:Int)) :
  Qa fuel (V8 (Qc n S) s1 s4) (0,o)=some (.inr (o++fZ n S x y)):=by
 have hlen:(Qc n S).length=n:=Zf
 have hp:2^n<=64:=aW (n:=2) (by omega) hn
 refine Qrn (n:=2^n) (c:=10000) (by omega) (fun k (x:List Ac)=>(k,x)) (body:=V8 (Qc n S) s1 s4) (fun z=>if apB n S x y z=true then [fct x y z] else []) Sum.inr (fun _=>Y0) ho (fun z o hz ho=>?_) (fun o=>?_)
 ·have z64:z < 18446744073709551616:=by omega
  unfold V8
  dsimp only
  rw [hlen,K3 (by omega),aH (dlt hz),h1,h4,aH (Ql x),aH (Ql y)]
  have eor:((zv (zb (zv (zb (Int.fdiv (z:Int) (2^min (Int.toNat (x:Int)) zk)) ||| zb (Int.fdiv (z:Int) (2^min (Int.toNat (y:Int)) zk))).toNat) &&& zb 1).toNat)==1)=(z.testBit x || z.testBit y):=by
   have hb:zk=64:=rfl
   have e0:∀k:Nat,k < 64->min (Int.toNat (k:Int)) zk=k:=fun k hk=>by rw [hb,aS]; omega
   rw [e0 x (by omega),e0 y (by omega),Js,Js]
   have l1:z / 2^x < 18446744073709551616:=cC (Nat.div_le_self _ _) z64
   have l2:z / 2^y < 18446744073709551616:=cC (Nat.div_le_self _ _) z64
   rw [Jo l1 l2]
   have l3:z / 2^x ||| z / 2^y < 18446744073709551616:=eM (n:=64) l1 l2
   have h:=Qas (k:=0) l3 (by omega)
   have e1:Int.fdiv ((z / 2^x ||| z / 2^y:Nat):Int) (2^min (Int.toNat ((0:Nat):Int)) zk)=((z / 2^x ||| z / 2^y:Nat):Int):=by
    rw [e0 0 (by omega),Js]; simp
   rw [e1] at h
   rw [h,bJ]
   have e2:∀k,(z / 2^k).testBit 0=z.testBit k:=fun k=>by rw [Nat.testBit_div_two_pow]; simp
   rw [e2,e2]
   cases z.testBit x <;> cases z.testBit y <;> rfl
  rw [eor]
  unfold apB
  cases zx:z.testBit x with
  | true=>simp
  | false =>
   cases zy:z.testBit y with
   | true=>simp
   | false =>
    rw [aJ (by decide),aH (Ql x),aH (Ql y),K3 (show x < 64 by omega),K3 (show y < 64 by omega),Q06 hn1 (by omega) hS hx hy hxy (Q6v hn1 hn hS hz) zx zy,aC]
    dsimp only
    rw [aJ (by decide)]
    cases (seenS n S x y z).testBit y with
    | true=>simp
    | false =>
     rw [aH (by decide),aH (by rw [aP,eJ]; omega)]
     rfl
 ·unfold V8
  dsimp only
  rw [hlen,K3 (by omega),aJ (nlt _)]
theorem Qmp {x:Nat}:(apL (fun y=>if y < n then fZ n S x y else []) (x+1) (n - (x+1))).length<=384:=by
 have:=Zl (L:=fun y=>if y < n then fZ n S x y else []) (k0:=x+1) (m:=64) (fun y=>by
  split
  ·exact Qu1 hn
  simp) (n - (x+1))
 have:(n - (x+1))*64<=6*64:=aU _ (by omega)
 omega
theorem Qq3:apL (fun x=>apL (fun y=>if y < n then fZ n S x y else []) (x+1) (n - (x+1))) 0 n=X6 n S :=
 Q5 n fun x _ hx=>Q5 _ fun y h1 h2=>by rw [aH (by omega)]
theorem Qwg:Kw (Qc n S)=some (X6 n S,0):=by
 have hlen:(Qc n S).length=n:=Zf
 have mid:∀x,x < n->∀(o:List Ac) (s1:Int × List Ac),s1.1=(x:Int)->o.length<=5000->Qa fuel (Ja (Qc n S) s1) (((x+1:Nat):Int),o)=some (Sum.inr (o++apL (fun y=>if y < n then fZ n S x y else []) (x+1) (n - (x+1)))):=fun x hx o s1 h1 ho =>
  Z1 (n:=n) (m:=64) (c:=5000) (by omega) (by omega) (fun k (x:List Ac)=>(k,x)) (body:=Ja (Qc n S) s1) _ Sum.inr (fun y=>by
    split
    ·exact Qu1 hn
    ·simp) ho
   (fun y o h2 h3 ho=>by
    unfold Ja
    dsimp only
    rw [hlen,aH (dlt h3),aH (Ql n),Q0g hn1 hn hS hx h3 (by omega) (by omega) h1 rfl,aC,aH h3])
   (fun o=>by unfold Ja; dsimp only; rw [hlen,aJ (nlt n)])
 have h:=Z1 (n:=n) (k0:=0) (m:=384) (c:=0) (by omega) (by omega) (fun k (x:List Ac)=>(k,x)) (body:=K0 (Qc n S)) (fun x=>apL (fun y=>if y < n then fZ n S x y else []) (x+1) (n - (x+1))) Sum.inr (fun x=>Qmp hn1 hn hS) (out:=[]) (by simp)
  (fun x o _ hx ho=>by
   unfold K0
   dsimp only
   rw [hlen,aH (dlt hx),Qdn (by omega),mid x hx o _ rfl (by omega),aC])
  (fun o=>by unfold K0; dsimp only; rw [hlen,aJ (nlt n)])
 rw [show ((0:Nat):Int)=0 from rfl] at h
 unfold Kw
 rw [h,aC,dC,dI,Qq3 hn1 hn hS]
theorem Qsg {x y:Nat} (hx:x < n) (hy:y < n) (hxy:x≠y) {o:List Ac} (ho:o.length<=10000) {s1 s4:Int × List Ac} (h1:s1.1=(x:Int)) (h4:s4.1=(y:Int)) :
  Qa fuel (Kh (Qc n S) s1 s4) (0,o)=some (o++fZ n S x y):=by
 have hlen:(Qc n S).length=n:=Zf
 have hp:2^n<=64:=aW (n:=2) (by omega) hn
 refine Qrn (n:=2^n) (c:=10000) (by omega) (fun k (x:List Ac)=>(k,x)) (body:=Kh (Qc n S) s1 s4) (fun z=>if apB n S x y z=true then [fct x y z] else []) id (fun _=>Y0) ho (fun z o hz ho=>?_) (fun o=>?_)
 ·have z64:z < 18446744073709551616:=by omega
  unfold Kh
  dsimp only
  rw [hlen,aH (Ql n),K3 (by omega),aH (dlt hz),h1,h4,Jz z64 (by omega),aC]
  unfold apB
  cases zx:z.testBit x with
  | true=>simp
  | false =>
   rw [aH (by decide),Jz z64 (by omega),aC]
   cases zy:z.testBit y with
   | true=>simp
   | false =>
    rw [aH (by decide),Qk9 hn1 (by omega) hS hx hy hxy (Q6v hn1 hn hS hz) zx zy,aC]
    cases (seenS n S x y z).testBit y with
    | true=>simp
    | false =>
     rw [aH (by decide),aH (by rw [aP,eJ]; omega)]
     rfl
 ·unfold Kh
  dsimp only
  rw [hlen,aH (Ql n),K3 (by omega),aJ (nlt _)]; rfl
theorem Qsj:Qc3 (Qc n S)=some (X6 n S):=by
 have hlen:(Qc n S).length=n:=Zf
 have mid:∀x,x < n->∀(o:List Ac) (s1:Int × List Ac),s1.1=(x:Int)->o.length<=5000->Qa fuel (Kj (Qc n S) s1) (((x+1:Nat):Int),o)=some (o++apL (fun y=>if y < n then fZ n S x y else []) (x+1) (n - (x+1))):=fun x hx o s1 h1 ho =>
  Z1 (n:=n) (m:=64) (c:=5000) (by omega) (by omega) (fun k (x:List Ac)=>(k,x)) (body:=Kj (Qc n S) s1) _ id (fun y=>by
    split
    ·exact Qu1 hn
    ·simp) ho
   (fun y o h2 h3 ho=>by
    unfold Kj
    dsimp only
    rw [hlen,aH (dlt h3),Qsg hn1 hn hS hx h3 (by omega) (by omega) h1 rfl,aC,aH h3])
   (fun o=>by unfold Kj; dsimp only; rw [hlen,aJ (nlt n)]; rfl)
 have h:=Z1 (n:=n) (k0:=0) (m:=384) (c:=0) (by omega) (by omega) (fun k (x:List Ac)=>(k,x)) (body:=Qaq (Qc n S)) (fun x=>apL (fun y=>if y < n then fZ n S x y else []) (x+1) (n - (x+1))) id (fun x=>Qmp hn1 hn hS) (out:=[]) (by simp)
  (fun x o _ hx ho=>by
   unfold Qaq
   dsimp only
   rw [hlen,aH (dlt hx),Qdn (by omega),mid x hx o _ rfl (by omega),aC])
  (fun o=>by unfold Qaq; dsimp only; rw [hlen,aJ (nlt n)]; rfl)
 rw [show ((0:Nat):Int)=0 from rfl] at h
 unfold Qc3
 rw [h,aC,dC,dI]
 show some (apL _ 0 n)=_
 rw [Qq3 hn1 hn hS]
theorem Qtj:(X6 n S).length<=2304:=by
 rw [<-Qq3 hn1 hn hS]
 have:=Zl (L:=fun x=>apL (fun y=>if y < n then fZ n S x y else []) (x+1) (n - (x+1))) (k0:=0) (m:=384) (fun x=>Qmp hn1 hn hS) n
 omega
end
theorem neF (x y:Ac):(!((x.X==y.X) && ((x.Y==y.Y) && ((x.Z==y.Z) && true))))=!decide (x=y):=by
 obtain ⟨a,b,e⟩:=x; obtain ⟨c,d,f⟩:=y
 congr 1; rw [aQ]; simp
end
end Go.Ab
namespace Go.Ab
open Go
section
variable {n i j:Nat} {S:Nat -> Nat} (hn:n<=7) (h:Gd n S) (hi:i < n) (hj:j < n) (hij:i≠j) (he:(S j).testBit i=true) (hc:Qiy S i j)
include hn h hi hj hij he hc
theorem Qoz {x:Nat}:(turn S i j i).testBit x=((S i).testBit x || decide (j=x)):=by rw [Yi hn h hi hj hij he i x hi,aH rfl]
theorem Qo0 {x:Nat}:(turn S i j j).testBit x=(S i).testBit x:=by
 have hii:(S i).testBit i=false:=bN.2 fun e=>by obtain ⟨r,hr⟩:=Xp h; have:=hr i hi i e; omega
 rw [Yi hn h hi hj hij he j x hj,aJ (fun e=>hij e.symm),aH rfl,Qgv hc]
 by_cases e:i=x
 ·subst e; rw [hii]; simp
 simp [e]
theorem Qzx {v x:Nat} (hv:v < n) (h1:v≠i) (h2:v≠j):(turn S i j v).testBit x=(S v).testBit x:=by rw [Yi hn h hi hj hij he v x hv,aJ h1,aJ h2]
variable {z:Nat} (hz:∀k,z.testBit k=true->k < n)
include hz
theorem Q17 {v:Nat} (hv:(anZ n S z).testBit v=true):(v≠i->(anZ n (turn S i j) z).testBit v=true)/\(v=i->(anZ n (turn S i j) z).testBit i=true\/(anZ n (turn S i j) z).testBit j=true):=by
 have hT:=Qgn hn h hi hj hij he hc
 have clo:Clo n (turn S i j) (anZ n (turn S i j) z):=Qds hT.inn hz
 refine Qb2 h hz (fun v=>(v≠i->(anZ n (turn S i j) z).testBit v=true)/\(v=i->(anZ n (turn S i j) z).testBit i=true\/(anZ n (turn S i j) z).testBit j=true)) (fun k hk=>?_) (fun v p hv hP hp=>?_) hv
 ·have:(anZ n (turn S i j) z).testBit k=true:=Jf n k hk
  exact ⟨fun _=>this,fun e=>by subst e; exact .inl this⟩
 by_cases e1:v=j
 ·subst e1
  have hja:=hP.1 (fun e=>hij e.symm)
  refine ⟨fun hpi=>?_,fun _=>.inr hja⟩
  have:(turn S i v v).testBit p=true:=by
   rw [Qo0 hn h hi hj hij he hc]
   rw [Qgv hc] at hp
   have:¬ i=p:=fun e=>hpi e.symm
   simpa [this] using hp
  exact clo v hj hja p this
 by_cases e2:v=i
 ·subst e2
  have hpi:p≠v:=fun e=>by subst e; obtain ⟨r,hr⟩:=Xp h; have:=hr p hv p hp; omega
  refine ⟨fun _=>?_,fun e=>absurd e hpi⟩
  rcases hP.2 rfl with g | g
  ·exact clo v hi g p (by rw [Qoz hn h hi hj hij he hc,hp]; rfl)
  exact clo j hj g p (by rw [Qo0 hn h hi hj hij he hc]; exact hp)
 have hva:=hP.1 e2
 have:=clo v hv hva p (by rw [Qzx hn h hi hj hij he hc hv e2 e1]; exact hp)
 exact ⟨fun _=>this,fun e=>by subst e; exact .inl this⟩
variable {x:Nat} (hx:x < n)
def Smu (n i j:Nat) (S:Nat -> Nat) (z x:Nat) (v:Nat) (d:Bool):Prop :=
 (v≠i->v≠j->v < n->Rch (turn S i j) z (anZ n (turn S i j) z) x v d) /\
 (v=i->d=false->Rch (turn S i j) z (anZ n (turn S i j) z) x i false\/(Rch (turn S i j) z (anZ n (turn S i j) z) x i true/\(∀p,(S i).testBit p=true->Rch (turn S i j) z (anZ n (turn S i j) z) x p false)/\∃e,Rch (turn S i j) z (anZ n (turn S i j) z) x j e)) /\
 (v=i->d=true->Rch (turn S i j) z (anZ n (turn S i j) z) x i true/\Rch (turn S i j) z (anZ n (turn S i j) z) x j true) /\
 (v=j->d=false->Rch (turn S i j) z (anZ n (turn S i j) z) x j false) /\
 (v=j->d=true->(Rch (turn S i j) z (anZ n (turn S i j) z) x i true/\Rch (turn S i j) z (anZ n (turn S i j) z) x j true)\/((∀p,(S i).testBit p=true->Rch (turn S i j) z (anZ n (turn S i j) z) x p false)/\(∃e,Rch (turn S i j) z (anZ n (turn S i j) z) x j e)/\∃e,Rch (turn S i j) z (anZ n (turn S i j) z) x i e))
include hx
theorem Q12 {v:Nat} {d:Bool} (hr:Rch S z (anZ n S z) x v d):(v < n->Smu n i j S z x v d)/\(n<=v->d=true):=by
 have hT:=Qgn hn h hi hj hij he hc
 obtain ⟨r,hrk⟩:=Xp h
 have hii:∀p,(S i).testBit p=true->p≠i/\p≠j:=fun p hp=>by
  have h1:=hrk i hi p hp
  have h2:=hrk j hj i he
  exact ⟨fun e=>by subst e; omega,fun e=>by subst e; omega⟩
 have hji:j≠i:=fun e=>hij e.symm
 have pi:∀p,(S i).testBit p=true->(turn S i j i).testBit p=true:=fun p hp=>by rw [Qoz hn h hi hj hij he hc,hp]; rfl
 have pj:∀p,(S i).testBit p=true->(turn S i j j).testBit p=true:=fun p hp=>by rw [Qo0 hn h hi hj hij he hc]; exact hp
 have pji:(turn S i j i).testBit j=true:=by rw [Qoz hn h hi hj hij he hc]; simp
 have po:∀v p,v < n->v≠i->v≠j->(S v).testBit p=true->(turn S i j v).testBit p=true:=fun v p hv h1 h2 hp=>by rw [Qzx hn h hi hj hij he hc hv h1 h2]; exact hp
 have sj:∀p,(S j).testBit p=true->p=i\/(S i).testBit p=true:=fun p hp=>by
  rw [Qgv hc,aN] at hp
  rcases hp with hp | hp
  ·exact .inr hp
  exact .inl (aR hp).symm
 have up_i:z.testBit i=false->Rch (turn S i j) z (anZ n (turn S i j) z) x i false->∀p,(S i).testBit p=true->Rch (turn S i j) z (anZ n (turn S i j) z) x p false:=fun hzi k p hp=>.up k hzi (pi p hp)
 have mkSim:∀v d,v≠i->v≠j->Rch (turn S i j) z (anZ n (turn S i j) z) x v d->Smu n i j S z x v d:=fun v d h1 h2 k=>⟨fun _ _ _=>k,fun e=>absurd e h1,fun e=>absurd e h1,fun e=>absurd e h2,fun e=>absurd e h2⟩
 have simIf:(Rch (turn S i j) z (anZ n (turn S i j) z) x i false\/(Rch (turn S i j) z (anZ n (turn S i j) z) x i true/\(∀p,(S i).testBit p=true->Rch (turn S i j) z (anZ n (turn S i j) z) x p false)/\∃e,Rch (turn S i j) z (anZ n (turn S i j) z) x j e))->Smu n i j S z x i false:=fun k=>⟨fun e=>absurd rfl e,fun _ _=>k,fun _ e=>(by cases e),fun e=>absurd e hij,fun e=>absurd e hij⟩
 have simIt:(Rch (turn S i j) z (anZ n (turn S i j) z) x i true/\Rch (turn S i j) z (anZ n (turn S i j) z) x j true)->Smu n i j S z x i true:=fun k=>⟨fun e=>absurd rfl e,fun _ e=>(by cases e),fun _ _=>k,fun e=>absurd e hij,fun e=>absurd e hij⟩
 have simJf:Rch (turn S i j) z (anZ n (turn S i j) z) x j false->Smu n i j S z x j false:=fun k=>⟨fun _ e=>absurd rfl e,fun e=>absurd e hji,fun e=>absurd e hji,fun _ _=>k,fun _ e=>(by cases e)⟩
 have simJt:((Rch (turn S i j) z (anZ n (turn S i j) z) x i true/\Rch (turn S i j) z (anZ n (turn S i j) z) x j true)\/((∀p,(S i).testBit p=true->Rch (turn S i j) z (anZ n (turn S i j) z) x p false)/\(∃e,Rch (turn S i j) z (anZ n (turn S i j) z) x j e)/\∃e,Rch (turn S i j) z (anZ n (turn S i j) z) x i e))->Smu n i j S z x j true:=fun k=>⟨fun _ e=>absurd rfl e,fun e=>absurd e hji,fun e=>absurd e hji,fun _ e=>(by cases e),fun _ _=>k⟩
 have upto:∀p,Rch (turn S i j) z (anZ n (turn S i j) z) x p false->Smu n i j S z x p false:=fun p k=>by
  by_cases e1:p=i
  ·subst e1; exact simIf (.inl k)
  by_cases e2:p=j
  ·subst e2; exact simJf k
  exact mkSim p false e1 e2 k
 induction hr with
 | start=>exact ⟨fun _=>upto x .start,fun e=>by omega⟩
 | @up v p hr hv hp ih =>
  obtain ⟨ih,ihn⟩:=ih
  have hvn:v < n:=Nat.lt_of_not_le fun e=>by cases ihn e
  have hpn:=h.inn v hvn p hp
  refine ⟨fun _=>?_,fun e=>by omega⟩
  obtain ⟨a1,a2,a3,a4,a5⟩:=ih hvn
  by_cases e1:v=i
  ·subst e1
   obtain ⟨q1,q2⟩:=hii p hp
   rcases a2 rfl rfl with k | ⟨k1,k2,k3⟩
   ·exact upto p (.up k hv (pi p hp))
   exact upto p (k2 p hp)
  by_cases e2:v=j
  ·subst e2
   have k:=a4 rfl rfl
   rcases sj p hp with rfl | hp
   ·exact simIf (.inr ⟨.dn k hv pji,fun p hp=>.up k hv (pj p hp),_,k⟩)
   exact upto p (.up k hv (pj p hp))
  exact upto p (.up (a1 e1 e2 hvn) hv (po v p hvn e1 e2 hp))
 | @dn v c d hr hv hcv ih =>
  obtain ⟨ih,ihn⟩:=ih
  refine ⟨fun hcn=>?_,fun _=>rfl⟩
  have hvn:=h.inn c hcn v hcv
  obtain ⟨a1,a2,a3,a4,a5⟩:=ih hvn
  by_cases e1:v=i
  ·subst e1
   have ai:∃e,Rch (turn S v j) z (anZ n (turn S v j) z) x v e:=by
    cases d with
    | false=>rcases a2 rfl rfl with k | ⟨k,_⟩ <;> exact ⟨_,k⟩
    | true=>exact ⟨_,(a3 rfl rfl).1⟩
   by_cases ec:c=j
   ·subst ec
    refine simJt ?_
    cases d with
    | false =>
     rcases a2 rfl rfl with k | ⟨k1,k2,k3⟩
     ·exact .inr ⟨up_i hv k,⟨_,.up k hv pji⟩,_,k⟩
     exact .inr ⟨k2,k3,_,k1⟩
    | true=>exact .inl (a3 rfl rfl)
   have hci:c≠v:=fun e=>by subst e; have:=hrk c hcn c hcv; omega
   obtain ⟨e,k⟩:=ai
   exact mkSim c true hci ec (.dn k hv (po c v hcn hci ec hcv))
  by_cases e2:v=j
  ·subst e2
   have aj:∃e,Rch (turn S i v) z (anZ n (turn S i v) z) x v e:=by
    cases d with
    | false=>exact ⟨_,a4 rfl rfl⟩
    | true =>
     rcases a5 rfl rfl with ⟨_,k⟩ | ⟨_,k,_⟩
     ·exact ⟨_,k⟩
     exact k
   have hci:c≠i:=fun e=>by subst e; have:=hrk c hcn v hcv; have:=hrk v hj c he; omega
   have hcj:c≠v:=fun e=>by subst e; have:=hrk c hcn c hcv; omega
   obtain ⟨e,k⟩:=aj
   exact mkSim c true hci hcj (.dn k hv (po c v hcn hci hcj hcv))
  have k:=a1 e1 e2 hvn
  by_cases ec:c=i
  ·subst ec
   exact simIt ⟨.dn k hv (pi v hcv),.dn k hv (pj v hcv)⟩
  by_cases ec2:c=j
  ·subst ec2
   rcases sj v hcv with e | hcv
   ·exact absurd e e1
   exact simJt (.inl ⟨.dn k hv (pi v hcv),.dn k hv (pj v hcv)⟩)
  exact mkSim c true ec ec2 (.dn k hv (po c v hcn ec ec2 hcv))
 | @turn v p hr hv hp ih =>
  obtain ⟨ih,ihn⟩:=ih
  have hvn:v < n:=Qhg h.inn hz hv
  have hpn:=h.inn v hvn p hp
  refine ⟨fun _=>?_,fun e=>by omega⟩
  obtain ⟨a1,a2,a3,a4,a5⟩:=ih hvn
  obtain ⟨z1,z2⟩:=Q17 hn h hi hj hij he hc hz hv
  by_cases e1:v=i
  ·subst e1
   obtain ⟨k1,k2⟩:=a3 rfl rfl
   rcases z2 rfl with g | g
   ·exact upto p (.turn k1 g (pi p hp))
   exact upto p (.turn k2 g (pj p hp))
  by_cases e2:v=j
  rotate_left
  ·exact upto p (.turn (a1 e1 e2 hvn) (z1 e1) (po v p hvn e1 e2 hp))
  subst e2
  have g:=z1 hji
  rcases a5 rfl rfl with ⟨k1,k2⟩ | ⟨k1,k2,k3⟩
  ·have hup:∀p,(S i).testBit p=true->Rch (turn S i v) z (anZ n (turn S i v) z) x p false:=fun p hp=>.turn k2 g (pj p hp)
   rcases sj p hp with rfl | hp
   ·exact simIf (.inr ⟨k1,hup,_,k2⟩)
   exact upto p (hup p hp)
  rcases sj p hp with rfl | hp
  ·obtain ⟨e,k3⟩:=k3
   cases e with
   | false=>exact simIf (.inl k3)
   | true=>exact simIf (.inr ⟨k3,k1,k2⟩)
  exact upto p (k1 p hp)
theorem Qtl {y:Nat} (hy:y < n) (hr:∃d,Rch S z (anZ n S z) x y d):∃d,Rch (turn S i j) z (anZ n (turn S i j) z) x y d:=by
 obtain ⟨d,hr⟩:=hr
 obtain ⟨a1,a2,a3,a4,a5⟩:=(Q12 hn h hi hj hij he hc hz hx hr).1 hy
 by_cases e1:y=i
 ·subst e1
  cases d with
  | false=>rcases a2 rfl rfl with k | ⟨k,_⟩ <;> exact ⟨_,k⟩
  | true=>exact ⟨_,(a3 rfl rfl).1⟩
 by_cases e2:y=j
 ·subst e2
  cases d with
  | false=>exact ⟨_,a4 rfl rfl⟩
  | true =>
   rcases a5 rfl rfl with ⟨_,k⟩ | ⟨_,k,_⟩
   ·exact ⟨_,k⟩
   exact k
 exact ⟨_,a1 e1 e2 hy⟩
end
section
variable {n i j:Nat} {S:Nat -> Nat} (hn:n<=7) (h:Gd n S) (hi:i < n) (hj:j < n) (hij:i≠j) (he:(S j).testBit i=true) (hc:Qiy S i j)
theorem Qml {S T:Nat -> Nat} (h:∀v,v < n->S v=T v) {s:Nat}:∀k,ups n S k s=ups n T k s
 | 0=>rfl
 | k+1=>by
  show upR n S (ups n S k s)=upR n T (ups n T k s)
  rw [Qml h k]
  unfold upR
  have:∀(l:List Nat) (t:Nat),(∀v∈l,v < n)->l.foldl (upV S) t=l.foldl (upV T) t:=fun l=>by
   induction l with
   | nil=>intros; rfl
   | cons v l ih =>
    intro t hl
    simp only [List.foldl_cons]
    have e:upV S t v=upV T t v:=by unfold upV; rw [h v (hl v (by simp))]
    rw [e]
    exact ih _ fun u hu=>hl u (cR _ hu)
  exact this _ _ fun v hv=>cX.1 hv
theorem Qh4 {S T:Nat -> Nat} (h:∀v,v < n->S v=T v) {x y z:Nat}:apB n S x y z=apB n T x y z:=by
 have e1:anS n S x y z=anS n T x y z:=Qml h n
 have e2:∀a,jo n S (anS n S x y z) z a=jo n T (anS n T x y z) z a:=fun a=>by
  rw [e1]
  unfold jo
  refine Zs fun b _=>?_
  congr 1
  rw [aQ,bV,bV]
  constructor
  ·rintro ⟨k,hk,g⟩; exact ⟨k,hk,by rw [<-h k (cX.1 hk)]; exact g⟩
  rintro ⟨k,hk,g⟩; exact ⟨k,hk,by rw [h k (cX.1 hk)]; exact g⟩
 unfold apB seenS
 rw [Qml (fun v _=>e2 v) n]
theorem Qe0 (hS:Gd n S) {x y z:Nat} (hz:∀k,z.testBit k=true->k < n) (hx:x < n) (hy:y < n):apB n S x y z=true↔z.testBit x=false/\z.testBit y=false/\¬ ∃d,Rch S z (anZ n S z) x y d:=by
 unfold apB
 simp only [aE,bK]
 constructor
 ·rintro ⟨⟨h1,h2⟩,h3⟩
  refine ⟨h1,h2,fun hd=>?_⟩
  rw [(Qqp hS hz hx hy h1 h2).2 hd] at h3; cases h3
 rintro ⟨h1,h2,h3⟩
 refine ⟨⟨h1,h2⟩,?_⟩
 rw [bN]
 exact fun e=>h3 ((Qqp hS hz hx hy h1 h2).1 e)
include hn h hi hj hij he hc
theorem Q1b {v:Nat} (hv:v < n):turn (turn S i j) j i v=S v:=by
 have hT:=Qgn hn h hi hj hij he hc
 have hji:j≠i:=fun e=>hij e.symm
 have het:(turn S i j i).testBit j=true:=by rw [Yi hn h hi hj hij he i j hi,aH rfl]; simp
 apply eE
 intro x
 rw [Yi hn hT hj hi hji het v x hv]
 by_cases e1:v=j
 ·subst e1
  rw [aH rfl,Yi hn h hi hj hij he v x hv,aJ hji,aH rfl]
  by_cases e:i=x
  ·subst e; rw [he]; simp
  simp [e]
 rw [aJ e1]
 by_cases e2:v=i
 ·subst e2
  rw [aH rfl,Yi hn h hi hj hij he v x hv,aH rfl]
  by_cases e:j=x
  ·subst e
   have:(S v).testBit j=false:=bN.2 fun e=>by obtain ⟨r,hr⟩:=Xp h; have:=hr v hi j e; have:=hr j hj v he; omega
   rw [this]; simp
  simp [e]
 rw [aJ e2,Yi hn h hi hj hij he v x hv,aJ e2,aJ e1]
theorem Q1g:Qiy (turn S i j) j i:=by
 unfold Qiy
 apply eE
 intro x
 rw [bJ,Qo,Qoz hn h hi hj hij he hc,Qo0 hn h hi hj hij he hc]
theorem Q4x {x y z:Nat} (hz:∀k,z.testBit k=true->k < n) (hx:x < n) (hy:y < n):apB n (turn S i j) x y z=apB n S x y z:=by
 have hT:=Qgn hn h hi hj hij he hc
 have hji:j≠i:=fun e=>hij e.symm
 have het:(turn S i j i).testBit j=true:=by rw [Yi hn h hi hj hij he i j hi,aH rfl]; simp
 have hct:=Q1g hn h hi hj hij he hc
 have hTT:=Qgn hn hT hj hi hji het hct
 rw [aQ,Qe0 hT hz hx hy,Qe0 h hz hx hy]
 constructor
 ·rintro ⟨h1,h2,h3⟩
  exact ⟨h1,h2,fun hd=>h3 (Qtl hn h hi hj hij he hc hz hx hy hd)⟩
 rintro ⟨h1,h2,h3⟩
 refine ⟨h1,h2,fun hd=>?_⟩
 have k:=Qtl hn hT hj hi hji het hct hz hx hy hd
 have a:apB n (turn (turn S i j) j i) x y z=apB n S x y z:=Qh4 fun v hv=>Q1b hn h hi hj hij he hc hv
 have b:=(Qe0 h hz hx hy).2 ⟨h1,h2,h3⟩
 rw [<-a] at b
 exact ((Qe0 hTT hz hx hy).1 b).2.2 k
end
end Go.Ab
namespace Go.Ab
open Go
theorem Q37 {n k b:Nat} (hk:k < n) (hb:b < n):k*n+b < n*n:=by
 have h1:(k+1)*n<=n*n:=aU _ hk
 rw [eD] at h1
 omega
theorem Q4v {n k b:Nat} (hb:b < n):(k*n+b) / n=k/\(k*n+b) % n=b:=by
 have h0:0 < n:=by omega
 constructor
 ·rw [cO,Nat.add_mul_div_right _ _ h0,Nat.div_eq_of_lt hb,eC]
 rw [cO,Nat.add_mul_mod_self_right,Nat.mod_eq_of_lt hb]
theorem Qzv (P:Nat -> Prop) (m:Nat -> Nat) (h:∃v,P v):∃v,P v/\∀w,P w->m v<=m w:=by
 have key:∀c v,P v->m v=c->∃v,P v/\∀w,P w->m v<=m w:=by
  intro c
  induction c using Nat.strongRecOn with
  | _ c ih =>
   intro v hv hc
   by_cases hb:∃w,P w/\m w < c
   ·obtain ⟨w,hw,hlt⟩:=hb
    exact ih (m w) hlt w hw rfl
   exact ⟨v,hv,fun w hw=>Nat.le_of_not_lt fun hlt=>hb ⟨w,hw,by omega⟩⟩
 obtain ⟨v,hv⟩:=h
 exact key _ v hv rfl
section
variable {n:Nat} {S T:Nat -> Nat} (hn:n<=7) (hS:Gd n S) (hT:Gd n T)
def dfN (n:Nat) (S T:Nat -> Nat):Nat := cnt (n*n) fun k=>(S (k % n)).testBit (k / n) && (T (k / n)).testBit (k % n)
include hn hS hT
theorem Q0d (hnr:∀u w,u < n->w < n->near T u w=near S u w) (hcl:cls n T=cls n S) (hd:∃u v,u < n/\v < n/\(S v).testBit u=true/\(T u).testBit v=true):∃u v,u < n/\v < n/\(S v).testBit u=true/\(T u).testBit v=true/\Qiy S u v:=by
 obtain ⟨r,hr⟩:=Xp hS
 obtain ⟨t,ht⟩:=Xp hT
 obtain ⟨v,⟨hv,u0,hu0,h1,h2⟩,hmin⟩:=Qzv (fun v=>v < n/\∃u,u < n/\(S v).testBit u=true/\(T u).testBit v=true) r (by
  obtain ⟨u,v,a,b,c,d⟩:=hd
  exact ⟨v,b,u,a,c,d⟩)
 obtain ⟨u,⟨hu,h3,h4⟩,hmax⟩:=Qzv (fun u=>u < n/\(S v).testBit u=true/\(T u).testBit v=true) (fun u=>r v - r u) ⟨u0,hu0,h1,h2⟩
 have huv:=hr v hv u h3
 have htuv:=ht u hu v h4
 have huv':u≠v:=fun e=>by subst e; omega
 have col:∀a b c,a≠c->a < n->b < n->c < n->Xa T a b c=Xa S a b c:=fun a b c h ha hb hc=>Qnu hcl hT hS h ha hc hb
 refine ⟨u,v,hu,hv,h3,h4,?_⟩
 unfold Qiy
 apply eE
 intro w
 rw [bJ,Qo]
 by_cases hwu:u=w
 ·subst hwu; simp [h3]
 have hwu':w≠u:=fun e=>hwu e.symm
 simp only [hwu,decide_false,Bool.or_false]
 rw [aQ]
 constructor
 ·intro hw
  have hwn:=hS.inn v hv w hw
  have hwv:=hr v hv w hw
  have hne:w≠v:=fun e=>by subst e; omega
  cases hnear:near S w u with
  | false =>
   exfalso
   have hc:Xa S w v u=true:=by unfold Xa; rw [hw,h3,hnear]; rfl
   rw [<-col w v u hwu' hwn hv hu] at hc
   unfold Xa at hc
   simp only [aE] at hc
   have:=ht v hv u hc.1.2
   omega
  | true =>
   have hn2:=hnear
   unfold near at hn2
   rw [aN] at hn2
   rcases hn2 with e | e
   ·
    exfalso
    have hruw:=hr w hwn u e
    have hnT:near T w v=true:=by
     rw [hnr w v hwn hv]; unfold near; rw [hw]; simp
    unfold near at hnT
    rw [aN] at hnT
    rcases hnT with e2 | e2
    ·have:=hmax w ⟨hwn,hw,e2⟩
     omega
    ·have hnT2:near T w u=true:=by rw [hnr w u hwn hu]; exact hnear
     unfold near at hnT2
     rw [aN] at hnT2
     rcases hnT2 with e3 | e3
     ·have g1:=ht v hv w e2
      have g2:=ht w hwn u e3
      omega
     ·have:=hmin w ⟨hwn,u,hu,e,e3⟩
      omega
   ·exact e
 intro hw
 have hwn:=hS.inn u hu w hw
 have hrw:=hr u hu w hw
 have hTw:(T u).testBit w=true:=by
  have hnT:near T w u=true:=by rw [hnr w u hwn hu]; unfold near; rw [hw]; simp
  unfold near at hnT
  rw [aN] at hnT
  rcases hnT with e | e
  ·have:=hmin u ⟨hu,w,hwn,hw,e⟩
   omega
  exact e
 have hne:w≠v:=fun e=>by subst e; omega
 cases hnear:near S w v with
 | false =>
  exfalso
  have hc:Xa T w u v=true:=by
   unfold Xa
   rw [hTw,h4,hnr w v hwn hv,hnear]; rfl
  rw [col w u v hne hwn hu hv] at hc
  unfold Xa at hc
  simp only [aE] at hc
  have:=hr u hu v hc.1.2
  omega
 | true =>
  unfold near at hnear
  rw [aN] at hnear
  rcases hnear with e | e
  ·have:=hr w hwn v e
   omega
  exact e
omit hn in
theorem Qw4 (hnr:∀u w,u < n->w < n->near T u w=near S u w) (hd:¬ ∃u v,u < n/\v < n/\(S v).testBit u=true/\(T u).testBit v=true):∀v,v < n->S v=T v:=fun v hv=>by
 obtain ⟨t,ht⟩:=Xp hT
 obtain ⟨r,hr⟩:=Xp hS
 apply eE
 intro u
 rw [aQ]
 constructor
 ·intro h
  have hu:=hS.inn v hv u h
  have hn2:near T v u=true:=by rw [hnr v u hv hu]; unfold near; rw [h]; rfl
  unfold near at hn2
  rw [aN] at hn2
  rcases hn2 with e | e
  ·exact e
  exact absurd ⟨u,v,hu,hv,h,e⟩ hd
 intro h
 have hu:=hT.inn v hv u h
 have hn2:near S v u=true:=by rw [<-hnr v u hv hu]; unfold near; rw [h]; rfl
 unfold near at hn2
 rw [aN] at hn2
 rcases hn2 with e | e
 ·exact e
 exact absurd ⟨v,u,hv,hu,e,h⟩ hd
end
theorem Q3t {n:Nat} {S T:Nat -> Nat} (hn:n<=7) (hS:Gd n S) (hT:Gd n T) {i j:Nat} (hi:i < n) (hj:j < n) (he:(S j).testBit i=true) (he2:(T i).testBit j=true):dfN n (turn S i j) T < dfN n S T:=by
 have hij:i≠j:=fun e=>by subst e; obtain ⟨r,hr⟩:=Xp hS; have:=hr i hi i he; omega
 have hk:=Q37 hi hj
 obtain ⟨d1,d2⟩:=Q4v (k:=i) hj
 have e:=Qgq (n:=n*n) (v:=i*n+j) (p:=fun k=>(S (k % n)).testBit (k / n) && (T (k / n)).testBit (k % n)) hk (by rw [d1,d2,he,he2]; rfl)
 have hTj:(T j).testBit i=false:=bN.2 fun e=>by obtain ⟨t,ht⟩:=Xp hT; have:=ht j hj i e; have:=ht i hi j he2; omega
 have hle:dfN n (turn S i j) T<=cnt (n*n) (fun k=>((S (k % n)).testBit (k / n) && (T (k / n)).testBit (k % n)) && !decide (i*n+j=k)):=Qeu fun k hk hb=>by
  have hn0:0 < n:=by omega
  have hv:k % n < n:=cL _ hn0
  rw [aE] at hb
  obtain ⟨hb1,hb2⟩:=hb
  rw [Yi hn hS hi hj hij he (k % n) (k / n) hv] at hb1
  have hsp:(S (k % n)).testBit (k / n)=true/\¬ i*n+j=k:=by
   by_cases e1:k % n=i
   ·rw [aH e1,aN] at hb1
    rcases hb1 with hb1 | hb1
    ·rw [e1]
     refine ⟨hb1,fun e2=>?_⟩
     rw [<-e2,d2] at e1; exact hij e1.symm
    have e3:=aR hb1
    rw [<-e3,e1,hTj] at hb2; cases hb2
   rw [aJ e1] at hb1
   by_cases e2:k % n=j
   ·rw [aH e2,aE] at hb1
    rw [e2]
    refine ⟨hb1.1,fun e3=>?_⟩
    have:k / n=i:=by rw [<-e3]; exact d1
    rw [this] at hb1; simp at hb1
   rw [aJ e2] at hb1
   exact ⟨hb1,fun e3=>e2 (by rw [<-e3]; exact d2)⟩
  rw [hsp.1,hb2]
  simp [hsp.2]
 unfold dfN at *
 omega
theorem Q4d {n:Nat} (hn:n<=7) {T:Nat -> Nat} (hT:Gd n T):∀(k:Nat) (S:Nat -> Nat),dfN n S T<=k->Gd n S->(∀u w,u < n->w < n->near T u w=near S u w)->cls n T=cls n S ->
  ∀{x y z:Nat},(∀k,z.testBit k=true->k < n)->x < n->y < n->apB n S x y z=apB n T x y z:=by
 intro k
 induction k with
 | zero =>
  intro S hk hS hnr hcl x y z hz hx hy
  by_cases hd:∃u v,u < n/\v < n/\(S v).testBit u=true/\(T u).testBit v=true
  ·obtain ⟨u,v,hu,hv,h1,h2,h3⟩:=Q0d hn hS hT hnr hcl hd
   have:=Q3t hn hS hT hu hv h1 h2
   omega
  exact Qh4 (Qw4 hS hT hnr hd)
 | succ k ih =>
  intro S hk hS hnr hcl x y z hz hx hy
  by_cases hd:∃u v,u < n/\v < n/\(S v).testBit u=true/\(T u).testBit v=true
  ·obtain ⟨u,v,hu,hv,h1,h2,h3⟩:=Q0d hn hS hT hnr hcl hd
   have hlt:=Q3t hn hS hT hu hv h1 h2
   have huv:u≠v:=fun e=>by subst e; obtain ⟨r,hr⟩:=Xp hS; have:=hr u hu u h1; omega
   rw [<-Q4x hn hS hu hv huv h1 h3 hz hx hy]
   refine ih _ (by omega) (Qgn hn hS hu hv huv h1 h3) (fun a b ha hb=>?_) ?_ hz hx hy
   ·rw [Qrp hn hS hu hv huv h1 ha hb]; exact hnr a b ha hb
   rw [hcl]; exact Q2c hn hS hu hv huv h1 h3
  exact Qh4 (Qw4 hS hT hnr hd)
section
variable {n:Nat} {S:Nat -> Nat} (hS:Gd n S)
include hS
theorem Qi0 {x y z:Nat} (hz:∀k,z.testBit k=true->k < n) (hx:x < n) (hy:y < n) (h:near S x y=true):apB n S x y z=false:=by
 rw [bN]
 intro hb
 obtain ⟨h1,h2,h3⟩:=(Qe0 hS hz hx hy).1 hb
 refine h3 ?_
 unfold near at h
 rw [aN] at h
 rcases h with e | e
 ·exact ⟨_,.up .start h1 e⟩
 exact ⟨_,.dn .start h1 e⟩
theorem Qzz {x y:Nat} {r:Nat -> Nat} (hr:∀v,v < n->∀j,(S v).testBit j=true->r j < r v) (hx:x < n) (hy:y < n) (hxy:x≠y) (h:near S x y=false) (hle:r x<=r y):apB n S x y (S y)=true:=by
 unfold near at h
 rw [cV] at h
 have hz:=hS.inn y hy
 rw [Qe0 hS hz hx hy]
 refine ⟨h.2,bN.2 fun e=>by have:=hr y hy y e; omega,?_⟩
 have anzlt:∀v,(anZ n S (S y)).testBit v=true->r v < r y:=fun v hv=>Qb2 hS hz (fun v=>r v < r y) (fun j hj=>hr y hy j hj) (fun v p hv hP hp=>by have:=hr v hv p hp; omega) hv
 have key:∀v d,Rch S (S y) (anZ n S (S y)) x v d->v < n->(ups n S n (2^v)).testBit y=true->d=true/\v≠y:=by
  have py:∀{v},v < n->∀k,(2^v).testBit k=true->k < n:=fun hv k hk=>by rw [Qo] at hk; have:=aR hk; omega
  have stepd:∀{v},v < n->(ups n S n (2^v)).testBit y=true->r y<=r v:=fun {v} hv hb=>Qb2 hS (py hv) (fun k=>r k<=r v) (fun k hk=>by rw [Qo] at hk; have:=aR hk; subst this; exact bC _) (fun a p ha hP hp=>by have:=hr a ha p hp; omega) hb
  have down:∀{v c},v < n->c < n->(S c).testBit v=true->(ups n S n (2^v)).testBit y=true->(ups n S n (2^c)).testBit y=true:=fun {v c} hv hc hvc hb=>by
   have clo:Clo n S (ups n S n (2^c)):=Qds hS.inn (py hc)
   have hcc:(ups n S n (2^c)).testBit c=true:=Jf n c (by rw [Qo]; simp)
   exact Vp clo (fun k hk=>by rw [Qo] at hk; have:=aR hk; subst this; exact clo c hc hcc _ hvc) n y hb
  intro v d hr2
  induction hr2 with
  | start =>
   intro _ hb
   exfalso
   have:=stepd hx hb
   have hlt:r x=r y:=by omega
   have:y=x\/r y < r x:=Qb2 hS (py hx) (fun k=>k=x\/r k < r x) (fun k hk=>by rw [Qo] at hk; exact .inl (aR hk).symm) (fun a p ha hP hp=>by
    have h7:=hr a ha p hp
    rcases hP with rfl | hP
    ·exact .inr h7
    exact .inr (by omega)) hb
   rcases this with e | e
   ·exact hxy e.symm
   omega
  | @up v p _ hv hp ih =>
   intro hpn hb
   exfalso
   by_cases hvn:v < n
   ·have:=ih hvn (down hpn hvn hp hb)
    cases this.1
   ·
    rename_i hrv
    have:∀v d,Rch S (S y) (anZ n S (S y)) x v d->d=false->v < n:=fun v d h=>by
     induction h with
     | start=>exact fun _=>hx
     | @up v p _ _ hp ih=>exact fun _=>hS.inn v (ih rfl) p hp
     | dn=>exact fun e=>by cases e
     | @turn v p _ hv hp _=>exact fun _=>hS.inn v (Qhg hS.inn hz hv) p hp
    exact hvn (this v false hrv rfl)
  | @dn v c d _ hv hc ih =>
   intro hcn hb
   have hvn:=hS.inn c hcn v hc
   refine ⟨rfl,fun e=>?_⟩
   subst e
   rw [hc] at hv; cases hv
  | @turn v p _ hv hp ih =>
   intro hpn hb
   exfalso
   have hvn:=Qhg hS.inn hz hv
   have h1:=stepd hvn (down hpn hvn hp hb)
   have h2:=anzlt v hv
   omega
 rintro ⟨d,hd⟩
 exact (key y d hd hy (Jf n y (by rw [Qo]; simp))).2 rfl
theorem Qua {x y:Nat} (hx:x < n) (hy:y < n) (hxy:x≠y) (h:near S x y=false):∃z,z < 2^n/\(apB n S x y z=true\/apB n S y x z=true):=by
 obtain ⟨r,hr⟩:=Xp hS
 rcases Nat.le_total (r x) (r y) with hle | hle
 ·exact ⟨S y,Jc (hS.inn y hy),.inl (Qzz hS hr hx hy hxy h hle)⟩
 exact ⟨S x,Jc (hS.inn x hx),.inr (Qzz hS hr hy hx (fun e=>hxy e.symm) (by rw [near_symm]; exact h) hle)⟩
theorem Qkx {a b c z:Nat} (hz:∀k,z.testBit k=true->k < n) (ha:a < n) (hb:b < n) (hc:c < n) (h:apB n S a c z=true) (h1:near S a b=true) (h2:near S b c=true):z.testBit b=!((S b).testBit a && (S b).testBit c):=by
 obtain ⟨g1,g2,g3⟩:=(Qe0 hS hz ha hc).1 h
 unfold near at h1 h2
 rw [aN] at h1 h2
 cases hzb:z.testBit b with
 | true =>
  cases e1:(S b).testBit a with
  | false=>rfl
  | true =>
   cases e2:(S b).testBit c with
   | false=>rfl
   | true =>
    exfalso
    exact g3 ⟨_,.turn (.dn .start g1 e1) (Jf n b hzb) e2⟩
 | false =>
  cases e1:(S b).testBit a with
  | false =>
   exfalso
   have e3:(S a).testBit b=true:=by rw [e1] at h1; simpa using h1
   have k:Rch S z (anZ n S z) a b false:=.up .start g1 e3
   rcases h2 with e | e
   ·exact g3 ⟨_,.up k hzb e⟩
   exact g3 ⟨_,.dn k hzb e⟩
  | true =>
   cases e2:(S b).testBit c with
   | true=>rfl
   | false =>
    exfalso
    rw [e2] at h2
    have e4:(S c).testBit b=true:=by simpa using h2
    exact g3 ⟨_,.dn (.dn .start g1 e1) hzb e4⟩
end
theorem Qnq {n:Nat} {S:Nat -> Nat} (hS:Gd n S) {x y z:Nat} (hz:∀k,z.testBit k=true->k < n) (hx:x < n) (hy:y < n):apB n S x y z=apB n S y x z:=by
 have an:anS n S x y z=anS n S y x z:=by unfold anS; rw [Nat.or_comm (2^x)]
 have key:∀x y,x < n->y < n->anS n S x y z=anS n S y x z->apB n S x y z=true->apB n S y x z=true:=fun x y hx hy an h=>by
  unfold apB at h ⊢
  simp only [aE,bK] at h ⊢
  obtain ⟨⟨h1,h2⟩,h3⟩:=h
  refine ⟨⟨h2,h1⟩,?_⟩
  rw [bN] at h3 ⊢
  intro hs
  refine h3 ?_
  obtain ⟨T,hT⟩:=Qqe n fun a=>z.testBit a=false/\((seenS n S x y z).testBit a=true->(seenS n S x y z).testBit y=true)
  have hc:Clo n (jo n S (anS n S y x z) z) T:=fun a ha hb b hbb=>by
   obtain ⟨_,haz,hP⟩:=(hT a).1 hb
   have hbn:b < n:=by
    unfold jo at hbb; rw [Qv] at hbb
    simp only [aE,aO] at hbb; exact hbb.1
   obtain ⟨k1,k2,k,hk,k3,k4,k5⟩:=(Qtp hbn).1 hbb
   refine (hT b).2 ⟨hbn,k2,fun hsb=>hP ?_⟩
   have han:(anS n S x y z).testBit a=true:=by
    rw [an]
    rcases k4 with e | e
    ·exact Qjj hS hz hy hx h2 h1 k hk k3 a e
    rw [<-e]; exact k3
   exact Qhq hS hz hx hy h1 h2 hsb ha han haz (by rw [an]; exact k3) k5 k4
  have hs0:Zm (2^y) T:=fun j hj=>by
   rw [Qo] at hj
   have:=aR hj
   subst this
   exact (hT _).2 ⟨hy,h2,fun e=>e⟩
  have:=((hT x).1 (Vp hc hs0 n x hs)).2.2
  exact this (Jf n x (by rw [Qo]; simp))
 rw [aQ]
 exact ⟨key x y hx hy an,key y x hy hx an.symm⟩
theorem vp {n:Nat} {S T:Nat -> Nat} (hn:n<=7) (hS:Gd n S) (hT:Gd n T):(∀x y z,x < y->y < n->z < 2^n->apB n S x y z=apB n T x y z)↔(prs n (near S)=prs n (near T)/\cls n S=cls n T):=by
 constructor
 ·intro h
  have hall:∀x y z,x≠y->x < n->y < n->z < 2^n->apB n S x y z=apB n T x y z:=fun x y z hne hx hy hz=>by
   rcases eW hne with e | e
   ·exact h x y z e hy hz
   rw [Qnq hS (Jp.1 hz) hx hy,Qnq hT (Jp.1 hz) hx hy]; exact h y x z e hx hz
  have one:∀{S T:Nat -> Nat},Gd n S->Gd n T->(∀x y z,x≠y->x < n->y < n->z < 2^n->apB n S x y z=apB n T x y z)->∀u w,u < n->w < n->near S u w=true->near T u w=true:=fun {S T} hS hT hall u w hu hw hb=>by
   have hne:u≠w:=fun e=>by subst e; rw [Qfn hS hu] at hb; cases hb
   cases hb2:near T u w with
   | true=>rfl
   | false =>
    obtain ⟨z,hz,e | e⟩:=Qua hT hu hw hne hb2
    ·rw [<-hall u w z hne hu hw hz,Qi0 hS (Jp.1 hz) hu hw hb] at e; cases e
    rw [<-hall w u z (fun e=>hne e.symm) hw hu hz,Qi0 hS (Jp.1 hz) hw hu (by rw [near_symm]; exact hb)] at e; cases e
  have hnear:∀u w,u < n->w < n->near S u w=near T u w:=fun u w hu hw=>by
   rw [aQ]
   exact ⟨one hS hT hall u w hu hw,one hT hS (fun x y z a b c d=>(hall x y z a b c d).symm) u w hu hw⟩
  refine ⟨(Qn6 hS hT).2 hnear,Qez.2 fun a b c h1 h2 h3=>?_⟩
  have ha:a < n:=by omega
  have hne:a≠c:=by omega
  have two:∀{S T:Nat -> Nat},Gd n S->Gd n T->(∀x y z,x≠y->x < n->y < n->z < 2^n->apB n S x y z=apB n T x y z)->(∀u w,u < n->w < n->near S u w=near T u w)->Xa S a b c=true->Xa T a b c=true:=fun {S T} hS hT hall hnear hb=>by
   unfold Xa at hb ⊢
   simp only [aE,bK] at hb
   obtain ⟨⟨g1,g2⟩,g3⟩:=hb
   have n1:near S a b=true:=by unfold near; rw [g1]; simp
   have n2:near S b c=true:=by unfold near; rw [g2]; rfl
   obtain ⟨z,hz,e⟩:∃z,z < 2^n/\apB n S a c z=true:=by
    obtain ⟨z,hz,e | e⟩:=Qua hS ha h2 hne g3
    ·exact ⟨z,hz,e⟩
    exact ⟨z,hz,by rw [Qnq hS (Jp.1 hz) ha h2]; exact e⟩
   have k1:=Qkx hS (Jp.1 hz) ha h3 h2 e n1 n2
   rw [g1,g2] at k1
   rw [hall a c z hne ha h2 hz] at e
   have k2:=Qkx hT (Jp.1 hz) ha h3 h2 e (by rw [<-hnear a b ha h3]; exact n1) (by rw [<-hnear b c h3 h2]; exact n2)
   rw [k1] at k2
   rw [<-hnear a c ha h2,g3]
   have:((T b).testBit a && (T b).testBit c)=true:=by
    cases hx:((T b).testBit a && (T b).testBit c) with
    | true=>rfl
    | false=>rw [hx] at k2; cases k2
   rw [this]; rfl
  rw [aQ]
  exact ⟨two hS hT hall hnear,two hT hS (fun x y z a b c d=>(hall x y z a b c d).symm) fun u w hu hw=>(hnear u w hu hw).symm⟩
 rintro ⟨h1,h2⟩ x y z hxy hy hz
 exact Q4d hn hT _ S (bC _) hS (fun u w hu hw=>((Qn6 hS hT).1 h1 u w hu hw).symm) h2.symm (Jp.1 hz) (by omega) hy
end Go.Ab
namespace Go.Ab
open Go
def Qga (x p:Int):Int:=zv (zb x &&& ~~~ zb (zv (1*2^min (Int.toNat p) zk))).toNat
def Qin (a b:Int × Int):Bool:=(a.1==b.1) && ((a.2==b.2) && true)
theorem Qjh (a b:Int × Int):Qin a b=decide (a=b):=by
 obtain ⟨a1,a2⟩:=a; obtain ⟨b1,b2⟩:=b
 rw [aQ]; simp [Qin]
theorem Q0y {m:List ((Int × Int) × Int)} {k k':Int × Int} {v:Int}:Q6 Qin (kput Qin m k v) k'=if k'=k then some v else Q6 Qin m k':=by
 induction m with
 | nil=>simp only [kput,Q6,Qjh,aO]
 | cons p r ih =>
  simp only [kput]
  by_cases h:k=p.1
  ·rw [aH (by rw [Qjh]; exact dB h)]
   simp only [Q6,Qjh,aO]
   by_cases h2:k'=k
   ·rw [aH h2,aH h2]
   rw [aJ h2,aJ h2,aJ (by rw [<-h]; exact h2)]
  rw [aJ (by rw [Qjh]; simpa using h)]
  simp only [Q6,Qjh,aO]
  by_cases h2:k'=p.1
  ·rw [aH h2,aJ (by rw [h2]; exact fun e=>h e.symm),aH h2]
  rw [aJ h2,ih,aJ h2]
theorem Qre {f:Nat -> Bool} {p:Nat} (hp:p < 6):Qga ((msk 6 f:Nat):Int) (p:Int)=((msk 6 (fun i=>f i && !decide (p=i)):Nat):Int):=Q8j (by omega) (by omega)
theorem Q0r {n v:Nat} {X:Nat -> Int} (hn:n<=6) (hv:v < n):Jm (n:Int) ((v:Int),Qj X)=some (.next (zw ((v:Int)+1),Qj (sx X v (Qga (zv ((zv (1*2^min (Int.toNat (n:Int)) zk)) - 1)) (v:Int))))):=by
 have hnv:=Ql v
 have hnn:=Ql n
 have hlt:=dlt hv
 have hv':v=0\/v=1\/v=2\/v=3\/v=4\/v=5:=by omega
 unfold Jm
 dsimp only
 rw [aH hlt]
 simp only [aH hnv,aH hnn]
 clear hlt hnv hv
 rcases hv' with rfl | rfl | rfl | rfl | rfl | rfl <;> rfl
theorem Qzt {l:List Ac} {k x y:Nat} {z:Int} {X:Nat -> Int} {m:List ((Int × Int) × Int)} (hk:k < l.length) (hl:l[k]=⟨(x:Int),(y:Int),z⟩) (hx:x < 6) (hy:y < 6) :
  Va l ((k:Int),X 0,X 1,X 2,X 3,X 4,X 5,m)=some (.next (zw ((k:Int)+1),(fun W:Nat -> Int=>(W 0,W 1,W 2,W 3,W 4,W 5,kput Qin m ((x:Int),(y:Int)) z)) (sx (sx X x (Qga (X x) y)) y (Qga (sx X x (Qga (X x) y) y) x)))):=by
 have hnx:=Ql x
 have hny:=Ql y
 have hx':x=0\/x=1\/x=2\/x=3\/x=4\/x=5:=by omega
 have hy':y=0\/y=1\/y=2\/y=3\/y=4\/y=5:=by omega
 unfold Va
 dsimp only
 rw [aH (dlt hk),Qs hk,aC,hl]
 dsimp only
 simp only [aH hnx,aH hny]
 clear hl hnx hny hx hy
 rcases hx' with rfl | rfl | rfl | rfl | rfl | rfl <;> rcases hy' with rfl | rfl | rfl | rfl | rfl | rfl <;> rfl
section
variable {n:Nat}
def FOk (n:Nat) (l:List Ac):Prop:=∀f∈l,∃x y z:Nat,x < y/\y < n/\z < 2^n/\z.testBit x=false/\z.testBit y=false/\f=fct x y z
def Qf3 (l:List Ac) (u w:Nat):Bool:=l.any fun f=>(f.X==(u:Int) && f.Y==(w:Int)) || (f.X==(w:Int) && f.Y==(u:Int))
def nT (n:Nat) (l:List Ac) (u w:Nat):Bool:=decide (u < n) && decide (w < n) && !decide (u=w) && !Qf3 l u w
def Jq:List Ac->Int->Int->Option Int
 | [],_,_=>none
 | f::l,x,y=>match Jq l x y with | some z=>some z | none=>if f.X=x/\f.Y=y then some f.Z else none
theorem Q01 {l:List Ac} {f:Ac} {x y:Int}:Jq (l++[f]) x y=if f.X=x/\f.Y=y then some f.Z else Jq l x y:=by
 induction l with
 | nil=>simp [Jq]
 | cons g l ih =>
  simp only [dS,Jq,ih]
  by_cases h:f.X=x/\f.Y=y
  ·simp [h]
  simp [h]
theorem Qpx {l:List Ac} {x y z:Int} (h:Jq l x y=some z):⟨x,y,z⟩∈l:=by
 induction l with
 | nil=>cases h
 | cons g l ih =>
  simp only [Jq] at h
  cases hz:Jq l x y with
  | some z' =>
   rw [hz] at h
   cases h
   exact cR _ (ih hz)
  | none =>
   rw [hz] at h
   dsimp only at h
   split at h
   ·rename_i hg
    cases h
    rw [<-hg.1,<-hg.2]
    simp
   cases h
theorem Qyt {l:List Ac} {x y:Int} (h:Jq l x y=none):∀f∈l,¬ (f.X=x/\f.Y=y):=by
 induction l with
 | nil=>intro f hf; cases hf
 | cons g l ih =>
  simp only [Jq] at h
  cases hz:Jq l x y with
  | some z'=>rw [hz] at h; cases h
  | none =>
   rw [hz] at h
   intro f hf
   rcases cI.1 hf with rfl | hf
   ·intro hg; rw [aH hg] at h; cases h
   exact ih hz f hf
variable (hn:n<=6)
include hn
theorem Q0w:Qa fuel (Jm (n:Int)) (0,0,0,0,0,0,0)=some (Qj (mI fun u w=>decide (u < n) && decide (w < n) && !decide (u=w))):=by
 have hval:∀v,v < n->Qga (zv ((zv (1*2^min (Int.toNat (n:Int)) zk)) - 1)) (v:Int)=((msk 6 (fun w=>decide (w < n) && !decide (v=w)):Nat):Int):=fun v hv=>by
  rw [Q32 (by omega)]
  have:(msk n fun _=>true)=msk 6 fun w=>decide (w < n):=Qdw (bR (msk_lt n _) (aW (by omega) hn)) fun i hi=>by rw [Qv]; simp
  rw [this]
  exact Qre (by omega)
 have h:=Zt (n:=n) (k0:=0) (by omega) (by omega) (fun i (x:Int × Int × Int × Int × Int × Int)=>(i,x)) (body:=Jm (n:Int)) (fun k=>Qj (mI fun u w=>decide (u < k) && decide (w < n) && !decide (u=w))) (Qj (mI fun u w=>decide (u < n) && decide (w < n) && !decide (u=w)))
  (fun v _ hv=>by
   rw [Q0r hn hv,hval v hv]
   refine congrArg (fun F=>some (Qd.next (zw ((v:Int)+1),Qj F))) ?_
   funext i
   unfold sx mI
   by_cases e:i=v
   ·subst e
    rw [aH rfl]
    congr 2
    funext w
    simp
   rw [aJ e]
   congr 2
   funext w
   have:decide (i < v+1)=decide (i < v):=by rw [aQ]; simp; omega
   simp only [this])
  (by
   unfold Jm
   dsimp only
   rw [aJ (nlt n)])
 have e0:Qj (mI fun u w=>decide (u < 0) && decide (w < n) && !decide (u=w))=(0,0,0,0,0,0):=by
  have:mI (fun u w=>decide (u < 0) && decide (w < n) && !decide (u=w))=fun _=>0:=by
   funext i
   unfold mI
   rw [Zs (q:=fun _=>false) fun w _=>by simp]
   rfl
  rw [this]; rfl
 rw [show ((0:Nat):Int)=0 from rfl,e0] at h
 exact h
theorem Q09 {l:List Ac} (hl:FOk n l) (hlen:l.length < 1000000):∃m,Qa fuel (Va l) ((fun W:Nat -> Int=>(0,W 0,W 1,W 2,W 3,W 4,W 5,([]:List ((Int × Int) × Int)))) (mI fun u w=>decide (u < n) && decide (w < n) && !decide (u=w)))=some ((fun W:Nat -> Int=>(W 0,W 1,W 2,W 3,W 4,W 5,m)) (mI (nT n l)))/\∀x y,Q6 Qin m (x,y)=Jq l x y:=by
 have h:=Zq (n:=l.length) (k0:=0) (by omega) (by omega) (fun i (x:(Nat -> Int) × List ((Int × Int) × Int))=>(i,x.1 0,x.1 1,x.1 2,x.1 3,x.1 4,x.1 5,x.2)) (body:=Va l)
  (fun k t=>t.1=mI (nT n (l.take k))/\∀x y,Q6 Qin t.2 (x,y)=Jq (l.take k) x y) (fun r=>∃m,r=(fun W:Nat -> Int=>(W 0,W 1,W 2,W 3,W 4,W 5,m)) (mI (nT n l))/\∀x y,Q6 Qin m (x,y)=Jq l x y)
  (fun k t _ hk hI=>by
   left
   obtain ⟨X,m⟩:=t
   obtain ⟨hI1,hI2⟩:=hI
   dsimp only at hI1 hI2
   subst hI1
   obtain ⟨x,y,z,h1,h2,h3,_,_,h4⟩:=hl _ (bO hk)
   have htk:l.take (k+1)=l.take k++[l[k]]:=bL hk
   refine ⟨(mI (nT n (l.take (k+1))),kput Qin m ((x:Int),(y:Int)) (z:Int)),?_,rfl,fun a b=>?_⟩
   ·dsimp only
    rw [Qzt (x:=x) (y:=y) (z:=(z:Int)) hk h4 (by omega) (by omega)]
    have e:sx (sx (mI (nT n (l.take k))) x (Qga (mI (nT n (l.take k)) x) y)) y (Qga (sx (mI (nT n (l.take k))) x (Qga (mI (nT n (l.take k)) x) y) y) x)=mI (nT n (l.take (k+1))):=by
     have hxy:¬ y=x:=by omega
     have hp:∀u w,Qf3 (l.take (k+1)) u w=(Qf3 (l.take k) u w || ((decide (x=u) && decide (y=w)) || (decide (x=w) && decide (y=u)))):=fun u w=>by
      unfold Qf3
      rw [htk,List.any_append,h4]
      simp only [List.any_cons,List.any_nil,Bool.or_false,fct]
      congr 1
      rw [aQ]
      simp only [aN,aE,dL,aO,dE]
     funext i
     unfold sx
     by_cases e1:i=y
     ·subst e1
      rw [aH rfl,aJ hxy]
      unfold mI
      rw [Qre (by omega)]
      congr 2
      funext w
      unfold nT
      rw [hp]
      have:¬ x=i:=fun e=>hxy e.symm
      simp [this]
      cases decide (i < n) <;> cases decide (w < n) <;> cases decide (i=w) <;> cases Qf3 (l.take k) i w <;> cases decide (x=w) <;> simp
     rw [aJ e1]
     by_cases e2:i=x
     ·subst e2
      rw [aH rfl]
      unfold mI
      rw [Qre (by omega)]
      congr 2
      funext w
      unfold nT
      rw [hp]
      have:¬ y=i:=hxy
      simp [this]
      cases decide (i < n) <;> cases decide (w < n) <;> cases decide (i=w) <;> cases Qf3 (l.take k) i w <;> cases decide (y=w) <;> simp
     rw [aJ e2]
     unfold mI
     congr 2
     funext w
     unfold nT
     rw [hp]
     have h5:¬ x=i:=fun e=>e2 e.symm
     have h6:¬ y=i:=fun e=>e1 e.symm
     simp [h5,h6]
    rw [e]
   dsimp only
   have hX:l[k].X=(x:Int):=by rw [h4]; rfl
   have hY:l[k].Y=(y:Int):=by rw [h4]; rfl
   have hZ:l[k].Z=(z:Int):=by rw [h4]; rfl
   rw [Q0y,hI2,htk,Q01,hX,hY,hZ]
   by_cases e:a=(x:Int)/\b=(y:Int)
   ·rw [aH (by rw [e.1,e.2]),aH ⟨e.1.symm,e.2.symm⟩]
   rw [aJ (fun h=>e (by simpa using h)),aJ (fun h=>e ⟨h.1.symm,h.2.symm⟩)])
  (fun t hI=>by
   obtain ⟨X,m⟩:=t
   obtain ⟨hI1,hI2⟩:=hI
   dsimp only at hI1 hI2
   subst hI1
   refine ⟨_,?_,m,rfl,fun x y=>by rw [hI2,cT]⟩
   unfold Va
   dsimp only
   rw [aJ (nlt _),cT]) (mI fun u w=>decide (u < n) && decide (w < n) && !decide (u=w),[]) ⟨by
    refine congrArg mI ?_
    funext u w
    simp [nT,Qf3],fun x y=>by simp [Q6,Jq]⟩
 obtain ⟨r,h1,m,rfl,h2⟩:=h
 exact ⟨m,h1,h2⟩
def tcB (n:Nat) (l:List Ac) (a b c:Nat):Bool:=(Jq l (a:Int) (c:Int)).isSome && nT n l a b && nT n l b c && !((Jq l (a:Int) (c:Int)).getD 0).toNat.testBit b
def tcL (n:Nat) (l:List Ac):List (Int × Int × Int):=apL (fun a=>apL (fun b=>apL (fun c=>if tcB n l a b c=true then [((a:Int),(b:Int),(c:Int))] else []) (a+1) (n - (a+1))) 0 n) 0 n
theorem Q2s {l:List Ac} (hl:FOk n l) (hlen:l.length < 1000000):Qek (n:Int) l=some (⟨(n:Int),Qj (mI (nT n l))⟩,tcL n l):=by
 obtain ⟨m,h1,h2⟩:=Q09 hn hl hlen
 unfold Qek
 rw [Q0w hn,aC]
 show (Qa fuel (Va l) ((fun W:Nat -> Int=>(0,W 0,W 1,W 2,W 3,W 4,W 5,([]:List ((Int × Int) × Int)))) (mI fun u w=>decide (u < n) && decide (w < n) && !decide (u=w)))).bind _=_
 rw [h1,aC]
 dsimp only
 generalize hK:((mI (nT n l) 0,mI (nT n l) 1,mI (nT n l) 2,mI (nT n l) 3,mI (nT n l) 4,mI (nT n l) 5,m):Int × Int × Int × Int × Int × Int × List ((Int × Int) × Int))=K
 have hj:∀a c,a < n->c < n->Qi ⟨(n:Int),(K.1,K.2.1,K.2.2.1,K.2.2.2.1,K.2.2.2.2.1,K.2.2.2.2.2.1)⟩ (a:Int) (c:Int)=some (nT n l a c):=fun a c ha hc=>by
  rw [<-hK]
  have:=Qd2 (m:=(n:Int)) (N:=nT n l) (a:=a) (c:=c) (by omega) (by omega)
  rw [Qv] at this
  have h6:c < 6:=by omega
  simp only [h6,decide_true,eK] at this
  exact this
 have hk2:K.2.2.2.2.2.2=m:=by rw [<-hK]
 have hget:∀a c:Nat,Q6 zq K.2.2.2.2.2.2 ((a:Int),(c:Int))=Jq l (a:Int) (c:Int):=fun a c=>by rw [hk2]; exact h2 _ _
 have clen:∀a b,(apL (fun c=>if tcB n l a b c=true then [((a:Int),(b:Int),(c:Int))] else []) (a+1) (n - (a+1))).length<=n:=fun a b=>by
  have:=Zl (L:=fun c=>if tcB n l a b c=true then [((a:Int),(b:Int),(c:Int))] else []) (k0:=a+1) (m:=1) (fun _=>Y0) (n - (a+1))
  omega
 have inner:∀a b (o:List (Int × Int × Int)) (s1 s2:Int × List (Int × Int × Int)),a < n->b < n->s1.1=(a:Int)->s2.1=(b:Int)->o.length<=1000->Qa fuel (Ky (n:Int) K s1 s2) (((a+1:Nat):Int),o)=some (o++apL (fun c=>if tcB n l a b c=true then [((a:Int),(b:Int),(c:Int))] else []) (a+1) (n - (a+1))):=fun a b o s1 s2 ha hb e1 e2 ho =>
  Z1 (m:=1) (c:=1000) (by omega) (by omega) (fun k (x:List (Int × Int × Int))=>(k,x)) (body:=Ky (n:Int) K s1 s2) _ id (fun _=>Y0) ho
   (fun c x h3 h4 hx=>by
    unfold Ky
    dsimp only
    rw [aH (dlt h4),e1,e2,hget a c,hj a b ha hb,aC,hj b c hb h4,aC]
    unfold tcB
    cases hz:Jq l (a:Int) (c:Int) with
    | none=>simp
    | some z =>
     obtain ⟨x',y',z',_,_,q3,_,_,q4⟩:=hl _ (Qpx hz)
     have hzz:z=(z':Int):=by have:=congrArg Ac.Z q4; exact this
     have z64:z' < 18446744073709551616:=by
      have:(2:Nat)^n<=64:=aW (n:=2) (by omega) hn
      omega
     subst hzz
     rw [aH (show (some (z':Int)).isSome=true from rfl)]
     cases nT n l a b with
     | false=>simp
     | true =>
      rw [aH rfl]
      cases nT n l b c with
      | false=>simp
      | true =>
       rw [aH rfl,aH (Ql b),cY,Qas z64 (by omega),aS]
       cases z'.testBit b with
       | true=>simp
       | false =>
        rw [aH (by rfl),aH (by rw [aP,eJ]; omega)]
        simp)
   (fun x=>by unfold Ky; dsimp only; rw [aJ (nlt n)]; rfl)
 have mid:∀a (o:List (Int × Int × Int)) (s1:Int × List (Int × Int × Int)),a < n->s1.1=(a:Int)->o.length<=500->Qa fuel (Kv (n:Int) K s1) (((0:Nat):Int),o)=some (o++apL (fun b=>if b < n then apL (fun c=>if tcB n l a b c=true then [((a:Int),(b:Int),(c:Int))] else []) (a+1) (n - (a+1)) else []) 0 n):=fun a o s1 ha e1 ho=>by
  have:=Z1 (n:=n) (k0:=0) (m:=6) (c:=500) (by omega) (by omega) (fun k (x:List (Int × Int × Int))=>(k,x)) (body:=Kv (n:Int) K s1) (fun b=>if b < n then apL (fun c=>if tcB n l a b c=true then [((a:Int),(b:Int),(c:Int))] else []) (a+1) (n - (a+1)) else []) id (fun b=>by
    split
    ·have:=clen a b; omega
    ·simp) ho
   (fun b x _ h4 hx=>by
    unfold Kv
    dsimp only
    rw [aH (dlt h4),e1,Qdn (by omega),inner a b x _ _ ha h4 e1 rfl (by omega),aC,aH h4])
   (fun x=>by unfold Kv; dsimp only; rw [aJ (nlt n)]; rfl)
  exact this
 have midl:∀a,(apL (fun b=>if b < n then apL (fun c=>if tcB n l a b c=true then [((a:Int),(b:Int),(c:Int))] else []) (a+1) (n - (a+1)) else []) 0 n).length<=36:=fun a=>by
  have:=Zl (L:=fun b=>if b < n then apL (fun c=>if tcB n l a b c=true then [((a:Int),(b:Int),(c:Int))] else []) (a+1) (n - (a+1)) else []) (k0:=0) (m:=6) (fun b=>by
   split
   ·have:=clen a b; omega
   simp) n
  omega
 have outer:=Z1 (n:=n) (k0:=0) (m:=36) (c:=0) (by omega) (by omega) (fun k (x:List (Int × Int × Int))=>(k,x)) (body:=Qbg (n:Int) K)
  (fun a=>apL (fun b=>if b < n then apL (fun c=>if tcB n l a b c=true then [((a:Int),(b:Int),(c:Int))] else []) (a+1) (n - (a+1)) else []) 0 n) id midl (out:=[]) (by simp)
  (fun a o _ ha ho=>by
   unfold Qbg
   dsimp only
   have:=mid a o ((a:Int),o) ha rfl (by omega)
   rw [show ((0:Nat):Int)=0 from rfl] at this
   rw [aH (dlt ha),this,aC])
  (fun o=>by unfold Qbg; dsimp only; rw [aJ (nlt n)]; rfl)
 rw [show ((0:Nat):Int)=0 from rfl] at outer
 rw [outer,aC,dC,dI]
 have e3:id (apL (fun a=>apL (fun b=>if b < n then apL (fun c=>if tcB n l a b c=true then [((a:Int),(b:Int),(c:Int))] else []) (a+1) (n - (a+1)) else []) 0 n) 0 n)=tcL n l:=Q5 n fun a _ ha=>Q5 n fun b _ hb=>by rw [aH (by omega)]
 rw [e3]
 rfl
theorem Q0m {N:Nat -> Nat -> Bool}:Z0 ⟨(n:Int),Qj (mI N)⟩=some (prs n N):=by
 have inner:∀i o,i < n->o.length<=100->Qa fuel (Xw ⟨(n:Int),Qj (mI N)⟩ ((i:Int),o)) (((i+1:Nat):Int),o)=some (o++apL (fun j=>if N i j=true then [((i:Int),(j:Int))] else []) (i+1) (n - (i+1))):=fun i o hi ho =>
  Z1 (m:=1) (c:=100) (by omega) (by omega) (fun k (x:List (Int × Int))=>(k,x)) (body:=Xw ⟨(n:Int),Qj (mI N)⟩ ((i:Int),o)) _ id (fun _=>Y0) ho
   (fun k x h1 h2 hx=>by
    unfold Xw
    dsimp only
    rw [aH (dlt h2)]
    have:=Qd2 (m:=(n:Int)) (N:=N) (a:=i) (c:=k) (by omega) (by omega)
    unfold Qj at this ⊢
    dsimp only
    rw [this,aC,Qv]
    have hk6:k < 6:=by omega
    simp only [hk6,decide_true,eK]
    by_cases hb:N i k=true
    ·rw [aH hb,aH hb,aH (by rw [aP]; simp; omega)]
    rw [aJ hb,aJ hb,dD])
   (fun x=>by unfold Xw; dsimp only; rw [aJ (nlt n)]; rfl)
 have outer:=Z1 (n:=n) (k0:=0) (m:=6) (c:=0) (by omega) (by omega) (fun k (x:List (Int × Int))=>(k,x)) (body:=Y2 ⟨(n:Int),Qj (mI N)⟩)
  (fun i=>if i < n then apL (fun j=>if N i j=true then [((i:Int),(j:Int))] else []) (i+1) (n - (i+1)) else []) id (fun i=>by
   split
   ·have:=Zl (L:=fun j=>if N i j=true then [((i:Int),(j:Int))] else []) (k0:=i+1) (m:=1) (fun _=>Y0) (n - (i+1)); omega
   simp) (out:=[]) (by simp)
  (fun k o _ hk ho=>by
   unfold Y2
   dsimp only
   rw [aH (dlt hk),Qdn (by omega),inner k o hk (by omega),aC,aH hk])
  (fun o=>by unfold Y2; dsimp only; rw [aJ (nlt n)]; rfl)
 unfold Z0
 rw [show ((0:Nat):Int)=0 from rfl] at outer
 rw [outer,aC,dC,dI]
 show some (apL _ 0 n)=_
 rw [Q5 n (L':=fun i=>apL (fun j=>if N i j=true then [((i:Int),(j:Int))] else []) (i+1) (n - (i+1))) fun i _ h=>by rw [aH (by omega)]]
 rfl
end
end Go.Ab
namespace Go.Ab
open Go
def Vi (n:Nat) (N:Nat -> Nat -> Bool):List (Nat × Nat):=apL (fun i=>apL (fun j=>if N i j=true then [(i,j)] else []) (i+1) (n - (i+1))) 0 n
def pI (p:Nat × Nat):Int × Int:=((p.1:Int),(p.2:Int))
theorem Qqr {α β:Type} (f:α->β) {L:Nat -> List α} {k0:Nat}:∀j,(apL L k0 j).map f=apL (fun i=>(L i).map f) k0 j
 | 0=>rfl
 | j+1=>by simp only [apL,dF,Qqr f j]
theorem Qng {n:Nat} {N:Nat -> Nat -> Bool}:prs n N=(Vi n N).map pI:=by
 unfold prs Vi
 rw [Qqr]
 refine Q5 n fun i _ _=>?_
 rw [Qqr]
 refine Q5 _ fun j _ _=>?_
 split <;> rfl
theorem Yn {n:Nat} {N:Nat -> Nat -> Bool} {p:Nat × Nat}:p∈Vi n N↔p.1 < p.2/\p.2 < n/\N p.1 p.2=true:=by
 unfold Vi
 rw [Z3]
 constructor
 ·rintro ⟨i,_,h2,h3⟩
  obtain ⟨j,h4,h5,h6⟩:=(Z3 _).1 h3
  split at h6
  ·rename_i hN
   rw [bZ.1 h6]
   exact ⟨by omega,by omega,hN⟩
  cases h6
 rintro ⟨h1,h2,h3⟩
 refine ⟨p.1,by omega,by omega,(Z3 _).2 ⟨p.2,by omega,by omega,?_⟩⟩
 rw [aH h3]; simp
theorem Qh5 {α:Type} {L:Nat -> List α} {k0:Nat} (h:∀i,(L i).Nodup) (hd:∀i i',i≠i'->∀x,x∈L i->x ∉ L i'):∀j,(apL L k0 j).Nodup
 | 0=>List.nodup_nil
 | j+1=>by
  simp only [apL]
  rw [List.nodup_append]
  refine ⟨Qh5 h hd j,h _,fun a ha b hb e=>?_⟩
  subst e
  obtain ⟨i,h1,h2,h3⟩:=(Z3 _).1 ha
  exact hd i (k0+j) (by omega) a h3 hb
theorem Qvu {n:Nat} {N:Nat -> Nat -> Bool} (hn:n<=5):(Vi n N).length<=10:=by
 have hb:∀i,i < n->(apL (fun j=>if N i j=true then [(i,j)] else []) (i+1) (n - (i+1))).length<=4 - i:=fun i hi=>by
  have:=Zl (L:=fun j=>if N i j=true then [(i,j)] else []) (k0:=i+1) (m:=1) (fun _=>Y0) (n - (i+1)); omega
 have key:∀j,j<=n->(apL (fun i=>apL (fun j=>if N i j=true then [(i,j)] else []) (i+1) (n - (i+1))) 0 j).length*2<=j*(9 - j):=by
  intro j
  induction j with
  | zero=>intro _; simp [apL]
  | succ j ih =>
   intro hj
   have h1:=ih (by omega)
   have h2:=hb j (by omega)
   simp only [apL,aP,eC]
   have hj':j=0\/j=1\/j=2\/j=3\/j=4:=by omega
   rcases hj' with rfl | rfl | rfl | rfl | rfl <;> omega
 have:=key n (bC _)
 unfold Vi
 have hn':n=0\/n=1\/n=2\/n=3\/n=4\/n=5:=by omega
 rcases hn' with rfl | rfl | rfl | rfl | rfl | rfl <;> omega
def orR (P:List (Nat × Nat)) (t:Nat):Nat -> Nat -> Nat -> Bool
 | 0,_,_=>false
 | k+1,u,w=>orR P t k u w || (match P[k]? with | some p=>if t.testBit k=true then decide (u=p.1) && decide (p.2=w) else decide (u=p.2) && decide (p.1=w) | none=>false)
theorem Qnm {P:List (Nat × Nat)} {t:Nat}:∀{k u w:Nat},orR P t k u w=true↔∃i,i < k/\((P[i]?=some (u,w)/\t.testBit i=true)\/(P[i]?=some (w,u)/\t.testBit i=false))
 | 0,u,w=>by simp [orR]
 | k+1,u,w=>by
  simp only [orR,aN]
  rw [Qnm (k:=k)]
  constructor
  ·rintro (⟨i,h1,h2⟩ | h)
   ·exact ⟨i,by omega,h2⟩
   refine ⟨k,by omega,?_⟩
   cases hp:P[k]? with
   | none=>rw [hp] at h; cases h
   | some p =>
    rw [hp] at h
    obtain ⟨a,b⟩:=p
    dsimp only at h
    split at h
    ·rename_i hb
     simp only [aE,aO] at h
     exact .inl ⟨by rw [h.1,h.2],hb⟩
    rename_i hb
    simp only [aE,aO] at h
    exact .inr ⟨by rw [h.1,h.2],bN.2 hb⟩
  rintro ⟨i,h1,h2⟩
  by_cases e:i=k
  ·subst e
   right
   rcases h2 with ⟨h3,h4⟩ | ⟨h3,h4⟩ <;> rw [h3] <;> simp [h4]
  exact .inl ⟨i,by omega,h2⟩
def oG (n:Nat) (P:List (Nat × Nat)) (t k:Nat):Nat -> Nat := fun u=>msk n (orR P t k u)
theorem Qzg {n:Nat} {P:List (Nat × Nat)} {t k u w:Nat} (hP:∀p∈P,p.1 < n/\p.2 < n):(oG n P t k u).testBit w=orR P t k u w:=by
 unfold oG
 rw [Qv]
 by_cases h:w < n
 ·simp [h]
 have:orR P t k u w=false:=by
  rw [bN]
  intro hc
  revert hc
  rw [Qnm]
  rintro ⟨i,_,⟨h1,_⟩ | ⟨h1,_⟩⟩
  ·exact h (hP _ (aF h1)).2
  exact h (hP _ (aF h1)).1
 simp [h,this]
theorem Ql0 {n:Nat} {P:List (Nat × Nat)} {t k:Nat} (hn:n<=10):L64 n (oG n P t k):=fun v _=>Q7n hn (msk_lt n _)
theorem Q39 {n:Nat} {P:List (Nat × Nat)} {t k a b:Nat} (hp:P[k]?=some (a,b)) (ha:a < n) (hb:b < n) (hab:a≠b) :
  oG n P t (k+1)=if t.testBit k=true then (fun u=>if u=a then oG n P t k u ||| 2^b else oG n P t k u) else (fun u=>if u=b then oG n P t k u ||| 2^a else oG n P t k u):=by
 have key:∀u c,c < n->msk n (fun w=>orR P t k u w || decide (c=w))=oG n P t k u ||| 2^c:=fun u c hc=>by
  symm
  refine Qdw (eM (msk_lt n _) (eV (by omega) hc)) fun i hi=>?_
  unfold oG
  rw [bJ,Qv,Qo]
  simp [hi]
 split
 ·rename_i hb2
  funext u
  split
  ·rename_i e
   rw [<-key u b hb]
   unfold oG
   refine Zs fun w _=>?_
   simp only [orR,hp,hb2,eU,e,decide_true,eK]
  ·rename_i e
   unfold oG
   refine Zs fun w _=>?_
   simp only [orR,hp,hb2,eU,e,decide_false,Bool.false_and,Bool.or_false]
 ·rename_i hb2
  funext u
  split
  ·rename_i e
   rw [<-key u a ha]
   unfold oG
   refine Zs fun w _=>?_
   simp [orR,hp,hb2,e]
  ·rename_i e
   unfold oG
   refine Zs fun w _=>?_
   simp [orR,hp,hb2,e]
theorem Q8g {a k:Nat} (ha:a < 1000000) (hk:k < 64) :
  zw (BitVec.ofInt (IntKind.bits .i64) (Int.fdiv (a:Int) (2^min (Int.toNat (k:Int)) (IntKind.bits .i64))) &&& BitVec.ofInt (IntKind.bits .i64) 1).toNat = ((a.testBit k).toNat : Int):=by
 have hb:IntKind.bits .i64=64:=rfl
 have e0:min (Int.toNat (k:Int)) (IntKind.bits .i64)=k:=by rw [hb,aS]; omega
 rw [e0,Js]
 have h1:a / 2^k < 1000000:=cC (Nat.div_le_self _ _) ha
 have hbv:(BitVec.ofInt (IntKind.bits .i64) ((a / 2^k:Nat):Int)).toNat = a / 2^k:=by
  show (BitVec.ofInt 64 ((a / 2^k:Nat):Int)).toNat = a / 2^k
  rw [BitVec.ofInt_natCast,BitVec.toNat_ofNat]
  exact Nat.mod_eq_of_lt (by omega)
 have e1:(BitVec.ofInt (IntKind.bits .i64) ((a / 2^k:Nat):Int) &&& BitVec.ofInt (IntKind.bits .i64) 1).toNat = (a / 2^k) % 2:=by
  rw [BitVec.toNat_and,hbv,show (BitVec.ofInt (IntKind.bits .i64) 1).toNat = 1 from rfl,Nat.and_one_is_mod]
 rw [e1,w64 (by omega)]
 have e2:a.testBit k=((a / 2^k) % 2==1):=by rw [Nat.testBit_eq_decide_div_mod_eq]; rfl
 rw [e2]
 rcases Nat.mod_two_eq_zero_or_one (a / 2^k) with h | h <;> rw [h] <;> rfl
theorem Qq4 {k:Nat} (hk:k<=15):zw (1*2^min (Int.toNat (k:Int)) (IntKind.bits .i64))=((2^k:Nat):Int):=by
 have hb:IntKind.bits .i64=64:=rfl
 have e0:min (Int.toNat (k:Int)) (IntKind.bits .i64)=k:=by rw [hb,aS]; omega
 have:(2:Nat)^k<=2^15:=aW (by omega) hk
 have e2:(1:Int)*2^k=((2^k:Nat):Int):=by simp
 rw [e0,e2]
 generalize (2:Nat)^k=m at *
 rw [w64 (by omega)]
theorem Q1k {n k:Nat} {P:List (Nat × Nat)} {t:Nat}:List.replicate n (0:Int)=Qc n (oG n P t 0):=by
 apply List.ext_getElem
 ·simp [Qc,Qb4]
 intro k h1 h2
 have e:∀u,oG n P t 0 u=0:=fun u=>by
  unfold oG
  rw [show orR P t 0 u=fun _=>false from rfl]
  have:∀m,msk m (fun _=>false)=0:=fun m=>by
   induction m with
   | zero=>rfl
   | succ m ih=>simp [msk,ih]
  exact this n
 simp [Qc,Qb4,e]
theorem Qir {n t:Nat} {P:List (Nat × Nat)} (hn:n<=10) (hl:P.length<=15) (ht:t < 1000000) (hP:∀p∈P,p.1 < p.2/\p.2 < n) {body:Int × List Int->Option (Qd (Int × List Int) (List Int))}
  (hb:∀s:Int × List Int,body s=if (decide (s.1 < ((P.map pI).length:Int)))=true then (lkI (P.map pI) s.1).bind fun a7 =>
   if 0<=s.1 then
    if ((zw (BitVec.ofInt (IntKind.bits .i64) (Int.fdiv (t:Int) (2^min (Int.toNat s.1) (IntKind.bits .i64))) &&& BitVec.ofInt (IntKind.bits .i64) 1).toNat)==1)=true then
     (lkI s.2 a7.1).bind fun a11=>if 0<=a7.2 then some (.next (zw (s.1+1),(List.set s.2 (Int.toNat a7.1) (zv (zb a11 ||| zb (zv (1*2^min (Int.toNat a7.2) zk))).toNat)))) else none
    else (lkI s.2 a7.2).bind fun a14=>if 0<=a7.1 then some (.next (zw (s.1+1),(List.set s.2 (Int.toNat a7.2) (zv (zb a14 ||| zb (zv (1*2^min (Int.toNat a7.1) zk))).toNat)))) else none
   else none
   else some (.done s.2)):Qa fuel body (0,List.replicate n (0:Int))=some (Qc n (oG n P t P.length)):=by
 have hlen:(P.map pI).length=P.length:=cE _
 have h:=Zt (n:=P.length) (k0:=0) (by omega) (by omega) (fun i (x:List Int)=>(i,x)) (body:=body) (fun k=>Qc n (oG n P t k)) (Qc n (oG n P t P.length))
  (fun k _ hk=>by
   have h64:L64 n (oG n P t k):=Ql0 hn
   obtain ⟨h1,h2⟩:=hP P[k] (bO hk)
   have hp:P[k]?=some (P[k].1,P[k].2):=aG hk
   rw [hb]
   dsimp only
   rw [hlen,aH (dlt hk),Qs (by rw [hlen]; exact hk),aC,aH (Ql k),Q8g ht (by omega),List.getElem_map]
   rw [Q39 hp (by omega) h2 (by omega)]
   unfold pI
   dsimp only
   by_cases hb2:t.testBit k=true
   ·rw [aH (by rw [hb2]; rfl),Q0 (by omega),aC,aH (Ql _),K3 (by omega),Jo (h64 _ (by omega)) (Qac (by omega)),aS,Qhd,aH hb2]
    congr 5
    funext u
    split
    ·rename_i e; rw [e]
    rfl
   rw [aJ (by rw [bN.2 hb2]; decide),Q0 h2,aC,aH (Ql _),K3 (by omega),Jo (h64 _ h2) (Qac (by omega)),aS,Qhd,aJ hb2]
   congr 5
   funext u
   split
   ·rename_i e; rw [e]
   rfl)
  (by rw [hb]; dsimp only; rw [hlen,aJ (nlt _)])
 rw [show ((0:Nat):Int)=0 from rfl,<-Q1k (k:=0)] at h
 exact h
end Go.Ab
