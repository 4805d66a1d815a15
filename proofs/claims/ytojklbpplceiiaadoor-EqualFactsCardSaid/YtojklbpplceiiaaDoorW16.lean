/- What functions compute. No conditions. -/
import Derived.Test.YtojklbpplceiiaaDoorW15
import Derived.Test.YtojklbpplceiiaaDoorRows
import Derived.Test.YtojklbpplceiiaaDoorEng7
import Derived.WalkKit
import Derived.ProofKit
import Derived.LaidMore
import Derived.Lib.LaidTab
import Derived.Stop.LaidErr
import Derived.Stop.Joined
import Derived.OpenShut
set_option linter.all false
namespace Go.Ab
open Go
set_option maxRecDepth 100000
set_option maxHeartbeats 1000000
theorem Q2k {n:Int} (h:(Lit.int .u8 n).wf=true):0≤n∧n≤255:=by
 simpa [Lit.wf,IntKind.min,IntKind.max,IntKind.bits,IntKind.signed] using h
theorem Q1m {n:Int} (h:(Lit.int .u64 n).wf=true):0≤n∧n≤18446744073709551615:=by
 simpa [Lit.wf,IntKind.min,IntKind.max,IntKind.bits,IntKind.signed] using h
theorem wf8 {n:Int} (h:(Lit.int .u8 n).wf=true):0≤n∧n < 256:=by have:=Q2k h; omega
theorem Q22 {n:Int} (h:(Lit.int .u64 n).wf=true):0≤n∧n < 18446744073709551616:=by have:=Q1m h; omega
theorem Qx6:Qdd=some true:=by kernel_rfl
def Few (y:List Int):Prop:=∃n S,y=Qe n S∧n≤7∧L64 n S
theorem Qwp {l:List Int} (h:l.length≤1000):Zb l=some l:=by
 unfold Zb
 cases l with
 | nil=>rfl
 | cons c d=>simp only [Vc]; rw [if_pos (by omega)]
theorem Qzy {l:List Int} (h:U64 l):∃z,Qcp l=some z∧Few z:=by
 unfold Qcp
 have hm:(if 7 < (l.length:Int) then 7 else (l.length:Int))=((min l.length 7:Nat):Int):=by split <;> omega
 rw [hm,if_pos (by omega)]
 have hs:sub l 0 ((min l.length 7:Nat):Int)=l.take (min l.length 7):=by
  unfold sub
  simp
 rw [hs,Qwp (by simp; omega),Option.bind_some]
 refine ⟨_,rfl,?_⟩
 have hu:U64 (l.take (min l.length 7)):=fun x hx=>h x (List.mem_of_mem_take hx)
 obtain ⟨S,h1,h2⟩:=Q1z hu
 exact ⟨_,S,h1,by simp; omega,h2⟩
theorem Q2z {n:Nat} {S:Nat → Nat} (hn:n≤7) (h:L64 n S) :
  ((n≤6∧Gd n S)∧X0 (Qe n S) 6=some true∧Q9 (Qe n S)=some 0∧X1 (Qe n S)=some (prs n (near S),0)∧Xo (Qe n S)=some (cls n S,0)) ∨
  (X0 (Qe n S) 6=some false∧Q9 (Qe n S)=some 310∧X1 (Qe n S)=some ([],310)∧Xo (Qe n S)=some ([],310)):=by
 obtain ⟨c,hc,hc2⟩:=Qo4 hn h
 obtain ⟨d,hd,hd2⟩:=Qv3 (m:=6) hn h
 have e:d=c:=by rw [Bool.eq_iff_iff,hc2,hd2]
 subst e
 cases d with
 | true =>
  left
  obtain ⟨h1,h2⟩:=hc2.1 rfl
  refine ⟨⟨h1.2,h2⟩,hd,hc,?_,?_⟩
  ·unfold X1
   rw [hc,Option.bind_some,if_neg (by simp),Qgu h1.2 h2,Option.bind_some]
   show (Zq ⟨(n:Int),Xp (mI (nrN n S))⟩).bind _=_
   rw [Qxh h1.2]; rfl
  ·unfold Xo
   rw [hc,Option.bind_some,if_neg (by simp),Qpj h1.2 h2]; rfl
 | false =>
  right
  refine ⟨hd,hc,?_,?_⟩
  ·unfold X1
   rw [hc]; rfl
  ·unfold Xo
   rw [hc]; rfl
theorem Qxk {d:Qc} (h:Ja d):Qle d:=by
 obtain ⟨h0,⟨h1,h2,h3,h4,h5,h6⟩,_⟩:=h
 exact ⟨wf8 h0,wf8 h1,wf8 h2,wf8 h3,wf8 h4,wf8 h5,wf8 h6⟩
end Go.Ab
namespace Go.Ab
open Go
set_option maxRecDepth 100000
set_option maxHeartbeats 1000000
theorem Qzl {n:Nat} {S:Nat → Nat} (h:Gd n S):∃r:Nat → Nat,∀v,v < n→∀j,(S v).testBit j=true→r j < r v:=by
 have e:=Qvu.2 h
 obtain ⟨h1,r,M,h2,h3⟩:=Qmt (n:=n) (S:=S) n
 have hall:=(Ql4 h1).1 e
 exact ⟨r,fun v hv j hj=>(h3 v (hall v hv) j hj).2⟩
section
variable {n i j:Nat} {S:Nat → Nat} (hn:n≤7) (h:Gd n S) (hi:i < n) (hj:j < n) (hij:i≠j) (he:(S j).testBit i=true)
include hn h hi hj hij he
end
end Go.Ab
namespace Go.Ab
open Go
set_option maxRecDepth 100000
set_option maxHeartbeats 1000000
inductive Rch (S:Nat → Nat) (z anz x:Nat):Nat → Bool→Prop
 | start:Rch S z anz x x false
 | up {v p:Nat}:Rch S z anz x v false→z.testBit v=false→(S v).testBit p=true→Rch S z anz x p false
 | dn {v c:Nat} {d:Bool}:Rch S z anz x v d→z.testBit v=false→(S c).testBit v=true→Rch S z anz x c true
 | turn {v p:Nat}:Rch S z anz x v true→anz.testBit v=true→(S v).testBit p=true→Rch S z anz x p false
inductive Tow (S:Nat → Nat) (z anz y:Nat):Nat → Bool→Prop
 | here (d:Bool):Tow S z anz y y d
 | up {v p:Nat}:Tow S z anz y p false→z.testBit v=false→(S v).testBit p=true→Tow S z anz y v false
 | dn {v c:Nat} {d:Bool}:Tow S z anz y c true→z.testBit v=false→(S c).testBit v=true→Tow S z anz y v d
 | turn {v p:Nat}:Tow S z anz y p false→anz.testBit v=true→(S v).testBit p=true→Tow S z anz y v true
theorem Qtv (n:Nat) (P:Nat → Prop):∃T:Nat,(∀v,T.testBit v=true↔v < n∧P v):=by
 classical
 refine ⟨msk n fun v=>decide (P v),fun v=>?_⟩
 rw [Zk]
 simp
theorem Qnc {n:Nat} {S:Nat → Nat} (hS:∀v,v < n→∀j,(S v).testBit j=true→j < n) {s:Nat} (hs:∀j,s.testBit j=true→j < n) {j:Nat} (hj:(ups n S n s).testBit j=true):j < n:=by
 have:=Ve (Kv n hS) (s:=s) (fun i hi=>by rw [Nat.testBit_two_pow_sub_one]; simpa using hs i hi) n j hj
 rw [Nat.testBit_two_pow_sub_one] at this; simpa using this
theorem Qjm {n:Nat} {S:Nat → Nat} (hS:Gd n S) {s:Nat} (hs:∀j,s.testBit j=true→j < n) (P:Nat → Prop) (h0:∀j,s.testBit j=true→P j) (h1:∀v p,v < n→P v→(S v).testBit p=true→P p) {v:Nat} (hv:(ups n S n s).testBit v=true):P v:=by
 obtain ⟨T,hT⟩:=Qtv n P
 have hc:Clo n S T:=fun u hu hb j hj=>(hT j).2 ⟨hS.inn u hu j hj,h1 u j hu ((hT u).1 hb).2 hj⟩
 exact ((hT v).1 (Ve hc (fun j hj=>(hT j).2 ⟨hs j hj,h0 j hj⟩) n v hv)).2
def jo (n:Nat) (S:Nat → Nat) (an z a:Nat):Nat := msk n fun b=>an.testBit b && !z.testBit b && (List.range n).any fun k=>an.testBit k && ((S k).testBit a || decide (k=a)) && ((S k).testBit b || decide (k=b))
theorem Qwx {n:Nat} {S:Nat → Nat} {an z a b:Nat} (hb:b < n):(jo n S an z a).testBit b=true↔an.testBit b=true∧z.testBit b=false∧∃k,k < n∧an.testBit k=true∧((S k).testBit a=true∨k=a)∧((S k).testBit b=true∨k=b):=by
 unfold jo
 rw [Zk]
 simp only [hb,decide_true,Bool.true_and,Bool.and_eq_true,Bool.not_eq_true',List.any_eq_true,Bool.or_eq_true,decide_eq_true_eq,List.mem_range]
 constructor
 ·rintro ⟨⟨h1,h2⟩,k,h3,⟨h4,h5⟩,h6⟩; exact ⟨h1,h2,k,h3,h4,h5,h6⟩
 ·rintro ⟨h1,h2,k,h3,h4,h5,h6⟩; exact ⟨⟨h1,h2⟩,k,h3,⟨h4,h5⟩,h6⟩
section
variable {n:Nat} {S:Nat → Nat} (hS:Gd n S) {z x y:Nat} (hz:∀j,z.testBit j=true→j < n) (hx:x < n) (hy:y < n) (hxz:z.testBit x=false) (hyz:z.testBit y=false)
def anS (n:Nat) (S:Nat → Nat) (x y z:Nat):Nat := ups n S n (2^x ||| 2^y ||| z)
def anZ (n:Nat) (S:Nat → Nat) (z:Nat):Nat := ups n S n z
def seenS (n:Nat) (S:Nat → Nat) (x y z:Nat):Nat := ups n (jo n S (anS n S x y z) z) n (2^x)
include hS hz hx hy hxz hyz
theorem Qp0 {j:Nat} (h:(2^x ||| 2^y ||| z).testBit j=true):j < n:=by
 rw [Nat.testBit_or,Nat.testBit_or,Q1,Q1,Bool.or_eq_true,Bool.or_eq_true] at h
 rcases h with (h | h) | h
 ·have:=of_decide_eq_true h; omega
 ·have:=of_decide_eq_true h; omega
 ·exact hz j h
theorem Qjp:Clo n S (anS n S x y z):=Qea hS.inn (fun j hj=>Qp0 hS hz hx hy hxz hyz hj)
theorem Qhj:Clo n S (anZ n S z):=Qea hS.inn hz
theorem Qnf {j:Nat} (h:(anS n S x y z).testBit j=true):j < n:=Qnc hS.inn (fun j hj=>Qp0 hS hz hx hy hxz hyz hj) h
theorem Q1g {j:Nat} (h:(anZ n S z).testBit j=true):j < n:=Qnc hS.inn hz h
theorem Qq4 {j:Nat} (h:(anZ n S z).testBit j=true):(anS n S x y z).testBit j=true :=
 Ve (Qjp hS hz hx hy hxz hyz) (fun i hi=>Ko n i (by rw [Nat.testBit_or,hi]; simp)) n j h
theorem Q27:(anS n S x y z).testBit x=true:=Ko n x (by rw [Nat.testBit_or,Nat.testBit_or,Q1]; simp)
theorem Q2v:(anS n S x y z).testBit y=true:=Ko n y (by rw [Nat.testBit_or,Nat.testBit_or,Q1,Q1]; simp)
theorem Qxs {v:Nat} (h:(anS n S x y z).testBit v=true):(anZ n S z).testBit v=true∨(ups n S n (2^y)).testBit v=true∨(ups n S n (2^x)).testBit v=true:=by
 have px:∀j,(2^x).testBit j=true→j < n:=fun j hj=>by rw [Q1] at hj; have:=of_decide_eq_true hj; omega
 have py:∀j,(2^y).testBit j=true→j < n:=fun j hj=>by rw [Q1] at hj; have:=of_decide_eq_true hj; omega
 refine Qjm hS (fun j hj=>Qp0 hS hz hx hy hxz hyz hj) (fun v=>(anZ n S z).testBit v=true∨(ups n S n (2^y)).testBit v=true∨(ups n S n (2^x)).testBit v=true) (fun j hj=>?_) (fun v p hv hP hp=>?_) h
 ·rw [Nat.testBit_or,Nat.testBit_or,Bool.or_eq_true,Bool.or_eq_true] at hj
  rcases hj with (hj | hj) | hj
  ·exact .inr (.inr (Ko n j hj))
  ·exact .inr (.inl (Ko n j hj))
  ·exact .inl (Ko n j hj)
 ·rcases hP with h | h | h
  ·exact .inl (Qhj hS hz hx hy hxz hyz v hv h p hp)
  ·exact .inr (.inl (Qea hS.inn py v hv h p hp))
  ·exact .inr (.inr (Qea hS.inn px v hv h p hp))
theorem Qt4 {v:Nat} (h:(anZ n S z).testBit v=false):z.testBit v=false:=by
 rw [Bool.eq_false_iff] at h ⊢
 exact fun e=>h (Ko n v e)
theorem Qzq {v:Nat} (h:(ups n S n (2^x)).testBit v=true):(anZ n S z).testBit v=true∨Rch S z (anZ n S z) x v false:=by
 refine Qjm hS (s:=2^x) (fun j hj=>by rw [Q1] at hj; have:=of_decide_eq_true hj; omega) (fun v=>(anZ n S z).testBit v=true∨Rch S z (anZ n S z) x v false) (fun j hj=>?_) (fun v p hv hP hp=>?_) h
 ·rw [Q1] at hj
  have:=of_decide_eq_true hj
  subst this
  exact .inr .start
 ·rcases hP with h | h
  ·exact .inl (Qhj hS hz hx hy hxz hyz v hv h p hp)
  ·cases hz2:(anZ n S z).testBit v with
   | true=>exact .inl (Qhj hS hz hx hy hxz hyz v hv hz2 p hp)
   | false=>exact .inr (.up h (Qt4 hS hz hx hy hxz hyz hz2) hp)
theorem Q0d {v:Nat} (h:(ups n S n (2^y)).testBit v=true):(anZ n S z).testBit v=true∨∀d,Rch S z (anZ n S z) x v d→∃d,Rch S z (anZ n S z) x y d:=by
 refine Qjm hS (s:=2^y) (fun j hj=>by rw [Q1] at hj; have:=of_decide_eq_true hj; omega) (fun v=>(anZ n S z).testBit v=true∨∀d,Rch S z (anZ n S z) x v d→∃d,Rch S z (anZ n S z) x y d) (fun j hj=>?_) (fun v p hv hP hp=>?_) h
 ·rw [Q1] at hj
  have:=of_decide_eq_true hj
  subst this
  exact .inr fun d hd=>⟨d,hd⟩
 ·rcases hP with h | h
  ·exact .inl (Qhj hS hz hx hy hxz hyz v hv h p hp)
  ·cases hz2:(anZ n S z).testBit p with
   | true=>exact .inl rfl
   | false=>exact .inr fun d hd=>h true (.dn hd (Qt4 hS hz hx hy hxz hyz hz2) hp)
theorem Qye (hno:¬ ∃d,Rch S z (anZ n S z) x y d) {a:Nat} (h:(seenS n S x y z).testBit a=true):z.testBit a=false∧∃d,Rch S z (anZ n S z) x a d:=by
 obtain ⟨T,hT⟩:=Qtv n fun a=>z.testBit a=false∧∃d,Rch S z (anZ n S z) x a d
 have hc:Clo n (jo n S (anS n S x y z) z) T:=fun a ha hb b hbb=>by
  obtain ⟨_,haz,d,hd⟩:=(hT a).1 hb
  have hbn:b < n:=by
   unfold jo at hbb; rw [Zk] at hbb
   simp only [Bool.and_eq_true,decide_eq_true_eq] at hbb; exact hbb.1
  obtain ⟨h1,h2,k,hk,h3,h4,h5⟩:=(Qwx hbn).1 hbb
  refine (hT b).2 ⟨hbn,h2,?_⟩
  have on:∀p,(∀d,Rch S z (anZ n S z) x k d→True)→Rch S z (anZ n S z) x k true→(S k).testBit p=true→∃d,Rch S z (anZ n S z) x p d:=fun p _ hkr hp=>by
   cases hkz:(anZ n S z).testBit k with
   | true=>exact ⟨_,.turn hkr hkz hp⟩
   | false =>
    rcases Qxs hS hz hx hy hxz hyz h3 with e | e | e
    ·rw [hkz] at e; cases e
    ·rcases Q0d hS hz hx hy hxz hyz e with e | e
     ·rw [hkz] at e; cases e
     ·exact absurd (e _ hkr) hno
    ·rcases Qzq hS hz hx hy hxz hyz e with e | e
     ·rw [hkz] at e; cases e
     ·exact ⟨_,.up e (Qt4 hS hz hx hy hxz hyz hkz) hp⟩
  rcases h4 with h4 | rfl
  ·have hkr:Rch S z (anZ n S z) x k true:=.dn hd haz h4
   rcases h5 with h5 | rfl
   ·exact on b (fun _ _=>trivial) hkr h5
   ·exact ⟨_,hkr⟩
  ·rcases h5 with h5 | rfl
   ·cases d with
    | false=>exact ⟨_,.up hd haz h5⟩
    | true=>exact on b (fun _ _=>trivial) hd h5
   ·exact ⟨_,hd⟩
 have hs:Zh (2^x) T:=fun j hj=>by
  rw [Q1] at hj
  have:=of_decide_eq_true hj
  subst this
  exact (hT _).2 ⟨hx,hxz,_,.start⟩
 exact ((hT a).1 (Ve hc hs n a h)).2
theorem Quh {a j:Nat} (h:(jo n S (anS n S x y z) z a).testBit j=true):j < n:=by
 unfold jo at h; rw [Zk] at h
 simp only [Bool.and_eq_true,decide_eq_true_eq] at h; exact h.1
theorem Qxw:Clo n (jo n S (anS n S x y z) z) (seenS n S x y z):=Qea (fun v _ j hj=>Quh hS hz hx hy hxz hyz hj) fun j hj=>by
 rw [Q1] at hj; have:=of_decide_eq_true hj; omega
theorem Qtb {j:Nat} (h:(seenS n S x y z).testBit j=true):j < n:=Qnc (fun v _ j hj=>Quh hS hz hx hy hxz hyz hj) (fun j hj=>by
 rw [Q1] at hj; have:=of_decide_eq_true hj; omega) h
theorem Qis {a b k:Nat} (ha:(seenS n S x y z).testBit a=true) (hb:b < n) (hban:(anS n S x y z).testBit b=true) (hbz:z.testBit b=false) (hk:(anS n S x y z).testBit k=true) (h1:(S k).testBit a=true∨k=a) (h2:(S k).testBit b=true∨k=b):(seenS n S x y z).testBit b=true :=
 Qxw hS hz hx hy hxz hyz a (Qtb hS hz hx hy hxz hyz ha) ha b ((Qwx hb).2 ⟨hban,hbz,k,Qnf hS hz hx hy hxz hyz hk,hk,h1,h2⟩)
theorem Q2e {v:Nat} {d:Bool} (h:Rch S z (anZ n S z) x v d) (hd:d=false):(anS n S x y z).testBit v=true:=by
 induction h with
 | start=>exact Q27 hS hz hx hy hxz hyz
 | up _ _ hp ih=>exact Qjp hS hz hx hy hxz hyz _ (Qnf hS hz hx hy hxz hyz (ih rfl)) (ih rfl) _ hp
 | dn=>cases hd
 | @turn v p _ hv hp ih=>exact Qq4 hS hz hx hy hxz hyz (Qhj hS hz hx hy hxz hyz v (Q1g hS hz hx hy hxz hyz hv) hv p hp)
theorem Q2j {v:Nat} {d:Bool} (h:Tow S z (anZ n S z) y v d) (hd:d=true):(anS n S x y z).testBit v=true:=by
 induction h with
 | here=>exact Q2v hS hz hx hy hxz hyz
 | up=>cases hd
 | @dn v c d _ hv hc ih=>exact Qjp hS hz hx hy hxz hyz c (Qnf hS hz hx hy hxz hyz (ih rfl)) (ih rfl) v hc
 | turn _ hv _ _=>exact Qq4 hS hz hx hy hxz hyz hv
theorem Qyg {v:Nat} {d:Bool} (h:Rch S z (anZ n S z) x v d):Tow S z (anZ n S z) y v d→(z.testBit v=false→(seenS n S x y z).testBit v=true)∧(z.testBit v=true→d=true→∃p,(S v).testBit p=true∧(seenS n S x y z).testBit p=true):=by
 have lt:=fun {j:Nat} h=>Qnf hS hz hx hy hxz hyz (j:=j) h
 induction h with
 | start=>exact fun _=>⟨fun _=>Ko n x (by rw [Q1]; simp),fun e=>by rw [hxz] at e; cases e⟩
 | @up v p hr hv hp ih =>
  intro k
  have i1:=(ih (.up k hv hp)).1 hv
  have va:=Q2e hS hz hx hy hxz hyz hr rfl
  have pa:=Qjp hS hz hx hy hxz hyz v (lt va) va p hp
  exact ⟨fun hpz=>Qis hS hz hx hy hxz hyz i1 (lt pa) pa hpz va (.inr rfl) (.inl hp),fun _ e=>by cases e⟩
 | @dn v c d hr hv hc ih =>
  intro k
  have i1:=(ih (.dn k hv hc)).1 hv
  have ca:=Q2j hS hz hx hy hxz hyz k rfl
  exact ⟨fun hcz=>Qis hS hz hx hy hxz hyz i1 (lt ca) ca hcz ca (.inl hc) (.inr rfl),fun _ _=>⟨v,hc,i1⟩⟩
 | @turn v p hr hv hp ih =>
  intro k
  have i:=ih (.turn k hv hp)
  have va:=Qq4 hS hz hx hy hxz hyz hv
  have pa:=Qjp hS hz hx hy hxz hyz v (lt va) va p hp
  refine ⟨fun hpz=>?_,fun _ e=>by cases e⟩
  cases hvz:z.testBit v with
  | false=>exact Qis hS hz hx hy hxz hyz (i.1 hvz) (lt pa) pa hpz va (.inr rfl) (.inl hp)
  | true =>
   obtain ⟨q,hq1,hq2⟩:=i.2 hvz rfl
   exact Qis hS hz hx hy hxz hyz hq2 (lt pa) pa hpz va (.inl hq1) (.inl hp)
theorem Qzx:(seenS n S x y z).testBit y=true↔∃d,Rch S z (anZ n S z) x y d:=by
 constructor
 ·intro h
  apply Classical.byContradiction
  intro hno
  exact hno (Qye hS hz hx hy hxz hyz hno h).2
 ·rintro ⟨d,h⟩
  exact (Qyg hS hz hx hy hxz hyz h (.here d)).1 hyz
end
end Go.Ab
namespace Go.Ab
open Go
set_option maxRecDepth 100000
set_option maxHeartbeats 1000000
theorem Qxn {τ ρ σ:Type} {n:Nat} (hn:n≤10) (mkS:Int→τ→σ) {body:σ→Option (Qh σ ρ)} (I:Nat → τ→Prop) (Q:ρ→Prop) (p:Nat → Bool)
  (step:∀(x:Nat) (t:τ) (R R':Int),x < n→p x=true→I x t→(R != 0)=true→Qn R=some (x:Int) →
   zv (zb R &&& zb (zv (R - 1))).toNat = R' →
   (∃t',body (mkS R t)=some (.next (mkS R' t'))∧I (x+1) t')∨(∃r,body (mkS R t)=some (.done r)∧Q r))
  (skip:∀(x:Nat) (t:τ),x < n→p x=false→I x t→I (x+1) t)
  (done:∀t,I n t→∃r,body (mkS 0 t)=some (.done r)∧Q r) (t0:τ) (h0:I 0 t0) :
  ∃r,Qb fuel body (mkS ((msk n p:Nat):Int) t0)=some r∧Q r:=by
 have key:∀(j N k:Nat) (t:τ),k+j=n→j < N→I k t→∃r,Qb N body (mkS ((msk n fun i=>p i && decide (k≤i):Nat):Int) t)=some r∧Q r:=by
  intro j
  induction j using Nat.strongRecOn with
  | _ j ih =>
   intro N k t hk hN hI
   by_cases hx:∃i,k≤i∧i < n∧p i=true
   ·obtain ⟨x,x1,x2,x3,x4⟩:∃x,k≤x∧x < n∧p x=true∧∀i,k≤i→i < x→p i=false:=by
     have hs:=Qma n (fun i=>p i && decide (k≤i)) (by obtain ⟨i,a,b,c⟩:=hx; exact ⟨i,b,by simp [a,c]⟩)
     refine ⟨_,?_,hs.1,?_,fun i a b=>?_⟩
     ·have:=hs.2.1; simp at this; exact this.2
     ·have:=hs.2.1; simp at this; exact this.1
     ·have:=hs.2.2 i b; simpa [a] using this
    have hIx:I x t:=by
     have:∀d,k+d≤x→I (k+d) t:=by
      intro d
      induction d with
      | zero=>intro _; exact hI
      | succ d ihd=>intro h; exact skip (k+d) t (by omega) (x4 _ (by omega) (by omega)) (ihd (by omega))
     have h:=this (x - k) (by omega)
     rwa [show k+(x - k)=x by omega] at h
    obtain ⟨N,rfl⟩:∃M,N=M+1:=⟨N - 1,by omega⟩
    obtain ⟨a1,a2,a3⟩:=Qyn (n:=n) (v:=x) (p:=fun i=>p i && decide (k≤i)) hn x2 (by simp [x1,x3]) (fun i hi=>by
     by_cases h:k≤i
     ·rw [x4 i h hi]; rfl
     ·simp [h])
    have e:msk n (fun i=>(p i && decide (k≤i)) && !decide (x=i))=msk n fun i=>p i && decide (x+1≤i):=Xr fun i hi=>by
     by_cases h:x+1≤i
     ·have h2:¬ x=i:=by omega
      have h3:k≤i:=by omega
      simp [h,h2,h3]
     ·by_cases h2:x=i
      ·subst h2; simp
      ·by_cases h3:k≤i
       ·rw [x4 i h3 (by omega)]; simp
       ·simp [h,h3]
    rw [e] at a3
    rcases step x t _ _ x2 x3 hIx a1 a2 a3 with ⟨t',b1,b2⟩ | ⟨r,b1,b2⟩
    ·simp only [Qb,b1]
     exact ih (n - (x+1)) (by omega) N (x+1) t' (by omega) (by omega) b2
    ·simp only [Qb,b1]
     exact ⟨r,rfl,b2⟩
   ·have hno:∀i,k≤i→i < n→p i=false:=fun i a b=>by
     rw [Bool.eq_false_iff]; exact fun h=>hx ⟨i,a,b,h⟩
    have e:msk n (fun i=>p i && decide (k≤i))=0:=by
     have:msk n (fun _=>false)=0:=(Qes (by have:=Nat.two_pow_pos n; omega) fun i _=>by simp).symm
     rw [←this]
     exact Xr fun i hi=>by
      by_cases h:k≤i
      ·rw [hno i h hi]; rfl
      ·simp [h]
    have hIn:I n t:=by
     have:∀d,k+d≤n→I (k+d) t:=by
      intro d
      induction d with
      | zero=>intro _; exact hI
      | succ d ihd=>intro h; exact skip (k+d) t (by omega) (hno _ (by omega) (by omega)) (ihd (by omega))
     have h:=this (n - k) (by omega)
     rwa [show k+(n - k)=n by omega] at h
    obtain ⟨N,rfl⟩:∃M,N=M+1:=⟨N - 1,by omega⟩
    rw [e]
    obtain ⟨r,b1,b2⟩:=done t hIn
    refine ⟨r,?_,b2⟩
    show Qb (N+1) body (mkS 0 t)=_
    simp only [Qb,b1]
 have h:=key n fuel 0 t0 (by omega) (by show n < 1152921504606846976; omega) h0
 have e:msk n (fun i=>p i && decide (0≤i))=msk n p:=Xr fun i _=>by simp
 rwa [e] at h
abbrev Stp:=List (Tseparate_step × Bool)
def vis (m:Stp) (v:Nat) (d:Bool):Bool:=(Xb qTseparate_step m ⟨(v:Int),d⟩).getD false
theorem Qqm (a b:Tseparate_step):qTseparate_step a b=decide (a=b):=by
 obtain ⟨a1,a2⟩:=a; obtain ⟨b1,b2⟩:=b
 rw [Bool.eq_iff_iff]
 simp [qTseparate_step]
theorem Qxe {m:Stp} {k k':Tseparate_step} {v:Bool}:Xb qTseparate_step (kput qTseparate_step m k v) k'=if k'=k then some v else Xb qTseparate_step m k':=by
 induction m with
 | nil=>simp only [kput,Xb,Qqm,decide_eq_true_eq]
 | cons p r ih =>
  simp only [kput]
  by_cases h:k=p.1
  ·rw [if_pos (by rw [Qqm]; exact decide_eq_true h)]
   simp only [Xb,Qqm,decide_eq_true_eq]
   by_cases h2:k'=k
   ·rw [if_pos h2,if_pos h2]
   ·rw [if_neg h2,if_neg h2,if_neg (by rw [←h]; exact h2)]
  ·rw [if_neg (by rw [Qqm]; simpa using h)]
   simp only [Xb,Qqm,decide_eq_true_eq]
   by_cases h2:k'=p.1
   ·rw [if_pos h2,if_neg (by rw [h2]; exact fun e=>h e.symm),if_pos h2]
   ·rw [if_neg h2,ih,if_neg h2]
theorem Qz3 {m:Stp} {v u:Nat} {d e:Bool}:vis (kput qTseparate_step m ⟨(v:Int),d⟩ true) u e=(vis m u e || (decide (u=v) && decide (e=d))):=by
 unfold vis
 rw [Qxe]
 by_cases h:(⟨(u:Int),e⟩:Tseparate_step)=⟨(v:Int),d⟩
 ·rw [if_pos h]
  simp only [Tseparate_step.mk.injEq,Int.ofNat_inj] at h
  simp [h.1,h.2]
 ·rw [if_neg h]
  simp only [Tseparate_step.mk.injEq,Int.ofNat_inj,not_and] at h
  by_cases h1:u=v
  ·simp [h1,h h1]
  ·simp [h1]
section
variable (n:Nat) (S:Nat → Nat) (z az x:Nat)
def Suc (m:Stp) (u:Nat) (e:Bool):Prop :=
 (z.testBit u=false→∀c,c < n→(S c).testBit u=true→vis m c true=true)∧(e=false→z.testBit u=false→∀p,p < n→(S u).testBit p=true→vis m p false=true)∧(e=true→az.testBit u=true→∀p,p < n→(S u).testBit p=true→vis m p false=true)
structure DI (m:Stp) (r:Nat):Prop where
 rr:∀u,r.testBit u=true↔(u < n∧z.testBit u=false∧(vis m u true=true∨vis m u false=true))
 sd:∀u e,vis m u e=true→Rch S z az x u e
structure DE (m m':Stp):Prop where
 le:∀u e,vis m u e=true→vis m' u e=true
 new:∀u e,vis m' u e=true→vis m u e=false→Suc n S z az m' u e
def unv (m:Stp):Nat := cnt (2*n) fun k=>!vis m (k / 2) (k % 2==1)
variable {n S z az x}
theorem Suc.mono {m m':Stp} (h:∀u e,vis m u e=true→vis m' u e=true) {u:Nat} {e:Bool} (k:Suc n S z az m u e):Suc n S z az m' u e :=
 ⟨fun a c b d=>h _ _ (k.1 a c b d),fun a b p c d=>h _ _ (k.2.1 a b p c d),fun a b p c d=>h _ _ (k.2.2 a b p c d)⟩
theorem DE.refl {m:Stp}:DE n S z az m m:=⟨fun _ _ h=>h,fun u e h k=>by rw [h] at k; cases k⟩
theorem DE.trans {m m1 m2:Stp} (h:DE n S z az m m1) (k:DE n S z az m1 m2):DE n S z az m m2:=⟨fun u e a=>k.le u e (h.le u e a),fun u e a b=>by
 cases hv:vis m1 u e with
 | true=>exact (h.new u e hv b).mono k.le
 | false=>exact k.new u e a hv⟩
theorem Qrt {m m':Stp} (h:∀u e,vis m u e=true→vis m' u e=true):unv n m'≤unv n m:=Qh6 fun k _ hk=>by
 cases hv:vis m (k / 2) (k % 2==1) with
 | true=>rw [h _ _ hv] at hk; cases hk
 | false=>rfl
theorem Q06 {m m':Stp} (h:∀u e,vis m u e=true→vis m' u e=true) {v:Nat} {d:Bool} (hv:v < n) (h0:vis m v d=false) (h1:vis m' v d=true):unv n m' < unv n m:=by
 have hk:2*v+d.toNat < 2*n:=by cases d <;> simp <;> omega
 have e1:(2*v+d.toNat) / 2=v:=by cases d <;> simp <;> omega
 have e2:((2*v+d.toNat) % 2==1)=d:=by cases d <;> simp <;> omega
 have e:=Qk7 (n:=2*n) (v:=2*v+d.toNat) (p:=fun k=>!vis m (k / 2) (k % 2==1)) hk (by rw [e1,e2,h0]; rfl)
 have:unv n m'≤cnt (2*n) (fun i=>!vis m (i / 2) (i % 2==1) && !decide (2*v+d.toNat = i)):=Qh6 fun k _ hk=>by
  have hne:¬ 2*v+d.toNat = k:=fun e3=>by subst e3; rw [e1,e2,h1] at hk; cases hk
  cases hv2:vis m (k / 2) (k % 2==1) with
  | true=>rw [h _ _ hv2] at hk; cases hk
  | false=>simp [hne]
 unfold unv at *
 omega
def Qon (s:Int × Bool × Int × Stp) (y:Int × Stp):Prop:=∃v r':Nat,s.1=(v:Int)∧y.1=(r':Int)∧DI n S z az x y.2 r'∧DE n S z az s.2.2.2 y.2∧vis y.2 v s.2.1=true
def Qqe (s:Int × Bool × Int × Stp):Prop:=∃v r:Nat,s.1=(v:Int)∧v < n∧s.2.2.1=(r:Int)∧DI n S z az x s.2.2.2 r∧Rch S z az x v s.2.1
theorem Qen {D:Bool} {p:Nat → Bool} (hn:n≤8) {M:Nat} {d:Int × Bool × Int × Stp→Option (Int × Stp)} (hd:∀s',Qqe (n:=n) (S:=S) (z:=z) (az:=az) (x:=x) s'→unv n s'.2.2.2 < M→∃y,d s'=some y∧Qon (n:=n) (S:=S) (z:=z) (az:=az) (x:=x) s' y)
  {body:Int × Int × Stp→Option (Qh (Int × Int × Stp) (Int × Stp))}
  (hb:∀s,body s=if (s.1 != 0)=true then (Qn s.1).bind fun i=>(d (i,D,s.2.1,s.2.2)).bind fun y=>some (.next (zv (zb s.1 &&& zb (zv (s.1 - 1))).toNat,y.1,y.2)) else some (.done (s.2.1,s.2.2)))
  (hr:∀i,i < n→p i=true→Rch S z az x i D) {m0:Stp} {r0:Nat} (h0:DI n S z az x m0 r0) (hM:unv n m0 < M) :
  ∃y,Qb fuel body (((msk n p:Nat):Int),(r0:Int),m0)=some y∧∃r':Nat,y.1=(r':Int)∧DI n S z az x y.2 r'∧DE n S z az m0 y.2∧∀i,i < n→p i=true→vis y.2 i D=true:=by
 have h:=Qxn (n:=n) (by omega) (fun R (t:Int × Stp)=>(R,t.1,t.2)) (body:=body)
  (fun k t=>∃r:Nat,t.1=(r:Int)∧DI n S z az x t.2 r∧DE n S z az m0 t.2∧∀i,i < k→i < n→p i=true→vis t.2 i D=true)
  (fun y=>∃r':Nat,y.1=(r':Int)∧DI n S z az x y.2 r'∧DE n S z az m0 y.2∧∀i,i < n→p i=true→vis y.2 i D=true) p
  (fun i t R R' hi hp hI hR htz hrest=>by
   left
   obtain ⟨r,h1,h2,h3,h4⟩:=hI
   obtain ⟨y,g1,v,r',g2,g3,g4,g5,g6⟩:=hd ((i:Int),D,t.1,t.2) ⟨i,r,rfl,hi,h1,h2,hr i hi hp⟩ (Nat.lt_of_le_of_lt (Qrt h3.le) hM)
   have hv:i=v:=Int.ofNat_inj.1 g2
   subst hv
   refine ⟨y,?_,r',g3,g4,h3.trans g5,fun j hj hjn hpj=>?_⟩
   ·rw [hb]
    dsimp only
    rw [if_pos hR,htz,Option.bind_some,g1,Option.bind_some,hrest]
   ·by_cases e:j=i
    ·subst e; exact g6
    ·exact g5.le _ _ (h4 j (by omega) hjn hpj))
  (fun i t hi hp hI=>by
   obtain ⟨r,h1,h2,h3,h4⟩:=hI
   refine ⟨r,h1,h2,h3,fun j hj hjn hpj=>?_⟩
   by_cases e:j=i
   ·subst e; rw [hp] at hpj; cases hpj
   ·exact h4 j (by omega) hjn hpj)
  (fun t hI=>by
   obtain ⟨r,h1,h2,h3,h4⟩:=hI
   refine ⟨t,?_,r,h1,h2,h3,fun i hi hp=>h4 i hi hi hp⟩
   rw [hb]
   dsimp only
   rw [if_neg (by decide)]) ((r0:Int),m0) ⟨r0,rfl,h0,.refl,fun i hi=>by omega⟩
 exact h
end
end Go.Ab
namespace Go.Ab
open Go
set_option maxRecDepth 100000
set_option maxHeartbeats 1000000
section
variable {n:Nat} {S:Nat → Nat} {z x:Nat} (hn:n≤8) (hS:Gd n S) (hz:∀j,z.testBit j=true→j < n) (hx:x < n)
def chN (n:Nat) (S:Nat → Nat) (v:Nat):Nat := msk n fun c=>(S c).testBit v
abbrev grS (n:Nat) (S:Nat → Nat):Qq:=⟨⟨Qe n S⟩,Qe n (chN n S)⟩
include hn hS hz hx
theorem Qap {a:Nat} (h:∀j,a.testBit j=true→j < n):a < 18446744073709551616:=by
 have:=Vs h
 have:(2:Nat)^n≤256:=Nat.pow_le_pow_right (n:=2) (by omega) hn
 omega
theorem Qoq {v:Nat} (hv:v < n):(S v:Int)=((msk n (S v).testBit:Nat):Int):=by
 rw [←Qes (Vs (hS.inn v hv)) fun i _=>rfl]
theorem Qyu {j:Nat} (h:(anZ n S z).testBit j=true):j < n:=Qnc hS.inn hz h
theorem Q2b {d:Int × Bool × Int × Stp→Option (Int × Stp)} {s:Int × Bool × Int × Stp} (hI:Qqe (n:=n) (S:=S) (z:=z) (az:=anZ n S z) (x:=x) s)
  (hd:∀s',Qqe (n:=n) (S:=S) (z:=z) (az:=anZ n S z) (x:=x) s'→unv n s'.2.2.2 < unv n s.2.2.2→∃y,d s'=some y∧Qon (n:=n) (S:=S) (z:=z) (az:=anZ n S z) (x:=x) s' y) :
  ∃y,Zt (z:Int) (grS n S) ((anZ n S z:Nat):Int) d s=some y∧Qon (n:=n) (S:=S) (z:=z) (az:=anZ n S z) (x:=x) s y:=by
 obtain ⟨sv,D,sr,m⟩:=s
 obtain ⟨v,r,h1,hv,h2,hDI,hR⟩:=hI
 dsimp only at h1 h2 hDI hR hd
 subst h1; subst h2
 have z64:=Qap hn hS hz hx hz
 have az64:=Qap hn hS hz hx (fun j hj=>Qyu hn hS hz hx hj)
 have hch:(chN n S v:Int)=((msk n fun c=>(S c).testBit v:Nat):Int):=rfl
 have bitz:∀{a k:Nat},a < 18446744073709551616→k < 64→((zv (zb (Int.fdiv (a:Int) (2^min (Int.toNat (k:Int)) (IntKind.bits .u64))) &&& zb 1).toNat)==0)=!a.testBit k:=fun {a k} ha hk=>by
  rw [Qak ha hk]; cases a.testBit k <;> rfl
 have bito:∀{a k:Nat},a < 18446744073709551616→k < 64→((zv (zb (Int.fdiv (a:Int) (2^min (Int.toNat (k:Int)) (IntKind.bits .u64))) &&& zb 1).toNat)==1)=a.testBit k:=fun {a k} ha hk=>by
  rw [Qak ha hk]; cases a.testBit k <;> rfl
 unfold Zt
 dsimp only
 cases hvis:vis m v D with
 | true =>
  refine ⟨((r:Int),m),?_,v,r,rfl,rfl,hDI,.refl,hvis⟩
  have:(Xb qTseparate_step m ⟨(v:Int),D⟩).getD false=true:=hvis
  rw [if_pos this]
 | false =>
  have hnk:¬ (Xb qTseparate_step m ⟨(v:Int),D⟩).getD false=true:=by
   have:(Xb qTseparate_step m ⟨(v:Int),D⟩).getD false=false:=hvis
   rw [this]; decide
  rw [if_neg hnk,if_pos (Q3 v),bitz z64 (show v < 64 by omega)]
  generalize hm1:kput qTseparate_step m ⟨(v:Int),D⟩ true=m1
  have hv1:∀u e,vis m1 u e=(vis m u e || (decide (u=v) && decide (e=D))):=fun u e=>by rw [←hm1]; exact Qz3
  have le1:∀u e,vis m u e=true→vis m1 u e=true:=fun u e h=>by rw [hv1,h]; rfl
  have hself:vis m1 v D=true:=by rw [hv1]; simp
  have hunv:unv n m1 < unv n m:=Q06 le1 hv hvis hself
  have sd1:∀u e,vis m1 u e=true→Rch S z (anZ n S z) x u e:=fun u e h=>by
   rw [hv1,Bool.or_eq_true,Bool.and_eq_true] at h
   rcases h with h | ⟨h3,h4⟩
   ·exact hDI.sd u e h
   ·rw [of_decide_eq_true h3,of_decide_eq_true h4]; exact hR
  have fin:∀{m2:Stp} {r2:Nat},DI n S z (anZ n S z) x m2 r2→DE n S z (anZ n S z) m1 m2→Suc n S z (anZ n S z) m2 v D→Qon (n:=n) (S:=S) (z:=z) (az:=anZ n S z) (x:=x) ((v:Int),D,(r:Int),m) ((r2:Int),m2):=fun {m2 r2} g1 g2 g3=>by
   refine ⟨v,r2,rfl,rfl,g1,⟨fun u e h=>g2.le u e (le1 u e h),fun u e h k=>?_⟩,g2.le _ _ hself⟩
   cases hu:vis m1 u e with
   | true =>
    rw [hv1,k,Bool.false_or,Bool.and_eq_true] at hu
    rw [of_decide_eq_true hu.1,of_decide_eq_true hu.2]
    exact g3
   | false=>exact g2.new u e h hu
  cases hvz:z.testBit v with
  | false =>
   rw [if_pos (by decide),if_pos (Q3 v),Zy hv,Option.bind_some,hch]
   have hr64:r < 18446744073709551616:=Qap hn hS hz hx fun j hj=>((hDI.rr j).1 hj).1
   rw [K6 (show v < 64 by omega),Jd hr64 (K0 (by omega))]
   have hDI1:DI n S z (anZ n S z) x m1 (r ||| 2^v):=⟨fun u=>by
    rw [Nat.testBit_or,Q1,Bool.or_eq_true,hDI.rr u,hv1,hv1]
    constructor
    ·rintro (⟨g1,g2,g3⟩ | g)
     ·refine ⟨g1,g2,?_⟩
      rcases g3 with g3 | g3
      ·left; rw [g3]; rfl
      ·right; rw [g3]; rfl
     ·have:=of_decide_eq_true g
      subst this
      refine ⟨hv,hvz,?_⟩
      cases D with
      | true=>left; simp
      | false=>right; simp
    ·rintro ⟨g1,g2,g3⟩
     by_cases e:v=u
     ·right; simp [e]
     ·have e':¬ u=v:=fun h=>e h.symm
      left
      refine ⟨g1,g2,?_⟩
      simp only [e',decide_false,Bool.false_and,Bool.or_false] at g3
      exact g3,sd1⟩
   obtain ⟨y1,w1,r1,e1,g1,g2,g3⟩:=Qen (D:=true) (p:=fun c=>(S c).testBit v) hn (M:=unv n m) hd (body:=Ke d) (fun s=>rfl) (fun i _ hp=>.dn hR hvz hp) hDI1 hunv
   rw [w1,Option.bind_some]
   have hs1:z.testBit v=false→∀c,c < n→(S c).testBit v=true→vis y1.2 c true=true:=fun _ c hc hb=>g3 c hc hb
   cases hD:D with
   | true =>
    rw [if_pos rfl,if_pos (Q3 v),bitz az64 (show v < 64 by omega)]
    cases haz:(anZ n S z).testBit v with
    | false =>
     rw [if_pos (by decide)]
     refine ⟨_,rfl,?_⟩
     have:=fin g1 g2 ⟨hs1,fun e=>(by rw [hD] at e; cases e),fun _ e=>(by rw [haz] at e; cases e)⟩
     rw [hD] at this
     rw [e1]; exact this
    | true =>
     rw [if_neg (by decide),Zy hv,Option.bind_some,Qoq hn hS hz hx hv,e1]
     obtain ⟨y2,w2,r2,e2,k1,k2,k3⟩:=Qen (D:=false) (p:=(S v).testBit) hn (M:=unv n m) hd (body:=Kg d) (fun s=>rfl) (fun i _ hp=>.turn (by rw [←hD]; exact hR) haz hp) g1 (Nat.lt_of_le_of_lt (Qrt g2.le) hunv)
     rw [w2,Option.bind_some]
     refine ⟨_,rfl,?_⟩
     have:=fin k1 (g2.trans k2) ⟨fun a c hc hb=>k2.le _ _ (hs1 a c hc hb),fun e=>(by rw [hD] at e; cases e),fun _ _ p hp hb=>k3 p hp hb⟩
     rw [hD] at this
     rw [e2]; exact this
   | false =>
    rw [if_neg (by decide),if_pos (Q3 v),bito z64 (show v < 64 by omega),hvz,if_neg (by decide),Zy hv,Option.bind_some,Qoq hn hS hz hx hv,e1]
    obtain ⟨y2,w2,r2,e2,k1,k2,k3⟩:=Qen (D:=false) (p:=(S v).testBit) hn (M:=unv n m) hd (body:=Kj d) (fun s=>rfl) (fun i _ hp=>.up (by rw [←hD]; exact hR) hvz hp) g1 (Nat.lt_of_le_of_lt (Qrt g2.le) hunv)
    rw [w2,Option.bind_some]
    refine ⟨_,rfl,?_⟩
    have:=fin k1 (g2.trans k2) ⟨fun a c hc hb=>k2.le _ _ (hs1 a c hc hb),fun _ _ p hp hb=>k3 p hp hb,fun e=>(by rw [hD] at e; cases e)⟩
    rw [hD] at this
    rw [e2]; exact this
  | true =>
   rw [if_neg (by decide)]
   have hDI1:DI n S z (anZ n S z) x m1 r:=⟨fun u=>by
    rw [hDI.rr u,hv1,hv1]
    constructor
    ·rintro ⟨g1,g2,g3⟩
     refine ⟨g1,g2,?_⟩
     rcases g3 with g3 | g3
     ·left; rw [g3]; rfl
     ·right; rw [g3]; rfl
    ·rintro ⟨g1,g2,g3⟩
     have e':¬ u=v:=fun h=>by subst h; rw [hvz] at g2; cases g2
     refine ⟨g1,g2,?_⟩
     simp only [e',decide_false,Bool.false_and,Bool.or_false] at g3
     exact g3,sd1⟩
   have hs1:z.testBit v=false→False:=fun e=>by rw [hvz] at e; cases e
   cases hD:D with
   | true =>
    rw [if_pos rfl,if_pos (Q3 v),bitz az64 (show v < 64 by omega)]
    have haz:(anZ n S z).testBit v=true:=Ko n v hvz
    rw [haz,if_neg (by decide),Zy hv,Option.bind_some,Qoq hn hS hz hx hv]
    obtain ⟨y2,w2,r2,e2,k1,k2,k3⟩:=Qen (D:=false) (p:=(S v).testBit) hn (M:=unv n m) hd (body:=Kk d) (fun s=>rfl) (fun i _ hp=>.turn (by rw [←hD]; exact hR) haz hp) hDI1 hunv
    rw [w2,Option.bind_some]
    refine ⟨_,rfl,?_⟩
    have:=fin k1 k2 ⟨fun a=>(hs1 a).elim,fun e=>(by rw [hD] at e; cases e),fun _ _ p hp hb=>k3 p hp hb⟩
    rw [hD] at this
    rw [e2]; exact this
   | false =>
    rw [if_neg (by decide),if_pos (Q3 v),bito z64 (show v < 64 by omega),hvz,if_pos rfl]
    refine ⟨_,rfl,?_⟩
    have:=fin hDI1 .refl ⟨fun a=>(hs1 a).elim,fun _ a=>(hs1 a).elim,fun e=>(by rw [hD] at e; cases e)⟩
    rw [hD] at this
    exact this
theorem Qyb:Qb fuel (Xe (grS n S)) (0,(z:Int))=some ((anZ n S z:Nat):Int):=by
 have hlen:(Qe n S).length=n:=Zs
 have hfull:=Kv n hS.inn
 have hs0:Zh z (2^n - 1):=fun j hj=>by rw [Nat.testBit_two_pow_sub_one]; simpa using hz j hj
 have hlt:∀{t:Nat},Zh t (2^n - 1)→t < 18446744073709551616:=fun h=>Qap hn hS hz hx fun j hj=>by have:=h j hj; rw [Nat.testBit_two_pow_sub_one] at this; simpa using this
 have inner:∀t,Zh t (2^n - 1)→Qb fuel (Xf (grS n S)) ((0:Int),(t:Int))=some ((upR n S t:Nat):Int):=fun t ht=>by
  have h:=X5 (n:=n) (k0:=0) (by omega) (by omega) (fun i (x:Int)=>(i,x)) (body:=Xf (grS n S)) (fun k=>(((List.range k).foldl (upV S) t:Nat):Int)) ((upR n S t:Nat):Int)
   (fun k _ hk=>by
    have hsub:=Qgv (S:=S) (T:=2^n - 1) (List.range k) t (fun v hv=>hfull v (by have:=List.mem_range.1 hv; omega)) ht
    unfold Xf
    dsimp only
    rw [hlen,if_pos (dlt hk),Zy hk,Option.bind_some,if_pos (Q3 k),Qak (hlt hsub) (by omega),List.range_succ,List.foldl_append]
    simp only [List.foldl_cons,List.foldl_nil]
    generalize (List.range k).foldl (upV S) t=q at *
    unfold upV
    cases c:q.testBit k with
    | true =>
     rw [if_pos (by rfl),if_pos rfl,Jd (hlt hsub) (Qap hn hS hz hx (hS.inn k hk))]
    | false=>rw [if_neg (by decide),if_neg (by decide)])
   (by unfold Xf; dsimp only; rw [hlen,if_neg (nlt n)]; rfl)
  rw [show ((0:Nat):Int)=0 from rfl] at h
  exact h
 have h:=X5 (n:=n) (k0:=0) (by omega) (by omega) (fun i (x:Int)=>(i,x)) (body:=Xe (grS n S)) (fun k=>((ups n S k z:Nat):Int)) ((ups n S n z:Nat):Int)
  (fun k _ hk=>by
   unfold Xe
   dsimp only
   rw [hlen,if_pos (dlt hk),inner _ (Ve hfull hs0 k)]; rfl)
  (by unfold Xe; dsimp only; rw [hlen,if_neg (nlt n)])
 rw [show ((0:Nat):Int)=0 from rfl] at h
 exact h
theorem Qvb:∃r:Nat,Yw (grS n S) ((2^x:Nat):Int) (z:Int)=some (r:Int)∧∀u,r.testBit u=true↔(u < n∧z.testBit u=false∧∃d,Rch S z (anZ n S z) x u d):=by
 have hzero:DI n S z (anZ n S z) x ([]:Stp) 0:=⟨fun u=>by simp [vis,Xb],fun u e h=>by simp [vis,Xb] at h⟩
 have hpx:((2^x:Nat):Int)=((msk n fun i=>decide (x=i):Nat):Int):=by
  congr 1
  exact Qes (Nat.pow_lt_pow_right (by omega) hx) fun i _=>Q1 x i
 have hrec:∀s,Qqe (n:=n) (S:=S) (z:=z) (az:=anZ n S z) (x:=x) s→∃y,Qin (Zt (z:Int) (grS n S) ((anZ n S z:Nat):Int)) fuel s=some y∧Qon (n:=n) (S:=S) (z:=z) (az:=anZ n S z) (x:=x) s y:=fun s hs =>
  Qpb (F:=Zt (z:Int) (grS n S) ((anZ n S z:Nat):Int)) (Qqe (n:=n) (S:=S) (z:=z) (az:=anZ n S z) (x:=x)) (fun s=>unv n s.2.2.2) (Qon (n:=n) (S:=S) (z:=z) (az:=anZ n S z) (x:=x))
   (fun d s hs hd=>Q2b hn hS hz hx hs hd) fuel s hs (by
    have:unv n s.2.2.2≤2*n:=Qri _ _
    show unv n s.2.2.2 < fuel
    unfold fuel; omega)
 obtain ⟨y,w,r,e1,g1,g2,g3⟩:=Qen (S:=S) (z:=z) (az:=anZ n S z) (x:=x) (D:=false) (p:=fun i=>decide (x=i)) hn (M:=unv n ([]:Stp)+1) (d:=Qin (Zt (z:Int) (grS n S) ((anZ n S z:Nat):Int)) fuel) (fun s' hs' _=>hrec s' hs')
  (body:=Ki (z:Int) (grS n S) ((anZ n S z:Nat):Int)) (fun s=>rfl) (fun i _ hp=>by have:=of_decide_eq_true hp; subst this; exact .start) hzero (by omega)
 refine ⟨r,?_,fun u=>?_⟩
 ·unfold Yw
  rw [Qyb hn hS hz hx,Option.bind_some,hpx]
  rw [show ((0:Nat):Int)=0 from rfl] at w
  rw [w,Option.bind_some,e1]
 ·rw [g1.rr u]
  constructor
  ·rintro ⟨h1,h2,h3⟩
   refine ⟨h1,h2,?_⟩
   rcases h3 with h3 | h3
   ·exact ⟨_,g1.sd u true h3⟩
   ·exact ⟨_,g1.sd u false h3⟩
  ·rintro ⟨h1,h2,d,h3⟩
   refine ⟨h1,h2,?_⟩
   have hall:∀u e,Rch S z (anZ n S z) x u e→u < n→vis y.2 u e=true:=fun u e h=>by
    have hsuc:∀u e,vis y.2 u e=true→Suc n S z (anZ n S z) y.2 u e:=fun u e h=>g2.new u e h (by simp [vis,Xb])
    have key:(vis y.2 u e=true∧u < n)∨(n≤u∧e=true):=by
     induction h with
     | start=>exact .inl ⟨g3 x hx (decide_eq_true rfl),hx⟩
     | @up v p hr hv hp ih =>
      rcases ih with ⟨ih,hvn⟩ | ⟨_,ih⟩
      ·have hpn:=hS.inn v hvn p hp
       exact .inl ⟨(hsuc v false ih).2.1 rfl hv p hpn hp,hpn⟩
      ·cases ih
     | @dn v c d hr hv hc ih =>
      by_cases hcn:c < n
      ·have hvn:=hS.inn c hcn v hc
       rcases ih with ⟨ih,_⟩ | ⟨ih,_⟩
       ·exact .inl ⟨(hsuc v d ih).1 hv c hcn hc,hcn⟩
       ·omega
      ·exact .inr ⟨by omega,rfl⟩
     | @turn v p hr hv hp ih =>
      have hvn:=Qyu hn hS hz hx hv
      rcases ih with ⟨ih,_⟩ | ⟨ih,_⟩
      ·have hpn:=hS.inn v hvn p hp
       exact .inl ⟨(hsuc v true ih).2.2 rfl hv p hpn hp,hpn⟩
      ·omega
    intro hu
    rcases key with h | h
    ·exact h.1
    ·omega
   cases d with
   | true=>exact .inl (hall u true h3 h1)
   | false=>exact .inr (hall u false h3 h1)
end
end Go.Ab
namespace Go.Ab
open Go
set_option maxRecDepth 100000
set_option maxHeartbeats 1000000
section
variable {n:Nat} {S:Nat → Nat} (hn1:1≤n) (hn:n≤8) (hS:Gd n S)
theorem Q1w {b:Bool} {i:Nat} (hi:i < 64):zv ((b.toNat : Int)*2^min (Int.toNat (i:Int)) (IntKind.bits .u64))=(((if b=true then 2^i else 0:Nat)):Int):=by
 cases b with
 | true=>exact K6 hi
 | false=>simp; rfl
def chP (n:Nat) (S:Nat → Nat) (i p u:Nat):Nat := msk n fun c=>(decide (c < i) || (decide (c=i) && decide (u < p))) && (S c).testBit u
include hn hS
theorem Q17 {i p u:Nat}:chP n S i p u < 18446744073709551616:=by
 have:=Qe8 n fun c=>(decide (c < i) || (decide (c=i) && decide (u < p))) && (S c).testBit u
 have:(2:Nat)^n≤256:=Nat.pow_le_pow_right (n:=2) (by omega) hn
 unfold chP; omega
theorem Qxd {i p:Nat} (hi:i < n) (u:Nat):(if u=p then chP n S i p p ||| (if (S i).testBit p=true then 2^i else 0) else chP n S i p u)=chP n S i (p+1) u:=by
 by_cases e:u=p
 ·subst e
  rw [if_pos rfl]
  apply Nat.eq_of_testBit_eq
  intro c
  unfold chP
  rw [Nat.testBit_or,Zk,Zk]
  by_cases h:c=i
  ·subst h
   cases hb:(S c).testBit u <;> simp [hi,hb,Q1]
  ·have h':¬ i=c:=fun e=>h e.symm
   cases hb:(S i).testBit u <;> simp [h,h',Q1]
 ·rw [if_neg e]
  unfold chP
  refine Xr fun c _=>?_
  have:decide (u < p+1)=decide (u < p):=by rw [Bool.eq_iff_iff]; simp; omega
  rw [this]
theorem Qwu:Qb fuel (Yz (Qe n S)) (0,List.replicate n (0:Int))=some (.inr (Qe n (chN n S))):=by
 have hlen:(Qe n S).length=n:=Zs
 have h64:=Qn4 hn hS
 have inner:∀i,i < n→∀s:Int × List Int,s.1=(i:Int)→Qb fuel (Y2 (Qe n S) s (S i:Int)) (0,Qe n (chP n S i 0))=some (Qe n (chP n S i n)):=fun i hi s hs=>by
  have h:=X5 (n:=n) (k0:=0) (by omega) (by omega) (fun i (x:List Int)=>(i,x)) (body:=Y2 (Qe n S) s (S i:Int)) (fun p=>Qe n (chP n S i p)) (Qe n (chP n S i n))
   (fun p _ hp=>by
    unfold Y2
    dsimp only
    rw [hlen,if_pos (dlt hp),Zy hp,Option.bind_some,if_pos (Q3 p),hs,if_pos (Q3 i),Qak (h64 i hi) (by omega),Q1w (by omega),Jd (Q17 hn hS) (by
     split
     ·exact K0 (by omega)
     ·omega),Int.toNat_natCast,Ql8]
    refine congrArg (fun F=>some (Qh.next (zw ((p:Int)+1),Qe n F))) ?_
    funext u
    exact Qxd hn hS hi u)
   (by unfold Y2; dsimp only; rw [hlen,if_neg (nlt n)])
  rw [show ((0:Nat):Int)=0 from rfl] at h
  exact h
 have hz:List.replicate n (0:Int)=Qe n (chP n S 0 0):=by
  have e:∀u,chP n S 0 0 u=0:=fun u=>by
   unfold chP
   have:(msk n fun c=>(decide (c < 0) || (decide (c=0) && decide (u < 0))) && (S c).testBit u)=msk n fun _=>false:=Xr fun c _=>by simp
   rw [this]
   have:∀m,msk m (fun _=>false)=0:=fun m=>by
    induction m with
    | zero=>rfl
    | succ m ih=>simp [msk,ih]
   exact this n
  apply List.ext_getElem
  ·simp [Qe,Qav]
  ·intro k h1 h2
   simp [Qe,Qav,e]
 have h:=X5 (n:=n) (k0:=0) (by omega) (by omega) (fun i (x:List Int)=>(i,x)) (body:=Yz (Qe n S)) (fun k=>Qe n (chP n S k 0)) (.inr (Qe n (chN n S)))
  (fun i _ hi=>by
   unfold Yz
   dsimp only
   rw [hlen,if_pos (dlt hi),Zy hi,Option.bind_some,if_pos (Q3 n),Qbf (by omega),if_neg (by
    have:=Vs (hS.inn i hi)
    simpa using this),inner i hi _ rfl,Option.bind_some]
   refine congrArg (fun F=>some (Qh.next (zw ((i:Int)+1),Qe n F))) ?_
   funext u
   unfold chP
   refine Xr fun c _=>?_
   by_cases hc:c < i
   ·have:c < i+1:=by omega
    simp [hc,this]
   ·by_cases hc2:c=i
    ·subst hc2
     cases hb:(S c).testBit u with
     | true=>have:=hS.inn c hi u hb; simp [this]
     | false=>simp
    ·have:¬ c < i+1:=by omega
     simp [hc,hc2,this])
  (by
   unfold Yz
   dsimp only
   rw [hlen,if_neg (nlt n)]
   refine congrArg (fun F=>some (Qh.done (Sum.inr (Qe n F)))) ?_
   funext u
   unfold chP chN
   refine Xr fun c hc=>?_
   simp [hc])
 rw [show ((0:Nat):Int)=0 from rfl,←hz] at h
 exact h
theorem Qup:Qb fuel (Y3 (Qe n S)) (0,0)=some (.inr ()):=by
 have hlen:(Qe n S).length=n:=Zs
 have h64:=Qn4 hn hS
 obtain ⟨r,hr⟩:=Qzl hS
 have p64:∀{P:Nat},(∀j,P.testBit j=true→j < n)→P < 18446744073709551616:=fun h=>by
  have:=Vs h
  have:(2:Nat)^n≤256:=Nat.pow_le_pow_right (n:=2) (by omega) hn
  omega
 have h:=Qa3 (n:=n) (k0:=0) (by omega) (by omega) (fun i (x:Int)=>(x,i)) (body:=Y3 (Qe n S)) (fun k x=>∃P:Nat,x=(P:Int)∧(∀j,P.testBit j=true→j < n)∧cnt n P.testBit=k) (fun r=>r=.inr ())
  (fun k x _ hk hI=>by
   left
   obtain ⟨P,rfl,hP,hc⟩:=hI
   have hex:∃v,v < n∧P.testBit v=false∧Zh (S v) P:=by
    have hun:∃v,v < n∧P.testBit v=false:=by
     apply Classical.byContradiction
     intro hno
     have:cnt n P.testBit=cnt n (fun _=>true):=Qjl fun i hi=>by
      cases hb:P.testBit i with
      | true=>rfl
      | false=>exact absurd ⟨i,hi,hb⟩ hno
     have hall:∀m,cnt m (fun _=>true)=m:=fun m=>by
      induction m with
      | zero=>rfl
      | succ m ih=>simp [cnt,ih]
     rw [hall] at this; omega
    have key:∀c v,v < n→P.testBit v=false→r v=c→∃v,v < n∧P.testBit v=false∧Zh (S v) P:=by
     intro c
     induction c using Nat.strongRecOn with
     | _ c ih =>
      intro v hv hb hc
      by_cases hs:Zh (S v) P
      ·exact ⟨v,hv,hb,hs⟩
      ·obtain ⟨j,hj,hjp⟩:∃j,(S v).testBit j=true∧P.testBit j=false:=by
        apply Classical.byContradiction
        intro hno
        refine hs fun j hj=>?_
        cases hb2:P.testBit j with
        | true=>rfl
        | false=>exact absurd ⟨j,hj,hb2⟩ hno
       have:=hr v hv j hj
       exact ih (r j) (by omega) j (hS.inn v hv j hj) hjp rfl
    obtain ⟨v,hv,hb⟩:=hun
    exact key _ v hv hb rfl
   have hl:=Qa3 (n:=n) (k0:=0) (by omega) (by omega) (fun i (_:Unit)=>i) (body:=V4 (Qe n S) ((P:Int),(k:Int))) (fun k _=>∀v,v < k→¬ (P.testBit v=false∧Zh (S v) P)) (fun r=>∃v,v < n∧P.testBit v=false∧r=.inl ((P ||| 2^v:Nat):Int))
    (fun v _ _ hv hI=>by
     have e:V4 (Qe n S) ((P:Int),(k:Int)) (v:Int)=if P.testBit v=false∧Qj7 (S v) P=true then some (.done (.inl ((P ||| 2^v:Nat):Int))) else some (.next (zw ((v:Int)+1))):=by
      unfold V4
      dsimp only
      rw [hlen,if_pos (dlt hv),Zy hv,Option.bind_some,if_pos (Q3 v),Qak (p64 hP) (by omega),Qyx (h64 v hv) (p64 hP)]
      cases hb:P.testBit v with
      | true=>simp
      | false =>
       rw [if_pos (by rfl)]
       cases hsb:Qj7 (S v) P with
       | true =>
        rw [if_pos rfl,if_pos (Q3 v),K6 (by omega),Jd (p64 hP) (K0 (by omega)),if_pos ⟨rfl,rfl⟩]
       | false=>simp
     by_cases hg:P.testBit v=false∧Qj7 (S v) P=true
     ·right
      exact ⟨_,by rw [e,if_pos hg],v,hv,hg.1,rfl⟩
     ·left
      refine ⟨(),by rw [e,if_neg hg],fun w hw hg2=>?_⟩
      by_cases e2:w=v
      ·subst e2; exact hg ⟨hg2.1,Qh9.2 hg2.2⟩
      ·exact hI w (by omega) hg2)
    (fun _ hI=>by
     obtain ⟨v,h1,h2,h3⟩:=hex
     exact absurd ⟨h2,h3⟩ (hI v h1)) () (fun v hv=>by omega)
   obtain ⟨y,h1,v,hv,hb,rfl⟩:=hl
   rw [show ((0:Nat):Int)=0 from rfl] at h1
   refine ⟨((P ||| 2^v:Nat):Int),?_,P ||| 2^v,rfl,fun j hj=>?_,?_⟩
   ·unfold Y3
    dsimp only
    rw [hlen,if_pos (dlt hk),h1]; rfl
   ·rw [Nat.testBit_or,Q1,Bool.or_eq_true] at hj
    rcases hj with hj | hj
    ·exact hP j hj
    ·have:=of_decide_eq_true hj; omega
   ·have e:=Qk7 (n:=n) (v:=v) (p:=(P ||| 2^v).testBit) hv (by rw [Nat.testBit_or,Q1]; simp)
    rw [←e]
    congr 1
    rw [←hc]
    refine Qjl fun i _=>?_
    rw [Nat.testBit_or,Q1]
    by_cases e2:v=i
    ·subst e2; simp [hb]
    ·simp [e2])
  (fun x _=>⟨_,by unfold Y3; dsimp only; rw [hlen,if_neg (nlt n)],rfl⟩) 0 ⟨0,rfl,fun j hj=>by simp at hj,by
   have:∀m,cnt m (0:Nat).testBit=0:=fun m=>Qyh fun i _=>Nat.zero_testBit i
   exact this n⟩
 obtain ⟨y,h1,rfl⟩:=h
 exact h1
include hn1
theorem Qxz:Kf (Qe n S)=some (grS n S,0):=by
 have hlen:(Qe n S).length=n:=Zs
 unfold Kf
 rw [hlen,if_neg (by simp; omega),if_neg (by simp; omega),if_pos (by omega),Int.toNat_natCast,Qwu hn hS,Option.bind_some]
 dsimp only
 rw [Qup hn hS,Option.bind_some]
theorem Qrr {a b:Nat} (ha:a < 18446744073709551616) (hb:b < 18446744073709551616):((zv (zb (a:Int) &&& zb (b:Int)).toNat)==0)=(a &&& b==0):=by
 rw [BitVec.toNat_and,Kn ha,Kn hb,Kz (Nat.lt_of_le_of_lt Nat.and_le_left ha)]
 rw [Bool.eq_iff_iff,beq_iff_eq,beq_iff_eq]
 exact ⟨fun h=>by exact_mod_cast h,fun h=>by rw [h]; rfl⟩
theorem Qtw {a b:Nat}:(a &&& b==0)=true↔∀j,¬ (a.testBit j=true∧b.testBit j=true):=by
 rw [beq_iff_eq]
 constructor
 ·intro h j ⟨h1,h2⟩
  have:(a &&& b).testBit j=false:=by rw [h]; exact Nat.zero_testBit j
  rw [Nat.testBit_and,h1,h2] at this; cases this
 ·intro h
  apply Nat.eq_of_testBit_eq
  intro j
  rw [Nat.testBit_and,Nat.zero_testBit,Bool.eq_false_iff]
  intro hb
  rw [Bool.and_eq_true] at hb
  exact h j hb
variable {x y z:Nat} (hx:x < n) (hy:y < n) (hxy:x≠y) (hz:∀j,z.testBit j=true→j < n) (hxz:z.testBit x=false) (hyz:z.testBit y=false)
include hx hy hxy hz hxz hyz
theorem Qqi:Yb (grS n S) [((2^x:Nat):Int),((2^y:Nat):Int),(z:Int)]=some true:=by
 have hlen:(Qe n S).length=n:=Zs
 have z64:=Qap hn hS hz hx hz
 have px:∀j,(2^x).testBit j=true→j=x:=fun j hj=>by rw [Q1] at hj; exact (of_decide_eq_true hj).symm
 have py:∀j,(2^y).testBit j=true→j=y:=fun j hj=>by rw [Q1] at hj; exact (of_decide_eq_true hj).symm
 have x64:=K0 (show x < 64 by omega)
 have y64:=K0 (show y < 64 by omega)
 have ltx:2^x < 2^n:=Nat.pow_lt_pow_right (by omega) hx
 have lty:2^y < 2^n:=Nat.pow_lt_pow_right (by omega) hy
 have ltz:z < 2^n:=Vs hz
 have h:=X5 (n:=3) (k0:=0) (by omega) (by omega) (fun i (t:Int)=>(t,i)) (body:=Z1 [((2^x:Nat):Int),((2^y:Nat):Int),(z:Int)] (grS n S))
  (fun k=>((match k with | 0=>0 | 1=>2^x | 2=>2^x ||| 2^y | _=>2^x ||| 2^y ||| z:Nat):Int)) (Sum.inr ())
  (fun k _ hk=>by
   unfold Z1
   dsimp only
   rw [if_pos (decide_eq_true (by simp; omega))]
   have hnz:∀{a b:Nat},a < 18446744073709551616→b < 18446744073709551616→(∀j,¬ (a.testBit j=true∧b.testBit j=true))→¬ ((zv (zb (a:Int) &&& zb (b:Int)).toNat) != 0)=true:=fun {a b} ha hb h=>by
    have:=Qrr hn1 hn hS ha hb
    rw [(Qtw hn1 hn hS).2 h] at this
    rw [bne,this]; decide
   match k,hk with
   | 0,_ =>
    rw [X3 (by simp),Option.bind_some]
    simp only [List.getElem_cons_zero,List.getElem_cons_succ]
    rw [hlen,if_pos (Q3 n),Qbf (by omega),if_neg (by simpa using ltx)]
    rw [if_neg (hnz x64 (show 0 < 18446744073709551616 by omega) (fun j h=>by simp at h)),Jd (show 0 < 18446744073709551616 by omega) x64,Nat.zero_or]
   | 1,_ =>
    rw [X3 (by simp),Option.bind_some]
    simp only [List.getElem_cons_zero,List.getElem_cons_succ]
    rw [hlen,if_pos (Q3 n),Qbf (by omega),if_neg (by simpa using lty)]
    rw [if_neg (hnz y64 x64 (fun j h=>hxy ((px j h.2).symm.trans (py j h.1)))),Jd x64 y64]
   | 2,_ =>
    rw [X3 (by simp),Option.bind_some]
    simp only [List.getElem_cons_zero,List.getElem_cons_succ]
    rw [hlen,if_pos (Q3 n),Qbf (by omega),if_neg (by simpa using ltz)]
    rw [if_neg (hnz z64 (Nat.or_lt_two_pow (n:=64) x64 y64) (fun j h=>by
     rw [Nat.testBit_or,Bool.or_eq_true] at h
     rcases h.2 with e | e
     ·rw [px j e,hxz] at h; cases h.1
     ·rw [py j e,hyz] at h; cases h.1)),Jd (Nat.or_lt_two_pow (n:=64) x64 y64) z64])
  (by unfold Z1; dsimp only; rw [if_neg (by simp)])
 rw [show ((0:Nat):Int)=0 from rfl] at h
 unfold Yb
 have h':Qb fuel (Z1 [((2^x:Nat):Int),((2^y:Nat):Int),(z:Int)] (grS n S)) (0,0)=some (Sum.inr ()):=h
 rw [h']; rfl
theorem Qu9:Ju (Qe n S) ((2^x:Nat):Int) ((2^y:Nat):Int) (z:Int)=some (!(seenS n S x y z).testBit y,0):=by
 obtain ⟨r,h1,h2⟩:=Qvb (x:=x) (z:=z) hn hS hz hx
 unfold Ju
 rw [Qxz hn1 hn hS,Option.bind_some]
 dsimp only
 rw [if_neg (by decide)]
 rw [Qqi hn1 hn hS hx hy hxy hz hxz hyz,Option.bind_some,if_neg (by decide),h1,Option.bind_some]
 have r64:r < 18446744073709551616:=Qap hn hS hz hx fun j hj=>((h2 j).1 hj).1
 rw [Qrr hn1 hn hS r64 (K0 (by omega))]
 congr 2
 rw [Bool.eq_iff_iff,Qtw hn1 hn hS]
 have hs:=Qzx (x:=x) (y:=y) hS hz hx hy hxz hyz
 rw [Bool.not_eq_true',←Bool.not_eq_true,hs]
 constructor
 ·intro h hd
  exact h y ⟨(h2 y).2 ⟨hy,hyz,hd⟩,by rw [Q1]; simp⟩
 ·rintro h j ⟨g1,g2⟩
  rw [Q1] at g2
  have:=of_decide_eq_true g2
  subst this
  exact h ((h2 _).1 g1).2.2
def jnP (n:Nat) (S:Nat → Nat) (an b a u:Nat):Nat := msk n fun w=>(List.range n).any fun k=>(decide (k < b) || (decide (k=b) && decide (u < a))) && an.testBit k && ((S k).testBit u || decide (k=u)) && ((S k).testBit w || decide (k=w))
omit hn1 hS hx hy hxy hz hxz hyz in
theorem Qwz {an b a u:Nat}:jnP n S an b a u < 18446744073709551616:=by
 have:=Qe8 n fun w=>(List.range n).any fun k=>(decide (k < b) || (decide (k=b) && decide (u < a))) && an.testBit k && ((S k).testBit u || decide (k=u)) && ((S k).testBit w || decide (k=w))
 have:(2:Nat)^n≤256:=Nat.pow_le_pow_right (n:=2) (by omega) hn
 unfold jnP; omega
omit hn1 hx hy hxy hz hxz hyz in
theorem Qhi {b w:Nat}:(S b ||| 2^b).testBit w=((S b).testBit w || decide (b=w)):=by rw [Nat.testBit_or,Q1]
omit hn1 hx hy hxy hz hxz hyz in
theorem Qyi {an b a:Nat} (hb:b < n) (ha:a < n) (u:Nat):(if u=a then (if an.testBit b=true∧(S b ||| 2^b).testBit a=true then jnP n S an b a a ||| (S b ||| 2^b) else jnP n S an b a a) else jnP n S an b a u)=jnP n S an b (a+1) u:=by
 by_cases e:u=a
 ·subst e
  rw [if_pos rfl]
  apply Nat.eq_of_testBit_eq
  intro w
  have hfam:∀w,(S b ||| 2^b).testBit w=true→w < n:=fun w h=>by
   rw [Qhi hn hS,Bool.or_eq_true] at h
   rcases h with h | h
   ·exact hS.inn b hb w h
   ·have:=of_decide_eq_true h; omega
  have key:(jnP n S an b (u+1) u).testBit w=true↔(jnP n S an b u u).testBit w=true∨(an.testBit b=true∧(S b ||| 2^b).testBit u=true∧(S b ||| 2^b).testBit w=true):=by
   unfold jnP
   rw [Zk,Zk]
   simp only [Bool.and_eq_true,decide_eq_true_eq,List.any_eq_true,List.mem_range,Bool.or_eq_true]
   constructor
   ·rintro ⟨hw,k,hk,⟨⟨h1,h2⟩,h3⟩,h4⟩
    rcases h1 with h1 | ⟨h1,_⟩
    ·exact .inl ⟨hw,k,hk,⟨⟨.inl h1,h2⟩,h3⟩,h4⟩
    ·subst h1
     refine .inr ⟨h2,?_,?_⟩
     ·rw [Qhi hn hS,Bool.or_eq_true,decide_eq_true_eq]; exact h3
     ·rw [Qhi hn hS,Bool.or_eq_true,decide_eq_true_eq]; exact h4
   ·rintro (⟨hw,k,hk,⟨⟨h1,h2⟩,h3⟩,h4⟩ | ⟨h2,h3,h4⟩)
    ·refine ⟨hw,k,hk,⟨⟨?_,h2⟩,h3⟩,h4⟩
     rcases h1 with h1 | h1
     ·exact .inl h1
     ·exact .inr ⟨h1.1,by omega⟩
    ·refine ⟨hfam w h4,b,hb,⟨⟨.inr ⟨rfl,by omega⟩,h2⟩,?_⟩,?_⟩
     ·rw [Qhi hn hS,Bool.or_eq_true,decide_eq_true_eq] at h3; exact h3
     ·rw [Qhi hn hS,Bool.or_eq_true,decide_eq_true_eq] at h4; exact h4
  rw [Bool.eq_iff_iff,key]
  split
  ·rename_i hc
   rw [Nat.testBit_or,Bool.or_eq_true]
   constructor
   ·rintro (h | h)
    ·exact .inl h
    ·exact .inr ⟨hc.1,hc.2,h⟩
   ·rintro (h | h)
    ·exact .inl h
    ·exact .inr h.2.2
  ·rename_i hc
   constructor
   ·exact .inl
   ·rintro (h | h)
    ·exact h
    ·exact absurd ⟨h.1,h.2.1⟩ hc
 ·rw [if_neg e]
  unfold jnP
  refine Xr fun w _=>?_
  have:decide (u < a+1)=decide (u < a):=by rw [Bool.eq_iff_iff]; simp; omega
  rw [this]
omit hn1 hx hy hxy hz hxz hyz in
theorem Qw5 {an:Nat} (han:∀j,an.testBit j=true→j < n):Qb fuel (Yv (Qe n S) (an:Int)) (0,List.replicate n (0:Int))=some (Qe n (jnP n S an n 0)):=by
 have hlen:(Qe n S).length=n:=Zs
 have h64:=Qn4 hn hS
 have an64:an < 18446744073709551616:=by
  have:=Vs han
  have:(2:Nat)^n≤256:=Nat.pow_le_pow_right (n:=2) (by omega) hn
  omega
 have inner:∀b,b < n→∀s:Int × List Int,s.1=(b:Int)→Qb fuel (Vx (Qe n S) (an:Int) s (S b:Int)) (0,Qe n (jnP n S an b 0))=some (Qe n (jnP n S an b n)):=fun b hb s hs=>by
  have f64:S b ||| 2^b < 18446744073709551616:=Nat.or_lt_two_pow (n:=64) (h64 b hb) (K0 (by omega))
  have h:=X5 (n:=n) (k0:=0) (by omega) (by omega) (fun i (x:List Int)=>(i,x)) (body:=Vx (Qe n S) (an:Int) s (S b:Int)) (fun a=>Qe n (jnP n S an b a)) (Qe n (jnP n S an b n))
   (fun a _ ha=>by
    have hst:Qe n (jnP n S an b (a+1))=Qe n fun u=>if u=a then (if an.testBit b=true∧(S b ||| 2^b).testBit a=true then jnP n S an b a a ||| (S b ||| 2^b) else jnP n S an b a a) else jnP n S an b a u:=by
     congr 1; funext u; exact (Qyi hn hS hb ha u).symm
    have hid:∀F:Nat → Nat,(Qe n fun u=>if u=a then F a else F u)=Qe n F:=fun F=>by
     congr 1; funext u
     by_cases e:u=a
     ·rw [if_pos e,e]
     ·rw [if_neg e]
    unfold Vx
    dsimp only
    rw [hlen,if_pos (dlt ha),hs,Qdn an64 (by omega),Option.bind_some,K6 (show b < 64 by omega),Jd (h64 b hb) (K0 (by omega)),hst]
    cases c1:an.testBit b with
    | false =>
     rw [if_neg (by decide)]
     simp only [Bool.false_eq_true,false_and,if_false]
     rw [hid]
    | true =>
     rw [if_pos rfl,Qdn f64 (by omega),Option.bind_some]
     cases c2:(S b ||| 2^b).testBit a with
     | false =>
      rw [if_neg (by decide)]
      simp only [Bool.false_eq_true,and_false,if_false]
      rw [hid]
     | true =>
      rw [if_pos rfl,Zy ha,Option.bind_some,Jd (Qwz hn) f64,Int.toNat_natCast,Ql8]
      simp only [and_self,if_true])
   (by unfold Vx; dsimp only; rw [hlen,if_neg (nlt n)])
  rw [show ((0:Nat):Int)=0 from rfl] at h
  exact h
 have hzr:List.replicate n (0:Int)=Qe n (jnP n S an 0 0):=by
  have e:∀u,jnP n S an 0 0 u=0:=fun u=>by
   unfold jnP
   have:(msk n fun w=>(List.range n).any fun k=>(decide (k < 0) || (decide (k=0) && decide (u < 0))) && an.testBit k && ((S k).testBit u || decide (k=u)) && ((S k).testBit w || decide (k=w)))=msk n fun _=>false:=Xr fun c _=>by simp
   rw [this]
   have:∀m,msk m (fun _=>false)=0:=fun m=>by
    induction m with
    | zero=>rfl
    | succ m ih=>simp [msk,ih]
   exact this n
  apply List.ext_getElem
  ·simp [Qe,Qav]
  ·intro k h1 h2
   simp [Qe,Qav,e]
 have h:=X5 (n:=n) (k0:=0) (by omega) (by omega) (fun i (x:List Int)=>(i,x)) (body:=Yv (Qe n S) (an:Int)) (fun k=>Qe n (jnP n S an k 0)) (Qe n (jnP n S an n 0))
  (fun b _ hb=>by
   unfold Yv
   dsimp only
   rw [hlen,if_pos (dlt hb),Zy hb,Option.bind_some,if_pos (Q3 b),inner b hb _ rfl,Option.bind_some]
   refine congrArg (fun F=>some (Qh.next (zw ((b:Int)+1),F))) ?_
   unfold Qe Qav
   refine List.map_congr_left fun u hu=>?_
   have hu:=List.mem_range.1 hu
   congr 1
   unfold jnP
   refine Xr fun w _=>?_
   congr 1
   funext k
   have:(decide (k < b) || (decide (k=b) && decide (u < n)))=(decide (k < b+1) || (decide (k=b+1) && decide (u < 0))):=by
    rw [Bool.eq_iff_iff]; simp [hu]; omega
   rw [this])
  (by unfold Yv; dsimp only; rw [hlen,if_neg (nlt n)])
 rw [show ((0:Nat):Int)=0 from rfl,←hzr] at h
 exact h
theorem Qps:Qam (Qe n S) (x:Int) (y:Int) (z:Int)=some (!(seenS n S x y z).testBit y):=by
 have hlen:(Qe n S).length=n:=Zs
 have z64:=Qap hn hS hz hx hz
 have x64:=K0 (show x < 64 by omega)
 have y64:=K0 (show y < 64 by omega)
 have hst:∀j,(2^x ||| 2^y ||| z).testBit j=true→j < n:=fun j hj=>Qp0 hS hz hx hy hxz hyz hj
 have anl:∀j,(anS n S x y z).testBit j=true→j < n:=fun j hj=>Qnf hS hz hx hy hxz hyz hj
 have an64:=Qap hn hS hz hx anl
 have jl:∀v,v < n→∀j,(jo n S (anS n S x y z) z v).testBit j=true→j < n:=fun v _ j hj=>Quh hS hz hx hy hxz hyz hj
 have hval:∀a,a < n→zv (zb (zv (zb ((jnP n S (anS n S x y z) n 0 a:Nat):Int) &&& zb ((anS n S x y z:Nat):Int)).toNat) &&& ~~~ zb (z:Int)).toNat = ((jo n S (anS n S x y z) z a:Nat):Int):=fun a ha=>by
  have j64:=Qwz (S:=S) (an:=anS n S x y z) (b:=n) (a:=0) (u:=a) hn
  have e1:zv (zb ((jnP n S (anS n S x y z) n 0 a:Nat):Int) &&& zb ((anS n S x y z:Nat):Int)).toNat = ((jnP n S (anS n S x y z) n 0 a &&& anS n S x y z:Nat):Int):=by
   rw [BitVec.toNat_and,Kn j64,Kn an64,Kz (Nat.lt_of_le_of_lt Nat.and_le_left j64)]
  rw [e1]
  have al:(jnP n S (anS n S x y z) n 0 a &&& anS n S x y z) < 2^n:=Nat.lt_of_le_of_lt Nat.and_le_left (Qe8 n _)
  rw [Qvf (n:=n) (p:=(jnP n S (anS n S x y z) n 0 a &&& anS n S x y z).testBit) (q:=z.testBit) (by omega) al z64 (fun _ _=>rfl) (fun _ _=>rfl)]
  congr 1
  unfold jo
  refine Xr fun w hw=>?_
  rw [Nat.testBit_and]
  unfold jnP
  rw [Zk]
  have e:((List.range n).any fun k=>(decide (k < n) || (decide (k=n) && decide (a < 0))) && (anS n S x y z).testBit k && ((S k).testBit a || decide (k=a)) && ((S k).testBit w || decide (k=w)))=((List.range n).any fun k=>(anS n S x y z).testBit k && ((S k).testBit a || decide (k=a)) && ((S k).testBit w || decide (k=w))):=by
   rw [Bool.eq_iff_iff,List.any_eq_true,List.any_eq_true]
   constructor
   ·rintro ⟨k,hk,h⟩
    have:=List.mem_range.1 hk
    exact ⟨k,hk,by simpa [this] using h⟩
   ·rintro ⟨k,hk,h⟩
    have:=List.mem_range.1 hk
    exact ⟨k,hk,by simpa [this] using h⟩
  rw [e]
  simp only [hw,decide_true,Bool.true_and]
  cases (anS n S x y z).testBit w <;> cases z.testBit w <;> simp
 have hfull:=Kv n jl
 have hs0:Zh (2^x) (2^n - 1):=fun j hj=>by rw [Q1] at hj; have:=of_decide_eq_true hj; rw [Nat.testBit_two_pow_sub_one]; simp; omega
 have hlt:∀{t:Nat},Zh t (2^n - 1)→t < 18446744073709551616:=fun h=>Qap hn hS hz hx fun j hj=>by have:=h j hj; rw [Nat.testBit_two_pow_sub_one] at this; simpa using this
 have inner:∀t,Zh t (2^n - 1)→Qb fuel (Vp (Qe n S) (Qe n (jnP n S (anS n S x y z) n 0)) ((anS n S x y z:Nat):Int) (z:Int)) ((t:Int),(0:Int))=some ((upR n (jo n S (anS n S x y z) z) t:Nat):Int):=fun t ht=>by
  have h:=X5 (n:=n) (k0:=0) (by omega) (by omega) (fun i (x:Int)=>(x,i)) (body:=Vp (Qe n S) (Qe n (jnP n S (anS n S x y z) n 0)) ((anS n S x y z:Nat):Int) (z:Int)) (fun k=>(((List.range k).foldl (upV (jo n S (anS n S x y z) z)) t:Nat):Int)) ((upR n (jo n S (anS n S x y z) z) t:Nat):Int)
   (fun k _ hk=>by
    have hsub:=Qgv (S:=jo n S (anS n S x y z) z) (T:=2^n - 1) (List.range k) t (fun v hv=>hfull v (by have:=List.mem_range.1 hv; omega)) ht
    unfold Vp
    dsimp only
    rw [hlen,if_pos (dlt hk),Qdn (hlt hsub) (by omega),Option.bind_some,List.range_succ,List.foldl_append]
    simp only [List.foldl_cons,List.foldl_nil]
    generalize (List.range k).foldl (upV (jo n S (anS n S x y z) z)) t=q at *
    unfold upV
    cases c:q.testBit k with
    | true =>
     rw [if_pos rfl,if_pos rfl,Zy hk,Option.bind_some,hval k hk,Jd (hlt hsub) (Qap hn hS hz hx (jl k hk))]
    | false=>rw [if_neg (by decide),if_neg (by decide)])
   (by unfold Vp; dsimp only; rw [hlen,if_neg (nlt n)]; rfl)
  rw [show ((0:Nat):Int)=0 from rfl] at h
  exact h
 have h:=X5 (n:=n) (k0:=0) (by omega) (by omega) (fun i (x:Int)=>(x,i)) (body:=Yu (Qe n S) (Qe n (jnP n S (anS n S x y z) n 0)) ((anS n S x y z:Nat):Int) (z:Int)) (fun k=>((ups n (jo n S (anS n S x y z) z) k (2^x):Nat):Int)) ((seenS n S x y z:Nat):Int)
  (fun k _ hk=>by
   unfold Yu
   dsimp only
   rw [hlen,if_pos (dlt hk),inner _ (Ve hfull hs0 k)]; rfl)
  (by unfold Yu; dsimp only; rw [hlen,if_neg (nlt n)]; rfl)
 rw [show ((0:Nat):Int)=0 from rfl] at h
 unfold Qam
 rw [if_pos (Q3 x),if_pos (Q3 y),K6 (show x < 64 by omega),K6 (show y < 64 by omega),Jd x64 y64,Jd (Nat.or_lt_two_pow (n:=64) x64 y64) z64,Qre hn hS.inn hst,Option.bind_some,hlen,if_pos (by omega),Int.toNat_natCast]
 show (Qb fuel (Yv (Qe n S) ((anS n S x y z:Nat):Int)) (0,List.replicate n (0:Int))).bind _=_
 rw [Qw5 hn hS anl,Option.bind_some,if_pos (Q3 x)]
 show (Qb fuel (Yu (Qe n S) (Qe n (jnP n S (anS n S x y z) n 0)) ((anS n S x y z:Nat):Int) (z:Int)) (((2^x:Nat):Int),0)).bind _=_
 have h':Qb fuel (Yu (Qe n S) (Qe n (jnP n S (anS n S x y z) n 0)) ((anS n S x y z:Nat):Int) (z:Int)) (((2^x:Nat):Int),0)=some ((seenS n S x y z:Nat):Int):=h
 rw [h',Option.bind_some,Qdn (Qap hn hS hz hx fun j hj=>Qtb hS hz hx hy hxz hyz hj) (by omega),Option.bind_some]
end
end Go.Ab
namespace Go.Ab
open Go
set_option maxRecDepth 100000
set_option maxHeartbeats 1000000
section
variable {n:Nat} {S:Nat → Nat}
def apB (n:Nat) (S:Nat → Nat) (x y z:Nat):Bool:=!z.testBit x && !z.testBit y && !(seenS n S x y z).testBit y
def fct (x y z:Nat):Tapi_Fact:=⟨(x:Int),(y:Int),(z:Int)⟩
def fZ (n:Nat) (S:Nat → Nat) (x y:Nat):List Tapi_Fact:=apL (fun z=>if apB n S x y z=true then [fct x y z] else []) 0 (2^n)
def Qqd (n:Nat) (S:Nat → Nat):List Tapi_Fact:=apL (fun x=>apL (fun y=>fZ n S x y) (x+1) (n - (x+1))) 0 n
theorem Qqg (hn:n≤6) {x y:Nat}:(fZ n S x y).length≤64:=by
 have:=Kx (L:=fun z=>if apB n S x y z=true then [fct x y z] else []) (k0:=0) (m:=1) (fun _=>Qe7) (2^n)
 have h:2^n≤64:=Nat.pow_le_pow_right (n:=2) (by omega) hn
 unfold fZ; omega
theorem Q1o {k:Nat} (h:k < 1000000):zv ((k:Int)+1)=((k+1:Nat):Int):=by
 rw [show (k:Int)+1=((k+1:Nat):Int) by omega,Kz (by omega)]
theorem Qpd {α σ ρ:Type} {n c:Nat} (hn:n < 1000000) (mkS:Int→List α→σ) {body:σ→Option (Qh σ ρ)} (L:Nat → List α) (fin:List α→ρ) (hL:∀k,(L k).length≤1) {out:List α} (hout:out.length≤c)
  (step:∀k o,k < n→o.length≤c+n→body (mkS (k:Int) o)=some (.next (mkS (zv ((k:Int)+1)) (o++L k))))
  (done:∀o,body (mkS (n:Int) o)=some (.done (fin o))):Qb fuel body (mkS 0 out)=some (fin (out++apL L 0 n)):=by
 have key:∀(j N k:Nat),k+j=n→j < N→Qb N body (mkS (k:Int) (out++apL L 0 k))=some (fin (out++apL L 0 n)):=by
  intro j
  induction j with
  | zero =>
   intro N k hk hN
   obtain ⟨N,rfl⟩:∃M,N=M+1:=⟨N - 1,by omega⟩
   have:k=n:=by omega
   subst this
   simp only [Qb,done]
  | succ j ih =>
   intro N k hk hN
   obtain ⟨N,rfl⟩:∃M,N=M+1:=⟨N - 1,by omega⟩
   have hb:=Kx (k0:=0) hL k
   have e:=step k (out++apL L 0 k) (by omega) (by rw [List.length_append]; omega)
   simp only [Qb,e]
   rw [Q1o (by omega)]
   have:=ih N (k+1) (by omega) (by omega)
   simp only [apL,Nat.zero_add] at this
   rw [←List.append_assoc] at this
   exact this
 have h:=key n fuel 0 (by omega) (by unfold fuel; omega)
 simpa [apL] using h
section
variable (hn1:1≤n) (hn:n≤6) (hS:Gd n S)
include hn1 hn hS
theorem Q1j {z:Nat} (h:z < 2^n):∀j,z.testBit j=true→j < n:=Qtc.1 h
theorem Qvz {x y:Nat} (hx:x < n) (hy:y < n) (hxy:x≠y) {o:List Tapi_Fact} (ho:o.length≤10000) {s1 s4:Int × List Tapi_Fact} (h1:s1.1=(x:Int)) (h4:s4.1=(y:Int)) :
  Qb fuel (Y0 (Qe n S) s1 s4) (0,o)=some (.inr (o++fZ n S x y)):=by
 have hlen:(Qe n S).length=n:=Zs
 have hp:2^n≤64:=Nat.pow_le_pow_right (n:=2) (by omega) hn
 refine Qpd (n:=2^n) (c:=10000) (by omega) (fun k (x:List Tapi_Fact)=>(k,x)) (body:=Y0 (Qe n S) s1 s4) (fun z=>if apB n S x y z=true then [fct x y z] else []) Sum.inr (fun _=>Qe7) ho (fun z o hz ho=>?_) (fun o=>?_)
 ·have z64:z < 18446744073709551616:=by omega
  unfold Y0
  dsimp only
  rw [hlen,K6 (by omega),if_pos (dlt hz),h1,h4,if_pos (Q3 x),if_pos (Q3 y)]
  have eor:((zv (zb (zv (zb (Int.fdiv (z:Int) (2^min (Int.toNat (x:Int)) (IntKind.bits .u64))) ||| zb (Int.fdiv (z:Int) (2^min (Int.toNat (y:Int)) (IntKind.bits .u64)))).toNat) &&& zb 1).toNat)==1)=(z.testBit x || z.testBit y):=by
   have hb:IntKind.bits .u64=64:=rfl
   have e0:∀k:Nat,k < 64→min (Int.toNat (k:Int)) (IntKind.bits .u64)=k:=fun k hk=>by rw [hb,Int.toNat_natCast]; omega
   rw [e0 x (by omega),e0 y (by omega),Qez,Qez]
   have l1:z / 2^x < 18446744073709551616:=Nat.lt_of_le_of_lt (Nat.div_le_self _ _) z64
   have l2:z / 2^y < 18446744073709551616:=Nat.lt_of_le_of_lt (Nat.div_le_self _ _) z64
   rw [Jd l1 l2]
   have l3:z / 2^x ||| z / 2^y < 18446744073709551616:=Nat.or_lt_two_pow (n:=64) l1 l2
   have h:=Qak (k:=0) l3 (by omega)
   have e1:Int.fdiv ((z / 2^x ||| z / 2^y:Nat):Int) (2^min (Int.toNat ((0:Nat):Int)) (IntKind.bits .u64))=((z / 2^x ||| z / 2^y:Nat):Int):=by
    rw [e0 0 (by omega),Qez]; simp
   rw [e1] at h
   rw [h,Nat.testBit_or]
   have e2:∀k,(z / 2^k).testBit 0=z.testBit k:=fun k=>by rw [Nat.testBit_div_two_pow]; simp
   rw [e2,e2]
   cases z.testBit x <;> cases z.testBit y <;> rfl
  rw [eor]
  unfold apB
  cases zx:z.testBit x with
  | true=>simp
  | false =>
   cases zy:z.testBit y with
   | true=>simp
   | false =>
    rw [if_neg (by decide),if_pos (Q3 x),if_pos (Q3 y),K6 (show x < 64 by omega),K6 (show y < 64 by omega),Qu9 hn1 (by omega) hS hx hy hxy (Q1j hn1 hn hS hz) zx zy,Option.bind_some]
    dsimp only
    rw [if_neg (by decide)]
    cases (seenS n S x y z).testBit y with
    | true=>simp
    | false =>
     rw [if_pos (by decide),if_pos (by rw [List.length_append,List.length_singleton]; omega)]
     rfl
 ·unfold Y0
  dsimp only
  rw [hlen,K6 (by omega),if_neg (nlt _)]
theorem Qji {x:Nat}:(apL (fun y=>if y < n then fZ n S x y else []) (x+1) (n - (x+1))).length≤384:=by
 have:=Kx (L:=fun y=>if y < n then fZ n S x y else []) (k0:=x+1) (m:=64) (fun y=>by
  split
  ·exact Qqg hn
  ·simp) (n - (x+1))
 have:(n - (x+1))*64≤6*64:=Nat.mul_le_mul_right _ (by omega)
 omega
theorem Qnt:apL (fun x=>apL (fun y=>if y < n then fZ n S x y else []) (x+1) (n - (x+1))) 0 n=Qqd n S :=
 Qa4 n fun x _ hx=>Qa4 _ fun y h1 h2=>by rw [if_pos (by omega)]
theorem Qso:V6 (Qe n S)=some (Qqd n S,0):=by
 have hlen:(Qe n S).length=n:=Zs
 have mid:∀x,x < n→∀(o:List Tapi_Fact) (s1:Int × List Tapi_Fact),s1.1=(x:Int)→o.length≤5000→Qb fuel (Y5 (Qe n S) s1) (((x+1:Nat):Int),o)=some (Sum.inr (o++apL (fun y=>if y < n then fZ n S x y else []) (x+1) (n - (x+1)))):=fun x hx o s1 h1 ho =>
  Jq (n:=n) (m:=64) (c:=5000) (by omega) (by omega) (fun k (x:List Tapi_Fact)=>(k,x)) (body:=Y5 (Qe n S) s1) _ Sum.inr (fun y=>by
    split
    ·exact Qqg hn
    ·simp) ho
   (fun y o h2 h3 ho=>by
    unfold Y5
    dsimp only
    rw [hlen,if_pos (dlt h3),if_pos (Q3 n),Qvz hn1 hn hS hx h3 (by omega) (by omega) h1 rfl,Option.bind_some,if_pos h3])
   (fun o=>by unfold Y5; dsimp only; rw [hlen,if_neg (nlt n)])
 have h:=Jq (n:=n) (k0:=0) (m:=384) (c:=0) (by omega) (by omega) (fun k (x:List Tapi_Fact)=>(k,x)) (body:=V3 (Qe n S)) (fun x=>apL (fun y=>if y < n then fZ n S x y else []) (x+1) (n - (x+1))) Sum.inr (fun x=>Qji hn1 hn hS) (out:=[]) (by simp)
  (fun x o _ hx ho=>by
   unfold V3
   dsimp only
   rw [hlen,if_pos (dlt hx),Qkz (by omega),mid x hx o _ rfl (by omega),Option.bind_some])
  (fun o=>by unfold V3; dsimp only; rw [hlen,if_neg (nlt n)])
 rw [show ((0:Nat):Int)=0 from rfl] at h
 unfold V6
 rw [h,Option.bind_some,List.nil_append,Nat.sub_zero,Qnt hn1 hn hS]
theorem Qpo {x y:Nat} (hx:x < n) (hy:y < n) (hxy:x≠y) {o:List Tapi_Fact} (ho:o.length≤10000) {s1 s4:Int × List Tapi_Fact} (h1:s1.1=(x:Int)) (h4:s4.1=(y:Int)) :
  Qb fuel (Vz (Qe n S) s1 s4) (0,o)=some (o++fZ n S x y):=by
 have hlen:(Qe n S).length=n:=Zs
 have hp:2^n≤64:=Nat.pow_le_pow_right (n:=2) (by omega) hn
 refine Qpd (n:=2^n) (c:=10000) (by omega) (fun k (x:List Tapi_Fact)=>(k,x)) (body:=Vz (Qe n S) s1 s4) (fun z=>if apB n S x y z=true then [fct x y z] else []) id (fun _=>Qe7) ho (fun z o hz ho=>?_) (fun o=>?_)
 ·have z64:z < 18446744073709551616:=by omega
  unfold Vz
  dsimp only
  rw [hlen,if_pos (Q3 n),K6 (by omega),if_pos (dlt hz),h1,h4,Qdn z64 (by omega),Option.bind_some]
  unfold apB
  cases zx:z.testBit x with
  | true=>simp
  | false =>
   rw [if_pos (by decide),Qdn z64 (by omega),Option.bind_some]
   cases zy:z.testBit y with
   | true=>simp
   | false =>
    rw [if_pos (by decide),Qps hn1 (by omega) hS hx hy hxy (Q1j hn1 hn hS hz) zx zy,Option.bind_some]
    cases (seenS n S x y z).testBit y with
    | true=>simp
    | false =>
     rw [if_pos (by decide),if_pos (by rw [List.length_append,List.length_singleton]; omega)]
     rfl
 ·unfold Vz
  dsimp only
  rw [hlen,if_pos (Q3 n),K6 (by omega),if_neg (nlt _)]; rfl
theorem Qpk:Qaq (Qe n S)=some (Qqd n S):=by
 have hlen:(Qe n S).length=n:=Zs
 have mid:∀x,x < n→∀(o:List Tapi_Fact) (s1:Int × List Tapi_Fact),s1.1=(x:Int)→o.length≤5000→Qb fuel (Vy (Qe n S) s1) (((x+1:Nat):Int),o)=some (o++apL (fun y=>if y < n then fZ n S x y else []) (x+1) (n - (x+1))):=fun x hx o s1 h1 ho =>
  Jq (n:=n) (m:=64) (c:=5000) (by omega) (by omega) (fun k (x:List Tapi_Fact)=>(k,x)) (body:=Vy (Qe n S) s1) _ id (fun y=>by
    split
    ·exact Qqg hn
    ·simp) ho
   (fun y o h2 h3 ho=>by
    unfold Vy
    dsimp only
    rw [hlen,if_pos (dlt h3),Qpo hn1 hn hS hx h3 (by omega) (by omega) h1 rfl,Option.bind_some,if_pos h3])
   (fun o=>by unfold Vy; dsimp only; rw [hlen,if_neg (nlt n)]; rfl)
 have h:=Jq (n:=n) (k0:=0) (m:=384) (c:=0) (by omega) (by omega) (fun k (x:List Tapi_Fact)=>(k,x)) (body:=Jx (Qe n S)) (fun x=>apL (fun y=>if y < n then fZ n S x y else []) (x+1) (n - (x+1))) id (fun x=>Qji hn1 hn hS) (out:=[]) (by simp)
  (fun x o _ hx ho=>by
   unfold Jx
   dsimp only
   rw [hlen,if_pos (dlt hx),Qkz (by omega),mid x hx o _ rfl (by omega),Option.bind_some])
  (fun o=>by unfold Jx; dsimp only; rw [hlen,if_neg (nlt n)]; rfl)
 rw [show ((0:Nat):Int)=0 from rfl] at h
 unfold Qaq
 rw [h,Option.bind_some,List.nil_append,Nat.sub_zero]
 show some (apL _ 0 n)=_
 rw [Qnt hn1 hn hS]
theorem Qx8:(Qqd n S).length≤2304:=by
 rw [←Qnt hn1 hn hS]
 have:=Kx (L:=fun x=>apL (fun y=>if y < n then fZ n S x y else []) (x+1) (n - (x+1))) (k0:=0) (m:=384) (fun x=>Qji hn1 hn hS) n
 omega
end
theorem neF (x y:Tapi_Fact):(!((x.X==y.X) && ((x.Y==y.Y) && ((x.Z==y.Z) && true))))=!decide (x=y):=by
 obtain ⟨a,b,e⟩:=x; obtain ⟨c,d,f⟩:=y
 congr 1; rw [Bool.eq_iff_iff]; simp
theorem Qu7 {a b:List Tapi_Fact} (ha:a.length < 1000000):Q4 a b=some (decide (a=b)):=by
 unfold Q4
 by_cases hl:a.length=b.length
 ·rw [if_neg (fun h=>Qv4.1 h hl),Qvg hl ha (body:=Y9 a b) _ neF (fun s=>rfl),Option.bind_some]
  by_cases e:a=b
  ·simp [e]
  ·simp [e]
 ·rw [if_pos (Qv4.2 hl)]
  have:¬ a=b:=fun e=>hl (by rw [e])
  simp [this]
end
theorem Q0j {n:Nat} {S:Nat → Nat} (hn:n≤7) (hS:L64 n S) (h1:Q9 (Qe n S)=some 0):1≤n:=by
 obtain ⟨c,hc,hc2⟩:=Qo4 hn hS
 rw [h1] at hc
 cases c with
 | true=>exact (hc2.1 rfl).1.1
 | false=>cases hc
theorem Qwi {n:Nat} {S:Nat → Nat} (hn:n≤7) (hS:L64 n S) :
  (((1≤n∧n≤5)∧Gd n S)∧X0 (Qe n S) 6=some true∧Xn (Qe n S)=some (Qqd n S,0))∨(n=6∧X0 (Qe n S) 6=some true∧Xn (Qe n S)=some ([],6))∨(X0 (Qe n S) 6=some false∧Xn (Qe n S)=some ([],310)):=by
 have hlen:(Qe n S).length=n:=Zs
 rcases Q2z hn hS with ⟨⟨h6,hg⟩,h1,h2,_,_⟩ | ⟨h1,h2,_,_⟩
 ·have hn1:=Q0j hn hS h2
  by_cases h5:n≤5
  ·refine .inl ⟨⟨⟨hn1,h5⟩,hg⟩,h1,?_⟩
   unfold Xn
   rw [h2,Option.bind_some,if_neg (by simp),hlen,if_neg (by simp; omega),Qso hn1 h6 hg,Option.bind_some]
  ·refine .inr (.inl ⟨by omega,h1,?_⟩)
   unfold Xn
   rw [h2,Option.bind_some,if_neg (by simp),hlen,if_pos (by simp; omega)]
 ·refine .inr (.inr ⟨h1,?_⟩)
  unfold Xn
  rw [h2]; rfl
theorem Qsw {x1 x3 x5:List Int} {k:Nat} (hk:k < 3) (h:∀y∈([x1,x3,x5]:List (List Int)),Few y):X9 x1 x3 x5 (k:Int)=some (.next (zw ((k:Int)+1))):=by
 unfold X9
 generalize hL:([x1,x3,x5]:List (List Int))=L at *
 have hl:L.length=3:=by rw [←hL]; rfl
 have hkl:k < L.length:=by omega
 rw [if_pos (decide_eq_true (by omega)),X3 hkl,Option.bind_some]
 obtain ⟨n,S,e,hn,hS⟩:=h _ (List.getElem_mem hkl)
 rw [e]
 have hlen:(Qe n S).length=n:=Zs
 rcases Qwi hn hS with ⟨⟨⟨h1,h5⟩,hg⟩,hr,hf⟩ | ⟨h6,hr,hf⟩ | ⟨hr,hf⟩
 ·rw [hf,Option.bind_some,hr,Option.bind_some,if_neg (by decide),hlen,if_neg (by simp; omega),if_neg (by simp),Qpk h1 (by omega) hg,Option.bind_some,Qu7 (by have:=Qx8 (S:=S) h1 (by omega) hg; dsimp only; omega),Option.bind_some,if_neg (by simp)]
 ·rw [hf,Option.bind_some,hr,Option.bind_some,if_neg (by decide),hlen,if_pos (by simp; omega),if_neg (by simp),if_neg (by simp)]
 ·rw [hf,Option.bind_some,hr,Option.bind_some]
  rfl
theorem facts_true (p0:Qc) (p1:List Int) (h0:Ja p0) (h1:p1.length≤maxLen∧∀y0∈p1,(Lit.int .u64 y0).wf=true):Kt p0 p1=some true:=by
 have few_draft:∀m:Nat,1≤m∧m≤6→∃g,Zw p0 (m:Int)=some g∧Few g:=fun m hm=>by
  obtain ⟨S,hg,hG,h6⟩:=Qvk (Qxk h0) hm
  exact ⟨_,hg,_,S,rfl,by omega,Qn4 (by omega) hG⟩
 obtain ⟨g,hg,hgf⟩:=few_draft 5 (by omega)
 obtain ⟨g6,hg6,hgf6⟩:=few_draft 6 (by omega)
 obtain ⟨w,hw,hwf⟩:=Qzy (l:=p1) fun x hx=>by exact Q22 (h1.2 x hx)
 unfold Kt
 have hg':Zw (Qc.mk p0.N (p0.Order.1,p0.Order.2.1,p0.Order.2.2.1,p0.Order.2.2.2.1,p0.Order.2.2.2.2.1,p0.Order.2.2.2.2.2) p0.Edges) 5=some g:=hg
 have hg6':Zw (Qc.mk p0.N (p0.Order.1,p0.Order.2.1,p0.Order.2.2.1,p0.Order.2.2.2.1,p0.Order.2.2.2.2.1,p0.Order.2.2.2.2.2) p0.Edges) 6=some g6:=hg6
 rw [hg',Option.bind_some,hw,Option.bind_some,hg6',Option.bind_some]
 have hall:∀y∈([g,w,g6]:List (List Int)),Few y:=fun y hy=>by
  simp only [List.mem_cons,List.not_mem_nil,or_false] at hy
  rcases hy with rfl | rfl | rfl <;> assumption
 have h:=X5 (n:=3) (k0:=0) (by omega) (by omega) (fun i (_:Unit)=>i) (body:=X9 g w g6) (fun _=>()) (Sum.inr ())
  (fun k _ hk=>Qsw hk hall)
  (by unfold X9; rw [if_neg (by decide)])
 rw [show ((0:Nat):Int)=0 from rfl] at h
 rw [h,Option.bind_some]
 dsimp only
 rw [Qx6]; rfl
#print axioms facts_true
end Go.Ab
namespace Go.Ab
open Go Go.Proofs Go.Proofs.YtojklbpplceiiaaDoor
open Go.ChangeShapes Go.WideShapes Go.ChangeAt Go.RowKit
abbrev dr_laid:List (String × DataW Unit):=[("math/bits.deBruijn32tab",Rows.laid_math_bits_deBruijn32tab),("math/bits.deBruijn64tab",Rows.laid_math_bits_deBruijn64tab)]
theorem dr_own:ownKnob Tryd.prog.godebug=none:=by kernel_rfl
theorem Qyw:Tryd.prog.globalNamed "math/bits.deBruijn32tab" = some 0:=by kernel_rfl
theorem Qy0:Tryd.prog.globalNamed "math/bits.deBruijn64tab" = some 1:=by kernel_rfl
theorem dr_met (os:Os) (args:Array Value):laidMetH Tryd.prog dr_laid ((World.doorLaid Tryd.prog 19 os).forCall (fun _ _=>0) ⟨#[],args,[]⟩).memory :=
 laidMetH_of_parts3 (fuel:=8) (laidMet_of_run' 8 (by kernel_rfl) (by kernel_rfl)) (by kernel_rfl) (by kernel_rfl)
theorem dr_glob {W:World} (h:laidMetH Tryd.prog dr_laid W):Go.Ab.GlobIn W:=by
 rw [MakeChecks.laidMetH_plain _ _ _ (by kernel_rfl)] at h
 have h0:=Lib.tabIs_of_head (k:=.u8) (zs:=Go.Ab.tab0) (t:=164) (e:=5) (n:=32) Qyw (by kernel_rfl) (by kernel_rfl) (by kernel_rfl) (by kernel_rfl) (by kernel_rfl) h
 have h1:=Lib.tabIs_of_head (k:=.u8) (zs:=Go.Ab.tab1) (t:=165) (e:=5) (n:=64) Qy0 (by kernel_rfl) (by kernel_rfl) (by kernel_rfl) (by kernel_rfl) (by kernel_rfl) h.tail
 intro g xs hg i v hv
 match g,hg with
 | 0,hg =>
  cases hg
  have hi:i < Go.Ab.tab0.length:=by have:=(List.getElem?_eq_some_iff.1 hv).1; simpa using this
  have:=h0.cell Qyw i hi
  rw [this]
  rw [List.getElem?_map] at hv
  simpa [List.getD,hi] using hv
 | 1,hg =>
  cases hg
  have hi:i < Go.Ab.tab1.length:=by have:=(List.getElem?_eq_some_iff.1 hv).1; simpa using this
  have:=h1.cell Qy0 i hi
  rw [this]
  rw [List.getElem?_map] at hv
  simpa [List.getD,hi] using hv
 | n+2,hg=>cases hg
end Go.Ab
