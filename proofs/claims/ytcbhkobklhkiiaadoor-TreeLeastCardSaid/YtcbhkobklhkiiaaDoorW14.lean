/- What functions compute. No conditions. -/
import Derived.Test.YtcbhkobklhkiiaaDoorW10
import Derived.Test.YtcbhkobklhkiiaaDoorW13
set_option linter.all false
namespace Go.Ab
open Go
set_option maxRecDepth 100000
set_option maxHeartbeats 400000
def msk:Nat → (Nat → Bool)→Nat
 | 0,_=>0
 | n+1,p=>msk n p ||| (if p n then 2^n else 0)
theorem V7 (n:Nat) (p:Nat → Bool) (i:Nat):(msk n p).testBit i=(decide (i < n) && p i):=by
 induction n with
 | zero=>simp [msk]
 | succ n ih =>
  unfold msk
  rw [Nat.testBit_or,ih]
  by_cases h:i=n
  ·subst h
   cases hp:p i <;> simp [hp]
  ·have e:decide (i < n+1)=decide (i < n):=by by_cases h2:i < n <;> simp [h2] <;> omega
   rw [e]
   cases hp:p n
   ·simp
   ·simp only [if_true,Nat.testBit_two_pow]
    have e2:¬ n=i:=fun e=>h e.symm
    simp [e2]
theorem Zt (n:Nat) (p:Nat → Bool):msk n p < 2^n:=by
 induction n with
 | zero=>simp [msk]
 | succ n ih =>
  unfold msk
  refine Nat.or_lt_two_pow (Nat.lt_of_lt_of_le ih (Nat.pow_le_pow_right (by omega) (by omega))) ?_
  split
  ·exact Nat.pow_lt_pow_right (by omega) (by omega)
  ·exact Nat.two_pow_pos _
theorem Ks {n:Nat} {p:Nat → Bool} {a:Nat} (ha:a < 2^n) (h:∀i,i < n→a.testBit i=p i):a=msk n p:=by
 apply Nat.eq_of_testBit_eq
 intro i
 rw [V7]
 by_cases hi:i < n
 ·simp [hi,h i hi]
 ·rw [Nat.testBit_lt_two_pow (Nat.lt_of_lt_of_le ha (Nat.pow_le_pow_right (by omega) (by omega)))]; simp [hi]
theorem Yn {n:Nat} {p q:Nat → Bool} (h:∀i,i < n→p i=q i):msk n p=msk n q :=
 Ks (Zt n p) fun i hi=>by rw [V7,h i hi]; simp [hi]
theorem Q3k {n:Nat} {p q:Nat → Bool} (h:msk n p=msk n q):∀i,i < n→p i=q i:=fun i hi=>by
 have:=V7 n p i
 rw [h,V7] at this
 simpa [hi] using this.symm
theorem Qs6 {n a:Nat} (hn:n≤10) (ha:a < 2^n):a < 1024:=Nat.lt_of_lt_of_le ha (Nat.pow_le_pow_right (n:=2) (by omega) hn)
theorem Qp7 {n a:Nat} (hn:n≤10) (ha:a < 2^n):a < 18446744073709551616:=by have:=Qs6 hn ha; omega
theorem X8 {n:Nat} (h:n < 18446744073709551616):zv (n:Int)=(n:Int):=by
 simp [IntKind.wrap,IntKind.bits,IntKind.signed]; omega
theorem J1 {a:Nat} (h:a < 18446744073709551616):(zb (a:Int)).toNat = a:=by
 show (BitVec.ofInt IntKind.u64.bits (a:Int)).toNat = a
 rw [BitVec.ofInt_natCast,BitVec.toNat_ofNat]
 exact Nat.mod_eq_of_lt h
theorem Qtu {a k:Nat}:Int.fdiv (a:Int) ((2:Int)^k)=((a / 2^k:Nat):Int):=by
 rw [Int.fdiv_eq_ediv_of_nonneg _ (by exact_mod_cast Nat.zero_le (2^k))]
 simp
theorem Qyb {a j:Nat} (h:a < 18446744073709551616):(zb (a:Int)).getLsbD j=a.testBit j:=by unfold BitVec.getLsbD; rw [J1 h]
theorem Qtt {v:Nat} (hv:v < 64):zv (1*2^min (Int.toNat (v:Int)) (IntKind.bits .u64))=((2^v:Nat):Int):=by
 have hb:IntKind.bits .u64=64:=rfl
 have e0:min (Int.toNat (v:Int)) (IntKind.bits .u64)=v:=by rw [hb,Int.toNat_natCast]; omega
 have hp:2^v < 18446744073709551616:=Nat.pow_lt_pow_right (n:=64) (by omega) hv
 rw [e0,show (1:Int)*2^v=((2^v:Nat):Int) by simp,X8 hp]
theorem Qwz {v:Nat} (hv:v < 64):2^v < 18446744073709551616:=Nat.pow_lt_pow_right (n:=64) (by omega) hv
theorem Qk3 {n:Nat} {p q:Nat → Bool} {a b:Nat} (hn:n≤64) (ha:a < 2^n) (hb:b < 18446744073709551616) (hp:∀i,i < n→a.testBit i=p i) (hq:∀i,i < n→b.testBit i=q i) :
  zv (zb (a:Int) &&& ~~~ zb (b:Int)).toNat = ((msk n fun i=>p i && !q i:Nat):Int):=by
 have ha':a < 18446744073709551616:=Nat.lt_of_lt_of_le ha (Nat.pow_le_pow_right (n:=2) (by omega) hn)
 have h1:(zb (a:Int) &&& ~~~ zb (b:Int)).toNat < 18446744073709551616:=BitVec.isLt _
 rw [X8 h1]
 congr 1
 refine Ks ?_ fun i hi=>?_
 ·refine Nat.lt_of_le_of_lt ?_ ha
  rw [BitVec.toNat_and,J1 ha']
  exact Nat.and_le_left
 ·have:i < 64:=by omega
  have e:(zb (a:Int) &&& ~~~ zb (b:Int)).toNat.testBit i=(zb (a:Int) &&& ~~~ zb (b:Int)).getLsbD i:=rfl
  rw [e,BitVec.getLsbD_and,BitVec.getLsbD_not,Qyb ha',Qyb hb,hp i hi,hq i hi]
  have h64:i < IntKind.bits .u64:=this
  simp [h64]
theorem Qwr {n:Nat} {p q:Nat → Bool} {a b:Nat} (hn:n≤64) (ha:a < 2^n) (hb:b < 2^n) (hp:∀i,i < n→a.testBit i=p i) (hq:∀i,i < n→b.testBit i=q i) :
  zv (zb (a:Int) ||| zb (b:Int)).toNat = ((msk n fun i=>p i || q i:Nat):Int):=by
 have h64:2^n≤2^64:=Nat.pow_le_pow_right (n:=2) (by omega) hn
 have ha':a < 18446744073709551616:=Nat.lt_of_lt_of_le ha h64
 have hb':b < 18446744073709551616:=Nat.lt_of_lt_of_le hb h64
 rw [BitVec.toNat_or,J1 ha',J1 hb',X8 (Nat.or_lt_two_pow (n:=64) ha' hb')]
 congr 1
 exact Ks (Nat.or_lt_two_pow ha hb) fun i hi=>by rw [Nat.testBit_or,hp i hi,hq i hi]
theorem Q5b {n:Nat} {p q:Nat → Bool} {a b:Nat} (hn:n≤64) (ha:a < 2^n) (hb:b < 18446744073709551616) (hp:∀i,i < n→a.testBit i=p i) (hq:∀i,i < n→b.testBit i=q i) :
  zv (zb (a:Int) &&& zb (b:Int)).toNat = ((msk n fun i=>p i && q i:Nat):Int):=by
 have h64:2^n≤2^64:=Nat.pow_le_pow_right (n:=2) (by omega) hn
 have ha':a < 18446744073709551616:=Nat.lt_of_lt_of_le ha h64
 have hl:a &&& b≤a:=Nat.and_le_left
 rw [BitVec.toNat_and,J1 ha',J1 hb,X8 (by omega)]
 congr 1
 exact Ks (by omega) fun i hi=>by rw [Nat.testBit_and,hp i hi,hq i hi]
theorem Qmv (v i:Nat):(2^v).testBit i=decide (v=i):=Nat.testBit_two_pow
theorem Y3 {n:Nat} {p:Nat → Bool}:∀i,i < n→(msk n p).testBit i=p i:=fun i hi=>by rw [V7]; simp [hi]
theorem Qsc {n v:Nat} {p:Nat → Bool} (hn:n≤10) (hv:v < 64):zv (zb ((msk n p:Nat):Int) &&& ~~~ zb (zv (1*2^min (Int.toNat (v:Int)) (IntKind.bits .u64)))).toNat = ((msk n fun i=>p i && !decide (v=i):Nat):Int):=by
 rw [Qtt hv]
 exact Qk3 (by omega) (Zt n p) (Qwz hv) Y3 fun i _=>Qmv v i
theorem Qe9 {n v:Nat} {p:Nat → Bool} (hn:n≤10) (hv:v < n):zv (zb ((msk n p:Nat):Int) ||| zb (zv (1*2^min (Int.toNat (v:Int)) (IntKind.bits .u64)))).toNat = ((msk n fun i=>p i || decide (v=i):Nat):Int):=by
 rw [Qtt (by omega)]
 exact Qwr (by omega) (Zt n p) (Nat.pow_lt_pow_right (by omega) hv) Y3 fun i _=>Qmv v i
theorem Qgf {a k:Nat} (ha:a < 18446744073709551616) (hk:k < 64) :
  zv (zb (Int.fdiv (a:Int) (2^min (Int.toNat (k:Int)) (IntKind.bits .u64))) &&& zb 1).toNat = ((a.testBit k).toNat : Int):=by
 have hb:IntKind.bits .u64=64:=rfl
 have e0:min (Int.toNat (k:Int)) (IntKind.bits .u64)=k:=by rw [hb,Int.toNat_natCast]; omega
 rw [e0,Qtu]
 have h1:a / 2^k < 18446744073709551616:=Nat.lt_of_le_of_lt (Nat.div_le_self _ _) ha
 have e1:(zb ((a / 2^k:Nat):Int) &&& zb 1).toNat = (a / 2^k) % 2:=by
  rw [BitVec.toNat_and,J1 h1,show (zb 1).toNat = 1 from rfl,Nat.and_one_is_mod]
 rw [e1,X8 (by omega)]
 have e2:a.testBit k=((a / 2^k) % 2==1):=by rw [Nat.testBit_eq_decide_div_mod_eq]; rfl
 rw [e2]
 rcases Nat.mod_two_eq_zero_or_one (a / 2^k) with h | h <;> rw [h] <;> rfl
theorem Qvs (n:Nat):msk n (fun _=>true)=2^n - 1:=(Ks (by have:=Nat.two_pow_pos n; omega) fun i hi=>by rw [Nat.testBit_two_pow_sub_one]; simp [hi]).symm
theorem Q2d {n:Nat} (hn:n≤10):zv ((zv (1*2^min (Int.toNat (n:Int)) (IntKind.bits .u64))) - 1)=((msk n fun _=>true:Nat):Int):=by
 rw [Qtt (by omega),Qvs]
 have h1:=Qwz (v:=n) (by omega)
 have h2:=Nat.two_pow_pos n
 rw [show ((2^n:Nat):Int) - 1=((2^n - 1:Nat):Int) by omega,X8 (by omega)]
def cnt:Nat → (Nat → Bool)→Nat
 | 0,_=>0
 | n+1,p=>cnt n p+(p n).toNat
def tzN:Nat → (Nat → Bool)→Nat
 | 0,_=>0
 | n+1,p=>if p 0 then 0 else tzN n (fun i=>p (i+1))+1
def isS (x:Option Int) (y:Int):Bool:=match x with | some z=>z==y | none=>false
theorem Qsi {x:Option Int} {y:Int} (h:isS x y=true):x=some y:=by
 cases x with
 | none=>cases h
 | some z=>simp only [isS,beq_iff_eq] at h; rw [h]
theorem Qod {p:Nat → Bool} {n:Nat} (h:(List.range n).all p=true) {k:Nat} (hk:k < n):p k=true:=List.all_eq_true.1 h k (List.mem_range.2 hk)
theorem Q5j:((List.range 1024).all fun R=>Nat.beq R 0 || (isS (Za (R:Int)) (tzN 10 R.testBit:Int)))=true:=by kernel_rfl
theorem Q3s:((List.range 1024).all fun R=>Nat.beq R 0 || (zv (zb (R:Int) &&& zb (zv ((R:Int) - 1))).toNat == ((msk 10 fun i=>R.testBit i && !Nat.beq (tzN 10 R.testBit) i:Nat):Int)))=true:=by kernel_rfl
theorem Q5d:((List.range 1024).all fun R=>isS (Zv (R:Int)) (cnt 10 R.testBit:Int))=true:=by kernel_rfl
theorem Qbq {n:Nat} {p q:Nat → Bool} (h:∀i,i < n→p i=q i):cnt n p=cnt n q:=by
 induction n with
 | zero=>rfl
 | succ n ih=>simp only [cnt]; rw [ih fun i hi=>h i (by omega),h n (by omega)]
theorem Qvj {n m:Nat} {p:Nat → Bool} (hm:n≤m) (h:∀i,n≤i→i < m→p i=false):cnt m p=cnt n p:=by
 induction m with
 | zero =>
  have:n=0:=by omega
  subst this; rfl
 | succ m ih =>
  by_cases e:n=m+1
  ·subst e; rfl
  ·simp only [cnt]; rw [h m (by omega) (by omega),ih (by omega) fun i h1 h2=>h i h1 (by omega)]; rfl
theorem Qy9 {n:Nat} (hn:n≤10) (p:Nat → Bool):Zv ((msk n p:Nat):Int)=some (cnt n p:Int):=by
 have h:=Qsi (Qod Q5d (Qs6 hn (Zt n p)))
 rw [h]
 congr 2
 rw [Qvj hn fun i h1 h2=>by rw [V7]; simp; omega]
 exact Qbq Y3
theorem Qsw (n:Nat) (p:Nat → Bool):cnt n p≤n:=by
 induction n with
 | zero=>exact Nat.le_refl _
 | succ n ih =>
  simp only [cnt]; have:(p n).toNat ≤ 1:=by cases p n <;> decide
  omega
theorem Qs2 {n:Nat} {p q:Nat → Bool} (h:∀i,i < n→p i=true→q i=true):cnt n p≤cnt n q:=by
 induction n with
 | zero=>exact Nat.le_refl _
 | succ n ih =>
  simp only [cnt]
  have h1:=ih fun i hi=>h i (by omega)
  have h2:=h n (by omega)
  cases hp:p n with
  | false =>
   have:false.toNat = 0:=rfl
   omega
  | true=>rw [h2 hp]; omega
theorem Qnt {n:Nat} {p:Nat → Bool} (h:∀i,i < n→p i=false):cnt n p=0:=by
 induction n with
 | zero=>rfl
 | succ n ih=>simp only [cnt]; rw [ih fun i hi=>h i (by omega),h n (by omega)]; rfl
theorem Qqg {n:Nat} {p:Nat → Bool} {i:Nat} (hi:i < n) (h:p i=true):0 < cnt n p:=by
 induction n with
 | zero=>omega
 | succ n ih =>
  simp only [cnt]
  by_cases e:i=n
  ·subst e; rw [h]; show 0 < _+1; omega
  ·have:=ih (by omega); omega
theorem Qjc {n v:Nat} {p:Nat → Bool} (hv:v < n) (h:p v=true):cnt n (fun i=>p i && !decide (v=i))+1=cnt n p:=by
 induction n with
 | zero=>omega
 | succ n ih =>
  simp only [cnt]
  by_cases e:v=n
  ·subst e
   rw [Qbq (n:=v) (q:=p) fun i hi=>by simp; intro _; omega,h]
   simp
  ·have:=ih (by omega)
   have e2:(p n && !decide (v=n))=p n:=by simp; intro _; exact e
   rw [e2]; omega
theorem Qj7:∀(n:Nat) (p:Nat → Bool),(∃i,i < n∧p i=true)→tzN n p < n∧p (tzN n p)=true∧∀i,i < tzN n p→p i=false
 | 0,p,⟨i,hi,_⟩=>by omega
 | n+1,p,⟨i,hi,h⟩=>by
  unfold tzN
  by_cases h0:p 0=true
  ·rw [if_pos h0]; exact ⟨by omega,h0,fun i hi=>by omega⟩
  ·rw [if_neg h0]
   have hi0:i≠0:=fun e=>h0 (e ▸ h)
   obtain ⟨a,b,c⟩:=Qj7 n (fun i=>p (i+1)) ⟨i - 1,by omega,by rw [show i - 1+1=i by omega]; exact h⟩
   refine ⟨by omega,b,fun j hj=>?_⟩
   cases j with
   | zero=>simpa using h0
   | succ j=>exact c j (by omega)
theorem Q4i {n v:Nat} {p:Nat → Bool} (hv:v < n) (h:p v=true) (hl:∀i,i < v→p i=false):tzN n p=v:=by
 obtain ⟨a,b,c⟩:=Qj7 n p ⟨v,hv,h⟩
 rcases Nat.lt_trichotomy (tzN n p) v with e | e | e
 ·rw [hl _ e] at b; cases b
 ·exact e
 ·rw [c v e] at h; cases h
theorem Qtj {n v:Nat} {p:Nat → Bool} (hn:n≤10) (hv:v < n) (h:p v=true) (hl:∀i,i < v→p i=false) :
  (((msk n p:Nat):Int) != 0)=true∧Za ((msk n p:Nat):Int)=some (v:Int) ∧
  zv (zb ((msk n p:Nat):Int) &&& zb (zv (((msk n p:Nat):Int) - 1))).toNat = ((msk n fun i=>p i && !decide (v=i):Nat):Int):=by
 have hlt:=Zt n p
 have hR:=Qs6 hn hlt
 have hb:(msk n p).testBit v=true:=by rw [V7]; simp [hv,h]
 have h0:msk n p≠0:=fun e=>by rw [e] at hb; simp at hb
 have e0:Nat.beq (msk n p) 0=false:=by
  cases e:msk n p with
  | zero=>exact absurd e h0
  | succ k=>rfl
 have etz:tzN 10 (msk n p).testBit=v:=Q4i (by omega) hb fun i hi=>by rw [V7,hl i hi]; simp
 have h1:=Qod Q5j hR
 have h2:=Qod Q3s hR
 simp only [e0,Bool.false_or,etz] at h1 h2
 refine ⟨by simp; omega,Qsi h1,?_⟩
 have h3:zv (zb ((msk n p:Nat):Int) &&& zb (zv (((msk n p:Nat):Int) - 1))).toNat = ((msk 10 fun i=>(msk n p).testBit i && !Nat.beq v i:Nat):Int):=by simpa using h2
 rw [h3]
 congr 1
 apply Nat.eq_of_testBit_eq
 intro j
 rw [V7,V7,V7]
 have e:Nat.beq v j=decide (v=j):=by
  by_cases e:v=j
  ·subst e; simp
  ·rw [decide_eq_false e,Bool.eq_false_iff]; exact fun h=>e (Nat.eq_of_beq_eq_true h)
 rw [e]
 by_cases hj:j < n
 ·simp [hj,show j < 10 by omega]
 ·simp [hj]
abbrev Gr:=Nat → Nat → Bool
def gl (n:Nat) (A:Gr):List Int:=(List.range n).map fun v=>((msk n (A v):Nat):Int)
theorem Zd (n:Nat) (A:Gr):(gl n A).length=n:=by simp [gl]
theorem Qiz {n:Nat} {A:Gr} {v:Nat} (hv:v < n):(gl n A)[v]?=some ((msk n (A v):Nat):Int):=by simp [gl,hv]
theorem Kz {n:Nat} {A:Gr} {v:Nat} (hv:v < n):lkI (gl n A) (v:Int)=some ((msk n (A v):Nat):Int):=by
 unfold lkI
 rw [if_neg (by omega),Int.toNat_natCast,Qiz hv]
theorem gl_congr {n:Nat} {A B:Gr} (h:∀u w,u < n→w < n→A u w=B u w):gl n A=gl n B:=by
 apply List.ext_getElem?
 intro v
 by_cases hv:v < n
 ·rw [Qiz hv,Qiz hv,Yn fun w hw=>h v w hv hw]
 ·rw [List.getElem?_eq_none (by rw [Zd]; omega),List.getElem?_eq_none (by rw [Zd]; omega)]
def upd (A:Gr) (v:Nat) (q:Nat → Bool):Gr:=fun u w=>if u=v then q w else A u w
theorem Q39 {A:Gr} {v u:Nat} {q:Nat → Bool} (h:¬ u=v):upd A v q u=A u:=funext fun w=>if_neg h
theorem Q4k {A:Gr} {v:Nat} {q:Nat → Bool}:upd A v q v=q:=funext fun w=>if_pos rfl
theorem Qi3 {n:Nat} {A:Gr} {v:Nat} (q:Nat → Bool):(gl n A).set (Int.toNat (v:Int)) ((msk n q:Nat):Int)=gl n (upd A v q):=by
 apply List.ext_getElem?
 intro u
 rw [Int.toNat_natCast,List.getElem?_set,Zd]
 by_cases hu:u < n
 ·rw [Qiz hu,Qiz hu]
  by_cases e:v=u
  ·subst e; simp [hu,Q4k]
  ·rw [if_neg e,Q39 fun h=>e h.symm]
 ·rw [List.getElem?_eq_none (by rw [Zd]; omega),List.getElem?_eq_none (by rw [Zd]; omega)]
  simp [hu]
  intro e; omega
structure Y0 (n:Nat) (A:Gr):Prop where
 sym:∀u w,A u w=A w u
 irr:∀u,A u u=false
 lt:∀u w,A u w=true→u < n
theorem Qti {τ ρ σ:Type} {n:Nat} (hn:n≤10) (mkS:Int→τ→σ) {body:σ→Option (Qh σ ρ)} (I:Nat → τ→Prop) (Q:ρ→Prop) (p:Nat → Bool)
  (step:∀(x:Nat) (t:τ) (R R':Int),x < n→p x=true→I x t→(R != 0)=true→Za R=some (x:Int) →
   zv (zb R &&& zb (zv (R - 1))).toNat = R' →
   (∃t',body (mkS R t)=some (.next (mkS R' t'))∧I (x+1) t')∨(∃r,body (mkS R t)=some (.done r)∧Q r))
  (skip:∀(x:Nat) (t:τ),x < n→p x=false→I x t→I (x+1) t)
  (done:∀t,I n t→∃r,body (mkS 0 t)=some (.done r)∧Q r) (t0:τ) (h0:I 0 t0) :
  ∃r,Qa fuel body (mkS ((msk n p:Nat):Int) t0)=some r∧Q r:=by
 have key:∀(j N k:Nat) (t:τ),k+j=n→j < N→I k t→∃r,Qa N body (mkS ((msk n fun i=>p i && decide (k≤i):Nat):Int) t)=some r∧Q r:=by
  intro j
  induction j using Nat.strongRecOn with
  | _ j ih =>
   intro N k t hk hN hI
   by_cases hx:∃i,k≤i∧i < n∧p i=true
   ·obtain ⟨x,x1,x2,x3,x4⟩:∃x,k≤x∧x < n∧p x=true∧∀i,k≤i→i < x→p i=false:=by
     have hs:=Qj7 n (fun i=>p i && decide (k≤i)) (by obtain ⟨i,a,b,c⟩:=hx; exact ⟨i,b,by simp [a,c]⟩)
     refine ⟨_,?_,hs.1,?_,fun i a b=>?_⟩
     ·have:=hs.2.1; simp at this; exact this.2
     ·have:=hs.2.1; simp at this; exact this.1
     ·have:=hs.2.2 i b; simpa [a] using this
    have hIx:I x t:=by
     have:∀d,k+d≤x→I (k+d) t:=by
      intro d
      induction d with
      | zero=>intro _; exact hI
      | succ d ihd=>intro h; exact skip (k+d) t (by omega) (x4 _ (by omega) (by omega)) (ihd (by omega))
     have h:=this (x - k) (by omega)
     rwa [show k+(x - k)=x by omega] at h
    obtain ⟨N,rfl⟩:∃M,N=M+1:=⟨N - 1,by omega⟩
    obtain ⟨a1,a2,a3⟩:=Qtj (n:=n) (v:=x) (p:=fun i=>p i && decide (k≤i)) hn x2 (by simp [x1,x3]) (fun i hi=>by
     by_cases h:k≤i
     ·rw [x4 i h hi]; rfl
     ·simp [h])
    have e:msk n (fun i=>(p i && decide (k≤i)) && !decide (x=i))=msk n fun i=>p i && decide (x+1≤i):=Yn fun i hi=>by
     by_cases h:x+1≤i
     ·have h2:¬ x=i:=by omega
      have h3:k≤i:=by omega
      simp [h,h2,h3]
     ·by_cases h2:x=i
      ·subst h2; simp
      ·by_cases h3:k≤i
       ·rw [x4 i h3 (by omega)]; simp
       ·simp [h,h3]
    rw [e] at a3
    rcases step x t _ _ x2 x3 hIx a1 a2 a3 with ⟨t',b1,b2⟩ | ⟨r,b1,b2⟩
    ·simp only [Qa,b1]
     exact ih (n - (x+1)) (by omega) N (x+1) t' (by omega) (by omega) b2
    ·simp only [Qa,b1]
     exact ⟨r,rfl,b2⟩
   ·have hno:∀i,k≤i→i < n→p i=false:=fun i a b=>by
     rw [Bool.eq_false_iff]; exact fun h=>hx ⟨i,a,b,h⟩
    have e:msk n (fun i=>p i && decide (k≤i))=0:=by
     have:msk n (fun _=>false)=0:=(Ks (by have:=Nat.two_pow_pos n; omega) fun i _=>by simp).symm
     rw [←this]
     exact Yn fun i hi=>by
      by_cases h:k≤i
      ·rw [hno i h hi]; rfl
      ·simp [h]
    have hIn:I n t:=by
     have:∀d,k+d≤n→I (k+d) t:=by
      intro d
      induction d with
      | zero=>intro _; exact hI
      | succ d ihd=>intro h; exact skip (k+d) t (by omega) (hno _ (by omega) (by omega)) (ihd (by omega))
     have h:=this (n - k) (by omega)
     rwa [show k+(n - k)=n by omega] at h
    obtain ⟨N,rfl⟩:∃M,N=M+1:=⟨N - 1,by omega⟩
    rw [e]
    obtain ⟨r,b1,b2⟩:=done t hIn
    refine ⟨r,?_,b2⟩
    show Qa (N+1) body (mkS 0 t)=_
    simp only [Qa,b1]
 have h:=key n fuel 0 t0 (by omega) (by show n < 1152921504606846976; omega) h0
 have e:msk n (fun i=>p i && decide (0≤i))=msk n p:=Yn fun i _=>by simp
 rwa [e] at h
def elim (A:Gr) (v:Nat):Gr:=fun u w=>(A u w || (A v u && A v w && !decide (u=w))) && !decide (u=v) && !decide (w=v)
theorem Qrr {n:Nat} {A:Gr} (h:Y0 n A) (v:Nat):Y0 n (elim A v):=by
 refine ⟨fun u w=>?_,fun u=>?_,fun u w h1=>?_⟩
 ·unfold elim
  rw [h.sym u w]
  by_cases e:u=w
  ·subst e; rfl
  ·have e2:¬ w=u:=fun h=>e h.symm
   simp only [decide_eq_false e,decide_eq_false e2]
   cases A v u <;> cases A v w <;> cases A w u <;> cases (decide (u=v)) <;> cases (decide (w=v)) <;> rfl
 ·unfold elim; rw [h.irr]; simp
 ·unfold elim at h1
  simp only [Bool.and_eq_true,Bool.or_eq_true] at h1
  rcases h1.1.1 with h2 | h2
  ·exact h.lt _ _ h2
  ·exact h.lt _ v (by rw [h.sym]; exact h2.1.1)
theorem Zm (k:Nat):(0:Int)≤(k:Int):=Int.natCast_nonneg k
theorem Qom {k:Nat} (h:k < 9223372036854775807):zw ((k:Int)+1)=((k+1:Nat):Int):=by rw [w64 (by omega)]; omega
theorem Jh {τ ρ σ:Type} {n k0:Nat} (hk:k0≤n) (hn:n < 1152921504606846976) (mkS:Int→τ→σ) {body:σ→Option (Qh σ ρ)} (I:Nat → τ→Prop) (Q:ρ→Prop)
  (step:∀(k:Nat) (t:τ),k0≤k→k < n→I k t→(∃t',body (mkS (k:Int) t)=some (.next (mkS (zw ((k:Int)+1)) t'))∧I (k+1) t')∨(∃r,body (mkS (k:Int) t)=some (.done r)∧Q r))
  (done:∀t,I n t→∃r,body (mkS (n:Int) t)=some (.done r)∧Q r) (t0:τ) (h0:I k0 t0):∃r,Qa fuel body (mkS (k0:Int) t0)=some r∧Q r:=by
 have key:∀(j N k:Nat) (t:τ),k+j=n→k0≤k→j < N→I k t→∃r,Qa N body (mkS (k:Int) t)=some r∧Q r:=by
  intro j
  induction j with
  | zero =>
   intro N k t e hk hN hI
   obtain ⟨N,rfl⟩:∃M,N=M+1:=⟨N - 1,by omega⟩
   have:k=n:=by omega
   subst this
   obtain ⟨r,b1,b2⟩:=done t hI
   simp only [Qa,b1]
   exact ⟨r,rfl,b2⟩
  | succ j ih =>
   intro N k t e hk hN hI
   obtain ⟨N,rfl⟩:∃M,N=M+1:=⟨N - 1,by omega⟩
   rcases step k t hk (by omega) hI with ⟨t',b1,b2⟩ | ⟨r,b1,b2⟩
   ·rw [Qom (by omega)] at b1
    simp only [Qa,b1]
    exact ih N (k+1) t' (by omega) (by omega) (by omega) b2
   ·simp only [Qa,b1]
    exact ⟨r,rfl,b2⟩
 exact key (n - k0) fuel k0 t0 (by omega) (Nat.le_refl _) (by show n - k0 < 1152921504606846976; omega) h0
theorem Zi {τ ρ σ:Type} {n k0:Nat} (hk:k0≤n) (hn:n < 1152921504606846976) (mkS:Int→τ→σ) {body:σ→Option (Qh σ ρ)} (T:Nat → τ) (r:ρ)
  (step:∀(k:Nat),k0≤k→k < n→body (mkS (k:Int) (T k))=some (.next (mkS (zw ((k:Int)+1)) (T (k+1)))))
  (done:body (mkS (n:Int) (T n))=some (.done r)):Qa fuel body (mkS (k0:Int) (T k0))=some r:=by
 obtain ⟨r',h1,h2⟩:=Jh hk hn mkS (body:=body) (fun k t=>t=T k) (fun x=>x=r) (fun k t a b c=>.inl ⟨T (k+1),by rw [c]; exact step k a b,rfl⟩) (fun t h=>⟨r,by rw [h]; exact done,rfl⟩) (T k0) rfl
 rw [h1,h2]
theorem dlt {k n:Nat} (h:k < n):decide ((k:Int) < (n:Int))=true:=decide_eq_true (by omega)
theorem nlt (n:Nat):¬ (decide ((n:Int) < (n:Int))=true):=by simp
def nI (l:List Nat):List Int:=l.map fun (k:Nat)=>(k:Int)
theorem Qg (l:List Nat):(nI l).length=l.length:=by simp [nI]
theorem Yw {l:List Nat} {k:Nat} (h:k < l.length):lkI (nI l) (k:Int)=some (l[k]:Int):=by rw [Q4 (by rwa [Qg])]; simp [nI]
def seqA (A:Gr) (o:List Nat):Gr:=o.foldl elim A
theorem Qk4 (A:Gr) (o:List Nat) (v:Nat):seqA A (o++[v])=elim (seqA A o) v:=by simp [seqA]
theorem Qfp {n:Nat}:∀{o:List Nat} {A:Gr},Y0 n A→Y0 n (seqA A o)
 | [],A,h=>h
 | v::o,A,h=>Qfp (o:=o) (Qrr h v)
theorem Q1s {A:Gr} {v u w:Nat} (h:elim A v u w=true):¬ u=v∧¬ w=v:=by unfold elim at h; simp at h; exact ⟨h.1.2,h.2⟩
theorem Qx5 {A:Gr} {v x:Nat} (hs:∀w,A x w=false) (u:Nat) (hA:∀u w,A u w=A w u):elim A v x u=false:=by
 unfold elim
 rw [hs,hA v x,hs]; simp
theorem Qnu {n:Nat}:∀{o:List Nat} {A:Gr} {x:Nat},Y0 n A→(x∈o∨∀w,A x w=false)→∀w,seqA A o x w=false
 | [],A,x,h,hx,w=>by rcases hx with hx | hx; cases hx; exact hx w
 | v::o,A,x,h,hx,w=>by
  refine Qnu (o:=o) (Qrr h v) ?_ w
  rcases hx with hx | hx
  ·rcases List.mem_cons.1 hx with e | hx
   ·subst e
    right
    intro w
    rw [Bool.eq_false_iff]
    intro h1
    exact (Q1s h1).1 rfl
   ·exact .inl hx
  ·right
   intro w
   exact Qx5 hx w h.sym
theorem Q2o {l:List Int} (h:l.length≤1000):Zg l=some l:=by
 cases l with
 | nil=>rfl
 | cons a l=>unfold Zg Jd; dsimp only; rw [if_pos (by omega)]
theorem Q3x (a b:Nat):(if (a:Int) > (b:Int) then (a:Int) else (b:Int))=((max b a:Nat):Int):=by split <;> omega
structure Ord (n:Nat) (o:List Nat):Prop where
 len:o.length=n
 lt:∀v∈o,v < n
 nodup:o.Nodup
def Qwd (a:List Nat):Prop:=∀x∈a,x < 18446744073709551616
def okV (a:List Nat) (v:Nat):Prop:=(a.getD v 0) / 2^a.length=0∧(a.getD v 0).testBit v=false∧∀w,w < a.length→(a.getD v 0).testBit w=(a.getD w 0).testBit v
def okG (a:List Nat):Prop:=1≤a.length∧a.length≤10∧∀v,v < a.length→okV a v
theorem Qv2 {a:List Nat} {v:Nat} (h:v < a.length):lkI (nI a) (v:Int)=some ((a.getD v 0:Nat):Int):=by
 rw [Yw h]; simp [h]
theorem Qp2 {a:List Nat} (h:Qwd a) {v:Nat} (hv:v < a.length):a.getD v 0 < 18446744073709551616:=by
 have:a.getD v 0=a[v]:=by simp [hv]
 rw [this]; exact h _ (List.getElem_mem hv)
theorem Q2t (x y:Bool):((x.toNat : Int) != (y.toNat : Int))=(x != y):=by cases x <;> cases y <;> rfl
theorem Q27 (x:Bool):((x.toNat : Int)==1)=x:=by cases x <;> rfl
theorem Q4b {a n:Nat} (hn:n≤10):Int.fdiv (a:Int) (2^min (Int.toNat (n:Int)) (IntKind.bits .u64))=((a / 2^n:Nat):Int):=by
 have hb:IntKind.bits .u64=64:=rfl
 rw [hb,Int.toNat_natCast,Nat.min_eq_left (by omega),Qtu]
theorem Q44 {q:Nat} (h:¬ q=0):((q:Int) != 0)=true:=by simp; omega
theorem Qzk {a:List Nat} (ha:Qwd a) (hn:a.length≤10) {v:Nat} (hv:v < a.length) :
  ∃r,Qa fuel (Vl (nI a) (v:Int) ((a.getD v 0:Nat):Int)) 0=some r∧((∃u,r=Sum.inl u∧¬ ∀w,w < a.length→(a.getD v 0).testBit w=(a.getD w 0).testBit v)∨(∃u,r=Sum.inr u∧∀w,w < a.length→(a.getD v 0).testBit w=(a.getD w 0).testBit v)):=by
 exact Jh (n:=a.length) (k0:=0) (by omega) (by omega) (fun i (t:Unit)=>i) (body:=Vl (nI a) (v:Int) ((a.getD v 0:Nat):Int)) (fun k t=>∀w,w < k→(a.getD v 0).testBit w=(a.getD w 0).testBit v) (fun r=>(∃u,r=Sum.inl u∧¬ ∀w,w < a.length→(a.getD v 0).testBit w=(a.getD w 0).testBit v)∨(∃u,r=Sum.inr u∧∀w,w < a.length→(a.getD v 0).testBit w=(a.getD w 0).testBit v))
  (fun k t _ h2 hI=>by
   have hb:Vl (nI a) (v:Int) ((a.getD v 0:Nat):Int) (k:Int)=if ((a.getD v 0).testBit k != (a.getD k 0).testBit v)=true then some (.done (Sum.inl ())) else some (.next (zw ((k:Int)+1))):=by
    unfold Vl
    rw [Qg,if_pos (dlt h2),if_pos (Zm k),Qv2 h2,Option.bind_some,if_pos (Zm v),Qgf (Qp2 ha hv) (by omega),Qgf (Qp2 ha h2) (by omega),Q2t]
   by_cases c:(a.getD v 0).testBit k=(a.getD k 0).testBit v
   ·refine .inl ⟨(),?_,fun w hw=>?_⟩
    ·rw [hb,if_neg (by simpa using c)]
    ·rcases Nat.lt_succ_iff_lt_or_eq.1 hw with h | h
     ·exact hI w h
     ·rw [h]; exact c
   ·refine .inr ⟨_,by rw [hb,if_pos (by simpa using c)],.inl ⟨(),rfl,fun h=>c (h k h2)⟩⟩)
  (fun t hI=>⟨_,by unfold Vl; rw [Qg,if_neg (nlt _)],.inr ⟨(),rfl,hI⟩⟩) () (fun w hw=>by omega)
theorem Qww {a:List Nat} (ha:Qwd a):(J7 (nI a)=some 0∧okG a)∨(J7 (nI a)=some 80∧¬ okG a):=by
 unfold J7
 rw [Qg]
 by_cases h1:a.length < 1
 ·right
  rw [if_pos (by simp; omega)]
  exact ⟨rfl,fun h=>by have:=h.1; omega⟩
 by_cases h2:a.length > 10
 ·right
  rw [if_neg (by simp; omega),if_pos (by simp; omega)]
  exact ⟨rfl,fun h=>by have:=h.2.1; omega⟩
 rw [if_neg (by simp; omega),if_neg (by simp; omega)]
 obtain ⟨r,e,hr⟩:=Jh (n:=a.length) (k0:=0) (by omega) (by omega) (fun i (t:Unit)=>i) (body:=Qaf (nI a)) (fun k t=>∀v,v < k→okV a v) (fun r=>(∃u,r=Sum.inl u∧¬ ∀v,v < a.length→okV a v)∨(∃u,r=Sum.inr u∧∀v,v < a.length→okV a v))
  (fun k t _ h3 hI=>by
   unfold Qaf
   rw [Qg,if_pos (dlt h3),Qv2 h3,Option.bind_some,if_pos (Zm _),Q4b (by omega)]
   by_cases c1:(a.getD k 0) / 2^a.length=0
   ·rw [c1,if_neg (by simp),if_pos (Zm k),Qgf (Qp2 ha h3) (by omega),Q27]
    by_cases c2:(a.getD k 0).testBit k=true
    ·refine .inr ⟨_,by rw [if_pos c2],.inl ⟨(),rfl,fun h=>?_⟩⟩
     have:=(h k h3).2.1
     rw [c2] at this; cases this
    ·rw [if_neg c2]
     obtain ⟨r,e,hr⟩:=Qzk ha (by omega) h3
     rw [e,Option.bind_some]
     rcases hr with ⟨u,rfl,hr⟩ | ⟨u,rfl,hr⟩
     ·exact .inr ⟨_,rfl,.inl ⟨(),rfl,fun h=>hr (h k h3).2.2⟩⟩
     ·refine .inl ⟨(),rfl,fun w hw=>?_⟩
      rcases Nat.lt_succ_iff_lt_or_eq.1 hw with h | h
      ·exact hI w h
      ·rw [h]; exact ⟨c1,by simpa using c2,hr⟩
   ·refine .inr ⟨_,by rw [if_pos (Q44 c1)],.inl ⟨(),rfl,fun h=>c1 (h k h3).1⟩⟩)
  (fun t hI=>⟨_,by unfold Qaf; rw [Qg,if_neg (nlt _)],.inr ⟨(),rfl,hI⟩⟩) () (fun w hw=>by omega)
 rw [show ((0:Nat):Int)=0 from rfl] at e
 rw [e,Option.bind_some]
 rcases hr with ⟨u,rfl,hr⟩ | ⟨u,rfl,hr⟩
 ·exact .inr ⟨rfl,fun h=>hr h.2.2⟩
 ·exact .inl ⟨rfl,by omega,by omega,hr⟩
theorem Q42 (n:Nat) (A:Gr):gl n A=nI ((List.range n).map fun v=>msk n (A v)):=by unfold gl nI; rw [List.map_map]; rfl
theorem Q21 {n:Nat} (hn:n≤10) (A:Gr):Qwd ((List.range n).map fun v=>msk n (A v)):=fun x hx=>by
 obtain ⟨v,_,rfl⟩:=List.mem_map.1 hx
 exact Qp7 hn (Zt n _)
theorem Qz8 {n:Nat} {A:Gr} (h1:1≤n) (hn:n≤10) (hG:Y0 n A):okG ((List.range n).map fun v=>msk n (A v)):=by
 have hl:((List.range n).map fun v=>msk n (A v)).length=n:=by simp
 have at':∀v,v < n→((List.range n).map fun v=>msk n (A v)).getD v 0=msk n (A v):=fun v hv=>by simp [hv]
 refine ⟨by omega,by omega,fun v hv=>?_⟩
 rw [hl] at hv
 unfold okV
 rw [hl,at' v hv]
 refine ⟨Nat.div_eq_of_lt (Zt n _),by rw [Y3 v hv,hG.irr],fun w hw=>?_⟩
 rw [at' w hw,Y3 w hw,Y3 v hv,hG.sym]
theorem Q06 {n:Nat} {A:Gr} (h1:1≤n) (hn:n≤10) (hG:Y0 n A):J7 (gl n A)=some 0:=by
 rw [Q42]
 rcases Qww (Q21 hn A) with h | h
 ·exact h.1
 ·exact absurd (Qz8 h1 hn hG) h.2
theorem Qvn (n:Nat):List.replicate n (0:Int)=gl n fun _ _=>false:=by
 apply List.ext_getElem?
 intro v
 by_cases hv:v < n
 ·rw [Qiz hv]
  have:msk n (fun _=>false)=0:=(Ks (by have:=Nat.two_pow_pos n; omega) fun i _=>by simp).symm
  rw [this]; simp [hv]
 ·rw [List.getElem?_eq_none (by simp; omega),List.getElem?_eq_none (by rw [Zd]; omega)]
theorem Qdr (n:Nat):cnt n (fun _=>true)=n:=by
 induction n with
 | zero=>rfl
 | succ n ih=>simp only [cnt]; rw [ih]; rfl
theorem Qyz {n:Nat} {L:Nat → Bool} {k:Nat} (h:cnt n L=k+1):(((msk n L:Nat):Int) != 0)=true:=by
 have:msk n L≠0:=fun e=>by
  have:∀i,i < n→L i=false:=fun i hi=>by
   have h2:=Y3 (p:=L) i hi
   rw [e] at h2; simpa using h2.symm
  have:=Qnt this; omega
 simp; omega
theorem Qt2 {n:Nat} {L:Nat → Bool} (h:cnt n L=0):msk n L=0:=by
 refine (Ks (by have:=Nat.two_pow_pos n; omega) fun i hi=>?_).symm
 have:L i=false:=by
  rw [Bool.eq_false_iff]; intro hh
  have:=Qqg hi hh; omega
 rw [this]; simp
inductive Via (A:Gr) (R:Nat → Bool):Nat → Nat → Prop
 | one {v u:Nat} (h:A v u=true):Via A R v u
 | step {v x u:Nat} (h:A v x=true) (hx:R x=true) (k:Via A R x u):Via A R v u
theorem Via.trans {A:Gr} {R:Nat → Bool} {u v w:Nat} (h:Via A R u v) (hv:R v=true) (k:Via A R v w):Via A R u w:=by
 induction h with
 | one h=>exact .step h hv k
 | step h hx _ ih=>exact .step h hx (ih hv k)
theorem Via.symm {n:Nat} {A:Gr} {R:Nat → Bool} {u v:Nat} (hG:Y0 n A) (h:Via A R u v):Via A R v u:=by
 induction h with
 | one h=>exact .one (by rw [hG.sym]; exact h)
 | step h hx _ ih=>exact ih.trans hx (.one (by rw [hG.sym]; exact h))
theorem Via.mono {A:Gr} {R R':Nat → Bool} {u v:Nat} (h:Via A R u v) (hR:∀x,R x=true→(∃y,A x y=true)→R' x=true):Via A R' u v:=by
 induction h with
 | one h=>exact .one h
 | step h hx k ih =>
  refine .step h (hR _ hx ?_) ih
  cases k with
  | one h=>exact ⟨_,h⟩
  | step h _ _=>exact ⟨_,h⟩
theorem Via.lt {n:Nat} {A:Gr} {R:Nat → Bool} {u v:Nat} (hG:Y0 n A) (h:Via A R u v):u < n∧v < n:=by
 induction h with
 | one h=>exact ⟨hG.lt _ _ h,hG.lt _ _ (by rw [hG.sym]; exact h)⟩
 | step h _ _ ih=>exact ⟨hG.lt _ _ h,ih.2⟩
theorem Qzy {A:Gr} {R R':Nat → Bool} {v:Nat} (hR:∀x,R' x=true→R x=true∨x=v) {u w:Nat} (h:Via A R' u w):Via A R u w∨(Via A R u v∧Via A R v w):=by
 induction h with
 | one h=>exact .inl (.one h)
 | step h hx _ ih =>
  rcases hR _ hx with e | e
  ·rcases ih with i | ⟨i,j⟩
   ·exact .inl (.step h e i)
   ·exact .inr ⟨.step h e i,j⟩
  ·subst e
   rcases ih with i | ⟨i,j⟩
   ·exact .inr ⟨.one h,i⟩
   ·exact .inr ⟨.one h,j⟩
open Classical in
noncomputable def Egr (A:Gr) (S:Nat → Bool):Gr:=fun u w=>S u && S w && !decide (u=w) && decide (Via A (fun i=>!S i) u w)
theorem Qe2 {A:Gr} {S:Nat → Bool} {u w:Nat}:Egr A S u w=true↔S u=true∧S w=true∧u≠w∧Via A (fun i=>!S i) u w:=by
 unfold Egr
 simp only [Bool.and_eq_true,Bool.not_eq_true',decide_eq_false_iff_not,decide_eq_true_eq]
 constructor
 ·rintro ⟨⟨⟨a,b⟩,c⟩,d⟩; exact ⟨a,b,c,d⟩
 ·rintro ⟨a,b,c,d⟩; exact ⟨⟨⟨a,b⟩,c⟩,d⟩
theorem Q0p {n:Nat} {A:Gr} {S:Nat → Bool} {v:Nat} (hG:Y0 n A) (hv:S v=true):∀u w,elim (Egr A S) v u w=Egr A (fun i=>S i && !decide (v=i)) u w:=fun u w=>by
 rw [Bool.eq_iff_iff,Qe2]
 unfold elim
 simp only [Bool.and_eq_true,Bool.or_eq_true,Bool.not_eq_true',decide_eq_false_iff_not,Qe2]
 have hm:∀x:Nat,(fun i=>!S i) x=true→(∃y,A x y=true)→(fun i=>!(S i && !decide (v=i))) x=true:=fun x h _=>by
  simp only [Bool.not_eq_true'] at h
  simp [h]
 have hv':(fun i=>!(S i && !decide (v=i))) v=true:=by simp
 constructor
 ·rintro ⟨⟨h | ⟨⟨h1,h2⟩,h3⟩,h4⟩,h5⟩
  ·exact ⟨⟨h.1,fun e=>h4 e.symm⟩,⟨h.2.1,fun e=>h5 e.symm⟩,h.2.2.1,h.2.2.2.mono hm⟩
  ·exact ⟨⟨h1.2.1,fun e=>h4 e.symm⟩,⟨h2.2.1,fun e=>h5 e.symm⟩,h3,((h1.2.2.2.symm hG).mono hm).trans hv' (h2.2.2.2.mono hm)⟩
 ·rintro ⟨⟨a1,a2⟩,⟨b1,b2⟩,c,d⟩
  have hr:∀x:Nat,(fun i=>!(S i && !decide (v=i))) x=true→(fun i=>!S i) x=true∨x=v:=fun x h=>by
   by_cases e:v=x
   ·exact .inr e.symm
   ·simp only [Bool.not_eq_true',Bool.and_eq_false_iff,Bool.not_eq_false',decide_eq_true_eq] at h
    rcases h with h | h
    ·left; simp [h]
    ·exact absurd h e
  refine ⟨⟨?_,fun e=>a2 e.symm⟩,fun e=>b2 e.symm⟩
  rcases Qzy hr d with h | ⟨h1,h2⟩
  ·exact .inl ⟨a1,b1,c,h⟩
  ·exact .inr ⟨⟨⟨hv,a1,a2,h1.symm hG⟩,⟨hv,b1,b2,h2⟩⟩,c⟩
noncomputable def lateN (n:Nat) (A:Gr) (S:Nat → Bool) (v:Nat):Nat := cnt n (Egr A S v)
theorem Qy5 {n:Nat} {A:Gr} {S T:Nat → Bool} (hG:Y0 n A) (h:∀i,i < n→S i=T i):Egr A S=Egr A T:=by
 funext u w
 rw [Bool.eq_iff_iff,Qe2,Qe2]
 have key:∀(S T:Nat → Bool),(∀i,i < n→S i=T i)→S u=true∧S w=true∧u≠w∧Via A (fun i=>!S i) u w→T u=true∧T w=true∧u≠w∧Via A (fun i=>!T i) u w:=fun S T h=>by
  rintro ⟨a,b,c,d⟩
  obtain ⟨l1,l2⟩:=d.lt hG
  exact ⟨by rw [←h u l1]; exact a,by rw [←h w l2]; exact b,c,d.mono fun x hx ⟨y,hy⟩=>by
   show (!T x)=true
   rw [←h x (hG.lt x y hy)]; exact hx⟩
 exact ⟨key S T h,key T S fun i hi=>(h i hi).symm⟩
theorem Qrn {n:Nat} {A:Gr} {S:Nat → Bool} {v:Nat} (hn:n≤10) (hG:Y0 n A) (hv:v < n) (hS:S v=true) :
  K4 (gl n A) (v:Int) ((msk n fun i=>!S i:Nat):Int)=some (lateN n A S v:Int):=by
 unfold K4
 rw [if_pos (Zm v),Kz hv,Option.bind_some]
 have body:∀(D X:Nat → Bool) (x:Nat),x < n→X x=true→(∀i,i < x→X i=false)→Kn ((msk n fun i=>!S i:Nat):Int) (gl n A) (((msk n D:Nat):Int),((msk n fun i=>D i && (S i && !decide (v=i)):Nat):Int),((msk n X:Nat):Int)) =
   some (.next (((msk n fun i=>D i || decide (x=i):Nat):Int),((msk n fun i=>(D i && (S i && !decide (v=i))) || (S x && decide (x=i)):Nat):Int),((msk n fun i=>(X i && !decide (x=i)) || (!S x && (A x i && !(D i || decide (x=i)))):Nat):Int))):=fun D X x hx hX hl=>by
  obtain ⟨a1,a2,a3⟩:=Qtj hn hx hX hl
  have hb:zv (zb (Int.fdiv ((msk n fun i=>!S i:Nat):Int) (2^min (Int.toNat (x:Int)) (IntKind.bits .u64))) &&& zb 1).toNat = ((!S x).toNat : Int):=by
   rw [Qgf (Qp7 hn (Zt n _)) (by omega),Y3 x hx]
  unfold Kn
  dsimp only
  rw [if_pos a1,a2,Option.bind_some,if_pos (Zm x),if_pos (Zm x),hb,Qe9 hn hx,Qe9 hn hx,a3,Kz hx]
  cases hs:S x with
  | true =>
   rw [if_pos (by rfl),if_pos (Zm x)]
   simp only [Bool.true_and,Bool.not_true,Bool.false_and,Bool.or_false]
  | false =>
   rw [if_neg (by decide),Option.bind_some]
   rw [Qk3 (n:=n) (p:=A x) (q:=fun i=>D i || decide (x=i)) (by omega) (Zt n _) (Qp7 hn (Zt n _)) Y3 Y3]
   rw [Qwr (n:=n) (p:=fun i=>X i && !decide (x=i)) (q:=fun i=>A x i && !(D i || decide (x=i))) (by omega) (Zt n _) (Zt n _) Y3 Y3]
   simp only [Bool.false_and,Bool.or_false,Bool.not_false,Bool.true_and]
 obtain ⟨r,h1,h2⟩:=Vc (body:=Kn ((msk n fun i=>!S i:Nat):Int) (gl n A))
  (fun s=>∃D X:Nat → Bool,s=(((msk n D:Nat):Int),((msk n fun i=>D i && (S i && !decide (v=i)):Nat):Int),((msk n X:Nat):Int))∧D v=true∧(∀i,X i=true→D i=false)∧(∀i,X i=true→Via A (fun i=>!S i) v i)∧(∀i,D i=true→i≠v→Via A (fun i=>!S i) v i)∧(∀y i,D y=true→(y=v∨S y=false)→A y i=true→D i=true∨X i=true))
  (fun s=>cnt n fun i=>!(s.1.toNat.testBit i)) (fun r=>r=((msk n (Egr A S v):Nat):Int))
  (fun s hI=>by
   obtain ⟨D,X,rfl,d1,d2,d3,d4,d5⟩:=hI
   by_cases hX:∃i,i < n∧X i=true
   ·left
    obtain ⟨t1,t2,t3⟩:=Qj7 n X hX
    generalize tzN n X=x at t1 t2 t3
    have hDx:=d2 x t2
    have hvx:=d3 x t2
    refine ⟨_,body D X x t1 t2 t3,⟨fun i=>D i || decide (x=i),fun i=>(X i && !decide (x=i)) || (!S x && (A x i && !(D i || decide (x=i)))),?_,by simp [d1],fun i hi=>?_,fun i hi=>?_,fun i hi hne=>?_,fun y i hy hyv hA=>?_⟩,?_⟩
    ·congr 1
     congr 1
     refine congrArg _ (Yn fun i _=>?_)
     have hxv:x≠v:=fun e=>by subst e; rw [d1] at hDx; cases hDx
     grind
    ·simp only [Bool.or_eq_true,Bool.and_eq_true,Bool.not_eq_true',decide_eq_false_iff_not,Bool.or_eq_false_iff] at hi
     rw [Bool.or_eq_false_iff,decide_eq_false_iff_not]
     rcases hi with hi | hi
     ·exact ⟨d2 i hi.1,hi.2⟩
     ·exact hi.2.2
    ·simp only [Bool.or_eq_true,Bool.and_eq_true,Bool.not_eq_true',decide_eq_false_iff_not,Bool.or_eq_false_iff] at hi
     rcases hi with hi | hi
     ·exact d3 i hi.1
     ·exact hvx.trans (by simp [hi.1]) (.one hi.2.1)
    ·simp only [Bool.or_eq_true,decide_eq_true_eq] at hi
     rcases hi with hi | hi
     ·exact d4 i hi hne
     ·subst hi; exact hvx
    ·simp only [Bool.or_eq_true,decide_eq_true_eq] at hy
     simp only [Bool.or_eq_true,Bool.and_eq_true,Bool.not_eq_true',decide_eq_false_iff_not,decide_eq_true_eq,Bool.or_eq_false_iff]
     rcases hy with hy | hy
     ·rcases d5 y i hy hyv hA with h | h
      ·exact .inl (.inl h)
      ·by_cases e:x=i
       ·exact .inl (.inr e)
       ·exact .inr (.inl ⟨h,e⟩)
     ·subst hy
      have hSx:S x=false:=by
       rcases hyv with e | e
       ·subst e; rw [d1] at hDx; cases hDx
       ·exact e
      by_cases e:x=i
      ·exact .inl (.inr e)
      ·cases hD:D i with
       | true=>exact .inl (.inl rfl)
       | false=>exact .inr (.inr ⟨hSx,hA,rfl,e⟩)
    ·simp only [Int.toNat_natCast]
     have e1:(cnt n fun i=>!(msk n fun i=>D i || decide (x=i)).testBit i)=cnt n fun i=>(!D i) && !decide (x=i):=Qbq fun i hi=>by rw [Y3 i hi]; simp
     have e2:(cnt n fun i=>!(msk n D).testBit i)=cnt n fun i=>!D i:=Qbq fun i hi=>by rw [Y3 i hi]
     rw [e1,e2]
     have:=Qjc (n:=n) (p:=fun i=>!D i) t1 (by simp [hDx])
     omega
   ·right
    have hno:∀i,i < n→X i=false:=fun i hi=>by rw [Bool.eq_false_iff]; exact fun h=>hX ⟨i,hi,h⟩
    have e0:msk n X=0:=(Ks (by have:=Nat.two_pow_pos n; omega) fun i hi=>by rw [hno i hi]; simp).symm
    refine ⟨((msk n fun i=>D i && (S i && !decide (v=i)):Nat):Int),by unfold Kn; dsimp only; rw [e0]; rfl,?_⟩
    refine congrArg _ (Yn fun i hi=>?_)
    have seen:∀y z,Via A (fun i=>!S i) y z→D y=true→(y=v∨S y=false)→D z=true:=fun y z h=>by
     induction h with
     | one h =>
      intro hy hyv
      rcases d5 _ _ hy hyv h with h2 | h2
      ·exact h2
      ·rw [hno _ (hG.lt _ _ (by rw [hG.sym]; exact h))] at h2; cases h2
     | @step _ x _ h hx k ih =>
      intro hy hyv
      have hx':S x=false:=by simpa using hx
      rcases d5 _ _ hy hyv h with h2 | h2
      ·exact ih h2 (.inr hx')
      ·rw [hno _ (hG.lt _ _ (by rw [hG.sym]; exact h))] at h2; cases h2
    rw [Bool.eq_iff_iff,Qe2]
    simp only [Bool.and_eq_true,Bool.not_eq_true',decide_eq_false_iff_not]
    constructor
    ·rintro ⟨a,b,c⟩
     exact ⟨hS,b,c,d4 i a fun e=>c e.symm⟩
    ·rintro ⟨_,b,c,d⟩
     exact ⟨seen v i d d1 (.inl rfl),b,c⟩)
  (zv (1*2^min (Int.toNat (v:Int)) (IntKind.bits .u64)),0,((msk n (A v):Nat):Int))
  ⟨fun i=>decide (v=i),A v,(by
   rw [Qtt (by omega)]
   have e1:2^v=msk n fun i=>decide (v=i):=Ks (Nat.pow_lt_pow_right (by omega) hv) fun i _=>Qmv v i
   have e2:(msk n fun i=>decide (v=i) && (S i && !decide (v=i)))=0:=(Ks (by have:=Nat.two_pow_pos n; omega) fun i _=>by simp; intro e _; exact e).symm
   rw [e1,e2]; rfl),by simp,
   (fun i hi=>by rw [decide_eq_false_iff_not]; intro e; subst e; rw [hG.irr] at hi; cases hi),(fun i hi=>.one hi),
   (fun i hi hne=>by simp only [decide_eq_true_eq] at hi; exact absurd hi.symm hne),
   (fun y i hy hyv hA=>by simp only [decide_eq_true_eq] at hy; subst hy; exact .inr hA)⟩
  (by
   have:=Qsw n fun i=>!((zv (1*2^min (Int.toNat (v:Int)) (IntKind.bits .u64))).toNat.testBit i)
   dsimp only
   omega)
 rw [h1,Option.bind_some,h2,Qy9 hn]; rfl
def mn (n:Nat) (S:Nat → Bool) (f:Nat → Nat):Nat → Nat
 | 0=>n
 | k+1=>if S k then min (mn n S f k) (f k) else mn n S f k
theorem Qw7 {n:Nat} {S:Nat → Bool} {f:Nat → Nat} {w:Nat} (hw:w < n):∀k,mn n S f k≤w↔∃v,v < k∧S v=true∧f v≤w
 | 0=>by
  simp only [mn]; constructor
  ·intro h; omega
  ·rintro ⟨v,hv,_⟩; omega
 | k+1=>by
  have ih:=Qw7 (S:=S) (f:=f) hw k
  simp only [mn]
  cases hS:S k with
  | true =>
   rw [if_pos rfl]
   constructor
   ·intro h
    rcases Nat.le_total (mn n S f k) (f k) with c | c
    ·rw [Nat.min_eq_left c] at h
     obtain ⟨v,a,b⟩:=ih.1 h
     exact ⟨v,by omega,b⟩
    ·rw [Nat.min_eq_right c] at h
     exact ⟨k,by omega,hS,h⟩
   ·rintro ⟨v,a,b,c⟩
    rcases Nat.lt_succ_iff_lt_or_eq.1 a with h | h
    ·have:=ih.2 ⟨v,h,b,c⟩; omega
    ·subst h; omega
  | false =>
   rw [if_neg (by decide),ih]
   constructor
   ·rintro ⟨v,a,b⟩; exact ⟨v,by omega,b⟩
   ·rintro ⟨v,a,b,c⟩
    rcases Nat.lt_succ_iff_lt_or_eq.1 a with h | h
    ·exact ⟨v,h,b,c⟩
    ·subst h; rw [hS] at b; cases b
theorem Qub {n:Nat} {S T:Nat → Bool} {f g:Nat → Nat}:∀k,(∀i,i < k→S i=T i)→(∀i,i < k→S i=true→f i=g i)→mn n S f k=mn n T g k
 | 0,_,_=>rfl
 | k+1,h1,h2=>by
  simp only [mn]
  rw [Qub k (fun i hi=>h1 i (by omega)) (fun i hi=>h2 i (by omega)),←h1 k (by omega)]
  cases hS:S k with
  | true=>rw [h2 k (by omega) hS]
  | false=>rfl
def rem (S:Nat → Bool) (v:Nat):Nat → Bool:=fun i=>S i && !decide (v=i)
noncomputable def wid (n:Nat) (A:Gr):Nat → (Nat → Bool)→Nat
 | 0,_=>0
 | k+1,S=>mn n S (fun v=>max (lateN n A S v) (wid n A k (rem S v))) n
theorem Qwn {n:Nat} {A:Gr} {S T:Nat → Bool} (hG:Y0 n A) (h:∀i,i < n→S i=T i) (v:Nat):lateN n A S v=lateN n A T v:=by unfold lateN; rw [Qy5 hG h]
theorem Qro {n:Nat} {A:Gr} (hG:Y0 n A):∀(k:Nat) (S T:Nat → Bool),(∀i,i < n→S i=T i)→wid n A k S=wid n A k T
 | 0,_,_,_=>rfl
 | k+1,S,T,h=>by
  simp only [wid]
  refine Qub n h fun v hv _=>?_
  rw [Qwn hG h,Qro hG k (rem S v) (rem T v) fun i hi=>by unfold rem; rw [h i hi]]
theorem Q2y {n:Nat} {A:Gr} {S:Nat → Bool} {v:Nat} (hG:Y0 n A) (hv:v < n):lateN n A S v < n:=by
 unfold lateN
 have h1:cnt n (Egr A S v)≤cnt n (fun i=>true && !decide (v=i)):=Qs2 fun i hi h=>by
  have:v≠i:=(Qe2.1 h).2.2.1
  simp [this]
 have h2:=Qjc (n:=n) (p:=fun _=>true) hv rfl
 rw [Qdr] at h2
 omega
theorem Qi0 {n:Nat} {S:Nat → Bool} {v k:Nat} (hv:v < n) (h:S v=true) (hc:cnt n S=k+1):cnt n (rem S v)=k:=by
 have:=Qjc (n:=n) hv h
 unfold rem; omega
theorem Q23 {n:Nat} {S:Nat → Bool} {k:Nat} (hc:cnt n S=k+1):∃v,v < n∧S v=true:=by
 apply Classical.byContradiction
 intro h
 have:=Qnt (n:=n) (p:=S) fun i hi=>by rw [Bool.eq_false_iff]; exact fun hh=>h ⟨i,hi,hh⟩
 omega
theorem Qox {n:Nat} {A:Gr} (hG:Y0 n A) (h1:1≤n):∀(k:Nat) (S:Nat → Bool),cnt n S=k→wid n A k S < n
 | 0,_,_=>by simp only [wid]; omega
 | k+1,S,hc=>by
  obtain ⟨v,hv,hS⟩:=Q23 hc
  have h2:=Qox hG h1 k (rem S v) (Qi0 hv hS hc)
  have h3:=Q2y (S:=S) hG hv
  simp only [wid]
  have hm:max (lateN n A S v) (wid n A k (rem S v)) < n:=by omega
  exact Nat.lt_of_le_of_lt ((Qw7 (S:=S) (f:=fun v=>max (lateN n A S v) (wid n A k (rem S v))) hm n).2 ⟨v,hv,hS,Nat.le_refl _⟩) hm
theorem Qoz {n:Nat} {A:Gr} {k w:Nat} {S:Nat → Bool} (hw:w < n):wid n A (k+1) S≤w↔∃v,v < n∧S v=true∧lateN n A S v≤w∧wid n A k (rem S v)≤w:=by
 simp only [wid]
 rw [Qw7 hw]
 constructor
 ·rintro ⟨v,a,b,c⟩; exact ⟨v,a,b,by omega,by omega⟩
 ·rintro ⟨v,a,b,c,d⟩; exact ⟨v,a,b,by omega⟩
theorem Qht (k:Int) (w:Int):∀(l:List (Int × Int)) (n:Int),Xu (mput l k w) n=if n==k then some w else Xu l n
 | [],n=>by simp only [mput,Xu]
 | p::r,n=>by
  unfold mput
  by_cases h:(k==p.1)=true
  ·rw [if_pos h]
   have e:k=p.1:=by simpa using h
   simp only [Xu]
   by_cases h2:(n==k)=true
   ·simp [h2]
   ·have h3:(n==p.1)=false:=by rw [←e]; simpa using h2
    simp [h2,h3]
  ·rw [if_neg h]
   simp only [Xu,Qht k w r n]
   by_cases h2:(n==p.1)=true
   ·have e2:n=p.1:=by simpa using h2
    have h3:(n==k)=false:=by
     rw [Bool.eq_false_iff]; intro h4
     have:n=k:=by simpa using h4
     exact h (by rw [←this,e2]; simp)
    simp [h2,h3]
   ·simp [h2]
def Vm (n:Nat) (A:Gr) (m:List (Int × Int)):Prop:=(∀S w,Xu m ((msk n S:Nat):Int)=some w→w=(wid n A (cnt n S) S:Int))∧Xu m 0=some 0
theorem Q4t {n:Nat} {A:Gr} {m:List (Int × Int)} (hG:Y0 n A) (h:Vm n A m) {S:Nat → Bool} {k:Nat} (hc:cnt n S=k+1):Vm n A (mput m ((msk n S:Nat):Int) (wid n A (k+1) S:Int)):=by
 refine ⟨fun T w hw=>?_,?_⟩
 ·rw [Qht] at hw
  split at hw
  ·rename_i e
   cases hw
   have e1:msk n T=msk n S:=by
    have:((msk n T:Nat):Int)=((msk n S:Nat):Int):=by simpa using e
    omega
   have e2:=Q3k e1
   rw [Qbq e2,hc,Qro hG _ _ _ e2]
  ·exact h.1 T w hw
 ·rw [Qht,if_neg,h.2]
  have:=Qyz hc
  simp at this
  simp; omega
theorem Q1f (n:Nat) (A:Gr):Vm n A (mput [] (0:Int) (0:Int)):=by
 refine ⟨fun S w hw=>?_,rfl⟩
 rw [Qht] at hw
 split at hw
 ·rename_i e
  cases hw
  have e1:msk n S=0:=by
   have:((msk n S:Nat):Int)=0:=by simpa using e
   omega
  have:cnt n S=0:=Qnt fun i hi=>by
   have h2:=Y3 (p:=S) i hi
   rw [e1] at h2; simpa using h2.symm
  rw [this]; rfl
 ·cases hw
theorem Qkl {n:Nat} {S:Nat → Bool} (hn:n≤10):zv (zb (zv ((zv (1*2^min (Int.toNat (n:Int)) (IntKind.bits .u64))) - 1)) &&& ~~~ zb ((msk n S:Nat):Int)).toNat = ((msk n fun i=>!S i:Nat):Int):=by
 rw [Q2d hn,Qk3 (n:=n) (p:=fun _=>true) (q:=S) (by omega) (Zt n _) (Qp7 hn (Zt n _)) Y3 Y3]
 simp
theorem Q5m (a b:Nat):(if (a:Int) < (b:Int) then (a:Int) else (b:Int))=((min b a:Nat):Int):=by split <;> omega
theorem Qig {n:Nat} {A:Gr} (hn:n≤10) (h1:1≤n) (hG:Y0 n A):∀(k N:Nat) (S:Nat → Bool) (m:List (Int × Int)),k < N→cnt n S=k→Vm n A m →
  ∃m',Ve (X6 (gl n A)) N (((msk n S:Nat):Int),m)=some ((wid n A k S:Int),m')∧Vm n A m'
 | k,0,S,m,hN,_,_=>by omega
 | k,N+1,S,m,hN,hc,hV=>by
  show ∃m',X6 (gl n A) (Ve (X6 (gl n A)) N) (((msk n S:Nat):Int),m)=some ((wid n A k S:Int),m')∧Vm n A m'
  have ih:∀(k:Nat) (S:Nat → Bool) (m:List (Int × Int)),k < N→cnt n S=k→Vm n A m→∃m',Ve (X6 (gl n A)) N (((msk n S:Nat):Int),m)=some ((wid n A k S:Int),m')∧Vm n A m':=fun k S m a b c=>Qig hn h1 hG k N S m a b c
  generalize Ve (X6 (gl n A)) N=d at ih
  unfold X6
  dsimp only
  cases hm:Xu m ((msk n S:Nat):Int) with
  | some w =>
   rw [if_pos (by rfl)]
   have:=hV.1 S w hm
   rw [hc] at this
   exact ⟨m,by rw [this]; rfl,hV⟩
  | none =>
   rw [if_neg (by simp)]
   cases k with
   | zero=>rw [Qt2 hc] at hm; rw [show ((0:Nat):Int)=0 from rfl,hV.2] at hm; cases hm
   | succ k =>
    let f:Nat → Nat := fun v=>max (lateN n A S v) (wid n A k (rem S v))
    obtain ⟨r,e1,e2⟩:=Qti hn (fun R (t:List (Int × Int) × Int)=>(R,t.1,t.2)) (body:=Qa9 (gl n A) (((msk n S:Nat):Int),m) d) (fun j t=>Vm n A t.1∧t.2=(mn n S f j:Int)) (fun r=>Vm n A r.1∧r.2=(mn n S f n:Int)) S
     (fun x t R R' hx hp hI c1 c2 c3=>.inl (by
      obtain ⟨t1,t2⟩:=t
      obtain ⟨i1,i2⟩:=hI
      simp only at i1 i2
      subst i2
      obtain ⟨m',e,hV'⟩:=ih k (rem S x) t1 (by omega) (Qi0 hx hp hc) i1
      have hl:=Qrn hn hG hx hp
      have hd:zv (zb ((msk n S:Nat):Int) &&& ~~~ zb (zv (1*2^min (Int.toNat (x:Int)) (IntKind.bits .u64)))).toNat = ((msk n (rem S x):Nat):Int):=Qsc hn (by omega)
      refine ⟨(m',(mn n S f (x+1):Int)),?_,hV',rfl⟩
      unfold Qa9
      dsimp only
      rw [if_pos c1,c2,Option.bind_some,Zd,Qkl hn,hl,Option.bind_some,if_pos (Zm x),hd,e,Option.bind_some,c3]
      simp only [Q3x,Q5m,mn,hp,if_true,f]))
     (fun x t hx hp hI=>⟨hI.1,by rw [hI.2]; simp only [mn]; rw [hp]; rfl⟩)
     (fun t hI=>⟨_,by unfold Qa9; dsimp only; rw [if_neg (by simp)],hI⟩)
     (m,((gl n A).length:Int)) ⟨hV,by rw [Zd]; rfl⟩
    dsimp only at e1
    rw [e1,Option.bind_some]
    refine ⟨mput r.1 ((msk n S:Nat):Int) r.2,by rw [e2.2]; rfl,?_⟩
    rw [e2.2]
    exact Q4t hG e2.1 hc
open Classical in
noncomputable def Jn (n:Nat) (A:Gr) (w:Nat):Nat → (Nat → Bool)→List Nat
 | 0,_=>[]
 | k+1,S=>match (List.range n).find? fun v=>S v && decide (lateN n A S v≤w) && decide (wid n A k (rem S v)≤w) with
  | none=>[]
  | some v=>v::Jn n A w k (rem S v)
theorem Qpq {n:Nat} {p:Nat → Bool}:((List.range n).find? p=none∧∀i,i < n→p i=false)∨∃v,(List.range n).find? p=some v∧v < n∧p v=true∧∀i,i < v→p i=false:=by
 cases h:(List.range n).find? p with
 | none =>
  left
  refine ⟨rfl,fun i hi=>?_⟩
  have:=List.find?_eq_none.1 h i (List.mem_range.2 hi)
  simpa using this
 | some v =>
  right
  rw [List.find?_range_eq_some] at h
  exact ⟨v,rfl,List.mem_range.1 h.2.1,h.1,fun i hi=>by simpa using h.2.2 i hi⟩
theorem r31:Qhz=X6:=rfl
theorem Qvg (o:List Nat) (v:Nat):nI o++([(v:Int)]:List Int)=nI (o++[v]):=by simp [nI]
theorem place {n:Nat} {A:Gr} (hn:n≤10) (h1:1≤n) (hG:Y0 n A) {k w:Nat} {S:Nat → Bool} {o:List Nat} {m mx:List (Int × Int)} (hc:cnt n S=k+1) (hV:Vm n A m) (ho:o.length≤100) :
  (∃v m',Qa fuel (X7 (gl n A) (((msk n S:Nat):Int),nI o,m) ((w:Int),mx)) (((msk n S:Nat):Int),m)=some (Sum.inl (((msk n (rem S v):Nat):Int),m',nI (o++[v])))∧Vm n A m'∧v < n∧S v=true∧lateN n A S v≤w∧wid n A k (rem S v)≤w∧∀i,i < v→S i=true→¬ (lateN n A S i≤w∧wid n A k (rem S i)≤w)) ∨
  (∃m',Qa fuel (X7 (gl n A) (((msk n S:Nat):Int),nI o,m) ((w:Int),mx)) (((msk n S:Nat):Int),m)=some (Sum.inr m')∧∀i,i < n→S i=true→¬ (lateN n A S i≤w∧wid n A k (rem S i)≤w)):=by
 obtain ⟨r,e1,e2⟩:=Qti hn (fun R (t:List (Int × Int))=>(R,t)) (body:=X7 (gl n A) (((msk n S:Nat):Int),nI o,m) ((w:Int),mx)) (fun j t=>Vm n A t∧∀i,i < j→S i=true→¬ (lateN n A S i≤w∧wid n A k (rem S i)≤w))
  (fun r=>(∃v m',r=Sum.inl (((msk n (rem S v):Nat):Int),m',nI (o++[v]))∧Vm n A m'∧v < n∧S v=true∧lateN n A S v≤w∧wid n A k (rem S v)≤w∧∀i,i < v→S i=true→¬ (lateN n A S i≤w∧wid n A k (rem S i)≤w))∨(∃m',r=Sum.inr m'∧∀i,i < n→S i=true→¬ (lateN n A S i≤w∧wid n A k (rem S i)≤w))) S
  (fun x t R R' hx hp hI c1 c2 c3=>by
   obtain ⟨i1,i2⟩:=hI
   have hl:=Qrn hn hG hx hp
   have hd:zv (zb ((msk n S:Nat):Int) &&& ~~~ zb (zv (1*2^min (Int.toNat (x:Int)) (IntKind.bits .u64)))).toNat = ((msk n (rem S x):Nat):Int):=Qsc hn (by omega)
   obtain ⟨m',e,hV'⟩:=Qig hn h1 hG k fuel (rem S x) t (by have:=Qsw n S; show k < 1152921504606846976; omega) (Qi0 hx hp hc) i1
   have more:¬ (lateN n A S x≤w∧wid n A k (rem S x)≤w)→∀i,i < x+1→S i=true→¬ (lateN n A S i≤w∧wid n A k (rem S i)≤w):=fun h i hi hS=>by
    rcases Nat.lt_succ_iff_lt_or_eq.1 hi with h2 | h2
    ·exact i2 i h2 hS
    ·rw [h2]; exact h
   by_cases l1:lateN n A S x≤w
   ·have d1:decide ((lateN n A S x:Int)≤(w:Int))=true:=by simpa using l1
    by_cases l2:wid n A k (rem S x)≤w
    ·right
     have d2:decide ((wid n A k (rem S x):Int)≤(w:Int))=true:=by simpa using l2
     have hlen:(nI o++([(x:Int)]:List Int)).length*8≤140737488355328:=by rw [List.length_append,Qg]; simp; omega
     refine ⟨_,?_,.inl ⟨x,m',rfl,hV',hx,hp,l1,l2,i2⟩⟩
     unfold X7
     dsimp only
     rw [if_pos c1,c2,Option.bind_some,Zd,Qkl hn,hl,Option.bind_some,if_pos d1,if_pos (Zm x),hd,r31,e,Option.bind_some,if_pos d2,if_pos hlen,if_pos (Zm x),Qvg]
    ·left
     have d2:¬ decide ((wid n A k (rem S x):Int)≤(w:Int))=true:=by simpa using l2
     refine ⟨m',?_,hV',more fun h=>l2 h.2⟩
     unfold X7
     dsimp only
     rw [if_pos c1,c2,Option.bind_some,Zd,Qkl hn,hl,Option.bind_some,if_pos d1,if_pos (Zm x),hd,r31,e,Option.bind_some,if_neg d2,c3]
   ·left
    have d1:¬ decide ((lateN n A S x:Int)≤(w:Int))=true:=by simpa using l1
    refine ⟨t,?_,i1,more fun h=>l1 h.1⟩
    unfold X7
    dsimp only
    rw [if_pos c1,c2,Option.bind_some,Zd,Qkl hn,hl,Option.bind_some,if_neg d1,c3])
  (fun x t hx hp hI=>⟨hI.1,fun i hi hS=>by
   rcases Nat.lt_succ_iff_lt_or_eq.1 hi with h2 | h2
   ·exact hI.2 i h2 hS
   ·subst h2; rw [hp] at hS; cases hS⟩)
  (fun t hI=>⟨_,by unfold X7; dsimp only; rw [if_neg (by simp)],.inr ⟨t,rfl,hI.2⟩⟩)
  m ⟨hV,fun i hi=>by omega⟩
 rcases e2 with ⟨v,m',rfl,h⟩ | ⟨m',rfl,h⟩
 ·exact .inl ⟨v,m',e1,h⟩
 ·exact .inr ⟨m',e1,h⟩
theorem Qq3 {n:Nat} {A:Gr} {w k v:Nat} {S:Nat → Bool} (hv:v < n) (hS:S v=true) (h1:lateN n A S v≤w) (h2:wid n A k (rem S v)≤w) (h3:∀i,i < v→S i=true→¬ (lateN n A S i≤w∧wid n A k (rem S i)≤w)) :
  Jn n A w (k+1) S=v::Jn n A w k (rem S v):=by
 simp only [Jn]
 rcases Qpq (n:=n) (p:=fun v=>S v && decide (lateN n A S v≤w) && decide (wid n A k (rem S v)≤w)) with ⟨_,h⟩ | ⟨u,e,u1,u2,u3⟩
 ·have:=h v hv
  simp [hS,h1,h2] at this
 ·rw [e]
  have huv:u=v:=by
   rcases Nat.lt_trichotomy u v with c | c | c
   ·simp only [Bool.and_eq_true,decide_eq_true_eq] at u2
    exact absurd ⟨u2.1.2,u2.2⟩ (h3 u c u2.1.1)
   ·exact c
   ·have:=u3 v c
    simp [hS,h1,h2] at this
  rw [huv]
theorem Qyf {n:Nat} {A:Gr} (hn:n≤10) (h1:1≤n) (hG:Y0 n A) {w:Nat} (hw:w < n) {mx:List (Int × Int)}:∀(k N:Nat) (S:Nat → Bool) (o:List Nat) (m:List (Int × Int)),k < N→cnt n S=k→Vm n A m→o.length+k≤100→wid n A k S≤w →
  Qa N (Kk (gl n A) ((w:Int),mx)) (((msk n S:Nat):Int),nI o,m)=some (nI (o++Jn n A w k S))
 | 0,N,S,o,m,hN,hc,hV,hl,hwid=>by
  obtain ⟨N,rfl⟩:∃M,N=M+1:=⟨N - 1,by omega⟩
  rw [Qt2 hc]
  simp [Qa,Kk,Jn]
 | k+1,N,S,o,m,hN,hc,hV,hl,hwid=>by
  obtain ⟨N,rfl⟩:∃M,N=M+1:=⟨N - 1,by omega⟩
  rcases place hn h1 hG (w:=w) (mx:=mx) hc hV (o:=o) (by omega) with ⟨v,m',e,hV',hv,hS,l1,l2,l3⟩ | ⟨m',_,hno⟩
  ·have hb:Kk (gl n A) ((w:Int),mx) (((msk n S:Nat):Int),nI o,m)=some (.next (((msk n (rem S v):Nat):Int),nI (o++[v]),m')):=by
    unfold Kk
    dsimp only
    rw [if_pos (Qyz hc),e,Option.bind_some]
   simp only [Qa,hb]
   rw [Qyf hn h1 hG hw k N (rem S v) (o++[v]) m' (by omega) (Qi0 hv hS hc) hV' (by simp; omega) l2,Qq3 hv hS l1 l2 l3]
   simp
  ·obtain ⟨v,a,b,c,d⟩:=(Qoz hw).1 hwid
   exact absurd ⟨c,d⟩ (hno v a b)
theorem Qy3 {n:Nat} {A:Gr} (h1:1≤n) (hn:n≤10) (hG:Y0 n A):Qd4 (gl n A)=some (nI (Jn n A (wid n A n fun _=>true) n fun _=>true),(wid n A n (fun _=>true):Int),0):=by
 unfold Qd4
 rw [Q06 h1 hn hG,Option.bind_some,if_neg (by decide),Zd,if_pos (Zm n),Q2d hn]
 obtain ⟨m',e,hV⟩:=Qig hn h1 hG n fuel (fun _=>true) _ (by show n < 1152921504606846976; omega) (Qdr n) (Q1f n A)
 rw [e,Option.bind_some]
 have h:=Qyf hn h1 hG (w:=wid n A n fun _=>true) (Qox hG h1 n _ (Qdr n)) (mx:=m') n fuel (fun _=>true) [] m' (by show n < 1152921504606846976; omega) (Qdr n) hV (by simp; omega) (Nat.le_refl _)
 rw [show nI []=[] from rfl] at h
 rw [h]; rfl
structure Q40 (n:Nat) (S:Nat → Bool) (o:List Nat):Prop where
 mem:∀i,i∈o↔i < n∧S i=true
 nodup:o.Nodup
theorem Q1u {n:Nat} {A:Gr} {S:Nat → Bool} {v:Nat} (hG:Y0 n A) (hv:S v=true):elim (Egr A S) v=Egr A (rem S v):=funext fun u=>funext fun w=>Q0p hG hv u w
theorem Qkj {n:Nat} {A:Gr} {w:Nat} (hw:w < n):∀(k:Nat) (S:Nat → Bool),cnt n S=k→wid n A k S≤w→Q40 n S (Jn n A w k S)∧(Jn n A w k S).length=k
 | 0,S,hc,h=>by
  refine ⟨⟨fun i=>?_,by simp [Jn]⟩,rfl⟩
  simp only [Jn,List.not_mem_nil,false_iff,not_and]
  intro hi hS
  have:=Qqg hi hS; omega
 | k+1,S,hc,h=>by
  obtain ⟨v,a,b,c,d⟩:=(Qoz hw).1 h
  rcases Qpq (n:=n) (p:=fun v=>S v && decide (lateN n A S v≤w) && decide (wid n A k (rem S v)≤w)) with ⟨_,hno⟩ | ⟨u,e,u1,u2,u3⟩
  ·have:=hno v a
   simp [b,c,d] at this
  ·simp only [Bool.and_eq_true,decide_eq_true_eq] at u2
   obtain ⟨ih,ihl⟩:=Qkj hw k (rem S u) (Qi0 u1 u2.1.1 hc) u2.2
   simp only [Jn,e]
   refine ⟨⟨fun i=>?_,List.nodup_cons.2 ⟨fun hm=>?_,ih.nodup⟩⟩,by rw [List.length_cons,ihl]⟩
   ·rw [List.mem_cons,ih.mem]
    unfold rem
    simp only [Bool.and_eq_true,Bool.not_eq_true',decide_eq_false_iff_not]
    constructor
    ·rintro (e | ⟨a,b,c⟩)
     ·rw [e]; exact ⟨u1,u2.1.1⟩
     ·exact ⟨a,b⟩
    ·rintro ⟨a,b⟩
     by_cases e:i=u
     ·exact .inl e
     ·exact .inr ⟨a,b,fun e2=>e e2.symm⟩
   ·have:=((ih.mem u).1 hm).2
    unfold rem at this
    simp at this
theorem Q1n {n:Nat} {A:Gr} {S:Nat → Bool} (hG:Y0 n A) (h:∀u w,A u w=true→S u=true):Egr A S=A:=funext fun u=>funext fun w=>by
 rw [Bool.eq_iff_iff,Qe2]
 constructor
 ·rintro ⟨_,_,_,k⟩
  cases k with
  | one h=>exact h
  | step h1 hx k =>
   have:=h _ _ (by rw [hG.sym]; exact h1)
   simp [this] at hx
 ·intro hA
  exact ⟨h u w hA,h w u (by rw [hG.sym]; exact hA),(fun e=>by subst e; rw [hG.irr] at hA; cases hA),.one hA⟩
end Go.Ab
namespace Go.Ab
open Go
set_option maxRecDepth 100000
set_option maxHeartbeats 400000
def rowG {α:Type} (n:Nat) (F:Nat → α):List α:=(List.range n).map F
theorem Z1 {α:Type} {n:Nat} {F:Nat → α}:(rowG n F).length=n:=by simp [rowG]
theorem Zr {α:Type} {n:Nat} {F:Nat → α} {k:Nat} (h:k < n):lkI (rowG n F) (k:Int)=some (F k):=by
 rw [Q4 (by rw [Z1]; exact h)]; simp [rowG]
theorem Zu {α:Type} {n:Nat} {F G:Nat → α} (h:∀k,k < n→F k=G k):rowG n F=rowG n G:=by
 unfold rowG
 apply List.map_congr_left
 intro t ht
 exact h t (by simpa using ht)
theorem Qbs {α:Type} {n:Nat} {F:Nat → α} {k:Nat} {x:α}:(rowG n F).set k x=rowG n (fun s=>if s=k then x else F s):=by
 apply List.ext_getElem?
 intro s
 rw [List.getElem?_set]
 simp only [rowG,List.getElem?_map,List.length_map,List.length_range]
 by_cases e:k=s
 ·subst e
  rw [if_pos rfl]
  by_cases hk:k < n
  ·rw [if_pos hk,List.getElem?_range hk]; simp
  ·rw [if_neg hk,List.getElem?_eq_none (by simpa using hk)]; rfl
 ·rw [if_neg e]
  by_cases hs:s < n
  ·rw [List.getElem?_range hs]; simp only [Option.map_some]; rw [if_neg (Ne.symm e)]
  ·rw [List.getElem?_eq_none (by simpa using hs)]; rfl
theorem Qnj {α:Type} (n:Nat) (x:α):List.replicate n x=rowG n (fun _=>x):=by
 apply List.ext_getElem?
 intro s
 rw [List.getElem?_replicate]
 by_cases hs:s < n
 ·rw [if_pos hs]; simp [rowG,List.getElem?_range hs]
 ·rw [if_neg hs,List.getElem?_eq_none (by rw [Z1]; omega)]
theorem Qhs {α:Type} {n:Nat} {F:Nat → α}:rowG n F++[F n]=rowG (n+1) F:=by
 unfold rowG; rw [List.range_succ]; simp
def Qj3 {α:Type} (w:Nat → α) (i:Nat) (x:α):Nat → α:=fun s=>if s=i then x else w s
theorem Qby {α:Type} {w:Nat → α} {i:Nat} {x:α}:Qj3 w i x i=x:=by simp [Qj3]
theorem Qgw {α:Type} {w:Nat → α} {i j:Nat} {x:α} (h:j≠i):Qj3 w i x j=w j:=by simp [Qj3,h]
def Q5:Nat → (Nat → Int)→Int
 | 0,_=>0
 | n+1,f=>Q5 n f+f n
theorem Qos {n:Nat} {f g:Nat → Int} (h:∀k,k < n→f k=g k):Q5 n f=Q5 n g:=by
 induction n with
 | zero=>rfl
 | succ n ih=>simp only [Q5]; rw [ih (fun k hk=>h k (by omega)),h n (by omega)]
theorem Q1d {n:Nat} {f g:Nat → Int}:Q5 n (fun k=>f k+g k)=Q5 n f+Q5 n g:=by
 induction n with
 | zero=>rfl
 | succ n ih=>simp only [Q5,ih]; omega
theorem Qlq {n:Nat}:Q5 n (fun _=>0)=0:=by
 induction n with
 | zero=>rfl
 | succ n ih=>simp only [Q5,ih]; rfl
theorem Qay {n:Nat} {f:Nat → Int} (h:∀k,k < n→0≤f k):0≤Q5 n f:=by
 induction n with
 | zero=>exact Int.le_refl 0
 | succ n ih=>simp only [Q5]; have:=ih (fun k hk=>h k (by omega)); have:=h n (by omega); omega
theorem Q1l {n k:Nat} {c:Int} (h:k < n):Q5 n (fun x=>if k=x then c else 0)=c:=by
 induction n with
 | zero=>omega
 | succ n ih =>
  simp only [Q5]
  by_cases e:k=n
  ·subst e
   rw [if_pos rfl,Qos (g:=fun _=>0) (fun x hx=>if_neg (by omega)),Qlq]; omega
  ·rw [if_neg e,ih (by omega)]; omega
theorem Qxj {a b:Nat} {f:Nat → Int}:Q5 (a+b) f=Q5 a f+Q5 b (fun k=>f (a+k)):=by
 induction b with
 | zero=>simp [Q5]
 | succ b ih=>rw [←Nat.add_assoc]; simp only [Q5,ih]; omega
def Zh:Nat → (Nat → Nat)→Nat
 | 0,_=>1
 | n+1,f=>Zh n f*f n
theorem Qlz {n K:Nat} {f:Nat → Nat} (h:∀k,k < n→f k≤K):Zh n f≤K^n:=by
 induction n with
 | zero=>simp [Zh]
 | succ n ih=>simp only [Zh,Nat.pow_succ]; exact Nat.mul_le_mul (ih fun k hk=>h k (by omega)) (h n (by omega))
structure NF where
 n:Nat
 g:Nat
 card:Nat → Nat
 par:Nat → List Nat
 W:Nat → Nat → Nat → Nat
def lprod (f:Nat → Nat) (l:List Nat):Nat := l.foldl (fun r p=>r*f p) 1
def NF.rows (D:NF) (v:Nat):Nat := lprod D.card (D.par v)
def NF.node (D:NF) (v:Nat):Tapi_Node:=⟨D.card v,(D.par v).map (fun (p:Nat)=>(p:Int)),rowG (D.rows v) fun r=>rowG (D.card v) fun x=>(D.W v r x:Int)⟩
def NF.net (D:NF):Qc:=⟨D.g,rowG D.n D.node⟩
def Ze (n:Nat) (w:Nat → Nat):List Int:=rowG n fun j=>(w j:Int)
theorem Qc9 {n k:Nat} {w:Nat → Nat} (h:k < n):lkI (Ze n w) (k:Int)=some (w k:Int):=Zr h
theorem Qdn {n:Nat} {w:Nat → Nat}:(Ze n w).length=n:=Z1
structure VN (D:NF):Prop where
 n1:1≤D.n
 n8:D.n≤8
 g1:1≤D.g
 g60:D.g≤60
 card:∀v,v < D.n→1≤D.card v∧D.card v≤4
 par:∀v,v < D.n→∀p∈D.par v,p < D.n
 len:∀v,v < D.n→(D.par v).length≤8
 W:∀v r x,v < D.n→r < D.rows v→x < D.card v→D.W v r x≤D.g
 worlds:Zh D.n D.card≤1024
theorem Qhq {f:Nat → Nat} {l:List Nat} {p:Nat}:lprod f (l++[p])=lprod f l*f p:=by simp [lprod]
theorem Qkc {f:Nat → Nat} {l:List Nat} (h:∀p∈l,f p≤4):lprod f l≤4^l.length:=by
 have key:∀(l:List Nat) (R K:Nat),R≤K→(∀p∈l,f p≤4)→l.foldl (fun r p=>r*f p) R≤K*4^l.length:=by
  intro l
  induction l with
  | nil=>intro R K h _; simpa using h
  | cons p l ih =>
   intro R K hr hp
   simp only [List.foldl_cons,List.length_cons,Nat.pow_succ]
   have:=ih (R*f p) (K*4) (Nat.mul_le_mul hr (hp p (by simp))) (fun q hq=>hp q (List.mem_cons_of_mem _ hq))
   rwa [Nat.mul_assoc,Nat.mul_comm 4] at this
 have:=key l 1 1 (by omega) h
 simpa [lprod] using this
section
variable {D:NF} (V:VN D) {w:Nat → Nat}
include V
theorem VN.rows_le {v:Nat} (hv:v < D.n):D.rows v≤65536:=by
 refine Nat.le_trans (Qkc fun p hp=>(V.card p (V.par v hv p hp)).2) ?_
 exact Nat.pow_le_pow_right (by omega) (V.len v hv)
omit V in
theorem Qt {α:Type} {l:List α} {k:Nat} (h:k < l.length):l.take (k+1)=l.take k++[l[k]]:=by rw [List.take_add_one,List.getElem?_eq_getElem h]; rfl
theorem VN.node {v:Nat} (hv:v < D.n):lkI D.net.Nodes (v:Int)=some (D.node v):=Zr hv
end
theorem Qr5 {a k:Nat} (ha:a < 18446744073709551616) (hk:k < 64) :
  zv (zb (a:Int) ||| zb (zv (1*2^min (Int.toNat (k:Int)) (IntKind.bits .u64)))).toNat = ((a ||| 2^k:Nat):Int):=by
 have hb:IntKind.bits .u64=64:=rfl
 have e0:min (Int.toNat (k:Int)) (IntKind.bits .u64)=k:=by rw [hb,Int.toNat_natCast]; omega
 have hp:2^k < 18446744073709551616:=by
  have:2^k < 2^64:=Nat.pow_lt_pow_right (by omega) hk
  exact this
 rw [e0,show (1:Int)*2^k=((2^k:Nat):Int) by simp,X8 hp]
 have e1:(zb (a:Int) ||| zb ((2^k:Nat):Int)).toNat = a ||| 2^k:=by
  rw [BitVec.toNat_or,J1 ha,J1 hp]
 rw [e1,X8]
 exact Nat.or_lt_two_pow (n:=64) ha hp
theorem or_lt {a k:Nat} (ha:a < 18446744073709551616) (hk:k < 64):a ||| 2^k < 18446744073709551616 :=
 Nat.or_lt_two_pow (n:=64) ha (Nat.pow_lt_pow_right (by omega) hk)
theorem Q3p {a k j:Nat}:(a ||| 2^k).testBit j=(a.testBit j || decide (k=j)):=by
 rw [Nat.testBit_or,Nat.testBit_two_pow]
theorem Qog {a b:Nat} (ha:a < 18446744073709551616) (hb:b < 18446744073709551616) :
  (zv (zb (a:Int) &&& ~~~ zb (b:Int)).toNat == 0)=true↔∀j,a.testBit j=true→b.testBit j=true:=by
 have h1:(zb (a:Int) &&& ~~~ zb (b:Int)).toNat < 18446744073709551616:=BitVec.isLt _
 rw [X8 h1]
 generalize hx:zb (a:Int) &&& ~~~ zb (b:Int)=x
 have hbit:∀j,j < 64→x.getLsbD j=(a.testBit j && !(b.testBit j)):=fun j hj=>by
  rw [←hx,BitVec.getLsbD_and,BitVec.getLsbD_not]
  have:(IntKind.bits .u64)=64:=rfl
  have e1:(zb (a:Int)).getLsbD j=a.testBit j:=by unfold BitVec.getLsbD; rw [J1 ha]
  have e2:(zb (b:Int)).getLsbD j=b.testBit j:=by unfold BitVec.getLsbD; rw [J1 hb]
  rw [e1,e2]
  simp [this,hj]
 constructor
 ·intro h j hj
  have hx0:x.toNat = 0:=by simpa using h
  have h64:j < 64:=by
   rcases Nat.lt_or_ge j 64 with h' | h'
   ·exact h'
   ·have:=Nat.testBit_lt_two_pow (i:=j) (x:=a) (Nat.lt_of_lt_of_le ha (Nat.pow_le_pow_right (n:=2) (by omega) h'))
    rw [this] at hj; cases hj
  have h2:=hbit j h64
  have h3:x.getLsbD j=false:=by unfold BitVec.getLsbD; rw [hx0]; simp
  rw [h3,hj] at h2
  simpa using h2
 ·intro h
  have:x=0#_:=by
   apply BitVec.eq_of_getLsbD_eq
   intro j hj
   have hj':j < 64:=hj
   rw [hbit j hj']
   cases ha':a.testBit j with
   | false=>simp
   | true=>rw [h j ha']; simp
  rw [this]; rfl
def KK:Int:=167961600000000
def BD (m:Nat) (z:Int):Prop:=-((m:Int)*KK)≤z∧z≤(m:Int)*KK
theorem BD.add {m p:Nat} {a b:Int} (h:BD m a) (k:BD p b):BD (m+p) (a+b):=by
 unfold BD at *
 rw [Int.natCast_add,Int.add_mul]; omega
theorem BD.zero {m:Nat}:BD m 0:=by unfold BD KK; omega
theorem BD.sum {n p:Nat} {f:Nat → Int} (h:∀k,k < n→BD p (f k)):BD (n*p) (Q5 n f):=by
 induction n with
 | zero=>exact BD.zero
 | succ n ih=>simp only [Q5]; rw [Nat.succ_mul]; exact (ih fun k hk=>h k (by omega)).add (h n (by omega))
section
variable {D:NF} {E:Nat → Int}
theorem Qj9 {α β:Type} {o:Option α} {a:α} {k:α→Option β} {r:Option β} (h:o=some a) (h2:k a=r):o.bind k=r:=by rw [h]; exact h2
theorem Q13 {n:Nat} {f:Nat → Nat} {l:List Nat} (hl:∀p∈l,p < n) (h8:l.length≤8):Qgg (Ze n f) (l.map fun (p:Nat)=>(p:Int))=some (l.map fun p=>(f p:Int)):=by
 unfold Qgg
 refine Qj9 (Qcd (s0:=((0:Int),([]:List Int))) (r:=l.map fun p=>(f p:Int)) (fun k=>((k:Int),(l.take k).map fun p=>(f p:Int))) l.length (by simp) (fun k hk=>?_) ?_ (by omega)) rfl
 ·unfold Qf7
  simp only
  rw [if_pos (by simpa using hk),Q4 (by simpa using hk)]
  simp only [Option.bind_some,List.getElem_map]
  rw [Qc9 (hl _ (List.getElem_mem hk))]
  simp only [Option.bind_some]
  rw [if_pos (by simp [List.length_take]; omega),w64 (by omega),Qt hk]
  simp only [List.map_append,List.map_cons,List.map_nil]
  rfl
 ·unfold Qf7
  simp only
  rw [if_neg (by simp),List.take_of_length_le (Nat.le_refl _)]
end
structure VX (D:NF):Prop where
 vn:VN D
 sorted:∀v,v < D.n→(D.par v).Pairwise (· < ·)
 self:∀v,v < D.n→v ∉ D.par v
 rank:∃rk:Nat → Nat,∀v,v < D.n→∀p∈D.par v,rk p < rk v
 sum:∀v r,v < D.n→r < D.rows v→Q5 (D.card v) (fun x=>(D.W v r x:Int))=D.g
theorem K9:∀(a b:List Nat),a.Nodup→a ⊆ b→a.length≤b.length
 | [],_,_,_=>by simp
 | x::a,b,hn,hs=>by
  have hx:x∈b:=hs (by simp)
  rw [List.nodup_cons] at hn
  have h1:a ⊆ b.erase x:=fun y hy=>by
   have hne:y≠x:=fun e=>hn.1 (e ▸ hy)
   exact (List.mem_erase_of_ne hne).2 (hs (List.mem_cons_of_mem _ hy))
  have h2:=K9 a (b.erase x) hn.2 h1
  have h3:=List.length_erase_of_mem hx
  have h4:0 < b.length:=List.length_pos_of_mem hx
  simp only [List.length_cons]
  omega
def bitsOf (l:List Nat) (a:Nat):Nat := l.foldl (fun a p=>a ||| 2^p) a
theorem X2 {j:Nat}:∀(l:List Nat) (a:Nat),(bitsOf l a).testBit j=(a.testBit j || decide (j∈l))
 | [],a=>by simp [bitsOf]
 | p::l,a=>by
  have:=X2 (j:=j) l (a ||| 2^p)
  unfold bitsOf at this ⊢
  simp only [List.foldl_cons]
  rw [this,Q3p]
  by_cases h:p=j
  ·subst h; simp
  ·have:j≠p:=Ne.symm h
   simp [h,this]
theorem Qbd:∀(l:List Nat) (a:Nat),a < 18446744073709551616→(∀p∈l,p < 64)→bitsOf l a < 18446744073709551616
 | [],a,h,_=>h
 | p::l,a,h,hl=>Qbd l (a ||| 2^p) (or_lt h (hl p (by simp))) fun q hq=>hl q (List.mem_cons_of_mem _ hq)
theorem Qc0 {l:List Nat} {p a:Nat}:bitsOf (l++[p]) a=bitsOf l a ||| 2^p:=by simp [bitsOf]
section
variable {D:NF}
def Qn9 (D:NF) (v:Nat):Nat := bitsOf (D.par v) 0
theorem Qvm (V:VN D) {v:Nat} (hv:v < D.n):Qn9 D v < 18446744073709551616:=Qbd _ _ (by omega) fun p hp=>by have:=V.par v hv p hp; have:=V.n8; omega
theorem Qtr {v j:Nat}:(Qn9 D v).testBit j=decide (j∈D.par v):=by unfold Qn9; rw [X2]; simp
theorem Qym (X:VX D):∃order,Ya (Ze D.n (Qn9 D))=some (order,true):=by
 have V:=X.vn
 have hn:=V.n8
 obtain ⟨rk,hrk⟩:=X.rank
 have hlen:(Ze D.n (Qn9 D)).length=D.n:=Qdn
 let I:Int × List Int→Prop:=fun s=>∃(l:List Nat),l.Nodup∧(∀p∈l,p < D.n)∧s=((bitsOf l 0:Int),l.map fun (p:Nat)=>(p:Int))
 have hw:=Vc (body:=Xm (Ze D.n (Qn9 D))) I (fun s=>D.n - s.2.length) (fun r=>∃o,r=Sum.inr o) (fun s hs=>?_) ((0:Int),List.replicate (Int.toNat 0) (0:Int)) ⟨[],List.nodup_nil,fun p hp=>by simp at hp,rfl⟩ (by simp; omega)
 ·obtain ⟨r,h1,o,rfl⟩:=hw
  refine ⟨o,?_⟩
  unfold Ya
  rw [if_pos (by rw [hlen]; omega),h1]
  rfl
 ·obtain ⟨l,hnd,hl,rfl⟩:=hs
  have hll:l.length≤D.n:=by
   have h1:l ⊆ List.range D.n:=fun p hp=>List.mem_range.2 (hl p hp)
   have:=K9 l (List.range D.n) hnd h1
   simpa using this
  have hdl:bitsOf l 0 < 18446744073709551616:=Qbd _ _ (by omega) fun p hp=>by have:=hl p hp; omega
  by_cases hc:l.length < D.n
  ·
   have hex:∃v,v < D.n∧v ∉ l:=by
    apply Classical.byContradiction
    intro hno
    have h1:List.range D.n ⊆ l:=fun p hp=>by
     apply Classical.byContradiction
     intro hp'
     exact hno ⟨p,List.mem_range.1 hp,hp'⟩
    have:=K9 (List.range D.n) l List.nodup_range h1
    simp at this
    omega
   have hmin:∃v,v < D.n∧v ∉ l∧∀u,u < D.n→u ∉ l→rk v≤rk u:=by
    obtain ⟨v0,h1,h2⟩:=hex
    have:∀(k:Nat) (v:Nat),rk v≤k→v < D.n→v ∉ l→∃v,v < D.n∧v ∉ l∧∀u,u < D.n→u ∉ l→rk v≤rk u:=by
     intro k
     induction k with
     | zero=>intro v hk h1 h2; exact ⟨v,h1,h2,fun u _ _=>by omega⟩
     | succ k ih =>
      intro v hk h1 h2
      by_cases hall:∀u,u < D.n→u ∉ l→rk v≤rk u
      ·exact ⟨v,h1,h2,hall⟩
      ·have:∃u,u < D.n∧u ∉ l∧rk u < rk v:=by
        apply Classical.byContradiction
        intro hno
        exact hall fun u hu hul=>by
         apply Classical.byContradiction
         intro hlt
         exact hno ⟨u,hu,hul,by omega⟩
       obtain ⟨u,hu,hul,hlt⟩:=this
       exact ih u (by omega) hu hul
    exact this (rk v0) v0 (Nat.le_refl _) h1 h2
   obtain ⟨v1,hv1,hv1l,hv1m⟩:=hmin
   have hready:∀p∈D.par v1,p∈l:=fun p hp=>by
    apply Classical.byContradiction
    intro hpl
    have h1:=hv1m p (V.par v1 hv1 p hp) hpl
    have h2:=hrk v1 hv1 p hp
    omega
   left
   have hs2:=Vc (body:=V3 (Ze D.n (Qn9 D)) ((bitsOf l 0:Int),l.map fun (p:Nat)=>(p:Int))) (fun s=>∃k:Nat,k≤v1∧s=(k:Int)) (fun s=>D.n - s.toNat)
    (fun r=>∃v,v < D.n∧v ∉ l∧r=Sum.inl (((bitsOf l 0 ||| 2^v:Nat):Int),(l.map fun (p:Nat)=>(p:Int))++[(v:Int)])) (fun s hs=>?_) (0:Int) ⟨0,by omega,rfl⟩ (by simp; omega)
   ·obtain ⟨r,h1,v,hv,hvl,rfl⟩:=hs2
    refine ⟨(((bitsOf l 0 ||| 2^v:Nat):Int),(l.map fun (p:Nat)=>(p:Int))++[(v:Int)]),?_,⟨l++[v],?_,?_,?_⟩,by simp; omega⟩
    ·unfold Xm
     simp only
     rw [if_pos (by rw [hlen]; simp; omega),h1]
     rfl
    ·rw [List.nodup_append]
     exact ⟨hnd,by simp,fun a ha b hb=>by simp at hb; subst hb; exact fun e=>hvl (e ▸ ha)⟩
    ·intro p hp
     rcases List.mem_append.1 hp with h | h
     ·exact hl p h
     ·simp at h; subst h; exact hv
    ·rw [Qc0]; simp
   ·obtain ⟨k,hk,rfl⟩:=hs
    have hkn:k < D.n:=by omega
    have ek:zw ((k:Int)+1)=((k+1:Nat):Int):=by rw [w64 (by omega)]; omega
    have hbk:(bitsOf l 0).testBit k=decide (k∈l):=by rw [X2]; simp
    unfold V3
    simp only
    rw [if_pos (by rw [hlen]; simpa using hkn),Qc9 hkn]
    simp only [Option.bind_some]
    rw [if_pos (by omega),Qgf hdl (by omega),hbk]
    by_cases hkl:k∈l
    ·left
     rw [if_neg (by simp [hkl]),ek]
     have hne:k≠v1:=fun e=>hv1l (e ▸ hkl)
     exact ⟨_,rfl,⟨k+1,by omega,rfl⟩,by simp; omega⟩
    ·rw [if_pos (by simp [hkl])]
     by_cases hsub:∀p∈D.par k,p∈l
     ·right
      rw [if_pos ((Qog (Qvm V hkn) hdl).2 fun j hj=>by
       rw [Qtr] at hj
       rw [X2]
       simp at hj ⊢
       exact hsub j hj),if_pos (by simp; omega),if_pos (by omega),Qr5 hdl (by omega)]
      exact ⟨_,rfl,k,hkn,hkl,rfl⟩
     ·left
      have hne:k≠v1:=fun e=>by subst e; exact hsub hready
      rw [if_neg (fun hc'=>hsub fun p hp=>by
       have:=(Qog (Qvm V hkn) hdl).1 hc' p (by rw [Qtr]; simpa using hp)
       rw [X2] at this
       simpa using this),ek]
      exact ⟨_,rfl,⟨k+1,by omega,rfl⟩,by simp; omega⟩
  ·right
   refine ⟨Sum.inr (l.map fun (p:Nat)=>(p:Int)),?_,_,rfl⟩
   unfold Xm
   simp only
   rw [if_neg (by rw [hlen]; simp; omega)]
end
theorem Qzq {n:Nat} {f:Nat → Nat}:∃s:Nat,Q5 n (fun x=>(f x:Int))=(s:Int):=by
 obtain ⟨s,hs⟩:=Int.eq_ofNat_of_zero_le (Qay (n:=n) (f:=fun x=>(f x:Int)) fun _ _=>Int.natCast_nonneg _)
 exact ⟨s,hs⟩
theorem Qfb {n k:Nat} {f:Nat → Int} (h:∀j,j < n→0≤f j) (hk:k≤n):Q5 k f≤Q5 n f:=by
 obtain ⟨m,rfl⟩:=Nat.exists_eq_add_of_le hk
 rw [Qxj]
 have:=Qay (n:=m) (f:=fun x=>f (k+x)) fun j hj=>h _ (by omega)
 omega
theorem Qpw {g S:Nat} (hS:0 < S):∀(n:Nat) (o:Nat → Nat),Q5 n (fun x=>((g*o x / S:Nat):Int))*S≤g*Q5 n (fun x=>(o x:Int))
 | 0,_=>by simp [Q5]
 | n+1,o=>by
  have ih:=Qpw (g:=g) hS n o
  have h1:g*o n / S*S≤g*o n:=Nat.div_mul_le_self _ _
  have h2:(((g*o n / S:Nat):Int))*(S:Int)≤(g:Int)*(o n:Int):=by exact_mod_cast h1
  simp only [Q5]
  rw [Int.add_mul,Int.mul_add]
  exact Int.add_le_add ih h2
theorem Q09 {g c:Nat} {l:List Int} {fr:Nat} (hg:g≤60) (hc:1≤c) (hc4:c≤4) (hl:∀x∈l,0≤x∧x≤255) (hll:l.length≤9223372036854775807) (hfr:fr≤100000) :
  ∃f:Nat → Nat,Qcv (g:Int) (c:Int) l (fr:Int)=some (rowG c fun x=>(f x:Int))∧Q5 c (fun x=>(f x:Int))=g:=by
 have hb0:∃o:Nat → Nat,(∀j,o j < 8)∧Qa fuel (Jr (c:Int) l (fr:Int)) ((0:Int),(0:Int),rowG c fun _=>(0:Int))=some (Q5 c (fun x=>(o x:Int)),rowG c fun x=>(o x:Int)):=by
  by_cases h0:l.length=0
  ·refine ⟨fun _=>0,fun _=>Nat.zero_lt_succ _,?_⟩
   have hz:∀k,Q5 k (fun _=>((0:Nat):Int))=0:=fun k=>Qlq
   refine Qcd (fun k=>((0:Int),(k:Int),rowG c fun _=>(0:Int))) c _ rfl (fun k hk=>?_) ?_ (by omega)
   ·unfold Jr
    simp only
    rw [if_pos (by simpa using hk),if_neg (by simp [h0]),Zr hk]
    simp only [Option.bind_some]
    rw [w64 (by omega),w64 (by omega)]
    rfl
   ·unfold Jr
    simp only
    rw [if_neg (by simp),hz]
    rfl
  ·have hpos:0 < l.length:=by omega
   let o:Nat → Nat := fun k=>((l[(fr+k) % l.length]'(Nat.mod_lt _ hpos)).toNat) % 8
   refine ⟨o,fun j=>Nat.mod_lt _ (by omega),?_⟩
   refine Qcd (fun k=>(Q5 k (fun x=>(o x:Int)),(k:Int),rowG c fun j=>if j < k then (o j:Int) else 0)) c _ (by simp [Q5]) (fun k hk=>?_) ?_ (by omega)
   ·have hx:=hl _ (List.getElem_mem (Nat.mod_lt (fr+k) hpos))
    have ho:o k=((l[(fr+k) % l.length]'(Nat.mod_lt _ hpos)).toNat) % 8:=rfl
    have hs:Q5 k (fun x=>(o x:Int))≤8*k:=by
     have:∀k,Q5 k (fun x=>(o x:Int))≤8*k:=by
      intro k
      induction k with
      | zero=>simp [Q5]
      | succ k ih=>simp only [Q5]; have:o k < 8:=Nat.mod_lt _ (by omega); omega
     exact this k
    have hs0:0≤Q5 k (fun x=>(o x:Int)):=Qay fun _ _=>Int.natCast_nonneg _
    have e1:Int.tmod (zw ((fr:Int)+(k:Int))) (l.length:Int)=(((fr+k) % l.length:Nat):Int):=by
     rw [w64 (by omega),Qdi (by omega)]; simp
    unfold Jr
    simp only
    rw [if_pos (by simpa using hk),if_pos (by simp; omega),if_pos (by omega),e1,Q4 (Nat.mod_lt _ hpos)]
    simp only [Option.bind_some]
    rw [Zr hk]
    simp only [Option.bind_some]
    have e2:Int.tmod (l[(fr+k) % l.length]'(Nat.mod_lt _ hpos)) 8=(o k:Int):=by rw [Qdi hx.1,ho]; omega
    have ho8:o k < 8:=Nat.mod_lt _ (by omega)
    rw [e2]
    have w1:zw (o k:Int)=(o k:Int):=w64 (by omega)
    rw [w1,w64 (by omega),w64 (by omega),Int.toNat_natCast,Qbs]
    simp only [Q5]
    congr 4
    refine Zu fun j hj=>?_
    by_cases e:j=k
    ·subst e; simp
    ·rw [if_neg e]
     by_cases e2:j < k
     ·rw [if_pos e2,if_pos (by omega)]
     ·rw [if_neg e2,if_neg (by omega)]
   ·unfold Jr
    simp only
    rw [if_neg (by simp)]
    congr 3
    exact Zu fun j hj=>if_pos hj
 obtain ⟨o,ho,h0⟩:=hb0
 obtain ⟨S,hS⟩:=Qzq (n:=c) (f:=o)
 let q:Nat → Nat := fun x=>g*o x / S
 have hq:∀x,o x=0→q x=0:=fun x h=>by show g*o x / S=0; rw [h]; simp
 have hSb:S≤32:=by
  have:∀k,Q5 k (fun x=>(o x:Int))≤8*k:=by
   intro k
   induction k with
   | zero=>simp [Q5]
   | succ k ih=>simp only [Q5]; have:=ho k; omega
  have:=this c
  omega
 have hpart:∀k,k≤c→0≤Q5 k (fun x=>(q x:Int))∧Q5 k (fun x=>(q x:Int))≤g:=fun k hk=>by
  refine ⟨Qay fun _ _=>Int.natCast_nonneg _,Int.le_trans (Qfb (fun _ _=>Int.natCast_nonneg _) hk) ?_⟩
  by_cases h:S=0
  ·have:∀x,q x=0:=fun x=>by show g*o x / S=0; rw [h]; simp
   rw [Qos (g:=fun _=>0) (fun x _=>by rw [this]; rfl),Qlq]; omega
  ·have h1:=Qpw (g:=g) (S:=S) (by omega) c o
   rw [hS] at h1
   have h2:Q5 c (fun x=>(q x:Int))*(S:Int)≤(g:Int)*(S:Int):=h1
   exact Int.le_of_mul_le_mul_right h2 (by omega)
 have hb1:=Vc (body:=Qep (c:Int) (Q5 c (fun x=>(o x:Int)),rowG c fun x=>(o x:Int)) (g:Int))
  (fun s=>∃k last:Nat,k≤c∧last < c∧s=((g:Int) - Q5 k (fun x=>(q x:Int)),(last:Int),(k:Int),rowG c fun j=>if j < k then (q j:Int) else (o j:Int)))
  (fun s=>c - s.2.2.1.toNat)
  (fun r=>∃last:Nat,last < c∧r=((g:Int) - Q5 c (fun x=>(q x:Int)),(last:Int),rowG c fun j=>(q j:Int)))
  (fun s hs=>?_) ((g:Int),(0:Int),(0:Int),rowG c fun x=>(o x:Int)) ⟨0,0,by omega,by omega,by simp [Q5]⟩ (by simp; omega)
 ·obtain ⟨r,h1,last,hlast,rfl⟩:=hb1
  have hp:=hpart c (Nat.le_refl _)
  obtain ⟨left,hleft⟩:=Int.eq_ofNat_of_zero_le (show 0≤(g:Int) - Q5 c (fun x=>(q x:Int)) by omega)
  refine ⟨fun x=>q x+if last=x then left else 0,?_,?_⟩
  ·unfold Qcv
   rw [if_pos (by omega),Int.toNat_natCast,Qnj,h0]
   simp only [Option.bind_some]
   rw [h1]
   simp only [Option.bind_some]
   rw [Zr hlast]
   simp only [Option.bind_some]
   have hql:(q last:Int)≤g:=by
    have e:=Qfb (n:=c) (k:=last+1) (f:=fun x=>(q x:Int)) (fun _ _=>Int.natCast_nonneg _) (by omega)
    have e2:=(hpart last (by omega)).1
    simp only [Q5] at e
    omega
   rw [hleft,w64 (by omega),Int.toNat_natCast,Qbs]
   congr 1
   refine Zu fun x hx=>?_
   by_cases e:x=last
   ·subst e; simp
   ·rw [if_neg e,if_neg (Ne.symm e)]; simp
  ·have e:(fun x=>((q x+if last=x then left else 0:Nat):Int))=fun x=>(q x:Int)+if last=x then (left:Int) else 0:=by
    funext x; split <;> simp
   rw [e,Q1d,Q1l hlast]
   have:(left:Int)=(g:Int) - Q5 c (fun x=>(q x:Int)):=hleft.symm
   omega
 ·obtain ⟨k,last,hk,hlast,rfl⟩:=hs
  unfold Qep
  simp only
  by_cases hkc:k < c
  ·left
   have hp1:=hpart k hk
   have hp2:=hpart (k+1) hkc
   have e1:Q5 (k+1) (fun x=>(q x:Int))=Q5 k (fun x=>(q x:Int))+(q k:Int):=rfl
   rw [if_pos (by simpa using hkc),Zr hkc]
   simp only [Option.bind_some,Nat.lt_irrefl,if_false]
   have ek:zw ((k:Int)+1)=((k+1:Nat):Int):=by rw [w64 (by omega)]; omega
   by_cases ho0:o k=0
   ·rw [if_neg (by simp [ho0]),ek,ho0,w64 (by omega)]
    refine ⟨_,rfl,⟨k+1,last,hkc,hlast,?_⟩,by simp; omega⟩
    rw [e1,hq k ho0]
    congr 1
    ·simp
    ·congr 2
     refine Zu fun j hj=>?_
     by_cases e:j=k
     ·subst e; simp [ho0,hq]
     ·by_cases e2:j < k
      ·rw [if_pos e2,if_pos (by omega)]
      ·rw [if_neg e2,if_neg (by omega)]
   ·have hSpos:S≠0:=by
     intro h
     have:=Qfb (n:=c) (k:=k+1) (f:=fun x=>(o x:Int)) (fun _ _=>Int.natCast_nonneg _) hkc
     have h2:0≤Q5 k (fun x=>(o x:Int)):=Qay fun _ _=>Int.natCast_nonneg _
     simp only [Q5] at this
     omega
    have hok:=ho k
    have hm:g*o k≤60*8:=Nat.mul_le_mul hg (by omega)
    have e2:zw (Int.tdiv (zw ((g:Int)*(o k:Int))) (Q5 c (fun x=>(o x:Int))))=(q k:Int):=by
     have e3:(g:Int)*(o k:Int)=((g*o k:Nat):Int):=by simp
     have hd:g*o k / S≤g*o k:=Nat.div_le_self _ _
     have w1:zw ((g*o k:Nat):Int)=((g*o k:Nat):Int):=w64 (by omega)
     rw [e3,w1,hS,Q1q (Int.natCast_nonneg _),show ((g*o k:Nat):Int) / (S:Int)=((g*o k / S:Nat):Int) by simp]
     show zw ((g*o k / S:Nat):Int)=((g*o k / S:Nat):Int)
     obtain ⟨z,hz⟩:∃z,g*o k / S=z:=⟨_,rfl⟩
     rw [hz] at hd ⊢
     exact w64 (by omega)
    rw [if_pos (by simp; omega),if_pos (by rw [hS]; omega),e2,ek,Int.toNat_natCast,Qbs,w64 (by omega)]
    refine ⟨_,rfl,⟨k+1,k,hkc,hkc,?_⟩,by simp; omega⟩
    rw [e1]
    congr 1
    ·omega
    ·congr 2
     refine Zu fun j hj=>?_
     by_cases e:j=k
     ·subst e; simp
     ·rw [if_neg e]
      by_cases e2:j < k
      ·rw [if_pos e2,if_pos (by omega)]
      ·rw [if_neg e2,if_neg (by omega)]
  ·right
   have:k=c:=by omega
   subst this
   rw [if_neg (by simp)]
   refine ⟨_,rfl,last,hlast,?_⟩
   congr 2
   exact Zu fun j hj=>if_pos hj
theorem Q3j {n:Nat} (hn:n≤5) {w:Int} {o:List Int}:J3 ⟨List.replicate n (0:Int),w,o⟩=some (List.replicate n 1):=by
 unfold J3
 refine Qj9 (Qcd (s0:=((0:Int),([]:List Int))) (r:=List.replicate n 1) (fun k=>((k:Int),List.replicate k (1:Int))) n rfl (fun k hk=>?_) ?_ (by omega)) rfl
 ·unfold Kv
  simp only
  rw [if_pos (by simp; omega),if_pos (by simp; omega),Q4 (by simpa using hk)]
  simp only [Option.bind_some,List.getElem_replicate]
  have e:zw (1+zw (Int.tmod 0 4))=1:=by decide
  rw [e,if_pos (by simp; omega),w64 (by omega),←List.replicate_succ']
  rfl
 ·unfold Kv
  simp only
  rw [if_neg (by simp)]
theorem Qtf {q:List Nat} {k a:Nat} (h:q.Nodup) (hk:∀x∈q,x < k):(q.take a++[k]++q.drop a).Nodup∧∀x∈q.take a++[k]++q.drop a,x < k+1:=by
 have hperm:(q.take a++[k]++q.drop a).Perm (k::q):=by
  have h1:(q.take a++[k]++q.drop a).Perm ([k]++q.take a++q.drop a):=List.Perm.append_right _ List.perm_append_comm
  have h2:[k]++q.take a++q.drop a=k::q:=by simp
  rw [h2] at h1
  exact h1
 refine ⟨?_,fun x hx=>?_⟩
 ·rw [hperm.nodup_iff,List.nodup_cons]
  exact ⟨fun hm=>Nat.lt_irrefl _ (hk k hm),h⟩
 ·have:=hperm.mem_iff.1 hx
  rcases List.mem_cons.1 this with e | e
  ·omega
  ·have:=hk x e; omega
theorem Qxu {n:Nat} (hn:n≤5) {o:List Int} (ho:∀x∈o,0≤x∧x≤255) :
  ∃q:List Nat,q.Nodup∧(∀x∈q,x < n)∧q.length=n∧Yv ⟨List.replicate n (0:Int),0,o⟩=some (q.map fun (x:Nat)=>(x:Int)):=by
 have hw:=Vc (body:=Vq ⟨List.replicate n (0:Int),0,o⟩) (fun s=>∃q:List Nat,q.Nodup∧(∀x∈q,x < q.length)∧q.length≤n∧s=((q.length:Int),q.map fun (x:Nat)=>(x:Int)))
  (fun s=>n - s.1.toNat) (fun r=>∃q:List Nat,q.Nodup∧(∀x∈q,x < n)∧q.length=n∧r=q.map fun (x:Nat)=>(x:Int)) (fun s hs=>?_) ((0:Int),([]:List Int)) ⟨[],List.nodup_nil,fun x hx=>by simp at hx,by simp,rfl⟩ (by simp; omega)
 ·obtain ⟨r,h1,q,h2,h3,h4,rfl⟩:=hw
  refine ⟨q,h2,h3,h4,?_⟩
  unfold Yv
  rw [h1]; rfl
 ·obtain ⟨q,hnd,hx,hl,rfl⟩:=hs
  unfold Vq
  rw [Q3j hn]
  simp only [Option.bind_some,List.length_replicate,List.length_map]
  by_cases hc:q.length < n
  ·left
   rw [if_pos (by simpa using hc)]
   have ek:zw ((q.length:Int)+1)=((q.length+1:Nat):Int):=by rw [w64 (by omega)]; omega
   have ins:∀a:Nat,a≤q.length→∃s',s'=((((q.take a++[q.length]++q.drop a).length:Nat):Int),(q.take a++[q.length]++q.drop a).map fun (x:Nat)=>(x:Int)) ∧
     (∃q:List Nat,q.Nodup∧(∀x∈q,x < q.length)∧q.length≤n∧s'=((q.length:Int),q.map fun (x:Nat)=>(x:Int)))∧n - s'.1.toNat < n - ((q.length:Int)).toNat := fun a ha=>by
    obtain ⟨i1,i2⟩:=Qtf (a:=a) hnd hx
    have hlen:(q.take a++[q.length]++q.drop a).length=q.length+1:=by simp; omega
    exact ⟨_,rfl,⟨_,i1,fun x hx=>by rw [hlen]; exact i2 x hx,by rw [hlen]; omega,rfl⟩,by simp only [hlen]; simp; omega⟩
   have hsub:∀a:Nat,a≤q.length→sub (q.map fun (x:Nat)=>(x:Int)) 0 (a:Int)=(q.take a).map (fun (x:Nat)=>(x:Int))∧sub (q.map fun (x:Nat)=>(x:Int)) (a:Int) (q.length:Int)=(q.drop a).map (fun (x:Nat)=>(x:Int)):=fun a ha=>by
    unfold sub
    refine ⟨by simp,?_⟩
    simp only [Int.toNat_natCast]
    rw [List.take_of_length_le (by simp),List.map_drop]
   by_cases ho':q.length < o.length
   ·rw [if_pos (by simpa using ho'),Q4 ho']
    simp only [Option.bind_some]
    have hv:=ho _ (List.getElem_mem ho')
    obtain ⟨a,ha,hae⟩:∃a:Nat,a≤q.length∧Int.tmod (zw o[q.length]) ((q.length+1:Nat):Int)=(a:Int):=by
     refine ⟨(o[q.length]).toNat % (q.length+1),by have:=Nat.mod_lt (o[q.length]).toNat (show 0 < q.length+1 by omega); omega,?_⟩
     rw [w64 (by omega),Qdi hv.1]
     rw [Int.natCast_emod,Int.toNat_of_nonneg hv.1]
    obtain ⟨s',hs',h1,h2⟩:=ins a ha
    refine ⟨s',?_,h1,by simpa using h2⟩
    rw [ek,if_pos (by omega),hae,if_pos (by omega),(hsub a ha).1,if_pos (by simp; omega),if_pos (by simp; omega),if_pos (by omega),(hsub a ha).2,if_pos (by simp; omega),hs']
    simp
    omega
   ·rw [if_neg (by simpa using ho')]
    obtain ⟨s',hs',h1,h2⟩:=ins 0 (by omega)
    refine ⟨s',?_,h1,by simpa using h2⟩
    have hz:=hsub 0 (by omega)
    rw [ek,if_pos (by omega),show sub (q.map fun (x:Nat)=>(x:Int)) 0 0=(q.take 0).map (fun (x:Nat)=>(x:Int)) from hz.1,if_pos (by simp),if_pos (by simp),if_pos (by omega),show sub (q.map fun (x:Nat)=>(x:Int)) 0 (q.length:Int)=(q.drop 0).map (fun (x:Nat)=>(x:Int)) from hz.2,if_pos (by simp; omega),hs']
    simp
  ·right
   rw [if_neg (by simpa using hc)]
   exact ⟨_,rfl,q,hnd,fun x hm=>by have:=hx x hm; omega,by omega,rfl⟩
theorem Qj1 {x:Int}:0≤zv x:=by simp only [IntKind.wrap,IntKind.bits,IntKind.signed]; simp; omega
theorem Qhj {n:Nat} {q:List Nat} (hn:q.Nodup) (hl:∀x∈q,x < n) (hlen:q.length=n):∀v,v < n→v∈q:=fun v hv=>by
 apply Classical.byContradiction
 intro hno
 have h1:(v::q).Nodup:=List.nodup_cons.2 ⟨hno,hn⟩
 have h2:(v::q) ⊆ List.range n:=fun p hp=>by
  rcases List.mem_cons.1 hp with e | e
  ·subst e; exact List.mem_range.2 hv
  ·exact List.mem_range.2 (hl p e)
 have:=K9 _ _ h1 h2
 simp at this
 omega
theorem Qer {q:List Nat} {i:Nat} (hi:i < q.length) {v:Nat}:v∈q.take (i+1)↔v∈q.take i∨v=q[i]:=by
 rw [Qt hi,List.mem_append,List.mem_singleton]
theorem Qez {q:List Nat} (hn:q.Nodup) {i:Nat} (hi:i < q.length):q[i] ∉ q.take i:=fun h=>by
 obtain ⟨k,hk,e⟩:=List.mem_iff_getElem.1 h
 rw [List.length_take] at hk
 rw [List.getElem_take] at e
 have:=List.pairwise_iff_getElem.1 hn k i (by omega) hi (by omega)
 exact this e
theorem Qns:∀{q:List Nat} {p j:Nat},p∈q.take j→q.idxOf p < j
 | [],p,j,h=>by simp at h
 | x::q,p,0,h=>by simp at h
 | x::q,p,j+1,h=>by
  rw [List.idxOf_cons]
  by_cases e:x=p
  ·subst e; simp
  ·have:p∈q.take j:=by
    rcases List.mem_cons.1 h with e' | e'
    ·exact absurd e'.symm e
    ·exact e'
   have:=Qns this
   rw [show (x==p)=false by simpa using e]
   simp; omega
theorem Qzv {q:List Nat} (hn:q.Nodup) {j:Nat} (hj:j < q.length):j≤q.idxOf q[j]:=by
 apply Classical.byContradiction
 intro h
 have hk:q.idxOf q[j] < q.length:=by omega
 have e:q[q.idxOf q[j]]=q[j]:=List.getElem_idxOf hk
 have:=List.pairwise_iff_getElem.1 hn (q.idxOf q[j]) j hk hj (by omega)
 exact this e
def dcnt (p0:Qe):Nat := min (max p0.Nodes.length 1) 5
theorem Qgy {p0:Qe}:(if 5 < (if 1 > (p0.Nodes.length:Int) then 1 else (p0.Nodes.length:Int)) then 5 else (if 1 > (p0.Nodes.length:Int) then 1 else (p0.Nodes.length:Int)))=(dcnt p0:Int):=by
 unfold dcnt
 split <;> split at * <;> omega
theorem Qjg {p0:Qe}:1≤dcnt p0∧dcnt p0≤5:=by unfold dcnt; omega
structure Qv9 (p0:Qe):Prop where
 grain:0≤p0.Grain∧p0.Grain≤255
 order:∀x∈p0.Order,0≤x∧x≤255
 card:∀p∈p0.Nodes,0≤p.Card∧p.Card≤255
 W:∀p∈p0.Nodes,∀x∈p.W,0≤x∧x≤255
 Wl:∀p∈p0.Nodes,p.W.length≤9223372036854775807
section
variable {p0:Qe} {q:List Nat}
theorem Qno {i:Nat} (hi:i < q.length):lkI (q.map fun (x:Nat)=>(x:Int)) (i:Int)=some ((q[i]:Nat):Int):=by rw [Q4 (by simpa using hi)]; simp
theorem Q4m (h:Qv9 p0) (hn:q.Nodup) (hl:∀x∈q,x < dcnt p0) (hlen:q.length=dcnt p0) :
  ∃C:Nat → Nat,(∀v,v < dcnt p0→2≤C v∧C v≤3) ∧
   Qa fuel (Y4 p0 (q.map fun (x:Nat)=>(x:Int))) (1,0,List.replicate (dcnt p0) (Sum.inl 0))=some (rowG (dcnt p0) fun v=>Sum.inl (C v:Int)):=by
 have hcn:=Qjg (p0:=p0)
 have hw:=Vc (body:=Y4 p0 (q.map fun (x:Nat)=>(x:Int)))
  (fun s=>∃(w:Int) (i:Nat) (C:Nat → Nat),i≤dcnt p0∧(∀v,v∈q.take i→2≤C v∧C v≤3)∧s=(w,(i:Int),rowG (dcnt p0) fun v=>Sum.inl (C v:Int)))
  (fun s=>dcnt p0 - s.2.1.toNat)
  (fun r=>∃C:Nat → Nat,(∀v,v < dcnt p0→2≤C v∧C v≤3)∧r=rowG (dcnt p0) fun v=>Sum.inl (C v:Int))
  (fun s hs=>?_) (1,0,List.replicate (dcnt p0) (Sum.inl 0)) ⟨1,0,fun _=>0,by omega,fun v hv=>by simp at hv,by rw [Qnj]; rfl⟩ (by simp; omega)
 ·obtain ⟨r,h1,C,h2,rfl⟩:=hw
  exact ⟨C,h2,h1⟩
 ·obtain ⟨w,i,C,hi,hC,rfl⟩:=hs
  by_cases hic:i < dcnt p0
  ·left
   have hiq:i < q.length:=by omega
   have hv:=hl _ (List.getElem_mem hiq)
   have ek:zw ((i:Int)+1)=((i+1:Nat):Int):=by rw [w64 (by omega)]; omega
   have leaf:∀(w':Int) (c:Nat),2≤c→c≤3→(∃s',some (Qh.next (w',zw ((i:Int)+1),List.set (rowG (dcnt p0) fun v=>(Sum.inl (C v:Int):Int ⊕ Tapi_Node)) (Int.toNat ((q[i]:Nat):Int)) (Sum.inl (c:Int))))=some (Qh.next (ρ:=List (Int ⊕ Tapi_Node)) s') ∧
     (∃(w:Int) (i:Nat) (C:Nat → Nat),i≤dcnt p0∧(∀v,v∈q.take i→2≤C v∧C v≤3)∧s'=(w,(i:Int),rowG (dcnt p0) fun v=>Sum.inl (C v:Int)))∧dcnt p0 - s'.2.1.toNat < dcnt p0 - (i:Int).toNat):=fun w' c c1 c2=>by
    rw [ek]
    refine ⟨_,rfl,⟨w',i+1,Qj3 C q[i] c,hic,fun v hv=>?_,?_⟩,by simp; omega⟩
    ·rcases (Qer hiq).1 hv with e | e
     ·by_cases e2:v=q[i]
      ·subst e2; rw [Qby]; exact ⟨c1,c2⟩
      ·rw [Qgw e2]; exact hC v e
     ·subst e; rw [Qby]; exact ⟨c1,c2⟩
    ·rw [Int.toNat_natCast,Qbs]
     congr 2
     refine Zu fun k hk=>?_
     by_cases e:k=q[i]
     ·rw [if_pos e,e,Qby]
     ·rw [if_neg e,Qgw e]
   have hk:lkL (rowG (dcnt p0) fun v=>(Sum.inl (C v:Int):Int ⊕ Tapi_Node)) ((q[i]:Nat):Int)=some (C q[i]:Int):=by unfold lkL; rw [Zr hv]; rfl
   unfold Y4
   simp only [Qgy]
   rw [if_pos (by simpa using hic)]
   by_cases hin:i < p0.Nodes.length
   ·have hp:=h.card _ (List.getElem_mem hin)
    have ec:zw (2+zw (Int.tmod (p0.Nodes[i]).Card 2))=((2+(p0.Nodes[i]).Card.toNat % 2:Nat):Int):=by
     have w1:zw ((p0.Nodes[i]).Card % 2)=(p0.Nodes[i]).Card % 2:=w64 (by omega)
     rw [Qdi hp.1,w1,w64 (by omega)]; omega
    rw [if_pos (by simpa using hin),Q4 hin]
    simp only [Option.bind_some]
    rw [if_pos Qj1]
    split
    ·rw [Qno hiq]
     simp only [Option.bind_some]
     rw [hk]
     exact leaf _ 2 (by omega) (by omega)
    ·rw [Qno hiq]
     simp only [Option.bind_some]
     rw [hk]
     simp only [Option.bind_some]
     rw [ec]
     exact leaf _ _ (by omega) (by omega)
   ·rw [if_neg (by simpa using hin),if_pos Qj1]
    split
    ·rw [Qno hiq]
     simp only [Option.bind_some]
     rw [hk]
     exact leaf _ 2 (by omega) (by omega)
    ·rw [Qno hiq]
     simp only [Option.bind_some]
     rw [hk]
     simp only [Option.bind_some]
     exact leaf _ 2 (by omega) (by omega)
  ·right
   have:i=dcnt p0:=by omega
   subst this
   unfold Y4
   simp only [Qgy]
   rw [if_neg (by simp)]
   refine ⟨_,rfl,C,fun v hv=>hC v ?_,rfl⟩
   rw [List.take_of_length_le (by omega)]
   exact Qhj hn hl hlen v hv
theorem Q4l (hn:q.Nodup) {L:List (Int ⊕ Tapi_Node)} {i u:Nat} {P:List Nat} {pc:Qy} (hi:i < q.length) (hq:q.length≤5) :
  ∃P':List Nat,(P'=P∨(P'=P++[u]∧u∈q.take i∧P.length < 3)) ∧
   Qa fuel (Vb ((i:Int),L) (q.map fun (x:Nat)=>(x:Int)) ((u:Int),P.map fun (x:Nat)=>(x:Int)) pc) (0,P.map fun (x:Nat)=>(x:Int))=some (P'.map fun (x:Nat)=>(x:Int)):=by
 have hw:=Vc (body:=Vb ((i:Int),L) (q.map fun (x:Nat)=>(x:Int)) ((u:Int),P.map fun (x:Nat)=>(x:Int)) pc)
  (fun s=>∃(k:Nat) (P':List Nat),k≤i∧(P'=P∨(P'=P++[u]∧u∈q.take k∧P.length < 3))∧s=((k:Int),P'.map fun (x:Nat)=>(x:Int)))
  (fun s=>i - s.1.toNat) (fun r=>∃P':List Nat,(P'=P∨(P'=P++[u]∧u∈q.take i∧P.length < 3))∧r=P'.map fun (x:Nat)=>(x:Int))
  (fun s hs=>?_) ((0:Int),P.map fun (x:Nat)=>(x:Int)) ⟨0,P,by omega,.inl rfl,rfl⟩ (by simp; omega)
 ·obtain ⟨r,h1,P',h2,rfl⟩:=hw
  exact ⟨P',h2,h1⟩
 ·obtain ⟨k,P',hk,hP,rfl⟩:=hs
  by_cases hki:k < i
  ·left
   have hkq:k < q.length:=by omega
   have ek:zw ((k:Int)+1)=((k+1:Nat):Int):=by rw [w64 (by omega)]; omega
   have same:∃s',some (Qh.next (zw ((k:Int)+1),P'.map fun (x:Nat)=>(x:Int)))=some (Qh.next (ρ:=List Int) s') ∧
     (∃(k:Nat) (P':List Nat),k≤i∧(P'=P∨(P'=P++[u]∧u∈q.take k∧P.length < 3))∧s'=((k:Int),P'.map fun (x:Nat)=>(x:Int)))∧i - s'.1.toNat < i - (k:Int).toNat := by
    rw [ek]
    exact ⟨_,rfl,⟨k+1,P',hki,hP.imp id fun h=>⟨h.1,(Qer hkq).2 (.inl h.2.1),h.2.2⟩,rfl⟩,by simp; omega⟩
   unfold Vb
   simp only
   rw [if_pos (by simpa using hki),Qno hkq]
   simp only [Option.bind_some]
   by_cases hqu:q[k]=u
   ·rw [if_pos (by simp [hqu]),if_pos Qj1]
    have hPP:P'=P:=by
     rcases hP with e | ⟨_,e,_⟩
     ·exact e
     ·exact absurd (hqu ▸ e) (Qez hn hkq)
    subst hPP
    split
    ·split
     ·rename_i h3
      have h3':P'.length < 3:=by simp at h3; omega
      rw [if_pos (by simp; omega),ek]
      exact ⟨_,rfl,⟨k+1,P'++[u],hki,.inr ⟨rfl,(Qer hkq).2 (.inr hqu.symm),h3'⟩,by simp⟩,by simp; omega⟩
     ·exact same
    ·exact same
   ·rw [if_neg (by simpa using (fun e:((q[k]:Nat):Int)=(u:Int)=>hqu (by omega)))]
    exact same
  ·right
   have:k=i:=by omega
   subst this
   unfold Vb
   simp only
   rw [if_neg (by simp)]
   exact ⟨_,rfl,P',hP,rfl⟩
theorem Q32 (hn:q.Nodup) (hlen:q.length=dcnt p0) {L:List (Int ⊕ Tapi_Node)} {i:Nat} {pc:Qy} (hi:i < q.length) :
  ∃P:List Nat,P.Pairwise (· < ·)∧(∀p∈P,p∈q.take i)∧P.length≤3 ∧
   Qa fuel (X1 p0 ((i:Int),L) (q.map fun (x:Nat)=>(x:Int)) pc) (0,[])=some (P.map fun (x:Nat)=>(x:Int)):=by
 have hcn:=Qjg (p0:=p0)
 have hw:=Vc (body:=X1 p0 ((i:Int),L) (q.map fun (x:Nat)=>(x:Int)) pc)
  (fun s=>∃(u:Nat) (P:List Nat),u≤dcnt p0∧P.Pairwise (· < ·)∧(∀p∈P,p < u∧p∈q.take i)∧P.length≤3∧s=((u:Int),P.map fun (x:Nat)=>(x:Int)))
  (fun s=>dcnt p0 - s.1.toNat) (fun r=>∃P:List Nat,P.Pairwise (· < ·)∧(∀p∈P,p∈q.take i)∧P.length≤3∧r=P.map fun (x:Nat)=>(x:Int))
  (fun s hs=>?_) ((0:Int),([]:List Int)) ⟨0,[],by omega,List.Pairwise.nil,fun p hp=>by simp at hp,by simp,rfl⟩ (by simp; omega)
 ·obtain ⟨r,h1,P,h2,h3,h4,rfl⟩:=hw
  exact ⟨P,h2,h3,h4,h1⟩
 ·obtain ⟨u,P,hu,h2,h3,h4,rfl⟩:=hs
  unfold X1
  simp only [Qgy]
  by_cases huc:u < dcnt p0
  ·left
   obtain ⟨P',hP',hb⟩:=Q4l hn (L:=L) (u:=u) (P:=P) (pc:=pc) hi (by omega)
   have ek:zw ((u:Int)+1)=((u+1:Nat):Int):=by rw [w64 (by omega)]; omega
   rw [if_pos (by simpa using huc),hb]
   simp only [Option.bind_some]
   rw [ek]
   refine ⟨_,rfl,⟨u+1,P',huc,?_,?_,?_,rfl⟩,by simp; omega⟩
   ·rcases hP' with rfl | ⟨rfl,_,_⟩
    ·exact h2
    ·rw [List.pairwise_append]
     exact ⟨h2,List.pairwise_singleton _ _,fun a ha b hb=>by simp at hb; subst hb; exact (h3 a ha).1⟩
   ·rcases hP' with rfl | ⟨rfl,hm,_⟩
    ·exact fun p hp=>⟨by have:=(h3 p hp).1; omega,(h3 p hp).2⟩
    ·intro p hp
     rcases List.mem_append.1 hp with e | e
     ·exact ⟨by have:=(h3 p e).1; omega,(h3 p e).2⟩
     ·simp at e; subst e; exact ⟨by omega,hm⟩
   ·rcases hP' with rfl | ⟨rfl,_,hlt⟩
    ·exact h4
    ·simp; omega
  ·right
   rw [if_neg (by simpa using huc)]
   exact ⟨_,rfl,P,h2,fun p hp=>(h3 p hp).2,h4,rfl⟩
theorem Qq0 {n:Nat} {g:Int} {F:Nat → Tapi_Node} {C:Nat → Nat} (hF:∀v,v < n→(F v).Card=(C v:Int)) (hn:n≤8):Qc2 ⟨g,rowG n F⟩=some (Ze n C):=by
 unfold Qc2
 refine Qj9 (Qcd (s0:=((0:Int),([]:List Int))) (r:=Ze n C) (fun k=>((k:Int),Ze k C)) n rfl (fun k hk=>?_) ?_ (by omega)) rfl
 ·unfold Qda
  simp only
  rw [if_pos (by rw [Z1]; simpa using hk),Zr hk]
  simp only [Option.bind_some]
  rw [hF k hk,show Ze k C++[(C k:Int)]=Ze (k+1) C from Qhs,if_pos (by rw [Qdn]; omega),w64 (by omega)]
  rfl
 ·unfold Qda
  simp only
  rw [if_neg (by rw [Z1]; simp)]
theorem Qlj {f:Nat → Nat} {l:List Nat} (hf:∀p∈l,f p≤4) (hl:l.length≤8):K1 (l.map fun p=>(f p:Int))=some (lprod f l:Int):=by
 unfold K1
 refine Qj9 (Qcd (s0:=((1:Int),(0:Int))) (r:=(lprod f l:Int)) (fun k=>((lprod f (l.take k):Int),(k:Int))) l.length (by simp [lprod]) (fun k hk=>?_) ?_ (by omega)) rfl
 ·have h1:lprod f (l.take k)≤4^8:=Nat.le_trans (Qkc fun p hp=>hf p (List.mem_of_mem_take hp)) (Nat.pow_le_pow_right (by omega) (by rw [List.length_take]; omega))
  have h2:=hf _ (List.getElem_mem hk)
  have h3:lprod f (l.take k)*f l[k]≤65536*4:=Nat.mul_le_mul (by omega) h2
  have e:(lprod f (l.take k):Int)*(f l[k]:Int)=((lprod f (l.take (k+1)):Nat):Int):=by rw [Qt hk,Qhq]; simp
  have e2:lprod f (l.take (k+1))≤65536*4:=by rw [Qt hk,Qhq]; exact h3
  unfold Qej
  simp only
  rw [if_pos (by simpa using hk),Q4 (by simpa using hk)]
  simp only [Option.bind_some,List.getElem_map]
  rw [e,w64 (by omega),w64 (by omega)]
  rfl
 ·unfold Qej
  simp only
  rw [if_neg (by simp),List.take_of_length_le (Nat.le_refl _)]
theorem Q3v {n v:Nat} {N:Nat → Int ⊕ Tapi_Node} {x:Tapi_Node}:List.set (List.map coTapi_Node (rowG n N)) (Int.toNat (v:Int)) x=rowG n fun k=>if k=v then x else coTapi_Node (N k):=by
 rw [show List.map coTapi_Node (rowG n N)=rowG n (fun k=>coTapi_Node (N k)) by simp [rowG],Int.toNat_natCast,Qbs]
theorem Qwu {n v:Nat} {g:Int} {N:Nat → Int ⊕ Tapi_Node} {C:Nat → Nat} {P:List Nat} {R:List (List Int)} (hN:∀k,k < n→(coTapi_Node (N k)).Card=(C k:Int)) (hn:n≤8) (hv:v < n) (hP:∀p∈P,p < n) (hl:P.length≤8) :
  Zj ⟨g,List.set (List.map coTapi_Node (rowG n N)) (Int.toNat (v:Int)) ⟨(C v:Int),P.map (fun (x:Nat)=>(x:Int)),R⟩⟩ (v:Int)=some (P.map fun p=>(C p:Int)):=by
 unfold Zj
 rw [Q3v,Qq0 (C:=C) (fun k hk=>?_) hn]
 ·simp only [Option.bind_some]
  rw [Zr hv]
  simp only [Option.bind_some,if_true]
  rw [Q13 hP hl]
  rfl
 ·by_cases e:k=v
  ·subst e; rw [if_pos rfl]
  ·rw [if_neg e]; exact hN k hk
theorem Q3m {g c v i:Nat} {N:Nat → Int ⊕ Tapi_Node} {C:Nat → Nat} {P:List Nat} {pc:Qy} (hg:zw (1+(zw (Int.tmod p0.Grain 60)))=(g:Int)) (hg60:g≤60)
  (hC:∀k,k < dcnt p0→2≤C k∧C k≤3) (hN:∀k,k < dcnt p0→(coTapi_Node (N k)).Card=(C k:Int)) (hv:v < dcnt p0) (hP:∀p∈P,p < dcnt p0) (hl:P.length≤3)
  (hW:∀x∈pc.W,0≤x∧x≤255) (hWl:pc.W.length≤9223372036854775807) :
  ∃W:Nat → Nat → Nat,(∀r,r < lprod C P→Q5 (C v) (fun x=>(W r x:Int))=g) ∧
   Qa fuel (Y2 p0 ((i:Int),rowG (dcnt p0) N) (v:Int) (C v:Int) (P.map fun (x:Nat)=>(x:Int)) pc) (0,[])=some (rowG (lprod C P) fun r=>rowG (C v) fun x=>(W r x:Int)):=by
 have hcn:=Qjg (p0:=p0)
 have hcv:=hC v hv
 have hsz:=Qlj (f:=C) (l:=P) (fun p hp=>by have:=hC p (hP p hp); omega) (by omega)
 have hb:lprod C P≤64:=Nat.le_trans (Qkc fun p hp=>by have:=hC p (hP p hp); omega) (Nat.pow_le_pow_right (by omega) hl:4^P.length≤4^3)
 have hw:=Vc (body:=Y2 p0 ((i:Int),rowG (dcnt p0) N) (v:Int) (C v:Int) (P.map fun (x:Nat)=>(x:Int)) pc)
  (fun s=>∃(r:Nat) (W:Nat → Nat → Nat),r≤lprod C P∧(∀r',r' < r→Q5 (C v) (fun x=>(W r' x:Int))=g)∧s=((r:Int),rowG r fun r=>rowG (C v) fun x=>(W r x:Int)))
  (fun s=>lprod C P - s.1.toNat) (fun o=>∃W:Nat → Nat → Nat,(∀r,r < lprod C P→Q5 (C v) (fun x=>(W r x:Int))=g)∧o=rowG (lprod C P) fun r=>rowG (C v) fun x=>(W r x:Int))
  (fun s hs=>?_) ((0:Int),([]:List (List Int))) ⟨0,fun _ _=>0,by omega,fun r hr=>by omega,rfl⟩ (by simp; omega)
 ·obtain ⟨o,h1,W,h2,rfl⟩:=hw
  exact ⟨W,h2,h1⟩
 ·obtain ⟨r,W,hr,hS,rfl⟩:=hs
  unfold Y2
  simp only
  rw [Qwu hN (by omega) hv hP (by omega)]
  simp only [Option.bind_some]
  rw [hsz]
  simp only [Option.bind_some]
  by_cases hrs:r < lprod C P
  ·left
   have hm:r*(C v+1)≤64*4:=Nat.mul_le_mul (by omega) (by omega)
   have ef:zw ((r:Int)*zw ((C v:Int)+1))=((r*(C v+1):Nat):Int):=by
    have w1:zw ((C v:Int)+1)=((C v+1:Nat):Int):=by rw [w64 (by omega)]; omega
    have e3:(r:Int)*((C v+1:Nat):Int)=((r*(C v+1):Nat):Int):=by simp
    rw [w1,e3]
    exact w64 (by omega)
   obtain ⟨f,hf,hfs⟩:=Q09 (g:=g) (c:=C v) (l:=pc.W) (fr:=r*(C v+1)) hg60 (by omega) (by omega) hW hWl (by omega)
   have ek:zw ((r:Int)+1)=((r+1:Nat):Int):=by rw [w64 (by omega)]; omega
   rw [if_pos (by simpa using hrs),hg,ef,hf]
   simp only [Option.bind_some]
   rw [if_pos (by simp [Z1]; omega),ek]
   have e:(rowG r fun r=>rowG (C v) fun x=>(W r x:Int))++[rowG (C v) fun x=>(f x:Int)]=rowG (r+1) fun r'=>rowG (C v) fun x=>((Qj3 W r f) r' x:Int):=by
    rw [←Qhs,Qby]
    congr 1
    exact Zu fun k hk=>by rw [Qgw (by omega)]
   refine ⟨_,rfl,⟨r+1,Qj3 W r f,hrs,fun r' hr'=>?_,by rw [e]⟩,by simp; omega⟩
   by_cases e2:r'=r
   ·subst e2; rw [Qby]; exact hfs
   ·rw [Qgw e2]; exact hS r' (by omega)
  ·right
   have:r=lprod C P:=by omega
   subst this
   rw [if_neg (by simp)]
   exact ⟨_,rfl,W,hS,rfl⟩
theorem Q4y {s:Int × List (Int ⊕ Tapi_Node)} {x1:List Int}:Qeh p0 s x1=X1 p0 s x1 ⟨0,0,[]⟩:=rfl
theorem Q3a {n:Nat} {F:Nat → Tapi_Node}:alr (rowG n fun v=>(Sum.inr (F v):Int ⊕ Tapi_Node))=some (rowG n F):=by
 have:∀l:List Nat,alr (l.map fun v=>(Sum.inr (F v):Int ⊕ Tapi_Node))=some (l.map F):=by
  intro l
  induction l with
  | nil=>rfl
  | cons x l ih=>simp only [List.map_cons,alr,ih,Option.map_some]
 exact this _
def GdF (D:NF) (q:List Nat) (j:Nat) (v:Nat):Prop:=(D.par v).Pairwise (· < ·)∧(∀p∈D.par v,p∈q.take j)∧(D.par v).length≤3∧∀r,r < D.rows v→Q5 (D.card v) (fun x=>(D.W v r x:Int))=D.g
theorem Q30 (h:Qv9 p0) (hn:q.Nodup) (hl:∀x∈q,x < dcnt p0) (hlen:q.length=dcnt p0) {g:Nat} (hg:zw (1+(zw (Int.tmod p0.Grain 60)))=(g:Int)) (hg60:g≤60)
  {C:Nat → Nat} (hC:∀k,k < dcnt p0→2≤C k∧C k≤3) :
  ∃(P:Nat → List Nat) (W:Nat → Nat → Nat → Nat),(∀j (hj:j < q.length),GdF ⟨dcnt p0,g,C,P,W⟩ q j q[j]) ∧
   Qa fuel (Y9 p0 (q.map fun (x:Nat)=>(x:Int))) (0,rowG (dcnt p0) fun v=>Sum.inl (C v:Int))=some (rowG (dcnt p0) fun v=>Sum.inr ((NF.mk (dcnt p0) g C P W).node v)):=by
 have hcn:=Qjg (p0:=p0)
 let N:Nat → (Nat → List Nat)→(Nat → Nat → Nat → Nat)→Nat → Int ⊕ Tapi_Node:=fun i P W v=>if v∈q.take i then Sum.inr ((NF.mk (dcnt p0) g C P W).node v) else Sum.inl (C v:Int)
 have hNco:∀i P W k,(coTapi_Node (N i P W k)).Card=(C k:Int):=fun i P W k=>by
  show (coTapi_Node (if k∈q.take i then Sum.inr ((NF.mk (dcnt p0) g C P W).node k) else Sum.inl (C k:Int))).Card=_
  split <;> rfl
 have hw:=Vc (body:=Y9 p0 (q.map fun (x:Nat)=>(x:Int)))
  (fun s=>∃(i:Nat) (P:Nat → List Nat) (W:Nat → Nat → Nat → Nat),i≤dcnt p0∧(∀j (hj:j < q.length),j < i→GdF ⟨dcnt p0,g,C,P,W⟩ q j q[j])∧s=((i:Int),rowG (dcnt p0) (N i P W)))
  (fun s=>dcnt p0 - s.1.toNat)
  (fun o=>∃(P:Nat → List Nat) (W:Nat → Nat → Nat → Nat),(∀j (hj:j < q.length),GdF ⟨dcnt p0,g,C,P,W⟩ q j q[j])∧o=rowG (dcnt p0) fun v=>Sum.inr ((NF.mk (dcnt p0) g C P W).node v))
  (fun s hs=>?_) ((0:Int),rowG (dcnt p0) fun v=>Sum.inl (C v:Int)) ⟨0,fun _=>[],fun _ _ _=>0,by omega,fun j _ hj=>by omega,by congr 1⟩ (by simp; omega)
 ·obtain ⟨o,h1,P,W,h2,rfl⟩:=hw
  exact ⟨P,W,h2,h1⟩
 ·obtain ⟨i,P,W,hi,hG,rfl⟩:=hs
  by_cases hic:i < dcnt p0
  ·left
   have hiq:i < q.length:=by omega
   have hv:=hl _ (List.getElem_mem hiq)
   have hnot:=Qez hn hiq
   have ek:zw ((i:Int)+1)=((i+1:Nat):Int):=by rw [w64 (by omega)]; omega
   have hk:lkL (rowG (dcnt p0) (N i P W)) ((q[i]:Nat):Int)=some (C q[i]:Int):=by
    unfold lkL
    rw [Zr hv]
    show Option.bind (some (if q[i]∈q.take i then _ else _)) _=_
    rw [if_neg hnot]; rfl
   have leaf:∀pc:Qy,(∀x∈pc.W,0≤x∧x≤255)→pc.W.length≤9223372036854775807 →
     ∃s',((Qa fuel (X1 p0 ((i:Int),rowG (dcnt p0) (N i P W)) (q.map fun (x:Nat)=>(x:Int)) pc) (0,([]:List Int))).bind fun x72 =>
      (Qa fuel (Y2 p0 ((i:Int),rowG (dcnt p0) (N i P W)) ((q[i]:Nat):Int) (C q[i]:Int) x72 pc) (0,([]:List (List Int)))).bind fun x83 =>
      some (Qh.next (ρ:=List (Int ⊕ Tapi_Node)) (zw ((i:Int)+1),(List.set (rowG (dcnt p0) (N i P W)) (Int.toNat ((q[i]:Nat):Int)) (Sum.inr (Tapi_Node.mk (C q[i]:Int) x72 x83))))))=some (Qh.next s') ∧
      (∃(i:Nat) (P:Nat → List Nat) (W:Nat → Nat → Nat → Nat),i≤dcnt p0∧(∀j (hj:j < q.length),j < i→GdF ⟨dcnt p0,g,C,P,W⟩ q j q[j])∧s'=((i:Int),rowG (dcnt p0) (N i P W)))∧dcnt p0 - s'.1.toNat < dcnt p0 - (i:Int).toNat := fun pc hpW hpl=>by
    obtain ⟨Pv,p1,p2,p3,hb2⟩:=Q32 (p0:=p0) hn hlen (L:=rowG (dcnt p0) (N i P W)) (pc:=pc) hiq
    have hPv:∀p∈Pv,p < dcnt p0:=fun p hp=>hl p (List.mem_of_mem_take (p2 p hp))
    obtain ⟨Wv,w1,hb3⟩:=Q3m (p0:=p0) (i:=i) (c:=0) (pc:=pc) hg hg60 hC (fun k _=>hNco i P W k) hv hPv p3 hpW hpl
    rw [hb2]
    simp only [Option.bind_some]
    rw [hb3]
    simp only [Option.bind_some]
    rw [ek,Int.toNat_natCast,Qbs]
    refine ⟨_,rfl,⟨i+1,Qj3 P q[i] Pv,Qj3 W q[i] Wv,hic,fun j hj hji=>?_,?_⟩,by simp; omega⟩
    ·by_cases e:j=i
     ·subst e
      unfold GdF NF.rows
      simp only [Qby]
      exact ⟨p1,p2,p3,w1⟩
     ·have hne:q[j]≠q[i]:=fun e2=>e (by
       rcases Nat.lt_or_ge j i with h' | h'
       ·exact absurd e2 (List.pairwise_iff_getElem.1 hn j i hj hiq h')
       ·omega)
      have:=hG j hj (by omega)
      unfold GdF NF.rows at this ⊢
      simp only [Qgw hne]
      exact this
    ·congr 1
     refine Zu fun k hk=>?_
     by_cases e:k=q[i]
     ·rw [if_pos e]
      show _=if k∈q.take (i+1) then _ else _
      rw [if_pos ((Qer hiq).2 (.inr e)),e]
      unfold NF.node NF.rows
      simp only [Qby]
     ·rw [if_neg e]
      show (if k∈q.take i then _ else _)=if k∈q.take (i+1) then _ else _
      by_cases hm:k∈q.take i
      ·rw [if_pos hm,if_pos ((Qer hiq).2 (.inl hm))]
       unfold NF.node NF.rows
       simp only [Qgw e]
      ·rw [if_neg hm,if_neg (fun h'=>((Qer hiq).1 h').elim hm e)]
   unfold Y9
   simp only [Qgy]
   rw [if_pos (by simpa using hic)]
   by_cases hin:i < p0.Nodes.length
   ·rw [if_pos (by simpa using hin),Q4 hin]
    simp only [Option.bind_some]
    rw [Qno hiq]
    simp only [Option.bind_some]
    rw [hk]
    simp only [Option.bind_some]
    exact leaf _ (h.W _ (List.getElem_mem hin)) (h.Wl _ (List.getElem_mem hin))
   ·rw [if_neg (by simpa using hin),Qno hiq]
    simp only [Option.bind_some]
    rw [hk]
    simp only [Option.bind_some]
    rw [Q4y]
    exact leaf ⟨0,0,[]⟩ (fun x hx=>by simp at hx) (by simp)
  ·right
   have:i=dcnt p0:=by omega
   subst this
   unfold Y9
   simp only [Qgy]
   rw [if_neg (by simp)]
   refine ⟨_,rfl,P,W,fun j hj=>hG j hj (by omega),?_⟩
   refine Zu fun k hk=>?_
   show (if k∈q.take (dcnt p0) then _ else _)=_
   rw [if_pos (by rw [List.take_of_length_le (by omega)]; exact Qhj hn hl hlen k hk)]
theorem Qzc (h:Qv9 p0):∃D:NF,VX D∧D.n≤5∧(∀v,v < D.n→2≤D.card v∧D.card v≤3)∧Jj p0=some D.net:=by
 have hcn:=Qjg (p0:=p0)
 have hgr:=h.grain
 obtain ⟨q,hn,hl,hlen,hq⟩:=Qxu (n:=dcnt p0) hcn.2 h.order
 obtain ⟨C,hC,h0⟩:=Q4m h hn hl hlen
 have hg:zw (1+(zw (Int.tmod p0.Grain 60)))=((1+p0.Grain.toNat % 60:Nat):Int):=by
  have w1:zw (p0.Grain % 60)=p0.Grain % 60:=w64 (by omega)
  rw [Qdi hgr.1,w1,w64 (by omega)]; omega
 have hg60:1+p0.Grain.toNat % 60≤60:=by omega
 obtain ⟨P,W,hG,h7⟩:=Q30 h hn hl hlen hg hg60 hC
 refine ⟨⟨dcnt p0,1+p0.Grain.toNat % 60,C,P,W⟩,?_,hcn.2,hC,?_⟩
 ·have hall:∀v,v < dcnt p0→∃j,∃hj:j < q.length,q[j]=v:=fun v hv=>List.mem_iff_getElem.1 (Qhj hn hl hlen v hv)
  have hsum:∀v r,v < dcnt p0→r < (NF.mk (dcnt p0) (1+p0.Grain.toNat % 60) C P W).rows v→Q5 (C v) (fun x=>(W v r x:Int))=((1+p0.Grain.toNat % 60:Nat):Int):=fun v r hv hr=>by
   obtain ⟨j,hj,rfl⟩:=hall v hv
   exact (hG j hj).2.2.2 r hr
  refine ⟨⟨by show 1≤dcnt p0; omega,by show dcnt p0≤8; omega,by show 1≤1+p0.Grain.toNat % 60; omega,hg60,fun v hv=>by have:=hC v hv; show 1≤C v∧C v≤4; omega,fun v hv p hp=>?_,fun v hv=>?_,fun v r x hv hr hx=>?_,?_⟩,fun v hv=>?_,fun v hv hp=>?_,⟨fun v=>q.idxOf v,fun v hv p hp=>?_⟩,hsum⟩
  ·obtain ⟨j,hj,rfl⟩:=hall v hv
   exact hl p (List.mem_of_mem_take ((hG j hj).2.1 p hp))
  ·obtain ⟨j,hj,rfl⟩:=hall v hv
   have:=(hG j hj).2.2.1
   omega
  ·have h1:=hsum v r hv hr
   have h2:=Qfb (n:=C v) (k:=x+1) (f:=fun x=>(W v r x:Int)) (fun _ _=>Int.natCast_nonneg _) hx
   have h3:0≤Q5 x (fun x=>(W v r x:Int)):=Qay fun _ _=>Int.natCast_nonneg _
   simp only [Q5] at h2
   show W v r x≤1+p0.Grain.toNat % 60
   omega
  ·have h1:Zh (dcnt p0) C≤3^dcnt p0:=Qlz fun v hv=>(hC v hv).2
   have h2:3^dcnt p0≤3^5:=Nat.pow_le_pow_right (by omega) hcn.2
   show Zh (dcnt p0) C≤1024
   omega
  ·obtain ⟨j,hj,rfl⟩:=hall v hv
   exact (hG j hj).1
  ·obtain ⟨j,hj,rfl⟩:=hall v hv
   exact Qez hn hj ((hG j hj).2.1 _ hp)
  ·obtain ⟨j,hj,rfl⟩:=hall v hv
   have h1:=Qns ((hG j hj).2.1 p hp)
   have h2:=Qzv hn hj
   show q.idxOf p < q.idxOf q[j]
   omega
 ·unfold Jj
  simp only [Qgy]
  rw [if_pos (by omega),if_pos (by omega),Int.toNat_natCast,hq]
  simp only [Option.bind_some]
  rw [h0]
  simp only [Option.bind_some]
  rw [h7]
  simp only [Option.bind_some]
  rw [Q3a,hg]
  rfl
end
end Go.Ab
namespace Go.Ab
open Go
set_option maxRecDepth 100000
set_option maxHeartbeats 400000
theorem Vd {τ ρ σ:Type} {n:Nat} (hn:n < 1152921504606846976) (good:Nat → Prop) (mkS:Int→τ→σ) {body:σ→Option (Qh σ ρ)} (T:Nat → τ) (r rb:ρ)
  (step:∀k,k < n→(∀j,j < k→good j)→good k→body (mkS (k:Int) (T k))=some (.next (mkS (zw ((k:Int)+1)) (T (k+1)))))
  (bad:∀k,k < n→(∀j,j < k→good j)→¬ good k→body (mkS (k:Int) (T k))=some (.done rb))
  (done:(∀j,j < n→good j)→body (mkS (n:Int) (T n))=some (.done r)) :
  ((∀j,j < n→good j)∧Qa fuel body (mkS ((0:Nat):Int) (T 0))=some r)∨((¬ ∀j,j < n→good j)∧Qa fuel body (mkS ((0:Nat):Int) (T 0))=some rb):=by
 have h:=Jh (n:=n) (k0:=0) (by omega) hn mkS (body:=body) (fun k t=>t=T k∧∀j,j < k→good j) (fun x=>((∀j,j < n→good j)∧x=r)∨((¬ ∀j,j < n→good j)∧x=rb))
  (fun k t _ hk hI=>by
   obtain ⟨rfl,hI⟩:=hI
   by_cases hg:good k
   ·left
    exact ⟨_,step k hk hI hg,rfl,fun j hj=>by
     by_cases e:j=k
     ·rw [e]; exact hg
     ·exact hI j (by omega)⟩
   ·exact .inr ⟨_,bad k hk hI hg,.inr ⟨fun h=>hg (h k hk),rfl⟩⟩)
  (fun t hI=>by
   obtain ⟨rfl,hI⟩:=hI
   exact ⟨_,done hI,.inl ⟨hI,rfl⟩⟩) (T 0) ⟨rfl,fun j hj=>by omega⟩
 obtain ⟨x,h1,h2⟩:=h
 rcases h2 with ⟨a,rfl⟩ | ⟨a,rfl⟩
 ·exact .inl ⟨a,h1⟩
 ·exact .inr ⟨a,h1⟩
structure NB (n:Nat) (F:Nat → Tapi_Node):Prop where
 par:∀v,v < n→(F v).Parents.length≤1000000
 rows:∀v,v < n→(F v).Rows.length≤1000000
 row:∀v,v < n→∀r∈(F v).Rows,r.length≤1000000
def K2 (x:Tapi_Node):Prop:=1≤x.Card∧x.Card≤4
def cardN (F:Nat → Tapi_Node) (v:Nat):Nat := (F v).Card.toNat
theorem Qnq {F:Nat → Tapi_Node} {v:Nat} (h:K2 (F v)):((cardN F v:Nat):Int)=(F v).Card:=by
 unfold cardN; have:=h.1; omega
theorem Qb0 {F:Nat → Tapi_Node} {v:Nat} (h:K2 (F v)):1≤cardN F v∧cardN F v≤4:=by
 unfold cardN; have:=h.1; have:=h.2; omega
theorem Qxq {n:Nat} {g:Int} {F:Nat → Tapi_Node} (hn:n≤8) :
  ((∀v,v < n→K2 (F v))∧Qa fuel (Ye ⟨g,rowG n F⟩) ((1:Int),(0:Int),rowG n fun _=>(0:Int))=some (Sum.inr ((Zh n (cardN F):Int),Ze n (cardN F)))) ∨
  ((¬ ∀v,v < n→K2 (F v))∧Qa fuel (Ye ⟨g,rowG n F⟩) ((1:Int),(0:Int),rowG n fun _=>(0:Int))=some (Sum.inl ())):=by
 have hlen:(rowG n F).length=n:=Z1
 have h:=Vd (n:=n) (by omega) (fun v=>K2 (F v)) (fun i (t:Int × List Int)=>(t.1,i,t.2)) (body:=Ye ⟨g,rowG n F⟩)
  (fun k=>((Zh k (cardN F):Int),rowG n fun j=>if j < k then (cardN F j:Int) else 0)) (Sum.inr ((Zh n (cardN F):Int),Ze n (cardN F))) (Sum.inl ())
  (fun k hk hI hg=>by
   have b1:Zh k (cardN F)≤4^k:=Qlz fun j hj=>(Qb0 (hI j hj)).2
   have b2:(4:Nat)^k≤4^8:=Nat.pow_le_pow_right (by omega) (by omega)
   have b3:Zh k (cardN F)*cardN F k≤65536*4:=Nat.mul_le_mul (by omega) (Qb0 hg).2
   have hc:=Qnq hg
   have e1:(Zh k (cardN F):Int)*(F k).Card=((Zh (k+1) (cardN F):Nat):Int):=by rw [←hc]; simp [Zh]
   unfold Ye
   dsimp only
   rw [hlen,if_pos (dlt hk),Zr hk,Option.bind_some,if_neg (by simp; exact hg.1),if_neg (by simp; exact hg.2),Zr hk,Option.bind_some,e1,w64 (n:=((Zh (k+1) (cardN F):Nat):Int)) (by simp only [Zh]; omega),Int.toNat_natCast,Qbs,←hc]
   congr 4
   refine Zu fun j hj=>?_
   by_cases e:j=k
   ·subst e; simp
   ·rw [if_neg e]
    by_cases e2:j < k
    ·rw [if_pos e2,if_pos (by omega)]
    ·rw [if_neg e2,if_neg (by omega)])
  (fun k hk hI hg=>by
   unfold Ye
   dsimp only
   rw [hlen,if_pos (dlt hk),Zr hk,Option.bind_some]
   by_cases c:(F k).Card < 1
   ·rw [if_pos (by simpa using c)]
   ·rw [if_neg (by simpa using c),if_pos (by unfold K2 at hg; simp; omega)])
  (fun hI=>by
   unfold Ye
   dsimp only
   rw [hlen,if_neg (nlt n)]
   congr 4
   exact Zu fun j hj=>if_pos hj)
 have e0:(rowG n fun j=>if j < 0 then (cardN F j:Int) else 0)=rowG n fun _=>(0:Int):=Zu fun j _=>if_neg (by omega)
 simp only [e0] at h
 exact h
def Qai (n:Nat) (l:List Int):Prop:=∃q:List Nat,l=nI q∧q.Pairwise (· < ·)∧∀p∈q,p < n
def Qh2 (l:List Int) (k:Nat):Int:=if k=0 then -1 else (l[k - 1]?).getD 0
def Qhf (n:Nat) (l:List Int) (k:Nat):Prop:=Qh2 l k < (l[k]?).getD 0∧(l[k]?).getD 0 < n
theorem Qoy {l:List Int} {k:Nat}:Qh2 l (k+1)=(l[k]?).getD 0:=by simp [Qh2]
theorem Qgi {n:Nat} {l:List Int} {m:Nat} (h:∀j,j < m→Qhf n l j):∀k,k < m→0≤(l[k]?).getD 0∧∀j,j < k→(l[j]?).getD 0 < (l[k]?).getD 0
 | 0,hk=>⟨by have:=(h 0 hk).1; simp [Qh2] at this ⊢; omega,fun j hj=>by omega⟩
 | k+1,hk=>by
  obtain ⟨h1,h2⟩:=Qgi h k (by omega)
  have h3:=(h (k+1) hk).1
  rw [Qoy] at h3
  refine ⟨by omega,fun j hj=>?_⟩
  by_cases e:j=k
  ·rw [e]; exact h3
  ·have:=h2 j (by omega); omega
theorem Qrc {n:Nat} {l:List Int} (h:∀j,j < l.length→Qhf n l j):Qai n l:=by
 have hm:=Qgi h
 have e:l=nI (l.map Int.toNat):=by
  unfold nI
  rw [List.map_map]
  conv=>lhs; rw [←List.map_id l]
  refine List.map_congr_left fun x hx=>?_
  obtain ⟨k,hk,rfl⟩:=List.mem_iff_getElem.1 hx
  have:=(hm k hk).1
  rw [List.getElem?_eq_getElem hk] at this
  simp at this ⊢; omega
 refine ⟨l.map Int.toNat,e,?_,fun p hp=>?_⟩
 ·rw [List.pairwise_map,List.pairwise_iff_getElem]
  intro i j hi hj hij
  have h1:=(hm j hj).2 i hij
  have h2:=(hm i hi).1
  rw [List.getElem?_eq_getElem hj,List.getElem?_eq_getElem hi] at h1
  rw [List.getElem?_eq_getElem hi] at h2
  simp at h1 h2; omega
 ·obtain ⟨x,hx,rfl⟩:=List.mem_map.1 hp
  obtain ⟨k,hk,rfl⟩:=List.mem_iff_getElem.1 hx
  have h1:=(h k hk).2
  have h2:=(hm k hk).1
  rw [List.getElem?_eq_getElem hk] at h1 h2
  simp at h1 h2; omega
theorem Qlo {n:Nat} {l:List Int} (h:Qai n l):∀j,j < l.length→Qhf n l j:=by
 obtain ⟨q,rfl,h1,h2⟩:=h
 intro j hj
 rw [Qg] at hj
 have e:∀k (hk:k < q.length),((nI q)[k]?).getD 0=(q[k]:Int):=fun k hk=>by simp [nI,hk]
 refine ⟨?_,?_⟩
 ·unfold Qh2
  rw [e j hj]
  by_cases c:j=0
  ·rw [if_pos c]; omega
  ·rw [if_neg c,e (j - 1) (by omega)]
   have:=List.pairwise_iff_getElem.1 h1 (j - 1) j (by omega) hj (by omega)
   omega
 ·rw [e j hj]
  have:=h2 _ (List.getElem_mem hj); omega
def Qd (F:Nat → Tapi_Node) (v:Nat):List Nat := (F v).Parents.map Int.toNat
theorem Vn {n:Nat} {F:Nat → Tapi_Node} {v:Nat} (h:Qai n (F v).Parents):(F v).Parents=nI (Qd F v)∧(Qd F v).Pairwise (· < ·)∧∀p∈Qd F v,p < n:=by
 obtain ⟨q,e,h1,h2⟩:=h
 have:Qd F v=q:=by
  unfold Qd; rw [e]; unfold nI; rw [List.map_map]
  conv=>rhs; rw [←List.map_id q]
  exact List.map_congr_left fun x _=>by simp
 rw [this]; exact ⟨e,h1,h2⟩
theorem Qeq {n:Nat} {q:List Nat} (h1:q.Pairwise (· < ·)) (h2:∀p∈q,p < n):q.length≤n:=by
 have:=K9 q (List.range n) (h1.imp fun h=>by omega) fun p hp=>List.mem_range.2 (h2 p hp)
 simpa using this
theorem Qth {n v:Nat} {g:Int} {F:Nat → Tapi_Node} {x:Tapi_Node} {S:Nat → Int} {R:List Int} (hn:n≤8) (hv:v < n) (hb:x.Parents.length≤1000000) (h0:S v=0) (w:Int × List Int) (hw1:w.1=(v:Int)) :
  ((Qai n x.Parents∧(v:Int) ∉ x.Parents)∧Qa fuel (Jg x ⟨g,rowG n F⟩ w) ((-1:Int),(0:Int),rowG n S)=some (Sum.inr (rowG n fun j=>if j=v then (bitsOf (x.Parents.map Int.toNat) 0:Int) else S j))) ∨
  (¬ (Qai n x.Parents∧(v:Int) ∉ x.Parents)∧Qa fuel (Jg x ⟨g,rowG n F⟩ w) ((-1:Int),(0:Int),rowG n S)=some (Sum.inl ())):=by
 have hlen:(rowG n F).length=n:=Z1
 have h:=Vd (n:=x.Parents.length) (by omega) (fun k=>Qhf n x.Parents k∧(x.Parents[k]?).getD 0≠(v:Int)) (fun i (t:Int × List Int)=>(t.1,i,t.2)) (body:=Jg x ⟨g,rowG n F⟩ w)
  (fun k=>(Qh2 x.Parents k,rowG n fun j=>if j=v then (bitsOf ((x.Parents.take k).map Int.toNat) 0:Int) else S j)) (Sum.inr (rowG n fun j=>if j=v then (bitsOf (x.Parents.map Int.toNat) 0:Int) else S j)) (Sum.inl ())
  (fun k hk hI hg=>by
   have hm:=Qgi (m:=k+1) (n:=n) (l:=x.Parents) fun j hj=>by
    by_cases e:j=k
    ·rw [e]; exact hg.1
    ·exact (hI j (by omega)).1
   have ek:lkI x.Parents (k:Int)=some ((x.Parents[k]?).getD 0):=by rw [Q4 hk,List.getElem?_eq_getElem hk]; rfl
   have htake:(x.Parents.take (k+1)).map Int.toNat = (x.Parents.take k).map Int.toNat ++ [((x.Parents[k]?).getD 0).toNat]:=by
    rw [Qt hk,List.map_append,List.getElem?_eq_getElem hk]; rfl
   have hbl:bitsOf ((x.Parents.take k).map Int.toNat) 0 < 18446744073709551616:=Qbd _ _ (by omega) fun p hp=>by
    obtain ⟨y,hy,rfl⟩:=List.mem_map.1 hp
    obtain ⟨j,hj,rfl⟩:=List.mem_iff_getElem.1 hy
    have hj':j < k:=by rw [List.length_take] at hj; omega
    have h1:=(hI j hj').1.2
    have h2:=(hm j (by omega)).1
    rw [List.getElem?_eq_getElem (by omega)] at h1 h2
    rw [List.getElem_take]
    simp at h1 h2; omega
   obtain ⟨⟨g1,g2⟩,g3⟩:=hg
   have g4:=(hm k (by omega)).1
   generalize hp:(x.Parents[k]?).getD 0=p at *
   obtain ⟨p,rfl⟩:∃m:Nat,p=(m:Int):=⟨p.toNat,by omega⟩
   unfold Jg
   dsimp only
   rw [if_pos (dlt hk),ek,Option.bind_some,if_neg (by simp; omega),hlen,if_neg (by simp; omega),hw1,if_neg (by simp; omega),Zr hv,Option.bind_some,if_pos (Zm p),if_pos rfl,Qr5 hbl (by omega),Int.toNat_natCast,Qbs,htake,Qoy,hp,Qc0,Int.toNat_natCast]
   congr 4
   refine Zu fun j _=>?_
   by_cases e:j=v
   ·subst e; simp
   ·rw [if_neg e,if_neg e,if_neg e])
  (fun k hk hI hg=>by
   have ek:lkI x.Parents (k:Int)=some ((x.Parents[k]?).getD 0):=by rw [Q4 hk,List.getElem?_eq_getElem hk]; rfl
   unfold Jg
   dsimp only
   rw [if_pos (dlt hk),ek,Option.bind_some]
   by_cases c1:(x.Parents[k]?).getD 0≤Qh2 x.Parents k
   ·rw [if_pos (by simpa using c1)]
   ·rw [if_neg (by simpa using c1),hlen]
    by_cases c2:(x.Parents[k]?).getD 0≥(n:Int)
    ·rw [if_pos (by simpa using c2)]
    ·rw [if_neg (by simpa using c2),hw1,if_pos (by
      have:(x.Parents[k]?).getD 0=(v:Int):=by
       apply Classical.byContradiction
       intro h
       exact hg ⟨⟨by omega,by omega⟩,h⟩
      simpa using this)])
  (fun hI=>by
   unfold Jg
   dsimp only
   rw [if_neg (nlt _),List.take_of_length_le (Nat.le_refl _)])
 have hiff:(∀j,j < x.Parents.length→Qhf n x.Parents j∧(x.Parents[j]?).getD 0≠(v:Int))↔Qai n x.Parents∧(v:Int) ∉ x.Parents:=by
  constructor
  ·intro h
   refine ⟨Qrc fun j hj=>(h j hj).1,fun hm=>?_⟩
   obtain ⟨k,hk,e⟩:=List.mem_iff_getElem.1 hm
   have:=(h k hk).2
   rw [List.getElem?_eq_getElem hk] at this
   exact this e
  ·rintro ⟨h1,h2⟩ j hj
   refine ⟨Qlo h1 j hj,fun e=>h2 ?_⟩
   rw [List.getElem?_eq_getElem hj] at e
   rw [←show x.Parents[j]=(v:Int) from e]
   exact List.getElem_mem hj
 rw [hiff] at h
 have e0:(rowG n fun j=>if j=v then (bitsOf ((x.Parents.take 0).map Int.toNat) 0:Int) else S j)=rowG n S:=Zu fun j _=>by
  by_cases e:j=v
  ·rw [if_pos e,e,h0]; rfl
  ·rw [if_neg e]
 simp only [e0] at h
 exact h
end Go.Ab
