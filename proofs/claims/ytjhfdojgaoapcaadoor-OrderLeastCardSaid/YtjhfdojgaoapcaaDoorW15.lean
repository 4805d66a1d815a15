/- What functions compute. No conditions. -/
import Derived.Test.YtjhfdojgaoapcaaDoorEng7
import Derived.Test.YtjhfdojgaoapcaaDoorW10
import Derived.Test.YtjhfdojgaoapcaaDoorW14
import Derived.KernelRfl
import Derived.Test.YtjhfdojgaoapcaaDoorRows
import Derived.Test.YtjhfdojgaoapcaaDoorEng6
import Derived.WalkKit
import Derived.ProofKit
import Derived.LaidMore
import Derived.Lib.LaidTab
import Derived.Stop.LaidErr
import Derived.Stop.Joined
import Derived.OpenShut
set_option linter.all false
namespace Go.Ab
open Go
theorem one5 {cs:List AV} (h:WT (.int .u8) cs):∃a:Int,cs=[(AV.int .u8) a]∧(Lit.int .u8 a).wf=true:=by
 obtain ⟨n,rfl,w⟩:=h
 exact ⟨n,rfl,w⟩
theorem el5 {x:AV} (h:WT (.int .u8) x.flat ∧ (if false then x=.agg x.flat else x.cell=true)):∃a:Int,x=(AV.int .u8) a∧(Lit.int .u8 a).wf=true:=by
 obtain ⟨a,h1,h2⟩:=one5 h.1
 rw [flat_cell h.2] at h1
 exact ⟨a,(List.cons.inj h1).1,h2⟩
theorem rdA113 {cs:List AV} (h:WT (.cat (.int .u8) (.cat (.int .u8) .unit)) cs):∃x:(Int × Int),AV.agg cs=(fun x:(Int × Int)=>AV.agg [.int .u8 x.1,.int .u8 x.2]) x∧((Lit.int .u8 x.1).wf=true∧(Lit.int .u8 x.2).wf=true):=by
 obtain ⟨_,_,rfl,a0,r0⟩:=h
 obtain ⟨v0,e0,w0⟩:=one5 a0
 cases e0
 obtain ⟨_,_,rfl,a1,r1⟩:=r0
 obtain ⟨v1,e1,w1⟩:=one5 a1
 cases e1
 cases r1
 exact ⟨(v0,v1),rfl,⟨w0,w1⟩⟩
theorem el113 {x:AV} (h:WT (.cat (.int .u8) (.cat (.int .u8) .unit)) x.flat ∧ (if true then x=.agg x.flat else x.cell=true)):∃a:(Int × Int),x=(fun x:(Int × Int)=>AV.agg [.int .u8 x.1,.int .u8 x.2]) a∧((Lit.int .u8 a.1).wf=true∧(Lit.int .u8 a.2).wf=true):=by
 obtain ⟨a,h1,h2⟩:=rdA113 h.1
 have h3:x=.agg x.flat := h.2
 exact ⟨a,h3.trans h1,h2⟩
theorem one24 {cs:List AV} (h:WT (.slice true true 2 (.cat (.int .u8) (.cat (.int .u8) .unit))) cs):∃a:(List (Int × Int)),cs=[(eL true (fun x:(Int × Int)=>AV.agg [.int .u8 x.1,.int .u8 x.2])) a]∧(a.length≤maxLen∧∀y0∈a,((Lit.int .u8 y0.1).wf=true∧(Lit.int .u8 y0.2).wf=true)):=by
 obtain ⟨xs,rfl,hl,hx⟩:=h
 obtain ⟨l,rfl,hr⟩:=lists_of (enc:=(fun x:(Int × Int)=>AV.agg [.int .u8 x.1,.int .u8 x.2])) (R:=fun a=>((Lit.int .u8 a.1).wf=true∧(Lit.int .u8 a.2).wf=true)) (fun x hm=>el113 (hx x hm))
 exact ⟨l,rfl,by simpa using hl,hr⟩
theorem one25 {cs:List AV} (h:WT (.slice true false 1 (.int .u8)) cs):∃a:(List Int),cs=[(eL true (AV.int .u8)) a]∧(a.length≤maxLen∧∀y0∈a,(Lit.int .u8 y0).wf=true):=by
 obtain ⟨xs,rfl,hl,hx⟩:=h
 obtain ⟨l,rfl,hr⟩:=lists_of (enc:=(AV.int .u8)) (R:=fun a=>(Lit.int .u8 a).wf=true) (fun x hm=>el5 (hx x hm))
 exact ⟨l,rfl,by simpa using hl,hr⟩
def okTharuspexref08_Draft (x:Tharuspexref08_Draft):Prop:=((Lit.int .u8 x.N).wf=true)∧((x.E.length≤maxLen∧∀y0∈x.E,((Lit.int .u8 y0.1).wf=true∧(Lit.int .u8 y0.2).wf=true)))∧((x.Order.length≤maxLen∧∀y0∈x.Order,(Lit.int .u8 y0).wf=true))
theorem rdTharuspexref08_Draft {cs:List AV} (h:WT (.cat (.int .u8) (.cat (.slice true true 2 (.cat (.int .u8) (.cat (.int .u8) .unit))) (.cat (.slice true false 1 (.int .u8)) .unit))) cs):∃x:Tharuspexref08_Draft,AV.agg cs=eTharuspexref08_Draft x∧okTharuspexref08_Draft x:=by
 obtain ⟨_,_,rfl,a0,r0⟩:=h
 obtain ⟨v0,e0,w0⟩:=one5 a0
 cases e0
 obtain ⟨_,_,rfl,a1,r1⟩:=r0
 obtain ⟨v1,e1,w1⟩:=one24 a1
 cases e1
 obtain ⟨_,_,rfl,a2,r2⟩:=r1
 obtain ⟨v2,e2,w2⟩:=one25 a2
 cases e2
 cases r2
 exact ⟨⟨v0,v1,v2⟩,rfl,⟨w0,w1,w2⟩⟩
end Go.Ab
namespace Go.Ab
open Go
set_option maxRecDepth 100000
set_option maxHeartbeats 400000
def msk:Nat → (Nat → Bool)→Nat
 | 0,_=>0
 | n+1,p=>msk n p ||| (if p n then 2^n else 0)
theorem msk_bit (n:Nat) (p:Nat → Bool) (i:Nat):(msk n p).testBit i=(decide (i < n) && p i):=by
 induction n with
 | zero=>simp [msk]
 | succ n ih =>
  unfold msk
  rw [Nat.testBit_or,ih]
  by_cases h:i=n
  ·subst h
   cases hp:p i <;> simp [hp]
  ·have e:decide (i < n+1)=decide (i < n):=by by_cases h2:i < n <;> simp [h2] <;> omega
   rw [e]
   cases hp:p n
   ·simp
   ·simp only [if_true,Nat.testBit_two_pow]
    have e2:¬ n=i:=fun e=>h e.symm
    simp [e2]
theorem msk_lt (n:Nat) (p:Nat → Bool):msk n p < 2^n:=by
 induction n with
 | zero=>simp [msk]
 | succ n ih =>
  unfold msk
  refine Nat.or_lt_two_pow (Nat.lt_of_lt_of_le ih (Nat.pow_le_pow_right (by omega) (by omega))) ?_
  split
  ·exact Nat.pow_lt_pow_right (by omega) (by omega)
  ·exact Nat.two_pow_pos _
theorem msk_eq {n:Nat} {p:Nat → Bool} {a:Nat} (ha:a < 2^n) (h:∀i,i < n→a.testBit i=p i):a=msk n p:=by
 apply Nat.eq_of_testBit_eq
 intro i
 rw [msk_bit]
 by_cases hi:i < n
 ·simp [hi,h i hi]
 ·rw [Nat.testBit_lt_two_pow (Nat.lt_of_lt_of_le ha (Nat.pow_le_pow_right (by omega) (by omega)))]; simp [hi]
theorem msk_congr {n:Nat} {p q:Nat → Bool} (h:∀i,i < n→p i=q i):msk n p=msk n q :=
 msk_eq (msk_lt n p) fun i hi=>by rw [msk_bit,h i hi]; simp [hi]
theorem msk_inj {n:Nat} {p q:Nat → Bool} (h:msk n p=msk n q):∀i,i < n→p i=q i:=fun i hi=>by
 have:=msk_bit n p i
 rw [h,msk_bit] at this
 simpa [hi] using this.symm
theorem lt1024 {n a:Nat} (hn:n≤10) (ha:a < 2^n):a < 1024:=Nat.lt_of_lt_of_le ha (Nat.pow_le_pow_right (n:=2) (by omega) hn)
theorem lt64 {n a:Nat} (hn:n≤10) (ha:a < 2^n):a < 18446744073709551616:=by have:=lt1024 hn ha; omega
theorem u64_nat {n:Nat} (h:n < 18446744073709551616):IntKind.u64.wrap (n:Int)=(n:Int):=by
 simp [IntKind.wrap,IntKind.bits,IntKind.signed]; omega
theorem bv_nat {a:Nat} (h:a < 18446744073709551616):(BitVec.ofInt (IntKind.bits .u64) (a:Int)).toNat = a:=by
 rw [BitVec.ofInt_natCast,BitVec.toNat_ofNat]
 exact Nat.mod_eq_of_lt h
theorem fdiv_pow {a k:Nat}:Int.fdiv (a:Int) ((2:Int)^k)=((a / 2^k:Nat):Int):=by
 rw [Int.fdiv_eq_ediv_of_nonneg _ (by exact_mod_cast Nat.zero_le (2^k))]
 simp
theorem bv_bit {a j:Nat} (h:a < 18446744073709551616):(BitVec.ofInt (IntKind.bits .u64) (a:Int)).getLsbD j=a.testBit j:=by unfold BitVec.getLsbD; rw [bv_nat h]
theorem u_sh {v:Nat} (hv:v < 64):IntKind.u64.wrap (1*2^min (Int.toNat (v:Int)) (IntKind.bits .u64))=((2^v:Nat):Int):=by
 have hb:IntKind.bits .u64=64:=rfl
 have e0:min (Int.toNat (v:Int)) (IntKind.bits .u64)=v:=by rw [hb,Int.toNat_natCast]; omega
 have hp:2^v < 18446744073709551616:=Nat.pow_lt_pow_right (n:=64) (by omega) hv
 rw [e0,show (1:Int)*2^v=((2^v:Nat):Int) by simp,u64_nat hp]
theorem pow64 {v:Nat} (hv:v < 64):2^v < 18446744073709551616:=Nat.pow_lt_pow_right (n:=64) (by omega) hv
theorem u_diff {n:Nat} {p q:Nat → Bool} {a b:Nat} (hn:n≤64) (ha:a < 2^n) (hb:b < 18446744073709551616) (hp:∀i,i < n→a.testBit i=p i) (hq:∀i,i < n→b.testBit i=q i) :
  IntKind.u64.wrap (BitVec.ofInt (IntKind.bits .u64) (a:Int) &&& ~~~ BitVec.ofInt (IntKind.bits .u64) (b:Int)).toNat = ((msk n fun i=>p i && !q i:Nat):Int):=by
 have ha':a < 18446744073709551616:=Nat.lt_of_lt_of_le ha (Nat.pow_le_pow_right (n:=2) (by omega) hn)
 have h1:(BitVec.ofInt (IntKind.bits .u64) (a:Int) &&& ~~~ BitVec.ofInt (IntKind.bits .u64) (b:Int)).toNat < 18446744073709551616:=BitVec.isLt _
 rw [u64_nat h1]
 congr 1
 refine msk_eq ?_ fun i hi=>?_
 ·refine Nat.lt_of_le_of_lt ?_ ha
  rw [BitVec.toNat_and,bv_nat ha']
  exact Nat.and_le_left
 ·have:i < 64:=by omega
  have e:(BitVec.ofInt (IntKind.bits .u64) (a:Int) &&& ~~~ BitVec.ofInt (IntKind.bits .u64) (b:Int)).toNat.testBit i=(BitVec.ofInt (IntKind.bits .u64) (a:Int) &&& ~~~ BitVec.ofInt (IntKind.bits .u64) (b:Int)).getLsbD i:=rfl
  rw [e,BitVec.getLsbD_and,BitVec.getLsbD_not,bv_bit ha',bv_bit hb,hp i hi,hq i hi]
  have h64:i < IntKind.bits .u64:=this
  simp [h64]
theorem u_or {n:Nat} {p q:Nat → Bool} {a b:Nat} (hn:n≤64) (ha:a < 2^n) (hb:b < 2^n) (hp:∀i,i < n→a.testBit i=p i) (hq:∀i,i < n→b.testBit i=q i) :
  IntKind.u64.wrap (BitVec.ofInt (IntKind.bits .u64) (a:Int) ||| BitVec.ofInt (IntKind.bits .u64) (b:Int)).toNat = ((msk n fun i=>p i || q i:Nat):Int):=by
 have h64:2^n≤2^64:=Nat.pow_le_pow_right (n:=2) (by omega) hn
 have ha':a < 18446744073709551616:=Nat.lt_of_lt_of_le ha h64
 have hb':b < 18446744073709551616:=Nat.lt_of_lt_of_le hb h64
 rw [BitVec.toNat_or,bv_nat ha',bv_nat hb',u64_nat (Nat.or_lt_two_pow (n:=64) ha' hb')]
 congr 1
 exact msk_eq (Nat.or_lt_two_pow ha hb) fun i hi=>by rw [Nat.testBit_or,hp i hi,hq i hi]
theorem bit_pow (v i:Nat):(2^v).testBit i=decide (v=i):=Nat.testBit_two_pow
theorem bitS {n:Nat} {p:Nat → Bool}:∀i,i < n→(msk n p).testBit i=p i:=fun i hi=>by rw [msk_bit]; simp [hi]
theorem u_del {n v:Nat} {p:Nat → Bool} (hn:n≤10) (hv:v < 64):IntKind.u64.wrap (BitVec.ofInt (IntKind.bits .u64) ((msk n p:Nat):Int) &&& ~~~ BitVec.ofInt (IntKind.bits .u64) (IntKind.u64.wrap (1*2^min (Int.toNat (v:Int)) (IntKind.bits .u64)))).toNat = ((msk n fun i=>p i && !decide (v=i):Nat):Int):=by
 rw [u_sh hv]
 exact u_diff (by omega) (msk_lt n p) (pow64 hv) bitS fun i _=>bit_pow v i
theorem u_ins {n v:Nat} {p:Nat → Bool} (hn:n≤10) (hv:v < n):IntKind.u64.wrap (BitVec.ofInt (IntKind.bits .u64) ((msk n p:Nat):Int) ||| BitVec.ofInt (IntKind.bits .u64) (IntKind.u64.wrap (1*2^min (Int.toNat (v:Int)) (IntKind.bits .u64)))).toNat = ((msk n fun i=>p i || decide (v=i):Nat):Int):=by
 rw [u_sh (by omega)]
 exact u_or (by omega) (msk_lt n p) (Nat.pow_lt_pow_right (by omega) hv) bitS fun i _=>bit_pow v i
theorem u_bit {a k:Nat} (ha:a < 18446744073709551616) (hk:k < 64) :
  IntKind.u64.wrap (BitVec.ofInt (IntKind.bits .u64) (Int.fdiv (a:Int) (2^min (Int.toNat (k:Int)) (IntKind.bits .u64))) &&& BitVec.ofInt (IntKind.bits .u64) 1).toNat = ((a.testBit k).toNat : Int):=by
 have hb:IntKind.bits .u64=64:=rfl
 have e0:min (Int.toNat (k:Int)) (IntKind.bits .u64)=k:=by rw [hb,Int.toNat_natCast]; omega
 rw [e0,fdiv_pow]
 have h1:a / 2^k < 18446744073709551616:=Nat.lt_of_le_of_lt (Nat.div_le_self _ _) ha
 have e1:(BitVec.ofInt (IntKind.bits .u64) ((a / 2^k:Nat):Int) &&& BitVec.ofInt (IntKind.bits .u64) 1).toNat = (a / 2^k) % 2:=by
  rw [BitVec.toNat_and,bv_nat h1,show (BitVec.ofInt (IntKind.bits .u64) 1).toNat = 1 from rfl,Nat.and_one_is_mod]
 rw [e1,u64_nat (by omega)]
 have e2:a.testBit k=((a / 2^k) % 2==1):=by rw [Nat.testBit_eq_decide_div_mod_eq]; rfl
 rw [e2]
 rcases Nat.mod_two_eq_zero_or_one (a / 2^k) with h | h <;> rw [h] <;> rfl
theorem msk_all (n:Nat):msk n (fun _=>true)=2^n - 1:=(msk_eq (by have:=Nat.two_pow_pos n; omega) fun i hi=>by rw [Nat.testBit_two_pow_sub_one]; simp [hi]).symm
theorem u_all {n:Nat} (hn:n≤10):IntKind.u64.wrap ((IntKind.u64.wrap (1*2^min (Int.toNat (n:Int)) (IntKind.bits .u64))) - 1)=((msk n fun _=>true:Nat):Int):=by
 rw [u_sh (by omega),msk_all]
 have h1:=pow64 (v:=n) (by omega)
 have h2:=Nat.two_pow_pos n
 rw [show ((2^n:Nat):Int) - 1=((2^n - 1:Nat):Int) by omega,u64_nat (by omega)]
def cnt:Nat → (Nat → Bool)→Nat
 | 0,_=>0
 | n+1,p=>cnt n p+(p n).toNat
def tzN:Nat → (Nat → Bool)→Nat
 | 0,_=>0
 | n+1,p=>if p 0 then 0 else tzN n (fun i=>p (i+1))+1
def isS (x:Option Int) (y:Int):Bool:=match x with | some z=>z==y | none=>false
theorem isS_eq {x:Option Int} {y:Int} (h:isS x y=true):x=some y:=by
 cases x with
 | none=>cases h
 | some z=>simp only [isS,beq_iff_eq] at h; rw [h]
theorem all_at {p:Nat → Bool} {n:Nat} (h:(List.range n).all p=true) {k:Nat} (hk:k < n):p k=true:=List.all_eq_true.1 h k (List.mem_range.2 hk)
theorem T_tz:((List.range 1024).all fun R=>Nat.beq R 0 || (isS (g_math_bits_TrailingZeros (R:Int)) (tzN 10 R.testBit:Int)))=true:=by kernel_rfl
theorem T_rest:((List.range 1024).all fun R=>Nat.beq R 0 || (IntKind.u64.wrap (BitVec.ofInt (IntKind.bits .u64) (R:Int) &&& BitVec.ofInt (IntKind.bits .u64) (IntKind.u64.wrap ((R:Int) - 1))).toNat == ((msk 10 fun i=>R.testBit i && !Nat.beq (tzN 10 R.testBit) i:Nat):Int)))=true:=by kernel_rfl
theorem T_cnt:((List.range 1024).all fun R=>isS (g_math_bits_OnesCount (R:Int)) (cnt 10 R.testBit:Int))=true:=by kernel_rfl
theorem cnt_congr {n:Nat} {p q:Nat → Bool} (h:∀i,i < n→p i=q i):cnt n p=cnt n q:=by
 induction n with
 | zero=>rfl
 | succ n ih=>simp only [cnt]; rw [ih fun i hi=>h i (by omega),h n (by omega)]
theorem cnt_ext {n m:Nat} {p:Nat → Bool} (hm:n≤m) (h:∀i,n≤i→i < m→p i=false):cnt m p=cnt n p:=by
 induction m with
 | zero =>
  have:n=0:=by omega
  subst this; rfl
 | succ m ih =>
  by_cases e:n=m+1
  ·subst e; rfl
  ·simp only [cnt]; rw [h m (by omega) (by omega),ih (by omega) fun i h1 h2=>h i h1 (by omega)]; rfl
theorem oc_msk {n:Nat} (hn:n≤10) (p:Nat → Bool):g_math_bits_OnesCount ((msk n p:Nat):Int)=some (cnt n p:Int):=by
 have h:=isS_eq (all_at T_cnt (lt1024 hn (msk_lt n p)))
 rw [h]
 congr 2
 rw [cnt_ext hn fun i h1 h2=>by rw [msk_bit]; simp; omega]
 exact cnt_congr bitS
theorem cnt_le (n:Nat) (p:Nat → Bool):cnt n p≤n:=by
 induction n with
 | zero=>exact Nat.le_refl _
 | succ n ih =>
  simp only [cnt]; have:(p n).toNat ≤ 1:=by cases p n <;> decide
  omega
theorem cnt_mono {n:Nat} {p q:Nat → Bool} (h:∀i,i < n→p i=true→q i=true):cnt n p≤cnt n q:=by
 induction n with
 | zero=>exact Nat.le_refl _
 | succ n ih =>
  simp only [cnt]
  have h1:=ih fun i hi=>h i (by omega)
  have h2:=h n (by omega)
  cases hp:p n with
  | false =>
   have:false.toNat = 0:=rfl
   omega
  | true=>rw [h2 hp]; omega
theorem cnt_zero {n:Nat} {p:Nat → Bool} (h:∀i,i < n→p i=false):cnt n p=0:=by
 induction n with
 | zero=>rfl
 | succ n ih=>simp only [cnt]; rw [ih fun i hi=>h i (by omega),h n (by omega)]; rfl
theorem cnt_pos {n:Nat} {p:Nat → Bool} {i:Nat} (hi:i < n) (h:p i=true):0 < cnt n p:=by
 induction n with
 | zero=>omega
 | succ n ih =>
  simp only [cnt]
  by_cases e:i=n
  ·subst e; rw [h]; show 0 < _+1; omega
  ·have:=ih (by omega); omega
theorem cnt_del {n v:Nat} {p:Nat → Bool} (hv:v < n) (h:p v=true):cnt n (fun i=>p i && !decide (v=i))+1=cnt n p:=by
 induction n with
 | zero=>omega
 | succ n ih =>
  simp only [cnt]
  by_cases e:v=n
  ·subst e
   rw [cnt_congr (n:=v) (q:=p) fun i hi=>by simp; intro _; omega,h]
   simp
  ·have:=ih (by omega)
   have e2:(p n && !decide (v=n))=p n:=by simp; intro _; exact e
   rw [e2]; omega
theorem tzN_spec:∀(n:Nat) (p:Nat → Bool),(∃i,i < n∧p i=true)→tzN n p < n∧p (tzN n p)=true∧∀i,i < tzN n p→p i=false
 | 0,p,⟨i,hi,_⟩=>by omega
 | n+1,p,⟨i,hi,h⟩=>by
  unfold tzN
  by_cases h0:p 0=true
  ·rw [if_pos h0]; exact ⟨by omega,h0,fun i hi=>by omega⟩
  ·rw [if_neg h0]
   have hi0:i≠0:=fun e=>h0 (e ▸ h)
   obtain ⟨a,b,c⟩:=tzN_spec n (fun i=>p (i+1)) ⟨i - 1,by omega,by rw [show i - 1+1=i by omega]; exact h⟩
   refine ⟨by omega,b,fun j hj=>?_⟩
   cases j with
   | zero=>simpa using h0
   | succ j=>exact c j (by omega)
theorem tzN_eq {n v:Nat} {p:Nat → Bool} (hv:v < n) (h:p v=true) (hl:∀i,i < v→p i=false):tzN n p=v:=by
 obtain ⟨a,b,c⟩:=tzN_spec n p ⟨v,hv,h⟩
 rcases Nat.lt_trichotomy (tzN n p) v with e | e | e
 ·rw [hl _ e] at b; cases b
 ·exact e
 ·rw [c v e] at h; cases h
theorem rest_msk {n v:Nat} {p:Nat → Bool} (hn:n≤10) (hv:v < n) (h:p v=true) (hl:∀i,i < v→p i=false) :
  (((msk n p:Nat):Int) != 0)=true∧g_math_bits_TrailingZeros ((msk n p:Nat):Int)=some (v:Int) ∧
  IntKind.u64.wrap (BitVec.ofInt (IntKind.bits .u64) ((msk n p:Nat):Int) &&& BitVec.ofInt (IntKind.bits .u64) (IntKind.u64.wrap (((msk n p:Nat):Int) - 1))).toNat = ((msk n fun i=>p i && !decide (v=i):Nat):Int):=by
 have hlt:=msk_lt n p
 have hR:=lt1024 hn hlt
 have hb:(msk n p).testBit v=true:=by rw [msk_bit]; simp [hv,h]
 have h0:msk n p≠0:=fun e=>by rw [e] at hb; simp at hb
 have e0:Nat.beq (msk n p) 0=false:=by
  cases e:msk n p with
  | zero=>exact absurd e h0
  | succ k=>rfl
 have etz:tzN 10 (msk n p).testBit=v:=tzN_eq (by omega) hb fun i hi=>by rw [msk_bit,hl i hi]; simp
 have h1:=all_at T_tz hR
 have h2:=all_at T_rest hR
 simp only [e0,Bool.false_or,etz] at h1 h2
 refine ⟨by simp; omega,isS_eq h1,?_⟩
 have h3:IntKind.u64.wrap (BitVec.ofInt (IntKind.bits .u64) ((msk n p:Nat):Int) &&& BitVec.ofInt (IntKind.bits .u64) (IntKind.u64.wrap (((msk n p:Nat):Int) - 1))).toNat = ((msk 10 fun i=>(msk n p).testBit i && !Nat.beq v i:Nat):Int):=by simpa using h2
 rw [h3]
 congr 1
 apply Nat.eq_of_testBit_eq
 intro j
 rw [msk_bit,msk_bit,msk_bit]
 have e:Nat.beq v j=decide (v=j):=by
  by_cases e:v=j
  ·subst e; simp
  ·rw [decide_eq_false e,Bool.eq_false_iff]; exact fun h=>e (Nat.eq_of_beq_eq_true h)
 rw [e]
 by_cases hj:j < n
 ·simp [hj,show j < 10 by omega]
 ·simp [hj]
end Go.Ab
namespace Go.Ab
open Go
set_option maxRecDepth 100000
set_option maxHeartbeats 400000
abbrev Gr:=Nat → Nat → Bool
def gl (n:Nat) (A:Gr):List Int:=(List.range n).map fun v=>((msk n (A v):Nat):Int)
theorem gl_len (n:Nat) (A:Gr):(gl n A).length=n:=by simp [gl]
theorem gl_get {n:Nat} {A:Gr} {v:Nat} (hv:v < n):(gl n A)[v]?=some ((msk n (A v):Nat):Int):=by simp [gl,hv]
theorem gl_at {n:Nat} {A:Gr} {v:Nat} (hv:v < n):lkI (gl n A) (v:Int)=some ((msk n (A v):Nat):Int):=by
 unfold lkI
 rw [if_neg (by omega),Int.toNat_natCast,gl_get hv]
theorem gl_congr {n:Nat} {A B:Gr} (h:∀u w,u < n→w < n→A u w=B u w):gl n A=gl n B:=by
 apply List.ext_getElem?
 intro v
 by_cases hv:v < n
 ·rw [gl_get hv,gl_get hv,msk_congr fun w hw=>h v w hv hw]
 ·rw [List.getElem?_eq_none (by rw [gl_len]; omega),List.getElem?_eq_none (by rw [gl_len]; omega)]
def upd (A:Gr) (v:Nat) (q:Nat → Bool):Gr:=fun u w=>if u=v then q w else A u w
theorem upd_ne {A:Gr} {v u:Nat} {q:Nat → Bool} (h:¬ u=v):upd A v q u=A u:=funext fun w=>if_neg h
theorem upd_eq {A:Gr} {v:Nat} {q:Nat → Bool}:upd A v q v=q:=funext fun w=>if_pos rfl
theorem gl_set {n:Nat} {A:Gr} {v:Nat} (q:Nat → Bool):(gl n A).set (Int.toNat (v:Int)) ((msk n q:Nat):Int)=gl n (upd A v q):=by
 apply List.ext_getElem?
 intro u
 rw [Int.toNat_natCast,List.getElem?_set,gl_len]
 by_cases hu:u < n
 ·rw [gl_get hu,gl_get hu]
  by_cases e:v=u
  ·subst e; simp [hu,upd_eq]
  ·rw [if_neg e,upd_ne fun h=>e h.symm]
 ·rw [List.getElem?_eq_none (by rw [gl_len]; omega),List.getElem?_eq_none (by rw [gl_len]; omega)]
  simp [hu]
  intro e; omega
structure Good (n:Nat) (A:Gr):Prop where
 sym:∀u w,A u w=A w u
 irr:∀u,A u u=false
 lt:∀u w,A u w=true→u < n
theorem mem_loop {τ ρ σ:Type} {n:Nat} (hn:n≤10) (mkS:Int→τ→σ) {body:σ→Option (Step σ ρ)} (I:Nat → τ→Prop) (Q:ρ→Prop) (p:Nat → Bool)
  (step:∀(x:Nat) (t:τ) (R R':Int),x < n→p x=true→I x t→(R != 0)=true→g_math_bits_TrailingZeros R=some (x:Int) →
   IntKind.u64.wrap (BitVec.ofInt (IntKind.bits .u64) R &&& BitVec.ofInt (IntKind.bits .u64) (IntKind.u64.wrap (R - 1))).toNat = R' →
   (∃t',body (mkS R t)=some (.next (mkS R' t'))∧I (x+1) t')∨(∃r,body (mkS R t)=some (.done r)∧Q r))
  (skip:∀(x:Nat) (t:τ),x < n→p x=false→I x t→I (x+1) t)
  (done:∀t,I n t→∃r,body (mkS 0 t)=some (.done r)∧Q r) (t0:τ) (h0:I 0 t0) :
  ∃r,whileN fuel body (mkS ((msk n p:Nat):Int) t0)=some r∧Q r:=by
 have key:∀(j N k:Nat) (t:τ),k+j=n→j < N→I k t→∃r,whileN N body (mkS ((msk n fun i=>p i && decide (k≤i):Nat):Int) t)=some r∧Q r:=by
  intro j
  induction j using Nat.strongRecOn with
  | _ j ih =>
   intro N k t hk hN hI
   by_cases hx:∃i,k≤i∧i < n∧p i=true
   ·obtain ⟨x,x1,x2,x3,x4⟩:∃x,k≤x∧x < n∧p x=true∧∀i,k≤i→i < x→p i=false:=by
     have hs:=tzN_spec n (fun i=>p i && decide (k≤i)) (by obtain ⟨i,a,b,c⟩:=hx; exact ⟨i,b,by simp [a,c]⟩)
     refine ⟨_,?_,hs.1,?_,fun i a b=>?_⟩
     ·have:=hs.2.1; simp at this; exact this.2
     ·have:=hs.2.1; simp at this; exact this.1
     ·have:=hs.2.2 i b; simpa [a] using this
    have hIx:I x t:=by
     have:∀d,k+d≤x→I (k+d) t:=by
      intro d
      induction d with
      | zero=>intro _; exact hI
      | succ d ihd=>intro h; exact skip (k+d) t (by omega) (x4 _ (by omega) (by omega)) (ihd (by omega))
     have h:=this (x - k) (by omega)
     rwa [show k+(x - k)=x by omega] at h
    obtain ⟨N,rfl⟩:∃M,N=M+1:=⟨N - 1,by omega⟩
    obtain ⟨a1,a2,a3⟩:=rest_msk (n:=n) (v:=x) (p:=fun i=>p i && decide (k≤i)) hn x2 (by simp [x1,x3]) (fun i hi=>by
     by_cases h:k≤i
     ·rw [x4 i h hi]; rfl
     ·simp [h])
    have e:msk n (fun i=>(p i && decide (k≤i)) && !decide (x=i))=msk n fun i=>p i && decide (x+1≤i):=msk_congr fun i hi=>by
     by_cases h:x+1≤i
     ·have h2:¬ x=i:=by omega
      have h3:k≤i:=by omega
      simp [h,h2,h3]
     ·by_cases h2:x=i
      ·subst h2; simp
      ·by_cases h3:k≤i
       ·rw [x4 i h3 (by omega)]; simp
       ·simp [h,h3]
    rw [e] at a3
    rcases step x t _ _ x2 x3 hIx a1 a2 a3 with ⟨t',b1,b2⟩ | ⟨r,b1,b2⟩
    ·simp only [whileN,b1]
     exact ih (n - (x+1)) (by omega) N (x+1) t' (by omega) (by omega) b2
    ·simp only [whileN,b1]
     exact ⟨r,rfl,b2⟩
   ·have hno:∀i,k≤i→i < n→p i=false:=fun i a b=>by
     rw [Bool.eq_false_iff]; exact fun h=>hx ⟨i,a,b,h⟩
    have e:msk n (fun i=>p i && decide (k≤i))=0:=by
     have:msk n (fun _=>false)=0:=(msk_eq (by have:=Nat.two_pow_pos n; omega) fun i _=>by simp).symm
     rw [←this]
     exact msk_congr fun i hi=>by
      by_cases h:k≤i
      ·rw [hno i h hi]; rfl
      ·simp [h]
    have hIn:I n t:=by
     have:∀d,k+d≤n→I (k+d) t:=by
      intro d
      induction d with
      | zero=>intro _; exact hI
      | succ d ihd=>intro h; exact skip (k+d) t (by omega) (hno _ (by omega) (by omega)) (ihd (by omega))
     have h:=this (n - k) (by omega)
     rwa [show k+(n - k)=n by omega] at h
    obtain ⟨N,rfl⟩:∃M,N=M+1:=⟨N - 1,by omega⟩
    rw [e]
    obtain ⟨r,b1,b2⟩:=done t hIn
    refine ⟨r,?_,b2⟩
    show whileN (N+1) body (mkS 0 t)=_
    simp only [whileN,b1]
 have h:=key n fuel 0 t0 (by omega) (by show n < 1152921504606846976; omega) h0
 have e:msk n (fun i=>p i && decide (0≤i))=msk n p:=msk_congr fun i _=>by simp
 rwa [e] at h
def elim (A:Gr) (v:Nat):Gr:=fun u w=>(A u w || (A v u && A v w && !decide (u=w))) && !decide (u=v) && !decide (w=v)
theorem elim_good {n:Nat} {A:Gr} (h:Good n A) (v:Nat):Good n (elim A v):=by
 refine ⟨fun u w=>?_,fun u=>?_,fun u w h1=>?_⟩
 ·unfold elim
  rw [h.sym u w]
  by_cases e:u=w
  ·subst e; rfl
  ·have e2:¬ w=u:=fun h=>e h.symm
   simp only [decide_eq_false e,decide_eq_false e2]
   cases A v u <;> cases A v w <;> cases A w u <;> cases (decide (u=v)) <;> cases (decide (w=v)) <;> rfl
 ·unfold elim; rw [h.irr]; simp
 ·unfold elim at h1
  simp only [Bool.and_eq_true,Bool.or_eq_true] at h1
  rcases h1.1.1 with h2 | h2
  ·exact h.lt _ _ h2
  ·exact h.lt _ v (by rw [h.sym]; exact h2.1.1)
def missA (n:Nat) (A:Gr) (v a:Nat):List (Nat × Nat):=((List.range n).filter fun b=>decide (a < b) && (A v a && A v b && !A a b)).map fun b=>(a,b)
def miss (n:Nat) (A:Gr) (v:Nat):List (Nat × Nat):=(List.range n).flatMap (missA n A v)
def pI (p:Nat × Nat):Int × Int:=((p.1:Int),(p.2:Int))
theorem range_filter_succ (k:Nat) (p:Nat → Bool):(List.range (k+1)).filter p=(List.range k).filter p++if p k then [k] else []:=by
 rw [List.range_succ,List.filter_append]
 congr 1
 cases h:p k <;> simp [h]
theorem filter_len (k:Nat) (p:Nat → Bool):((List.range k).filter p).length≤k:=by
 have:=List.length_filter_le p (List.range k)
 simpa using this
theorem nat_ge (k:Nat):(0:Int)≤(k:Int):=Int.natCast_nonneg k
theorem remove_spec {n:Nat} {A:Gr} {L:Nat → Bool} {v:Nat} (hn:n≤10) (hv:v < n) (hL:∀u w,u < n→A u w=true→L u=true) (hA:∀u,u < n→A u v=true→L u=true) :
  g_order_graph_remove_m0 (v:Int) ((msk n L:Nat):Int) (gl n A)=some (((msk n fun i=>L i && !decide (v=i):Nat):Int),gl n fun u w=>A u w && !decide (u=v) && !decide (w=v)):=by
 unfold g_order_graph_remove_m0
 rw [if_pos (nat_ge v),u_del hn (by omega)]
 obtain ⟨r,h1,h2⟩:=mem_loop hn (fun R t=>(R,t)) (body:=g_order_graph_remove_m0_b0 (v:Int)) (fun k t=>t=gl n fun u w=>A u w && !(decide (u < k) && L u && !decide (v=u) && decide (w=v))) (fun r=>r=gl n fun u w=>A u w && !(L u && !decide (v=u) && decide (w=v))) (fun i=>L i && !decide (v=i))
  (fun x t R R' hx hp hI c1 c2 c3=>.inl (by
   subst hI
   refine ⟨_,?_,rfl⟩
   unfold g_order_graph_remove_m0_b0
   simp only [c1,if_true,c2,Option.bind_some,gl_at hx,if_pos (nat_ge v),c3,u_del hn (show v < 64 by omega),gl_set]
   congr 3
   refine gl_congr fun u w hu hw=>?_
   unfold upd
   simp only [Bool.and_eq_true] at hp
   clear c1 c2 c3
   grind))
  (fun x t hx hp hI=>by
   rw [hI]
   refine gl_congr fun u w hu hw=>?_
   by_cases e:u=x
   ·subst e
    have:(L u && !decide (v=u))=false:=hp
    have e2:decide (u < u+1)=true:=by simp
    rw [e2]
    cases hh:L u
    ·simp
    ·rw [hh] at this; simp at this; simp [this]
   ·have:decide (u < x+1)=decide (u < x):=by by_cases h:u < x <;> simp [h] <;> omega
    rw [this])
  (fun t hI=>⟨t,by unfold g_order_graph_remove_m0_b0; simp,hI.trans (gl_congr fun u w hu hw=>by simp [hu])⟩)
  (gl n A) (gl_congr fun u w _ _=>by simp)
 rw [h1]
 subst h2
 simp only [Option.bind_some,gl_at hv]
 have e0:(0:Int)=((msk n fun _=>false:Nat):Int):=by
  have:msk n (fun _=>false)=0:=(msk_eq (by have:=Nat.two_pow_pos n; omega) fun i _=>by simp).symm
  rw [this]; rfl
 rw [e0,gl_set]
 congr 2
 refine gl_congr fun u w hu hw=>?_
 unfold upd
 by_cases e:u=v
 ·subst e; simp
 ·rw [if_neg e]
  grind
end Go.Ab
namespace Go.Ab
open Go
set_option maxRecDepth 100000
set_option maxHeartbeats 400000
theorem sub_mask {a:Nat} (ha:a < 63):IntKind.u64.wrap ((IntKind.u64.wrap (1*2^min (Int.toNat (IntKind.i64.wrap ((a:Int)+1))) (IntKind.bits .u64))) - 1)=((2^(a+1) - 1:Nat):Int):=by
 rw [w64 (by omega),show (a:Int)+1=((a+1:Nat):Int) by omega,u_sh (by omega)]
 have h1:=pow64 (v:=a+1) (by omega)
 have h2:=Nat.two_pow_pos (a+1)
 rw [show ((2^(a+1):Nat):Int) - 1=((2^(a+1) - 1:Nat):Int) by omega,u64_nat (by omega)]
theorem miss_len (n:Nat) (A:Gr) (v:Nat) (k:Nat):((List.range k).flatMap (missA n A v)).length≤k*n:=by
 induction k with
 | zero=>simp
 | succ k ih =>
  rw [List.range_succ,List.flatMap_append,List.length_append,Nat.succ_mul]
  have:(([k]:List Nat).flatMap (missA n A v)).length≤n:=by
   simp only [List.flatMap_cons,List.flatMap_nil,List.append_nil,missA,List.length_map]
   exact filter_len n _
  omega
def joinTo (O:Gr) (p:Nat → Bool) (a k:Nat):Gr:=fun u w=>O u w || (decide (u=a) && decide (w < k) && p w) || (decide (w=a) && decide (u < k) && p u)
theorem elim_inner {n:Nat} {O:Gr} {p:Nat → Bool} {a:Nat} {f0:List (Nat × Nat)} (hn:n≤10) (ha:a < n) (hp:∀w,p w=true→¬ w=a) (hf:f0.length≤100) :
  whileN fuel (g_order_graph_eliminate_m0_b0 (a:Int)) (((msk n p:Nat):Int),gl n O,f0.map pI)=some (gl n (joinTo O p a n),(f0++((List.range n).filter p).map fun b=>(a,b)).map pI):=by
 obtain ⟨r,h1,h2⟩:=mem_loop hn (fun R (t:List Int × List (Int × Int))=>(R,t.1,t.2)) (body:=g_order_graph_eliminate_m0_b0 (a:Int))
  (fun k t=>t=(gl n (joinTo O p a k),(f0++((List.range k).filter p).map fun b=>(a,b)).map pI)) (fun r=>r=(gl n (joinTo O p a n),(f0++((List.range n).filter p).map fun b=>(a,b)).map pI)) p
  (fun x t R R' hx hpx hI c1 c2 c3=>.inl (by
   subst hI
   refine ⟨_,?_,rfl⟩
   have hxa:=hp x hpx
   have hl:((f0++((List.range x).filter p).map fun b=>(a,b)).map pI++([((a:Int),(x:Int))]:List (Int × Int))).length*16≤140737488355328:=by
    have:=filter_len x p
    simp only [List.length_append,List.length_map,List.length_cons,List.length_nil]
    omega
   unfold g_order_graph_eliminate_m0_b0
   simp only [c1,if_true,c2,Option.bind_some,if_pos hl,gl_at ha,if_pos (nat_ge x),u_ins hn hx,gl_set,gl_at hx,if_pos (nat_ge a),c3]
   have e1:upd (joinTo O p a x) a (fun i=>joinTo O p a x a i || decide (x=i)) x=joinTo O p a x x:=upd_ne hxa
   rw [e1,u_ins hn ha,gl_set]
   congr 3
   congr 1
   ·refine gl_congr fun u w hu hw=>?_
    simp only [upd,joinTo]
    grind (splits:=30)
   ·rw [range_filter_succ,if_pos hpx]
    simp [pI]))
  (fun x t hx hpx hI=>by
   rw [hI]
   congr 1
   ·refine gl_congr fun u w hu hw=>?_
    simp only [joinTo]
    grind
   ·rw [range_filter_succ,hpx]
    simp)
  (fun t hI=>⟨_,by unfold g_order_graph_eliminate_m0_b0; simp,hI⟩)
  (gl n O,f0.map pI) (by rw [gl_congr (A:=O) (B:=joinTo O p a 0) fun u w _ _=>by simp [joinTo]]; simp)
 rw [h1,h2]
def joinUpTo (A:Gr) (v k:Nat):Gr:=fun u w=>A u w || (!decide (u=w) && A v u && A v w && (decide (u < k) || decide (w < k)))
theorem elim_loop {n:Nat} {A:Gr} {v:Nat} (hn:n≤10) (hG:Good n A) (hv:v < n) :
  whileN fuel (g_order_graph_eliminate_m0_b1 ((msk n (A v):Nat):Int)) (((msk n (A v):Nat):Int),gl n A,[])=some (gl n (joinUpTo A v n),(miss n A v).map pI):=by
 obtain ⟨r,h1,h2⟩:=mem_loop hn (fun R (t:List Int × List (Int × Int))=>(R,t.1,t.2)) (body:=g_order_graph_eliminate_m0_b1 ((msk n (A v):Nat):Int))
  (fun k t=>t=(gl n (joinUpTo A v k),((List.range k).flatMap (missA n A v)).map pI)) (fun r=>r=(gl n (joinUpTo A v n),(miss n A v).map pI)) (A v)
  (fun x t R R' hx hpx hI c1 c2 c3=>.inl (by
   subst hI
   refine ⟨_,?_,rfl⟩
   unfold g_order_graph_eliminate_m0_b1
   have hw:(0:Int)≤IntKind.i64.wrap ((x:Int)+1):=by rw [w64 (by omega)]; omega
   simp only [c1,if_true,c2,Option.bind_some,gl_at hx,if_pos hw,sub_mask (show x < 63 by omega)]
   rw [u_diff (n:=n) (p:=A v) (q:=joinUpTo A v x x) (by omega) (msk_lt n _) (lt64 hn (msk_lt n _)) bitS bitS]
   rw [u_diff (n:=n) (p:=fun i=>A v i && !joinUpTo A v x x i) (q:=fun i=>decide (i < x+1)) (by omega) (msk_lt n _) (by have:=pow64 (v:=x+1) (by omega); omega) bitS (fun i _=>Nat.testBit_two_pow_sub_one _ _)]
   have ep:(fun i=>(A v i && !joinUpTo A v x x i) && !decide (i < x+1))=fun b=>decide (x < b) && (A v x && A v b && !A x b):=by
    funext i
    simp only [joinUpTo]
    grind
   have hlen:=miss_len n A v x
   have hnn:x*n≤100:=Nat.le_trans (Nat.mul_le_mul (show x≤10 by omega) hn) (by omega)
   have hh:=elim_inner (n:=n) (O:=joinUpTo A v x) (p:=fun i=>(A v i && !joinUpTo A v x x i) && !decide (i < x+1)) (a:=x) (f0:=(List.range x).flatMap (missA n A v)) hn hx (fun w hw e=>by subst e; simp at hw) (by omega)
   rw [hh]
   simp only [Option.bind_some,c3]
   congr 3
   congr 1
   ·refine gl_congr fun u w hu hw=>?_
    have s1:=hG.sym u w
    have s2:=hG.irr x
    simp only [joinTo,joinUpTo]
    have s3:=hG.sym u x
    have s4:=hG.sym w x
    grind
   ·rw [List.range_succ,List.flatMap_append]
    simp only [List.flatMap_cons,List.flatMap_nil,List.append_nil,missA]
    rw [ep]))
  (fun x t hx hpx hI=>by
   rw [hI]
   congr 1
   ·refine gl_congr fun u w hu hw=>?_
    simp only [joinUpTo]
    grind
   ·rw [List.range_succ,List.flatMap_append]
    have:(([x]:List Nat).flatMap (missA n A v))=[]:=by
     simp only [List.flatMap_cons,List.flatMap_nil,List.append_nil,missA]
     rw [List.filter_eq_nil_iff.2 (fun b _=>by simp [hpx])]; rfl
    rw [this,List.append_nil])
  (fun t hI=>⟨_,by unfold g_order_graph_eliminate_m0_b1; simp,hI⟩)
  (gl n A,[]) (by rw [gl_congr (A:=A) (B:=joinUpTo A v 0) fun u w _ _=>by simp [joinUpTo]]; rfl)
 rw [h1,h2]
theorem eliminate_spec {n:Nat} {A:Gr} {L:Nat → Bool} {v:Nat} (hn:n≤10) (hG:Good n A) (hv:v < n) (hL:∀u w,A u w=true→L u=true) :
  g_order_graph_eliminate_m0 (v:Int) ((msk n L:Nat):Int) (gl n A)=some ((miss n A v).map pI,((msk n fun i=>L i && !decide (v=i):Nat):Int),gl n (elim A v)):=by
 unfold g_order_graph_eliminate_m0
 simp only [gl_at hv,Option.bind_some,elim_loop hn hG hv]
 have hL2:∀u w,joinUpTo A v n u w=true→L u=true:=fun u w h=>by
  unfold joinUpTo at h
  simp only [Bool.or_eq_true,Bool.and_eq_true] at h
  rcases h with h | h
  ·exact hL u w h
  ·exact hL u v (by rw [hG.sym]; exact h.1.1.2)
 rw [remove_spec hn hv (fun u w _=>hL2 u w) (fun u _=>hL2 u v)]
 simp only [Option.bind_some]
 congr 3
 refine gl_congr fun u w hu hw=>?_
 simp only [joinUpTo,elim]
 grind
end Go.Ab
namespace Go.Ab
open Go
set_option maxRecDepth 100000
set_option maxHeartbeats 400000
theorem i_succ {k:Nat} (h:k < 9223372036854775807):IntKind.i64.wrap ((k:Int)+1)=((k+1:Nat):Int):=by rw [w64 (by omega)]; omega
theorem rng_loop {τ ρ σ:Type} {n k0:Nat} (hk:k0≤n) (hn:n < 1152921504606846976) (mkS:Int→τ→σ) {body:σ→Option (Step σ ρ)} (I:Nat → τ→Prop) (Q:ρ→Prop)
  (step:∀(k:Nat) (t:τ),k0≤k→k < n→I k t→(∃t',body (mkS (k:Int) t)=some (.next (mkS (IntKind.i64.wrap ((k:Int)+1)) t'))∧I (k+1) t')∨(∃r,body (mkS (k:Int) t)=some (.done r)∧Q r))
  (done:∀t,I n t→∃r,body (mkS (n:Int) t)=some (.done r)∧Q r) (t0:τ) (h0:I k0 t0):∃r,whileN fuel body (mkS (k0:Int) t0)=some r∧Q r:=by
 have key:∀(j N k:Nat) (t:τ),k+j=n→k0≤k→j < N→I k t→∃r,whileN N body (mkS (k:Int) t)=some r∧Q r:=by
  intro j
  induction j with
  | zero =>
   intro N k t e hk hN hI
   obtain ⟨N,rfl⟩:∃M,N=M+1:=⟨N - 1,by omega⟩
   have:k=n:=by omega
   subst this
   obtain ⟨r,b1,b2⟩:=done t hI
   simp only [whileN,b1]
   exact ⟨r,rfl,b2⟩
  | succ j ih =>
   intro N k t e hk hN hI
   obtain ⟨N,rfl⟩:∃M,N=M+1:=⟨N - 1,by omega⟩
   rcases step k t hk (by omega) hI with ⟨t',b1,b2⟩ | ⟨r,b1,b2⟩
   ·rw [i_succ (by omega)] at b1
    simp only [whileN,b1]
    exact ih N (k+1) t' (by omega) (by omega) (by omega) b2
   ·simp only [whileN,b1]
    exact ⟨r,rfl,b2⟩
 exact key (n - k0) fuel k0 t0 (by omega) (Nat.le_refl _) (by show n - k0 < 1152921504606846976; omega) h0
theorem rng_run {τ ρ σ:Type} {n k0:Nat} (hk:k0≤n) (hn:n < 1152921504606846976) (mkS:Int→τ→σ) {body:σ→Option (Step σ ρ)} (T:Nat → τ) (r:ρ)
  (step:∀(k:Nat),k0≤k→k < n→body (mkS (k:Int) (T k))=some (.next (mkS (IntKind.i64.wrap ((k:Int)+1)) (T (k+1)))))
  (done:body (mkS (n:Int) (T n))=some (.done r)):whileN fuel body (mkS (k0:Int) (T k0))=some r:=by
 obtain ⟨r',h1,h2⟩:=rng_loop hk hn mkS (body:=body) (fun k t=>t=T k) (fun x=>x=r) (fun k t a b c=>.inl ⟨T (k+1),by rw [c]; exact step k a b,rfl⟩) (fun t h=>⟨r,by rw [h]; exact done,rfl⟩) (T k0) rfl
 rw [h1,h2]
theorem dlt {k n:Nat} (h:k < n):decide ((k:Int) < (n:Int))=true:=decide_eq_true (by omega)
theorem nlt (n:Nat):¬ (decide ((n:Int) < (n:Int))=true):=by simp
def joinL (A:Gr):List (Nat × Nat)→Gr
 | []=>A
 | (a,b)::l=>joinL (fun u w=>A u w || (decide (u=a) && decide (w=b)) || (decide (u=b) && decide (w=a))) l
theorem joinL_snoc (A:Gr):∀(l:List (Nat × Nat)) (a b:Nat),joinL A (l++[(a,b)])=fun u w=>joinL A l u w || (decide (u=a) && decide (w=b)) || (decide (u=b) && decide (w=a))
 | [],a,b=>rfl
 | (c,d)::l,a,b=>by simp only [List.cons_append,joinL]; exact joinL_snoc _ l a b
theorem joinL_iff (A:Gr):∀(l:List (Nat × Nat)) (u w:Nat),joinL A l u w=true↔A u w=true∨(u,w)∈l∨(w,u)∈l
 | [],u,w=>by simp [joinL]
 | (a,b)::l,u,w=>by
  simp only [joinL]
  rw [joinL_iff]
  simp only [Bool.or_eq_true,Bool.and_eq_true,decide_eq_true_eq,List.mem_cons,Prod.mk.injEq]
  grind
theorem refCopy {l:List Int} (h:l.length≤1000):g_ref08_Copy l=some l:=by unfold g_ref08_Copy; rw [if_pos (by omega)]
theorem refJoin {n:Nat} {A:Gr} {l:List (Nat × Nat)} (hn:n≤10) (hl:∀p∈l,p.1 < n∧p.2 < n∧p.1≠p.2) (hlen:l.length≤1000):g_ref08_Join (gl n A) (l.map pI)=some (gl n (joinL A l)):=by
 unfold g_ref08_Join
 rw [refCopy (by rw [gl_len]; omega),Option.bind_some]
 have h:=rng_run (n:=l.length) (k0:=0) (by omega) (by omega) (fun i (t:List Int)=>(i,t)) (body:=g_ref08_Join_b0 (l.map pI)) (fun k=>gl n (joinL A (l.take k))) (gl n (joinL A l))
  (fun k _ h2=>by
   obtain ⟨h3,h4,h5⟩:=hl _ (List.getElem_mem h2)
   have e:=List.take_succ_eq_append_getElem h2
   have ek:lkI (l.map pI) (k:Int)=some (pI l[k]):=by rw [lkI_nat (by simpa using h2)]; simp
   generalize l[k]=p at h3 h4 h5 e ek
   obtain ⟨a,b⟩:=p
   simp only at h3 h4 h5
   unfold g_ref08_Join_b0
   dsimp only
   rw [List.length_map,if_pos (dlt h2),ek,Option.bind_some]
   have ea:(pI (a,b)).1=(a:Int):=rfl
   have eb:(pI (a,b)).2=(b:Int):=rfl
   simp only [ea,eb,gl_at h3,Option.bind_some,u64_nat (show a < 18446744073709551616 by omega),u64_nat (show b < 18446744073709551616 by omega),if_pos (nat_ge a),if_pos (nat_ge b),u_ins hn h4,gl_set,gl_at h4]
   rw [upd_ne (fun h=>h5 h.symm),u_ins hn h3,gl_set]
   congr 3
   refine gl_congr fun u w hu hw=>?_
   rw [e,joinL_snoc]
   simp only [upd]
   grind)
  (by
   unfold g_ref08_Join_b0
   dsimp only
   rw [List.length_map,if_neg (nlt _),List.take_length])
 rw [show ((0:Nat):Int)=0 from rfl,List.take_zero] at h
 rw [show joinL A []=A from rfl] at h
 rw [h]; rfl
theorem missAll_len {n:Nat} (hn:n≤10) (A:Gr) (v:Nat):(miss n A v).length≤100 :=
 Nat.le_trans (miss_len n A v n) (Nat.le_trans (Nat.mul_le_mul hn hn) (by omega))
end Go.Ab
namespace Go.Ab
open Go
set_option maxRecDepth 100000
set_option maxHeartbeats 400000
def nI (l:List Nat):List Int:=l.map fun (k:Nat)=>(k:Int)
theorem nI_len (l:List Nat):(nI l).length=l.length:=by simp [nI]
theorem nI_at {l:List Nat} {k:Nat} (h:k < l.length):lkI (nI l) (k:Int)=some (l[k]:Int):=by rw [lkI_nat (by rwa [nI_len])]; simp [nI]
def seqA (A:Gr) (o:List Nat):Gr:=o.foldl elim A
theorem seqA_snoc (A:Gr) (o:List Nat) (v:Nat):seqA A (o++[v])=elim (seqA A o) v:=by simp [seqA]
theorem seqA_good {n:Nat}:∀{o:List Nat} {A:Gr},Good n A→Good n (seqA A o)
 | [],A,h=>h
 | v::o,A,h=>seqA_good (o:=o) (elim_good h v)
theorem elim_off {A:Gr} {v u w:Nat} (h:elim A v u w=true):¬ u=v∧¬ w=v:=by unfold elim at h; simp at h; exact ⟨h.1.2,h.2⟩
theorem elim_keep {A:Gr} {v x:Nat} (hs:∀w,A x w=false) (u:Nat) (hA:∀u w,A u w=A w u):elim A v x u=false:=by
 unfold elim
 rw [hs,hA v x,hs]; simp
theorem seqA_off {n:Nat}:∀{o:List Nat} {A:Gr} {x:Nat},Good n A→(x∈o∨∀w,A x w=false)→∀w,seqA A o x w=false
 | [],A,x,h,hx,w=>by rcases hx with hx | hx; cases hx; exact hx w
 | v::o,A,x,h,hx,w=>by
  refine seqA_off (o:=o) (elim_good h v) ?_ w
  rcases hx with hx | hx
  ·rcases List.mem_cons.1 hx with e | hx
   ·subst e
    right
    intro w
    rw [Bool.eq_false_iff]
    intro h1
    exact (elim_off h1).1 rfl
   ·exact .inl hx
  ·right
   intro w
   exact elim_keep hx w h.sym
def fillL (n:Nat):Gr→List Nat → List (Nat × Nat)
 | _,[]=>[]
 | A,v::o=>miss n A v++fillL n (elim A v) o
def widL (n:Nat):Gr→List Nat → Nat
 | _,[]=>0
 | A,v::o=>max (cnt n (A v)) (widL n (elim A v) o)
theorem fillL_snoc (n:Nat):∀(A:Gr) (o:List Nat) (v:Nat),fillL n A (o++[v])=fillL n A o++miss n (seqA A o) v
 | A,[],v=>by simp [fillL,seqA]
 | A,u::o,v=>by simp only [List.cons_append,fillL]; rw [fillL_snoc]; simp [seqA]
theorem widL_snoc (n:Nat):∀(A:Gr) (o:List Nat) (v:Nat),widL n A (o++[v])=max (widL n A o) (cnt n (seqA A o v))
 | A,[],v=>by simp [widL,seqA]
 | A,u::o,v=>by simp only [List.cons_append,widL]; rw [widL_snoc]; simp only [seqA,List.foldl_cons]; omega
theorem fillL_len {n:Nat} (hn:n≤10):∀(A:Gr) (o:List Nat),(fillL n A o).length≤100*o.length
 | A,[]=>by simp [fillL]
 | A,u::o=>by
  have h1:=fillL_len hn (elim A u) o
  have h2:=missAll_len hn A u
  simp only [fillL,List.length_append,List.length_cons]; omega
theorem clone_u {l:List Int} (h:l.length≤1000):g_slices_Clone_uint_uint l=some l:=by
 cases l with
 | nil=>rfl
 | cons a l=>unfold g_slices_Clone_uint_uint g_slices_Clone_uint_uint_c; dsimp only; rw [if_pos (by omega)]
theorem degree_spec {n:Nat} {A:Gr} {v:Nat} {L:Int} (hn:n≤10) (hv:v < n):g_order_graph_degree (Torder_graph.mk (Torder_neighbours.mk (gl n A)) L) (v:Int)=some (cnt n (A v):Int):=by
 unfold g_order_graph_degree
 simp only [gl_at hv,Option.bind_some,oc_msk hn]
theorem imax (a b:Nat):(if (a:Int) > (b:Int) then (a:Int) else (b:Int))=((max b a:Nat):Int):=by split <;> omega
theorem run_spec {n:Nat} {A:Gr} {o:List Nat} (hn:n≤10) (hG:Good n A) (ho:∀v∈o,v < n) (hl:o.length≤1000):g_order_run (gl n A) (nI o)=some ((fillL n A o).map pI,(widL n A o:Int)):=by
 unfold g_order_run
 rw [clone_u (by rw [gl_len]; omega),Option.bind_some,gl_len,if_pos (nat_ge n),u_all hn]
 have h:=rng_run (n:=o.length) (k0:=0) (by omega) (by omega) (fun i (t:Int × Int × List Int × List (Int × Int))=>(t.1,i,t.2)) (body:=g_order_run_b0 (nI o))
  (fun k=>((widL n A (o.take k):Int),((msk n fun i=>!(o.take k).contains i:Nat):Int),gl n (seqA A (o.take k)),(fillL n A (o.take k)).map pI)) ((widL n A o:Int),(fillL n A o).map pI)
  (fun k _ h2=>by
   have hv:=ho _ (List.getElem_mem h2)
   have e:=List.take_succ_eq_append_getElem h2
   have ek:=nI_at h2
   generalize o[k]=v at hv e ek
   have hG':Good n (seqA A (o.take k)):=seqA_good hG
   have hoff:∀u w,seqA A (o.take k) u w=true→(!(o.take k).contains u)=true:=fun u w h1=>by
    rw [Bool.not_eq_true',Bool.eq_false_iff]
    intro hm
    rw [seqA_off hG (.inl (by simpa using hm))] at h1; cases h1
   have hf:=fillL_len hn A (o.take k)
   have hm:=missAll_len hn (seqA A (o.take k)) v
   have hlen:((fillL n A (o.take k)).map pI++(miss n (seqA A (o.take k)) v).map pI).length*16≤140737488355328:=by
    have:(o.take k).length≤1000:=by rw [List.length_take]; omega
    simp only [List.length_append,List.length_map]; omega
   unfold g_order_run_b0
   dsimp only
   rw [nI_len,if_pos (dlt h2)]
   simp only [ek,Option.bind_some,degree_spec hn hv,eliminate_spec hn hG' hv hoff,if_pos hlen,imax]
   rw [e,widL_snoc,fillL_snoc,seqA_snoc]
   congr 4
   congr 1
   ·congr 1
    exact msk_congr fun i hi=>by
     rw [Bool.eq_iff_iff]
     simp
     grind
   ·rw [List.map_append])
  (by
   unfold g_order_run_b0
   dsimp only
   rw [nI_len,if_neg (nlt _),List.take_length])
 simp only [List.take_zero,fillL,widL,seqA,List.foldl_nil,List.map_nil] at h
 have e:(msk n fun i=>!([]:List Nat).contains i)=msk n fun _=>true:=msk_congr fun i _=>by simp
 rw [e,show ((0:Nat):Int)=0 from rfl] at h
 rw [h]; rfl
end Go.Ab
namespace Go.Ab
open Go
set_option maxRecDepth 100000
set_option maxHeartbeats 400000
structure Ord (n:Nat) (o:List Nat):Prop where
 len:o.length=n
 lt:∀v∈o,v < n
 nodup:o.Nodup
def okL (n:Nat) (l:List Int):Prop:=(∀x∈l,0≤x∧x < (n:Int))∧l.Nodup
theorem ord_okL {n:Nat} {o:List Nat} (h:Ord n o):okL n (nI o):=by
 refine ⟨fun x hx=>?_,?_⟩
 ·unfold nI at hx
  obtain ⟨v,hv,rfl⟩:=List.mem_map.1 hx
  have:=h.lt v hv; omega
 ·unfold nI
  rw [List.Nodup,List.pairwise_map]
  exact h.nodup.imp fun hne he=>hne (by omega)
theorem okL_take {n:Nat} {l:List Int} {k:Nat} (hk:k < l.length):okL n (l.take (k+1))↔okL n (l.take k)∧(0≤l[k]∧l[k] < (n:Int))∧l[k] ∉ l.take k:=by
 rw [List.take_succ_eq_append_getElem hk]
 unfold okL
 rw [List.nodup_append]
 simp only [List.mem_append,List.mem_singleton]
 constructor
 ·rintro ⟨h1,h2,h3,h4⟩
  exact ⟨⟨fun x hx=>h1 x (.inl hx),h2⟩,h1 _ (.inr rfl),fun h=>h4 _ h _ rfl rfl⟩
 ·rintro ⟨⟨h1,h2⟩,h3,h4⟩
  refine ⟨fun x hx=>?_,h2,by simp,fun a ha b hb e=>?_⟩
  ·rcases hx with hx | hx
   ·exact h1 x hx
   ·rw [hx]; exact h3
  ·subst hb; subst e; exact h4 ha
theorem not_okL_take {n:Nat} {l:List Int} {k:Nat} (h:¬ okL n (l.take k)):¬ okL n l:=fun h2=>h ⟨fun x hx=>h2.1 x (List.mem_of_mem_take hx),List.Nodup.sublist (List.take_sublist k l) h2.2⟩
theorem read_loop {n:Nat} {g l:List Int} (hn:n≤10) (hg:g.length=n) (hl:l.length≤1000) :
  ∃r,whileN fuel (g_order_read_b0 l g) (0,0)=some r∧((∃u,r=Sum.inl u∧¬ okL n l)∨(∃u,r=Sum.inr u∧okL n l)):=by
 have h:=rng_loop (n:=l.length) (k0:=0) (by omega) (by omega) (fun i (t:Int)=>(t,i)) (body:=g_order_read_b0 l g) (fun k t=>okL n (l.take k)∧t=((msk n fun i=>(l.take k).contains (i:Int):Nat):Int)) (fun r=>(∃u,r=Sum.inl u∧¬ okL n l)∨(∃u,r=Sum.inr u∧okL n l))
  (fun k t _ h2 hI=>by
   obtain ⟨hok,rfl⟩:=hI
   have hst:=okL_take (n:=n) h2
   have ek:=lkI_nat h2
   generalize l[k]=x at hst ek
   have bad:¬ okL n (l.take (k+1))→g_order_read_b0 l g (((msk n fun i=>(l.take k).contains (i:Int):Nat):Int),(k:Int))=some (.done (Sum.inl ()))→(∃t',g_order_read_b0 l g (((msk n fun i=>(l.take k).contains (i:Int):Nat):Int),(k:Int))=some (.next (t',IntKind.i64.wrap ((k:Int)+1)))∧okL n (l.take (k+1))∧t'=((msk n fun i=>(l.take (k+1)).contains (i:Int):Nat):Int))∨∃r,g_order_read_b0 l g (((msk n fun i=>(l.take k).contains (i:Int):Nat):Int),(k:Int))=some (.done r)∧((∃u,r=Sum.inl u∧¬ okL n l)∨(∃u,r=Sum.inr u∧okL n l)):=fun h h3=>.inr ⟨_,h3,.inl ⟨(),rfl,not_okL_take h⟩⟩
   by_cases c1:x < 0
   ·refine bad (fun h=>by have:=(hst.1 h).2.1; omega) ?_
    unfold g_order_read_b0
    dsimp only
    rw [if_pos (dlt h2),ek,Option.bind_some,if_pos (by simpa using c1)]
   ·by_cases c2:x≥(n:Int)
    ·refine bad (fun h=>by have:=(hst.1 h).2.1; omega) ?_
     unfold g_order_read_b0
     dsimp only
     rw [if_pos (dlt h2),ek,Option.bind_some,if_neg (by simpa using c1),hg,if_pos (by simpa using c2)]
    ·obtain ⟨v,rfl⟩:∃v:Nat,x=(v:Int):=⟨x.toNat,by omega⟩
     have hv:v < n:=by omega
     have hb:IntKind.u64.wrap (BitVec.ofInt (IntKind.bits .u64) (Int.fdiv ((msk n fun i=>(l.take k).contains (i:Int):Nat):Int) (2^min (Int.toNat (v:Int)) (IntKind.bits .u64))) &&& BitVec.ofInt (IntKind.bits .u64) 1).toNat = (((l.take k).contains (v:Int)).toNat : Int):=by
      rw [u_bit (lt64 hn (msk_lt n _)) (by omega),bitS v hv]
     by_cases c3:(l.take k).contains (v:Int)=true
     ·refine bad (fun h=>(hst.1 h).2.2 (by simpa using c3)) ?_
      unfold g_order_read_b0
      dsimp only
      rw [if_pos (dlt h2),ek,Option.bind_some,if_neg (by simpa using c1),hg,if_neg (by simpa using c2),if_pos (nat_ge v),hb,c3,if_pos (by rfl)]
     ·refine .inl ⟨_,?_,hst.2 ⟨hok,by omega,by simpa using c3⟩,rfl⟩
      unfold g_order_read_b0
      dsimp only
      rw [if_pos (dlt h2),ek,Option.bind_some,if_neg (by simpa using c1),hg,if_neg (by simpa using c2),if_pos (nat_ge v),hb,Bool.eq_false_iff.2 c3,if_neg (by decide),if_pos (nat_ge v),u_ins hn hv]
      congr 3
      congr 1
      refine msk_congr fun i hi=>?_
      have e:=List.take_succ_eq_append_getElem h2
      have e2:l[k]=(v:Int):=by
       have:=lkI_nat h2
       rw [ek] at this; exact (Option.some.inj this).symm
      rw [e,e2]
      rw [Bool.eq_iff_iff]
      simp
      grind)
  (fun t hI=>⟨_,by unfold g_order_read_b0; dsimp only; rw [if_neg (nlt _)],.inr ⟨(),rfl,by have:=hI.1; rwa [List.take_length] at this⟩⟩)
  0 ⟨⟨fun x hx=>by simp at hx,by simp⟩,by
   have:(msk n fun i=>([]:List Int).contains (i:Int))=0:=(msk_eq (by have:=Nat.two_pow_pos n; omega) fun i _=>by simp).symm
   rw [List.take_zero,this]; rfl⟩
 exact h
end Go.Ab
namespace Go.Ab
open Go
set_option maxRecDepth 100000
set_option maxHeartbeats 400000
def u64s (a:List Nat):Prop:=∀x∈a,x < 18446744073709551616
def okV (a:List Nat) (v:Nat):Prop:=(a.getD v 0) / 2^a.length=0∧(a.getD v 0).testBit v=false∧∀w,w < a.length→(a.getD v 0).testBit w=(a.getD w 0).testBit v
def okG (a:List Nat):Prop:=1≤a.length∧a.length≤10∧∀v,v < a.length→okV a v
theorem nI_getD {a:List Nat} {v:Nat} (h:v < a.length):lkI (nI a) (v:Int)=some ((a.getD v 0:Nat):Int):=by
 rw [nI_at h]; simp [h]
theorem u64s_at {a:List Nat} (h:u64s a) {v:Nat} (hv:v < a.length):a.getD v 0 < 18446744073709551616:=by
 have:a.getD v 0=a[v]:=by simp [hv]
 rw [this]; exact h _ (List.getElem_mem hv)
theorem bne_bit (x y:Bool):((x.toNat : Int) != (y.toNat : Int))=(x != y):=by cases x <;> cases y <;> rfl
theorem beq_bit (x:Bool):((x.toNat : Int)==1)=x:=by cases x <;> rfl
theorem fdiv_n {a n:Nat} (hn:n≤10):Int.fdiv (a:Int) (2^min (Int.toNat (n:Int)) (IntKind.bits .u64))=((a / 2^n:Nat):Int):=by
 have hb:IntKind.bits .u64=64:=rfl
 rw [hb,Int.toNat_natCast,Nat.min_eq_left (by omega),fdiv_pow]
theorem nz_ne {q:Nat} (h:¬ q=0):((q:Int) != 0)=true:=by simp; omega
theorem check_row {a:List Nat} (ha:u64s a) (hn:a.length≤10) {v:Nat} (hv:v < a.length) :
  ∃r,whileN fuel (g_order_Check_b0 (nI a) (v:Int) ((a.getD v 0:Nat):Int)) 0=some r∧((∃u,r=Sum.inl u∧¬ ∀w,w < a.length→(a.getD v 0).testBit w=(a.getD w 0).testBit v)∨(∃u,r=Sum.inr u∧∀w,w < a.length→(a.getD v 0).testBit w=(a.getD w 0).testBit v)):=by
 exact rng_loop (n:=a.length) (k0:=0) (by omega) (by omega) (fun i (t:Unit)=>i) (body:=g_order_Check_b0 (nI a) (v:Int) ((a.getD v 0:Nat):Int)) (fun k t=>∀w,w < k→(a.getD v 0).testBit w=(a.getD w 0).testBit v) (fun r=>(∃u,r=Sum.inl u∧¬ ∀w,w < a.length→(a.getD v 0).testBit w=(a.getD w 0).testBit v)∨(∃u,r=Sum.inr u∧∀w,w < a.length→(a.getD v 0).testBit w=(a.getD w 0).testBit v))
  (fun k t _ h2 hI=>by
   have hb:g_order_Check_b0 (nI a) (v:Int) ((a.getD v 0:Nat):Int) (k:Int)=if ((a.getD v 0).testBit k != (a.getD k 0).testBit v)=true then some (.done (Sum.inl ())) else some (.next (IntKind.i64.wrap ((k:Int)+1))):=by
    unfold g_order_Check_b0
    rw [nI_len,if_pos (dlt h2),if_pos (nat_ge k),nI_getD h2,Option.bind_some,if_pos (nat_ge v),u_bit (u64s_at ha hv) (by omega),u_bit (u64s_at ha h2) (by omega),bne_bit]
   by_cases c:(a.getD v 0).testBit k=(a.getD k 0).testBit v
   ·refine .inl ⟨(),?_,fun w hw=>?_⟩
    ·rw [hb,if_neg (by simpa using c)]
    ·rcases Nat.lt_succ_iff_lt_or_eq.1 hw with h | h
     ·exact hI w h
     ·rw [h]; exact c
   ·refine .inr ⟨_,by rw [hb,if_pos (by simpa using c)],.inl ⟨(),rfl,fun h=>c (h k h2)⟩⟩)
  (fun t hI=>⟨_,by unfold g_order_Check_b0; rw [nI_len,if_neg (nlt _)],.inr ⟨(),rfl,hI⟩⟩) () (fun w hw=>by omega)
theorem check_spec {a:List Nat} (ha:u64s a):(g_order_Check (nI a)=some 0∧okG a)∨(g_order_Check (nI a)=some 80∧¬ okG a):=by
 unfold g_order_Check
 rw [nI_len]
 by_cases h1:a.length < 1
 ·right
  rw [if_pos (by simp; omega)]
  exact ⟨rfl,fun h=>by have:=h.1; omega⟩
 by_cases h2:a.length > 10
 ·right
  rw [if_neg (by simp; omega),if_pos (by simp; omega)]
  exact ⟨rfl,fun h=>by have:=h.2.1; omega⟩
 rw [if_neg (by simp; omega),if_neg (by simp; omega)]
 obtain ⟨r,e,hr⟩:=rng_loop (n:=a.length) (k0:=0) (by omega) (by omega) (fun i (t:Unit)=>i) (body:=g_order_Check_b1 (nI a)) (fun k t=>∀v,v < k→okV a v) (fun r=>(∃u,r=Sum.inl u∧¬ ∀v,v < a.length→okV a v)∨(∃u,r=Sum.inr u∧∀v,v < a.length→okV a v))
  (fun k t _ h3 hI=>by
   unfold g_order_Check_b1
   rw [nI_len,if_pos (dlt h3),nI_getD h3,Option.bind_some,if_pos (nat_ge _),fdiv_n (by omega)]
   by_cases c1:(a.getD k 0) / 2^a.length=0
   ·rw [c1,if_neg (by simp),if_pos (nat_ge k),u_bit (u64s_at ha h3) (by omega),beq_bit]
    by_cases c2:(a.getD k 0).testBit k=true
    ·refine .inr ⟨_,by rw [if_pos c2],.inl ⟨(),rfl,fun h=>?_⟩⟩
     have:=(h k h3).2.1
     rw [c2] at this; cases this
    ·rw [if_neg c2]
     obtain ⟨r,e,hr⟩:=check_row ha (by omega) h3
     rw [e,Option.bind_some]
     rcases hr with ⟨u,rfl,hr⟩ | ⟨u,rfl,hr⟩
     ·exact .inr ⟨_,rfl,.inl ⟨(),rfl,fun h=>hr (h k h3).2.2⟩⟩
     ·refine .inl ⟨(),rfl,fun w hw=>?_⟩
      rcases Nat.lt_succ_iff_lt_or_eq.1 hw with h | h
      ·exact hI w h
      ·rw [h]; exact ⟨c1,by simpa using c2,hr⟩
   ·refine .inr ⟨_,by rw [if_pos (nz_ne c1)],.inl ⟨(),rfl,fun h=>c1 (h k h3).1⟩⟩)
  (fun t hI=>⟨_,by unfold g_order_Check_b1; rw [nI_len,if_neg (nlt _)],.inr ⟨(),rfl,hI⟩⟩) () (fun w hw=>by omega)
 rw [show ((0:Nat):Int)=0 from rfl] at e
 rw [e,Option.bind_some]
 rcases hr with ⟨u,rfl,hr⟩ | ⟨u,rfl,hr⟩
 ·exact .inr ⟨rfl,fun h=>hr h.2.2⟩
 ·exact .inl ⟨rfl,by omega,by omega,hr⟩
theorem gl_nI (n:Nat) (A:Gr):gl n A=nI ((List.range n).map fun v=>msk n (A v)):=by unfold gl nI; rw [List.map_map]; rfl
theorem gl_u64s {n:Nat} (hn:n≤10) (A:Gr):u64s ((List.range n).map fun v=>msk n (A v)):=fun x hx=>by
 obtain ⟨v,_,rfl⟩:=List.mem_map.1 hx
 exact lt64 hn (msk_lt n _)
theorem good_okG {n:Nat} {A:Gr} (h1:1≤n) (hn:n≤10) (hG:Good n A):okG ((List.range n).map fun v=>msk n (A v)):=by
 have hl:((List.range n).map fun v=>msk n (A v)).length=n:=by simp
 have at':∀v,v < n→((List.range n).map fun v=>msk n (A v)).getD v 0=msk n (A v):=fun v hv=>by simp [hv]
 refine ⟨by omega,by omega,fun v hv=>?_⟩
 rw [hl] at hv
 unfold okV
 rw [hl,at' v hv]
 refine ⟨Nat.div_eq_of_lt (msk_lt n _),by rw [bitS v hv,hG.irr],fun w hw=>?_⟩
 rw [at' w hw,bitS w hw,bitS v hv,hG.sym]
theorem check_gl {n:Nat} {A:Gr} (h1:1≤n) (hn:n≤10) (hG:Good n A):g_order_Check (gl n A)=some 0:=by
 rw [gl_nI]
 rcases check_spec (gl_u64s hn A) with h | h
 ·exact h.1
 ·exact absurd (good_okG h1 hn hG) h.2
theorem read_ord {n:Nat} {A:Gr} {o:List Nat} (h1:1≤n) (hn:n≤10) (hG:Good n A) (ho:Ord n o):g_order_read (gl n A) (nI o)=some 0:=by
 unfold g_order_read
 rw [check_gl h1 hn hG,Option.bind_some,if_neg (by decide),nI_len,gl_len,ho.len,if_neg (by simp)]
 obtain ⟨r,e,hr⟩:=read_loop hn (gl_len n A) (l:=nI o) (by rw [nI_len,ho.len]; omega)
 rw [e,Option.bind_some]
 rcases hr with ⟨u,rfl,hr⟩ | ⟨u,rfl,hr⟩
 ·exact absurd (ord_okL ho) hr
 ·rfl
theorem Width_ord {n:Nat} {A:Gr} {o:List Nat} (h1:1≤n) (hn:n≤10) (hG:Good n A) (ho:Ord n o):g_order_Width (gl n A) (nI o)=some ((widL n A o:Int),0):=by
 have hl:o.length≤1000:=by rw [ho.len]; omega
 unfold g_order_Width
 rw [read_ord h1 hn hG ho,Option.bind_some,if_neg (by decide),run_spec hn hG ho.lt hl]; rfl
end Go.Ab
namespace Go.Ab
open Go
set_option maxRecDepth 100000
set_option maxHeartbeats 400000
theorem wf_u8 {n:Int} (h:(Lit.int .u8 n).wf=true):0≤n∧n≤255:=by
 simpa [Lit.wf,IntKind.min,IntKind.max,IntKind.bits,IntKind.signed] using h
theorem join_good {n a b:Nat} {A:Gr} (hG:Good n A) (ha:a < n) (hb:b < n) (hne:a≠b):Good n (joinL A [(a,b)]):=by
 have key:=joinL_iff A [(a,b)]
 refine ⟨fun u w=>?_,fun u=>?_,fun u w h=>?_⟩
 ·rw [Bool.eq_iff_iff,key,key,hG.sym u w]; grind
 ·rw [Bool.eq_false_iff]; intro h
  rw [key,hG.irr] at h
  simp at h
  omega
 ·rw [key] at h
  rcases h with h | h | h
  ·exact hG.lt u w h
  ·simp at h; omega
  ·simp at h; omega
theorem good_empty (n:Nat):Good n (fun _ _=>false):=⟨fun _ _=>rfl,fun _=>rfl,fun _ _ h=>by cases h⟩
theorem gl_zero (n:Nat):List.replicate n (0:Int)=gl n fun _ _=>false:=by
 apply List.ext_getElem?
 intro v
 by_cases hv:v < n
 ·rw [gl_get hv]
  have:msk n (fun _=>false)=0:=(msk_eq (by have:=Nat.two_pow_pos n; omega) fun i _=>by simp).symm
  rw [this]; simp [hv]
 ·rw [List.getElem?_eq_none (by simp; omega),List.getElem?_eq_none (by rw [gl_len]; omega)]
def dN (d:Tharuspexref08_Draft):Nat := 1+(d.N % 7).toNat
theorem dN_eq {d:Tharuspexref08_Draft} (h:okTharuspexref08_Draft d):IntKind.i64.wrap (1+IntKind.i64.wrap (Int.tmod d.N 7))=(dN d:Int)∧1≤dN d∧dN d≤7:=by
 have h0:=wf_u8 h.1
 rw [tmod_pos h0.1]
 unfold dN
 rw [w64 (n:=d.N % 7) (by omega),w64 (by omega)]
 omega
theorem mod_nat {x:Int} {n:Nat} (h:0≤x∧x≤255) (hn:1≤n):∃a:Nat,Int.tmod (IntKind.i64.wrap x) (n:Int)=(a:Int)∧a < n:=by
 rw [w64 (by omega),tmod_pos h.1]
 refine ⟨(x % n).toNat,?_,?_⟩
 ·have:=Int.emod_nonneg x (b:=(n:Int)) (by omega); omega
 ·have h1:=Int.emod_nonneg x (b:=(n:Int)) (by omega)
  have h2:=Int.emod_lt_of_pos x (b:=(n:Int)) (by omega)
  omega
theorem draft_graph {d:Tharuspexref08_Draft} (h:okTharuspexref08_Draft d):∃A,Good (dN d) A∧g_ref08_Draft_Graph d=some (gl (dN d) A):=by
 obtain ⟨e,h1,h7⟩:=dN_eq h
 have hlen:=h.2.1.1
 unfold g_ref08_Draft_Graph
 rw [e,if_pos (by omega),Int.toNat_natCast,gl_zero]
 obtain ⟨r,e1,A,hG,rfl⟩:=rng_loop (n:=min d.E.length 30) (k0:=0) (by omega) (by omega) (fun i (t:List Int)=>(i,t)) (body:=g_ref08_Draft_Graph_b0 d) (fun k t=>∃A,Good (dN d) A∧t=gl (dN d) A) (fun r=>∃A,Good (dN d) A∧r=gl (dN d) A)
  (fun k t _ h2 hI=>by
   obtain ⟨A,hG,rfl⟩:=hI
   have h2':k < d.E.length:=by omega
   have hm:=h.2.1.2 _ (List.getElem_mem h2')
   have ek:=lkI_nat h2'
   generalize d.E[k]=p at hm ek
   unfold g_ref08_Draft_Graph_b0
   dsimp only
   rw [if_pos (dlt h2')]
   by_cases c:(k:Int) < 30
   ·rw [if_pos (by simpa using c),ek,Option.bind_some,e,if_pos (by omega),if_pos (by omega)]
    obtain ⟨a,ea,ha⟩:=mod_nat (n:=dN d) (wf_u8 hm.1) h1
    obtain ⟨b,eb,hb⟩:=mod_nat (n:=dN d) (wf_u8 hm.2) h1
    rw [ea,eb]
    by_cases hab:a=b
    ·subst hab
     exact .inl ⟨_,by rw [if_neg (by simp)],A,hG,rfl⟩
    ·have hj:=refJoin (n:=dN d) (A:=A) (l:=[(a,b)]) (by omega) (fun p hp=>by simp at hp; subst hp; exact ⟨ha,hb,hab⟩) (by simp)
     have e3:([(a,b)]:List (Nat × Nat)).map pI=[((a:Int),(b:Int))]:=rfl
     rw [e3] at hj
     exact .inl ⟨_,by rw [if_pos (by simp; omega),hj]; rfl,_,join_good hG ha hb hab,rfl⟩
   ·exact .inr ⟨_,by rw [if_neg (by simpa using c)],A,hG,rfl⟩)
  (fun t hI=>by
   obtain ⟨A,hG,rfl⟩:=hI
   refine ⟨_,?_,A,hG,rfl⟩
   unfold g_ref08_Draft_Graph_b0
   dsimp only
   by_cases c:d.E.length≤30
   ·rw [Nat.min_eq_left c,if_neg (nlt _)]
   ·rw [Nat.min_eq_right (by omega),if_pos (by simp; omega),if_neg (by simp)])
  (gl (dN d) fun _ _=>false) ⟨_,good_empty _,rfl⟩
 rw [show ((0:Nat):Int)=0 from rfl] at e1
 exact ⟨A,hG,by rw [e1]; rfl⟩
end Go.Ab
namespace Go.Ab
open Go
set_option maxRecDepth 100000
set_option maxHeartbeats 400000
theorem works_true:g_law08_works=some true:=by kernel_rfl
end Go.Ab
namespace Go.Ab
open Go
set_option maxRecDepth 100000
set_option maxHeartbeats 400000
theorem cnt_all (n:Nat):cnt n (fun _=>true)=n:=by
 induction n with
 | zero=>rfl
 | succ n ih=>simp only [cnt]; rw [ih]; rfl
theorem msk_ne {n:Nat} {L:Nat → Bool} {k:Nat} (h:cnt n L=k+1):(((msk n L:Nat):Int) != 0)=true:=by
 have:msk n L≠0:=fun e=>by
  have:∀i,i < n→L i=false:=fun i hi=>by
   have h2:=bitS (p:=L) i hi
   rw [e] at h2; simpa using h2.symm
  have:=cnt_zero this; omega
 simp; omega
theorem msk_zero {n:Nat} {L:Nat → Bool} (h:cnt n L=0):msk n L=0:=by
 refine (msk_eq (by have:=Nat.two_pow_pos n; omega) fun i hi=>?_).symm
 have:L i=false:=by
  rw [Bool.eq_false_iff]; intro hh
  have:=cnt_pos hi hh; omega
 rw [this]; simp
end Go.Ab
namespace Go.Ab
open Go
set_option maxRecDepth 100000
set_option maxHeartbeats 400000
inductive Via (A:Gr) (R:Nat → Bool):Nat → Nat → Prop
 | one {v u:Nat} (h:A v u=true):Via A R v u
 | step {v x u:Nat} (h:A v x=true) (hx:R x=true) (k:Via A R x u):Via A R v u
theorem Via.trans {A:Gr} {R:Nat → Bool} {u v w:Nat} (h:Via A R u v) (hv:R v=true) (k:Via A R v w):Via A R u w:=by
 induction h with
 | one h=>exact .step h hv k
 | step h hx _ ih=>exact .step h hx (ih hv k)
theorem Via.symm {n:Nat} {A:Gr} {R:Nat → Bool} {u v:Nat} (hG:Good n A) (h:Via A R u v):Via A R v u:=by
 induction h with
 | one h=>exact .one (by rw [hG.sym]; exact h)
 | step h hx _ ih=>exact ih.trans hx (.one (by rw [hG.sym]; exact h))
theorem Via.mono {A:Gr} {R R':Nat → Bool} {u v:Nat} (h:Via A R u v) (hR:∀x,R x=true→(∃y,A x y=true)→R' x=true):Via A R' u v:=by
 induction h with
 | one h=>exact .one h
 | step h hx k ih =>
  refine .step h (hR _ hx ?_) ih
  cases k with
  | one h=>exact ⟨_,h⟩
  | step h _ _=>exact ⟨_,h⟩
theorem Via.lt {n:Nat} {A:Gr} {R:Nat → Bool} {u v:Nat} (hG:Good n A) (h:Via A R u v):u < n∧v < n:=by
 induction h with
 | one h=>exact ⟨hG.lt _ _ h,hG.lt _ _ (by rw [hG.sym]; exact h)⟩
 | step h _ _ ih=>exact ⟨hG.lt _ _ h,ih.2⟩
theorem via_more {A:Gr} {R R':Nat → Bool} {v:Nat} (hR:∀x,R' x=true→R x=true∨x=v) {u w:Nat} (h:Via A R' u w):Via A R u w∨(Via A R u v∧Via A R v w):=by
 induction h with
 | one h=>exact .inl (.one h)
 | step h hx _ ih =>
  rcases hR _ hx with e | e
  ·rcases ih with i | ⟨i,j⟩
   ·exact .inl (.step h e i)
   ·exact .inr ⟨.step h e i,j⟩
  ·subst e
   rcases ih with i | ⟨i,j⟩
   ·exact .inr ⟨.one h,i⟩
   ·exact .inr ⟨.one h,j⟩
open Classical in
noncomputable def Egr (A:Gr) (S:Nat → Bool):Gr:=fun u w=>S u && S w && !decide (u=w) && decide (Via A (fun i=>!S i) u w)
theorem Egr_iff {A:Gr} {S:Nat → Bool} {u w:Nat}:Egr A S u w=true↔S u=true∧S w=true∧u≠w∧Via A (fun i=>!S i) u w:=by
 unfold Egr
 simp only [Bool.and_eq_true,Bool.not_eq_true',decide_eq_false_iff_not,decide_eq_true_eq]
 constructor
 ·rintro ⟨⟨⟨a,b⟩,c⟩,d⟩; exact ⟨a,b,c,d⟩
 ·rintro ⟨a,b,c,d⟩; exact ⟨⟨⟨a,b⟩,c⟩,d⟩
theorem Egr_elim {n:Nat} {A:Gr} {S:Nat → Bool} {v:Nat} (hG:Good n A) (hv:S v=true):∀u w,elim (Egr A S) v u w=Egr A (fun i=>S i && !decide (v=i)) u w:=fun u w=>by
 rw [Bool.eq_iff_iff,Egr_iff]
 unfold elim
 simp only [Bool.and_eq_true,Bool.or_eq_true,Bool.not_eq_true',decide_eq_false_iff_not,Egr_iff]
 have hm:∀x:Nat,(fun i=>!S i) x=true→(∃y,A x y=true)→(fun i=>!(S i && !decide (v=i))) x=true:=fun x h _=>by
  simp only [Bool.not_eq_true'] at h
  simp [h]
 have hv':(fun i=>!(S i && !decide (v=i))) v=true:=by simp
 constructor
 ·rintro ⟨⟨h | ⟨⟨h1,h2⟩,h3⟩,h4⟩,h5⟩
  ·exact ⟨⟨h.1,fun e=>h4 e.symm⟩,⟨h.2.1,fun e=>h5 e.symm⟩,h.2.2.1,h.2.2.2.mono hm⟩
  ·exact ⟨⟨h1.2.1,fun e=>h4 e.symm⟩,⟨h2.2.1,fun e=>h5 e.symm⟩,h3,((h1.2.2.2.symm hG).mono hm).trans hv' (h2.2.2.2.mono hm)⟩
 ·rintro ⟨⟨a1,a2⟩,⟨b1,b2⟩,c,d⟩
  have hr:∀x:Nat,(fun i=>!(S i && !decide (v=i))) x=true→(fun i=>!S i) x=true∨x=v:=fun x h=>by
   by_cases e:v=x
   ·exact .inr e.symm
   ·simp only [Bool.not_eq_true',Bool.and_eq_false_iff,Bool.not_eq_false',decide_eq_true_eq] at h
    rcases h with h | h
    ·left; simp [h]
    ·exact absurd h e
  refine ⟨⟨?_,fun e=>a2 e.symm⟩,fun e=>b2 e.symm⟩
  rcases via_more hr d with h | ⟨h1,h2⟩
  ·exact .inl ⟨a1,b1,c,h⟩
  ·exact .inr ⟨⟨⟨hv,a1,a2,h1.symm hG⟩,⟨hv,b1,b2,h2⟩⟩,c⟩
noncomputable def lateN (n:Nat) (A:Gr) (S:Nat → Bool) (v:Nat):Nat := cnt n (Egr A S v)
theorem Egr_congr {n:Nat} {A:Gr} {S T:Nat → Bool} (hG:Good n A) (h:∀i,i < n→S i=T i):Egr A S=Egr A T:=by
 funext u w
 rw [Bool.eq_iff_iff,Egr_iff,Egr_iff]
 have key:∀(S T:Nat → Bool),(∀i,i < n→S i=T i)→S u=true∧S w=true∧u≠w∧Via A (fun i=>!S i) u w→T u=true∧T w=true∧u≠w∧Via A (fun i=>!T i) u w:=fun S T h=>by
  rintro ⟨a,b,c,d⟩
  obtain ⟨l1,l2⟩:=d.lt hG
  exact ⟨by rw [←h u l1]; exact a,by rw [←h w l2]; exact b,c,d.mono fun x hx ⟨y,hy⟩=>by
   show (!T x)=true
   rw [←h x (hG.lt x y hy)]; exact hx⟩
 exact ⟨key S T h,key T S fun i hi=>(h i hi).symm⟩
theorem late_spec {n:Nat} {A:Gr} {S:Nat → Bool} {v:Nat} (hn:n≤10) (hG:Good n A) (hv:v < n) (hS:S v=true) :
  g_order_late (gl n A) (v:Int) ((msk n fun i=>!S i:Nat):Int)=some (lateN n A S v:Int):=by
 unfold g_order_late
 rw [if_pos (nat_ge v),gl_at hv,Option.bind_some]
 have body:∀(D X:Nat → Bool) (x:Nat),x < n→X x=true→(∀i,i < x→X i=false)→g_order_late_b0 ((msk n fun i=>!S i:Nat):Int) (gl n A) (((msk n D:Nat):Int),((msk n fun i=>D i && (S i && !decide (v=i)):Nat):Int),((msk n X:Nat):Int)) =
   some (.next (((msk n fun i=>D i || decide (x=i):Nat):Int),((msk n fun i=>(D i && (S i && !decide (v=i))) || (S x && decide (x=i)):Nat):Int),((msk n fun i=>(X i && !decide (x=i)) || (!S x && (A x i && !(D i || decide (x=i)))):Nat):Int))):=fun D X x hx hX hl=>by
  obtain ⟨a1,a2,a3⟩:=rest_msk hn hx hX hl
  have hb:IntKind.u64.wrap (BitVec.ofInt (IntKind.bits .u64) (Int.fdiv ((msk n fun i=>!S i:Nat):Int) (2^min (Int.toNat (x:Int)) (IntKind.bits .u64))) &&& BitVec.ofInt (IntKind.bits .u64) 1).toNat = ((!S x).toNat : Int):=by
   rw [u_bit (lt64 hn (msk_lt n _)) (by omega),bitS x hx]
  unfold g_order_late_b0
  dsimp only
  rw [if_pos a1,a2,Option.bind_some,if_pos (nat_ge x),if_pos (nat_ge x),hb,u_ins hn hx,u_ins hn hx,a3,gl_at hx]
  cases hs:S x with
  | true =>
   rw [if_pos (by rfl),if_pos (nat_ge x)]
   simp only [Bool.true_and,Bool.not_true,Bool.false_and,Bool.or_false]
  | false =>
   rw [if_neg (by decide),Option.bind_some]
   rw [u_diff (n:=n) (p:=A x) (q:=fun i=>D i || decide (x=i)) (by omega) (msk_lt n _) (lt64 hn (msk_lt n _)) bitS bitS]
   rw [u_or (n:=n) (p:=fun i=>X i && !decide (x=i)) (q:=fun i=>A x i && !(D i || decide (x=i))) (by omega) (msk_lt n _) (msk_lt n _) bitS bitS]
   simp only [Bool.false_and,Bool.or_false,Bool.not_false,Bool.true_and]
 obtain ⟨r,h1,h2⟩:=whileN_ex (body:=g_order_late_b0 ((msk n fun i=>!S i:Nat):Int) (gl n A))
  (fun s=>∃D X:Nat → Bool,s=(((msk n D:Nat):Int),((msk n fun i=>D i && (S i && !decide (v=i)):Nat):Int),((msk n X:Nat):Int))∧D v=true∧(∀i,X i=true→D i=false)∧(∀i,X i=true→Via A (fun i=>!S i) v i)∧(∀i,D i=true→i≠v→Via A (fun i=>!S i) v i)∧(∀y i,D y=true→(y=v∨S y=false)→A y i=true→D i=true∨X i=true))
  (fun s=>cnt n fun i=>!(s.1.toNat.testBit i)) (fun r=>r=((msk n (Egr A S v):Nat):Int))
  (fun s hI=>by
   obtain ⟨D,X,rfl,d1,d2,d3,d4,d5⟩:=hI
   by_cases hX:∃i,i < n∧X i=true
   ·left
    obtain ⟨t1,t2,t3⟩:=tzN_spec n X hX
    generalize tzN n X=x at t1 t2 t3
    have hDx:=d2 x t2
    have hvx:=d3 x t2
    refine ⟨_,body D X x t1 t2 t3,⟨fun i=>D i || decide (x=i),fun i=>(X i && !decide (x=i)) || (!S x && (A x i && !(D i || decide (x=i)))),?_,by simp [d1],fun i hi=>?_,fun i hi=>?_,fun i hi hne=>?_,fun y i hy hyv hA=>?_⟩,?_⟩
    ·congr 1
     congr 1
     refine congrArg _ (msk_congr fun i _=>?_)
     have hxv:x≠v:=fun e=>by subst e; rw [d1] at hDx; cases hDx
     grind
    ·simp only [Bool.or_eq_true,Bool.and_eq_true,Bool.not_eq_true',decide_eq_false_iff_not,Bool.or_eq_false_iff] at hi
     rw [Bool.or_eq_false_iff,decide_eq_false_iff_not]
     rcases hi with hi | hi
     ·exact ⟨d2 i hi.1,hi.2⟩
     ·exact hi.2.2
    ·simp only [Bool.or_eq_true,Bool.and_eq_true,Bool.not_eq_true',decide_eq_false_iff_not,Bool.or_eq_false_iff] at hi
     rcases hi with hi | hi
     ·exact d3 i hi.1
     ·exact hvx.trans (by simp [hi.1]) (.one hi.2.1)
    ·simp only [Bool.or_eq_true,decide_eq_true_eq] at hi
     rcases hi with hi | hi
     ·exact d4 i hi hne
     ·subst hi; exact hvx
    ·simp only [Bool.or_eq_true,decide_eq_true_eq] at hy
     simp only [Bool.or_eq_true,Bool.and_eq_true,Bool.not_eq_true',decide_eq_false_iff_not,decide_eq_true_eq,Bool.or_eq_false_iff]
     rcases hy with hy | hy
     ·rcases d5 y i hy hyv hA with h | h
      ·exact .inl (.inl h)
      ·by_cases e:x=i
       ·exact .inl (.inr e)
       ·exact .inr (.inl ⟨h,e⟩)
     ·subst hy
      have hSx:S x=false:=by
       rcases hyv with e | e
       ·subst e; rw [d1] at hDx; cases hDx
       ·exact e
      by_cases e:x=i
      ·exact .inl (.inr e)
      ·cases hD:D i with
       | true=>exact .inl (.inl rfl)
       | false=>exact .inr (.inr ⟨hSx,hA,rfl,e⟩)
    ·simp only [Int.toNat_natCast]
     have e1:(cnt n fun i=>!(msk n fun i=>D i || decide (x=i)).testBit i)=cnt n fun i=>(!D i) && !decide (x=i):=cnt_congr fun i hi=>by rw [bitS i hi]; simp
     have e2:(cnt n fun i=>!(msk n D).testBit i)=cnt n fun i=>!D i:=cnt_congr fun i hi=>by rw [bitS i hi]
     rw [e1,e2]
     have:=cnt_del (n:=n) (p:=fun i=>!D i) t1 (by simp [hDx])
     omega
   ·right
    have hno:∀i,i < n→X i=false:=fun i hi=>by rw [Bool.eq_false_iff]; exact fun h=>hX ⟨i,hi,h⟩
    have e0:msk n X=0:=(msk_eq (by have:=Nat.two_pow_pos n; omega) fun i hi=>by rw [hno i hi]; simp).symm
    refine ⟨((msk n fun i=>D i && (S i && !decide (v=i)):Nat):Int),by unfold g_order_late_b0; dsimp only; rw [e0]; rfl,?_⟩
    refine congrArg _ (msk_congr fun i hi=>?_)
    have seen:∀y z,Via A (fun i=>!S i) y z→D y=true→(y=v∨S y=false)→D z=true:=fun y z h=>by
     induction h with
     | one h =>
      intro hy hyv
      rcases d5 _ _ hy hyv h with h2 | h2
      ·exact h2
      ·rw [hno _ (hG.lt _ _ (by rw [hG.sym]; exact h))] at h2; cases h2
     | @step _ x _ h hx k ih =>
      intro hy hyv
      have hx':S x=false:=by simpa using hx
      rcases d5 _ _ hy hyv h with h2 | h2
      ·exact ih h2 (.inr hx')
      ·rw [hno _ (hG.lt _ _ (by rw [hG.sym]; exact h))] at h2; cases h2
    rw [Bool.eq_iff_iff,Egr_iff]
    simp only [Bool.and_eq_true,Bool.not_eq_true',decide_eq_false_iff_not]
    constructor
    ·rintro ⟨a,b,c⟩
     exact ⟨hS,b,c,d4 i a fun e=>c e.symm⟩
    ·rintro ⟨_,b,c,d⟩
     exact ⟨seen v i d d1 (.inl rfl),b,c⟩)
  (IntKind.u64.wrap (1*2^min (Int.toNat (v:Int)) (IntKind.bits .u64)),0,((msk n (A v):Nat):Int))
  ⟨fun i=>decide (v=i),A v,(by
   rw [u_sh (by omega)]
   have e1:2^v=msk n fun i=>decide (v=i):=msk_eq (Nat.pow_lt_pow_right (by omega) hv) fun i _=>bit_pow v i
   have e2:(msk n fun i=>decide (v=i) && (S i && !decide (v=i)))=0:=(msk_eq (by have:=Nat.two_pow_pos n; omega) fun i _=>by simp; intro e _; exact e).symm
   rw [e1,e2]; rfl),by simp,
   (fun i hi=>by rw [decide_eq_false_iff_not]; intro e; subst e; rw [hG.irr] at hi; cases hi),(fun i hi=>.one hi),
   (fun i hi hne=>by simp only [decide_eq_true_eq] at hi; exact absurd hi.symm hne),
   (fun y i hy hyv hA=>by simp only [decide_eq_true_eq] at hy; subst hy; exact .inr hA)⟩
  (by
   have:=cnt_le n fun i=>!((IntKind.u64.wrap (1*2^min (Int.toNat (v:Int)) (IntKind.bits .u64))).toNat.testBit i)
   dsimp only
   omega)
 rw [h1,Option.bind_some,h2,oc_msk hn]; rfl
end Go.Ab
namespace Go.Ab
open Go
set_option maxRecDepth 100000
set_option maxHeartbeats 400000
def mn (n:Nat) (S:Nat → Bool) (f:Nat → Nat):Nat → Nat
 | 0=>n
 | k+1=>if S k then min (mn n S f k) (f k) else mn n S f k
theorem mn_le {n:Nat} {S:Nat → Bool} {f:Nat → Nat} {w:Nat} (hw:w < n):∀k,mn n S f k≤w↔∃v,v < k∧S v=true∧f v≤w
 | 0=>by
  simp only [mn]; constructor
  ·intro h; omega
  ·rintro ⟨v,hv,_⟩; omega
 | k+1=>by
  have ih:=mn_le (S:=S) (f:=f) hw k
  simp only [mn]
  cases hS:S k with
  | true =>
   rw [if_pos rfl]
   constructor
   ·intro h
    rcases Nat.le_total (mn n S f k) (f k) with c | c
    ·rw [Nat.min_eq_left c] at h
     obtain ⟨v,a,b⟩:=ih.1 h
     exact ⟨v,by omega,b⟩
    ·rw [Nat.min_eq_right c] at h
     exact ⟨k,by omega,hS,h⟩
   ·rintro ⟨v,a,b,c⟩
    rcases Nat.lt_succ_iff_lt_or_eq.1 a with h | h
    ·have:=ih.2 ⟨v,h,b,c⟩; omega
    ·subst h; omega
  | false =>
   rw [if_neg (by decide),ih]
   constructor
   ·rintro ⟨v,a,b⟩; exact ⟨v,by omega,b⟩
   ·rintro ⟨v,a,b,c⟩
    rcases Nat.lt_succ_iff_lt_or_eq.1 a with h | h
    ·exact ⟨v,h,b,c⟩
    ·subst h; rw [hS] at b; cases b
theorem mn_congr {n:Nat} {S T:Nat → Bool} {f g:Nat → Nat}:∀k,(∀i,i < k→S i=T i)→(∀i,i < k→S i=true→f i=g i)→mn n S f k=mn n T g k
 | 0,_,_=>rfl
 | k+1,h1,h2=>by
  simp only [mn]
  rw [mn_congr k (fun i hi=>h1 i (by omega)) (fun i hi=>h2 i (by omega)),←h1 k (by omega)]
  cases hS:S k with
  | true=>rw [h2 k (by omega) hS]
  | false=>rfl
def rem (S:Nat → Bool) (v:Nat):Nat → Bool:=fun i=>S i && !decide (v=i)
noncomputable def wid (n:Nat) (A:Gr):Nat → (Nat → Bool)→Nat
 | 0,_=>0
 | k+1,S=>mn n S (fun v=>max (lateN n A S v) (wid n A k (rem S v))) n
theorem late_congr {n:Nat} {A:Gr} {S T:Nat → Bool} (hG:Good n A) (h:∀i,i < n→S i=T i) (v:Nat):lateN n A S v=lateN n A T v:=by unfold lateN; rw [Egr_congr hG h]
theorem wid_congr {n:Nat} {A:Gr} (hG:Good n A):∀(k:Nat) (S T:Nat → Bool),(∀i,i < n→S i=T i)→wid n A k S=wid n A k T
 | 0,_,_,_=>rfl
 | k+1,S,T,h=>by
  simp only [wid]
  refine mn_congr n h fun v hv _=>?_
  rw [late_congr hG h,wid_congr hG k (rem S v) (rem T v) fun i hi=>by unfold rem; rw [h i hi]]
theorem late_lt {n:Nat} {A:Gr} {S:Nat → Bool} {v:Nat} (hG:Good n A) (hv:v < n):lateN n A S v < n:=by
 unfold lateN
 have h1:cnt n (Egr A S v)≤cnt n (fun i=>true && !decide (v=i)):=cnt_mono fun i hi h=>by
  have:v≠i:=(Egr_iff.1 h).2.2.1
  simp [this]
 have h2:=cnt_del (n:=n) (p:=fun _=>true) hv rfl
 rw [cnt_all] at h2
 omega
theorem cnt_rem {n:Nat} {S:Nat → Bool} {v k:Nat} (hv:v < n) (h:S v=true) (hc:cnt n S=k+1):cnt n (rem S v)=k:=by
 have:=cnt_del (n:=n) hv h
 unfold rem; omega
theorem some_in {n:Nat} {S:Nat → Bool} {k:Nat} (hc:cnt n S=k+1):∃v,v < n∧S v=true:=by
 apply Classical.byContradiction
 intro h
 have:=cnt_zero (n:=n) (p:=S) fun i hi=>by rw [Bool.eq_false_iff]; exact fun hh=>h ⟨i,hi,hh⟩
 omega
theorem wid_lt {n:Nat} {A:Gr} (hG:Good n A) (h1:1≤n):∀(k:Nat) (S:Nat → Bool),cnt n S=k→wid n A k S < n
 | 0,_,_=>by simp only [wid]; omega
 | k+1,S,hc=>by
  obtain ⟨v,hv,hS⟩:=some_in hc
  have h2:=wid_lt hG h1 k (rem S v) (cnt_rem hv hS hc)
  have h3:=late_lt (S:=S) hG hv
  simp only [wid]
  have hm:max (lateN n A S v) (wid n A k (rem S v)) < n:=by omega
  exact Nat.lt_of_le_of_lt ((mn_le (S:=S) (f:=fun v=>max (lateN n A S v) (wid n A k (rem S v))) hm n).2 ⟨v,hv,hS,Nat.le_refl _⟩) hm
theorem wid_le {n:Nat} {A:Gr} {k w:Nat} {S:Nat → Bool} (hw:w < n):wid n A (k+1) S≤w↔∃v,v < n∧S v=true∧lateN n A S v≤w∧wid n A k (rem S v)≤w:=by
 simp only [wid]
 rw [mn_le hw]
 constructor
 ·rintro ⟨v,a,b,c⟩; exact ⟨v,a,b,by omega,by omega⟩
 ·rintro ⟨v,a,b,c,d⟩; exact ⟨v,a,b,by omega⟩
theorem mget_mput (k:Int) (w:Int):∀(l:List (Int × Int)) (n:Int),mget (mput l k w) n=if n==k then some w else mget l n
 | [],n=>by simp only [mput,mget]
 | p::r,n=>by
  unfold mput
  by_cases h:(k==p.1)=true
  ·rw [if_pos h]
   have e:k=p.1:=by simpa using h
   simp only [mget]
   by_cases h2:(n==k)=true
   ·simp [h2]
   ·have h3:(n==p.1)=false:=by rw [←e]; simpa using h2
    simp [h2,h3]
  ·rw [if_neg h]
   simp only [mget,mget_mput k w r n]
   by_cases h2:(n==p.1)=true
   ·have e2:n=p.1:=by simpa using h2
    have h3:(n==k)=false:=by
     rw [Bool.eq_false_iff]; intro h4
     have:n=k:=by simpa using h4
     exact h (by rw [←this,e2]; simp)
    simp [h2,h3]
   ·simp [h2]
def Vm (n:Nat) (A:Gr) (m:List (Int × Int)):Prop:=(∀S w,mget m ((msk n S:Nat):Int)=some w→w=(wid n A (cnt n S) S:Int))∧mget m 0=some 0
theorem vm_put {n:Nat} {A:Gr} {m:List (Int × Int)} (hG:Good n A) (h:Vm n A m) {S:Nat → Bool} {k:Nat} (hc:cnt n S=k+1):Vm n A (mput m ((msk n S:Nat):Int) (wid n A (k+1) S:Int)):=by
 refine ⟨fun T w hw=>?_,?_⟩
 ·rw [mget_mput] at hw
  split at hw
  ·rename_i e
   cases hw
   have e1:msk n T=msk n S:=by
    have:((msk n T:Nat):Int)=((msk n S:Nat):Int):=by simpa using e
    omega
   have e2:=msk_inj e1
   rw [cnt_congr e2,hc,wid_congr hG _ _ _ e2]
  ·exact h.1 T w hw
 ·rw [mget_mput,if_neg,h.2]
  have:=msk_ne hc
  simp at this
  simp; omega
theorem vm_start (n:Nat) (A:Gr):Vm n A (mput [] (0:Int) (0:Int)):=by
 refine ⟨fun S w hw=>?_,rfl⟩
 rw [mget_mput] at hw
 split at hw
 ·rename_i e
  cases hw
  have e1:msk n S=0:=by
   have:((msk n S:Nat):Int)=0:=by simpa using e
   omega
  have:cnt n S=0:=cnt_zero fun i hi=>by
   have h2:=bitS (p:=S) i hi
   rw [e1] at h2; simpa using h2.symm
  rw [this]; rfl
 ·cases hw
theorem gone_msk {n:Nat} {S:Nat → Bool} (hn:n≤10):IntKind.u64.wrap (BitVec.ofInt (IntKind.bits .u64) (IntKind.u64.wrap ((IntKind.u64.wrap (1*2^min (Int.toNat (n:Int)) (IntKind.bits .u64))) - 1)) &&& ~~~ BitVec.ofInt (IntKind.bits .u64) ((msk n S:Nat):Int)).toNat = ((msk n fun i=>!S i:Nat):Int):=by
 rw [u_all hn,u_diff (n:=n) (p:=fun _=>true) (q:=S) (by omega) (msk_lt n _) (lt64 hn (msk_lt n _)) bitS bitS]
 simp
theorem imin (a b:Nat):(if (a:Int) < (b:Int) then (a:Int) else (b:Int))=((min b a:Nat):Int):=by split <;> omega
theorem narrow_spec {n:Nat} {A:Gr} (hn:n≤10) (h1:1≤n) (hG:Good n A):∀(k N:Nat) (S:Nat → Bool) (m:List (Int × Int)),k < N→cnt n S=k→Vm n A m →
  ∃m',recN (g_order_Best_r1 (gl n A)) N (((msk n S:Nat):Int),m)=some ((wid n A k S:Int),m')∧Vm n A m'
 | k,0,S,m,hN,_,_=>by omega
 | k,N+1,S,m,hN,hc,hV=>by
  show ∃m',g_order_Best_r1 (gl n A) (recN (g_order_Best_r1 (gl n A)) N) (((msk n S:Nat):Int),m)=some ((wid n A k S:Int),m')∧Vm n A m'
  have ih:∀(k:Nat) (S:Nat → Bool) (m:List (Int × Int)),k < N→cnt n S=k→Vm n A m→∃m',recN (g_order_Best_r1 (gl n A)) N (((msk n S:Nat):Int),m)=some ((wid n A k S:Int),m')∧Vm n A m':=fun k S m a b c=>narrow_spec hn h1 hG k N S m a b c
  generalize recN (g_order_Best_r1 (gl n A)) N=d at ih
  unfold g_order_Best_r1
  dsimp only
  cases hm:mget m ((msk n S:Nat):Int) with
  | some w =>
   rw [if_pos (by rfl)]
   have:=hV.1 S w hm
   rw [hc] at this
   exact ⟨m,by rw [this]; rfl,hV⟩
  | none =>
   rw [if_neg (by simp)]
   cases k with
   | zero=>rw [msk_zero hc] at hm; rw [show ((0:Nat):Int)=0 from rfl,hV.2] at hm; cases hm
   | succ k =>
    let f:Nat → Nat := fun v=>max (lateN n A S v) (wid n A k (rem S v))
    obtain ⟨r,e1,e2⟩:=mem_loop hn (fun R (t:List (Int × Int) × Int)=>(R,t.1,t.2)) (body:=g_order_Best_b0 (gl n A) (((msk n S:Nat):Int),m) d) (fun j t=>Vm n A t.1∧t.2=(mn n S f j:Int)) (fun r=>Vm n A r.1∧r.2=(mn n S f n:Int)) S
     (fun x t R R' hx hp hI c1 c2 c3=>.inl (by
      obtain ⟨t1,t2⟩:=t
      obtain ⟨i1,i2⟩:=hI
      simp only at i1 i2
      subst i2
      obtain ⟨m',e,hV'⟩:=ih k (rem S x) t1 (by omega) (cnt_rem hx hp hc) i1
      have hl:=late_spec hn hG hx hp
      have hd:IntKind.u64.wrap (BitVec.ofInt (IntKind.bits .u64) ((msk n S:Nat):Int) &&& ~~~ BitVec.ofInt (IntKind.bits .u64) (IntKind.u64.wrap (1*2^min (Int.toNat (x:Int)) (IntKind.bits .u64)))).toNat = ((msk n (rem S x):Nat):Int):=u_del hn (by omega)
      refine ⟨(m',(mn n S f (x+1):Int)),?_,hV',rfl⟩
      unfold g_order_Best_b0
      dsimp only
      rw [if_pos c1,c2,Option.bind_some,gl_len,gone_msk hn,hl,Option.bind_some,if_pos (nat_ge x),hd,e,Option.bind_some,c3]
      simp only [imax,imin,mn,hp,if_true,f]))
     (fun x t hx hp hI=>⟨hI.1,by rw [hI.2]; simp only [mn]; rw [hp]; rfl⟩)
     (fun t hI=>⟨_,by unfold g_order_Best_b0; dsimp only; rw [if_neg (by simp)],hI⟩)
     (m,((gl n A).length:Int)) ⟨hV,by rw [gl_len]; rfl⟩
    dsimp only at e1
    rw [e1,Option.bind_some]
    refine ⟨mput r.1 ((msk n S:Nat):Int) r.2,by rw [e2.2]; rfl,?_⟩
    rw [e2.2]
    exact vm_put hG e2.1 hc
open Classical in
noncomputable def bord (n:Nat) (A:Gr) (w:Nat):Nat → (Nat → Bool)→List Nat
 | 0,_=>[]
 | k+1,S=>match (List.range n).find? fun v=>S v && decide (lateN n A S v≤w) && decide (wid n A k (rem S v)≤w) with
  | none=>[]
  | some v=>v::bord n A w k (rem S v)
theorem find_range {n:Nat} {p:Nat → Bool}:((List.range n).find? p=none∧∀i,i < n→p i=false)∨∃v,(List.range n).find? p=some v∧v < n∧p v=true∧∀i,i < v→p i=false:=by
 cases h:(List.range n).find? p with
 | none =>
  left
  refine ⟨rfl,fun i hi=>?_⟩
  have:=List.find?_eq_none.1 h i (List.mem_range.2 hi)
  simpa using this
 | some v =>
  right
  rw [List.find?_range_eq_some] at h
  exact ⟨v,rfl,List.mem_range.1 h.2.1,h.1,fun i hi=>by simpa using h.2.2 i hi⟩
theorem r31:g_order_Best_r3=g_order_Best_r1:=rfl
theorem nI_snoc (o:List Nat) (v:Nat):nI o++([(v:Int)]:List Int)=nI (o++[v]):=by simp [nI]
theorem place {n:Nat} {A:Gr} (hn:n≤10) (h1:1≤n) (hG:Good n A) {k w:Nat} {S:Nat → Bool} {o:List Nat} {m mx:List (Int × Int)} (hc:cnt n S=k+1) (hV:Vm n A m) (ho:o.length≤100) :
  (∃v m',whileN fuel (g_order_Best_b4 (gl n A) (((msk n S:Nat):Int),nI o,m) ((w:Int),mx)) (((msk n S:Nat):Int),m)=some (Sum.inl (((msk n (rem S v):Nat):Int),m',nI (o++[v])))∧Vm n A m'∧v < n∧S v=true∧lateN n A S v≤w∧wid n A k (rem S v)≤w∧∀i,i < v→S i=true→¬ (lateN n A S i≤w∧wid n A k (rem S i)≤w)) ∨
  (∃m',whileN fuel (g_order_Best_b4 (gl n A) (((msk n S:Nat):Int),nI o,m) ((w:Int),mx)) (((msk n S:Nat):Int),m)=some (Sum.inr m')∧∀i,i < n→S i=true→¬ (lateN n A S i≤w∧wid n A k (rem S i)≤w)):=by
 obtain ⟨r,e1,e2⟩:=mem_loop hn (fun R (t:List (Int × Int))=>(R,t)) (body:=g_order_Best_b4 (gl n A) (((msk n S:Nat):Int),nI o,m) ((w:Int),mx)) (fun j t=>Vm n A t∧∀i,i < j→S i=true→¬ (lateN n A S i≤w∧wid n A k (rem S i)≤w))
  (fun r=>(∃v m',r=Sum.inl (((msk n (rem S v):Nat):Int),m',nI (o++[v]))∧Vm n A m'∧v < n∧S v=true∧lateN n A S v≤w∧wid n A k (rem S v)≤w∧∀i,i < v→S i=true→¬ (lateN n A S i≤w∧wid n A k (rem S i)≤w))∨(∃m',r=Sum.inr m'∧∀i,i < n→S i=true→¬ (lateN n A S i≤w∧wid n A k (rem S i)≤w))) S
  (fun x t R R' hx hp hI c1 c2 c3=>by
   obtain ⟨i1,i2⟩:=hI
   have hl:=late_spec hn hG hx hp
   have hd:IntKind.u64.wrap (BitVec.ofInt (IntKind.bits .u64) ((msk n S:Nat):Int) &&& ~~~ BitVec.ofInt (IntKind.bits .u64) (IntKind.u64.wrap (1*2^min (Int.toNat (x:Int)) (IntKind.bits .u64)))).toNat = ((msk n (rem S x):Nat):Int):=u_del hn (by omega)
   obtain ⟨m',e,hV'⟩:=narrow_spec hn h1 hG k fuel (rem S x) t (by have:=cnt_le n S; show k < 1152921504606846976; omega) (cnt_rem hx hp hc) i1
   have more:¬ (lateN n A S x≤w∧wid n A k (rem S x)≤w)→∀i,i < x+1→S i=true→¬ (lateN n A S i≤w∧wid n A k (rem S i)≤w):=fun h i hi hS=>by
    rcases Nat.lt_succ_iff_lt_or_eq.1 hi with h2 | h2
    ·exact i2 i h2 hS
    ·rw [h2]; exact h
   by_cases l1:lateN n A S x≤w
   ·have d1:decide ((lateN n A S x:Int)≤(w:Int))=true:=by simpa using l1
    by_cases l2:wid n A k (rem S x)≤w
    ·right
     have d2:decide ((wid n A k (rem S x):Int)≤(w:Int))=true:=by simpa using l2
     have hlen:(nI o++([(x:Int)]:List Int)).length*8≤140737488355328:=by rw [List.length_append,nI_len]; simp; omega
     refine ⟨_,?_,.inl ⟨x,m',rfl,hV',hx,hp,l1,l2,i2⟩⟩
     unfold g_order_Best_b4
     dsimp only
     rw [if_pos c1,c2,Option.bind_some,gl_len,gone_msk hn,hl,Option.bind_some,if_pos d1,if_pos (nat_ge x),hd,r31,e,Option.bind_some,if_pos d2,if_pos hlen,if_pos (nat_ge x),nI_snoc]
    ·left
     have d2:¬ decide ((wid n A k (rem S x):Int)≤(w:Int))=true:=by simpa using l2
     refine ⟨m',?_,hV',more fun h=>l2 h.2⟩
     unfold g_order_Best_b4
     dsimp only
     rw [if_pos c1,c2,Option.bind_some,gl_len,gone_msk hn,hl,Option.bind_some,if_pos d1,if_pos (nat_ge x),hd,r31,e,Option.bind_some,if_neg d2,c3]
   ·left
    have d1:¬ decide ((lateN n A S x:Int)≤(w:Int))=true:=by simpa using l1
    refine ⟨t,?_,i1,more fun h=>l1 h.1⟩
    unfold g_order_Best_b4
    dsimp only
    rw [if_pos c1,c2,Option.bind_some,gl_len,gone_msk hn,hl,Option.bind_some,if_neg d1,c3])
  (fun x t hx hp hI=>⟨hI.1,fun i hi hS=>by
   rcases Nat.lt_succ_iff_lt_or_eq.1 hi with h2 | h2
   ·exact hI.2 i h2 hS
   ·subst h2; rw [hp] at hS; cases hS⟩)
  (fun t hI=>⟨_,by unfold g_order_Best_b4; dsimp only; rw [if_neg (by simp)],.inr ⟨t,rfl,hI.2⟩⟩)
  m ⟨hV,fun i hi=>by omega⟩
 rcases e2 with ⟨v,m',rfl,h⟩ | ⟨m',rfl,h⟩
 ·exact .inl ⟨v,m',e1,h⟩
 ·exact .inr ⟨m',e1,h⟩
theorem bord_step {n:Nat} {A:Gr} {w k v:Nat} {S:Nat → Bool} (hv:v < n) (hS:S v=true) (h1:lateN n A S v≤w) (h2:wid n A k (rem S v)≤w) (h3:∀i,i < v→S i=true→¬ (lateN n A S i≤w∧wid n A k (rem S i)≤w)) :
  bord n A w (k+1) S=v::bord n A w k (rem S v):=by
 simp only [bord]
 rcases find_range (n:=n) (p:=fun v=>S v && decide (lateN n A S v≤w) && decide (wid n A k (rem S v)≤w)) with ⟨_,h⟩ | ⟨u,e,u1,u2,u3⟩
 ·have:=h v hv
  simp [hS,h1,h2] at this
 ·rw [e]
  have huv:u=v:=by
   rcases Nat.lt_trichotomy u v with c | c | c
   ·simp only [Bool.and_eq_true,decide_eq_true_eq] at u2
    exact absurd ⟨u2.1.2,u2.2⟩ (h3 u c u2.1.1)
   ·exact c
   ·have:=u3 v c
    simp [hS,h1,h2] at this
  rw [huv]
theorem places {n:Nat} {A:Gr} (hn:n≤10) (h1:1≤n) (hG:Good n A) {w:Nat} (hw:w < n) {mx:List (Int × Int)}:∀(k N:Nat) (S:Nat → Bool) (o:List Nat) (m:List (Int × Int)),k < N→cnt n S=k→Vm n A m→o.length+k≤100→wid n A k S≤w →
  whileN N (g_order_Best_b5 (gl n A) ((w:Int),mx)) (((msk n S:Nat):Int),nI o,m)=some (nI (o++bord n A w k S))
 | 0,N,S,o,m,hN,hc,hV,hl,hwid=>by
  obtain ⟨N,rfl⟩:∃M,N=M+1:=⟨N - 1,by omega⟩
  rw [msk_zero hc]
  simp [whileN,g_order_Best_b5,bord]
 | k+1,N,S,o,m,hN,hc,hV,hl,hwid=>by
  obtain ⟨N,rfl⟩:∃M,N=M+1:=⟨N - 1,by omega⟩
  rcases place hn h1 hG (w:=w) (mx:=mx) hc hV (o:=o) (by omega) with ⟨v,m',e,hV',hv,hS,l1,l2,l3⟩ | ⟨m',_,hno⟩
  ·have hb:g_order_Best_b5 (gl n A) ((w:Int),mx) (((msk n S:Nat):Int),nI o,m)=some (.next (((msk n (rem S v):Nat):Int),nI (o++[v]),m')):=by
    unfold g_order_Best_b5
    dsimp only
    rw [if_pos (msk_ne hc),e,Option.bind_some]
   simp only [whileN,hb]
   rw [places hn h1 hG hw k N (rem S v) (o++[v]) m' (by omega) (cnt_rem hv hS hc) hV' (by simp; omega) l2,bord_step hv hS l1 l2 l3]
   simp
  ·obtain ⟨v,a,b,c,d⟩:=(wid_le hw).1 hwid
   exact absurd ⟨c,d⟩ (hno v a b)
theorem Best_spec {n:Nat} {A:Gr} (h1:1≤n) (hn:n≤10) (hG:Good n A):g_order_Best (gl n A)=some (nI (bord n A (wid n A n fun _=>true) n fun _=>true),(wid n A n (fun _=>true):Int),0):=by
 unfold g_order_Best
 rw [check_gl h1 hn hG,Option.bind_some,if_neg (by decide),gl_len,if_pos (nat_ge n),u_all hn]
 obtain ⟨m',e,hV⟩:=narrow_spec hn h1 hG n fuel (fun _=>true) _ (by show n < 1152921504606846976; omega) (cnt_all n) (vm_start n A)
 rw [e,Option.bind_some]
 have h:=places hn h1 hG (w:=wid n A n fun _=>true) (wid_lt hG h1 n _ (cnt_all n)) (mx:=m') n fuel (fun _=>true) [] m' (by show n < 1152921504606846976; omega) (cnt_all n) hV (by simp; omega) (Nat.le_refl _)
 rw [show nI []=[] from rfl] at h
 rw [h]; rfl
end Go.Ab
namespace Go.Ab
open Go
set_option maxRecDepth 100000
set_option maxHeartbeats 400000
structure Lists (n:Nat) (S:Nat → Bool) (o:List Nat):Prop where
 mem:∀i,i∈o↔i < n∧S i=true
 nodup:o.Nodup
theorem lists_tail {n:Nat} {S:Nat → Bool} {v:Nat} {o:List Nat} (h:Lists n S (v::o)):v < n∧S v=true∧Lists n (rem S v) o:=by
 have h1:=(h.mem v).1 (by simp)
 have h2:=List.nodup_cons.1 h.nodup
 refine ⟨h1.1,h1.2,fun i=>?_,h2.2⟩
 unfold rem
 simp only [Bool.and_eq_true,Bool.not_eq_true',decide_eq_false_iff_not]
 have:=h.mem i
 rw [List.mem_cons] at this
 constructor
 ·intro hi
  have h3:=this.1 (.inr hi)
  exact ⟨h3.1,h3.2,fun e=>h2.1 (e ▸ hi)⟩
 ·rintro ⟨a,b,c⟩
  rcases this.2 ⟨a,b⟩ with e | e
  ·exact absurd e.symm c
  ·exact e
theorem ord_lists {n:Nat} {o:List Nat} (h:Ord n o):Lists n (fun _=>true) o:=by
 refine ⟨fun i=>⟨fun hi=>⟨h.lt i hi,rfl⟩,fun hi=>?_⟩,h.nodup⟩
 apply Classical.byContradiction
 intro hno
 have hp:(i::o).Nodup:=List.nodup_cons.2 ⟨hno,h.nodup⟩
 have hsub:(i::o).length≤(List.range n).length:=by
  exact List.Nodup.length_le_of_subset hp fun x hx=>by
   rcases List.mem_cons.1 hx with e | e
   ·rw [e]; exact List.mem_range.2 hi.1
   ·exact List.mem_range.2 (h.lt x e)
 rw [List.length_cons,h.len,List.length_range] at hsub
 omega
theorem elim_egr {n:Nat} {A:Gr} {S:Nat → Bool} {v:Nat} (hG:Good n A) (hv:S v=true):elim (Egr A S) v=Egr A (rem S v):=funext fun u=>funext fun w=>Egr_elim hG hv u w
theorem mn_at {n:Nat} {S:Nat → Bool} {f:Nat → Nat} {v:Nat} (hS:S v=true):∀k,v < k→mn n S f k≤f v
 | 0,h=>by omega
 | k+1,h=>by
  simp only [mn]
  rcases Nat.lt_succ_iff_lt_or_eq.1 h with h2 | h2
  ·have:=mn_at hS k h2 (n:=n) (f:=f)
   split <;> omega
  ·subst h2; rw [if_pos hS]; omega
theorem wid_min {n:Nat} {A:Gr} (hG:Good n A):∀(k:Nat) (S:Nat → Bool) (o:List Nat),Lists n S o→o.length=k→wid n A k S≤widL n (Egr A S) o
 | 0,S,o,h,hk=>by simp [wid]
 | k+1,S,[],h,hk=>by simp at hk
 | k+1,S,v::o,h,hk=>by
  obtain ⟨h1,h2,h3⟩:=lists_tail h
  have ih:=wid_min hG k (rem S v) o h3 (by simpa using hk)
  simp only [widL,wid]
  rw [elim_egr hG h2]
  have:=mn_at (n:=n) (f:=fun v=>max (lateN n A S v) (wid n A k (rem S v))) h2 n h1
  have e:lateN n A S v=cnt n (Egr A S v):=rfl
  omega
theorem bord_lists {n:Nat} {A:Gr} {w:Nat} (hw:w < n):∀(k:Nat) (S:Nat → Bool),cnt n S=k→wid n A k S≤w→Lists n S (bord n A w k S)∧(bord n A w k S).length=k
 | 0,S,hc,h=>by
  refine ⟨⟨fun i=>?_,by simp [bord]⟩,rfl⟩
  simp only [bord,List.not_mem_nil,false_iff,not_and]
  intro hi hS
  have:=cnt_pos hi hS; omega
 | k+1,S,hc,h=>by
  obtain ⟨v,a,b,c,d⟩:=(wid_le hw).1 h
  rcases find_range (n:=n) (p:=fun v=>S v && decide (lateN n A S v≤w) && decide (wid n A k (rem S v)≤w)) with ⟨_,hno⟩ | ⟨u,e,u1,u2,u3⟩
  ·have:=hno v a
   simp [b,c,d] at this
  ·simp only [Bool.and_eq_true,decide_eq_true_eq] at u2
   obtain ⟨ih,ihl⟩:=bord_lists hw k (rem S u) (cnt_rem u1 u2.1.1 hc) u2.2
   simp only [bord,e]
   refine ⟨⟨fun i=>?_,List.nodup_cons.2 ⟨fun hm=>?_,ih.nodup⟩⟩,by rw [List.length_cons,ihl]⟩
   ·rw [List.mem_cons,ih.mem]
    unfold rem
    simp only [Bool.and_eq_true,Bool.not_eq_true',decide_eq_false_iff_not]
    constructor
    ·rintro (e | ⟨a,b,c⟩)
     ·rw [e]; exact ⟨u1,u2.1.1⟩
     ·exact ⟨a,b⟩
    ·rintro ⟨a,b⟩
     by_cases e:i=u
     ·exact .inl e
     ·exact .inr ⟨a,b,fun e2=>e e2.symm⟩
   ·have:=((ih.mem u).1 hm).2
    unfold rem at this
    simp at this
theorem bord_wid {n:Nat} {A:Gr} (hG:Good n A) {w:Nat} (hw:w < n):∀(k:Nat) (S:Nat → Bool),cnt n S=k→wid n A k S≤w→widL n (Egr A S) (bord n A w k S)≤w
 | 0,S,hc,h=>by simp [bord,widL]
 | k+1,S,hc,h=>by
  obtain ⟨v,a,b,c,d⟩:=(wid_le hw).1 h
  rcases find_range (n:=n) (p:=fun v=>S v && decide (lateN n A S v≤w) && decide (wid n A k (rem S v)≤w)) with ⟨_,hno⟩ | ⟨u,e,u1,u2,u3⟩
  ·have:=hno v a
   simp [b,c,d] at this
  ·simp only [Bool.and_eq_true,decide_eq_true_eq] at u2
   simp only [bord,e,widL]
   rw [elim_egr hG u2.1.1]
   have:=bord_wid hG hw k (rem S u) (cnt_rem u1 u2.1.1 hc) u2.2
   have e2:lateN n A S u=cnt n (Egr A S u):=rfl
   omega
inductive LexLe:List Nat → List Nat → Prop
 | nil:LexLe [] []
 | lt {a b:Nat} {l m:List Nat} (h:a < b):LexLe (a::l) (b::m)
 | eq {a:Nat} {l m:List Nat} (h:LexLe l m):LexLe (a::l) (a::m)
theorem bord_least {n:Nat} {A:Gr} (hG:Good n A) {w:Nat} (hw:w < n):∀(k:Nat) (S:Nat → Bool) (o:List Nat),Lists n S o→o.length=k→widL n (Egr A S) o≤w→LexLe (bord n A w k S) o
 | 0,S,[],h,hk,_=>by simp only [bord]; exact .nil
 | 0,S,v::o,h,hk,_=>by simp at hk
 | k+1,S,[],h,hk,_=>by simp at hk
 | k+1,S,v::o,h,hk,hl=>by
  obtain ⟨h1,h2,h3⟩:=lists_tail h
  simp only [widL] at hl
  rw [elim_egr hG h2] at hl
  have e2:lateN n A S v=cnt n (Egr A S v):=rfl
  have hko:o.length=k:=by simpa using hk
  have l1:lateN n A S v≤w:=by omega
  have l2:wid n A k (rem S v)≤w:=by have:=wid_min hG k (rem S v) o h3 hko; omega
  rcases find_range (n:=n) (p:=fun v=>S v && decide (lateN n A S v≤w) && decide (wid n A k (rem S v)≤w)) with ⟨_,hno⟩ | ⟨u,e,u1,u2,u3⟩
  ·have:=hno v h1
   simp [h2,l1,l2] at this
  ·simp only [bord,e]
   rcases Nat.lt_trichotomy u v with c | c | c
   ·exact .lt c
   ·subst c
    exact .eq (bord_least hG hw k (rem S u) o h3 hko (by omega))
   ·have:=u3 v c
    simp [h2,l1,l2] at this
theorem egr_self {n:Nat} {A:Gr} {S:Nat → Bool} (hG:Good n A) (h:∀u w,A u w=true→S u=true):Egr A S=A:=funext fun u=>funext fun w=>by
 rw [Bool.eq_iff_iff,Egr_iff]
 constructor
 ·rintro ⟨_,_,_,k⟩
  cases k with
  | one h=>exact h
  | step h1 hx k =>
   have:=h _ _ (by rw [hG.sym]; exact h1)
   simp [this] at hx
 ·intro hA
  exact ⟨h u w hA,h w u (by rw [hG.sym]; exact hA),(fun e=>by subst e; rw [hG.irr] at hA; cases hA),.one hA⟩
end Go.Ab
namespace Go.Ab
open Go
set_option maxRecDepth 100000
set_option maxHeartbeats 400000
def cmpL:List Int→List Int→Int
 | [],[]=>0
 | [],_::_=>-1
 | _::_,[]=>1
 | a::l,b::m=>if a < b then -1 else if a > b then 1 else cmpL l m
theorem cmp_int (a b:Int):g_cmp_Compare_int a b=some (if a < b then -1 else if a > b then 1 else 0):=by
 unfold g_cmp_Compare_int g_cmp_isNaN_int
 simp only [Option.bind_some,bne_self_eq_false,Bool.false_eq_true,if_false,decide_eq_true_eq]
 split
 ·rfl
 ·split <;> rfl
def cmpR (c:Int):Int ⊕ Unit:=if c=0 then .inr () else .inl c
theorem cmp_loop {p q:List Int} (hl:p.length=q.length) (hn:p.length≤1000):∀(j N k:Nat),k+j=p.length→j < N→whileN N (g_slices_Compare_int_int_b0 p q) (k:Int)=some (cmpR (cmpL (p.drop k) (q.drop k)))
 | 0,N,k,e,hN=>by
  obtain ⟨N,rfl⟩:∃M,N=M+1:=⟨N - 1,by omega⟩
  have hb:g_slices_Compare_int_int_b0 p q (k:Int)=some (.done (.inr ())):=by
   unfold g_slices_Compare_int_int_b0
   rw [if_neg (by simp; omega)]
  rw [List.drop_eq_nil_of_le (by omega),List.drop_eq_nil_of_le (by omega)]
  simp only [whileN,hb]; rfl
 | j+1,N,k,e,hN=>by
  obtain ⟨N,rfl⟩:∃M,N=M+1:=⟨N - 1,by omega⟩
  have hk:k < p.length:=by omega
  have hk':k < q.length:=by omega
  have e1:lkI p (k:Int)=some p[k]:=lkI_nat hk
  have e2:lkI q (k:Int)=some q[k]:=lkI_nat hk'
  have hb:g_slices_Compare_int_int_b0 p q (k:Int)=some (if p[k] < q[k] then .done (.inl (-1)) else if p[k] > q[k] then .done (.inl 1) else .next (IntKind.i64.wrap ((k:Int)+1))):=by
   unfold g_slices_Compare_int_int_b0
   rw [if_pos (dlt hk),e1,Option.bind_some,if_neg (by simp; omega),e2,Option.bind_some,cmp_int,Option.bind_some]
   split
   ·rfl
   ·split
    ·rfl
    ·rfl
  have d1:=List.drop_eq_getElem_cons hk
  have d2:=List.drop_eq_getElem_cons hk'
  have ih:=cmp_loop hl hn j N (k+1) (by omega) (by omega)
  have key:cmpL (p.drop k) (q.drop k)=if p[k] < q[k] then -1 else if p[k] > q[k] then 1 else cmpL (p.drop (k+1)) (q.drop (k+1)):=by rw [d1,d2]; rfl
  rw [key]
  simp only [whileN,hb]
  rcases Int.lt_trichotomy p[k] q[k] with c | c | c
  ·simp only [if_pos c]; rfl
  ·have c1:¬ p[k] < q[k]:=by omega
   have c2:¬ p[k] > q[k]:=by omega
   simp only [if_neg c1,if_neg c2]
   rw [i_succ (by omega)]
   exact ih
  ·have c1:¬ p[k] < q[k]:=by omega
   have c2:p[k] > q[k]:=c
   simp only [if_neg c1,if_pos c2]; rfl
theorem cmp_spec {p q:List Int} (hl:p.length=q.length) (hn:p.length≤1000):g_slices_Compare_int_int p q=some (cmpL p q):=by
 unfold g_slices_Compare_int_int
 have h:=cmp_loop hl hn p.length fuel 0 (by omega) (by show p.length < 1152921504606846976; omega)
 rw [List.drop_zero,List.drop_zero] at h
 rw [show ((0:Nat):Int)=0 from rfl] at h
 rw [h,Option.bind_some]
 unfold cmpR
 by_cases c:cmpL p q=0
 ·rw [if_pos c,c]
  dsimp only
  rw [if_neg (by simp; omega)]
 ·rw [if_neg c]
theorem index_loop {l:List Int} {v:Int} (hn:l.length≤1000):∃r,whileN fuel (g_slices_Index_int_int_b0 l v) 0=some r∧(match r with | .inl i=>decide (i≥0) | .inr _=>false)=l.contains v:=by
 have h:=rng_loop (n:=l.length) (k0:=0) (by omega) (by omega) (fun i (_:Unit)=>i) (body:=g_slices_Index_int_int_b0 l v) (fun k _=>(l.take k).contains v=false) (fun r=>(match r with | .inl i=>decide (i≥0) | .inr _=>false)=l.contains v)
  (fun k t _ h2 hI=>by
   have e1:lkI l (k:Int)=some l[k]:=lkI_nat h2
   unfold g_slices_Index_int_int_b0
   rw [if_pos (dlt h2),e1,Option.bind_some]
   by_cases c:v=l[k]
   ·right
    refine ⟨_,if_pos (by simp [c]),?_⟩
    simp only [ge_iff_le,Int.natCast_nonneg,decide_true]
    symm
    rw [List.contains_iff_mem,c]
    exact List.getElem_mem h2
   ·left
    refine ⟨(),if_neg (by simpa using c),?_⟩
    rw [List.take_succ_eq_append_getElem h2,List.contains_append]
    simp [c]
    simpa using hI)
  (fun t hI=>⟨_,by unfold g_slices_Index_int_int_b0; rw [if_neg (nlt _)],by rw [List.take_length] at hI; rw [hI]⟩) () (by simp)
 exact h
theorem contains_spec {l:List Int} {v:Int} (hn:l.length≤1000):g_slices_Contains_int_int l v=some (l.contains v):=by
 obtain ⟨r,h1,h2⟩:=index_loop (l:=l) (v:=v) hn
 unfold g_slices_Contains_int_int g_slices_Index_int_int
 rw [h1,Option.bind_some,←h2]
 cases r with
 | inl i=>simp
 | inr i=>simp
theorem clone_i {l:List Int} (h:l.length≤1000):g_slices_Clone_int_int l=some l:=by
 cases l with
 | nil=>rfl
 | cons a l =>
  unfold g_slices_Clone_int_int g_slices_Clone_int_int_c; dsimp only; rw [if_pos (by omega)]
end Go.Ab
namespace Go.Ab
open Go
set_option maxRecDepth 100000
set_option maxHeartbeats 400000
theorem lex_cmp {l m:List Nat} (h:LexLe l m):cmpL (nI l) (nI m)≤0:=by
 induction h with
 | nil=>simp [nI,cmpL]
 | lt h=>simp only [nI,List.map_cons,cmpL]; rw [if_pos (by omega)]; omega
 | @eq a l m h ih =>
  simp only [nI,List.map_cons,cmpL]
  rw [if_neg (by omega),if_neg (by omega)]; exact ih
theorem every_true {n:Nat} {A:Gr} (h1:1≤n) (hn:n≤10) (hG:Good n A) {b:List Nat} {w:Nat} {e:Int} (hb:b.length=n) (hall:∀o,Ord n o→w≤widL n A o∧(widL n A o=w→LexLe b o)) :
  recN (g_law08_OrderLeast_r1 (gl n A) (nI b,(w:Int),e)) fuel []=some true:=by
 obtain ⟨x,hx,rfl⟩:=recN_spec (F:=g_law08_OrderLeast_r1 (gl n A) (nI b,(w:Int),e)) (fun s=>∃o:List Nat,s=nI o∧(∀v∈o,v < n)∧o.Nodup∧o.length≤n) (fun s=>n - s.length) (fun _ x=>x=true)
  (fun d s hI IH=>by
   obtain ⟨o,rfl,h2,h3,h4⟩:=hI
   unfold g_law08_OrderLeast_r1
   rw [nI_len,gl_len]
   by_cases c:o.length=n
   ·have ho:Ord n o:=⟨c,h2,h3⟩
    obtain ⟨a1,a2⟩:=hall o ho
    rw [if_pos (by simp [c]),Width_ord h1 hn hG ho,Option.bind_some,if_pos (by rfl)]
    dsimp only
    by_cases c2:widL n A o=w
    ·rw [if_neg (by simp; omega),if_pos (by simp; omega),cmp_spec (by rw [nI_len,nI_len]; omega) (by rw [nI_len]; omega),Option.bind_some]
     have:=lex_cmp (a2 c2)
     exact ⟨_,rfl,by simpa using this⟩
    ·rw [if_pos (by simp; omega)]
     exact ⟨_,rfl,rfl⟩
   ·rw [if_neg (by simp; omega)]
    have h:=rng_run (n:=n) (k0:=0) (by omega) (by omega) (fun i (t:Unit)=>i) (body:=g_law08_OrderLeast_b0 (gl n A) (nI o) d) (fun _=>()) (.inr ())
     (fun k _ hk=>by
      unfold g_law08_OrderLeast_b0
      rw [gl_len,if_pos (dlt hk),contains_spec (by rw [nI_len]; omega),Option.bind_some]
      by_cases c2:(nI o).contains (k:Int)=true
      ·rw [if_neg (by simp only [c2]; decide)]
      ·have hnot:k ∉ o:=fun h=>c2 (by rw [List.contains_iff_mem]; unfold nI; exact List.mem_map.2 ⟨k,h,rfl⟩)
       rw [if_pos (by simpa using c2),clone_i (by rw [nI_len]; omega),Option.bind_some,if_pos (by rw [List.length_append,nI_len]; simp; omega)]
       have e1:nI o++[(k:Int)]=nI (o++[k]):=by unfold nI; simp
       obtain ⟨x,hx,hx2⟩:=IH (nI (o++[k])) ⟨o++[k],rfl,fun v hv=>by
         rcases List.mem_append.1 hv with h | h
         ·exact h2 v h
         ·simp at h; omega,by
         rw [List.nodup_append]
         refine ⟨h3,by simp,fun a ha b hb=>?_⟩
         simp at hb; subst hb
         exact fun e=>hnot (e ▸ ha),by simp; omega⟩ (by rw [nI_len,nI_len,List.length_append]; simp; omega)
       subst hx2
       rw [e1,hx,Option.bind_some,if_neg (by decide)])
     (by unfold g_law08_OrderLeast_b0; rw [gl_len,if_neg (nlt n)])
    rw [show ((0:Nat):Int)=0 from rfl] at h
    rw [h]
    exact ⟨_,rfl,rfl⟩) fuel [] ⟨[],rfl,by simp,by simp,by simp⟩ (by show n - 0 < 1152921504606846976; omega)
 exact hx
theorem least_true (p0:Tharuspexref08_Draft) (h0:okTharuspexref08_Draft p0):g_law08_OrderLeast p0=some true:=by
 have h0':okTharuspexref08_Draft (Tharuspexref08_Draft.mk (Int.tmod p0.N 5) p0.E p0.Order):=⟨by
  have:=wf_u8 h0.1
  rw [tmod_pos this.1]
  have h5:0≤p0.N % 5∧p0.N % 5 < 5:=by omega
  simp [Lit.wf,IntKind.min,IntKind.max,IntKind.bits,IntKind.signed]; omega,h0.2⟩
 unfold g_law08_OrderLeast
 generalize Tharuspexref08_Draft.mk (Int.tmod p0.N 5) p0.E p0.Order=p at *
 obtain ⟨_,h1,h7⟩:=dN_eq h0'
 obtain ⟨A,hG,eg⟩:=draft_graph h0'
 have hn:dN p≤10:=by omega
 generalize dN p=n at *
 have hw:=wid_lt hG h1 n (fun _=>true) (cnt_all n)
 obtain ⟨b1,b2⟩:=bord_lists (A:=A) hw n (fun _=>true) (cnt_all n) (Nat.le_refl _)
 have hb:Ord n (bord n A (wid n A n fun _=>true) n fun _=>true):=⟨b2,fun v hv=>((b1.mem v).1 hv).1,b1.nodup⟩
 have es:Egr A (fun _=>true)=A:=egr_self hG fun _ _ _=>rfl
 have bw:=bord_wid hG hw n (fun _=>true) (cnt_all n) (Nat.le_refl _)
 have bm:=wid_min hG n (fun _=>true) _ (ord_lists hb) hb.len
 rw [es] at bw bm
 rw [works_true,Option.bind_some,if_neg (by decide),eg,Option.bind_some,Best_spec h1 hn hG,Option.bind_some,if_neg (by simp),nI_len,gl_len,if_neg (by simp [b2]),Width_ord h1 hn hG hb,Option.bind_some]
 unfold g_law08_is_int_1_k2
 rw [if_pos (by simp; omega),Option.bind_some,if_neg (by simp),every_true h1 hn hG b2 fun o ho=>?_]
 ·rfl
 ·have hm:=wid_min hG n (fun _=>true) o (ord_lists ho) ho.len
  rw [es] at hm
  refine ⟨hm,fun h=>?_⟩
  have:=bord_least hG hw n (fun _=>true) o (ord_lists ho) ho.len (by rw [es]; omega)
  exact this
#print axioms least_true
end Go.Ab
namespace Go.Ab
open Go Go.Proofs Go.Proofs.YtjhfdojgaoapcaaDoor
open Go.ChangeShapes Go.WideShapes Go.ChangeAt Go.RowKit
abbrev dr_laid:List (String × DataW Unit):=[("math/bits.deBruijn32tab",Rows.laid_math_bits_deBruijn32tab),("math/bits.deBruijn64tab",Rows.laid_math_bits_deBruijn64tab)]
theorem dr_own:ownKnob Tryd.prog.godebug=none:=by kernel_rfl
theorem dr_g0:Tryd.prog.globalNamed "math/bits.deBruijn32tab" = some 0:=by kernel_rfl
theorem dr_g1:Tryd.prog.globalNamed "math/bits.deBruijn64tab" = some 1:=by kernel_rfl
theorem dr_met (os:Os) (args:Array Value):laidMetH Tryd.prog dr_laid ((World.doorLaid Tryd.prog 19 os).forCall (fun _ _=>0) ⟨#[],args,[]⟩).memory :=
 laidMetH_of_parts3 (fuel:=8) (laidMet_of_run' 8 (by kernel_rfl) (by kernel_rfl)) (by kernel_rfl) (by kernel_rfl)
theorem dr_glob {W:World} (h:laidMetH Tryd.prog dr_laid W):Go.Ab.GlobIn W:=by
 rw [MakeChecks.laidMetH_plain _ _ _ (by kernel_rfl)] at h
 have h0:=Lib.tabIs_of_head (k:=.u8) (zs:=Go.Ab.tab0) (t:=135) (e:=5) (n:=32) dr_g0 (by kernel_rfl) (by kernel_rfl) (by kernel_rfl) (by kernel_rfl) (by kernel_rfl) h
 have h1:=Lib.tabIs_of_head (k:=.u8) (zs:=Go.Ab.tab1) (t:=136) (e:=5) (n:=64) dr_g1 (by kernel_rfl) (by kernel_rfl) (by kernel_rfl) (by kernel_rfl) (by kernel_rfl) h.tail
 intro g xs hg i v hv
 match g,hg with
 | 0,hg =>
  cases hg
  have hi:i < Go.Ab.tab0.length:=by have:=(List.getElem?_eq_some_iff.1 hv).1; simpa using this
  have:=h0.cell dr_g0 i hi
  rw [this]
  rw [List.getElem?_map] at hv
  simpa [List.getD,hi] using hv
 | 1,hg =>
  cases hg
  have hi:i < Go.Ab.tab1.length:=by have:=(List.getElem?_eq_some_iff.1 hv).1; simpa using this
  have:=h1.cell dr_g1 i hi
  rw [this]
  rw [List.getElem?_map] at hv
  simpa [List.getD,hi] using hv
 | n+2,hg=>cases hg
end Go.Ab
