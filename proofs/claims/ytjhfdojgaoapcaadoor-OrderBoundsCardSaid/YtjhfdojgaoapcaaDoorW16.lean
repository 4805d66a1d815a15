/- What functions compute. No conditions. -/
import Derived.Test.YtjhfdojgaoapcaaDoorW15
import Derived.Test.YtjhfdojgaoapcaaDoorRows
import Derived.Test.YtjhfdojgaoapcaaDoorEng6
import Derived.WalkKit
import Derived.ProofKit
import Derived.LaidMore
import Derived.Lib.LaidTab
import Derived.Stop.LaidErr
import Derived.Stop.Joined
import Derived.OpenShut
set_option linter.all false
namespace Go.Ab
open Go
set_option maxRecDepth 100000
set_option maxHeartbeats 400000
inductive Via (A:Gr) (R:Nat → Bool):Nat → Nat → Prop
 | one {v u:Nat} (h:A v u=true):Via A R v u
 | step {v x u:Nat} (h:A v x=true) (hx:R x=true) (k:Via A R x u):Via A R v u
theorem Via.trans {A:Gr} {R:Nat → Bool} {u v w:Nat} (h:Via A R u v) (hv:R v=true) (k:Via A R v w):Via A R u w:=by
 induction h with
 | one h=>exact .step h hv k
 | step h hx _ ih=>exact .step h hx (ih hv k)
theorem Via.symm {n:Nat} {A:Gr} {R:Nat → Bool} {u v:Nat} (hG:Good n A) (h:Via A R u v):Via A R v u:=by
 induction h with
 | one h=>exact .one (by rw [hG.sym]; exact h)
 | step h hx _ ih=>exact ih.trans hx (.one (by rw [hG.sym]; exact h))
theorem Via.mono {A:Gr} {R R':Nat → Bool} {u v:Nat} (h:Via A R u v) (hR:∀x,R x=true→(∃y,A x y=true)→R' x=true):Via A R' u v:=by
 induction h with
 | one h=>exact .one h
 | step h hx k ih =>
  refine .step h (hR _ hx ?_) ih
  cases k with
  | one h=>exact ⟨_,h⟩
  | step h _ _=>exact ⟨_,h⟩
theorem Via.lt {n:Nat} {A:Gr} {R:Nat → Bool} {u v:Nat} (hG:Good n A) (h:Via A R u v):u < n∧v < n:=by
 induction h with
 | one h=>exact ⟨hG.lt _ _ h,hG.lt _ _ (by rw [hG.sym]; exact h)⟩
 | step h _ _ ih=>exact ⟨hG.lt _ _ h,ih.2⟩
theorem via_more {A:Gr} {R R':Nat → Bool} {v:Nat} (hR:∀x,R' x=true→R x=true∨x=v) {u w:Nat} (h:Via A R' u w):Via A R u w∨(Via A R u v∧Via A R v w):=by
 induction h with
 | one h=>exact .inl (.one h)
 | step h hx _ ih =>
  rcases hR _ hx with e | e
  ·rcases ih with i | ⟨i,j⟩
   ·exact .inl (.step h e i)
   ·exact .inr ⟨.step h e i,j⟩
  ·subst e
   rcases ih with i | ⟨i,j⟩
   ·exact .inr ⟨.one h,i⟩
   ·exact .inr ⟨.one h,j⟩
open Classical in
noncomputable def Egr (A:Gr) (S:Nat → Bool):Gr:=fun u w=>S u && S w && !decide (u=w) && decide (Via A (fun i=>!S i) u w)
theorem Egr_iff {A:Gr} {S:Nat → Bool} {u w:Nat}:Egr A S u w=true↔S u=true∧S w=true∧u≠w∧Via A (fun i=>!S i) u w:=by
 unfold Egr
 simp only [Bool.and_eq_true,Bool.not_eq_true',decide_eq_false_iff_not,decide_eq_true_eq]
 constructor
 ·rintro ⟨⟨⟨a,b⟩,c⟩,d⟩; exact ⟨a,b,c,d⟩
 ·rintro ⟨a,b,c,d⟩; exact ⟨⟨⟨a,b⟩,c⟩,d⟩
theorem Egr_elim {n:Nat} {A:Gr} {S:Nat → Bool} {v:Nat} (hG:Good n A) (hv:S v=true):∀u w,elim (Egr A S) v u w=Egr A (fun i=>S i && !decide (v=i)) u w:=fun u w=>by
 rw [Bool.eq_iff_iff,Egr_iff]
 unfold elim
 simp only [Bool.and_eq_true,Bool.or_eq_true,Bool.not_eq_true',decide_eq_false_iff_not,Egr_iff]
 have hm:∀x:Nat,(fun i=>!S i) x=true→(∃y,A x y=true)→(fun i=>!(S i && !decide (v=i))) x=true:=fun x h _=>by
  simp only [Bool.not_eq_true'] at h
  simp [h]
 have hv':(fun i=>!(S i && !decide (v=i))) v=true:=by simp
 constructor
 ·rintro ⟨⟨h | ⟨⟨h1,h2⟩,h3⟩,h4⟩,h5⟩
  ·exact ⟨⟨h.1,fun e=>h4 e.symm⟩,⟨h.2.1,fun e=>h5 e.symm⟩,h.2.2.1,h.2.2.2.mono hm⟩
  ·exact ⟨⟨h1.2.1,fun e=>h4 e.symm⟩,⟨h2.2.1,fun e=>h5 e.symm⟩,h3,((h1.2.2.2.symm hG).mono hm).trans hv' (h2.2.2.2.mono hm)⟩
 ·rintro ⟨⟨a1,a2⟩,⟨b1,b2⟩,c,d⟩
  have hr:∀x:Nat,(fun i=>!(S i && !decide (v=i))) x=true→(fun i=>!S i) x=true∨x=v:=fun x h=>by
   by_cases e:v=x
   ·exact .inr e.symm
   ·simp only [Bool.not_eq_true',Bool.and_eq_false_iff,Bool.not_eq_false',decide_eq_true_eq] at h
    rcases h with h | h
    ·left; simp [h]
    ·exact absurd h e
  refine ⟨⟨?_,fun e=>a2 e.symm⟩,fun e=>b2 e.symm⟩
  rcases via_more hr d with h | ⟨h1,h2⟩
  ·exact .inl ⟨a1,b1,c,h⟩
  ·exact .inr ⟨⟨⟨hv,a1,a2,h1.symm hG⟩,⟨hv,b1,b2,h2⟩⟩,c⟩
noncomputable def lateN (n:Nat) (A:Gr) (S:Nat → Bool) (v:Nat):Nat := cnt n (Egr A S v)
theorem Egr_congr {n:Nat} {A:Gr} {S T:Nat → Bool} (hG:Good n A) (h:∀i,i < n→S i=T i):Egr A S=Egr A T:=by
 funext u w
 rw [Bool.eq_iff_iff,Egr_iff,Egr_iff]
 have key:∀(S T:Nat → Bool),(∀i,i < n→S i=T i)→S u=true∧S w=true∧u≠w∧Via A (fun i=>!S i) u w→T u=true∧T w=true∧u≠w∧Via A (fun i=>!T i) u w:=fun S T h=>by
  rintro ⟨a,b,c,d⟩
  obtain ⟨l1,l2⟩:=d.lt hG
  exact ⟨by rw [←h u l1]; exact a,by rw [←h w l2]; exact b,c,d.mono fun x hx ⟨y,hy⟩=>by
   show (!T x)=true
   rw [←h x (hG.lt x y hy)]; exact hx⟩
 exact ⟨key S T h,key T S fun i hi=>(h i hi).symm⟩
theorem late_spec {n:Nat} {A:Gr} {S:Nat → Bool} {v:Nat} (hn:n≤10) (hG:Good n A) (hv:v < n) (hS:S v=true) :
  g_order_late (gl n A) (v:Int) ((msk n fun i=>!S i:Nat):Int)=some (lateN n A S v:Int):=by
 unfold g_order_late
 rw [if_pos (nat_ge v),gl_at hv,Option.bind_some]
 have body:∀(D X:Nat → Bool) (x:Nat),x < n→X x=true→(∀i,i < x→X i=false)→g_order_late_b0 ((msk n fun i=>!S i:Nat):Int) (gl n A) (((msk n D:Nat):Int),((msk n fun i=>D i && (S i && !decide (v=i)):Nat):Int),((msk n X:Nat):Int)) =
   some (.next (((msk n fun i=>D i || decide (x=i):Nat):Int),((msk n fun i=>(D i && (S i && !decide (v=i))) || (S x && decide (x=i)):Nat):Int),((msk n fun i=>(X i && !decide (x=i)) || (!S x && (A x i && !(D i || decide (x=i)))):Nat):Int))):=fun D X x hx hX hl=>by
  obtain ⟨a1,a2,a3⟩:=rest_msk hn hx hX hl
  have hb:IntKind.u64.wrap (BitVec.ofInt (IntKind.bits .u64) (Int.fdiv ((msk n fun i=>!S i:Nat):Int) (2^min (Int.toNat (x:Int)) (IntKind.bits .u64))) &&& BitVec.ofInt (IntKind.bits .u64) 1).toNat = ((!S x).toNat : Int):=by
   rw [u_bit (lt64 hn (msk_lt n _)) (by omega),bitS x hx]
  unfold g_order_late_b0
  dsimp only
  rw [if_pos a1,a2,Option.bind_some,if_pos (nat_ge x),if_pos (nat_ge x),hb,u_ins hn hx,u_ins hn hx,a3,gl_at hx]
  cases hs:S x with
  | true =>
   rw [if_pos (by rfl),if_pos (nat_ge x)]
   simp only [Bool.true_and,Bool.not_true,Bool.false_and,Bool.or_false]
  | false =>
   rw [if_neg (by decide),Option.bind_some]
   rw [u_diff (n:=n) (p:=A x) (q:=fun i=>D i || decide (x=i)) (by omega) (msk_lt n _) (lt64 hn (msk_lt n _)) bitS bitS]
   rw [u_or (n:=n) (p:=fun i=>X i && !decide (x=i)) (q:=fun i=>A x i && !(D i || decide (x=i))) (by omega) (msk_lt n _) (msk_lt n _) bitS bitS]
   simp only [Bool.false_and,Bool.or_false,Bool.not_false,Bool.true_and]
 obtain ⟨r,h1,h2⟩:=whileN_ex (body:=g_order_late_b0 ((msk n fun i=>!S i:Nat):Int) (gl n A))
  (fun s=>∃D X:Nat → Bool,s=(((msk n D:Nat):Int),((msk n fun i=>D i && (S i && !decide (v=i)):Nat):Int),((msk n X:Nat):Int))∧D v=true∧(∀i,X i=true→D i=false)∧(∀i,X i=true→Via A (fun i=>!S i) v i)∧(∀i,D i=true→i≠v→Via A (fun i=>!S i) v i)∧(∀y i,D y=true→(y=v∨S y=false)→A y i=true→D i=true∨X i=true))
  (fun s=>cnt n fun i=>!(s.1.toNat.testBit i)) (fun r=>r=((msk n (Egr A S v):Nat):Int))
  (fun s hI=>by
   obtain ⟨D,X,rfl,d1,d2,d3,d4,d5⟩:=hI
   by_cases hX:∃i,i < n∧X i=true
   ·left
    obtain ⟨t1,t2,t3⟩:=tzN_spec n X hX
    generalize tzN n X=x at t1 t2 t3
    have hDx:=d2 x t2
    have hvx:=d3 x t2
    refine ⟨_,body D X x t1 t2 t3,⟨fun i=>D i || decide (x=i),fun i=>(X i && !decide (x=i)) || (!S x && (A x i && !(D i || decide (x=i)))),?_,by simp [d1],fun i hi=>?_,fun i hi=>?_,fun i hi hne=>?_,fun y i hy hyv hA=>?_⟩,?_⟩
    ·congr 1
     congr 1
     refine congrArg _ (msk_congr fun i _=>?_)
     have hxv:x≠v:=fun e=>by subst e; rw [d1] at hDx; cases hDx
     grind
    ·simp only [Bool.or_eq_true,Bool.and_eq_true,Bool.not_eq_true',decide_eq_false_iff_not,Bool.or_eq_false_iff] at hi
     rw [Bool.or_eq_false_iff,decide_eq_false_iff_not]
     rcases hi with hi | hi
     ·exact ⟨d2 i hi.1,hi.2⟩
     ·exact hi.2.2
    ·simp only [Bool.or_eq_true,Bool.and_eq_true,Bool.not_eq_true',decide_eq_false_iff_not,Bool.or_eq_false_iff] at hi
     rcases hi with hi | hi
     ·exact d3 i hi.1
     ·exact hvx.trans (by simp [hi.1]) (.one hi.2.1)
    ·simp only [Bool.or_eq_true,decide_eq_true_eq] at hi
     rcases hi with hi | hi
     ·exact d4 i hi hne
     ·subst hi; exact hvx
    ·simp only [Bool.or_eq_true,decide_eq_true_eq] at hy
     simp only [Bool.or_eq_true,Bool.and_eq_true,Bool.not_eq_true',decide_eq_false_iff_not,decide_eq_true_eq,Bool.or_eq_false_iff]
     rcases hy with hy | hy
     ·rcases d5 y i hy hyv hA with h | h
      ·exact .inl (.inl h)
      ·by_cases e:x=i
       ·exact .inl (.inr e)
       ·exact .inr (.inl ⟨h,e⟩)
     ·subst hy
      have hSx:S x=false:=by
       rcases hyv with e | e
       ·subst e; rw [d1] at hDx; cases hDx
       ·exact e
      by_cases e:x=i
      ·exact .inl (.inr e)
      ·cases hD:D i with
       | true=>exact .inl (.inl rfl)
       | false=>exact .inr (.inr ⟨hSx,hA,rfl,e⟩)
    ·simp only [Int.toNat_natCast]
     have e1:(cnt n fun i=>!(msk n fun i=>D i || decide (x=i)).testBit i)=cnt n fun i=>(!D i) && !decide (x=i):=cnt_congr fun i hi=>by rw [bitS i hi]; simp
     have e2:(cnt n fun i=>!(msk n D).testBit i)=cnt n fun i=>!D i:=cnt_congr fun i hi=>by rw [bitS i hi]
     rw [e1,e2]
     have:=cnt_del (n:=n) (p:=fun i=>!D i) t1 (by simp [hDx])
     omega
   ·right
    have hno:∀i,i < n→X i=false:=fun i hi=>by rw [Bool.eq_false_iff]; exact fun h=>hX ⟨i,hi,h⟩
    have e0:msk n X=0:=(msk_eq (by have:=Nat.two_pow_pos n; omega) fun i hi=>by rw [hno i hi]; simp).symm
    refine ⟨((msk n fun i=>D i && (S i && !decide (v=i)):Nat):Int),by unfold g_order_late_b0; dsimp only; rw [e0]; rfl,?_⟩
    refine congrArg _ (msk_congr fun i hi=>?_)
    have seen:∀y z,Via A (fun i=>!S i) y z→D y=true→(y=v∨S y=false)→D z=true:=fun y z h=>by
     induction h with
     | one h =>
      intro hy hyv
      rcases d5 _ _ hy hyv h with h2 | h2
      ·exact h2
      ·rw [hno _ (hG.lt _ _ (by rw [hG.sym]; exact h))] at h2; cases h2
     | @step _ x _ h hx k ih =>
      intro hy hyv
      have hx':S x=false:=by simpa using hx
      rcases d5 _ _ hy hyv h with h2 | h2
      ·exact ih h2 (.inr hx')
      ·rw [hno _ (hG.lt _ _ (by rw [hG.sym]; exact h))] at h2; cases h2
    rw [Bool.eq_iff_iff,Egr_iff]
    simp only [Bool.and_eq_true,Bool.not_eq_true',decide_eq_false_iff_not]
    constructor
    ·rintro ⟨a,b,c⟩
     exact ⟨hS,b,c,d4 i a fun e=>c e.symm⟩
    ·rintro ⟨_,b,c,d⟩
     exact ⟨seen v i d d1 (.inl rfl),b,c⟩)
  (IntKind.u64.wrap (1*2^min (Int.toNat (v:Int)) (IntKind.bits .u64)),0,((msk n (A v):Nat):Int))
  ⟨fun i=>decide (v=i),A v,(by
   rw [u_sh (by omega)]
   have e1:2^v=msk n fun i=>decide (v=i):=msk_eq (Nat.pow_lt_pow_right (by omega) hv) fun i _=>bit_pow v i
   have e2:(msk n fun i=>decide (v=i) && (S i && !decide (v=i)))=0:=(msk_eq (by have:=Nat.two_pow_pos n; omega) fun i _=>by simp; intro e _; exact e).symm
   rw [e1,e2]; rfl),by simp,
   (fun i hi=>by rw [decide_eq_false_iff_not]; intro e; subst e; rw [hG.irr] at hi; cases hi),(fun i hi=>.one hi),
   (fun i hi hne=>by simp only [decide_eq_true_eq] at hi; exact absurd hi.symm hne),
   (fun y i hy hyv hA=>by simp only [decide_eq_true_eq] at hy; subst hy; exact .inr hA)⟩
  (by
   have:=cnt_le n fun i=>!((IntKind.u64.wrap (1*2^min (Int.toNat (v:Int)) (IntKind.bits .u64))).toNat.testBit i)
   dsimp only
   omega)
 rw [h1,Option.bind_some,h2,oc_msk hn]; rfl
end Go.Ab
namespace Go.Ab
open Go
set_option maxRecDepth 100000
set_option maxHeartbeats 400000
def mn (n:Nat) (S:Nat → Bool) (f:Nat → Nat):Nat → Nat
 | 0=>n
 | k+1=>if S k then min (mn n S f k) (f k) else mn n S f k
theorem mn_le {n:Nat} {S:Nat → Bool} {f:Nat → Nat} {w:Nat} (hw:w < n):∀k,mn n S f k≤w↔∃v,v < k∧S v=true∧f v≤w
 | 0=>by
  simp only [mn]; constructor
  ·intro h; omega
  ·rintro ⟨v,hv,_⟩; omega
 | k+1=>by
  have ih:=mn_le (S:=S) (f:=f) hw k
  simp only [mn]
  cases hS:S k with
  | true =>
   rw [if_pos rfl]
   constructor
   ·intro h
    rcases Nat.le_total (mn n S f k) (f k) with c | c
    ·rw [Nat.min_eq_left c] at h
     obtain ⟨v,a,b⟩:=ih.1 h
     exact ⟨v,by omega,b⟩
    ·rw [Nat.min_eq_right c] at h
     exact ⟨k,by omega,hS,h⟩
   ·rintro ⟨v,a,b,c⟩
    rcases Nat.lt_succ_iff_lt_or_eq.1 a with h | h
    ·have:=ih.2 ⟨v,h,b,c⟩; omega
    ·subst h; omega
  | false =>
   rw [if_neg (by decide),ih]
   constructor
   ·rintro ⟨v,a,b⟩; exact ⟨v,by omega,b⟩
   ·rintro ⟨v,a,b,c⟩
    rcases Nat.lt_succ_iff_lt_or_eq.1 a with h | h
    ·exact ⟨v,h,b,c⟩
    ·subst h; rw [hS] at b; cases b
theorem mn_congr {n:Nat} {S T:Nat → Bool} {f g:Nat → Nat}:∀k,(∀i,i < k→S i=T i)→(∀i,i < k→S i=true→f i=g i)→mn n S f k=mn n T g k
 | 0,_,_=>rfl
 | k+1,h1,h2=>by
  simp only [mn]
  rw [mn_congr k (fun i hi=>h1 i (by omega)) (fun i hi=>h2 i (by omega)),←h1 k (by omega)]
  cases hS:S k with
  | true=>rw [h2 k (by omega) hS]
  | false=>rfl
def rem (S:Nat → Bool) (v:Nat):Nat → Bool:=fun i=>S i && !decide (v=i)
noncomputable def wid (n:Nat) (A:Gr):Nat → (Nat → Bool)→Nat
 | 0,_=>0
 | k+1,S=>mn n S (fun v=>max (lateN n A S v) (wid n A k (rem S v))) n
theorem late_congr {n:Nat} {A:Gr} {S T:Nat → Bool} (hG:Good n A) (h:∀i,i < n→S i=T i) (v:Nat):lateN n A S v=lateN n A T v:=by unfold lateN; rw [Egr_congr hG h]
theorem wid_congr {n:Nat} {A:Gr} (hG:Good n A):∀(k:Nat) (S T:Nat → Bool),(∀i,i < n→S i=T i)→wid n A k S=wid n A k T
 | 0,_,_,_=>rfl
 | k+1,S,T,h=>by
  simp only [wid]
  refine mn_congr n h fun v hv _=>?_
  rw [late_congr hG h,wid_congr hG k (rem S v) (rem T v) fun i hi=>by unfold rem; rw [h i hi]]
theorem late_lt {n:Nat} {A:Gr} {S:Nat → Bool} {v:Nat} (hG:Good n A) (hv:v < n):lateN n A S v < n:=by
 unfold lateN
 have h1:cnt n (Egr A S v)≤cnt n (fun i=>true && !decide (v=i)):=cnt_mono fun i hi h=>by
  have:v≠i:=(Egr_iff.1 h).2.2.1
  simp [this]
 have h2:=cnt_del (n:=n) (p:=fun _=>true) hv rfl
 rw [cnt_all] at h2
 omega
theorem cnt_rem {n:Nat} {S:Nat → Bool} {v k:Nat} (hv:v < n) (h:S v=true) (hc:cnt n S=k+1):cnt n (rem S v)=k:=by
 have:=cnt_del (n:=n) hv h
 unfold rem; omega
theorem some_in {n:Nat} {S:Nat → Bool} {k:Nat} (hc:cnt n S=k+1):∃v,v < n∧S v=true:=by
 apply Classical.byContradiction
 intro h
 have:=cnt_zero (n:=n) (p:=S) fun i hi=>by rw [Bool.eq_false_iff]; exact fun hh=>h ⟨i,hi,hh⟩
 omega
theorem wid_lt {n:Nat} {A:Gr} (hG:Good n A) (h1:1≤n):∀(k:Nat) (S:Nat → Bool),cnt n S=k→wid n A k S < n
 | 0,_,_=>by simp only [wid]; omega
 | k+1,S,hc=>by
  obtain ⟨v,hv,hS⟩:=some_in hc
  have h2:=wid_lt hG h1 k (rem S v) (cnt_rem hv hS hc)
  have h3:=late_lt (S:=S) hG hv
  simp only [wid]
  have hm:max (lateN n A S v) (wid n A k (rem S v)) < n:=by omega
  exact Nat.lt_of_le_of_lt ((mn_le (S:=S) (f:=fun v=>max (lateN n A S v) (wid n A k (rem S v))) hm n).2 ⟨v,hv,hS,Nat.le_refl _⟩) hm
theorem wid_le {n:Nat} {A:Gr} {k w:Nat} {S:Nat → Bool} (hw:w < n):wid n A (k+1) S≤w↔∃v,v < n∧S v=true∧lateN n A S v≤w∧wid n A k (rem S v)≤w:=by
 simp only [wid]
 rw [mn_le hw]
 constructor
 ·rintro ⟨v,a,b,c⟩; exact ⟨v,a,b,by omega,by omega⟩
 ·rintro ⟨v,a,b,c,d⟩; exact ⟨v,a,b,by omega⟩
theorem mget_mput (k:Int) (w:Int):∀(l:List (Int × Int)) (n:Int),mget (mput l k w) n=if n==k then some w else mget l n
 | [],n=>by simp only [mput,mget]
 | p::r,n=>by
  unfold mput
  by_cases h:(k==p.1)=true
  ·rw [if_pos h]
   have e:k=p.1:=by simpa using h
   simp only [mget]
   by_cases h2:(n==k)=true
   ·simp [h2]
   ·have h3:(n==p.1)=false:=by rw [←e]; simpa using h2
    simp [h2,h3]
  ·rw [if_neg h]
   simp only [mget,mget_mput k w r n]
   by_cases h2:(n==p.1)=true
   ·have e2:n=p.1:=by simpa using h2
    have h3:(n==k)=false:=by
     rw [Bool.eq_false_iff]; intro h4
     have:n=k:=by simpa using h4
     exact h (by rw [←this,e2]; simp)
    simp [h2,h3]
   ·simp [h2]
def Vm (n:Nat) (A:Gr) (m:List (Int × Int)):Prop:=(∀S w,mget m ((msk n S:Nat):Int)=some w→w=(wid n A (cnt n S) S:Int))∧mget m 0=some 0
theorem vm_put {n:Nat} {A:Gr} {m:List (Int × Int)} (hG:Good n A) (h:Vm n A m) {S:Nat → Bool} {k:Nat} (hc:cnt n S=k+1):Vm n A (mput m ((msk n S:Nat):Int) (wid n A (k+1) S:Int)):=by
 refine ⟨fun T w hw=>?_,?_⟩
 ·rw [mget_mput] at hw
  split at hw
  ·rename_i e
   cases hw
   have e1:msk n T=msk n S:=by
    have:((msk n T:Nat):Int)=((msk n S:Nat):Int):=by simpa using e
    omega
   have e2:=msk_inj e1
   rw [cnt_congr e2,hc,wid_congr hG _ _ _ e2]
  ·exact h.1 T w hw
 ·rw [mget_mput,if_neg,h.2]
  have:=msk_ne hc
  simp at this
  simp; omega
theorem vm_start (n:Nat) (A:Gr):Vm n A (mput [] (0:Int) (0:Int)):=by
 refine ⟨fun S w hw=>?_,rfl⟩
 rw [mget_mput] at hw
 split at hw
 ·rename_i e
  cases hw
  have e1:msk n S=0:=by
   have:((msk n S:Nat):Int)=0:=by simpa using e
   omega
  have:cnt n S=0:=cnt_zero fun i hi=>by
   have h2:=bitS (p:=S) i hi
   rw [e1] at h2; simpa using h2.symm
  rw [this]; rfl
 ·cases hw
theorem gone_msk {n:Nat} {S:Nat → Bool} (hn:n≤10):IntKind.u64.wrap (BitVec.ofInt (IntKind.bits .u64) (IntKind.u64.wrap ((IntKind.u64.wrap (1*2^min (Int.toNat (n:Int)) (IntKind.bits .u64))) - 1)) &&& ~~~ BitVec.ofInt (IntKind.bits .u64) ((msk n S:Nat):Int)).toNat = ((msk n fun i=>!S i:Nat):Int):=by
 rw [u_all hn,u_diff (n:=n) (p:=fun _=>true) (q:=S) (by omega) (msk_lt n _) (lt64 hn (msk_lt n _)) bitS bitS]
 simp
theorem imin (a b:Nat):(if (a:Int) < (b:Int) then (a:Int) else (b:Int))=((min b a:Nat):Int):=by split <;> omega
theorem narrow_spec {n:Nat} {A:Gr} (hn:n≤10) (h1:1≤n) (hG:Good n A):∀(k N:Nat) (S:Nat → Bool) (m:List (Int × Int)),k < N→cnt n S=k→Vm n A m →
  ∃m',recN (g_order_Best_r1 (gl n A)) N (((msk n S:Nat):Int),m)=some ((wid n A k S:Int),m')∧Vm n A m'
 | k,0,S,m,hN,_,_=>by omega
 | k,N+1,S,m,hN,hc,hV=>by
  show ∃m',g_order_Best_r1 (gl n A) (recN (g_order_Best_r1 (gl n A)) N) (((msk n S:Nat):Int),m)=some ((wid n A k S:Int),m')∧Vm n A m'
  have ih:∀(k:Nat) (S:Nat → Bool) (m:List (Int × Int)),k < N→cnt n S=k→Vm n A m→∃m',recN (g_order_Best_r1 (gl n A)) N (((msk n S:Nat):Int),m)=some ((wid n A k S:Int),m')∧Vm n A m':=fun k S m a b c=>narrow_spec hn h1 hG k N S m a b c
  generalize recN (g_order_Best_r1 (gl n A)) N=d at ih
  unfold g_order_Best_r1
  dsimp only
  cases hm:mget m ((msk n S:Nat):Int) with
  | some w =>
   rw [if_pos (by rfl)]
   have:=hV.1 S w hm
   rw [hc] at this
   exact ⟨m,by rw [this]; rfl,hV⟩
  | none =>
   rw [if_neg (by simp)]
   cases k with
   | zero=>rw [msk_zero hc] at hm; rw [show ((0:Nat):Int)=0 from rfl,hV.2] at hm; cases hm
   | succ k =>
    let f:Nat → Nat := fun v=>max (lateN n A S v) (wid n A k (rem S v))
    obtain ⟨r,e1,e2⟩:=mem_loop hn (fun R (t:List (Int × Int) × Int)=>(R,t.1,t.2)) (body:=g_order_Best_b0 (gl n A) (((msk n S:Nat):Int),m) d) (fun j t=>Vm n A t.1∧t.2=(mn n S f j:Int)) (fun r=>Vm n A r.1∧r.2=(mn n S f n:Int)) S
     (fun x t R R' hx hp hI c1 c2 c3=>.inl (by
      obtain ⟨t1,t2⟩:=t
      obtain ⟨i1,i2⟩:=hI
      simp only at i1 i2
      subst i2
      obtain ⟨m',e,hV'⟩:=ih k (rem S x) t1 (by omega) (cnt_rem hx hp hc) i1
      have hl:=late_spec hn hG hx hp
      have hd:IntKind.u64.wrap (BitVec.ofInt (IntKind.bits .u64) ((msk n S:Nat):Int) &&& ~~~ BitVec.ofInt (IntKind.bits .u64) (IntKind.u64.wrap (1*2^min (Int.toNat (x:Int)) (IntKind.bits .u64)))).toNat = ((msk n (rem S x):Nat):Int):=u_del hn (by omega)
      refine ⟨(m',(mn n S f (x+1):Int)),?_,hV',rfl⟩
      unfold g_order_Best_b0
      dsimp only
      rw [if_pos c1,c2,Option.bind_some,gl_len,gone_msk hn,hl,Option.bind_some,if_pos (nat_ge x),hd,e,Option.bind_some,c3]
      simp only [imax,imin,mn,hp,if_true,f]))
     (fun x t hx hp hI=>⟨hI.1,by rw [hI.2]; simp only [mn]; rw [hp]; rfl⟩)
     (fun t hI=>⟨_,by unfold g_order_Best_b0; dsimp only; rw [if_neg (by simp)],hI⟩)
     (m,((gl n A).length:Int)) ⟨hV,by rw [gl_len]; rfl⟩
    dsimp only at e1
    rw [e1,Option.bind_some]
    refine ⟨mput r.1 ((msk n S:Nat):Int) r.2,by rw [e2.2]; rfl,?_⟩
    rw [e2.2]
    exact vm_put hG e2.1 hc
open Classical in
noncomputable def bord (n:Nat) (A:Gr) (w:Nat):Nat → (Nat → Bool)→List Nat
 | 0,_=>[]
 | k+1,S=>match (List.range n).find? fun v=>S v && decide (lateN n A S v≤w) && decide (wid n A k (rem S v)≤w) with
  | none=>[]
  | some v=>v::bord n A w k (rem S v)
theorem find_range {n:Nat} {p:Nat → Bool}:((List.range n).find? p=none∧∀i,i < n→p i=false)∨∃v,(List.range n).find? p=some v∧v < n∧p v=true∧∀i,i < v→p i=false:=by
 cases h:(List.range n).find? p with
 | none =>
  left
  refine ⟨rfl,fun i hi=>?_⟩
  have:=List.find?_eq_none.1 h i (List.mem_range.2 hi)
  simpa using this
 | some v =>
  right
  rw [List.find?_range_eq_some] at h
  exact ⟨v,rfl,List.mem_range.1 h.2.1,h.1,fun i hi=>by simpa using h.2.2 i hi⟩
theorem r31:g_order_Best_r3=g_order_Best_r1:=rfl
theorem nI_snoc (o:List Nat) (v:Nat):nI o++([(v:Int)]:List Int)=nI (o++[v]):=by simp [nI]
theorem place {n:Nat} {A:Gr} (hn:n≤10) (h1:1≤n) (hG:Good n A) {k w:Nat} {S:Nat → Bool} {o:List Nat} {m mx:List (Int × Int)} (hc:cnt n S=k+1) (hV:Vm n A m) (ho:o.length≤100) :
  (∃v m',whileN fuel (g_order_Best_b4 (gl n A) (((msk n S:Nat):Int),nI o,m) ((w:Int),mx)) (((msk n S:Nat):Int),m)=some (Sum.inl (((msk n (rem S v):Nat):Int),m',nI (o++[v])))∧Vm n A m'∧v < n∧S v=true∧lateN n A S v≤w∧wid n A k (rem S v)≤w∧∀i,i < v→S i=true→¬ (lateN n A S i≤w∧wid n A k (rem S i)≤w)) ∨
  (∃m',whileN fuel (g_order_Best_b4 (gl n A) (((msk n S:Nat):Int),nI o,m) ((w:Int),mx)) (((msk n S:Nat):Int),m)=some (Sum.inr m')∧∀i,i < n→S i=true→¬ (lateN n A S i≤w∧wid n A k (rem S i)≤w)):=by
 obtain ⟨r,e1,e2⟩:=mem_loop hn (fun R (t:List (Int × Int))=>(R,t)) (body:=g_order_Best_b4 (gl n A) (((msk n S:Nat):Int),nI o,m) ((w:Int),mx)) (fun j t=>Vm n A t∧∀i,i < j→S i=true→¬ (lateN n A S i≤w∧wid n A k (rem S i)≤w))
  (fun r=>(∃v m',r=Sum.inl (((msk n (rem S v):Nat):Int),m',nI (o++[v]))∧Vm n A m'∧v < n∧S v=true∧lateN n A S v≤w∧wid n A k (rem S v)≤w∧∀i,i < v→S i=true→¬ (lateN n A S i≤w∧wid n A k (rem S i)≤w))∨(∃m',r=Sum.inr m'∧∀i,i < n→S i=true→¬ (lateN n A S i≤w∧wid n A k (rem S i)≤w))) S
  (fun x t R R' hx hp hI c1 c2 c3=>by
   obtain ⟨i1,i2⟩:=hI
   have hl:=late_spec hn hG hx hp
   have hd:IntKind.u64.wrap (BitVec.ofInt (IntKind.bits .u64) ((msk n S:Nat):Int) &&& ~~~ BitVec.ofInt (IntKind.bits .u64) (IntKind.u64.wrap (1*2^min (Int.toNat (x:Int)) (IntKind.bits .u64)))).toNat = ((msk n (rem S x):Nat):Int):=u_del hn (by omega)
   obtain ⟨m',e,hV'⟩:=narrow_spec hn h1 hG k fuel (rem S x) t (by have:=cnt_le n S; show k < 1152921504606846976; omega) (cnt_rem hx hp hc) i1
   have more:¬ (lateN n A S x≤w∧wid n A k (rem S x)≤w)→∀i,i < x+1→S i=true→¬ (lateN n A S i≤w∧wid n A k (rem S i)≤w):=fun h i hi hS=>by
    rcases Nat.lt_succ_iff_lt_or_eq.1 hi with h2 | h2
    ·exact i2 i h2 hS
    ·rw [h2]; exact h
   by_cases l1:lateN n A S x≤w
   ·have d1:decide ((lateN n A S x:Int)≤(w:Int))=true:=by simpa using l1
    by_cases l2:wid n A k (rem S x)≤w
    ·right
     have d2:decide ((wid n A k (rem S x):Int)≤(w:Int))=true:=by simpa using l2
     have hlen:(nI o++([(x:Int)]:List Int)).length*8≤140737488355328:=by rw [List.length_append,nI_len]; simp; omega
     refine ⟨_,?_,.inl ⟨x,m',rfl,hV',hx,hp,l1,l2,i2⟩⟩
     unfold g_order_Best_b4
     dsimp only
     rw [if_pos c1,c2,Option.bind_some,gl_len,gone_msk hn,hl,Option.bind_some,if_pos d1,if_pos (nat_ge x),hd,r31,e,Option.bind_some,if_pos d2,if_pos hlen,if_pos (nat_ge x),nI_snoc]
    ·left
     have d2:¬ decide ((wid n A k (rem S x):Int)≤(w:Int))=true:=by simpa using l2
     refine ⟨m',?_,hV',more fun h=>l2 h.2⟩
     unfold g_order_Best_b4
     dsimp only
     rw [if_pos c1,c2,Option.bind_some,gl_len,gone_msk hn,hl,Option.bind_some,if_pos d1,if_pos (nat_ge x),hd,r31,e,Option.bind_some,if_neg d2,c3]
   ·left
    have d1:¬ decide ((lateN n A S x:Int)≤(w:Int))=true:=by simpa using l1
    refine ⟨t,?_,i1,more fun h=>l1 h.1⟩
    unfold g_order_Best_b4
    dsimp only
    rw [if_pos c1,c2,Option.bind_some,gl_len,gone_msk hn,hl,Option.bind_some,if_neg d1,c3])
  (fun x t hx hp hI=>⟨hI.1,fun i hi hS=>by
   rcases Nat.lt_succ_iff_lt_or_eq.1 hi with h2 | h2
   ·exact hI.2 i h2 hS
   ·subst h2; rw [hp] at hS; cases hS⟩)
  (fun t hI=>⟨_,by unfold g_order_Best_b4; dsimp only; rw [if_neg (by simp)],.inr ⟨t,rfl,hI.2⟩⟩)
  m ⟨hV,fun i hi=>by omega⟩
 rcases e2 with ⟨v,m',rfl,h⟩ | ⟨m',rfl,h⟩
 ·exact .inl ⟨v,m',e1,h⟩
 ·exact .inr ⟨m',e1,h⟩
theorem bord_step {n:Nat} {A:Gr} {w k v:Nat} {S:Nat → Bool} (hv:v < n) (hS:S v=true) (h1:lateN n A S v≤w) (h2:wid n A k (rem S v)≤w) (h3:∀i,i < v→S i=true→¬ (lateN n A S i≤w∧wid n A k (rem S i)≤w)) :
  bord n A w (k+1) S=v::bord n A w k (rem S v):=by
 simp only [bord]
 rcases find_range (n:=n) (p:=fun v=>S v && decide (lateN n A S v≤w) && decide (wid n A k (rem S v)≤w)) with ⟨_,h⟩ | ⟨u,e,u1,u2,u3⟩
 ·have:=h v hv
  simp [hS,h1,h2] at this
 ·rw [e]
  have huv:u=v:=by
   rcases Nat.lt_trichotomy u v with c | c | c
   ·simp only [Bool.and_eq_true,decide_eq_true_eq] at u2
    exact absurd ⟨u2.1.2,u2.2⟩ (h3 u c u2.1.1)
   ·exact c
   ·have:=u3 v c
    simp [hS,h1,h2] at this
  rw [huv]
theorem places {n:Nat} {A:Gr} (hn:n≤10) (h1:1≤n) (hG:Good n A) {w:Nat} (hw:w < n) {mx:List (Int × Int)}:∀(k N:Nat) (S:Nat → Bool) (o:List Nat) (m:List (Int × Int)),k < N→cnt n S=k→Vm n A m→o.length+k≤100→wid n A k S≤w →
  whileN N (g_order_Best_b5 (gl n A) ((w:Int),mx)) (((msk n S:Nat):Int),nI o,m)=some (nI (o++bord n A w k S))
 | 0,N,S,o,m,hN,hc,hV,hl,hwid=>by
  obtain ⟨N,rfl⟩:∃M,N=M+1:=⟨N - 1,by omega⟩
  rw [msk_zero hc]
  simp [whileN,g_order_Best_b5,bord]
 | k+1,N,S,o,m,hN,hc,hV,hl,hwid=>by
  obtain ⟨N,rfl⟩:∃M,N=M+1:=⟨N - 1,by omega⟩
  rcases place hn h1 hG (w:=w) (mx:=mx) hc hV (o:=o) (by omega) with ⟨v,m',e,hV',hv,hS,l1,l2,l3⟩ | ⟨m',_,hno⟩
  ·have hb:g_order_Best_b5 (gl n A) ((w:Int),mx) (((msk n S:Nat):Int),nI o,m)=some (.next (((msk n (rem S v):Nat):Int),nI (o++[v]),m')):=by
    unfold g_order_Best_b5
    dsimp only
    rw [if_pos (msk_ne hc),e,Option.bind_some]
   simp only [whileN,hb]
   rw [places hn h1 hG hw k N (rem S v) (o++[v]) m' (by omega) (cnt_rem hv hS hc) hV' (by simp; omega) l2,bord_step hv hS l1 l2 l3]
   simp
  ·obtain ⟨v,a,b,c,d⟩:=(wid_le hw).1 hwid
   exact absurd ⟨c,d⟩ (hno v a b)
theorem Best_spec {n:Nat} {A:Gr} (h1:1≤n) (hn:n≤10) (hG:Good n A):g_order_Best (gl n A)=some (nI (bord n A (wid n A n fun _=>true) n fun _=>true),(wid n A n (fun _=>true):Int),0):=by
 unfold g_order_Best
 rw [check_gl h1 hn hG,Option.bind_some,if_neg (by decide),gl_len,if_pos (nat_ge n),u_all hn]
 obtain ⟨m',e,hV⟩:=narrow_spec hn h1 hG n fuel (fun _=>true) _ (by show n < 1152921504606846976; omega) (cnt_all n) (vm_start n A)
 rw [e,Option.bind_some]
 have h:=places hn h1 hG (w:=wid n A n fun _=>true) (wid_lt hG h1 n _ (cnt_all n)) (mx:=m') n fuel (fun _=>true) [] m' (by show n < 1152921504606846976; omega) (cnt_all n) hV (by simp; omega) (Nat.le_refl _)
 rw [show nI []=[] from rfl] at h
 rw [h]; rfl
end Go.Ab
namespace Go.Ab
open Go
set_option maxRecDepth 100000
set_option maxHeartbeats 400000
structure Lists (n:Nat) (S:Nat → Bool) (o:List Nat):Prop where
 mem:∀i,i∈o↔i < n∧S i=true
 nodup:o.Nodup
theorem lists_tail {n:Nat} {S:Nat → Bool} {v:Nat} {o:List Nat} (h:Lists n S (v::o)):v < n∧S v=true∧Lists n (rem S v) o:=by
 have h1:=(h.mem v).1 (by simp)
 have h2:=List.nodup_cons.1 h.nodup
 refine ⟨h1.1,h1.2,fun i=>?_,h2.2⟩
 unfold rem
 simp only [Bool.and_eq_true,Bool.not_eq_true',decide_eq_false_iff_not]
 have:=h.mem i
 rw [List.mem_cons] at this
 constructor
 ·intro hi
  have h3:=this.1 (.inr hi)
  exact ⟨h3.1,h3.2,fun e=>h2.1 (e ▸ hi)⟩
 ·rintro ⟨a,b,c⟩
  rcases this.2 ⟨a,b⟩ with e | e
  ·exact absurd e.symm c
  ·exact e
theorem ord_lists {n:Nat} {o:List Nat} (h:Ord n o):Lists n (fun _=>true) o:=by
 refine ⟨fun i=>⟨fun hi=>⟨h.lt i hi,rfl⟩,fun hi=>?_⟩,h.nodup⟩
 apply Classical.byContradiction
 intro hno
 have hp:(i::o).Nodup:=List.nodup_cons.2 ⟨hno,h.nodup⟩
 have hsub:(i::o).length≤(List.range n).length:=by
  exact List.Nodup.length_le_of_subset hp fun x hx=>by
   rcases List.mem_cons.1 hx with e | e
   ·rw [e]; exact List.mem_range.2 hi.1
   ·exact List.mem_range.2 (h.lt x e)
 rw [List.length_cons,h.len,List.length_range] at hsub
 omega
theorem elim_egr {n:Nat} {A:Gr} {S:Nat → Bool} {v:Nat} (hG:Good n A) (hv:S v=true):elim (Egr A S) v=Egr A (rem S v):=funext fun u=>funext fun w=>Egr_elim hG hv u w
theorem mn_at {n:Nat} {S:Nat → Bool} {f:Nat → Nat} {v:Nat} (hS:S v=true):∀k,v < k→mn n S f k≤f v
 | 0,h=>by omega
 | k+1,h=>by
  simp only [mn]
  rcases Nat.lt_succ_iff_lt_or_eq.1 h with h2 | h2
  ·have:=mn_at hS k h2 (n:=n) (f:=f)
   split <;> omega
  ·subst h2; rw [if_pos hS]; omega
theorem wid_min {n:Nat} {A:Gr} (hG:Good n A):∀(k:Nat) (S:Nat → Bool) (o:List Nat),Lists n S o→o.length=k→wid n A k S≤widL n (Egr A S) o
 | 0,S,o,h,hk=>by simp [wid]
 | k+1,S,[],h,hk=>by simp at hk
 | k+1,S,v::o,h,hk=>by
  obtain ⟨h1,h2,h3⟩:=lists_tail h
  have ih:=wid_min hG k (rem S v) o h3 (by simpa using hk)
  simp only [widL,wid]
  rw [elim_egr hG h2]
  have:=mn_at (n:=n) (f:=fun v=>max (lateN n A S v) (wid n A k (rem S v))) h2 n h1
  have e:lateN n A S v=cnt n (Egr A S v):=rfl
  omega
theorem widL_lt {n:Nat} (h1:1≤n):∀(o:List Nat) (A:Gr),Good n A→(∀v∈o,v < n)→widL n A o < n
 | [],A,hG,ho=>by simp only [widL]; omega
 | v::o,A,hG,ho=>by
  have ih:=widL_lt h1 o (elim A v) (elim_good hG v) fun u hu=>ho u (List.mem_cons_of_mem _ hu)
  have hv:=ho v (by simp)
  have h2:cnt n (A v)≤cnt n (fun i=>true && !decide (v=i)):=cnt_mono fun i hi h=>by
   have:v≠i:=fun e=>by subst e; rw [hG.irr] at h; cases h
   simp [this]
  have h3:=cnt_del (n:=n) (p:=fun _=>true) hv rfl
  rw [cnt_all] at h3
  simp only [widL]; omega
theorem egr_self {n:Nat} {A:Gr} {S:Nat → Bool} (hG:Good n A) (h:∀u w,A u w=true→S u=true):Egr A S=A:=funext fun u=>funext fun w=>by
 rw [Bool.eq_iff_iff,Egr_iff]
 constructor
 ·rintro ⟨_,_,_,k⟩
  cases k with
  | one h=>exact h
  | step h1 hx k =>
   have:=h _ _ (by rw [hG.sym]; exact h1)
   simp [this] at hx
 ·intro hA
  exact ⟨h u w hA,h w u (by rw [hG.sym]; exact hA),(fun e=>by subst e; rw [hG.irr] at hA; cases hA),.one hA⟩
theorem cnt_swap {n v w:Nat} {P Q:Nat → Bool} (hv:v < n) (hPv:P v=false) (hPQ:∀i,i < n→P i=true→i≠w→Q i=true) (hw:P w=true→Q w=true∨Q v=true):cnt n P≤cnt n Q:=by
 by_cases hwn:w < n∧P w=true∧Q w=false
 ·obtain ⟨w1,w2,w3⟩:=hwn
  have hQv:Q v=true:=by
   rcases hw w2 with h | h
   ·rw [w3] at h; cases h
   ·exact h
  have e1:=cnt_del (n:=n) w1 w2
  have e2:=cnt_del (n:=n) hv hQv
  have:cnt n (fun i=>P i && !decide (w=i))≤cnt n (fun i=>Q i && !decide (v=i)):=cnt_mono fun i hi h=>by
   simp only [Bool.and_eq_true,Bool.not_eq_true',decide_eq_false_iff_not] at h ⊢
   exact ⟨hPQ i hi h.1 fun e=>h.2 e.symm,fun e=>by subst e; rw [hPv] at h; exact absurd h.1 (by decide)⟩
  omega
 ·exact cnt_mono fun i hi h=>by
   by_cases e:i=w
   ·subst e
    rcases Bool.eq_false_or_eq_true (Q i) with h2 | h2
    ·exact h2
    ·exact absurd ⟨hi,h,h2⟩ hwn
   ·exact hPQ i hi h e
theorem wid_le_first {n:Nat} {A:Gr} {k u:Nat} {S:Nat → Bool} (hu:u < n) (hS:S u=true):wid n A (k+1) S≤max (lateN n A S u) (wid n A k (rem S u)):=mn_at (n:=n) (f:=fun v=>max (lateN n A S v) (wid n A k (rem S v))) hS n hu
theorem wid_some {n:Nat} {A:Gr} {k:Nat} {S:Nat → Bool} (hG:Good n A) (h1:1≤n) (hc:cnt n S=k+1):∃u,u < n∧S u=true∧lateN n A S u≤wid n A (k+1) S∧wid n A k (rem S u)≤wid n A (k+1) S:=(wid_le (wid_lt hG h1 (k+1) S hc)).1 (Nat.le_refl _)
def into (S:Nat → Bool) (v w:Nat):Nat → Bool:=fun i=>(S i || (decide (i=w) && S v)) && !decide (v=i)
theorem ctr_edge {n:Nat} {A:Gr} {v w a b:Nat} (hG:Good n A) (h:del (ctr A v w) v a b=true):a≠v∧b≠v∧a≠b∧(A a b=true∨(b=w∧A v a=true)∨(a=w∧A v b=true)):=by
 unfold del ctr at h
 simp only [Bool.and_eq_true,Bool.or_eq_true,Bool.not_eq_true',decide_eq_false_iff_not,decide_eq_true_eq] at h
 refine ⟨h.1.2,h.2,?_,?_⟩
 ·rcases h.1.1 with h1 | h1
  ·intro e; subst e; rw [hG.irr] at h1; cases h1
  ·exact h1.1
 ·rcases h.1.1 with h1 | h1
  ·exact .inl h1
  ·exact .inr h1.2
theorem ctr_via {n:Nat} {A:Gr} {S:Nat → Bool} {v w:Nat} (hG:Good n A) (hvw:A v w=true) {y x:Nat} (h:Via (del (ctr A v w) v) (fun i=>!(into S v w) i) y x) :
  (y≠w→(x≠w→Via A (fun i=>!S i) y x)∧(x=w→(S v=true∧Via A (fun i=>!S i) y v)∨(S w=true∧Via A (fun i=>!S i) y w)∨(S v=false∧S w=false))) ∧
  (y=w→x≠w→(S v=false→Via A (fun i=>!S i) w x)∧(S w=false→Via A (fun i=>!S i) v x)):=by
 have hwv:A w v=true:=by rw [hG.sym]; exact hvw
 have nS:∀{i:Nat},S i=false→(fun i=>!S i) i=true:=fun h=>by simp [h]
 have tow:∀y,(A y w=true∨A v y=true)→(S v=true∧Via A (fun i=>!S i) y v)∨(S w=true∧Via A (fun i=>!S i) y w)∨(S v=false∧S w=false):=fun y h=>by
  have h:A y w=true∨A y v=true:=h.imp id fun h=>by rw [hG.sym]; exact h
  cases hv:S v with
  | true =>
   cases hw:S w with
   | true =>
    rcases h with h | h
    ·exact .inr (.inl ⟨rfl,.one h⟩)
    ·exact .inl ⟨rfl,.one h⟩
   | false =>
    rcases h with h | h
    ·exact .inl ⟨rfl,.step h (nS hw) (.one hwv)⟩
    ·exact .inl ⟨rfl,.one h⟩
  | false =>
   cases hw:S w with
   | true =>
    rcases h with h | h
    ·exact .inr (.inl ⟨rfl,.one h⟩)
    ·exact .inr (.inl ⟨rfl,.step h (nS hv) (.one hvw)⟩)
   | false=>exact .inr (.inr ⟨rfl,rfl⟩)
 induction h with
 | @one y x h =>
  obtain ⟨e1,e2,e3,e4⟩:=ctr_edge hG h
  refine ⟨fun hy=>⟨fun hx=>?_,fun hx=>?_⟩,fun hy hx=>?_⟩
  ·rcases e4 with e | e | e
   ·exact .one e
   ·exact absurd e.1 hx
   ·exact absurd e.1 hy
  ·subst hx
   refine tow y ?_
   rcases e4 with e | e | e
   ·exact .inl e
   ·exact .inr e.2
   ·exact absurd e.1 hy
  ·subst hy
   have e5:A y x=true∨A v x=true:=by
    rcases e4 with e | e | e
    ·exact .inl e
    ·exact absurd e.1 hx
    ·exact .inr e.2
   refine ⟨fun hv=>?_,fun hw=>?_⟩
   ·rcases e5 with e | e
    ·exact .one e
    ·exact .step hwv (nS hv) (.one e)
   ·rcases e5 with e | e
    ·exact .step hvw (nS hw) (.one e)
    ·exact .one e
 | @step y z x h hz k ih =>
  obtain ⟨e1,e2,e3,e4⟩:=ctr_edge hG h
  have hz':(into S v w) z=false:=by simpa using hz
  by_cases hzw:z=w
  ·subst hzw
   have hnot:S z=false∧S v=false:=by
    unfold into at hz'
    have e5:¬ v=z:=fun e=>e2 e.symm
    simp [e5] at hz'
    exact hz'
   refine ⟨fun hy=>⟨fun hx=>?_,fun _=>.inr (.inr ⟨hnot.2,hnot.1⟩)⟩,fun hy=>absurd hy e3⟩
   have h5:=(ih.2 rfl hx).1 hnot.2
   have h6:=(ih.2 rfl hx).2 hnot.1
   rcases e4 with e | e | e
   ·exact .step e (nS hnot.1) h5
   ·exact .step (by rw [hG.sym]; exact e.2) (nS hnot.2) h6
   ·exact absurd e.1 hy
  ·have hSz:S z=false:=by
    unfold into at hz'
    have e5:¬ v=z:=fun e=>e2 e.symm
    simp [e5,hzw] at hz'
    exact hz'
   refine ⟨fun hy=>?_,fun hy hx=>?_⟩
   ·have e5:A y z=true:=by
     rcases e4 with e | e | e
     ·exact e
     ·exact absurd e.1 hzw
     ·exact absurd e.1 hy
    refine ⟨fun hx=>.step e5 (nS hSz) ((ih.1 hzw).1 hx),fun hx=>?_⟩
    rcases (ih.1 hzw).2 hx with e | e | e
    ·exact .inl ⟨e.1,.step e5 (nS hSz) e.2⟩
    ·exact .inr (.inl ⟨e.1,.step e5 (nS hSz) e.2⟩)
    ·exact .inr (.inr e)
   ·subst hy
    have e5:A y z=true∨A v z=true:=by
     rcases e4 with e | e | e
     ·exact .inl e
     ·exact absurd e.1 hzw
     ·exact .inr e.2
    have h6:=(ih.1 hzw).1 hx
    refine ⟨fun hv=>?_,fun hw=>?_⟩
    ·rcases e5 with e | e
     ·exact .step e (nS hSz) h6
     ·exact .step hwv (nS hv) (.step e (nS hSz) h6)
    ·rcases e5 with e | e
     ·exact .step hvw (nS hw) (.step e (nS hSz) h6)
     ·exact .step e (nS hSz) h6
theorem into_iff {S:Nat → Bool} {v w i:Nat}:into S v w i=true↔(S i=true∨(i=w∧S v=true))∧v≠i:=by
 unfold into; simp
theorem wid_ctr {n:Nat} {A:Gr} {v w:Nat} (hG:Good n A) (h1:1≤n) (hvw:A v w=true):∀(k:Nat) (S:Nat → Bool),cnt n S=k→∀k',cnt n (into S v w)=k'→wid n (del (ctr A v w) v) k' (into S v w)≤wid n A k S
 | k,S,hc,0,hc'=>by simp [wid]
 | 0,S,hc,k'+1,hc'=>by
  obtain ⟨i,hi,h⟩:=some_in hc'
  have hno:∀j,j < n→S j=false:=fun j hj=>by
   rw [Bool.eq_false_iff]; intro hh
   have:=cnt_pos hj hh; omega
  rcases (into_iff.1 h).1 with e | e
  ·rw [hno i hi] at e; cases e
  ·rw [hno v (hG.lt v w hvw)] at e; exact absurd e.2 (by decide)
 | k+1,S,hc,k'+1,hc'=>by
  have hv:v < n:=hG.lt v w hvw
  have hw:w < n:=hG.lt w v (by rw [hG.sym]; exact hvw)
  have hne:v≠w:=fun e=>by subst e; rw [hG.irr] at hvw; cases hvw
  obtain ⟨u,hu,hSu,l1,l2⟩:=wid_some hG h1 hc
  have hcu:=cnt_rem hu hSu hc
  by_cases huv:u=v∨u=w
  ·by_cases hboth:S v=true∧S w=true
   ·have e:into (rem S u) v w=into S v w:=funext fun i=>by
     unfold into rem
     rcases huv with e | e
     ·subst e; grind
     ·subst e; grind
    have ih:=wid_ctr hG h1 hvw k (rem S u) hcu (k'+1) (by rw [e]; exact hc')
    rw [e] at ih
    omega
   ·have hw':into S v w w=true:=by
     rw [into_iff]
     refine ⟨?_,hne⟩
     rcases huv with e | e
     ·right; exact ⟨rfl,e ▸ hSu⟩
     ·left; exact e ▸ hSu
    have e:rem (into S v w) w=into (rem S u) v w:=funext fun i=>by
     unfold into rem
     rcases huv with e | e
     ·subst e
      have:S w=false:=by
       rw [Bool.eq_false_iff]; exact fun h=>hboth ⟨hSu,h⟩
      grind
     ·subst e
      have:S v=false:=by
       rw [Bool.eq_false_iff]; exact fun h=>hboth ⟨h,hSu⟩
      grind
    have hc2:=cnt_rem hw hw' hc'
    have ih:=wid_ctr hG h1 hvw k (rem S u) hcu k' (by rw [←e]; exact hc2)
    have f:=wid_le_first (n:=n) (A:=del (ctr A v w) v) (k:=k') hw hw'
    rw [e] at f
    have hl:lateN n (del (ctr A v w) v) (into S v w) w≤lateN n A S u:=cnt_mono fun i hi h=>by
     obtain ⟨_,a,b,c⟩:=Egr_iff.1 h
     have hi':=into_iff.1 a
     have hSi:S i=true:=by
      rcases hi'.1 with e | e
      ·exact e
      ·exact absurd e.1.symm b
     have vv:=(ctr_via hG hvw c).2 rfl b.symm
     rw [Egr_iff]
     rcases huv with e | e
     ·subst e
      exact ⟨hSu,hSi,hi'.2,vv.2 (by rw [Bool.eq_false_iff]; exact fun h=>hboth ⟨hSu,h⟩)⟩
     ·subst e
      exact ⟨hSu,hSi,b,vv.1 (by rw [Bool.eq_false_iff]; exact fun h=>hboth ⟨h,hSu⟩)⟩
    omega
  ·have huv1:u≠v:=fun e=>huv (.inl e)
   have huw:u≠w:=fun e=>huv (.inr e)
   have hu':into S v w u=true:=into_iff.2 ⟨.inl hSu,fun e=>huv1 e.symm⟩
   have e:rem (into S v w) u=into (rem S u) v w:=funext fun i=>by
    unfold into rem
    grind
   have hc2:=cnt_rem hu hu' hc'
   have ih:=wid_ctr hG h1 hvw k (rem S u) hcu k' (by rw [←e]; exact hc2)
   have f:=wid_le_first (n:=n) (A:=del (ctr A v w) v) (k:=k') hu hu'
   rw [e] at f
   have hl:lateN n (del (ctr A v w) v) (into S v w) u≤lateN n A S u:=by
    refine cnt_swap (v:=v) (w:=w) hv ?_ (fun i hi h hiw=>?_) fun h=>?_
    ·rw [Bool.eq_false_iff]; intro h
     have:=(into_iff.1 (Egr_iff.1 h).2.1).2
     exact this rfl
    ·obtain ⟨_,a,b,c⟩:=Egr_iff.1 h
     have hi':=into_iff.1 a
     have hSi:S i=true:=by
      rcases hi'.1 with e | e
      ·exact e
      ·exact absurd e.1 hiw
     exact Egr_iff.2 ⟨hSu,hSi,b,((ctr_via hG hvw c).1 huw).1 hiw⟩
    ·obtain ⟨_,a,b,c⟩:=Egr_iff.1 h
     have hi':=into_iff.1 a
     rcases ((ctr_via hG hvw c).1 huw).2 rfl with e | e | e
     ·exact .inr (Egr_iff.2 ⟨hSu,e.1,huv1,e.2⟩)
     ·exact .inl (Egr_iff.2 ⟨hSu,e.1,huw,e.2⟩)
     ·rcases hi'.1 with e2 | e2
      ·rw [e.2] at e2; cases e2
      ·rw [e.1] at e2; exact absurd e2.2 (by decide)
   omega
theorem wid_iso {n:Nat} {A:Gr} {v:Nat} (hG:Good n A) (h1:1≤n) (hv:∀i,A v i=false):∀(k:Nat) (S:Nat → Bool),cnt n S=k→∀k',cnt n (rem S v)=k'→wid n A k' (rem S v)≤wid n A k S
 | k,S,hc,0,hc'=>by simp [wid]
 | 0,S,hc,k'+1,hc'=>by
  obtain ⟨i,hi,h⟩:=some_in hc'
  unfold rem at h
  simp only [Bool.and_eq_true] at h
  have:=cnt_pos hi h.1; omega
 | k+1,S,hc,k'+1,hc'=>by
  obtain ⟨u,hu,hSu,l1,l2⟩:=wid_some hG h1 hc
  have hcu:=cnt_rem hu hSu hc
  by_cases huv:u=v
  ·subst huv
   have:k=k'+1:=by rw [←hcu,←hc']
   subst this; exact l2
  ·have hu':rem S v u=true:=by
    unfold rem; simp [hSu]; exact fun e=>huv e.symm
   have e:rem (rem S v) u=rem (rem S u) v:=funext fun i=>by unfold rem; grind
   have hc2:=cnt_rem hu hu' hc'
   have ih:=wid_iso hG h1 hv k (rem S u) hcu k' (by rw [←e]; exact hc2)
   have f:=wid_le_first (n:=n) (A:=A) (k:=k') hu hu'
   rw [e] at f
   have hl:lateN n A (rem S v) u≤lateN n A S u:=cnt_mono fun i hi h=>by
    obtain ⟨a,b,c,d⟩:=Egr_iff.1 h
    unfold rem at a b
    simp only [Bool.and_eq_true] at a b
    refine Egr_iff.2 ⟨a.1,b.1,c,d.mono fun x hx ⟨y,hy⟩=>?_⟩
    have hxv:x≠v:=fun e=>by subst e; rw [hv y] at hy; cases hy
    have hxv':¬ v=x:=fun e=>hxv e.symm
    unfold rem at hx
    simpa [hxv'] using hx
   omega
theorem low_le {n:Nat} (h1:1≤n):∀(k:Nat) (A:Gr) (L:Nat → Bool) (b:Nat),cnt n L=k→Good n A→(∀u w,A u w=true→L u=true)→lowB n k A L b≤max b (wid n A k L)
 | 0,A,L,b,hc,hG,hs=>by simp only [lowB]; omega
 | k+1,A,L,b,hc,hG,hs=>by
  rcases amin_spec (L:=L) (m:=degN n A) n with ⟨a1,a2⟩ | ⟨v,a1,a2,a3,a4,_⟩
  ·have:=cnt_zero a2; omega
  ·simp only [lowB,a1]
   have ih:=low_le h1 k (nextA n A v) (fun i=>L i && !decide (v=i)) (max b (degN n A v)) (by have:=cnt_del (n:=n) a2 a3; omega) (next_good hG) (supp_next hG hs)
   have hd:degN n A v≤wid n A (k+1) L:=by
    obtain ⟨u,hu,hL,l1,_⟩:=wid_some hG h1 hc
    have e:lateN n A L u=degN n A u:=by unfold lateN; rw [egr_self hG hs]; rfl
    have:=a4 u hu hL
    omega
   have hw:wid n (nextA n A v) k (fun i=>L i && !decide (v=i))≤wid n A (k+1) L:=by
    rcases amin_spec (L:=A v) (m:=degN n A) n with ⟨w1,w2⟩ | ⟨w,w1,w2,w3,_⟩
    ·have hiso:∀i,A v i=false:=fun i=>by
      rw [Bool.eq_false_iff]; intro h
      have:=w2 i (hG.lt i v (by rw [hG.sym]; exact h))
      rw [h] at this; cases this
     have e:nextA n A v=A:=by
      have e0:nextA n A v=del A v:=by unfold nextA; rw [w1]
      rw [e0]
      funext x y
      have q1:=hiso y
      have q2:A x v=false:=by rw [hG.sym]; exact hiso x
      unfold del
      by_cases e1:x=v
      ·rw [e1,q1]; simp
      ·by_cases e2:y=v
       ·rw [e2,q2]; simp
       ·simp [e1,e2]
     rw [e]
     exact wid_iso hG h1 hiso (k+1) L hc k (cnt_rem a2 a3 hc)
    ·have e:nextA n A v=del (ctr A v w) v:=by unfold nextA; rw [w1]
     have hLw:L w=true:=hs w v (by rw [hG.sym]; exact w3)
     have e2:into L v w=fun i=>L i && !decide (v=i):=funext fun i=>by unfold into; grind
     rw [e,←e2]
     exact wid_ctr hG h1 w3 (k+1) L hc k (by rw [e2]; exact cnt_rem a2 a3 hc)
   omega
theorem bounds_true (p0:Tharuspexref08_Draft) (h0:okTharuspexref08_Draft p0):g_law08_OrderBounds p0=some true:=by
 obtain ⟨_,h1,h7⟩:=dN_eq h0
 obtain ⟨A,hG,eg⟩:=draft_graph h0
 obtain ⟨o,ho,eo⟩:=draft_list h0
 have hn:dN p0≤10:=by omega
 unfold g_law08_OrderBounds
 generalize dN p0=n at *
 have o1:=grd_ord (n:=n) (μ:=lackN n) (A:=A)
 have o2:=grd_ord (n:=n) (μ:=degN n) (A:=A)
 have hlow:=low_le h1 n A (fun _=>true) 0 (cnt_all n) hG (fun _ _ _=>rfl)
 have hall:∀q,Ord n q→wid n A n (fun _=>true)≤widL n A q∧widL n A q < n:=fun q hq=>by
  have:=wid_min hG n (fun _=>true) q (ord_lists hq) hq.len
  rw [egr_self hG fun _ _ _=>rfl] at this
  exact ⟨this,widL_lt h1 q A hG hq.lt⟩
 rw [works_true,Option.bind_some,if_neg (by decide),eg,Option.bind_some,Low_spec h1 hn hG,Option.bind_some,Best_spec h1 hn hG,Option.bind_some,LeastFill_spec h1 hn hG,Option.bind_some,LeastDegree_spec h1 hn hG,Option.bind_some]
 rw [if_neg (by simp),if_neg (by simp),if_neg (by simp),if_neg (by simp),if_neg (by simp),if_neg (by simp; omega),eo,Option.bind_some]
 obtain ⟨r,e2,u,rfl⟩:=rng_loop (n:=3) (k0:=0) (by omega) (by omega) (fun i (_:Unit)=>i) (body:=g_law08_OrderBounds_b0 (nI o) (nI (grd n (lackN n) n A fun _=>true),0) (nI (grd n (degN n) n A fun _=>true),0) (gl n A) (nI (bord n A (wid n A n fun _=>true) n fun _=>true),(wid n A n (fun _=>true):Int),0)) (fun _ _=>True) (fun r=>∃u,r=Sum.inr u)
  (fun k t _ h2 _=>.inl ⟨(),by
   have hk:∃q,Ord n q∧lkI ([nI o,nI (grd n (lackN n) n A fun _=>true),nI (grd n (degN n) n A fun _=>true)]:List (List Int)) (k:Int)=some (nI q):=by
    match k,h2 with
    | 0,_=>exact ⟨o,ho,rfl⟩
    | 1,_=>exact ⟨_,o1,rfl⟩
    | 2,_=>exact ⟨_,o2,rfl⟩
   obtain ⟨q,hq,ek⟩:=hk
   obtain ⟨l1,l2⟩:=hall q hq
   unfold g_law08_OrderBounds_b0
   dsimp only
   rw [if_pos (by simp; omega),ek,Option.bind_some,Width_ord h1 hn hG hq,Option.bind_some,if_neg (by simp),if_neg (by simp; omega),gl_len,if_neg (by simp; omega)],trivial⟩)
  (fun t _=>⟨_,by unfold g_law08_OrderBounds_b0; rw [if_neg (by decide)],(),rfl⟩) () trivial
 rw [show ((0:Nat):Int)=0 from rfl] at e2
 rw [e2]; rfl
#print axioms bounds_true
end Go.Ab
namespace Go.Ab
open Go Go.Proofs Go.Proofs.YtjhfdojgaoapcaaDoor
open Go.ChangeShapes Go.WideShapes Go.ChangeAt Go.RowKit
abbrev dr_laid:List (String × DataW Unit):=[("math/bits.deBruijn32tab",Rows.laid_math_bits_deBruijn32tab),("math/bits.deBruijn64tab",Rows.laid_math_bits_deBruijn64tab)]
theorem dr_own:ownKnob Tryd.prog.godebug=none:=by kernel_rfl
theorem dr_g0:Tryd.prog.globalNamed "math/bits.deBruijn32tab" = some 0:=by kernel_rfl
theorem dr_g1:Tryd.prog.globalNamed "math/bits.deBruijn64tab" = some 1:=by kernel_rfl
theorem dr_met (os:Os) (args:Array Value):laidMetH Tryd.prog dr_laid ((World.doorLaid Tryd.prog 19 os).forCall (fun _ _=>0) ⟨#[],args,[]⟩).memory :=
 laidMetH_of_parts3 (fuel:=8) (laidMet_of_run' 8 (by kernel_rfl) (by kernel_rfl)) (by kernel_rfl) (by kernel_rfl)
theorem dr_glob {W:World} (h:laidMetH Tryd.prog dr_laid W):Go.Ab.GlobIn W:=by
 rw [MakeChecks.laidMetH_plain _ _ _ (by kernel_rfl)] at h
 have h0:=Lib.tabIs_of_head (k:=.u8) (zs:=Go.Ab.tab0) (t:=135) (e:=5) (n:=32) dr_g0 (by kernel_rfl) (by kernel_rfl) (by kernel_rfl) (by kernel_rfl) (by kernel_rfl) h
 have h1:=Lib.tabIs_of_head (k:=.u8) (zs:=Go.Ab.tab1) (t:=136) (e:=5) (n:=64) dr_g1 (by kernel_rfl) (by kernel_rfl) (by kernel_rfl) (by kernel_rfl) (by kernel_rfl) h.tail
 intro g xs hg i v hv
 match g,hg with
 | 0,hg =>
  cases hg
  have hi:i < Go.Ab.tab0.length:=by have:=(List.getElem?_eq_some_iff.1 hv).1; simpa using this
  have:=h0.cell dr_g0 i hi
  rw [this]
  rw [List.getElem?_map] at hv
  simpa [List.getD,hi] using hv
 | 1,hg =>
  cases hg
  have hi:i < Go.Ab.tab1.length:=by have:=(List.getElem?_eq_some_iff.1 hv).1; simpa using this
  have:=h1.cell dr_g1 i hi
  rw [this]
  rw [List.getElem?_map] at hv
  simpa [List.getD,hi] using hv
 | n+2,hg=>cases hg
end Go.Ab
