/- What functions compute. No conditions. -/
import Derived.Test.YtjhfdojgaoapcaaDoorW15
import Derived.Test.YtjhfdojgaoapcaaDoorRows
import Derived.Test.YtjhfdojgaoapcaaDoorEng6
import Derived.WalkKit
import Derived.ProofKit
import Derived.LaidMore
import Derived.Lib.LaidTab
import Derived.Stop.LaidErr
import Derived.Stop.Joined
import Derived.OpenShut
set_option linter.all false
namespace Go.Ab
open Go
set_option maxRecDepth 100000
set_option maxHeartbeats 400000
def u64s (a:List Nat):Prop:=∀x∈a,x < 18446744073709551616
def okV (a:List Nat) (v:Nat):Prop:=(a.getD v 0) / 2^a.length=0∧(a.getD v 0).testBit v=false∧∀w,w < a.length→(a.getD v 0).testBit w=(a.getD w 0).testBit v
def okG (a:List Nat):Prop:=1≤a.length∧a.length≤10∧∀v,v < a.length→okV a v
theorem nI_getD {a:List Nat} {v:Nat} (h:v < a.length):lkI (nI a) (v:Int)=some ((a.getD v 0:Nat):Int):=by
 rw [nI_at h]; simp [h]
theorem u64s_at {a:List Nat} (h:u64s a) {v:Nat} (hv:v < a.length):a.getD v 0 < 18446744073709551616:=by
 have:a.getD v 0=a[v]:=by simp [hv]
 rw [this]; exact h _ (List.getElem_mem hv)
theorem bne_bit (x y:Bool):((x.toNat : Int) != (y.toNat : Int))=(x != y):=by cases x <;> cases y <;> rfl
theorem beq_bit (x:Bool):((x.toNat : Int)==1)=x:=by cases x <;> rfl
theorem fdiv_n {a n:Nat} (hn:n≤10):Int.fdiv (a:Int) (2^min (Int.toNat (n:Int)) (IntKind.bits .u64))=((a / 2^n:Nat):Int):=by
 have hb:IntKind.bits .u64=64:=rfl
 rw [hb,Int.toNat_natCast,Nat.min_eq_left (by omega),fdiv_pow]
theorem nz_ne {q:Nat} (h:¬ q=0):((q:Int) != 0)=true:=by simp; omega
theorem check_row {a:List Nat} (ha:u64s a) (hn:a.length≤10) {v:Nat} (hv:v < a.length) :
  ∃r,whileN fuel (g_order_Check_b0 (nI a) (v:Int) ((a.getD v 0:Nat):Int)) 0=some r∧((∃u,r=Sum.inl u∧¬ ∀w,w < a.length→(a.getD v 0).testBit w=(a.getD w 0).testBit v)∨(∃u,r=Sum.inr u∧∀w,w < a.length→(a.getD v 0).testBit w=(a.getD w 0).testBit v)):=by
 exact rng_loop (n:=a.length) (k0:=0) (by omega) (by omega) (fun i (t:Unit)=>i) (body:=g_order_Check_b0 (nI a) (v:Int) ((a.getD v 0:Nat):Int)) (fun k t=>∀w,w < k→(a.getD v 0).testBit w=(a.getD w 0).testBit v) (fun r=>(∃u,r=Sum.inl u∧¬ ∀w,w < a.length→(a.getD v 0).testBit w=(a.getD w 0).testBit v)∨(∃u,r=Sum.inr u∧∀w,w < a.length→(a.getD v 0).testBit w=(a.getD w 0).testBit v))
  (fun k t _ h2 hI=>by
   have hb:g_order_Check_b0 (nI a) (v:Int) ((a.getD v 0:Nat):Int) (k:Int)=if ((a.getD v 0).testBit k != (a.getD k 0).testBit v)=true then some (.done (Sum.inl ())) else some (.next (IntKind.i64.wrap ((k:Int)+1))):=by
    unfold g_order_Check_b0
    rw [nI_len,if_pos (dlt h2),if_pos (nat_ge k),nI_getD h2,Option.bind_some,if_pos (nat_ge v),u_bit (u64s_at ha hv) (by omega),u_bit (u64s_at ha h2) (by omega),bne_bit]
   by_cases c:(a.getD v 0).testBit k=(a.getD k 0).testBit v
   ·refine .inl ⟨(),?_,fun w hw=>?_⟩
    ·rw [hb,if_neg (by simpa using c)]
    ·rcases Nat.lt_succ_iff_lt_or_eq.1 hw with h | h
     ·exact hI w h
     ·rw [h]; exact c
   ·refine .inr ⟨_,by rw [hb,if_pos (by simpa using c)],.inl ⟨(),rfl,fun h=>c (h k h2)⟩⟩)
  (fun t hI=>⟨_,by unfold g_order_Check_b0; rw [nI_len,if_neg (nlt _)],.inr ⟨(),rfl,hI⟩⟩) () (fun w hw=>by omega)
theorem check_spec {a:List Nat} (ha:u64s a):(g_order_Check (nI a)=some 0∧okG a)∨(g_order_Check (nI a)=some 80∧¬ okG a):=by
 unfold g_order_Check
 rw [nI_len]
 by_cases h1:a.length < 1
 ·right
  rw [if_pos (by simp; omega)]
  exact ⟨rfl,fun h=>by have:=h.1; omega⟩
 by_cases h2:a.length > 10
 ·right
  rw [if_neg (by simp; omega),if_pos (by simp; omega)]
  exact ⟨rfl,fun h=>by have:=h.2.1; omega⟩
 rw [if_neg (by simp; omega),if_neg (by simp; omega)]
 obtain ⟨r,e,hr⟩:=rng_loop (n:=a.length) (k0:=0) (by omega) (by omega) (fun i (t:Unit)=>i) (body:=g_order_Check_b1 (nI a)) (fun k t=>∀v,v < k→okV a v) (fun r=>(∃u,r=Sum.inl u∧¬ ∀v,v < a.length→okV a v)∨(∃u,r=Sum.inr u∧∀v,v < a.length→okV a v))
  (fun k t _ h3 hI=>by
   unfold g_order_Check_b1
   rw [nI_len,if_pos (dlt h3),nI_getD h3,Option.bind_some,if_pos (nat_ge _),fdiv_n (by omega)]
   by_cases c1:(a.getD k 0) / 2^a.length=0
   ·rw [c1,if_neg (by simp),if_pos (nat_ge k),u_bit (u64s_at ha h3) (by omega),beq_bit]
    by_cases c2:(a.getD k 0).testBit k=true
    ·refine .inr ⟨_,by rw [if_pos c2],.inl ⟨(),rfl,fun h=>?_⟩⟩
     have:=(h k h3).2.1
     rw [c2] at this; cases this
    ·rw [if_neg c2]
     obtain ⟨r,e,hr⟩:=check_row ha (by omega) h3
     rw [e,Option.bind_some]
     rcases hr with ⟨u,rfl,hr⟩ | ⟨u,rfl,hr⟩
     ·exact .inr ⟨_,rfl,.inl ⟨(),rfl,fun h=>hr (h k h3).2.2⟩⟩
     ·refine .inl ⟨(),rfl,fun w hw=>?_⟩
      rcases Nat.lt_succ_iff_lt_or_eq.1 hw with h | h
      ·exact hI w h
      ·rw [h]; exact ⟨c1,by simpa using c2,hr⟩
   ·refine .inr ⟨_,by rw [if_pos (nz_ne c1)],.inl ⟨(),rfl,fun h=>c1 (h k h3).1⟩⟩)
  (fun t hI=>⟨_,by unfold g_order_Check_b1; rw [nI_len,if_neg (nlt _)],.inr ⟨(),rfl,hI⟩⟩) () (fun w hw=>by omega)
 rw [show ((0:Nat):Int)=0 from rfl] at e
 rw [e,Option.bind_some]
 rcases hr with ⟨u,rfl,hr⟩ | ⟨u,rfl,hr⟩
 ·exact .inr ⟨rfl,fun h=>hr h.2.2⟩
 ·exact .inl ⟨rfl,by omega,by omega,hr⟩
theorem right_row {a:List Nat} (ha:u64s a) (hn:a.length≤10) {v:Nat} (hv:v < a.length) :
  ∃r,whileN fuel (g_ref08_Right_b0 (nI a) ((a.getD v 0:Nat):Int) (v:Int)) 0=some r∧((∃u,r=Sum.inl u∧¬ ∀w,w < a.length→(a.getD v 0).testBit w=(a.getD w 0).testBit v)∨(∃u,r=Sum.inr u∧∀w,w < a.length→(a.getD v 0).testBit w=(a.getD w 0).testBit v)):=by
 exact rng_loop (n:=a.length) (k0:=0) (by omega) (by omega) (fun i (t:Unit)=>i) (body:=g_ref08_Right_b0 (nI a) ((a.getD v 0:Nat):Int) (v:Int)) (fun k t=>∀w,w < k→(a.getD v 0).testBit w=(a.getD w 0).testBit v) (fun r=>(∃u,r=Sum.inl u∧¬ ∀w,w < a.length→(a.getD v 0).testBit w=(a.getD w 0).testBit v)∨(∃u,r=Sum.inr u∧∀w,w < a.length→(a.getD v 0).testBit w=(a.getD w 0).testBit v))
  (fun k t _ h2 hI=>by
   have hb:g_ref08_Right_b0 (nI a) ((a.getD v 0:Nat):Int) (v:Int) (k:Int)=if (!((a.getD v 0).testBit k==(a.getD k 0).testBit v))=true then some (.done (Sum.inl ())) else some (.next (IntKind.i64.wrap ((k:Int)+1))):=by
    unfold g_ref08_Right_b0
    rw [nI_len,if_pos (dlt h2),in_spec (u64s_at ha hv) (by omega),Option.bind_some,nI_getD h2,Option.bind_some,in_spec (u64s_at ha h2) (by omega),Option.bind_some]
   by_cases c:(a.getD v 0).testBit k=(a.getD k 0).testBit v
   ·refine .inl ⟨(),?_,fun w hw=>?_⟩
    ·rw [hb,if_neg (by simpa using c)]
    ·rcases Nat.lt_succ_iff_lt_or_eq.1 hw with h | h
     ·exact hI w h
     ·rw [h]; exact c
   ·refine .inr ⟨_,by rw [hb,if_pos (by simpa using c)],.inl ⟨(),rfl,fun h=>c (h k h2)⟩⟩)
  (fun t hI=>⟨_,by unfold g_ref08_Right_b0; rw [nI_len,if_neg (nlt _)],.inr ⟨(),rfl,hI⟩⟩) () (fun w hw=>by omega)
theorem right_spec {a:List Nat} (ha:u64s a):(g_ref08_Right (nI a)=some true∧okG a)∨(g_ref08_Right (nI a)=some false∧¬ okG a):=by
 unfold g_ref08_Right
 rw [nI_len]
 by_cases h1:a.length < 1
 ·right
  rw [if_pos (by simp; omega)]
  exact ⟨rfl,fun h=>by have:=h.1; omega⟩
 by_cases h2:a.length > 10
 ·right
  rw [if_neg (by simp; omega),if_pos (by simp; omega)]
  exact ⟨rfl,fun h=>by have:=h.2.1; omega⟩
 rw [if_neg (by simp; omega),if_neg (by simp; omega)]
 obtain ⟨r,e,hr⟩:=rng_loop (n:=a.length) (k0:=0) (by omega) (by omega) (fun i (t:Unit)=>i) (body:=g_ref08_Right_b1 (nI a)) (fun k t=>∀v,v < k→okV a v) (fun r=>(∃u,r=Sum.inl u∧¬ ∀v,v < a.length→okV a v)∨(∃u,r=Sum.inr u∧∀v,v < a.length→okV a v))
  (fun k t _ h3 hI=>by
   unfold g_ref08_Right_b1
   rw [nI_len,if_pos (dlt h3),nI_getD h3,Option.bind_some,u64_nat (show a.length < 18446744073709551616 by omega),if_pos (nat_ge _),fdiv_n (by omega)]
   by_cases c1:(a.getD k 0) / 2^a.length=0
   ·rw [c1,if_neg (by simp),in_spec (u64s_at ha h3) (by omega),Option.bind_some]
    by_cases c2:(a.getD k 0).testBit k=true
    ·refine .inr ⟨_,by rw [if_pos c2],.inl ⟨(),rfl,fun h=>?_⟩⟩
     have:=(h k h3).2.1
     rw [c2] at this; cases this
    ·rw [if_neg c2]
     obtain ⟨r,e,hr⟩:=right_row ha (by omega) h3
     rw [e,Option.bind_some]
     rcases hr with ⟨u,rfl,hr⟩ | ⟨u,rfl,hr⟩
     ·exact .inr ⟨_,rfl,.inl ⟨(),rfl,fun h=>hr (h k h3).2.2⟩⟩
     ·refine .inl ⟨(),rfl,fun w hw=>?_⟩
      rcases Nat.lt_succ_iff_lt_or_eq.1 hw with h | h
      ·exact hI w h
      ·rw [h]; exact ⟨c1,by simpa using c2,hr⟩
   ·refine .inr ⟨_,by rw [if_pos (nz_ne c1)],.inl ⟨(),rfl,fun h=>c1 (h k h3).1⟩⟩)
  (fun t hI=>⟨_,by unfold g_ref08_Right_b1; rw [nI_len,if_neg (nlt _)],.inr ⟨(),rfl,hI⟩⟩) () (fun w hw=>by omega)
 rw [show ((0:Nat):Int)=0 from rfl] at e
 rw [e,Option.bind_some]
 rcases hr with ⟨u,rfl,hr⟩ | ⟨u,rfl,hr⟩
 ·exact .inr ⟨rfl,fun h=>hr h.2.2⟩
 ·exact .inl ⟨rfl,by omega,by omega,hr⟩
theorem okG_gl {a:List Nat} (h:okG a):∃A,Good a.length A∧nI a=gl a.length A:=by
 refine ⟨fun u w=>decide (u < a.length) && (decide (w < a.length) && (a.getD u 0).testBit w),⟨fun u w=>?_,fun u=>?_,fun u w h1=>?_⟩,?_⟩
 ·by_cases h1:u < a.length
  ·by_cases h2:w < a.length
   ·simp only [h1,h2,decide_true,Bool.true_and]
    exact (h.2.2 u h1).2.2 w h2
   ·simp [h2]
  ·simp [h1]
 ·by_cases h1:u < a.length
  ·rw [(h.2.2 u h1).2.1]; simp
  ·simp [h1]
 ·simp at h1; exact h1.1
 ·apply List.ext_getElem?
  intro v
  by_cases hv:v < a.length
  ·rw [gl_get hv]
   have:(nI a)[v]?=some ((a.getD v 0:Nat):Int):=by unfold nI; simp [hv]
   rw [this]
   congr 2
   refine msk_eq ?_ fun i hi=>by simp [hv,hi]
   have h0:=(h.2.2 v hv).1
   have hp:=Nat.two_pow_pos a.length
   rcases Nat.lt_or_ge (a.getD v 0) (2^a.length) with h | h
   ·exact h
   ·have:=Nat.div_pos h hp; omega
  ·rw [List.getElem?_eq_none (by rw [nI_len]; omega),List.getElem?_eq_none (by rw [gl_len]; omega)]
theorem gl_nI (n:Nat) (A:Gr):gl n A=nI ((List.range n).map fun v=>msk n (A v)):=by unfold gl nI; rw [List.map_map]; rfl
theorem gl_u64s {n:Nat} (hn:n≤10) (A:Gr):u64s ((List.range n).map fun v=>msk n (A v)):=fun x hx=>by
 obtain ⟨v,_,rfl⟩:=List.mem_map.1 hx
 exact lt64 hn (msk_lt n _)
theorem good_okG {n:Nat} {A:Gr} (h1:1≤n) (hn:n≤10) (hG:Good n A):okG ((List.range n).map fun v=>msk n (A v)):=by
 have hl:((List.range n).map fun v=>msk n (A v)).length=n:=by simp
 have at':∀v,v < n→((List.range n).map fun v=>msk n (A v)).getD v 0=msk n (A v):=fun v hv=>by simp [hv]
 refine ⟨by omega,by omega,fun v hv=>?_⟩
 rw [hl] at hv
 unfold okV
 rw [hl,at' v hv]
 refine ⟨Nat.div_eq_of_lt (msk_lt n _),by rw [bitS v hv,hG.irr],fun w hw=>?_⟩
 rw [at' w hw,bitS w hw,bitS v hv,hG.sym]
theorem check_gl {n:Nat} {A:Gr} (h1:1≤n) (hn:n≤10) (hG:Good n A):g_order_Check (gl n A)=some 0:=by
 rw [gl_nI]
 rcases check_spec (gl_u64s hn A) with h | h
 ·exact h.1
 ·exact absurd (good_okG h1 hn hG) h.2
theorem read_ord {n:Nat} {A:Gr} {o:List Nat} (h1:1≤n) (hn:n≤10) (hG:Good n A) (ho:Ord n o):g_order_read (gl n A) (nI o)=some 0:=by
 unfold g_order_read
 rw [check_gl h1 hn hG,Option.bind_some,if_neg (by decide),nI_len,gl_len,ho.len,if_neg (by simp)]
 obtain ⟨r,e,hr⟩:=read_loop hn (gl_len n A) (l:=nI o) (by rw [nI_len,ho.len]; omega)
 rw [e,Option.bind_some]
 rcases hr with ⟨u,rfl,hr⟩ | ⟨u,rfl,hr⟩
 ·exact absurd (ord_okL ho) hr
 ·rfl
theorem read_bad {n:Nat} {A:Gr} {l:List Int} (h1:1≤n) (hn:n≤10) (hG:Good n A) (hl:l.length≤1000) (h:¬ (l.length=n∧okL n l)):g_order_read (gl n A) l=some 81:=by
 unfold g_order_read
 rw [check_gl h1 hn hG,Option.bind_some,if_neg (by decide),gl_len]
 by_cases c:l.length=n
 ·rw [c,if_neg (by simp)]
  obtain ⟨r,e,hr⟩:=read_loop hn (gl_len n A) (l:=l) hl
  rw [e,Option.bind_some]
  rcases hr with ⟨u,rfl,hr⟩ | ⟨u,rfl,hr⟩
  ·rfl
  ·exact absurd ⟨c,hr⟩ h
 ·rw [if_pos (by simp; omega)]
theorem Fill_ord {n:Nat} {A:Gr} {o:List Nat} (h1:1≤n) (hn:n≤10) (hG:Good n A) (ho:Ord n o):g_order_Fill (gl n A) (nI o)=some ((newL n (wholeA n A o) A n).map pI,0):=by
 have hl:o.length≤1000:=by rw [ho.len]; omega
 unfold g_order_Fill
 rw [read_ord h1 hn hG ho,Option.bind_some,if_neg (by decide),run_spec hn hG ho.lt hl,Option.bind_some,sort_fill hn hG hl]; rfl
theorem Width_ord {n:Nat} {A:Gr} {o:List Nat} (h1:1≤n) (hn:n≤10) (hG:Good n A) (ho:Ord n o):g_order_Width (gl n A) (nI o)=some ((widL n A o:Int),0):=by
 have hl:o.length≤1000:=by rw [ho.len]; omega
 unfold g_order_Width
 rw [read_ord h1 hn hG ho,Option.bind_some,if_neg (by decide),run_spec hn hG ho.lt hl]; rfl
theorem Fill_err {g l:List Int} {e:Int} (h:g_order_read g l=some e) (he:e≠0):g_order_Fill g l=some ([],e):=by
 unfold g_order_Fill
 rw [h,Option.bind_some,if_pos (by simpa using he)]
theorem Width_err {g l:List Int} {e:Int} (h:g_order_read g l=some e) (he:e≠0):g_order_Width g l=some (0,e):=by
 unfold g_order_Width
 rw [h,Option.bind_some,if_pos (by simpa using he)]
theorem read_err {g l:List Int} (h:g_order_Check g=some 80):g_order_read g l=some 80:=by
 unfold g_order_read
 rw [h,Option.bind_some,if_pos (by decide)]
theorem perm_spec {n:Nat} {l:List Int} (hn:n≤1000):(g_ref02_Permutation l (n:Int)=some true∧l.length=n∧okL n l)∨(g_ref02_Permutation l (n:Int)=some false∧¬ (l.length=n∧okL n l)):=by
 unfold g_ref02_Permutation
 by_cases c:l.length=n
 ·rw [c,if_neg (by simp),if_pos (by omega),Int.toNat_natCast]
  obtain ⟨r,e,hr⟩:=perm_loop hn c
  rw [e,Option.bind_some]
  rcases hr with ⟨u,rfl,hr⟩ | ⟨u,rfl,hr⟩
  ·exact .inr ⟨rfl,fun h=>hr h.2⟩
  ·exact .inl ⟨rfl,rfl,hr⟩
 ·rw [if_pos (by simp; omega)]
  exact .inr ⟨rfl,fun h=>c h.1⟩
end Go.Ab
namespace Go.Ab
open Go
set_option maxRecDepth 100000
set_option maxHeartbeats 400000
theorem wf_u8 {n:Int} (h:(Lit.int .u8 n).wf=true):0≤n∧n≤255:=by
 simpa [Lit.wf,IntKind.min,IntKind.max,IntKind.bits,IntKind.signed] using h
theorem wf_u64 {n:Int} (h:(Lit.int .u64 n).wf=true):0≤n∧n≤18446744073709551615:=by
 simpa [Lit.wf,IntKind.min,IntKind.max,IntKind.bits,IntKind.signed] using h
theorem u64_rng (x:Int):0≤IntKind.u64.wrap x∧IntKind.u64.wrap x < 18446744073709551616:=by
 simp [IntKind.wrap,IntKind.bits,IntKind.signed]; omega
theorem nI_of {l:List Int} (h:∀x∈l,0≤x∧x < 18446744073709551616):∃a,l=nI a∧u64s a∧a.length=l.length:=by
 refine ⟨l.map Int.toNat,?_,fun x hx=>?_,by simp⟩
 ·unfold nI
  rw [List.map_map]
  refine (List.ext_getElem (by simp) fun i h1 h2=>?_)
  have:=h l[i] (List.getElem_mem h1)
  simp; omega
 ·obtain ⟨y,hy,rfl⟩:=List.mem_map.1 hx
  have:=h y hy; omega
theorem join_good {n a b:Nat} {A:Gr} (hG:Good n A) (ha:a < n) (hb:b < n) (hne:a≠b):Good n (joinL A [(a,b)]):=by
 have key:=joinL_iff A [(a,b)]
 refine ⟨fun u w=>?_,fun u=>?_,fun u w h=>?_⟩
 ·rw [Bool.eq_iff_iff,key,key,hG.sym u w]; grind
 ·rw [Bool.eq_false_iff]; intro h
  rw [key,hG.irr] at h
  simp at h
  omega
 ·rw [key] at h
  rcases h with h | h | h
  ·exact hG.lt u w h
  ·simp at h; omega
  ·simp at h; omega
theorem good_empty (n:Nat):Good n (fun _ _=>false):=⟨fun _ _=>rfl,fun _=>rfl,fun _ _ h=>by cases h⟩
theorem gl_zero (n:Nat):List.replicate n (0:Int)=gl n fun _ _=>false:=by
 apply List.ext_getElem?
 intro v
 by_cases hv:v < n
 ·rw [gl_get hv]
  have:msk n (fun _=>false)=0:=(msk_eq (by have:=Nat.two_pow_pos n; omega) fun i _=>by simp).symm
  rw [this]; simp [hv]
 ·rw [List.getElem?_eq_none (by simp; omega),List.getElem?_eq_none (by rw [gl_len]; omega)]
def dN (d:Tharuspexref08_Draft):Nat := 1+(d.N % 7).toNat
theorem dN_eq {d:Tharuspexref08_Draft} (h:okTharuspexref08_Draft d):IntKind.i64.wrap (1+IntKind.i64.wrap (Int.tmod d.N 7))=(dN d:Int)∧1≤dN d∧dN d≤7:=by
 have h0:=wf_u8 h.1
 rw [tmod_pos h0.1]
 unfold dN
 rw [w64 (n:=d.N % 7) (by omega),w64 (by omega)]
 omega
theorem mod_nat {x:Int} {n:Nat} (h:0≤x∧x≤255) (hn:1≤n):∃a:Nat,Int.tmod (IntKind.i64.wrap x) (n:Int)=(a:Int)∧a < n:=by
 rw [w64 (by omega),tmod_pos h.1]
 refine ⟨(x % n).toNat,?_,?_⟩
 ·have:=Int.emod_nonneg x (b:=(n:Int)) (by omega); omega
 ·have h1:=Int.emod_nonneg x (b:=(n:Int)) (by omega)
  have h2:=Int.emod_lt_of_pos x (b:=(n:Int)) (by omega)
  omega
theorem draft_graph {d:Tharuspexref08_Draft} (h:okTharuspexref08_Draft d):∃A,Good (dN d) A∧g_ref08_Draft_Graph d=some (gl (dN d) A):=by
 obtain ⟨e,h1,h7⟩:=dN_eq h
 have hlen:=h.2.1.1
 unfold g_ref08_Draft_Graph
 rw [e,if_pos (by omega),Int.toNat_natCast,gl_zero]
 obtain ⟨r,e1,A,hG,rfl⟩:=rng_loop (n:=min d.E.length 30) (k0:=0) (by omega) (by omega) (fun i (t:List Int)=>(i,t)) (body:=g_ref08_Draft_Graph_b0 d) (fun k t=>∃A,Good (dN d) A∧t=gl (dN d) A) (fun r=>∃A,Good (dN d) A∧r=gl (dN d) A)
  (fun k t _ h2 hI=>by
   obtain ⟨A,hG,rfl⟩:=hI
   have h2':k < d.E.length:=by omega
   have hm:=h.2.1.2 _ (List.getElem_mem h2')
   have ek:=lkI_nat h2'
   generalize d.E[k]=p at hm ek
   unfold g_ref08_Draft_Graph_b0
   dsimp only
   rw [if_pos (dlt h2')]
   by_cases c:(k:Int) < 30
   ·rw [if_pos (by simpa using c),ek,Option.bind_some,e,if_pos (by omega),if_pos (by omega)]
    obtain ⟨a,ea,ha⟩:=mod_nat (n:=dN d) (wf_u8 hm.1) h1
    obtain ⟨b,eb,hb⟩:=mod_nat (n:=dN d) (wf_u8 hm.2) h1
    rw [ea,eb]
    by_cases hab:a=b
    ·subst hab
     exact .inl ⟨_,by rw [if_neg (by simp)],A,hG,rfl⟩
    ·have hj:=refJoin (n:=dN d) (A:=A) (l:=[(a,b)]) (by omega) (fun p hp=>by simp at hp; subst hp; exact ⟨ha,hb,hab⟩) (by simp)
     have e3:([(a,b)]:List (Nat × Nat)).map pI=[((a:Int),(b:Int))]:=rfl
     rw [e3] at hj
     exact .inl ⟨_,by rw [if_pos (by simp; omega),hj]; rfl,_,join_good hG ha hb hab,rfl⟩
   ·exact .inr ⟨_,by rw [if_neg (by simpa using c)],A,hG,rfl⟩)
  (fun t hI=>by
   obtain ⟨A,hG,rfl⟩:=hI
   refine ⟨_,?_,A,hG,rfl⟩
   unfold g_ref08_Draft_Graph_b0
   dsimp only
   by_cases c:d.E.length≤30
   ·rw [Nat.min_eq_left c,if_neg (nlt _)]
   ·rw [Nat.min_eq_right (by omega),if_pos (by simp; omega),if_neg (by simp)])
  (gl (dN d) fun _ _=>false) ⟨_,good_empty _,rfl⟩
 rw [show ((0:Nat):Int)=0 from rfl] at e1
 exact ⟨A,hG,by rw [e1]; rfl⟩
theorem sub_nI (l:List Nat) (a b:Nat):sub (nI l) (a:Int) (b:Int)=nI ((l.drop a).take (b - a)):=by simp [sub,nI,List.map_drop,List.map_take]
theorem ord_ins {k a:Nat} {o:List Nat} (h:Ord k o) (ha:a≤k):Ord (k+1) (o.take a++[k]++o.drop a):=by
 have hp:(o.take a++[k]++o.drop a).Perm (k::o):=by
  rw [List.append_assoc]
  refine (List.perm_middle (l₁:=o.take a) (a:=k) (l₂:=o.drop a)).trans ?_
  rw [List.take_append_drop]
 refine ⟨?_,fun v hv=>?_,?_⟩
 ·rw [hp.length_eq,List.length_cons,h.len]
 ·rcases List.mem_cons.1 (hp.mem_iff.1 hv) with e | e
  ·omega
  ·have:=h.lt v e; omega
 ·rw [hp.nodup_iff]
  exact List.nodup_cons.2 ⟨fun hk=>by have:=h.lt k hk; omega,h.nodup⟩
theorem draft_list {d:Tharuspexref08_Draft} (h:okTharuspexref08_Draft d):∃o,Ord (dN d) o∧g_ref08_Draft_List d=some (nI o):=by
 obtain ⟨e,h1,h7⟩:=dN_eq h
 obtain ⟨A,hG,eg⟩:=draft_graph h
 have hlen:=h.2.2.1
 unfold g_ref08_Draft_List
 obtain ⟨r,e1,o,ho,rfl⟩:=rng_loop (n:=dN d) (k0:=0) (by omega) (by omega) (fun i (t:List Int)=>(i,t)) (body:=g_ref08_Draft_List_b0 d) (fun k t=>∃o,Ord k o∧t=nI o) (fun r=>∃o,Ord (dN d) o∧r=nI o)
  (fun k t _ h2 hI=>by
   obtain ⟨o,ho,rfl⟩:=hI
   refine .inl ?_
   unfold g_ref08_Draft_List_b0
   dsimp only
   rw [eg,Option.bind_some,gl_len,if_pos (dlt h2)]
   have put:∀a:Nat,a≤k→sub (nI o) (0:Int) (a:Int)++([(k:Int)]:List Int)++sub (nI o) (a:Int) ((nI o).length:Int)=nI (o.take a++[k]++o.drop a):=fun a ha=>by
    have e1:=sub_nI o 0 a
    rw [show ((0:Nat):Int)=0 from rfl] at e1
    have hl:(o.drop a).length=k - a:=by rw [List.length_drop,ho.len]
    rw [e1,nI_len,sub_nI,ho.len,List.take_of_length_le (l:=o.drop a) (by omega)]
    simp [nI]
   have len1:∀a:Nat,a≤k→(sub (nI o) (0:Int) (a:Int)).length≤k:=fun a ha=>by
    have e1:=sub_nI o 0 a
    rw [show ((0:Nat):Int)=0 from rfl] at e1
    rw [e1,nI_len]
    simp; omega
   have len2:∀a:Nat,a≤k→(sub (nI o) (0:Int) (a:Int)++([(k:Int)]:List Int)++sub (nI o) (a:Int) ((nI o).length:Int)).length≤k+1:=fun a ha=>by
    rw [put a ha,nI_len,(ord_ins ho ha).len]; exact Nat.le_refl _
   have hol:(nI o).length=k:=by rw [nI_len,ho.len]
   by_cases c:(k:Int) < (d.Order.length:Int)
   ·have hk:k < d.Order.length:=by omega
    have hm:=h.2.2.2 _ (List.getElem_mem hk)
    have ek:=lkI_nat hk
    generalize d.Order[k]=p at hm ek
    obtain ⟨a,ea,ha⟩:=mod_nat (n:=k+1) (wf_u8 hm) (by omega)
    refine ⟨_,?_,_,ord_ins (a:=a) ho (by omega),rfl⟩
    have l1:=len1 a (by omega)
    have l2:=len2 a (by omega)
    have l3:(sub (nI o) (0:Int) (a:Int)++([(k:Int)]:List Int)).length≤k+1:=by rw [List.length_append]; simp; omega
    rw [if_pos (by simpa using c),ek,Option.bind_some,i_succ (by omega),if_pos (by omega),ea,if_pos (by omega),if_pos (by omega),if_pos (by omega),if_pos (by omega),if_pos (by omega),put a (by omega)]
   ·refine ⟨_,?_,_,ord_ins (a:=0) ho (by omega),rfl⟩
    have l1:=len1 0 (by omega)
    have l2:=len2 0 (by omega)
    have l3:(sub (nI o) (0:Int) ((0:Nat):Int)++([(k:Int)]:List Int)).length≤k+1:=by rw [List.length_append]; simp; omega
    have p0:=put 0 (by omega)
    rw [show ((0:Nat):Int)=0 from rfl] at l1 l2 l3 p0
    rw [if_neg (by simpa using c),if_pos (by omega),if_pos (by omega),if_pos (by omega),if_pos (by omega),if_pos (by omega),p0])
  (fun t hI=>by
   obtain ⟨o,ho,rfl⟩:=hI
   exact ⟨_,by unfold g_ref08_Draft_List_b0; dsimp only; rw [eg,Option.bind_some,gl_len,if_neg (nlt _)],o,ho,rfl⟩)
  [] ⟨[],⟨rfl,fun v hv=>by simp at hv,by simp⟩,rfl⟩
 rw [show ((0:Nat):Int)=0 from rfl] at e1
 exact ⟨o,ho,by rw [e1]; rfl⟩
theorem sub_lim {α:Type} (l:List α) (m:Nat):sub l 0 (if (m:Int) < (l.length:Int) then (m:Int) else (l.length:Int))=l.take m:=by
 unfold sub
 simp only [Int.toNat_zero,List.drop_zero,Nat.sub_zero]
 split
 ·rw [Int.toNat_natCast]
 ·rw [Int.toNat_natCast,List.take_length,List.take_of_length_le (by omega)]
def rngU (l:List Int):Prop:=∀x∈l,0≤x∧x < 18446744073709551616
theorem rngU_set {l:List Int} (h:rngU l) (k:Nat) (x:Int):rngU (l.set k (IntKind.u64.wrap x)):=fun y hy=>by
 rcases List.mem_or_eq_of_mem_set hy with h1 | h1
 ·exact h y h1
 ·rw [h1]; exact u64_rng x
theorem few_spec {l:List Int} (h:rngU l):∃x,g_law08_few l=some x∧rngU x∧x.length≤11:=by
 unfold g_law08_few
 by_cases c:(l.length:Int) > 10
 ·rw [if_pos (by simpa using c),if_pos (by omega)]
  refine ⟨_,rfl,fun x hx=>h x ?_,?_⟩
  ·unfold sub at hx; exact List.mem_of_mem_drop (List.mem_of_mem_take hx)
  ·unfold sub; simp; omega
 ·rw [if_neg (by simpa using c),if_pos (by split <;> omega)]
  have:=sub_lim l 7
  rw [show ((7:Nat):Int)=7 from rfl] at this
  rw [this]
  exact ⟨_,rfl,fun x hx=>h x (List.mem_of_mem_take hx),by simp; omega⟩
theorem even_spec {x1:List Int} (h:rngU x1) (hl:x1.length≤11):∃m:Nat,(if 7 < (x1.length:Int) then 7 else (x1.length:Int))=(m:Int)∧m≤7∧∃y,whileN fuel (g_law08_graphs_b1 x1) (0,List.replicate m (0:Int))=some y∧rngU y∧y.length≤7:=by
 obtain ⟨m,em,hm7,hml⟩:∃m:Nat,(if 7 < (x1.length:Int) then 7 else (x1.length:Int))=(m:Int)∧m≤7∧m≤x1.length:=by
  refine ⟨min 7 x1.length,?_,by omega,by omega⟩
  split <;> omega
 refine ⟨m,em,hm7,?_⟩
 have inner:∀(v:Nat) (t:List Int) (s2:List Int),v < m→rngU t→t.length=m→∃y,whileN fuel (g_law08_graphs_b0 x1 ((v:Int),s2)) (0,t)=some y∧rngU y∧y.length=m:=fun v t s2 hv ht htl=>by
  have hh:=rng_loop (n:=m) (k0:=0) (by omega) (by omega) (fun i (t:List Int)=>(i,t)) (body:=g_law08_graphs_b0 x1 ((v:Int),s2)) (fun k t=>rngU t∧t.length=m) (fun r=>rngU r∧r.length=m)
   (fun k t _ h2 hI=>by
    obtain ⟨i1,i2⟩:=hI
    unfold g_law08_graphs_b0
    dsimp only
    rw [em,if_pos (dlt h2)]
    have ev:lkI x1 (v:Int)=some x1[v]:=lkI_nat (by omega)
    have ek:lkI x1 (k:Int)=some x1[k]:=lkI_nat (by omega)
    have et:lkI t (v:Int)=some t[v]:=lkI_nat (by omega)
    rw [ev,ek,et]
    simp only [Option.bind_some,if_pos (nat_ge k),if_pos (nat_ge v)]
    left
    by_cases c1:((v:Int) != (k:Int))=true
    ·simp only [c1,if_true]
     split
     ·exact ⟨_,rfl,rngU_set i1 _ _,by rw [List.length_set]; exact i2⟩
     ·split
      ·exact ⟨_,rfl,rngU_set i1 _ _,by rw [List.length_set]; exact i2⟩
      ·exact ⟨_,rfl,i1,i2⟩
    ·rw [if_neg c1]
     exact ⟨_,rfl,i1,i2⟩)
   (fun t hI=>⟨_,by unfold g_law08_graphs_b0; dsimp only; rw [em,if_neg (nlt _)],hI⟩) t ⟨ht,htl⟩
  exact hh
 have hh:=rng_loop (n:=m) (k0:=0) (by omega) (by omega) (fun i (t:List Int)=>(i,t)) (body:=g_law08_graphs_b1 x1) (fun k t=>rngU t∧t.length=m) (fun r=>rngU r∧r.length=m)
   (fun k t _ h2 hI=>by
    unfold g_law08_graphs_b1
    dsimp only
    rw [em,if_pos (dlt h2)]
    obtain ⟨y,e1,e2⟩:=inner k t t h2 hI.1 hI.2
    rw [e1]
    exact .inl ⟨_,rfl,e2⟩)
   (fun t hI=>⟨_,by unfold g_law08_graphs_b1; dsimp only; rw [em,if_neg (nlt _)],hI⟩) (List.replicate m (0:Int)) ⟨fun x hx=>by
    have:=List.eq_of_mem_replicate hx; omega,by simp⟩
 obtain ⟨y,e1,e2,e3⟩:=hh
 exact ⟨y,e1,e2,by omega⟩
theorem graphs_spec {raw:List Int} {d:Tharuspexref08_Draft} (h:rngU raw) (hd:okTharuspexref08_Draft d) :
  ∃x y A,g_law08_graphs raw d=some (x,y,gl (dN d) A)∧rngU x∧rngU y∧x.length≤11∧y.length≤11∧Good (dN d) A∧g_ref08_Draft_Graph d=some (gl (dN d) A):=by
 obtain ⟨x,e1,hx,hxl⟩:=few_spec h
 obtain ⟨m,em,hm,y,e2,hy,hyl⟩:=even_spec hx hxl
 obtain ⟨A,hG,e3⟩:=draft_graph hd
 refine ⟨x,y,A,?_,hx,hy,hxl,by omega,hG,e3⟩
 unfold g_law08_graphs
 rw [e1,Option.bind_some,em,if_pos (by omega),Int.toNat_natCast,e2,Option.bind_some,e3]; rfl
end Go.Ab
namespace Go.Ab
open Go
set_option maxRecDepth 100000
set_option maxHeartbeats 400000
theorem works_true:g_law08_works=some true:=by kernel_rfl
theorem pairs_same (l:List (Int × Int)) (h:l.length≤1000):g_ref08_Pairs l l=some true:=by
 unfold g_ref08_Pairs
 rw [if_neg (by simp)]
 have:=rng_run (n:=l.length) (k0:=0) (by omega) (by omega) (fun i (_:Unit)=>i) (body:=g_ref08_Pairs_b0 l l) (fun _=>()) (Sum.inr ())
  (fun k _ h2=>by
   unfold g_ref08_Pairs_b0
   rw [if_pos (dlt h2),lkI_nat h2,Option.bind_some,Option.bind_some,if_neg (by simp)])
  (by unfold g_ref08_Pairs_b0; rw [if_neg (nlt _)])
 rw [show ((0:Nat):Int)=0 from rfl] at this
 rw [this]; rfl
theorem bad_orders {p1 x g:List Int} (h:g_order_Check g=some 80):∃u,whileN fuel (g_law08_OrderWidths_b0 p1 x g) 0=some (Sum.inr u):=by
 obtain ⟨r,h1,h2⟩:=rng_loop (n:=2) (k0:=0) (by omega) (by omega) (fun i (_:Unit)=>i) (body:=g_law08_OrderWidths_b0 p1 x g) (fun _ _=>True) (fun r=>∃u,r=Sum.inr u)
  (fun k t _ h2 _=>.inl ⟨(),by
   unfold g_law08_OrderWidths_b0
   rw [if_pos (by simp; omega),lkI_nat (by simpa using h2)]
   simp only [Option.bind_some,Fill_err (read_err h) (by decide),Width_err (read_err h) (by decide)]
   rfl,trivial⟩)
  (fun t _=>⟨_,by unfold g_law08_OrderWidths_b0; rw [if_neg (by decide)],(),rfl⟩) () trivial
 obtain ⟨u,rfl⟩:=h2
 exact ⟨u,h1⟩
theorem good_orders {p1 x:List Int} {n:Nat} {A:Gr} (h1:1≤n) (hn:n≤10) (hG:Good n A) (hx:x.length≤1000):∃u,whileN fuel (g_law08_OrderWidths_b1 p1 x (gl n A)) 0=some (Sum.inr u):=by
 obtain ⟨r,e1,e2⟩:=rng_loop (n:=2) (k0:=0) (by omega) (by omega) (fun i (_:Unit)=>i) (body:=g_law08_OrderWidths_b1 p1 x (gl n A)) (fun _ _=>True) (fun r=>∃u,r=Sum.inr u)
  (fun k t _ h2 _=>.inl ⟨(),by
   unfold g_law08_OrderWidths_b1
   have h11:=sub_lim p1 11
   rw [show ((11:Nat):Int)=11 from rfl] at h11
   rw [h11,if_pos (by simp; omega),lkI_nat (by simpa using h2),Option.bind_some]
   have hl:([p1.take 11,x][k]'(by simpa using h2)).length≤1000:=by
    match k,h2 with
    | 0,_=>simp; omega
    | 1,_=>simpa using hx
   generalize [p1.take 11,x][k]'(by simpa using h2)=l at hl
   rw [gl_len]
   rcases perm_spec (n:=n) (l:=l) (by omega) with ⟨hp,hln,hok⟩ | ⟨hp,hbad⟩
   ·obtain ⟨o,rfl,ho⟩:=okL_nI hok hln
    have ho2:o.length≤1000:=by rw [ho.len]; omega
    have hlen:((newL n (wholeA n A o) A n).map pI).length≤1000:=by
     have:=newL_len n (wholeA n A o) A n
     have:=Nat.mul_le_mul hn hn
     rw [List.length_map]; omega
    simp only [Fill_ord h1 hn hG ho,Width_ord h1 hn hG ho,hp,Option.bind_some,refFill hn hG ho.lt ho2,refWidth hn hG ho.lt ho2,pairs_same _ hlen]
    rw [if_neg (by decide),if_neg (by simp),if_neg (by decide),if_neg (by simp),if_neg (by simp)]
   ·have hr:=read_bad h1 hn hG hl hbad
    simp only [Fill_err hr (by decide),Width_err hr (by decide),hp,Option.bind_some]
    rfl,trivial⟩)
  (fun t _=>⟨_,by unfold g_law08_OrderWidths_b1; rw [if_neg (by decide)],(),rfl⟩) () trivial
 obtain ⟨u,rfl⟩:=e2
 exact ⟨u,e1⟩
theorem widths_true (p0 p1:List Int) (p2:Tharuspexref08_Draft) (h0:p0.length≤maxLen∧∀y0∈p0,(Lit.int .u64 y0).wf=true) (h1:p1.length≤maxLen∧∀y0∈p1,(Lit.int .i64 y0).wf=true) (h2:okTharuspexref08_Draft p2) :
  g_law08_OrderWidths p0 p1 p2=some true:=by
 obtain ⟨x,y,A,e1,hx,hy,hxl,hyl,hG,_⟩:=graphs_spec (raw:=p0) (d:=p2) (fun v hv=>by have:=wf_u64 (h0.2 v hv); omega) h2
 obtain ⟨_,d1,d7⟩:=dN_eq h2
 obtain ⟨o,ho,eo⟩:=draft_list h2
 unfold g_law08_OrderWidths
 rw [works_true,Option.bind_some,if_neg (by decide),if_pos (by split <;> omega),e1,Option.bind_some]
 have hgs:∀k:Nat,k < 3→∃a,lkI ([x,y,gl (dN p2) A]:List (List Int)) (k:Int)=some (nI a)∧u64s a∧a.length≤11:=fun k hk=>by
  match k,hk with
  | 0,_ =>
   obtain ⟨a,rfl,ha,hl⟩:=nI_of hx
   exact ⟨a,rfl,ha,by omega⟩
  | 1,_ =>
   obtain ⟨a,rfl,ha,hl⟩:=nI_of hy
   exact ⟨a,rfl,ha,by omega⟩
  | 2,_=>exact ⟨_,by rw [←gl_nI]; rfl,gl_u64s (by omega) A,by simp; omega⟩
 obtain ⟨r,e2,u,rfl⟩:=rng_loop (n:=3) (k0:=0) (by omega) (by omega) (fun i (_:Unit)=>i) (body:=g_law08_OrderWidths_b2 (x,y,gl (dN p2) A) p2 p1) (fun _ _=>True) (fun r=>∃u,r=Sum.inr u)
  (fun k t _ h2 _=>.inl ⟨(),by
   obtain ⟨a,ek,ha,hl⟩:=hgs k h2
   unfold g_law08_OrderWidths_b2
   dsimp only
   rw [if_pos (by simp; omega),ek,Option.bind_some]
   rcases right_spec ha with ⟨r1,r2⟩ | ⟨r1,r2⟩
   ·rcases check_spec ha with ⟨c1,_⟩ | ⟨_,c2⟩
    ·obtain ⟨B,hB,eB⟩:=okG_gl r2
     rw [r1,Option.bind_some,c1,Option.bind_some,if_neg (by decide),if_neg (by decide),eo,Option.bind_some,eB]
     obtain ⟨u,hu⟩:=good_orders (p1:=p1) (x:=nI o) r2.1 r2.2.1 hB (by rw [nI_len,ho.len]; omega)
     rw [hu,Option.bind_some]
    ·exact absurd r2 c2
   ·rcases check_spec ha with ⟨_,c2⟩ | ⟨c1,_⟩
    ·exact absurd c2 r2
    ·rw [r1,Option.bind_some,c1,Option.bind_some,if_neg (by decide),if_pos (by decide),if_neg (by decide),eo,Option.bind_some]
     obtain ⟨u,hu⟩:=bad_orders (p1:=p1) (x:=nI o) c1
     rw [hu,Option.bind_some],trivial⟩)
  (fun t _=>⟨_,by unfold g_law08_OrderWidths_b2; rw [if_neg (by decide)],(),rfl⟩) () trivial
 rw [show ((0:Nat):Int)=0 from rfl] at e2
 rw [e2]; rfl
#print axioms widths_true
end Go.Ab
namespace Go.Ab
open Go Go.Proofs Go.Proofs.YtjhfdojgaoapcaaDoor
open Go.ChangeShapes Go.WideShapes Go.ChangeAt Go.RowKit
abbrev dr_laid:List (String × DataW Unit):=[("math/bits.deBruijn32tab",Rows.laid_math_bits_deBruijn32tab),("math/bits.deBruijn64tab",Rows.laid_math_bits_deBruijn64tab)]
theorem dr_own:ownKnob Tryd.prog.godebug=none:=by kernel_rfl
theorem dr_g0:Tryd.prog.globalNamed "math/bits.deBruijn32tab" = some 0:=by kernel_rfl
theorem dr_g1:Tryd.prog.globalNamed "math/bits.deBruijn64tab" = some 1:=by kernel_rfl
theorem dr_met (os:Os) (args:Array Value):laidMetH Tryd.prog dr_laid ((World.doorLaid Tryd.prog 19 os).forCall (fun _ _=>0) ⟨#[],args,[]⟩).memory :=
 laidMetH_of_parts3 (fuel:=8) (laidMet_of_run' 8 (by kernel_rfl) (by kernel_rfl)) (by kernel_rfl) (by kernel_rfl)
theorem dr_glob {W:World} (h:laidMetH Tryd.prog dr_laid W):Go.Ab.GlobIn W:=by
 rw [MakeChecks.laidMetH_plain _ _ _ (by kernel_rfl)] at h
 have h0:=Lib.tabIs_of_head (k:=.u8) (zs:=Go.Ab.tab0) (t:=135) (e:=5) (n:=32) dr_g0 (by kernel_rfl) (by kernel_rfl) (by kernel_rfl) (by kernel_rfl) (by kernel_rfl) h
 have h1:=Lib.tabIs_of_head (k:=.u8) (zs:=Go.Ab.tab1) (t:=136) (e:=5) (n:=64) dr_g1 (by kernel_rfl) (by kernel_rfl) (by kernel_rfl) (by kernel_rfl) (by kernel_rfl) h.tail
 intro g xs hg i v hv
 match g,hg with
 | 0,hg =>
  cases hg
  have hi:i < Go.Ab.tab0.length:=by have:=(List.getElem?_eq_some_iff.1 hv).1; simpa using this
  have:=h0.cell dr_g0 i hi
  rw [this]
  rw [List.getElem?_map] at hv
  simpa [List.getD,hi] using hv
 | 1,hg =>
  cases hg
  have hi:i < Go.Ab.tab1.length:=by have:=(List.getElem?_eq_some_iff.1 hv).1; simpa using this
  have:=h1.cell dr_g1 i hi
  rw [this]
  rw [List.getElem?_map] at hv
  simpa [List.getD,hi] using hv
 | n+2,hg=>cases hg
end Go.Ab
