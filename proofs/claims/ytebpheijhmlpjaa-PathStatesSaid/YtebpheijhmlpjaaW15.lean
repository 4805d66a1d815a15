/- What functions compute. No conditions. -/
import Derived.Test.YtebpheijhmlpjaaW14
set_option linter.all false
namespace Go.Ab
open Go
set_option maxRecDepth 100000
def MX:Nat := 4611686018427387903
theorem mx_eq:MX=4611686018427387903:=rfl
theorem total_row {n:Nat} {f:Nat → Nat} (hn:n≤1000) (hb:sumTo n f≤MX):g_ref17_Total (rowI n f)=some ((sumTo n f:Nat):Int):=by
 have hMX:=mx_eq
 unfold g_ref17_Total
 rw [whileN_run (s0:=((0:Int),(0:Int))) (fun j=>(((sumTo j f:Nat):Int),(j:Int))) n ((sumTo n f:Nat):Int) rfl ?_ ?_ (by omega)]
 ·rfl
 ·intro j hj
  unfold g_ref17_Total_b0
  simp only [rowI_len]
  rw [if_pos (by rw [decide_eq_true_eq]; omega),rowI_get hj]
  simp only [Option.bind_some]
  have:=sumTo_mono (f:=f) (show j+1≤n by omega)
  simp only [sumTo] at this
  rw [←Int.natCast_add,w64 (by omega),w64 (by omega)]
  rfl
 ·unfold g_ref17_Total_b0
  simp only [rowI_len]
  rw [if_neg (by simp)]
def rowG {α:Type} (n:Nat) (F:Nat → α):List α:=(List.range n).map F
theorem rowG_len {α:Type} {n:Nat} {F:Nat → α}:(rowG n F).length=n:=by simp [rowG]
theorem rowG_get {α:Type} {n:Nat} {F:Nat → α} {k:Nat} (h:k < n):lkI (rowG n F) (k:Int)=some (F k):=by
 rw [lkI_nat (by rw [rowG_len]; exact h)]; simp [rowG]
theorem rowG_congr {α:Type} {n:Nat} {F G:Nat → α} (h:∀k,k < n→F k=G k):rowG n F=rowG n G:=by
 unfold rowG
 apply List.map_congr_left
 intro t ht
 exact h t (by simpa using ht)
theorem rowG_set {α:Type} {n:Nat} {F:Nat → α} {k:Nat} {x:α}:(rowG n F).set k x=rowG n (fun s=>if s=k then x else F s):=by
 apply List.ext_getElem?
 intro s
 rw [List.getElem?_set]
 simp only [rowG,List.getElem?_map,List.length_map,List.length_range]
 by_cases e:k=s
 ·subst e
  rw [if_pos rfl]
  by_cases hk:k < n
  ·rw [if_pos hk,List.getElem?_range hk]; simp
  ·rw [if_neg hk,List.getElem?_eq_none (by simpa using hk)]; rfl
 ·rw [if_neg e]
  by_cases hs:s < n
  ·rw [List.getElem?_range hs]; simp only [Option.map_some]; rw [if_neg (Ne.symm e)]
  ·rw [List.getElem?_eq_none (by simpa using hs)]; rfl
theorem rowG_rep {α:Type} (n:Nat) (x:α):List.replicate n x=rowG n (fun _=>x):=by
 apply List.ext_getElem?
 intro s
 rw [List.getElem?_replicate]
 by_cases hs:s < n
 ·rw [if_pos hs]; simp [rowG,List.getElem?_range hs]
 ·rw [if_neg hs,List.getElem?_eq_none (by rw [rowG_len]; omega)]
theorem rowG_succ {α:Type} {n:Nat} {F:Nat → α}:rowG n F++[F n]=rowG (n+1) F:=by
 unfold rowG; rw [List.range_succ]; simp
theorem fb_step (h:Tapi_Hidden) (n:Nat) (seen:List Int) {T t:Nat} (ht:t+1 < T) :
  sumTo n (fun s=>fw h n seen t s*bw h n seen T t s)=sumTo n (fun s=>fw h n seen (t+1) s*bw h n seen T (t+1) s):=by
 have e1:sumTo n (fun s=>fw h n seen t s*bw h n seen T t s)=sumTo n fun s=>sumTo n fun r=>fw h n seen t s*(nat2 h.Step s r*shN h (seen.getD (t+1) 0) r*bw h n seen T (t+1) r) :=
  sumTo_congr fun s _=>by rw [bw_step h n seen ht,sumTo_mul]
 have e2:sumTo n (fun s=>fw h n seen (t+1) s*bw h n seen T (t+1) s)=sumTo n fun s=>sumTo n fun r=>fw h n seen t r*(nat2 h.Step r s*shN h (seen.getD (t+1) 0) s*bw h n seen T (t+1) s) :=
  sumTo_congr fun s _=>by
   simp only [fw]
   rw [Nat.mul_assoc,←sumTo_mulr]
   exact sumTo_congr fun r _=>by simp only [Nat.mul_assoc]
 rw [e1,e2,sumTo_comm]
theorem fb_total (h:Tapi_Hidden) (n:Nat) (seen:List Int) {T:Nat}:∀(d t:Nat),t+d+1=T→sumTo n (fun s=>fw h n seen t s*bw h n seen T t s)=sumTo n (fw h n seen (T - 1))
 | 0,t,e=>by
  have:t=T - 1:=by omega
  subst this
  exact sumTo_congr fun s _=>by rw [bw_last,Nat.mul_one]
 | d+1,t,e=>by
  rw [fb_step h n seen (by omega:t+1 < T),fb_total h n seen d (t+1) (by omega)]
section
variable {h:Tapi_Hidden} {g n k:Nat} (v:VH h g n k) {seen:List Int} {T:Nat} (w:VS k seen T) (hT:1≤T∧T≤8)
include v
include w hT
theorem VH.fw_mx {t:Nat} (ht:t < T):sumTo n (fw h n seen t)≤MX:=by
 have:=v.fw_sum seen t
 have:=pow12' (e:=2*(t+1)) v.g12 (by omega)
 have hMX:=mx_eq
 omega
theorem VH.last:lkI (tabI T n (fw h n seen)) (IntKind.i64.wrap (((tabI T n (fw h n seen)).length:Int) - 1))=some (rowI n (fw h n seen (T - 1))):=by
 rw [tabI_len,w64 (by omega),show ((T:Int) - 1)=((T - 1:Nat):Int) by omega,tabI_get (by omega)]
theorem VH.all_eq:g_ref17_All h seen=some ((sumTo n (fw h n seen (T - 1)):Nat):Int):=by
 have hn4:=v.n4
 unfold g_ref17_All
 rw [v.rforward_eq w hT]
 simp only [Option.bind_some]
 rw [v.last w hT]
 simp only [Option.bind_some]
 rw [total_row (by omega) (v.fw_mx w hT (by omega))]
 rfl
end
structure Valid (h:Tapi_Hidden) (seen:List Int) (g n k:Nat):Prop where
 v:VH h g n k
 w:VS k seen seen.length
 t1:1≤seen.length
 t8:seen.length≤8
 ok:OkH h
 e:errN h seen=0
section
variable {h:Tapi_Hidden} {seen:List Int} {g n k:Nat} (a:Valid h seen g n k)
include a
theorem Valid.watch:g_hidden_newWatcher h seen=some (⟨h,seen⟩,0):=by
 have:=a.t8
 rw [watcher_eq h seen a.ok (by omega),if_pos a.e,a.e]
theorem Valid.errs:g_ref17_Errors h seen=some 0:=by
 have:=a.t8
 rw [errors_eq h seen a.ok (by omega),a.e]
end
theorem VH.head {h:Tapi_Hidden} {g n k:Nat} (v:VH h g n k):(h.Show.headD []).length=k:=by
 have h1:=v.showL; have h2:=v.n1
 cases hs:h.Show with
 | nil=>rw [hs] at h1; simp at h1; omega
 | cons x L=>exact (v.shows x (by rw [hs]; simp)).1
theorem VH.right {h:Tapi_Hidden} {g n k:Nat} (v:VH h g n k):rightB h=true:=by
 have h0:=v.head
 have h1:=v.firstL; have h2:=v.stepL; have h3:=v.showL; have h4:=v.grain; have h5:=v.g1; have h6:=v.g12; have h7:=v.n1; have h8:=v.n4; have h9:=v.k1; have h10:=v.k4
 unfold rightB
 simp only [Bool.and_eq_true,decide_eq_true_eq,beq_iff_eq,List.all_eq_true,rowB_iff]
 refine ⟨by omega,by omega,by omega,by omega,by omega,by omega,by omega,by rw [h4]; exact v.first,⟨by omega,fun l hl=>?_⟩,by omega,fun l hl=>?_⟩
 ·obtain ⟨a,b⟩:=v.step l hl; exact ⟨by omega,by rw [h4]; exact b⟩
 ·obtain ⟨a,b⟩:=v.shows l hl; exact ⟨by omega,by rw [h4]; exact b⟩
theorem VH.valid {h:Tapi_Hidden} {g n k:Nat} (v:VH h g n k) {seen:List Int} (w:VS k seen seen.length) (t1:1≤seen.length) (t8:seen.length≤8):Valid h seen g n k:=by
 refine ⟨v,w,t1,t8,v.few.ok,?_⟩
 unfold errN
 rw [if_pos v.right,if_pos]
 unfold seenB seesB
 rw [Bool.and_eq_true,Bool.and_eq_true,decide_eq_true_eq,decide_eq_true_eq,List.all_eq_true]
 refine ⟨fun x hx=>?_,by omega,by omega⟩
 rw [Bool.and_eq_true,decide_eq_true_eq,decide_eq_true_eq,v.head]
 exact w.all x hx
theorem draft_valid (p0:Tharuspexref17_Draft) (h0:okTharuspexref17_Draft p0):∃h seen g n k,g_ref17_Draft_Hidden p0=some h∧g_ref17_Draft_What p0=some seen∧Valid h seen g n k:=by
 obtain ⟨h,g,n,k,e,v,hk⟩:=draft_ok p0 h0
 obtain ⟨seen,ex,x1,x8,xs⟩:=what_ok p0 h0 hk
 exact ⟨h,seen,g,n,k,e,ex,v.valid xs x1 x8⟩
end Go.Ab
namespace Go.Ab
open Go
set_option maxRecDepth 100000
def argm (f:Nat → Nat):Nat → Nat
 | 0=>0
 | j+1=>if f j > f (argm f j) then j else argm f j
theorem argm_lt (f:Nat → Nat):∀(n:Nat),0 < n→argm f n < n
 | 1,_=>by simp [argm]
 | n+2,_=>by
  have:=argm_lt f (n+1) (by omega)
  rw [argm]; split <;> omega
theorem argm_max (f:Nat → Nat):∀(n s:Nat),s < n→f s≤f (argm f n)
 | n+1,s,h=>by
  rw [argm]
  by_cases c:f n > f (argm f n)
  ·rw [if_pos c]
   rcases Nat.lt_or_ge s n with h1 | h1
   ·have:=argm_max f n s h1; omega
   ·rw [show s=n by omega]; exact Nat.le_refl _
  ·rw [if_neg c]
   rcases Nat.lt_or_ge s n with h1 | h1
   ·exact argm_max f n s h1
   ·rw [show s=n by omega]; omega
theorem argm_first (f:Nat → Nat):∀(n s:Nat),s < argm f n→f s < f (argm f n)
 | 0,s,h=>by simp [argm] at h
 | n+1,s,h=>by
  rw [argm] at h ⊢
  by_cases c:f n > f (argm f n)
  ·rw [if_pos c] at h ⊢
   have:=argm_max f n s h; omega
  ·rw [if_neg c] at h ⊢
   exact argm_first f n s h
theorem tot_last (h:Tapi_Hidden) (n:Nat) (seen:List Int) {T:Nat} (hT:1≤T):totN h n seen T=sumTo n (fw h n seen (T - 1)):=by
 rw [←fb_total h n seen (T - 1) 0 (by omega)]
 unfold totN
 exact sumTo_congr fun s _=>by simp only [fw]
def staN (h:Tapi_Hidden) (n:Nat) (seen:List Int):List Int:=rowI seen.length fun t=>argm (fun s=>fw h n seen t s*bw h n seen seen.length t s) n
section
variable {h:Tapi_Hidden} {seen:List Int} {g n k:Nat} (a:Valid h seen g n k)
include a
theorem Valid.fb_mx {t s:Nat} (ht:t < seen.length) (hs:s < n):fw h n seen t s*bw h n seen seen.length t s≤MX:=by
 have hT:1≤seen.length∧seen.length≤8:=⟨a.t1,a.t8⟩
 have e:=fb_total h n seen (seen.length - 1 - t) t (T:=seen.length) (by omega)
 have:=sumTo_one (f:=fun s=>fw h n seen t s*bw h n seen seen.length t s) hs
 rw [e] at this
 exact Nat.le_trans this (a.v.fw_mx a.w hT (by omega))
theorem Valid.states (h0:sumTo n (fw h n seen (seen.length - 1))≠0):g_path_States h seen=some (staN h n seen,0):=by
 have hT:1≤seen.length∧seen.length≤8:=⟨a.t1,a.t8⟩
 have hn4:=a.v.n4
 have hMX:=mx_eq
 unfold g_path_States
 rw [searcher_eq h seen a.ok (by omega),if_pos a.e,a.e]
 simp only [Option.bind_some]
 rw [if_neg (by simp),a.v.total_eq a.w hT]
 simp only [Option.bind_some]
 rw [tot_last h n seen hT.1,if_neg (by rw [beq_iff_eq]; omega),a.v.forward_call a.w hT a.ok a.e]
 simp only [Option.bind_some]
 rw [if_neg (by simp),a.v.backward_call a.w hT a.ok a.e]
 simp only [Option.bind_some]
 rw [if_neg (by simp),if_pos (by omega),nat_i,rowI_zero]
 rw [whileN_run (fun j=>((j:Int),rowI seen.length fun t=>if t < j then argm (fun s=>fw h n seen t s*bw h n seen seen.length t s) n else 0)) seen.length (staN h n seen) ?_ ?_ ?_ (by omega)]
 ·rfl
 ·exact Prod.ext rfl (rowI_congr fun t _=>by rw [if_neg (by omega)])
 ·intro j hj
  unfold g_path_States_b1
  simp only [tabI_len]
  rw [if_pos (by rw [decide_eq_true_eq]; omega),tabI_get hj]
  simp only [Option.bind_some]
  rw [whileN_run (fun i=>((((if i=0 then 0 else fw h n seen j (argm (fun s=>fw h n seen j s*bw h n seen seen.length j s) i)*bw h n seen seen.length j (argm (fun s=>fw h n seen j s*bw h n seen seen.length j s) i)):Nat):Int),(i:Int),
   rowI seen.length fun t=>if t < j then argm (fun s=>fw h n seen t s*bw h n seen seen.length t s) n else if t=j then argm (fun s=>fw h n seen j s*bw h n seen seen.length j s) i else 0)) n
   (rowI seen.length fun t=>if t < j+1 then argm (fun s=>fw h n seen t s*bw h n seen seen.length t s) n else 0) ?_ ?_ ?_ (by omega)]
  ·simp only [Option.bind_some]
   rw [w64 (by omega)]; rfl
  ·refine Prod.ext rfl (Prod.ext rfl (rowI_congr fun t _=>?_))
   by_cases e1:t < j
   ·rw [if_pos e1,if_pos e1]
   ·rw [if_neg e1,if_neg e1]; simp [argm]
  ·intro i hi
   unfold g_path_States_b0
   simp only [rowI_len]
   rw [if_pos (by rw [decide_eq_true_eq]; omega),rowI_get hi]
   simp only [Option.bind_some]
   rw [tabI_get hj]
   simp only [Option.bind_some]
   rw [rowI_get hi]
   simp only [Option.bind_some]
   have hm:=a.fb_mx hj hi
   have e2:∀i',IntKind.i64.wrap (((i':Nat):Int)+1)=((i'+1:Nat):Int)∨1000 < i':=fun i'=>by
    rcases Nat.lt_or_ge 1000 i' with c | c
    ·exact .inr c
    ·left; rw [w64 (by omega)]; rfl
   rw [←Int.natCast_mul,w64 (n:=((fw h n seen j i*bw h n seen seen.length j i:Nat):Int)) (by omega),w64 (n:=(i:Int)+1) (by omega)]
   generalize hG:(fun s=>fw h n seen j s*bw h n seen seen.length j s)=G
   have hGi:∀s,fw h n seen j s*bw h n seen seen.length j s=G s:=fun s=>by rw [←hG]
   simp only [hGi]
   by_cases i0:i=0
   ·subst i0
    simp only [if_true,argm,Nat.lt_irrefl,if_false,gt_iff_lt]
    by_cases c:0 < G 0
    ·rw [if_pos (by rw [decide_eq_true_eq]; omega),lkI_nat (by rw [rowI_len]; exact hj)]
     simp only [Option.bind_some]
     congr 2
     refine Prod.ext rfl (Prod.ext rfl ?_)
     rw [nat_i,show ((0:Nat):Int)=((0:Nat):Int) from rfl,rowI_set]
     refine rowI_congr fun t _=>?_
     by_cases e1:t=j
     ·subst e1; simp
     ·rw [if_neg e1]
    ·rw [if_neg (by rw [decide_eq_true_eq]; omega)]
     congr 2
     refine Prod.ext ?_ (Prod.ext rfl rfl)
     simp; omega
   ·simp only [if_neg i0,Nat.add_one_ne_zero,if_false,argm]
    by_cases c:G i > G (argm G i)
    ·rw [if_pos (by rw [decide_eq_true_eq]; omega),lkI_nat (by rw [rowI_len]; exact hj)]
     simp only [Option.bind_some,if_pos c]
     congr 2
     refine Prod.ext rfl (Prod.ext rfl ?_)
     rw [nat_i,rowI_set]
     refine rowI_congr fun t _=>?_
     by_cases e1:t=j
     ·subst e1; simp
     ·rw [if_neg e1]; simp [e1]
    ·rw [if_neg (by rw [decide_eq_true_eq]; omega)]
     simp only [if_neg c]
     rfl
  ·unfold g_path_States_b0
   simp only [rowI_len]
   rw [if_neg (by simp)]
   congr 2
   refine rowI_congr fun t _=>?_
   by_cases e1:t < j
   ·rw [if_pos e1,if_pos (by omega)]
   ·rw [if_neg e1]
    by_cases e3:t=j
    ·subst e3; rw [if_pos rfl,if_pos (by omega)]
    ·rw [if_neg e3,if_neg (by omega)]
 ·unfold g_path_States_b1
  simp only [tabI_len]
  rw [if_neg (by simp)]
  congr 2
  unfold staN
  exact rowI_congr fun t ht=>by rw [if_pos ht]
theorem Valid.states0 (h0:sumTo n (fw h n seen (seen.length - 1))=0):g_path_States h seen=some ([],7)∧g_ref18_States h seen=some ([],7):=by
 have hT:1≤seen.length∧seen.length≤8:=⟨a.t1,a.t8⟩
 unfold g_path_States g_ref18_States
 rw [searcher_eq h seen a.ok (by omega),if_pos a.e,a.e,a.errs]
 simp only [Option.bind_some]
 rw [if_neg (by simp),if_neg (by simp),a.v.total_eq a.w hT,a.v.all_eq a.w hT]
 simp only [Option.bind_some]
 rw [tot_last h n seen hT.1,h0]
 exact ⟨rfl,rfl⟩
end
end Go.Ab
namespace Go.Ab
open Go
set_option maxRecDepth 100000
end Go.Ab
namespace Go.Ab
open Go
set_option maxRecDepth 100000
def qN (n d:Nat):Tapi_Q:=⟨((n / Nat.gcd n d:Nat):Int),((d / Nat.gcd n d:Nat):Int)⟩
theorem ratio_eq (n d:Nat) (hn:n≤184884258895036416) (hd:d≤184884258895036416) (h0:0 < d):g_weigh_Ratio (n:Int) (d:Int)=some (qN n d):=by
 unfold g_weigh_Ratio
 rw [w64 (by omega),if_neg (by omega)]
 rw [whileN_eq (fun s=>∃x y:Nat,s.1=(x:Int)∧s.2=(y:Int)∧Nat.gcd x y=Nat.gcd n d) (fun s=>s.2.toNat) ((Nat.gcd n d:Nat):Int) ?_ _ ⟨n,d,rfl,rfl,rfl⟩ (by simp; omega)]
 ·simp only [Option.bind_some]
  have hg:0 < Nat.gcd n d:=Nat.gcd_pos_of_pos_right _ h0
  have hg':((Nat.gcd n d:Nat):Int)≠0:=by omega
  rw [if_pos hg',if_pos hg',tdiv_pos (by omega),tdiv_pos (by omega)]
  have e1:(n:Int) / ((Nat.gcd n d:Nat):Int)=((n / Nat.gcd n d:Nat):Int):=by simp
  have e2:(d:Int) / ((Nat.gcd n d:Nat):Int)=((d / Nat.gcd n d:Nat):Int):=by simp
  have h1:=Nat.div_le_self n (Nat.gcd n d)
  have h2:=Nat.div_le_self d (Nat.gcd n d)
  rw [e1,e2]
  unfold qN
  generalize n / Nat.gcd n d=x at *
  generalize d / Nat.gcd n d=y at *
  rw [w64 (by omega),w64 (by omega)]
 ·rintro ⟨x0,y0⟩ ⟨x,y,h1,h2,h3⟩
  simp only at h1 h2
  subst h1; subst h2
  unfold g_weigh_Ratio_b0
  simp only
  by_cases hy:y=0
  ·right
   subst hy
   rw [if_neg (by simp)]
   rw [Nat.gcd_zero_right] at h3
   rw [h3]
  ·left
   rw [if_pos (by simp; omega),if_pos (by omega),tmod_pos (by omega)]
   refine ⟨_,rfl,⟨y,x % y,rfl,by simp,?_⟩,?_⟩
   ·rw [←h3,Nat.gcd_comm x y,Nat.gcd_rec y x,Nat.gcd_comm]
   ·simp only [Int.toNat_natCast]
    rw [show ((x:Int) % (y:Int)).toNat = x % y by rw [←Int.natCast_emod,Int.toNat_natCast]]
    exact Nat.mod_lt x (by omega)
theorem sum_row {n:Nat} {f:Nat → Nat} (hn:n≤1000) (hb:sumTo n f≤184884258895036416):g_hidden_sum_int (rowI n f)=some ((sumTo n f:Nat):Int):=by
 unfold g_hidden_sum_int
 rw [whileN_run (s0:=((0:Int),(0:Int))) (fun j=>(((sumTo j f:Nat):Int),(j:Int))) n ((sumTo n f:Nat):Int) rfl ?_ ?_ (by omega)]
 ·rfl
 ·intro j hj
  unfold g_hidden_sum_int_b0
  simp only [rowI_len]
  rw [if_pos (by rw [decide_eq_true_eq]; omega),rowI_get hj]
  simp only [Option.bind_some]
  have:=sumTo_mono (f:=f) (show j+1≤n by omega)
  simp only [sumTo] at this
  rw [←Int.natCast_add,w64 (by omega),w64 (by omega)]
  rfl
 ·unfold g_hidden_sum_int_b0
  simp only [rowI_len]
  rw [if_neg (by simp)]
def shL (n:Nat) (f:Nat → Nat):List Tapi_Q:=rowG n fun s=>qN (f s) (sumTo n f)
theorem divide_row {n:Nat} {f:Nat → Nat} (hn:n≤1000) (h0:0 < sumTo n f) (hb:sumTo n f≤184884258895036416):g_hidden_divide_int (rowI n f)=some (shL n f):=by
 unfold g_hidden_divide_int
 rw [sum_row hn hb]
 simp only [Option.bind_some]
 rw [rowI_len,if_pos (by omega),nat_i,rowG_rep]
 rw [whileN_run (fun j=>((j:Int),rowG n fun s=>if s < j then qN (f s) (sumTo n f) else ⟨0,0⟩)) n (shL n f) ?_ ?_ ?_ (by omega)]
 ·rfl
 ·exact Prod.ext rfl (rowG_congr fun s _=>by rw [if_neg (by omega)])
 ·intro j hj
  unfold g_hidden_divide_int_b0
  simp only [rowI_len]
  rw [if_pos (by rw [decide_eq_true_eq]; omega),rowI_get hj]
  simp only [Option.bind_some]
  rw [ratio_eq _ _ (Nat.le_trans (sumTo_one hj) hb) hb h0]
  simp only [Option.bind_some]
  rw [rowG_get hj]
  simp only [Option.bind_some]
  rw [w64 (by omega),nat_i,rowG_set]
  congr 2
  refine Prod.ext (by simp only []; omega) (rowG_congr fun s _=>?_)
  by_cases e:s=j
  ·subst e; rw [if_pos rfl,if_pos (by omega)]
  ·rw [if_neg e]
   by_cases e2:s < j
   ·rw [if_pos e2,if_pos (by omega)]
   ·rw [if_neg e2,if_neg (by omega)]
 ·unfold g_hidden_divide_int_b0
  simp only [rowI_len]
  rw [if_neg (by simp)]
  congr 2
  exact rowG_congr fun s hs=>by rw [if_pos hs]
section
variable {h:Tapi_Hidden} {g n k:Nat} (v:VH h g n k) {seen:List Int} {T:Nat} (w:VS k seen T) (hT:1≤T∧T≤8)
include v w hT
theorem VH.fw_lim {t:Nat} (ht:t < T):sumTo n (fw h n seen t)≤184884258895036416:=by
 have:=v.fw_sum seen t
 have:=pow12' (e:=2*(t+1)) v.g12 (by omega)
 omega
theorem VH.possible_eq:g_hidden_watcher_possible ⟨h,seen⟩=some (if sumTo n (fw h n seen (T - 1))=0 then ([],7) else (tabI T n (fw h n seen),0)):=by
 have hn4:=v.n4
 unfold g_hidden_watcher_possible
 rw [v.forward_eq w hT]
 simp only [Option.bind_some]
 rw [v.last w hT]
 simp only [Option.bind_some]
 rw [sum_row (by omega) (v.fw_lim w hT (by omega))]
 simp only [Option.bind_some]
 by_cases e:sumTo n (fw h n seen (T - 1))=0
 ·rw [if_pos (by rw [beq_iff_eq]; omega),if_pos e]
 ·rw [if_neg (by rw [beq_iff_eq]; omega),if_neg e]
end
def smoN (h:Tapi_Hidden) (n:Nat) (seen:List Int):List (List Tapi_Q) × Int :=
 if sumTo n (fw h n seen (seen.length - 1))=0 then ([],7) else (rowG seen.length fun t=>shL n fun s=>fw h n seen t s*bw h n seen seen.length t s,0)
theorem smooth_b3:@g_hidden_Smooth_b3=fun x=>g_hidden_watcher_backward_b3 x.1:=by
 have e1:@g_hidden_Smooth_b1=fun a s t x=>g_hidden_watcher_backward_b1 a s t x.1:=rfl
 have e2:@g_hidden_Smooth_b2=fun x=>g_hidden_watcher_backward_b2 x.1:=by
  funext x s t
  unfold g_hidden_Smooth_b2 g_hidden_watcher_backward_b2
  rw [e1]
 funext x s
 unfold g_hidden_Smooth_b3 g_hidden_watcher_backward_b3
 rw [e2]
theorem smooth_b0:@g_hidden_Smooth_b0=fun x=>g_hidden_watcher_backward_b0 x.1:=rfl
section
variable {h:Tapi_Hidden} {seen:List Int} {g n k:Nat} (a:Valid h seen g n k)
include a
theorem Valid.back:(whileN fuel (g_hidden_watcher_backward_b0 ⟨h,seen⟩) (0,List.replicate (Int.toNat (seen.length:Int)) ([]:List Int))).bind (fun x=>whileN fuel (g_hidden_watcher_backward_b3 ⟨h,seen⟩) (IntKind.i64.wrap ((seen.length:Int) - 1),x))=some (tabI seen.length n (bw h n seen seen.length)):=by
 have h1:=a.v.backward_eq a.w ⟨a.t1,a.t8⟩
 have h8:=a.t8
 unfold g_hidden_watcher_backward at h1
 rw [if_pos (by simp only []; omega)] at h1
 simpa using h1
theorem Valid.fb_lim {t s:Nat} (ht:t < seen.length) (hs:s < n):fw h n seen t s*bw h n seen seen.length t s≤184884258895036416∧sumTo n (fun s=>fw h n seen t s*bw h n seen seen.length t s)=sumTo n (fw h n seen (seen.length - 1)):=by
 have hT:1≤seen.length∧seen.length≤8:=⟨a.t1,a.t8⟩
 have e:=fb_total h n seen (seen.length - 1 - t) t (T:=seen.length) (by omega)
 refine ⟨?_,e⟩
 have:=sumTo_one (f:=fun s=>fw h n seen t s*bw h n seen seen.length t s) hs
 rw [e] at this
 exact Nat.le_trans this (a.v.fw_lim a.w hT (by omega))
theorem Valid.smooth:g_hidden_Smooth h seen=some (smoN h n seen):=by
 have hT:1≤seen.length∧seen.length≤8:=⟨a.t1,a.t8⟩
 have hn4:=a.v.n4
 unfold g_hidden_Smooth smoN
 rw [a.watch]
 simp only [Option.bind_some]
 rw [if_neg (by simp),a.v.possible_eq a.w hT]
 simp only [Option.bind_some]
 by_cases e:sumTo n (fw h n seen (seen.length - 1))=0
 ·rw [if_pos e,if_pos e,if_pos (by simp)]
 rw [if_neg e,if_neg e,if_neg (by simp),smooth_b0,smooth_b3]
 simp only []
 rw [if_pos (by omega)]
 obtain ⟨x,hx1,hx2⟩:=Option.bind_eq_some_iff.1 a.back
 rw [hx1]
 simp only [Option.bind_some]
 rw [hx2]
 simp only [Option.bind_some]
 rw [whileN_run (s0:=((0:Int),([]:List (List Tapi_Q)),tabI seen.length n (bw h n seen seen.length)))
  (fun j=>((j:Int),(rowG j fun t=>shL n fun s=>fw h n seen t s*bw h n seen seen.length t s),tabI seen.length n fun t s=>if t < j then fw h n seen t s*bw h n seen seen.length t s else bw h n seen seen.length t s)) seen.length
  (rowG seen.length fun t=>shL n fun s=>fw h n seen t s*bw h n seen seen.length t s) ?_ ?_ ?_ (by omega)]
 ·rfl
 ·refine Prod.ext rfl (Prod.ext rfl (tabI_congr fun t _ s _=>by simp))
 ·intro j hj
  unfold g_hidden_Smooth_b5
  simp only [tabI_len]
  rw [if_pos (by rw [decide_eq_true_eq]; omega),tabI_get hj]
  simp only [Option.bind_some]
  rw [whileN_run (s0:=((0:Int),tabI seen.length n fun t s=>if t < j then fw h n seen t s*bw h n seen seen.length t s else bw h n seen seen.length t s))
   (fun i=>((i:Int),tabI seen.length n fun t s=>if t < j∨t=j∧s < i then fw h n seen t s*bw h n seen seen.length t s else bw h n seen seen.length t s)) n
   (tabI seen.length n fun t s=>if t < j+1 then fw h n seen t s*bw h n seen seen.length t s else bw h n seen seen.length t s) ?_ ?_ ?_ (by omega)]
  ·simp only [Option.bind_some]
   rw [tabI_get hj]
   simp only [Option.bind_some]
   have hr:(rowI n fun s=>if j < j+1 then fw h n seen j s*bw h n seen seen.length j s else bw h n seen seen.length j s)=rowI n fun s=>fw h n seen j s*bw h n seen seen.length j s:=rowI_congr fun s _=>by rw [if_pos (by omega)]
   obtain ⟨_,hs⟩:=a.fb_lim hj (s:=0) (by have:=a.v.n1; omega)
   rw [if_pos (by rw [rowI_len,rowI_len]),hr,divide_row (by omega) (by rw [hs]; omega) (by rw [hs]; exact a.v.fw_lim a.w hT (by omega))]
   simp only [Option.bind_some]
   rw [rowG_succ (F:=fun t=>shL n fun s=>fw h n seen t s*bw h n seen seen.length t s),if_pos (by rw [rowG_len]; omega),w64 (by omega)]
   rfl
  ·refine Prod.ext rfl (tabI_congr fun t _ s _=>by simp)
  ·intro i hi
   unfold g_hidden_Smooth_b4
   simp only [rowI_len]
   rw [if_pos (by rw [decide_eq_true_eq]; omega),tabI_get hj]
   simp only [Option.bind_some]
   rw [rowI_get hi]
   simp only [Option.bind_some]
   rw [if_pos (by omega),tabI_get hj]
   simp only [Option.bind_some]
   rw [rowI_get hi]
   simp only [Option.bind_some]
   obtain ⟨hm,_⟩:=a.fb_lim hj hi
   rw [if_pos (by omega)]
   simp only [Nat.lt_irrefl,and_false,or_self,if_false,true_and,false_or]
   rw [←Int.natCast_mul,Nat.mul_comm (bw h n seen seen.length j i),w64 (by omega),w64 (by omega),nat_i,nat_i,rowI_set,tabI_set]
   congr 2
   refine Prod.ext (by simp only []; omega) (tabI_congr fun t _ s _=>?_)
   by_cases e1:t=j
   ·subst e1
    rw [if_pos rfl]
    by_cases e2:s=i
    ·subst e2; rw [if_pos rfl,if_pos (by omega)]
    ·rw [if_neg e2]
     by_cases e3:s < i
     ·rw [if_pos e3,if_pos (Or.inr ⟨rfl,by omega⟩)]
     ·rw [if_neg e3,if_neg (by omega)]
   ·rw [if_neg e1]
    by_cases e3:t < j
    ·rw [if_pos (by omega),if_pos (by omega)]
    ·rw [if_neg (by omega),if_neg (by omega)]
  ·unfold g_hidden_Smooth_b4
   simp only [rowI_len]
   rw [if_neg (by simp)]
   congr 2
   refine tabI_congr fun t _ s hs=>?_
   by_cases e3:t < j+1
   ·rw [if_pos (by omega),if_pos e3]
   ·rw [if_neg (by omega),if_neg e3]
 ·unfold g_hidden_Smooth_b5
  simp only [tabI_len]
  rw [if_neg (by simp)]
end
end Go.Ab
namespace Go.Ab
open Go
set_option maxRecDepth 100000
def cmpN (x y:Nat):Int:=if x < y then -1 else if x=y then 0 else 1
theorem cmpN_mul {c:Nat} (hc:0 < c) (x y:Nat):cmpN (c*x) (c*y)=cmpN x y:=by
 unfold cmpN
 by_cases h1:x < y
 ·rw [if_pos h1,if_pos (Nat.mul_lt_mul_of_pos_left h1 hc)]
 ·by_cases h2:x=y
  ·subst h2; rw [if_neg (by omega),if_pos rfl,if_neg (by omega),if_pos rfl]
  ·have:=Nat.mul_lt_mul_of_pos_left (show y < x by omega) hc
   rw [if_neg h1,if_neg h2,if_neg (by omega),if_neg (by omega)]
theorem cmpN_add (c x y:Nat):cmpN (c+x) (c+y)=cmpN x y:=by
 unfold cmpN
 by_cases h1:x < y
 ·rw [if_pos h1,if_pos (by omega)]
 ·by_cases h2:x=y
  ·rw [if_neg h1,if_pos h2,if_neg (by omega),if_pos (by omega)]
  ·rw [if_neg h1,if_neg h2,if_neg (by omega),if_neg (by omega)]
theorem cmpN_lt {n1 d1 n2 d2:Nat} (h1:0 < d1) (h2:0 < d2) (h:n1 / d1 < n2 / d2):n1*d2 < n2*d1:=by
 have a1:n1 < (n1 / d1+1)*d1:=by
  have:=Nat.div_add_mod n1 d1; have:=Nat.mod_lt n1 h1
  rw [Nat.add_mul,Nat.mul_comm (n1 / d1)]; omega
 have a2:n2 / d2*d2≤n2:=Nat.div_mul_le_self n2 d2
 calc n1*d2 < (n1 / d1+1)*d1*d2:=Nat.mul_lt_mul_of_pos_right a1 h2
   _≤n2 / d2*d1*d2:=Nat.mul_le_mul_right _ (Nat.mul_le_mul_right _ h)
   _=n2 / d2*d2*d1:=by rw [Nat.mul_assoc,Nat.mul_comm d1 d2,←Nat.mul_assoc]
   _≤n2*d1:=Nat.mul_le_mul_right _ a2
theorem w64n {n:Nat} (h:n≤9223372036854775807):IntKind.i64.wrap ((n:Nat):Int)=(n:Int):=w64 (by omega)
theorem compare_eq (n1 d1 n2 d2:Nat) (h1:0 < d1∧d1≤184884258895036416) (h2:0 < d2∧d2≤184884258895036416) (l1:n1≤184884258895036416) (l2:n2≤184884258895036416) :
  g_law18_compare ⟨(n1:Int),(d1:Int)⟩ ⟨(n2:Int),(d2:Int)⟩=some (cmpN (n1*d2) (n2*d1)):=by
 unfold g_law18_compare
 simp only []
 rw [if_neg (by rw [decide_eq_true_eq]; omega),if_neg (by rw [decide_eq_true_eq]; omega),if_neg (by rw [decide_eq_true_eq]; omega),if_neg (by rw [decide_eq_true_eq]; omega)]
 rw [whileN_eq (fun s=>∃a b c d:Nat,s=((a:Int),(b:Int),(c:Int),(d:Int))∧(0 < b∧b≤184884258895036416)∧(0 < d∧d≤184884258895036416)∧a≤184884258895036416∧c≤184884258895036416∧cmpN (a*d) (c*b)=cmpN (n1*d2) (n2*d1))
  (fun s=>s.2.1.toNat + s.2.2.2.toNat) (cmpN (n1*d2) (n2*d1)) (fun s hs=>?_) ((n1:Int),(d1:Int),(n2:Int),(d2:Int)) ⟨n1,d1,n2,d2,rfl,h1,h2,l1,l2,rfl⟩ (by simp only [Int.toNat_natCast]; omega)]
 ·rfl
 ·obtain ⟨a,b,c,d,rfl,hb,hd,la,lc,hC⟩:=hs
  unfold g_law18_compare_b0
  simp only []
  have q1:Int.tdiv (a:Int) (b:Int)=((a / b:Nat):Int):=by rw [tdiv_pos (by omega)]; rfl
  have q2:Int.tdiv (c:Int) (d:Int)=((c / d:Nat):Int):=by rw [tdiv_pos (by omega)]; rfl
  have r1:Int.tmod (a:Int) (b:Int)=((a % b:Nat):Int):=by rw [tmod_pos (by omega)]; rfl
  have r2:Int.tmod (c:Int) (d:Int)=((c % d:Nat):Int):=by rw [tmod_pos (by omega)]; rfl
  have b1:=Nat.div_le_self a b
  have b2:=Nat.div_le_self c d
  have b3:=Nat.mod_lt a hb.1
  have b4:=Nat.mod_lt c hd.1
  have e1:=Nat.div_add_mod a b
  have e2:=Nat.div_add_mod c d
  rw [if_pos (by omega),if_pos (by omega),q1,q2,r1,r2,w64n (Nat.le_trans b1 (by omega)),w64n (Nat.le_trans b2 (by omega))]
  by_cases cq:a / b=c / d
  ·rw [if_neg (by rw [cq]; simp),if_pos (by omega),if_pos (by omega)]
   have hr:cmpN (a*d) (c*b)=cmpN (a % b*d) (c % d*b):=by
    have x1:a*d=b*(a / b)*d+a % b*d:=by rw [←Nat.add_mul,e1]
    have x2:c*b=b*(a / b)*d+c % d*b:=by
     rw [cq,Nat.mul_comm b,Nat.mul_assoc,Nat.mul_comm b d,←Nat.mul_assoc,Nat.mul_comm (c / d) d,←Nat.add_mul,e2]
    rw [x1,x2,cmpN_add]
   rw [hr] at hC
   by_cases z1:a % b=0
   ·rw [if_pos (by rw [z1]; rfl)]
    rw [z1,Nat.zero_mul] at hC
    by_cases z2:c % d=0
    ·rw [z1,z2,if_pos (by simp)]
     rw [z2,Nat.zero_mul] at hC
     exact .inr (by rw [←hC]; rfl)
    ·rw [z1,if_neg (by rw [beq_iff_eq]; omega)]
     have:0 < c % d*b:=Nat.mul_pos (by omega) hb.1
     exact .inr (by rw [←hC,cmpN,if_pos this])
   ·rw [if_neg (by rw [beq_iff_eq]; omega)]
    by_cases z2:c % d=0
    ·rw [z2,if_pos (by simp),if_neg (by rw [beq_iff_eq]; omega)]
     rw [z2,Nat.zero_mul] at hC
     have:0 < a % b*d:=Nat.mul_pos (by omega) hd.1
     exact .inr (by rw [←hC,cmpN,if_neg (by omega),if_neg (by omega)])
    ·rw [if_neg (by rw [beq_iff_eq]; omega)]
     refine .inl ⟨_,rfl,⟨d,c % d,b,a % b,rfl,by omega,by omega,hd.2,hb.2,?_⟩,?_⟩
     ·rw [←hC,Nat.mul_comm d,Nat.mul_comm b]
     ·simp only [Int.toNat_natCast]; omega
  ·rw [if_pos (by rw [bne_iff_ne]; omega)]
   by_cases cl:a / b < c / d
   ·rw [if_pos (by rw [decide_eq_true_eq]; omega)]
    exact .inr (by rw [←hC,cmpN,if_pos (cmpN_lt hb.1 hd.1 cl)])
   ·rw [if_neg (by rw [decide_eq_true_eq]; omega)]
    have:=cmpN_lt hd.1 hb.1 (show c / d < a / b by omega)
    exact .inr (by rw [←hC,cmpN,if_neg (by omega),if_neg (by omega)])
theorem compare_q (x y S:Nat) (hS:0 < S∧S≤184884258895036416) (hx:x≤184884258895036416) (hy:y≤184884258895036416):g_law18_compare (qN x S) (qN y S)=some (cmpN x y):=by
 have g1:=Nat.gcd_pos_of_pos_right x hS.1
 have g2:=Nat.gcd_pos_of_pos_right y hS.1
 have p1:0 < S / Nat.gcd x S:=Nat.div_pos (Nat.le_of_dvd hS.1 (Nat.gcd_dvd_right x S)) g1
 have p2:0 < S / Nat.gcd y S:=Nat.div_pos (Nat.le_of_dvd hS.1 (Nat.gcd_dvd_right y S)) g2
 have a1:=Nat.div_le_self x (Nat.gcd x S)
 have a2:=Nat.div_le_self S (Nat.gcd x S)
 have a3:=Nat.div_le_self y (Nat.gcd y S)
 have a4:=Nat.div_le_self S (Nat.gcd y S)
 unfold qN
 rw [compare_eq _ _ _ _ ⟨p1,by omega⟩ ⟨p2,by omega⟩ (by omega) (by omega)]
 have d1:=Nat.mul_div_cancel' (Nat.gcd_dvd_left x S)
 have d2:=Nat.mul_div_cancel' (Nat.gcd_dvd_right x S)
 have d3:=Nat.mul_div_cancel' (Nat.gcd_dvd_left y S)
 have d4:=Nat.mul_div_cancel' (Nat.gcd_dvd_right y S)
 generalize Nat.gcd x S=g at *
 generalize Nat.gcd y S=g' at *
 have hg:0 < g*g':=Nat.mul_pos g1 g2
 rw [←cmpN_mul hg]
 have t1:g*g'*(x / g*(S / g'))=S*x:=by
  rw [Nat.mul_mul_mul_comm,d1,d4,Nat.mul_comm]
 have t2:g*g'*(y / g'*(S / g))=S*y:=by
  rw [Nat.mul_comm (y / g'),Nat.mul_mul_mul_comm,d2,d3]
 rw [t1,t2,cmpN_mul hS.1]
theorem states_true (p0:Tharuspexref17_Draft) (p1:List Int) (h0:okTharuspexref17_Draft p0) (h1:p1.length≤maxLen∧∀y0∈p1,(Lit.int .u8 y0).wf=true):g_law18_PathStates p0 p1=some true:=by
 obtain ⟨h,seen,g,n,c,e1,e2,a⟩:=draft_valid p0 h0
 have hT:1≤seen.length∧seen.length≤8:=⟨a.t1,a.t8⟩
 have hn1:=a.v.n1
 have hn4:=a.v.n4
 unfold g_law18_PathStates
 rw [wakes18_true]; simp only [Option.bind_some]
 rw [if_neg (by simp),e1]; simp only [Option.bind_some]
 rw [e2]; simp only [Option.bind_some]
 have hsm:=a.smooth
 unfold smoN at hsm
 by_cases c0:sumTo n (fw h n seen (seen.length - 1))=0
 ·rw [if_pos c0] at hsm
  rw [(a.states0 c0).1]; simp only [Option.bind_some]
  rw [hsm]; simp only [Option.bind_some]
  rfl
 ·rw [if_neg c0] at hsm
  rw [a.states c0]; simp only [Option.bind_some]
  rw [hsm]; simp only [Option.bind_some]
  have hsl:(staN h n seen).length=seen.length:=by unfold staN; rw [rowI_len]
  rw [if_neg (by simp),if_neg (by simp),if_neg (by simp only [hsl]; simp),if_neg (by simp only [rowG_len]; simp)]
  rw [whileN_run (s0:=(0:Int)) (fun j=>(j:Int)) seen.length (Sum.inr ()) rfl ?_ ?_ (by omega)]
  ·rfl
  ·intro t ht
   obtain ⟨_,hS⟩:=a.fb_lim ht (s:=0) (by omega)
   have hSl:=a.v.fw_lim a.w hT (t:=seen.length - 1) (by omega)
   have hG:=fun s (hs:s < n)=>(a.fb_lim ht hs).1
   unfold g_law18_PathStates_b1
   simp only [hsl]
   have hst:lkI (staN h n seen) (t:Int)=some ((argm (fun s=>fw h n seen t s*bw h n seen seen.length t s) n:Nat):Int):=by unfold staN; rw [rowI_get ht]
   rw [if_pos (by rw [decide_eq_true_eq]; omega),hst]
   simp only [Option.bind_some]
   rw [rowG_get ht]
   simp only [Option.bind_some]
   generalize hGe:(fun s=>fw h n seen t s*bw h n seen seen.length t s)=G at *
   have hGs:∀s,fw h n seen t s*bw h n seen seen.length t s=G s:=fun s=>by rw [←hGe]
   simp only [hGs] at hG
   have ha:=argm_lt G n (by omega)
   have hshl:(shL n G).length=n:=by unfold shL; rw [rowG_len]
   rw [if_neg (by rw [hshl,a.v.firstL]; simp),if_neg (by rw [decide_eq_true_eq]; omega),if_neg (by rw [decide_eq_true_eq,a.v.firstL]; omega)]
   rw [whileN_run (s0:=(0:Int)) (fun j=>(j:Int)) n (Sum.inr ()) rfl ?_ ?_ (by omega)]
   ·simp only [Option.bind_some]
    rw [w64 (by omega)]; rfl
   ·intro u hu
    unfold g_law18_PathStates_b0
    have hg:∀s,s < n→lkI (shL n G) (s:Int)=some (qN (G s) (sumTo n G)):=fun s hs=>by unfold shL; rw [rowG_get hs]
    rw [if_pos (by rw [hshl,decide_eq_true_eq]; omega),hg u hu]
    simp only [Option.bind_some]
    rw [hg _ ha]
    simp only [Option.bind_some]
    rw [compare_q _ _ _ ⟨by rw [hS]; omega,by rw [hS]; omega⟩ (hG u hu) (hG _ ha)]
    simp only [Option.bind_some]
    have m1:=argm_max G n u hu
    have m2:=argm_first G n u
    have hk:cmpN (G u) (G (argm G n))=-1∨cmpN (G u) (G (argm G n))=0∧¬ u < argm G n:=by
     unfold cmpN
     by_cases c1:G u < G (argm G n)
     ·left; rw [if_pos c1]
     ·right; rw [if_neg c1,if_pos (by omega)]; exact ⟨rfl,fun hu=>by have:=m2 hu; omega⟩
    rcases hk with hk | ⟨hk,hk2⟩
    ·rw [hk,if_neg (by decide),if_neg (by decide),w64 (by omega)]; rfl
    ·rw [hk,if_neg (by decide),if_pos (by decide),if_neg (by rw [decide_eq_true_eq]; omega),w64 (by omega)]; rfl
   ·unfold g_law18_PathStates_b0
    rw [if_neg (by rw [hshl]; simp)]
  ·unfold g_law18_PathStates_b1
   simp only [hsl]
   rw [if_neg (by simp)]
end Go.Ab
