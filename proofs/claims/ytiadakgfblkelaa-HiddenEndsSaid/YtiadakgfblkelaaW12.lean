/- What functions compute. No conditions. -/
import Derived.Test.YtiadakgfblkelaaW11
set_option linter.all false
namespace Go.Ab
open Go
set_option maxRecDepth 100000
structure FewH (h:Tapi_Hidden):Prop where
 first:h.First.length≤8
 step:h.Step.length≤8
 stepL:∀l∈h.Step,l.length≤8
 shows:h.Show.length≤8
 showsL:∀l∈h.Show,l.length≤8
theorem FewH.ok {h:Tapi_Hidden} (w:FewH h):OkH h :=
 ⟨Nat.le_trans w.first (by omega),Nat.le_trans w.step (by omega),fun l hl=>Nat.le_trans (w.stepL l hl) (by omega),Nat.le_trans w.shows (by omega),fun l hl=>Nat.le_trans (w.showsL l hl) (by omega)⟩
theorem VH.few {h:Tapi_Hidden} {g n k:Nat} (v:VH h g n k):FewH h:=by
 have:=v.n4; have:=v.k4
 exact ⟨by rw [v.firstL]; omega,by rw [v.stepL]; omega,fun l hl=>by rw [(v.step l hl).1]; omega,by rw [v.showL]; omega,fun l hl=>by rw [(v.shows l hl).1]; omega⟩
end Go.Ab
namespace Go.Ab
open Go
set_option maxRecDepth 100000
theorem wakes_true:g_law17_wakes=some true:=by kernel_rfl
end Go.Ab
namespace Go.Ab
open Go
set_option maxRecDepth 100000
theorem mx_eq:MX=4611686018427387903:=rfl
theorem sum_row {n:Nat} {f:Nat → Nat} (hn:n≤1000) (hb:sumTo n f≤MX):g_hidden_sum_int (rowI n f)=some ((sumTo n f:Nat):Int):=by
 have hMX:=mx_eq
 unfold g_hidden_sum_int
 rw [whileN_run (s0:=((0:Int),(0:Int))) (fun j=>(((sumTo j f:Nat):Int),(j:Int))) n ((sumTo n f:Nat):Int) rfl ?_ ?_ (by omega)]
 ·rfl
 ·intro j hj
  unfold g_hidden_sum_int_b0
  simp only [rowI_len]
  rw [if_pos (by rw [decide_eq_true_eq]; omega),rowI_get hj]
  simp only [Option.bind_some]
  have:=sumTo_mono (f:=f) (show j+1≤n by omega)
  simp only [sumTo] at this
  rw [←Int.natCast_add,w64 (by omega),w64 (by omega)]
  rfl
 ·unfold g_hidden_sum_int_b0
  simp only [rowI_len]
  rw [if_neg (by simp)]
def rowG {α:Type} (n:Nat) (F:Nat → α):List α:=(List.range n).map F
theorem rowG_len {α:Type} {n:Nat} {F:Nat → α}:(rowG n F).length=n:=by simp [rowG]
theorem rowG_get {α:Type} {n:Nat} {F:Nat → α} {k:Nat} (h:k < n):lkI (rowG n F) (k:Int)=some (F k):=by
 rw [lkI_nat (by rw [rowG_len]; exact h)]; simp [rowG]
theorem rowG_congr {α:Type} {n:Nat} {F G:Nat → α} (h:∀k,k < n→F k=G k):rowG n F=rowG n G:=by
 unfold rowG
 apply List.map_congr_left
 intro t ht
 exact h t (by simpa using ht)
theorem rowG_set {α:Type} {n:Nat} {F:Nat → α} {k:Nat} {x:α}:(rowG n F).set k x=rowG n (fun s=>if s=k then x else F s):=by
 apply List.ext_getElem?
 intro s
 rw [List.getElem?_set]
 simp only [rowG,List.getElem?_map,List.length_map,List.length_range]
 by_cases e:k=s
 ·subst e
  rw [if_pos rfl]
  by_cases hk:k < n
  ·rw [if_pos hk,List.getElem?_range hk]; simp
  ·rw [if_neg hk,List.getElem?_eq_none (by simpa using hk)]; rfl
 ·rw [if_neg e]
  by_cases hs:s < n
  ·rw [List.getElem?_range hs]; simp only [Option.map_some]; rw [if_neg (Ne.symm e)]
  ·rw [List.getElem?_eq_none (by simpa using hs)]; rfl
theorem rowG_rep {α:Type} (n:Nat) (x:α):List.replicate n x=rowG n (fun _=>x):=by
 apply List.ext_getElem?
 intro s
 rw [List.getElem?_replicate]
 by_cases hs:s < n
 ·rw [if_pos hs]; simp [rowG,List.getElem?_range hs]
 ·rw [if_neg hs,List.getElem?_eq_none (by rw [rowG_len]; omega)]
theorem rowG_succ {α:Type} {n:Nat} {F:Nat → α}:rowG n F++[F n]=rowG (n+1) F:=by
 unfold rowG; rw [List.range_succ]; simp
def shL (n:Nat) (f:Nat → Nat):List Tapi_Q:=rowG n fun s=>qN (f s) (sumTo n f)
theorem divide_row {n:Nat} {f:Nat → Nat} (hn:n≤1000) (h0:0 < sumTo n f) (hb:sumTo n f≤MX):g_hidden_divide_int (rowI n f)=some (shL n f):=by
 have hMX:=mx_eq
 unfold g_hidden_divide_int
 rw [sum_row hn hb]
 simp only [Option.bind_some]
 rw [rowI_len,if_pos (by omega),nat_i,rowG_rep]
 rw [whileN_run (fun j=>((j:Int),rowG n fun s=>if s < j then qN (f s) (sumTo n f) else ⟨0,0⟩)) n (shL n f) ?_ ?_ ?_ (by omega)]
 ·rfl
 ·exact Prod.ext rfl (rowG_congr fun s _=>by rw [if_neg (by omega)])
 ·intro j hj
  unfold g_hidden_divide_int_b0
  simp only [rowI_len]
  rw [if_pos (by rw [decide_eq_true_eq]; omega),rowI_get hj]
  simp only [Option.bind_some]
  rw [ratio_eq _ _ (Nat.le_trans (sumTo_one hj) hb) hb h0]
  simp only [Option.bind_some]
  rw [rowG_get hj]
  simp only [Option.bind_some]
  rw [w64 (by omega),nat_i,rowG_set]
  congr 2
  refine Prod.ext (by simp only []; omega) (rowG_congr fun s _=>?_)
  by_cases e:s=j
  ·subst e; rw [if_pos rfl,if_pos (by omega)]
  ·rw [if_neg e]
   by_cases e2:s < j
   ·rw [if_pos e2,if_pos (by omega)]
   ·rw [if_neg e2,if_neg (by omega)]
 ·unfold g_hidden_divide_int_b0
  simp only [rowI_len]
  rw [if_neg (by simp)]
  congr 2
  exact rowG_congr fun s hs=>by rw [if_pos hs]
theorem whole_eq (g m:Nat) (hm:m≤1000) (hb:g^m≤MX):g_weigh_Whole (g:Int) (m:Int)=some ((g^m:Nat):Int):=by
 have hMX:=mx_eq
 unfold g_weigh_Whole
 rcases Nat.eq_zero_or_pos g with hg | hg
 ·subst hg
  rw [whileN_run (s0:=((1:Int),(0:Int))) (fun j=>(((0^j:Nat):Int),(j:Int))) m ((0^m:Nat):Int) (by simp) ?_ ?_ (by omega)]
  ·rfl
  ·intro j hj
   unfold g_weigh_Whole_b0
   simp only []
   rw [if_pos (by rw [decide_eq_true_eq]; omega),w64 (by simp),w64 (by omega),Nat.pow_succ]
   simp
  ·unfold g_weigh_Whole_b0
   simp only []
   rw [if_neg (by simp)]
 ·rw [whileN_run (s0:=((1:Int),(0:Int))) (fun j=>(((g^j:Nat):Int),(j:Int))) m ((g^m:Nat):Int) (by simp) ?_ ?_ (by omega)]
  ·rfl
  ·intro j hj
   unfold g_weigh_Whole_b0
   simp only []
   have h1:g^(j+1)≤g^m:=Nat.pow_le_pow_right hg hj
   rw [Nat.pow_succ] at h1
   rw [if_pos (by rw [decide_eq_true_eq]; omega),←Int.natCast_mul,w64 (by omega),w64 (by omega),Nat.pow_succ]
   rfl
  ·unfold g_weigh_Whole_b0
   simp only []
   rw [if_neg (by simp)]
theorem fb_step (h:Tapi_Hidden) (n:Nat) (seen:List Int) {T t:Nat} (ht:t+1 < T) :
  sumTo n (fun s=>fw h n seen t s*bw h n seen T t s)=sumTo n (fun s=>fw h n seen (t+1) s*bw h n seen T (t+1) s):=by
 have e1:sumTo n (fun s=>fw h n seen t s*bw h n seen T t s)=sumTo n fun s=>sumTo n fun r=>fw h n seen t s*(nat2 h.Step s r*shN h (seen.getD (t+1) 0) r*bw h n seen T (t+1) r) :=
  sumTo_congr fun s _=>by rw [bw_step h n seen ht,sumTo_mul]
 have e2:sumTo n (fun s=>fw h n seen (t+1) s*bw h n seen T (t+1) s)=sumTo n fun s=>sumTo n fun r=>fw h n seen t r*(nat2 h.Step r s*shN h (seen.getD (t+1) 0) s*bw h n seen T (t+1) s) :=
  sumTo_congr fun s _=>by
   simp only [fw]
   rw [Nat.mul_assoc,←sumTo_mulr]
   exact sumTo_congr fun r _=>by simp only [Nat.mul_assoc]
 rw [e1,e2,sumTo_comm]
theorem fb_total (h:Tapi_Hidden) (n:Nat) (seen:List Int) {T:Nat}:∀(d t:Nat),t+d+1=T→sumTo n (fun s=>fw h n seen t s*bw h n seen T t s)=sumTo n (fw h n seen (T - 1))
 | 0,t,e=>by
  have:t=T - 1:=by omega
  subst this
  exact sumTo_congr fun s _=>by rw [bw_last,Nat.mul_one]
 | d+1,t,e=>by
  rw [fb_step h n seen (by omega:t+1 < T),fb_total h n seen d (t+1) (by omega)]
theorem fw_zero (h:Tapi_Hidden) (n:Nat) (seen:List Int) {t:Nat} (h0:sumTo n (fw h n seen t)=0):sumTo n (fw h n seen (t+1))=0:=by
 refine sumTo_zero fun s hs=>?_
 simp only [fw]
 rw [sumTo_zero fun r hr=>by rw [show fw h n seen t r=0 by have:=sumTo_one (f:=fw h n seen t) hr; omega,Nat.zero_mul],Nat.zero_mul]
theorem fw_pos (h:Tapi_Hidden) (n:Nat) (seen:List Int):∀(d t:Nat),0 < sumTo n (fw h n seen (t+d))→0 < sumTo n (fw h n seen t)
 | 0,t,hp=>hp
 | d+1,t,hp=>fw_pos h n seen d t (by
  rcases Nat.eq_zero_or_pos (sumTo n (fw h n seen (t+d))) with e | e
  ·have:=fw_zero h n seen e; rw [show t+(d+1)=t+d+1 by omega] at hp; omega
  ·exact e)
section
variable {h:Tapi_Hidden} {g n k:Nat} (v:VH h g n k) {seen:List Int} {T:Nat} (w:VS k seen T) (hT:1≤T∧T≤8)
include v
include w hT
theorem VH.fw_mx {t:Nat} (ht:t < T):sumTo n (fw h n seen t)≤MX:=by
 have:=v.fw_sum seen t
 have:=pow12' (e:=2*(t+1)) v.g12 (by omega)
 have hMX:=mx_eq
 omega
theorem VH.last:lkI (tabI T n (fw h n seen)) (IntKind.i64.wrap (((tabI T n (fw h n seen)).length:Int) - 1))=some (rowI n (fw h n seen (T - 1))):=by
 rw [tabI_len,w64 (by omega),show ((T:Int) - 1)=((T - 1:Nat):Int) by omega,tabI_get (by omega)]
theorem VH.possible_eq:g_hidden_watcher_possible ⟨h,seen⟩=some (if sumTo n (fw h n seen (T - 1))=0 then ([],7) else (tabI T n (fw h n seen),0)):=by
 have hn4:=v.n4
 unfold g_hidden_watcher_possible
 rw [v.forward_eq w hT]
 simp only [Option.bind_some]
 rw [v.last w hT]
 simp only [Option.bind_some]
 rw [sum_row (by omega) (v.fw_mx w hT (by omega))]
 simp only [Option.bind_some]
 by_cases e:sumTo n (fw h n seen (T - 1))=0
 ·rw [if_pos (by rw [beq_iff_eq]; omega),if_pos e]
 ·rw [if_neg (by rw [beq_iff_eq]; omega),if_neg e]
theorem VH.g_mx:g^(2*T)≤MX∧0 < g^(2*T):=by
 have:=pow12' (e:=2*T) v.g12 (by omega)
 have hMX:=mx_eq
 exact ⟨by omega,Nat.pow_pos v.g1⟩
end
structure Valid (h:Tapi_Hidden) (seen:List Int) (g n k:Nat):Prop where
 v:VH h g n k
 w:VS k seen seen.length
 t1:1≤seen.length
 t8:seen.length≤8
 ok:OkH h
 e:errN h seen=0
section
variable {h:Tapi_Hidden} {seen:List Int} {g n k:Nat} (a:Valid h seen g n k)
include a
theorem Valid.watch:g_hidden_newWatcher h seen=some (⟨h,seen⟩,0):=by
 have:=a.t8
 rw [watcher_eq h seen a.ok (by omega),if_pos a.e,a.e]
theorem Valid.prob:g_hidden_Prob h seen=some (qN (sumTo n (fw h n seen (seen.length - 1))) (g^(2*seen.length)),0):=by
 have hT:1≤seen.length∧seen.length≤8:=⟨a.t1,a.t8⟩
 have hn4:=a.v.n4
 unfold g_hidden_Prob
 rw [a.watch]
 simp only [Option.bind_some]
 rw [if_neg (by simp),a.v.forward_eq a.w hT]
 simp only [Option.bind_some]
 have hl:=a.v.last a.w hT
 rw [tabI_len] at hl
 rw [hl]
 simp only [Option.bind_some]
 rw [sum_row (by omega) (a.v.fw_mx a.w hT (by omega))]
 simp only [Option.bind_some]
 obtain ⟨m1,m2⟩:=a.v.g_mx a.w hT
 rw [a.v.grain,w64 (by omega),show (2*(seen.length:Int))=((2*seen.length:Nat):Int) by omega,whole_eq _ _ (by omega) m1]
 simp only [Option.bind_some]
 rw [ratio_eq _ _ (a.v.fw_mx a.w hT (by omega)) m1 m2]
 rfl
def filN (h:Tapi_Hidden) (n:Nat) (seen:List Int):List (List Tapi_Q) × Int :=
 if sumTo n (fw h n seen (seen.length - 1))=0 then ([],7) else (rowG seen.length fun t=>shL n (fw h n seen t),0)
theorem Valid.filter:g_hidden_Filter h seen=some (filN h n seen):=by
 have hT:1≤seen.length∧seen.length≤8:=⟨a.t1,a.t8⟩
 have hn4:=a.v.n4
 unfold g_hidden_Filter filN
 rw [a.watch]
 simp only [Option.bind_some]
 rw [if_neg (by simp),a.v.possible_eq a.w hT]
 simp only [Option.bind_some]
 by_cases e:sumTo n (fw h n seen (seen.length - 1))=0
 ·rw [if_pos e,if_pos e,if_pos (by simp)]
 ·rw [if_neg e,if_neg e,if_neg (by simp)]
  rw [whileN_run (s0:=((0:Int),([]:List (List Tapi_Q)))) (fun j=>((j:Int),rowG j fun t=>shL n (fw h n seen t))) seen.length (rowG seen.length fun t=>shL n (fw h n seen t)) rfl ?_ ?_ (by omega)]
  ·rfl
  ·intro j hj
   unfold g_hidden_Filter_b0
   simp only [tabI_len]
   rw [if_pos (by rw [decide_eq_true_eq]; omega),tabI_get hj]
   simp only [Option.bind_some]
   have hp:=fw_pos h n seen (seen.length - 1 - j) j (by rw [show j+(seen.length - 1 - j)=seen.length - 1 by omega]; omega)
   rw [divide_row (by omega) hp (a.v.fw_mx a.w hT hj)]
   simp only [Option.bind_some]
   rw [rowG_succ (F:=fun t=>shL n (fw h n seen t)),if_pos (by rw [rowG_len]; omega),w64 (by omega)]
   rfl
  ·unfold g_hidden_Filter_b0
   simp only [tabI_len]
   rw [if_neg (by simp)]
end
end Go.Ab
namespace Go.Ab
open Go
set_option maxRecDepth 100000
def smoN (h:Tapi_Hidden) (n:Nat) (seen:List Int):List (List Tapi_Q) × Int :=
 if sumTo n (fw h n seen (seen.length - 1))=0 then ([],7) else (rowG seen.length fun t=>shL n fun s=>fw h n seen t s*bw h n seen seen.length t s,0)
theorem smooth_b3:@g_hidden_Smooth_b3=fun x=>g_hidden_watcher_backward_b3 x.1:=by
 have e1:@g_hidden_Smooth_b1=fun a s t x=>g_hidden_watcher_backward_b1 a s t x.1:=rfl
 have e2:@g_hidden_Smooth_b2=fun x=>g_hidden_watcher_backward_b2 x.1:=by
  funext x s t
  unfold g_hidden_Smooth_b2 g_hidden_watcher_backward_b2
  rw [e1]
 funext x s
 unfold g_hidden_Smooth_b3 g_hidden_watcher_backward_b3
 rw [e2]
theorem smooth_b0:@g_hidden_Smooth_b0=fun x=>g_hidden_watcher_backward_b0 x.1:=rfl
section
variable {h:Tapi_Hidden} {seen:List Int} {g n k:Nat} (a:Valid h seen g n k)
include a
theorem Valid.back:(whileN fuel (g_hidden_watcher_backward_b0 ⟨h,seen⟩) (0,List.replicate (Int.toNat (seen.length:Int)) ([]:List Int))).bind (fun x=>whileN fuel (g_hidden_watcher_backward_b3 ⟨h,seen⟩) (IntKind.i64.wrap ((seen.length:Int) - 1),x))=some (tabI seen.length n (bw h n seen seen.length)):=by
 have h1:=a.v.backward_eq a.w ⟨a.t1,a.t8⟩
 have h8:=a.t8
 unfold g_hidden_watcher_backward at h1
 rw [if_pos (by simp only []; omega)] at h1
 simpa using h1
theorem Valid.fb_mx {t s:Nat} (ht:t < seen.length) (hs:s < n):fw h n seen t s*bw h n seen seen.length t s≤MX∧sumTo n (fun s=>fw h n seen t s*bw h n seen seen.length t s)=sumTo n (fw h n seen (seen.length - 1)):=by
 have hT:1≤seen.length∧seen.length≤8:=⟨a.t1,a.t8⟩
 have e:=fb_total h n seen (seen.length - 1 - t) t (T:=seen.length) (by omega)
 refine ⟨?_,e⟩
 have:=sumTo_one (f:=fun s=>fw h n seen t s*bw h n seen seen.length t s) hs
 rw [e] at this
 exact Nat.le_trans this (a.v.fw_mx a.w hT (by omega))
theorem Valid.smooth:g_hidden_Smooth h seen=some (smoN h n seen):=by
 have hT:1≤seen.length∧seen.length≤8:=⟨a.t1,a.t8⟩
 have hn4:=a.v.n4
 have hMX:=mx_eq
 unfold g_hidden_Smooth smoN
 rw [a.watch]
 simp only [Option.bind_some]
 rw [if_neg (by simp),a.v.possible_eq a.w hT]
 simp only [Option.bind_some]
 by_cases e:sumTo n (fw h n seen (seen.length - 1))=0
 ·rw [if_pos e,if_pos e,if_pos (by simp)]
 rw [if_neg e,if_neg e,if_neg (by simp),smooth_b0,smooth_b3]
 simp only []
 rw [if_pos (by omega)]
 obtain ⟨x,hx1,hx2⟩:=Option.bind_eq_some_iff.1 a.back
 rw [hx1]
 simp only [Option.bind_some]
 rw [hx2]
 simp only [Option.bind_some]
 rw [whileN_run (s0:=((0:Int),([]:List (List Tapi_Q)),tabI seen.length n (bw h n seen seen.length)))
  (fun j=>((j:Int),(rowG j fun t=>shL n fun s=>fw h n seen t s*bw h n seen seen.length t s),tabI seen.length n fun t s=>if t < j then fw h n seen t s*bw h n seen seen.length t s else bw h n seen seen.length t s)) seen.length
  (rowG seen.length fun t=>shL n fun s=>fw h n seen t s*bw h n seen seen.length t s) ?_ ?_ ?_ (by omega)]
 ·rfl
 ·refine Prod.ext rfl (Prod.ext rfl (tabI_congr fun t _ s _=>by simp))
 ·intro j hj
  unfold g_hidden_Smooth_b5
  simp only [tabI_len]
  rw [if_pos (by rw [decide_eq_true_eq]; omega),tabI_get hj]
  simp only [Option.bind_some]
  rw [whileN_run (s0:=((0:Int),tabI seen.length n fun t s=>if t < j then fw h n seen t s*bw h n seen seen.length t s else bw h n seen seen.length t s))
   (fun i=>((i:Int),tabI seen.length n fun t s=>if t < j∨t=j∧s < i then fw h n seen t s*bw h n seen seen.length t s else bw h n seen seen.length t s)) n
   (tabI seen.length n fun t s=>if t < j+1 then fw h n seen t s*bw h n seen seen.length t s else bw h n seen seen.length t s) ?_ ?_ ?_ (by omega)]
  ·simp only [Option.bind_some]
   rw [tabI_get hj]
   simp only [Option.bind_some]
   have hr:(rowI n fun s=>if j < j+1 then fw h n seen j s*bw h n seen seen.length j s else bw h n seen seen.length j s)=rowI n fun s=>fw h n seen j s*bw h n seen seen.length j s:=rowI_congr fun s _=>by rw [if_pos (by omega)]
   obtain ⟨_,hs⟩:=a.fb_mx hj (s:=0) (by have:=a.v.n1; omega)
   rw [if_pos (by rw [rowI_len,rowI_len]),hr,divide_row (by omega) (by rw [hs]; omega) (by rw [hs]; exact a.v.fw_mx a.w hT (by omega))]
   simp only [Option.bind_some]
   rw [rowG_succ (F:=fun t=>shL n fun s=>fw h n seen t s*bw h n seen seen.length t s),if_pos (by rw [rowG_len]; omega),w64 (by omega)]
   rfl
  ·refine Prod.ext rfl (tabI_congr fun t _ s _=>by simp)
  ·intro i hi
   unfold g_hidden_Smooth_b4
   simp only [rowI_len]
   rw [if_pos (by rw [decide_eq_true_eq]; omega),tabI_get hj]
   simp only [Option.bind_some]
   rw [rowI_get hi]
   simp only [Option.bind_some]
   rw [if_pos (by omega),tabI_get hj]
   simp only [Option.bind_some]
   rw [rowI_get hi]
   simp only [Option.bind_some]
   obtain ⟨hm,_⟩:=a.fb_mx hj hi
   rw [if_pos (by omega)]
   simp only [Nat.lt_irrefl,and_false,or_self,if_false,true_and,false_or]
   rw [←Int.natCast_mul,Nat.mul_comm (bw h n seen seen.length j i),w64 (by omega),w64 (by omega),nat_i,nat_i,rowI_set,tabI_set]
   congr 2
   refine Prod.ext (by simp only []; omega) (tabI_congr fun t _ s _=>?_)
   by_cases e1:t=j
   ·subst e1
    rw [if_pos rfl]
    by_cases e2:s=i
    ·subst e2; rw [if_pos rfl,if_pos (by omega)]
    ·rw [if_neg e2]
     by_cases e3:s < i
     ·rw [if_pos e3,if_pos (Or.inr ⟨rfl,by omega⟩)]
     ·rw [if_neg e3,if_neg (by omega)]
   ·rw [if_neg e1]
    by_cases e3:t < j
    ·rw [if_pos (by omega),if_pos (by omega)]
    ·rw [if_neg (by omega),if_neg (by omega)]
  ·unfold g_hidden_Smooth_b4
   simp only [rowI_len]
   rw [if_neg (by simp)]
   congr 2
   refine tabI_congr fun t _ s hs=>?_
   by_cases e3:t < j+1
   ·rw [if_pos (by omega),if_pos e3]
   ·rw [if_neg (by omega),if_neg e3]
 ·unfold g_hidden_Smooth_b5
  simp only [tabI_len]
  rw [if_neg (by simp)]
end
theorem repeat_eq (p:Nat) (hp:p≤8):g_slices_Repeat_int_int [-1] (p:Int)=some (List.replicate p (-1)):=by
 rcases (by omega:p=0∨p=1∨p=2∨p=3∨p=4∨p=5∨p=6∨p=7∨p=8) with e | e | e | e | e | e | e | e | e <;> subst e <;> kernel_rfl
theorem concat2_eq (x y:List Int) (hx:x.length≤1000) (hy:y.length≤1000):g_slices_Concat_int_int [x,y]=some (x++y):=by
 have l1:lkI [x,y] 0=some x:=rfl
 have l2:lkI [x,y] 1=some y:=rfl
 unfold g_slices_Concat_int_int
 rw [whileN_run (s0:=((0:Int),(0:Int))) (fun j=>match j with | 0=>(0,0) | 1=>((x.length:Int),1) | _=>((x.length:Int)+(y.length:Int),2)) 2 ((x.length:Int)+(y.length:Int)) rfl ?_ ?_ (by omega)]
 ·simp only [Option.bind_some]
  rw [if_neg (by rw [decide_eq_true_eq]; omega)]
  have loop:∀b:(Int × List Int)→Option (Step (Int × List Int) (List Int)),(b=g_slices_Concat_int_int_b1 [x,y]∨b=g_slices_Concat_int_int_b2 [x,y])→whileN fuel b (0,([]:List Int))=some (x++y):=by
   intro b hb
   have hb:b=g_slices_Concat_int_int_b1 [x,y]:=by rcases hb with hb | hb <;> exact hb
   subst hb
   rw [whileN_run (s0:=((0:Int),([]:List Int))) (fun j=>match j with | 0=>(0,[]) | 1=>(1,x) | _=>(2,x++y)) 2 (x++y) rfl ?_ ?_ (by omega)]
   ·intro j hj
    rcases (by omega:j=0∨j=1) with e | e <;> subst e
    ·unfold g_slices_Concat_int_int_b1
     simp only []
     rw [if_pos (by simp),l1]
     simp only [Option.bind_some]
     rw [if_pos (by simp; omega),w64 (by omega)]; rfl
    ·unfold g_slices_Concat_int_int_b1
     simp only []
     rw [if_pos (by simp),l2]
     simp only [Option.bind_some]
     rw [if_pos (by simp; omega),w64 (by omega)]; rfl
   ·unfold g_slices_Concat_int_int_b1
    simp only []
    rw [if_neg (by simp)]
  by_cases e:(x.length:Int)+(y.length:Int)=0
  ·rw [if_neg (by rw [decide_eq_true_eq,w64 (by omega)]; omega),loop _ (.inr rfl)]; rfl
  ·rw [if_pos (by rw [decide_eq_true_eq,w64 (by omega)]; omega),if_pos (by rw [w64 (by omega)]; omega),if_pos (by simp; omega),loop _ (.inl rfl)]; rfl
 ·intro j hj
  rcases (by omega:j=0∨j=1) with e | e <;> subst e
  ·unfold g_slices_Concat_int_int_b0
   simp only []
   rw [if_pos (by simp),l1]
   simp only [Option.bind_some]
   rw [w64 (n:=0+(x.length:Int)) (by omega),if_neg (by rw [decide_eq_true_eq]; omega),w64 (by omega)]; simp
  ·unfold g_slices_Concat_int_int_b0
   simp only []
   rw [if_pos (by simp),l2]
   simp only [Option.bind_some]
   rw [w64 (n:=(x.length:Int)+(y.length:Int)) (by omega),if_neg (by rw [decide_eq_true_eq]; omega),w64 (by omega)]; simp
 ·unfold g_slices_Concat_int_int_b0
  simp only []
  rw [if_neg (by simp)]
theorem fw_congr (h:Tapi_Hidden) (n:Nat) {s1 s2:List Int}:∀(t s:Nat),(∀u,u≤t→s1.getD u 0=s2.getD u 0)→fw h n s1 t s=fw h n s2 t s
 | 0,s,e=>by simp only [fw]; rw [e 0 (by omega)]
 | t+1,s,e=>by
  simp only [fw]
  rw [e (t+1) (by omega),sumTo_congr fun r _=>by rw [fw_congr h n t r fun u hu=>e u (by omega)]]
def more (seen:List Int) (p:Nat):List Int:=seen++List.replicate p (-1)
theorem more_len (seen:List Int) (p:Nat):(more seen p).length=seen.length+p:=by simp [more]
theorem more_get (seen:List Int) (p u:Nat) (hu:u < seen.length):(more seen p).getD u 0=seen.getD u 0:=by
 unfold more; simp [List.getD_eq_getElem?_getD,List.getElem?_append_left hu]
theorem more_un (seen:List Int) (p u:Nat) (hu:seen.length≤u) (h2:u < seen.length+p):(more seen p).getD u 0=-1:=by
 unfold more; simp only [List.getD_eq_getElem?_getD]; rw [List.getElem?_append_right hu,List.getElem?_replicate,if_pos (by omega)]; rfl
section
variable {h:Tapi_Hidden} {seen:List Int} {g n k:Nat} (a:Valid h seen g n k)
include a
theorem Valid.more {p:Nat} (hp:seen.length+p≤8):Valid h (more seen p) g n k:=by
 have hw:VS k (Go.Ab.more seen p) (Go.Ab.more seen p).length:=⟨rfl,fun x hx=>by
  unfold Go.Ab.more at hx
  rcases List.mem_append.1 hx with hx | hx
  ·exact a.w.all x hx
  ·obtain ⟨_,rfl⟩:=List.mem_replicate.1 hx; omega⟩
 have ht1:=a.t1
 refine ⟨a.v,hw,by rw [more_len]; omega,by rw [more_len]; omega,a.ok,?_⟩
 have e:=a.e
 unfold errN at e ⊢
 cases hr:rightB h with
 | false=>rw [hr] at e; simp at e
 | true =>
  rw [hr] at e
  obtain ⟨g',n',k',v',hk'⟩:=vh_of hr
  have hkk:k'=k:=by
   have h1:=a.v.show_row (s:=0) (by have:=a.v.n1; omega)
   obtain ⟨l,h1,h2,h3,h4⟩:=h1
   have hsl:=a.v.showL
   have hn1:=a.v.n1
   cases hs:h.Show with
   | nil=>rw [hs] at hsl; simp at hsl; omega
   | cons x L =>
    rw [hs] at hk' h4
    simp only [List.headD_cons] at hk'
    simp only [List.getD_cons_zero] at h4
    rw [←hk',h4,h2]
  subst hkk
  rw [if_pos rfl,if_pos]
  unfold seenB seesB
  rw [Bool.and_eq_true,Bool.and_eq_true,decide_eq_true_eq,decide_eq_true_eq,List.all_eq_true,more_len]
  refine ⟨fun x hx=>?_,by omega,by omega⟩
  have:=hw.all x hx
  rw [Bool.and_eq_true,decide_eq_true_eq,decide_eq_true_eq,hk']
  exact this
theorem Valid.fw_more (p:Nat):sumTo n (fw h n (Go.Ab.more seen p) (seen.length+p - 1))=sumTo n (fw h n seen (seen.length - 1))*g^(2*p):=by
 have t1:=a.t1
 have key:∀q,q≤p→sumTo n (fw h n (Go.Ab.more seen p) (seen.length - 1+q))=sumTo n (fw h n seen (seen.length - 1))*g^(2*q):=by
  intro q
  induction q with
  | zero =>
   intro _
   simp only [Nat.add_zero,Nat.mul_zero,Nat.pow_zero,Nat.mul_one]
   exact sumTo_congr fun s _=>fw_congr h n _ s fun u hu=>more_get seen p u (by omega)
  | succ q ih =>
   intro hq
   have e1:∀s,s < n→fw h n (Go.Ab.more seen p) (seen.length - 1+(q+1)) s=sumTo n (fun r=>fw h n (Go.Ab.more seen p) (seen.length - 1+q) r*nat2 h.Step r s)*g:=fun s _=>by
    rw [show seen.length - 1+(q+1)=seen.length - 1+q+1 by omega]
    simp only [fw]
    rw [more_un seen p _ (by omega) (by omega),show shN h (-1) s=g by unfold shN; rw [if_pos (by omega),a.v.grain]; simp]
   rw [sumTo_congr e1,sumTo_mulr,sumTo_comm,sumTo_congr (fun r hr=>by rw [sumTo_mul,a.v.step_sum hr]),sumTo_mulr,ih (by omega)]
   rw [show 2*(q+1)=2*q+1+1 by omega,Nat.pow_succ,Nat.pow_succ,Nat.mul_assoc,Nat.mul_assoc,Nat.mul_assoc]
 have:=key p (Nat.le_refl _)
 rw [show seen.length+p - 1=seen.length - 1+p by omega]; exact this
def preN (h:Tapi_Hidden) (n:Nat) (seen:List Int) (p:Nat):List Tapi_Q × Int :=
 if sumTo n (fw h n seen (seen.length - 1))=0 then ([],7) else (shL n (fw h n (Go.Ab.more seen p) (seen.length+p - 1)),0)
theorem Valid.more_zero {p:Nat}:sumTo n (fw h n (Go.Ab.more seen p) (seen.length+p - 1))=0↔sumTo n (fw h n seen (seen.length - 1))=0:=by
 rw [a.fw_more p]
 constructor
 ·intro e
  rcases Nat.mul_eq_zero.1 e with e | e
  ·exact e
  ·have:=Nat.pow_pos (n:=2*p) a.v.g1; omega
 ·intro e; rw [e,Nat.zero_mul]
theorem Valid.predict {p:Nat} (hp:seen.length+p≤8):g_hidden_Predict h seen (p:Int)=some (preN h n seen p):=by
 have hT:1≤seen.length∧seen.length≤8:=⟨a.t1,a.t8⟩
 have b:=a.more hp
 have hn4:=a.v.n4
 have hlen:=more_len seen p
 unfold g_hidden_Predict preN
 rw [a.watch]
 simp only [Option.bind_some]
 rw [if_neg (by simp),if_neg (by rw [decide_eq_true_eq]; omega),if_neg (by rw [decide_eq_true_eq,w64 (by omega)]; omega),repeat_eq p (by omega)]
 simp only [Option.bind_some]
 rw [concat2_eq _ _ (by omega) (by simp; omega)]
 simp only [Option.bind_some]
 rw [show seen++List.replicate p (-1)=Go.Ab.more seen p from rfl,b.v.possible_eq b.w ⟨b.t1,b.t8⟩]
 simp only [Option.bind_some]
 rw [hlen]
 by_cases e:sumTo n (fw h n seen (seen.length - 1))=0
 ·rw [if_pos e,if_pos (a.more_zero.2 e),if_pos (by simp)]
 ·have e':=fun c=>e ((a.more_zero (p:=p)).1 c)
  rw [if_neg e,if_neg e',if_neg (by simp)]
  have hl:=b.v.last b.w ⟨b.t1,b.t8⟩
  rw [hlen] at hl
  simp only []
  rw [hl]
  simp only [Option.bind_some]
  rw [divide_row (by omega) (Nat.pos_of_ne_zero e') (b.v.fw_mx b.w ⟨b.t1,b.t8⟩ (by omega))]
  rfl
end
end Go.Ab
namespace Go.Ab
open Go
set_option maxRecDepth 100000
theorem sameQ_refl (l:List Tapi_Q) (hl:l.length≤100000):g_ref17_SameQ l l=some true:=by
 unfold g_ref17_SameQ
 rw [if_neg (by simp)]
 rw [whileN_run (s0:=(0:Int)) (fun i=>(i:Int)) l.length (Sum.inr ()) rfl (fun i hi=>by
  unfold g_ref17_SameQ_b0
  rw [if_pos (by rw [decide_eq_true_eq]; omega),lkI_nat hi]
  simp only [Option.bind_some]
  rw [if_neg (by simp),w64 (by omega)]; rfl) (by
  unfold g_ref17_SameQ_b0
  rw [if_neg (by simp)]) (by omega)]
 rfl
theorem equalQ_refl (l:List Tapi_Q) (hl:l.length≤100000):g_slices_Equal_api_Q_api_Q l l=some true:=sameQ_refl l hl
section
variable {h:Tapi_Hidden} {seen:List Int} (ok:OkH h) (hl:seen.length≤1000) (e:errN h seen≠0)
include ok hl e
end
section
variable {h:Tapi_Hidden} {seen:List Int} (ok:OkH h) (hl:seen.length≤1000)
include ok hl
end
end Go.Ab
namespace Go.Ab
open Go
set_option maxRecDepth 100000
theorem VH.head {h:Tapi_Hidden} {g n k:Nat} (v:VH h g n k):(h.Show.headD []).length=k:=by
 have h1:=v.showL; have h2:=v.n1
 cases hs:h.Show with
 | nil=>rw [hs] at h1; simp at h1; omega
 | cons x L=>exact (v.shows x (by rw [hs]; simp)).1
theorem VH.right {h:Tapi_Hidden} {g n k:Nat} (v:VH h g n k):rightB h=true:=by
 have h0:=v.head
 have h1:=v.firstL; have h2:=v.stepL; have h3:=v.showL; have h4:=v.grain; have h5:=v.g1; have h6:=v.g12; have h7:=v.n1; have h8:=v.n4; have h9:=v.k1; have h10:=v.k4
 unfold rightB
 simp only [Bool.and_eq_true,decide_eq_true_eq,beq_iff_eq,List.all_eq_true,rowB_iff]
 refine ⟨by omega,by omega,by omega,by omega,by omega,by omega,by omega,by rw [h4]; exact v.first,⟨by omega,fun l hl=>?_⟩,by omega,fun l hl=>?_⟩
 ·obtain ⟨a,b⟩:=v.step l hl; exact ⟨by omega,by rw [h4]; exact b⟩
 ·obtain ⟨a,b⟩:=v.shows l hl; exact ⟨by omega,by rw [h4]; exact b⟩
theorem VH.valid {h:Tapi_Hidden} {g n k:Nat} (v:VH h g n k) {seen:List Int} (w:VS k seen seen.length) (t1:1≤seen.length) (t8:seen.length≤8):Valid h seen g n k:=by
 refine ⟨v,w,t1,t8,v.few.ok,?_⟩
 unfold errN
 rw [if_pos v.right,if_pos]
 unfold seenB seesB
 rw [Bool.and_eq_true,Bool.and_eq_true,decide_eq_true_eq,decide_eq_true_eq,List.all_eq_true]
 refine ⟨fun x hx=>?_,by omega,by omega⟩
 rw [Bool.and_eq_true,decide_eq_true_eq,decide_eq_true_eq,v.head]
 exact w.all x hx
theorem draft_valid (p0:Tharuspexref17_Draft) (h0:okTharuspexref17_Draft p0):∃h seen g n k,g_ref17_Draft_Hidden p0=some h∧g_ref17_Draft_What p0=some seen∧Valid h seen g n k:=by
 obtain ⟨h,g,n,k,e,v,hk⟩:=draft_ok p0 h0
 obtain ⟨seen,ex,x1,x8,xs⟩:=what_ok p0 h0 hk
 exact ⟨h,seen,g,n,k,e,ex,v.valid xs x1 x8⟩
theorem clone_eq (l:List Int) (hl:l.length≤1000):g_slices_Clone_int_int l=some l:=by
 unfold g_slices_Clone_int_int
 cases l with
 | nil=>rfl
 | cons x l =>
  simp only []
  unfold g_slices_Clone_int_int_c
  rw [if_pos (by omega)]
theorem qN_zero {d:Nat} (hd:0 < d):qN 0 d=⟨0,1⟩:=by
 unfold qN
 rw [Nat.gcd_zero_left,Nat.div_self hd]; simp
theorem ends_true (p0:Tharuspexref17_Draft) (p1:Int) (h0:okTharuspexref17_Draft p0) (h1:(Lit.int .u8 p1).wf=true):g_law17_HiddenEnds p0 p1=some true:=by
 obtain ⟨h,seen,g,n,k,e1,e2,a⟩:=draft_valid p0 h0
 have t1:=a.t1; have t8:=a.t8
 have hn4:=a.v.n4
 obtain ⟨m1,m2⟩:=a.v.g_mx a.w ⟨t1,t8⟩
 have hk:=wf_u8 h1
 unfold g_law17_HiddenEnds
 rw [wakes_true]; simp only [Option.bind_some]
 rw [if_neg (by simp),e1]; simp only [Option.bind_some]
 rw [e2]; simp only [Option.bind_some]
 rw [a.filter]; simp only [Option.bind_some]
 rw [a.smooth]; simp only [Option.bind_some]
 have hp0:=a.predict (p:=0) (by omega)
 rw [show ((0:Nat):Int)=0 from rfl] at hp0
 rw [hp0]; simp only [Option.bind_some]
 by_cases e:sumTo n (fw h n seen (seen.length - 1))=0
 ·unfold filN smoN preN
  rw [if_pos e,if_pos e,if_pos e,if_neg (by simp),if_neg (by simp),if_pos (by simp),if_neg (by simp),a.prob]; simp only [Option.bind_some]
  have:=of_eq 0 1 (by simp [mx_eq]) (by simp [mx_eq]) (by omega)
  rw [show ((0:Nat):Int)=0 from rfl,show ((1:Nat):Int)=1 from rfl] at this
  rw [if_pos (by simp),this]; simp only [Option.bind_some]
  rw [e,qN_zero m2,qN_zero (by omega)]
  rfl
 ·have hfil:filN h n seen=(rowG seen.length fun t=>shL n (fw h n seen t),0):=by unfold filN; rw [if_neg e]
  have hsmo:smoN h n seen=(rowG seen.length fun t=>shL n fun s=>fw h n seen t s*bw h n seen seen.length t s,0):=by unfold smoN; rw [if_neg e]
  have hpre:∀p,preN h n seen p=(shL n (fw h n (more seen p) (seen.length+p - 1)),0):=fun p=>by unfold preN; rw [if_neg e]
  rw [hfil,hsmo,hpre]
  simp only [rowG_len]
  have hwl:IntKind.i64.wrap ((seen.length:Int) - 1)=((seen.length - 1:Nat):Int):=by rw [w64 (by omega)]; omega
  rw [if_neg (by simp),if_neg (by simp),if_neg (by simp),if_neg (by simp),if_neg (by simp),if_neg (by simp),hwl,rowG_get (by omega)]; simp only [Option.bind_some]
  rw [rowG_get (by omega)]; simp only [Option.bind_some]
  have hlast:(shL n fun s=>fw h n seen (seen.length - 1) s*bw h n seen seen.length (seen.length - 1) s)=shL n (fw h n seen (seen.length - 1)):=by
   congr 1; funext s; rw [bw_last,Nat.mul_one]
  have hlen:∀f,(shL n f).length≤100000:=fun f=>by unfold shL; rw [rowG_len]; omega
  have hm0:(shL n (fw h n (more seen 0) (seen.length+0 - 1)))=shL n (fw h n seen (seen.length - 1)):=by
   congr 1; unfold more; simp
  rw [hlast,equalQ_refl _ (hlen _)]; simp only [Option.bind_some]
  rw [if_neg (by simp),hm0,equalQ_refl _ (hlen _)]; simp only [Option.bind_some]
  rw [if_neg (by simp),clone_eq _ (by omega)]; simp only [Option.bind_some]
  have h9:IntKind.i64.wrap (9 - (seen.length:Int))=((9 - seen.length:Nat):Int):=by rw [w64 (by omega)]; omega
  have hmod:Int.tmod (IntKind.i64.wrap p1) (IntKind.i64.wrap (9 - (seen.length:Int)))=((p1.toNat % (9 - seen.length):Nat):Int):=by
   rw [h9,w64 (by omega),tmod_pos (by omega),Int.natCast_emod]; congr 1; omega
  have hlt:=Nat.mod_lt p1.toNat (show 0 < 9 - seen.length by omega)
  rw [if_pos (by rw [h9]; omega)]
  generalize p1.toNat % (9 - seen.length)=r at *
  have b:=a.more (p:=r) (by omega)
  rw [whileN_run (s0:=((0:Int),seen)) (fun j=>((j:Int),more seen j)) r (more seen r) (by simp [more]) ?_ ?_ (by omega)]
  ·simp only [Option.bind_some]
   rw [more_len,show IntKind.i64.wrap (((seen.length+r:Nat):Int) - (seen.length:Int))=(r:Int) by rw [w64 (by omega)]; omega,a.predict (by omega)]; simp only [Option.bind_some]
   rw [b.filter]; simp only [Option.bind_some]
   have e':=fun c=>e ((a.more_zero (p:=r)).1 c)
   have hfil2:filN h n (more seen r)=(rowG (seen.length+r) fun t=>shL n (fw h n (more seen r) t),0):=by unfold filN; rw [more_len,if_neg e']
   rw [hfil2,hpre]
   simp only [rowG_len]
   rw [if_pos (by simp),if_pos (by simp),if_pos (by simp),show IntKind.i64.wrap (((seen.length+r:Nat):Int) - 1)=((seen.length+r - 1:Nat):Int) by rw [w64 (by omega)]; omega,rowG_get (by omega)]; simp only [Option.bind_some]
   rw [equalQ_refl _ (hlen _)]; rfl
  ·intro j hj
   unfold g_law17_HiddenEnds_b0
   simp only []
   rw [hmod,if_pos (by rw [decide_eq_true_eq]; omega),if_pos (by simp [more]; omega),w64 (by omega)]
   congr 2
   refine Prod.ext (by simp only []; omega) ?_
   show more seen j++[-1]=more seen (j+1)
   unfold more
   rw [List.replicate_succ',List.append_assoc]
  ·unfold g_law17_HiddenEnds_b0
   simp only []
   rw [hmod,if_neg (by simp)]
end Go.Ab
namespace Go.Ab
open Go
set_option maxRecDepth 100000
end Go.Ab
