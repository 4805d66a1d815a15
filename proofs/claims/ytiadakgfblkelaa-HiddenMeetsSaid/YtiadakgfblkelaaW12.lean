/- What functions compute. No conditions. -/
import Derived.Test.YtiadakgfblkelaaW11
set_option linter.all false
namespace Go.Ab
open Go
set_option maxRecDepth 100000
theorem forward_call (h:Tapi_Hidden) (seen:List Int) (ok:OkH h) (hl:seen.length≤281474976710656) (e:errN h seen≠0):g_hidden_Forward h seen=some ([],errN h seen):=by
 unfold g_hidden_Forward
 rw [watcher_eq h seen ok hl,if_neg e]
 simp only [Option.bind_some]
 rw [if_pos (by simpa using e)]
theorem backward_call (h:Tapi_Hidden) (seen:List Int) (ok:OkH h) (hl:seen.length≤281474976710656) (e:errN h seen≠0):g_hidden_Backward h seen=some ([],errN h seen):=by
 unfold g_hidden_Backward
 rw [watcher_eq h seen ok hl,if_neg e]
 simp only [Option.bind_some]
 rw [if_pos (by simpa using e)]
theorem VH.forward_call {h:Tapi_Hidden} {g n k:Nat} (v:VH h g n k) {seen:List Int} (w:VS k seen seen.length) (hT:1≤seen.length∧seen.length≤8) (ok:OkH h) (e:errN h seen=0):g_hidden_Forward h seen=some (tabI seen.length n (fw h n seen),0):=by
 unfold g_hidden_Forward
 rw [watcher_eq h seen ok (by omega),if_pos e,e]
 simp only [Option.bind_some]
 rw [if_neg (by simp),v.forward_eq w hT]
 rfl
theorem VH.backward_call {h:Tapi_Hidden} {g n k:Nat} (v:VH h g n k) {seen:List Int} (w:VS k seen seen.length) (hT:1≤seen.length∧seen.length≤8) (ok:OkH h) (e:errN h seen=0):g_hidden_Backward h seen=some (tabI seen.length n (bw h n seen seen.length),0):=by
 unfold g_hidden_Backward
 rw [watcher_eq h seen ok (by omega),if_pos e,e]
 simp only [Option.bind_some]
 rw [if_neg (by simp),v.backward_eq w hT]
 rfl
theorem wakes_true:g_law17_wakes=some true:=by kernel_rfl
end Go.Ab
namespace Go.Ab
open Go
set_option maxRecDepth 100000
theorem mx_eq:MX=4611686018427387903:=rfl
theorem sum_row {n:Nat} {f:Nat → Nat} (hn:n≤1000) (hb:sumTo n f≤MX):g_hidden_sum_int (rowI n f)=some ((sumTo n f:Nat):Int):=by
 have hMX:=mx_eq
 unfold g_hidden_sum_int
 rw [whileN_run (s0:=((0:Int),(0:Int))) (fun j=>(((sumTo j f:Nat):Int),(j:Int))) n ((sumTo n f:Nat):Int) rfl ?_ ?_ (by omega)]
 ·rfl
 ·intro j hj
  unfold g_hidden_sum_int_b0
  simp only [rowI_len]
  rw [if_pos (by rw [decide_eq_true_eq]; omega),rowI_get hj]
  simp only [Option.bind_some]
  have:=sumTo_mono (f:=f) (show j+1≤n by omega)
  simp only [sumTo] at this
  rw [←Int.natCast_add,w64 (by omega),w64 (by omega)]
  rfl
 ·unfold g_hidden_sum_int_b0
  simp only [rowI_len]
  rw [if_neg (by simp)]
def rowG {α:Type} (n:Nat) (F:Nat → α):List α:=(List.range n).map F
theorem rowG_len {α:Type} {n:Nat} {F:Nat → α}:(rowG n F).length=n:=by simp [rowG]
theorem rowG_get {α:Type} {n:Nat} {F:Nat → α} {k:Nat} (h:k < n):lkI (rowG n F) (k:Int)=some (F k):=by
 rw [lkI_nat (by rw [rowG_len]; exact h)]; simp [rowG]
theorem rowG_congr {α:Type} {n:Nat} {F G:Nat → α} (h:∀k,k < n→F k=G k):rowG n F=rowG n G:=by
 unfold rowG
 apply List.map_congr_left
 intro t ht
 exact h t (by simpa using ht)
theorem rowG_set {α:Type} {n:Nat} {F:Nat → α} {k:Nat} {x:α}:(rowG n F).set k x=rowG n (fun s=>if s=k then x else F s):=by
 apply List.ext_getElem?
 intro s
 rw [List.getElem?_set]
 simp only [rowG,List.getElem?_map,List.length_map,List.length_range]
 by_cases e:k=s
 ·subst e
  rw [if_pos rfl]
  by_cases hk:k < n
  ·rw [if_pos hk,List.getElem?_range hk]; simp
  ·rw [if_neg hk,List.getElem?_eq_none (by simpa using hk)]; rfl
 ·rw [if_neg e]
  by_cases hs:s < n
  ·rw [List.getElem?_range hs]; simp only [Option.map_some]; rw [if_neg (Ne.symm e)]
  ·rw [List.getElem?_eq_none (by simpa using hs)]; rfl
theorem rowG_rep {α:Type} (n:Nat) (x:α):List.replicate n x=rowG n (fun _=>x):=by
 apply List.ext_getElem?
 intro s
 rw [List.getElem?_replicate]
 by_cases hs:s < n
 ·rw [if_pos hs]; simp [rowG,List.getElem?_range hs]
 ·rw [if_neg hs,List.getElem?_eq_none (by rw [rowG_len]; omega)]
theorem rowG_succ {α:Type} {n:Nat} {F:Nat → α}:rowG n F++[F n]=rowG (n+1) F:=by
 unfold rowG; rw [List.range_succ]; simp
def shL (n:Nat) (f:Nat → Nat):List Tapi_Q:=rowG n fun s=>qN (f s) (sumTo n f)
theorem divide_row {n:Nat} {f:Nat → Nat} (hn:n≤1000) (h0:0 < sumTo n f) (hb:sumTo n f≤MX):g_hidden_divide_int (rowI n f)=some (shL n f):=by
 have hMX:=mx_eq
 unfold g_hidden_divide_int
 rw [sum_row hn hb]
 simp only [Option.bind_some]
 rw [rowI_len,if_pos (by omega),nat_i,rowG_rep]
 rw [whileN_run (fun j=>((j:Int),rowG n fun s=>if s < j then qN (f s) (sumTo n f) else ⟨0,0⟩)) n (shL n f) ?_ ?_ ?_ (by omega)]
 ·rfl
 ·exact Prod.ext rfl (rowG_congr fun s _=>by rw [if_neg (by omega)])
 ·intro j hj
  unfold g_hidden_divide_int_b0
  simp only [rowI_len]
  rw [if_pos (by rw [decide_eq_true_eq]; omega),rowI_get hj]
  simp only [Option.bind_some]
  rw [ratio_eq _ _ (Nat.le_trans (sumTo_one hj) hb) hb h0]
  simp only [Option.bind_some]
  rw [rowG_get hj]
  simp only [Option.bind_some]
  rw [w64 (by omega),nat_i,rowG_set]
  congr 2
  refine Prod.ext (by simp only []; omega) (rowG_congr fun s _=>?_)
  by_cases e:s=j
  ·subst e; rw [if_pos rfl,if_pos (by omega)]
  ·rw [if_neg e]
   by_cases e2:s < j
   ·rw [if_pos e2,if_pos (by omega)]
   ·rw [if_neg e2,if_neg (by omega)]
 ·unfold g_hidden_divide_int_b0
  simp only [rowI_len]
  rw [if_neg (by simp)]
  congr 2
  exact rowG_congr fun s hs=>by rw [if_pos hs]
theorem whole_eq (g m:Nat) (hm:m≤1000) (hb:g^m≤MX):g_weigh_Whole (g:Int) (m:Int)=some ((g^m:Nat):Int):=by
 have hMX:=mx_eq
 unfold g_weigh_Whole
 rcases Nat.eq_zero_or_pos g with hg | hg
 ·subst hg
  rw [whileN_run (s0:=((1:Int),(0:Int))) (fun j=>(((0^j:Nat):Int),(j:Int))) m ((0^m:Nat):Int) (by simp) ?_ ?_ (by omega)]
  ·rfl
  ·intro j hj
   unfold g_weigh_Whole_b0
   simp only []
   rw [if_pos (by rw [decide_eq_true_eq]; omega),w64 (by simp),w64 (by omega),Nat.pow_succ]
   simp
  ·unfold g_weigh_Whole_b0
   simp only []
   rw [if_neg (by simp)]
 ·rw [whileN_run (s0:=((1:Int),(0:Int))) (fun j=>(((g^j:Nat):Int),(j:Int))) m ((g^m:Nat):Int) (by simp) ?_ ?_ (by omega)]
  ·rfl
  ·intro j hj
   unfold g_weigh_Whole_b0
   simp only []
   have h1:g^(j+1)≤g^m:=Nat.pow_le_pow_right hg hj
   rw [Nat.pow_succ] at h1
   rw [if_pos (by rw [decide_eq_true_eq]; omega),←Int.natCast_mul,w64 (by omega),w64 (by omega),Nat.pow_succ]
   rfl
  ·unfold g_weigh_Whole_b0
   simp only []
   rw [if_neg (by simp)]
theorem fb_step (h:Tapi_Hidden) (n:Nat) (seen:List Int) {T t:Nat} (ht:t+1 < T) :
  sumTo n (fun s=>fw h n seen t s*bw h n seen T t s)=sumTo n (fun s=>fw h n seen (t+1) s*bw h n seen T (t+1) s):=by
 have e1:sumTo n (fun s=>fw h n seen t s*bw h n seen T t s)=sumTo n fun s=>sumTo n fun r=>fw h n seen t s*(nat2 h.Step s r*shN h (seen.getD (t+1) 0) r*bw h n seen T (t+1) r) :=
  sumTo_congr fun s _=>by rw [bw_step h n seen ht,sumTo_mul]
 have e2:sumTo n (fun s=>fw h n seen (t+1) s*bw h n seen T (t+1) s)=sumTo n fun s=>sumTo n fun r=>fw h n seen t r*(nat2 h.Step r s*shN h (seen.getD (t+1) 0) s*bw h n seen T (t+1) s) :=
  sumTo_congr fun s _=>by
   simp only [fw]
   rw [Nat.mul_assoc,←sumTo_mulr]
   exact sumTo_congr fun r _=>by simp only [Nat.mul_assoc]
 rw [e1,e2,sumTo_comm]
theorem fb_total (h:Tapi_Hidden) (n:Nat) (seen:List Int) {T:Nat}:∀(d t:Nat),t+d+1=T→sumTo n (fun s=>fw h n seen t s*bw h n seen T t s)=sumTo n (fw h n seen (T - 1))
 | 0,t,e=>by
  have:t=T - 1:=by omega
  subst this
  exact sumTo_congr fun s _=>by rw [bw_last,Nat.mul_one]
 | d+1,t,e=>by
  rw [fb_step h n seen (by omega:t+1 < T),fb_total h n seen d (t+1) (by omega)]
theorem fw_zero (h:Tapi_Hidden) (n:Nat) (seen:List Int) {t:Nat} (h0:sumTo n (fw h n seen t)=0):sumTo n (fw h n seen (t+1))=0:=by
 refine sumTo_zero fun s hs=>?_
 simp only [fw]
 rw [sumTo_zero fun r hr=>by rw [show fw h n seen t r=0 by have:=sumTo_one (f:=fw h n seen t) hr; omega,Nat.zero_mul],Nat.zero_mul]
theorem fw_pos (h:Tapi_Hidden) (n:Nat) (seen:List Int):∀(d t:Nat),0 < sumTo n (fw h n seen (t+d))→0 < sumTo n (fw h n seen t)
 | 0,t,hp=>hp
 | d+1,t,hp=>fw_pos h n seen d t (by
  rcases Nat.eq_zero_or_pos (sumTo n (fw h n seen (t+d))) with e | e
  ·have:=fw_zero h n seen e; rw [show t+(d+1)=t+d+1 by omega] at hp; omega
  ·exact e)
section
variable {h:Tapi_Hidden} {g n k:Nat} (v:VH h g n k) {seen:List Int} {T:Nat} (w:VS k seen T) (hT:1≤T∧T≤8)
include v
include w hT
theorem VH.fw_mx {t:Nat} (ht:t < T):sumTo n (fw h n seen t)≤MX:=by
 have:=v.fw_sum seen t
 have:=pow12' (e:=2*(t+1)) v.g12 (by omega)
 have hMX:=mx_eq
 omega
theorem VH.last:lkI (tabI T n (fw h n seen)) (IntKind.i64.wrap (((tabI T n (fw h n seen)).length:Int) - 1))=some (rowI n (fw h n seen (T - 1))):=by
 rw [tabI_len,w64 (by omega),show ((T:Int) - 1)=((T - 1:Nat):Int) by omega,tabI_get (by omega)]
theorem VH.possible_eq:g_hidden_watcher_possible ⟨h,seen⟩=some (if sumTo n (fw h n seen (T - 1))=0 then ([],7) else (tabI T n (fw h n seen),0)):=by
 have hn4:=v.n4
 unfold g_hidden_watcher_possible
 rw [v.forward_eq w hT]
 simp only [Option.bind_some]
 rw [v.last w hT]
 simp only [Option.bind_some]
 rw [sum_row (by omega) (v.fw_mx w hT (by omega))]
 simp only [Option.bind_some]
 by_cases e:sumTo n (fw h n seen (T - 1))=0
 ·rw [if_pos (by rw [beq_iff_eq]; omega),if_pos e]
 ·rw [if_neg (by rw [beq_iff_eq]; omega),if_neg e]
theorem VH.g_mx:g^(2*T)≤MX∧0 < g^(2*T):=by
 have:=pow12' (e:=2*T) v.g12 (by omega)
 have hMX:=mx_eq
 exact ⟨by omega,Nat.pow_pos v.g1⟩
end
structure Valid (h:Tapi_Hidden) (seen:List Int) (g n k:Nat):Prop where
 v:VH h g n k
 w:VS k seen seen.length
 t1:1≤seen.length
 t8:seen.length≤8
 ok:OkH h
 e:errN h seen=0
section
variable {h:Tapi_Hidden} {seen:List Int} {g n k:Nat} (a:Valid h seen g n k)
include a
theorem Valid.watch:g_hidden_newWatcher h seen=some (⟨h,seen⟩,0):=by
 have:=a.t8
 rw [watcher_eq h seen a.ok (by omega),if_pos a.e,a.e]
theorem Valid.prob:g_hidden_Prob h seen=some (qN (sumTo n (fw h n seen (seen.length - 1))) (g^(2*seen.length)),0):=by
 have hT:1≤seen.length∧seen.length≤8:=⟨a.t1,a.t8⟩
 have hn4:=a.v.n4
 unfold g_hidden_Prob
 rw [a.watch]
 simp only [Option.bind_some]
 rw [if_neg (by simp),a.v.forward_eq a.w hT]
 simp only [Option.bind_some]
 have hl:=a.v.last a.w hT
 rw [tabI_len] at hl
 rw [hl]
 simp only [Option.bind_some]
 rw [sum_row (by omega) (a.v.fw_mx a.w hT (by omega))]
 simp only [Option.bind_some]
 obtain ⟨m1,m2⟩:=a.v.g_mx a.w hT
 rw [a.v.grain,w64 (by omega),show (2*(seen.length:Int))=((2*seen.length:Nat):Int) by omega,whole_eq _ _ (by omega) m1]
 simp only [Option.bind_some]
 rw [ratio_eq _ _ (a.v.fw_mx a.w hT (by omega)) m1 m2]
 rfl
def filN (h:Tapi_Hidden) (n:Nat) (seen:List Int):List (List Tapi_Q) × Int :=
 if sumTo n (fw h n seen (seen.length - 1))=0 then ([],7) else (rowG seen.length fun t=>shL n (fw h n seen t),0)
theorem Valid.filter:g_hidden_Filter h seen=some (filN h n seen):=by
 have hT:1≤seen.length∧seen.length≤8:=⟨a.t1,a.t8⟩
 have hn4:=a.v.n4
 unfold g_hidden_Filter filN
 rw [a.watch]
 simp only [Option.bind_some]
 rw [if_neg (by simp),a.v.possible_eq a.w hT]
 simp only [Option.bind_some]
 by_cases e:sumTo n (fw h n seen (seen.length - 1))=0
 ·rw [if_pos e,if_pos e,if_pos (by simp)]
 ·rw [if_neg e,if_neg e,if_neg (by simp)]
  rw [whileN_run (s0:=((0:Int),([]:List (List Tapi_Q)))) (fun j=>((j:Int),rowG j fun t=>shL n (fw h n seen t))) seen.length (rowG seen.length fun t=>shL n (fw h n seen t)) rfl ?_ ?_ (by omega)]
  ·rfl
  ·intro j hj
   unfold g_hidden_Filter_b0
   simp only [tabI_len]
   rw [if_pos (by rw [decide_eq_true_eq]; omega),tabI_get hj]
   simp only [Option.bind_some]
   have hp:=fw_pos h n seen (seen.length - 1 - j) j (by rw [show j+(seen.length - 1 - j)=seen.length - 1 by omega]; omega)
   rw [divide_row (by omega) hp (a.v.fw_mx a.w hT hj)]
   simp only [Option.bind_some]
   rw [rowG_succ (F:=fun t=>shL n (fw h n seen t)),if_pos (by rw [rowG_len]; omega),w64 (by omega)]
   rfl
  ·unfold g_hidden_Filter_b0
   simp only [tabI_len]
   rw [if_neg (by simp)]
end
end Go.Ab
namespace Go.Ab
open Go
set_option maxRecDepth 100000
section
variable {h:Tapi_Hidden} {seen:List Int} {g n k:Nat} (a:Valid h seen g n k)
include a
theorem Valid.back:(whileN fuel (g_hidden_watcher_backward_b0 ⟨h,seen⟩) (0,List.replicate (Int.toNat (seen.length:Int)) ([]:List Int))).bind (fun x=>whileN fuel (g_hidden_watcher_backward_b3 ⟨h,seen⟩) (IntKind.i64.wrap ((seen.length:Int) - 1),x))=some (tabI seen.length n (bw h n seen seen.length)):=by
 have h1:=a.v.backward_eq a.w ⟨a.t1,a.t8⟩
 have h8:=a.t8
 unfold g_hidden_watcher_backward at h1
 rw [if_pos (by simp only []; omega)] at h1
 simpa using h1
theorem Valid.fb_mx {t s:Nat} (ht:t < seen.length) (hs:s < n):fw h n seen t s*bw h n seen seen.length t s≤MX∧sumTo n (fun s=>fw h n seen t s*bw h n seen seen.length t s)=sumTo n (fw h n seen (seen.length - 1)):=by
 have hT:1≤seen.length∧seen.length≤8:=⟨a.t1,a.t8⟩
 have e:=fb_total h n seen (seen.length - 1 - t) t (T:=seen.length) (by omega)
 refine ⟨?_,e⟩
 have:=sumTo_one (f:=fun s=>fw h n seen t s*bw h n seen seen.length t s) hs
 rw [e] at this
 exact Nat.le_trans this (a.v.fw_mx a.w hT (by omega))
end
def more (seen:List Int) (p:Nat):List Int:=seen++List.replicate p (-1)
theorem more_len (seen:List Int) (p:Nat):(more seen p).length=seen.length+p:=by simp [more]
section
variable {h:Tapi_Hidden} {seen:List Int} {g n k:Nat} (a:Valid h seen g n k)
include a
theorem Valid.more {p:Nat} (hp:seen.length+p≤8):Valid h (more seen p) g n k:=by
 have hw:VS k (Go.Ab.more seen p) (Go.Ab.more seen p).length:=⟨rfl,fun x hx=>by
  unfold Go.Ab.more at hx
  rcases List.mem_append.1 hx with hx | hx
  ·exact a.w.all x hx
  ·obtain ⟨_,rfl⟩:=List.mem_replicate.1 hx; omega⟩
 have ht1:=a.t1
 refine ⟨a.v,hw,by rw [more_len]; omega,by rw [more_len]; omega,a.ok,?_⟩
 have e:=a.e
 unfold errN at e ⊢
 cases hr:rightB h with
 | false=>rw [hr] at e; simp at e
 | true =>
  rw [hr] at e
  obtain ⟨g',n',k',v',hk'⟩:=vh_of hr
  have hkk:k'=k:=by
   have h1:=a.v.show_row (s:=0) (by have:=a.v.n1; omega)
   obtain ⟨l,h1,h2,h3,h4⟩:=h1
   have hsl:=a.v.showL
   have hn1:=a.v.n1
   cases hs:h.Show with
   | nil=>rw [hs] at hsl; simp at hsl; omega
   | cons x L =>
    rw [hs] at hk' h4
    simp only [List.headD_cons] at hk'
    simp only [List.getD_cons_zero] at h4
    rw [←hk',h4,h2]
  subst hkk
  rw [if_pos rfl,if_pos]
  unfold seenB seesB
  rw [Bool.and_eq_true,Bool.and_eq_true,decide_eq_true_eq,decide_eq_true_eq,List.all_eq_true,more_len]
  refine ⟨fun x hx=>?_,by omega,by omega⟩
  have:=hw.all x hx
  rw [Bool.and_eq_true,decide_eq_true_eq,decide_eq_true_eq,hk']
  exact this
end
end Go.Ab
namespace Go.Ab
open Go
set_option maxRecDepth 100000
section
variable {h:Tapi_Hidden} {seen:List Int} (ok:OkH h) (hl:seen.length≤1000) (e:errN h seen≠0)
include ok hl e
end
section
variable {h:Tapi_Hidden} {seen:List Int} (ok:OkH h) (hl:seen.length≤1000)
include ok hl
end
end Go.Ab
namespace Go.Ab
open Go
set_option maxRecDepth 100000
theorem VH.head {h:Tapi_Hidden} {g n k:Nat} (v:VH h g n k):(h.Show.headD []).length=k:=by
 have h1:=v.showL; have h2:=v.n1
 cases hs:h.Show with
 | nil=>rw [hs] at h1; simp at h1; omega
 | cons x L=>exact (v.shows x (by rw [hs]; simp)).1
theorem VH.right {h:Tapi_Hidden} {g n k:Nat} (v:VH h g n k):rightB h=true:=by
 have h0:=v.head
 have h1:=v.firstL; have h2:=v.stepL; have h3:=v.showL; have h4:=v.grain; have h5:=v.g1; have h6:=v.g12; have h7:=v.n1; have h8:=v.n4; have h9:=v.k1; have h10:=v.k4
 unfold rightB
 simp only [Bool.and_eq_true,decide_eq_true_eq,beq_iff_eq,List.all_eq_true,rowB_iff]
 refine ⟨by omega,by omega,by omega,by omega,by omega,by omega,by omega,by rw [h4]; exact v.first,⟨by omega,fun l hl=>?_⟩,by omega,fun l hl=>?_⟩
 ·obtain ⟨a,b⟩:=v.step l hl; exact ⟨by omega,by rw [h4]; exact b⟩
 ·obtain ⟨a,b⟩:=v.shows l hl; exact ⟨by omega,by rw [h4]; exact b⟩
theorem VH.valid {h:Tapi_Hidden} {g n k:Nat} (v:VH h g n k) {seen:List Int} (w:VS k seen seen.length) (t1:1≤seen.length) (t8:seen.length≤8):Valid h seen g n k:=by
 refine ⟨v,w,t1,t8,v.few.ok,?_⟩
 unfold errN
 rw [if_pos v.right,if_pos]
 unfold seenB seesB
 rw [Bool.and_eq_true,Bool.and_eq_true,decide_eq_true_eq,decide_eq_true_eq,List.all_eq_true]
 refine ⟨fun x hx=>?_,by omega,by omega⟩
 rw [Bool.and_eq_true,decide_eq_true_eq,decide_eq_true_eq,v.head]
 exact w.all x hx
theorem draft_valid (p0:Tharuspexref17_Draft) (h0:okTharuspexref17_Draft p0):∃h seen g n k,g_ref17_Draft_Hidden p0=some h∧g_ref17_Draft_What p0=some seen∧Valid h seen g n k:=by
 obtain ⟨h,g,n,k,e,v,hk⟩:=draft_ok p0 h0
 obtain ⟨seen,ex,x1,x8,xs⟩:=what_ok p0 h0 hk
 exact ⟨h,seen,g,n,k,e,ex,v.valid xs x1 x8⟩
theorem table_tab {T n:Nat} {F:Nat → Nat → Nat} (hT:T≤8):g_law17_table_int (tabI T n F) (T:Int) (n:Int)=some true:=by
 unfold g_law17_table_int
 rw [if_pos (by rw [tabI_len,beq_iff_eq]),whileN_run (s0:=(0:Int)) (fun j=>(j:Int)) T (Sum.inr ()) rfl ?_ ?_ (by omega)]
 ·rfl
 ·intro j hj
  unfold g_law17_table_int_b0
  rw [tabI_len,if_pos (by rw [decide_eq_true_eq]; omega),tabI_get hj]
  simp only [Option.bind_some]
  rw [rowI_len,if_neg (by simp),w64 (by omega)]; rfl
 ·unfold g_law17_table_int_b0
  rw [tabI_len,if_neg (by simp)]
theorem meets_true (p0:Tharuspexref17_Draft) (h0:okTharuspexref17_Draft p0):g_law17_HiddenMeets p0=some true:=by
 obtain ⟨h,seen,g,n,k,e1,e2,a⟩:=draft_valid p0 h0
 have hT:1≤seen.length∧seen.length≤8:=⟨a.t1,a.t8⟩
 have hn4:=a.v.n4
 have hMX:=mx_eq
 obtain ⟨m1,m2⟩:=a.v.g_mx a.w hT
 unfold g_law17_HiddenMeets
 rw [wakes_true]; simp only [Option.bind_some]
 rw [if_neg (by simp),e1]; simp only [Option.bind_some]
 rw [e2]; simp only [Option.bind_some]
 rw [a.v.forward_call a.w hT a.ok a.e]; simp only [Option.bind_some]
 rw [a.v.backward_call a.w hT a.ok a.e]; simp only [Option.bind_some]
 rw [a.prob]; simp only [Option.bind_some]
 rw [if_neg (by simp),if_neg (by simp),if_neg (by simp),a.v.firstL,table_tab a.t8]; simp only [Option.bind_some]
 rw [if_neg (by simp),table_tab a.t8]; simp only [Option.bind_some]
 rw [if_neg (by simp),a.v.last a.w hT]; simp only [Option.bind_some]
 have hs:=sum_row (n:=n) (f:=fw h n seen (seen.length - 1)) (by omega) (a.v.fw_mx a.w hT (by omega))
 have hsum:whileN fuel (g_law17_HiddenMeets_b0 (rowI n (fw h n seen (seen.length - 1)))) (0,0)=some ((sumTo n (fw h n seen (seen.length - 1)):Nat):Int):=by
  unfold g_hidden_sum_int at hs
  have e:g_law17_HiddenMeets_b0 (rowI n (fw h n seen (seen.length - 1)))=g_hidden_sum_int_b0 (rowI n (fw h n seen (seen.length - 1))):=rfl
  rw [e]; simpa using hs
 rw [hsum]; simp only [Option.bind_some]
 have hpow:∀j,j≤seen.length→(g*g)^j≤MX:=fun j hj=>by
  rw [←Nat.pow_two,←Nat.pow_mul]
  exact Nat.le_trans (Nat.pow_le_pow_right a.v.g1 (by omega)) m1
 rw [whileN_run (s0:=((1:Int),(0:Int))) (fun j=>((((g*g)^j:Nat):Int),(j:Int))) seen.length (Sum.inr (((g*g)^seen.length:Nat):Int)) (by simp) ?_ ?_ (by omega)]
 ·simp only [Option.bind_some]
  unfold g_law17_q
  rw [of_eq _ _ (a.v.fw_mx a.w hT (by omega)) (hpow _ (Nat.le_refl _)) (Nat.pow_pos (Nat.mul_pos a.v.g1 a.v.g1))]
  simp only [Option.bind_some]
  rw [←Nat.pow_two,←Nat.pow_mul]
  simp
 ·intro j hj
  unfold g_law17_HiddenMeets_b2
  simp only []
  rw [if_pos (by rw [decide_eq_true_eq]; omega)]
  obtain ⟨_,htot⟩:=a.fb_mx hj (s:=0) (by have:=a.v.n1; omega)
  have hall:=a.v.fw_mx a.w hT (t:=seen.length - 1) (by omega)
  rw [whileN_run (s0:=((0:Int),(0:Int))) (fun i=>(((sumTo i (fun s=>fw h n seen j s*bw h n seen seen.length j s):Nat):Int),(i:Int))) n (((sumTo n (fw h n seen (seen.length - 1)):Nat):Int)) rfl ?_ ?_ (by omega)]
  ·simp only [Option.bind_some]
   have hp:=hpow (j+1) (by omega)
   rw [Nat.pow_succ] at hp
   have hg:g*g≤144:=Nat.mul_le_mul a.v.g12 a.v.g12
   rw [if_neg (by simp),a.v.grain,←Int.natCast_mul,w64 (n:=((g*g:Nat):Int)) (by omega),←Int.natCast_mul,w64 (by omega),w64 (by omega),Nat.pow_succ]
   rfl
  ·intro i hi
   unfold g_law17_HiddenMeets_b1
   simp only [a.v.firstL]
   rw [if_pos (by rw [decide_eq_true_eq]; omega),tabI_get hj]; simp only [Option.bind_some]
   rw [rowI_get hi]; simp only [Option.bind_some]
   rw [tabI_get hj]; simp only [Option.bind_some]
   rw [rowI_get hi]; simp only [Option.bind_some]
   obtain ⟨hm,_⟩:=a.fb_mx hj hi
   have hsum:=sumTo_mono (f:=fun s=>fw h n seen j s*bw h n seen seen.length j s) (show i+1≤n by omega)
   rw [htot] at hsum
   simp only [sumTo] at hsum ⊢
   rw [←Int.natCast_mul,w64 (n:=((fw h n seen j i*bw h n seen seen.length j i:Nat):Int)) (by omega),←Int.natCast_add,w64 (by omega),w64 (by omega)]
   rfl
  ·unfold g_law17_HiddenMeets_b1
   simp only [a.v.firstL]
   rw [if_neg (by simp),htot]
 ·unfold g_law17_HiddenMeets_b2
  simp only []
  rw [if_neg (by simp)]
end Go.Ab
namespace Go.Ab
open Go
set_option maxRecDepth 100000
end Go.Ab
