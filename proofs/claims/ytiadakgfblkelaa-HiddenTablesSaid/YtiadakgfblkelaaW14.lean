/- What functions compute. No conditions. -/
import Derived.Test.YtiadakgfblkelaaW13
import Derived.Test.YtiadakgfblkelaaEng8
import Derived.Test.YtiadakgfblkelaaW9
set_option linter.all false
namespace Go.Ab
open Go
set_option maxRecDepth 100000
def tabL (T : Nat) (F : Nat → List Int) : List (List Int) := (List.range T).map F
theorem tabL_len {T : Nat} {F : Nat → List Int} : (tabL T F).length = T := by simp [tabL]
theorem tabL_get {T : Nat} {F : Nat → List Int} {t : Nat} (h : t < T) : lkI (tabL T F) (t : Int) = some (F t) := by
 rw [lkI_nat (by rw [tabL_len]; exact h)]; simp [tabL]
theorem tabL_set {T : Nat} {F : Nat → List Int} {t : Nat} {f : List Int} : (tabL T F).set t f = tabL T (fun t' => if t' = t then f else F t') := by
 apply List.ext_getElem?
 intro s
 rw [List.getElem?_set]
 simp only [tabL, List.getElem?_map, List.length_map, List.length_range]
 by_cases e : t = s
 ·subst e
  rw [if_pos rfl]
  by_cases hk : t < T
  ·rw [if_pos hk, List.getElem?_range hk]; simp
  ·rw [if_neg hk, List.getElem?_eq_none (by simpa using hk)]; rfl
 ·rw [if_neg e]
  by_cases hs : s < T
  ·rw [List.getElem?_range hs]; simp only [Option.map_some]; rw [if_neg (Ne.symm e)]
  ·rw [List.getElem?_eq_none (by simpa using hs)]; rfl
theorem tabL_congr {T : Nat} {F G : Nat → List Int} (h : ∀ t, t < T → F t = G t) : tabL T F = tabL T G := by
 unfold tabL
 apply List.map_congr_left
 intro t ht
 exact h t (by simpa using ht)
theorem tabL_nil (T : Nat) : List.replicate T ([] : List Int) = tabL T (fun _ => []) := by
 unfold tabL
 apply List.ext_getElem?
 intro s
 rw [List.getElem?_replicate]
 by_cases hs : s < T
 ·rw [if_pos hs]; simp [List.getElem?_range hs]
 ·rw [if_neg hs, List.getElem?_eq_none (by simp; omega)]
theorem tabI_L {T n : Nat} {F : Nat → Nat → Nat} : tabI T n F = tabL T (fun t => rowI n (F t)) := rfl
section
variable {h : Tapi_Hidden} {g n k : Nat} (v : VH h g n k) {seen : List Int} {T : Nat} (w : VS k seen T) (hT : 1 ≤ T ∧ T ≤ 8)
include v w hT
theorem VH.ftab : whileN fuel (g_hidden_watcher_forward_b0 ⟨h, seen⟩) (0, List.replicate (Int.toNat (seen.length : Int)) ([] : List Int)) = some (tabI T n fun _ _ => 0) := by
 have hlen := w.len
 have hn4 := v.n4
 refine whileN_run (fun j => ((j : Int), tabL T fun t => if t < j then rowI n (fun _ => 0) else [])) T _ ?_ ?_ ?_ (by omega)
 ·simp only [Nat.not_lt_zero, if_false]
  rw [nat_i, hlen, tabL_nil]; rfl
 ·intro j hj
  unfold g_hidden_watcher_forward_b0
  simp only [List.length_replicate, nat_i, hlen, v.firstL]
  rw [if_pos (by simp; omega), if_pos (by omega), tabL_get hj]
  simp only [Option.bind_some]
  rw [w64 (by omega), tabL_set, rowI_zero]
  congr 2
  refine Prod.ext (by simp) ?_
  refine tabL_congr fun t ht => ?_
  by_cases e : t = j
  ·subst e; rw [if_pos rfl, if_pos (by omega)]
  ·rw [if_neg e]
   by_cases e2 : t < j
   ·rw [if_pos e2, if_pos (by omega)]
   ·rw [if_neg e2, if_neg (by omega)]
 ·unfold g_hidden_watcher_forward_b0
  simp only [List.length_replicate, nat_i, hlen]
  rw [if_neg (by simp)]
  congr 2
  rw [tabI_L]
  exact tabL_congr fun t ht => by rw [if_pos ht]
theorem VH.fsum {t s : Nat} (ht : t + 1 < T) (hs : s < n) (F : List (List Int)) :
  whileN fuel (g_hidden_watcher_forward_b1 (rowI n (fw h n seen t)) ⟨h, seen⟩ ((s : Int), F)) (0, 0) = some ((sumTo n (fun r => fw h n seen t r * nat2 h.Step r s) : Nat) : Int) := by
 have hb := v.fw_sum seen t
 have hp := pow12' (e := 2 * (t + 1)) v.g12 (by omega)
 have lim : ∀ j, j ≤ n → sumTo j (fun r => fw h n seen t r * nat2 h.Step r s) ≤ 184884258895036416 * 12 := fun j hj => by
  calc sumTo j (fun r => fw h n seen t r * nat2 h.Step r s) ≤ sumTo n (fun r => fw h n seen t r * nat2 h.Step r s) := sumTo_mono hj
    _ ≤ sumTo n (fun r => fw h n seen t r * g) := sumTo_le fun r hr => Nat.mul_le_mul_left _ (v.step_le hr hs)
    _ = sumTo n (fw h n seen t) * g := sumTo_mulr
    _ ≤ 184884258895036416 * 12 := Nat.mul_le_mul (by omega) v.g12
 have hn4 := v.n4
 refine whileN_run (fun j => (((sumTo j (fun r => fw h n seen t r * nat2 h.Step r s) : Nat) : Int), (j : Int))) n _ rfl ?_ ?_ (by omega)
 ·intro j hj
  unfold g_hidden_watcher_forward_b1
  simp only [rowI_len]
  rw [if_pos (by simp; omega), rowI_get hj]
  simp only [Option.bind_some]
  obtain ⟨l, h1, h2⟩ := v.step_get hj hs
  rw [h1]
  simp only [Option.bind_some]
  rw [h2]
  simp only [Option.bind_some]
  have l1 := lim (j + 1) hj
  simp only [sumTo] at l1
  have e1 : ((fw h n seen t j : Nat) : Int) * ((nat2 h.Step j s : Nat) : Int) = ((fw h n seen t j * nat2 h.Step j s : Nat) : Int) := by rw [Int.natCast_mul]
  rw [e1, w64 (n := ((fw h n seen t j * nat2 h.Step j s : Nat) : Int)) (by omega), w64 (by omega), w64 (by omega)]
  simp only [sumTo]
  congr 2
 ·unfold g_hidden_watcher_forward_b1
  simp only [rowI_len]
  rw [if_neg (by simp)]
theorem VH.fw_le {t : Nat} (ht : t < T) {s : Nat} (hs : s < n) : fw h n seen t s ≤ 184884258895036416 :=
 Nat.le_trans (sumTo_one hs) (Nat.le_trans (v.fw_sum seen t) (pow12' v.g12 (by omega)))
theorem VH.frow {t : Nat} (ht : t < T) :
  whileN fuel (g_hidden_watcher_forward_b2 ⟨h, seen⟩ ((t : Int), tabI T n fun t' s' => if t' < t then fw h n seen t' s' else 0)) (0, tabI T n fun t' s' => if t' < t then fw h n seen t' s' else 0) =
   some (tabI T n fun t' s' => if t' < t + 1 then fw h n seen t' s' else 0) := by
 have hn4 := v.n4
 refine whileN_run (fun j => ((j : Int), tabI T n fun t' s' => if t' < t then fw h n seen t' s' else if t' = t ∧ s' < j then fw h n seen t' s' else 0)) n _ ?_ ?_ ?_ (by omega)
 ·refine Prod.ext rfl (tabI_congr fun t' _ s' _ => ?_)
  simp
 ·intro j hj
  have hle := v.fw_le w hT ht hj
  have setrow : ∀ (a : Int) (R : List Int), a = ((fw h n seen t j : Nat) : Int) → R = rowI n (fun s' => if s' < j then fw h n seen t s' else 0) → (some (.next (IntKind.i64.wrap ((j : Int) + 1), List.set (tabI T n fun t' s' => if t' < t then fw h n seen t' s' else if t' = t ∧ s' < j then fw h n seen t' s' else 0) (Int.toNat (t : Int))
    (List.set R (Int.toNat (j : Int)) a))) : Option (Step (Int × List (List Int)) (List (List Int)))) =
    some (.next (((j + 1 : Nat) : Int), tabI T n fun t' s' => if t' < t then fw h n seen t' s' else if t' = t ∧ s' < j + 1 then fw h n seen t' s' else 0)) := by
   intro a R ha hR
   subst hR
   rw [ha, nat_i, nat_i, rowI_set, tabI_set, w64 (by omega)]
   congr 2
   refine Prod.ext (by simp) (tabI_congr fun t' ht' s' hs' => ?_)
   by_cases e : t' = t
   ·subst e
    rw [if_pos rfl]
    simp only [Nat.lt_irrefl, if_false, true_and]
    by_cases e2 : s' = j
    ·subst e2; rw [if_pos rfl, if_pos (by omega)]
    ·rw [if_neg e2]
     by_cases e3 : s' < j
     ·rw [if_pos e3, if_pos (by omega)]
     ·rw [if_neg e3, if_neg (by omega)]
   ·rw [if_neg e]
    simp only [e, false_and, if_false]
  unfold g_hidden_watcher_forward_b2
  simp only [v.firstL]
  rw [if_pos (by simp; omega), v.first_get hj]
  simp only [Option.bind_some]
  by_cases h0 : t = 0
  ·subst h0
   rw [if_neg (by simp), tabI_get ht]
   simp only [Option.bind_some]
   rw [show ((0 : Nat) : Int) = (0 : Int) from rfl] at *
   have hsh := v.shown_eq w ht hj
   rw [show ((0 : Nat) : Int) = (0 : Int) from rfl] at hsh
   rw [hsh]
   simp only [Option.bind_some]
   rw [rowI_get hj]
   simp only [Option.bind_some]
   refine setrow _ _ ?_ (rowI_congr fun s' _ => by simp)
   rw [← Int.natCast_mul]
   rw [w64 (by simp only [fw] at hle; omega)]
   rfl
  ·obtain ⟨t', rfl⟩ : ∃ t', t = t' + 1 := ⟨t - 1, by omega⟩
   rw [if_pos (by rw [decide_eq_true_eq]; omega), show IntKind.i64.wrap (((t' + 1 : Nat) : Int) - 1) = (t' : Int) by rw [w64 (by omega)]; omega, tabI_get (by omega : t' < T)]
   simp only [Option.bind_some]
   rw [show (rowI n fun s' => if t' < t' + 1 then fw h n seen t' s' else if t' = t' + 1 ∧ s' < j then fw h n seen t' s' else 0) = rowI n (fw h n seen t') from rowI_congr fun s' _ => by rw [if_pos (by omega)]]
   rw [v.fsum w hT ht hj]
   simp only [Option.bind_some]
   rw [tabI_get ht]
   simp only [Option.bind_some]
   rw [v.shown_eq w ht hj]
   simp only [Option.bind_some]
   rw [rowI_get hj]
   simp only [Option.bind_some]
   refine setrow _ _ ?_ (rowI_congr fun s' _ => by simp)
   rw [← Int.natCast_mul, w64 (by simp only [fw] at hle; omega)]
   rfl
 ·unfold g_hidden_watcher_forward_b2
  simp only [v.firstL]
  rw [if_neg (by simp)]
  congr 2
  refine tabI_congr fun t' _ s' hs' => ?_
  by_cases e : t' < t
  ·rw [if_pos e, if_pos (by omega)]
  ·rw [if_neg e]
   by_cases e2 : t' = t
   ·rw [if_pos ⟨e2, hs'⟩, if_pos (by omega)]
   ·rw [if_neg (by simp [e2]), if_neg (by omega)]
theorem VH.forward_eq : g_hidden_watcher_forward ⟨h, seen⟩ = some (tabI T n (fw h n seen)) := by
 unfold g_hidden_watcher_forward
 have hlen := w.len
 rw [if_pos (by simp only; omega), v.ftab w hT]
 simp only [Option.bind_some]
 rw [whileN_run (fun j => ((j : Int), tabI T n fun t' s' => if t' < j then fw h n seen t' s' else 0)) T (tabI T n (fw h n seen)) ?_ ?_ ?_ (by omega)]
 ·rfl
 ·refine Prod.ext rfl (tabI_congr fun t' _ s' _ => by simp)
 ·intro j hj
  unfold g_hidden_watcher_forward_b3
  simp only [hlen]
  rw [if_pos (by simp; omega), v.frow w hT hj]
  simp only [Option.bind_some]
  rw [w64 (by omega)]
  rfl
 ·unfold g_hidden_watcher_forward_b3
  simp only [hlen]
  rw [if_neg (by simp)]
  congr 2
  exact tabI_congr fun t' ht s' _ => by rw [if_pos ht]
end
end Go.Ab
namespace Go.Ab
open Go
set_option maxRecDepth 100000
def pathR (n : Nat) : Nat → List (List Nat)
 | 0 => [[]]
 | t + 1 => (pathR n t).flatMap fun q => (List.range n).map fun s => s :: q
def pI (q : List Nat) : List Int := q.reverse.map fun (s : Nat) => (s : Int)
theorem pI_cons (s : Nat) (q : List Nat) : pI (s :: q) = pI q ++ [(s : Int)] := by simp [pI]
theorem pI_len (q : List Nat) : (pI q).length = q.length := by simp [pI]
theorem pI_get {q : List Nat} {j : Nat} (hj : j < q.length) : lkI (pI q) (j : Int) = some ((q[q.length - 1 - j]'(by omega) : Nat) : Int) := by
 rw [lkI_nat (by rw [pI_len]; exact hj)]
 simp [pI, List.getElem_reverse]
theorem pathR_mem {n : Nat} : ∀ {t : Nat} {q : List Nat}, q ∈ pathR n t → q.length = t ∧ ∀ s ∈ q, s < n
 | 0, q, h => by simp [pathR] at h; subst h; simp
 | t + 1, q, h => by
  simp only [pathR, List.mem_flatMap, List.mem_map, List.mem_range] at h
  obtain ⟨p, hp, s, hs, rfl⟩ := h
  obtain ⟨h1, h2⟩ := pathR_mem hp
  exact ⟨by simp [h1], fun x hx => by rcases List.mem_cons.1 hx with rfl | hx; exact hs; exact h2 x hx⟩
theorem flatMap_len {α β : Type} {f : α → List β} {c : Nat} (h : ∀ a, (f a).length = c) : ∀ l : List α, (l.flatMap f).length = l.length * c
 | [] => by simp
 | a :: l => by rw [List.flatMap_cons, List.length_append, h, flatMap_len h l, List.length_cons, Nat.succ_mul]; omega
theorem pathR_len (n t : Nat) : (pathR n t).length = n ^ t := by
 induction t with
 | zero => rfl
 | succ t ih => simp only [pathR]; rw [flatMap_len (c := n) (fun a => by simp), ih, Nat.pow_succ]
section
variable {h : Tapi_Hidden} {g n k : Nat} (v : VH h g n k)
include v
theorem VH.paths0 {q : List Nat} {L : List (List Nat)} {i : Nat} (hi : i < L.length) (hq : L[i] = q) (hql : q.length ≤ 8) (out : List (List Int)) (ho : out.length ≤ 4096) (j : Int) :
  whileN fuel (g_ref17_Paths_b0 h (j, L.map pI) ((i : Int), out)) (0, out) = some (out ++ ((List.range n).map fun s => s :: q).map pI) := by
 have hn4 := v.n4
 refine whileN_run (fun s => ((s : Int), out ++ ((List.range s).map fun s => s :: q).map pI)) n _ (by simp) ?_ ?_ (by omega)
 ·intro s hs
  unfold g_ref17_Paths_b0
  simp only [v.firstL]
  rw [if_pos (by simp; omega), lkI_nat (by simpa using hi)]
  simp only [Option.bind_some, List.getElem_map, hq]
  rw [if_pos (by rw [pI_len]; omega), if_pos (by rw [List.length_append, pI_len]; simp; omega), if_pos (by simp only [List.length_append, List.length_map, List.length_range, List.length_singleton]; omega), w64 (by omega)]
  congr 2
  refine Prod.ext (by simp) ?_
  rw [List.range_succ, List.map_append, List.map_append, List.append_assoc]
  simp only [List.map_cons, List.map_nil, pI_cons]
 ·unfold g_ref17_Paths_b0
  simp only [v.firstL]
  rw [if_neg (by simp)]
theorem VH.paths1 {t : Nat} (ht : t ≤ 8) (hs : n ^ (t + 1) ≤ 1024) (j : Int) :
  whileN fuel (g_ref17_Paths_b1 (j, (pathR n t).map pI) h) (0, []) = some ((pathR n (t + 1)).map pI) := by
 have hn4 := v.n4
 have hn1 := v.n1
 have hlen := pathR_len n t
 have hle : n ^ t ≤ n ^ (t + 1) := Nat.pow_le_pow_right hn1 (by omega)
 refine whileN_run (fun i => ((i : Int), (((pathR n t).take i).flatMap fun q => (List.range n).map fun s => s :: q).map pI)) (pathR n t).length _ (by simp) ?_ ?_ (by omega)
 ·intro i hi
  unfold g_ref17_Paths_b1
  simp only [List.length_map]
  rw [if_pos (by simp; omega)]
  have hm := pathR_mem (List.getElem_mem hi)
  have hl : (((((pathR n t).take i).flatMap fun q => (List.range n).map fun s => s :: q).map pI).length) ≤ 4096 := by
   rw [List.length_map, flatMap_len (c := n) (fun a => by simp), List.length_take]
   calc min i (pathR n t).length * n ≤ (pathR n t).length * n := Nat.mul_le_mul_right _ (Nat.min_le_right _ _)
     _ = n ^ (t + 1) := by rw [hlen, Nat.pow_succ]
     _ ≤ 4096 := by omega
  rw [v.paths0 hi rfl (by omega) _ hl]
  simp only [Option.bind_some]
  rw [w64 (by omega)]
  congr 2
  refine Prod.ext (by simp) ?_
  rw [List.take_succ_eq_append_getElem hi, List.flatMap_append, List.map_append]
  simp
 ·unfold g_ref17_Paths_b1
  simp only [List.length_map]
  rw [if_neg (by simp), List.take_length]
  rfl
theorem VH.paths_eq {t : Nat} (ht : t ≤ 8) (hs : n ^ t ≤ 1024) : g_ref17_Paths h (t : Int) = some ((pathR n t).map pI) := by
 unfold g_ref17_Paths
 have hn1 := v.n1
 rw [whileN_run (fun j => ((j : Int), (pathR n j).map pI)) t ((pathR n t).map pI) ?_ ?_ ?_ (by omega)]
 ·rfl
 ·simp [pathR, pI]
 ·intro j hj
  unfold g_ref17_Paths_b2
  simp only
  have : n ^ (j + 1) ≤ n ^ t := Nat.pow_le_pow_right hn1 hj
  rw [if_pos (by simp; omega), v.paths1 (by omega) (by omega)]
  simp only [Option.bind_some]
  rw [w64 (by omega)]
  rfl
 ·unfold g_ref17_Paths_b2
  simp only
  rw [if_neg (by simp)]
theorem VH.short_eq {t : Nat} (ht : t ≤ 8) : g_ref17_short h (t : Int) = some (decide (n ^ t ≤ 1024)) := by
 unfold g_ref17_short
 have hn4 := v.n4
 have lim : ∀ j, j ≤ 8 → n ^ j ≤ 65536 := fun j hj => by
  calc n ^ j ≤ 4 ^ j := Nat.pow_le_pow_left hn4 j
    _ ≤ 4 ^ 8 := Nat.pow_le_pow_right (by omega) hj
    _ = 65536 := by decide
 rw [whileN_run (fun j => (((n ^ j : Nat) : Int), (j : Int))) t ((n ^ t : Nat) : Int) (by simp) ?_ ?_ (by omega)]
 ·simp only [Option.bind_some]
  congr 1
  rw [Bool.eq_iff_iff, decide_eq_true_eq, decide_eq_true_eq]
  omega
 ·intro j hj
  unfold g_ref17_short_b0
  simp only [v.firstL]
  have := lim (j + 1) (by omega)
  have e : ((n ^ j : Nat) : Int) * (n : Int) = ((n ^ (j + 1) : Nat) : Int) := by rw [Nat.pow_succ, Int.natCast_mul]
  rw [if_pos (by simp; omega), e, w64 (by omega), w64 (by omega)]
  rfl
 ·unfold g_ref17_short_b0
  simp only
  rw [if_neg (by simp)]
end
def wR (h : Tapi_Hidden) (seen : List Int) : List Nat → Nat
 | [] => 1
 | [s] => nat1 h.First s * shN h (seen.getD 0 0) s
 | s :: r :: q => wR h seen (r :: q) * nat2 h.Step r s * shN h (seen.getD (q.length + 1) 0) s
section
variable {h : Tapi_Hidden} {g n k : Nat} (v : VH h g n k)
include v
theorem VH.wR_le (seen : List Int) : ∀ (q : List Nat), (∀ s ∈ q, s < n) → wR h seen q ≤ g ^ (2 * q.length)
 | [], _ => by simp [wR]
 | [s], hq => by
  simp only [wR, List.length_singleton]
  have h1 := v.first_le (hq s (by simp))
  have h2 := v.sh_le (seen.getD 0 0) (hq s (by simp))
  calc _ ≤ g * g := Nat.mul_le_mul h1 h2
    _ = g ^ (2 * 1) := by simp [Nat.pow_succ]
 | s :: r :: q, hq => by
  simp only [wR]
  have h0 := VH.wR_le seen (r :: q) (fun x hx => hq x (List.mem_cons_of_mem _ hx))
  have h1 := v.step_le (hq r (by simp)) (hq s (by simp))
  have h2 := v.sh_le (seen.getD (q.length + 1) 0) (hq s (by simp))
  calc _ ≤ g ^ (2 * (r :: q).length) * g * g := Nat.mul_le_mul (Nat.mul_le_mul h0 h1) h2
    _ = g ^ (2 * (s :: r :: q).length) := by simp only [List.length_cons]; rw [show 2 * (q.length + 1 + 1) = 2 * (q.length + 1) + 1 + 1 by omega, Nat.pow_succ g (2 * (q.length + 1) + 1), Nat.pow_succ]
theorem VH.weight_eq {seen : List Int} {T : Nat} (w : VS k seen T) (q : List Nat) (hq : ∀ s ∈ q, s < n) (hl : q.length ≤ T) (hT : T ≤ 8) (u : List Int) (hu : u = seen.take q.length) :
  g_ref17_Weight h u (pI q) = some ((wR h seen q : Nat) : Int) := by
 unfold g_ref17_Weight
 have hlen := w.len
 have key : ∀ j (hj : j < q.length), q.drop (q.length - (j + 1)) = q[q.length - 1 - j]'(by omega) :: q.drop (q.length - j) := fun j hj => by
  rw [List.drop_eq_getElem_cons (by omega : q.length - (j + 1) < q.length)]
  congr 1
  ·congr 1; omega
  ·congr 1; omega
 have bnd : ∀ j, j ≤ q.length → wR h seen (q.drop (q.length - j)) ≤ 184884258895036416 := fun j hj => by
  refine Nat.le_trans (v.wR_le seen _ (fun s hs => hq s (List.mem_of_mem_drop hs))) (pow12' v.g12 ?_)
  rw [List.length_drop]; omega
 rw [whileN_run (fun j => (((wR h seen (q.drop (q.length - j)) : Nat) : Int), (j : Int))) q.length ((wR h seen q : Nat) : Int) (by simp [wR]) ?_ ?_ (by omega)]
 ·rfl
 ·intro j hj
  have hk := key j hj
  have hb := bnd (j + 1) hj
  have hs : q[q.length - 1 - j]'(by omega) < n := hq _ (List.getElem_mem _)
  have hju : j < u.length := by rw [hu, List.length_take]; omega
  have hgu : u[j] = seen.getD j 0 := by
   subst hu
   simp only [List.getElem_take]
   simp [List.getD_eq_getElem?_getD, List.getElem?_eq_getElem (show j < seen.length by omega)]
  have hx : -1 ≤ seen.getD j 0 ∧ seen.getD j 0 < (k : Int) := by
   have := w.all _ (List.getElem_mem (show j < seen.length by omega))
   simpa [List.getD_eq_getElem?_getD, List.getElem?_eq_getElem (show j < seen.length by omega)] using this
  unfold g_ref17_Weight_b0
  simp only [pI_len]
  rw [if_pos (by simp; omega)]
  by_cases h0 : j = 0
  ·subst h0
   have e0 := pI_get (q := q) hj
   rw [show ((0 : Nat) : Int) = (0 : Int) from rfl] at e0
   rw [if_pos (by simp), e0]
   simp only [Option.bind_some]
   rw [v.first_get hs]
   simp only [Option.bind_some]
   rw [show ((0 : Nat) : Int) = (0 : Int) from rfl, e0]
   simp only [Option.bind_some]
   have eu := lkI_nat hju
   rw [show ((0 : Nat) : Int) = (0 : Int) from rfl] at eu
   rw [eu]
   simp only [Option.bind_some]
   rw [hgu, v.shows_eq hx hs]
   simp only [Option.bind_some]
   rw [hk] at hb ⊢
   have hd : q.drop (q.length - 0) = [] := by simp
   rw [hd] at hb ⊢
   simp only [wR] at hb ⊢
   rw [← Int.natCast_mul, w64 (by omega), w64 (by omega)]
   rfl
  ·obtain ⟨i, rfl⟩ : ∃ i, j = i + 1 := ⟨j - 1, by omega⟩
   have hi : i < q.length := by omega
   have hr : q[q.length - 1 - i]'(by omega) < n := hq _ (List.getElem_mem _)
   rw [if_neg (by simp; omega), show IntKind.i64.wrap (((i + 1 : Nat) : Int) - 1) = (i : Int) by rw [w64 (by omega)]; omega, pI_get hi]
   simp only [Option.bind_some]
   obtain ⟨l, h1, h2⟩ := v.step_get hr hs
   rw [h1]
   simp only [Option.bind_some]
   rw [pI_get hj]
   simp only [Option.bind_some]
   rw [h2]
   simp only [Option.bind_some]
   rw [lkI_nat hju]
   simp only [Option.bind_some]
   rw [hgu, v.shows_eq hx hs]
   simp only [Option.bind_some]
   have hk2 := key i hi
   rw [hk, hk2] at hb ⊢
   simp only [wR] at hb ⊢
   have hlen2 : (q.drop (q.length - i)).length + 1 = i + 1 := by rw [List.length_drop]; omega
   rw [hlen2] at hb ⊢
   have hb2 : wR h seen (q[q.length - 1 - i]'(by omega) :: q.drop (q.length - i)) * nat2 h.Step (q[q.length - 1 - i]'(by omega)) (q[q.length - 1 - (i + 1)]'(by omega)) ≤ 184884258895036416 * 12 := by
    have := bnd (i + 1) (by omega)
    rw [hk2] at this
    exact Nat.mul_le_mul this (Nat.le_trans (v.step_le hr hs) v.g12)
   generalize wR h seen (q[q.length - 1 - i]'(by omega) :: q.drop (q.length - i)) = A at *
   generalize nat2 h.Step (q[q.length - 1 - i]'(by omega)) (q[q.length - 1 - (i + 1)]'(by omega)) = B at *
   generalize shN h (seen.getD (i + 1) 0) (q[q.length - 1 - (i + 1)]'(by omega)) = C at *
   rw [← Int.natCast_mul, w64 (n := ((A * B : Nat) : Int)) (by omega), ← Int.natCast_mul, w64 (n := ((A * B * C : Nat) : Int)) (by omega), w64 (by omega)]
   rfl
 ·unfold g_ref17_Weight_b0
  simp only [pI_len]
  rw [if_neg (by simp)]
  simp
end
end Go.Ab
namespace Go.Ab
open Go
set_option maxRecDepth 100000
def acc (h : Tapi_Hidden) (seen : List Int) (s : Nat) : List (List Nat) → Nat
 | [] => 0
 | q :: L => acc h seen s L + if q.head? = some s then wR h seen q else 0
theorem acc_append {h : Tapi_Hidden} {seen : List Int} {s : Nat} : ∀ (A B : List (List Nat)), acc h seen s (A ++ B) = acc h seen s A + acc h seen s B
 | [], B => by simp [acc]
 | q :: A, B => by simp only [List.cons_append, acc, acc_append A B]; omega
def lsum (f : List Nat → Nat) : List (List Nat) → Nat
 | [] => 0
 | q :: L => lsum f L + f q
theorem lsum_congr {f f' : List Nat → Nat} : ∀ {L : List (List Nat)}, (∀ q ∈ L, f q = f' q) → lsum f L = lsum f' L
 | [], _ => rfl
 | q :: L, h => by simp only [lsum]; rw [lsum_congr (fun x hx => h x (List.mem_cons_of_mem _ hx)), h q (by simp)]
theorem acc_ext {h : Tapi_Hidden} {seen : List Int} {n s : Nat} (hs : s < n) (q : List Nat) : acc h seen s ((List.range n).map fun x => x :: q) = wR h seen (s :: q) := by
 have key : ∀ m, acc h seen s ((List.range m).map fun x => x :: q) = if s < m then wR h seen (s :: q) else 0 := by
  intro m
  induction m with
  | zero => rfl
  | succ m ih =>
   rw [List.range_succ, List.map_append, acc_append, ih]
   simp only [List.map_cons, List.map_nil, acc, List.head?_cons, Option.some.injEq, Nat.zero_add]
   by_cases e : m = s
   ·subst e; rw [if_neg (by omega), if_pos rfl, if_pos (by omega)]; omega
   ·rw [if_neg e]
    by_cases c : s < m
    ·rw [if_pos c, if_pos (by omega)]; omega
    ·rw [if_neg c, if_neg (by omega)]
 rw [key, if_pos hs]
theorem acc_flat {h : Tapi_Hidden} {seen : List Int} {n s : Nat} (hs : s < n) : ∀ (L : List (List Nat)), acc h seen s (L.flatMap fun q => (List.range n).map fun x => x :: q) = lsum (fun q => wR h seen (s :: q)) L
 | [] => rfl
 | q :: L => by rw [List.flatMap_cons, acc_append, acc_ext hs, acc_flat hs L]; simp only [lsum]; omega
theorem lsum_head {h : Tapi_Hidden} {seen : List Int} {n : Nat} (c : Nat → Nat) : ∀ (L : List (List Nat)), (∀ q ∈ L, ∃ r q', q = r :: q' ∧ r < n) →
  lsum (fun q => wR h seen q * c (q.headD 0)) L = sumTo n (fun r => acc h seen r L * c r)
 | [], _ => by simp only [lsum, acc]; rw [sumTo_zero (fun _ _ => by simp)]
 | q :: L, hL => by
  obtain ⟨r, q', rfl, hr⟩ := hL q (by simp)
  simp only [lsum, acc]
  rw [lsum_head c L (fun x hx => hL x (List.mem_cons_of_mem _ hx))]
  have e1 : ∀ x, x < n → (acc h seen x L + if (r :: q').head? = some x then wR h seen (r :: q') else 0) * c x = acc h seen x L * c x + if x = r then wR h seen (r :: q') * c x else 0 := fun x hx => by
   simp only [List.head?_cons, Option.some.injEq]
   by_cases e : r = x
   ·subst e; rw [if_pos rfl, if_pos rfl, Nat.add_mul]
   ·rw [if_neg e, if_neg (Ne.symm e)]; simp
  have e2 := sumTo_congr e1
  rw [sumTo_add, sumTo_ite (f := fun x => wR h seen (r :: q') * c x) hr] at e2
  simp only [List.headD_cons]
  exact e2.symm
theorem acc_fw (h : Tapi_Hidden) (n : Nat) (seen : List Int) : ∀ (t s : Nat), s < n → acc h seen s (pathR n (t + 1)) = fw h n seen t s
 | 0, s, hs => by
  rw [pathR, acc_flat hs]; simp [pathR, lsum, wR, fw]
 | t + 1, s, hs => by
  rw [pathR, acc_flat hs]
  have hm : ∀ q ∈ pathR n (t + 1), ∃ r q', q = r :: q' ∧ r < n ∧ q'.length = t := fun q hq => by
   obtain ⟨h1, h2⟩ := pathR_mem hq
   cases q with
   | nil => simp at h1
   | cons r q' => exact ⟨r, q', rfl, h2 r (by simp), by simpa using h1⟩
  rw [lsum_congr (f' := fun q => wR h seen q * (nat2 h.Step (q.headD 0) s * shN h (seen.getD (t + 1) 0) s)) (fun q hq => by
   obtain ⟨r, q', rfl, hr, hl⟩ := hm q hq
   simp only [wR, List.headD_cons, hl]
   rw [Nat.mul_assoc])]
  rw [lsum_head (n := n) (fun r => nat2 h.Step r s * shN h (seen.getD (t + 1) 0) s) _ (fun q hq => by obtain ⟨r, q', e, hr, _⟩ := hm q hq; exact ⟨r, q', e, hr⟩)]
  simp only [fw]
  rw [← sumTo_mulr]
  refine sumTo_congr fun r hr => ?_
  rw [acc_fw h n seen t r hr, Nat.mul_assoc]
theorem acc_mono {h : Tapi_Hidden} {seen : List Int} {s : Nat} (L : List (List Nat)) (i : Nat) : acc h seen s (L.take i) ≤ acc h seen s L := by
 have := acc_append (h := h) (seen := seen) (s := s) (L.take i) (L.drop i)
 rw [List.take_append_drop] at this; omega
section
variable {h : Tapi_Hidden} {g n k : Nat} (v : VH h g n k) {seen : List Int} {T : Nat} (w : VS k seen T) (hT : 1 ≤ T ∧ T ≤ 8)
include v w hT
theorem VH.rzero : whileN fuel (g_ref17_Forward_b0 seen h) (0, []) = some (tabI T n fun _ _ => 0) := by
 have hlen := w.len
 have hn4 := v.n4
 refine whileN_run (fun j => ((j : Int), tabI j n fun _ _ => 0)) T _ rfl ?_ ?_ (by omega)
 ·intro j hj
  unfold g_ref17_Forward_b0
  simp only [v.firstL, hlen, nat_i]
  rw [if_pos (by simp; omega), if_pos (by omega), if_pos (by rw [List.length_append, tabI_len]; simp; omega), w64 (by omega), rowI_zero]
  congr 2
  refine Prod.ext (by simp) ?_
  simp only [tabI]
  rw [List.range_succ, List.map_append]; rfl
 ·unfold g_ref17_Forward_b0
  simp only [hlen]
  rw [if_neg (by simp)]
def midI (T n : Nat) (F : Nat → Nat → Nat) (t : Nat) (f : Nat → Nat) : List (List Int) := tabI T n fun t' s => if t' < t then F t' s else if t' = t then f s else 0
omit v w hT in
theorem midI_row {T n : Nat} {F : Nat → Nat → Nat} {t : Nat} {f : Nat → Nat} (ht : t < T) : lkI (midI T n F t f) (t : Int) = some (rowI n f) := by
 unfold midI; rw [tabI_get ht]
 congr 1; exact rowI_congr fun s _ => by rw [if_neg (by omega), if_pos rfl]
omit v w hT in
theorem midI_set {T n : Nat} {F : Nat → Nat → Nat} {t : Nat} {f : Nat → Nat} {s x : Nat} : (midI T n F t f).set t ((rowI n f).set s (x : Int)) = midI T n F t (fun s' => if s' = s then x else f s') := by
 unfold midI
 rw [rowI_set, tabI_set]
 refine tabI_congr fun t' _ s' _ => ?_
 by_cases e : t' = t
 ·subst e; simp
 ·simp [e]
theorem VH.rpaths {t : Nat} (ht : t < T) (hs : n ^ (t + 1) ≤ 1024) :
  whileN fuel (g_ref17_Forward_b1 ((pathR n (t + 1)).map pI) ((t : Int), midI T n (fw h n seen) t fun _ => 0) seen h) (0, midI T n (fw h n seen) t fun _ => 0) = some (midI T n (fw h n seen) t (fw h n seen t)) := by
 have hlen := w.len
 have hpl := pathR_len n (t + 1)
 refine whileN_run (fun i => ((i : Int), midI T n (fw h n seen) t fun s => acc h seen s ((pathR n (t + 1)).take i))) (pathR n (t + 1)).length _ ?_ ?_ ?_ (by omega)
 ·simp [acc]
 ·intro i hi
  obtain ⟨hq1, hq2⟩ := pathR_mem (List.getElem_mem hi)
  unfold g_ref17_Forward_b1
  simp only [List.length_map]
  rw [if_pos (by simp; omega), lkI_nat (by simpa using hi)]
  simp only [Option.bind_some, List.getElem_map]
  generalize hq : (pathR n (t + 1))[i] = q at *
  obtain ⟨r, q', rfl⟩ : ∃ r q', q = r :: q' := by cases q with | nil => simp at hq1 | cons r q' => exact ⟨r, q', rfl⟩
  have hr : r < n := hq2 r (by simp)
  have e1 : lkI (pI (r :: q')) (t : Int) = some (r : Int) := by
   rw [pI_get (by omega)]
   congr 2
   have : (r :: q').length - 1 - t = 0 := by omega
   simp only [this, List.getElem_cons_zero]
  rw [e1]
  simp only [Option.bind_some]
  rw [midI_row ht]
  simp only [Option.bind_some]
  rw [rowI_get hr]
  simp only [Option.bind_some]
  rw [w64 (n := (t : Int) + 1) (by omega), if_pos (by omega), show ((t : Int) + 1) = ((t + 1 : Nat) : Int) by omega, sub_take]
  rw [v.weight_eq w (r :: q') hq2 (by omega) hT.2 (seen.take (t + 1)) (by rw [hq1])]
  simp only [Option.bind_some]
  have hacc : acc h seen r ((pathR n (t + 1)).take (i + 1)) = acc h seen r ((pathR n (t + 1)).take i) + wR h seen (r :: q') := by
   rw [List.take_succ_eq_append_getElem hi, acc_append, hq]; simp [acc]
  have hb : acc h seen r ((pathR n (t + 1)).take (i + 1)) ≤ 184884258895036416 := by
   refine Nat.le_trans (acc_mono _ _) ?_
   rw [acc_fw h n seen t r hr]
   exact v.fw_le w hT ht hr
  rw [hacc] at hb
  rw [← Int.natCast_add, w64 (n := ((acc h seen r ((pathR n (t + 1)).take i) + wR h seen (r :: q') : Nat) : Int)) (by omega), nat_i, nat_i, midI_set, w64 (by omega)]
  congr 2
  refine Prod.ext (by simp) ?_
  unfold midI
  refine tabI_congr fun t' _ s' _ => ?_
  by_cases e2 : t' < t
  ·rw [if_pos e2, if_pos e2]
  ·rw [if_neg e2, if_neg e2]
   by_cases e3 : t' = t
   ·rw [if_pos e3, if_pos e3]
    dsimp only
    by_cases e4 : s' = r
    ·subst e4; rw [if_pos rfl, hacc]
    ·rw [if_neg e4, List.take_succ_eq_append_getElem hi, acc_append, hq]
     simp only [acc, List.head?_cons, Option.some.injEq]
     rw [if_neg (Ne.symm e4)]; rfl
   ·rw [if_neg e3, if_neg e3]
 ·unfold g_ref17_Forward_b1
  simp only [List.length_map]
  rw [if_neg (by simp)]
  congr 2
  unfold midI
  refine tabI_congr fun t' _ s' hs' => ?_
  dsimp only
  rw [List.take_length, acc_fw h n seen t s' hs']
end
end Go.Ab
namespace Go.Ab
open Go
set_option maxRecDepth 100000
section
variable {h : Tapi_Hidden} {g n k : Nat} (v : VH h g n k) {seen : List Int} {T : Nat} (w : VS k seen T) (hT : 1 ≤ T ∧ T ≤ 8)
include v w hT
theorem VH.rstep2 {t s : Nat} (ht : t + 1 < T) (hs : s < n) (f : Nat → Nat) (f0 : f s = 0) (s6 s31 : List (List Int)) :
  whileN fuel (g_ref17_Forward_b2 h (((t + 1 : Nat) : Int), s6) ((s : Int), s31) seen) (0, midI T n (fw h n seen) (t + 1) f) = some (midI T n (fw h n seen) (t + 1) fun s' => if s' = s then fw h n seen (t + 1) s else f s') := by
 have hn4 := v.n4
 have hlen := w.len
 have hx : -1 ≤ seen.getD (t + 1) 0 ∧ seen.getD (t + 1) 0 < (k : Int) := by
  have := w.all _ (List.getElem_mem (show t + 1 < seen.length by omega))
  simpa [List.getD_eq_getElem?_getD, List.getElem?_eq_getElem (show t + 1 < seen.length by omega)] using this
 have hge : lkI seen (((t + 1 : Nat)) : Int) = some (seen.getD (t + 1) 0) := by
  rw [lkI_nat (show t + 1 < seen.length by omega)]
  simp [List.getD_eq_getElem?_getD, List.getElem?_eq_getElem (show t + 1 < seen.length by omega)]
 have htot : sumTo n (fun r => fw h n seen t r * nat2 h.Step r s * shN h (seen.getD (t + 1) 0) s) = fw h n seen (t + 1) s := by
  rw [sumTo_mulr]; rfl
 have lim : ∀ j, j ≤ n → sumTo j (fun r => fw h n seen t r * nat2 h.Step r s * shN h (seen.getD (t + 1) 0) s) ≤ 184884258895036416 := fun j hj => by
  refine Nat.le_trans (sumTo_mono hj) ?_
  rw [htot]; exact v.fw_le w hT ht hs
 refine whileN_run (fun j => ((j : Int), midI T n (fw h n seen) (t + 1) fun s' => if s' = s then sumTo j (fun r => fw h n seen t r * nat2 h.Step r s * shN h (seen.getD (t + 1) 0) s) else f s')) n _ ?_ ?_ ?_ (by omega)
 ·refine Prod.ext rfl ?_
  unfold midI
  refine tabI_congr fun t' _ s' _ => ?_
  by_cases e : s' = s
  ·subst e; simp [sumTo, f0]
  ·simp [e]
 ·intro j hj
  unfold g_ref17_Forward_b2
  simp only [v.firstL]
  rw [if_pos (by rw [decide_eq_true_eq]; omega), midI_row ht]
  simp only [Option.bind_some]
  rw [rowI_get hs]
  simp only [Option.bind_some, if_true]
  have hprev : lkI (midI T n (fw h n seen) (t + 1) fun s' => if s' = s then sumTo j (fun r => fw h n seen t r * nat2 h.Step r s * shN h (seen.getD (t + 1) 0) s) else f s') (t : Int) = some (rowI n (fw h n seen t)) := by
   unfold midI
   rw [tabI_get (by omega)]
   congr 1
   exact rowI_congr fun s' _ => by rw [if_pos (by omega)]
  rw [show IntKind.i64.wrap (((t + 1 : Nat) : Int) - 1) = (t : Int) by rw [w64 (by omega)]; omega, hprev]
  simp only [Option.bind_some]
  rw [rowI_get hj]
  simp only [Option.bind_some]
  obtain ⟨l, h1, h2⟩ := v.step_get hj hs
  rw [h1]
  simp only [Option.bind_some]
  rw [h2]
  simp only [Option.bind_some]
  rw [hge]
  simp only [Option.bind_some]
  rw [v.shows_eq hx hs]
  simp only [Option.bind_some]
  have l1 := lim (j + 1) hj
  have l0 := v.fw_le w hT (show t < T by omega) hj
  have l2 := v.step_le hj hs
  have hb : fw h n seen t j * nat2 h.Step j s ≤ 184884258895036416 * 12 := Nat.mul_le_mul l0 (Nat.le_trans l2 v.g12)
  simp only [sumTo] at l1
  generalize hA : fw h n seen t j = A at *
  generalize hB : nat2 h.Step j s = B at *
  generalize hC : shN h (seen.getD (t + 1) 0) s = C at *
  rw [← Int.natCast_mul, w64 (n := ((A * B : Nat) : Int)) (by omega), ← Int.natCast_mul, w64 (n := ((A * B * C : Nat) : Int)) (by omega), ← Int.natCast_add, w64 (n := (((sumTo j fun r => fw h n seen t r * nat2 h.Step r s * C) + A * B * C : Nat) : Int)) (by omega), w64 (by omega), nat_i, nat_i, midI_set]
  congr 2
  refine Prod.ext (by simp) ?_
  dsimp only
  congr 1
  funext s'
  by_cases e : s' = s
  ·rw [if_pos e, if_pos e]; simp only [sumTo, hA, hB]
  ·rw [if_neg e, if_neg e, if_neg e]
 ·unfold g_ref17_Forward_b2
  simp only [v.firstL]
  rw [if_neg (by simp), htot]
theorem VH.rstep3 {t : Nat} (ht : t + 1 < T) :
  whileN fuel (g_ref17_Forward_b3 h (((t + 1 : Nat) : Int), midI T n (fw h n seen) (t + 1) fun _ => 0) seen) (0, midI T n (fw h n seen) (t + 1) fun _ => 0) = some (midI T n (fw h n seen) (t + 1) (fw h n seen (t + 1))) := by
 have hn4 := v.n4
 refine whileN_run (fun j => ((j : Int), midI T n (fw h n seen) (t + 1) fun s => if s < j then fw h n seen (t + 1) s else 0)) n _ ?_ ?_ ?_ (by omega)
 ·refine Prod.ext rfl ?_
  unfold midI
  exact tabI_congr fun t' _ s' _ => by simp
 ·intro j hj
  unfold g_ref17_Forward_b3
  simp only [v.firstL]
  rw [if_pos (by rw [decide_eq_true_eq]; omega), v.rstep2 w hT ht hj _ (by simp)]
  simp only [Option.bind_some]
  rw [w64 (by omega)]
  congr 2
  refine Prod.ext (by simp) ?_
  dsimp only
  congr 1
  funext s'
  by_cases e : s' = j
  ·subst e; rw [if_pos rfl, if_pos (by omega)]
  ·rw [if_neg e]
   by_cases e2 : s' < j
   ·rw [if_pos e2, if_pos (by omega)]
   ·rw [if_neg e2, if_neg (by omega)]
 ·unfold g_ref17_Forward_b3
  simp only [v.firstL]
  rw [if_neg (by simp)]
  congr 2
  unfold midI
  refine tabI_congr fun t' _ s' hs' => ?_
  simp [hs']
theorem VH.rforward_eq : g_ref17_Forward h seen = some (tabI T n (fw h n seen)) := by
 unfold g_ref17_Forward
 have hlen := w.len
 have hn4 := v.n4
 rw [v.rzero w hT]
 simp only [Option.bind_some]
 have hrow : ∀ t, (tabI T n fun t' s => if t' < t then fw h n seen t' s else 0) = midI T n (fw h n seen) t fun _ => 0 := fun t => by
  unfold midI
  exact tabI_congr fun t' _ s _ => by split <;> simp
 have hnext : ∀ t, midI T n (fw h n seen) t (fw h n seen t) = tabI T n fun t' s => if t' < t + 1 then fw h n seen t' s else 0 := fun t => by
  unfold midI
  refine tabI_congr fun t' _ s _ => ?_
  by_cases e : t' < t
  ·rw [if_pos e, if_pos (by omega)]
  ·rw [if_neg e]
   by_cases e2 : t' = t
   ·subst e2; rw [if_pos rfl, if_pos (by omega)]
   ·rw [if_neg e2, if_neg (by omega)]
 rw [whileN_run (fun j => ((j : Int), tabI T n fun t' s => if t' < j then fw h n seen t' s else 0)) T (tabI T n (fw h n seen)) ?_ ?_ ?_ (by omega)]
 ·rfl
 ·refine Prod.ext rfl (tabI_congr fun t' _ s' _ => by simp)
 ·intro t ht
  unfold g_ref17_Forward_b4
  simp only [hlen]
  rw [if_pos (by rw [decide_eq_true_eq]; omega), w64 (n := (t : Int) + 1) (by omega), show ((t : Int) + 1) = ((t + 1 : Nat) : Int) by omega, v.short_eq (by omega)]
  simp only [Option.bind_some]
  by_cases hsh : n ^ (t + 1) ≤ 1024
  ·rw [if_pos (by simpa using hsh), v.paths_eq (by omega) hsh]
   simp only [Option.bind_some]
   rw [hrow t, v.rpaths w hT ht hsh]
   simp only [Option.bind_some]
   rw [hnext t]
  ·rw [if_neg (by simpa using hsh)]
   have h0 : t ≠ 0 := fun e => by subst e; simp at hsh; omega
   obtain ⟨t', rfl⟩ : ∃ t', t = t' + 1 := ⟨t - 1, by omega⟩
   rw [hrow (t' + 1), v.rstep3 w hT ht]
   simp only [Option.bind_some]
   rw [hnext (t' + 1)]
 ·unfold g_ref17_Forward_b4
  simp only [hlen]
  rw [if_neg (by simp)]
  congr 2
  exact tabI_congr fun t' ht s' _ => by rw [if_pos ht]
end
end Go.Ab
namespace Go.Ab
open Go
set_option maxRecDepth 100000
def bwd (h : Tapi_Hidden) (n : Nat) (seen : List Int) (T : Nat) : Nat → Nat → Nat
 | 0, _ => 1
 | d + 1, s => sumTo n (fun r => nat2 h.Step s r * shN h (seen.getD (T - 1 - d) 0) r * bwd h n seen T d r)
def bw (h : Tapi_Hidden) (n : Nat) (seen : List Int) (T t s : Nat) : Nat := bwd h n seen T (T - 1 - t) s
theorem bw_last (h : Tapi_Hidden) (n : Nat) (seen : List Int) (T s : Nat) : bw h n seen T (T - 1) s = 1 := by
 unfold bw; rw [Nat.sub_self]; rfl
theorem bw_step (h : Tapi_Hidden) (n : Nat) (seen : List Int) {T t : Nat} (ht : t + 1 < T) (s : Nat) :
  bw h n seen T t s = sumTo n (fun r => nat2 h.Step s r * shN h (seen.getD (t + 1) 0) r * bw h n seen T (t + 1) r) := by
 unfold bw
 obtain ⟨d, hd⟩ : ∃ d, T - 1 - t = d + 1 := ⟨T - 1 - t - 1, by omega⟩
 rw [hd, show T - 1 - (t + 1) = d by omega, bwd, show T - 1 - d = t + 1 by omega]
def midB (T n : Nat) (F : Nat → Nat → Nat) (t : Nat) (f : Nat → Nat) : List (List Int) := tabI T n fun t' s => if t < t' then F t' s else if t' = t then f s else 0
theorem midB_row {T n : Nat} {F : Nat → Nat → Nat} {t : Nat} {f : Nat → Nat} (ht : t < T) : lkI (midB T n F t f) (t : Int) = some (rowI n f) := by
 unfold midB; rw [tabI_get ht]
 congr 1; exact rowI_congr fun s _ => by rw [if_neg (by omega), if_pos rfl]
theorem midB_next {T n : Nat} {F : Nat → Nat → Nat} {t : Nat} {f : Nat → Nat} (ht : t + 1 < T) : lkI (midB T n F t f) ((t + 1 : Nat) : Int) = some (rowI n (F (t + 1))) := by
 unfold midB; rw [tabI_get ht]
 congr 1; exact rowI_congr fun s _ => by rw [if_pos (by omega)]
theorem midB_set {T n : Nat} {F : Nat → Nat → Nat} {t : Nat} {f : Nat → Nat} {s x : Nat} : (midB T n F t f).set t ((rowI n f).set s (x : Int)) = midB T n F t (fun s' => if s' = s then x else f s') := by
 unfold midB
 rw [rowI_set, tabI_set]
 refine tabI_congr fun t' _ s' _ => ?_
 by_cases e : t' = t
 ·subst e; simp
 ·simp [e]
section
variable {h : Tapi_Hidden} {g n k : Nat} (v : VH h g n k) {seen : List Int} {T : Nat} (w : VS k seen T) (hT : 1 ≤ T ∧ T ≤ 8)
include v
theorem VH.bwd_le (seen : List Int) (T : Nat) : ∀ (d s : Nat), s < n → bwd h n seen T d s ≤ g ^ (2 * d)
 | 0, s, _ => by simp [bwd]
 | d + 1, s, hs => by
  calc bwd h n seen T (d + 1) s ≤ sumTo n (fun r => nat2 h.Step s r * (g * g ^ (2 * d))) := sumTo_le fun r hr => by
        rw [Nat.mul_assoc]
        exact Nat.mul_le_mul_left _ (Nat.mul_le_mul (v.sh_le _ hr) (VH.bwd_le seen T d r hr))
    _ = g * (g * g ^ (2 * d)) := by rw [sumTo_mulr, v.step_sum hs]
    _ = g ^ (2 * (d + 1)) := by rw [show 2 * (d + 1) = 2 * d + 1 + 1 by omega, Nat.pow_succ, Nat.pow_succ, Nat.mul_comm (g ^ (2 * d)) g, Nat.mul_comm _ g]
include w hT
theorem VH.bw_le {t : Nat} (ht : t < T) {s : Nat} (hs : s < n) : bw h n seen T t s ≤ 184884258895036416 :=
 Nat.le_trans (v.bwd_le seen T _ s hs) (pow12' v.g12 (by omega))
theorem VH.bsum {t s : Nat} (ht : t + 1 < T) (hs : s < n) (f : Nat → Nat) (f0 : f s = 0) (a22 : List Int) (ha : a22.length = n) (s9 s12 : List (List Int)) :
  whileN fuel (g_hidden_watcher_backward_b1 a22 ((t : Int), s9) ((s : Int), s12) ⟨h, seen⟩) (0, midB T n (bw h n seen T) t f) =
   some (midB T n (bw h n seen T) t fun s' => if s' = s then bw h n seen T t s else f s') := by
 have hn4 := v.n4
 have htot := bw_step h n seen ht s
 have lim : ∀ j, j ≤ n → sumTo j (fun r => nat2 h.Step s r * shN h (seen.getD (t + 1) 0) r * bw h n seen T (t + 1) r) ≤ 184884258895036416 := fun j hj => by
  refine Nat.le_trans (sumTo_mono hj) ?_
  rw [← htot]; exact v.bw_le w hT (by omega) hs
 refine whileN_run (fun j => ((j : Int), midB T n (bw h n seen T) t fun s' => if s' = s then sumTo j (fun r => nat2 h.Step s r * shN h (seen.getD (t + 1) 0) r * bw h n seen T (t + 1) r) else f s')) n _ ?_ ?_ ?_ (by omega)
 ·refine Prod.ext rfl ?_
  unfold midB
  refine tabI_congr fun t' _ s' _ => ?_
  by_cases e : s' = s
  ·subst e; simp [sumTo, f0]
  ·simp [e]
 ·intro j hj
  unfold g_hidden_watcher_backward_b1
  simp only [ha]
  rw [if_pos (by rw [decide_eq_true_eq]; omega), show IntKind.i64.wrap ((t : Int) + 1) = ((t + 1 : Nat) : Int) by rw [w64 (by omega)]; omega, midB_next ht]
  simp only [Option.bind_some]
  rw [rowI_get hj]
  simp only [Option.bind_some]
  rw [if_pos (by omega), midB_row (by omega)]
  simp only [Option.bind_some]
  rw [rowI_get hs]
  simp only [Option.bind_some, if_true]
  obtain ⟨l, h1, h2⟩ := v.step_get hs hj
  rw [h1]
  simp only [Option.bind_some]
  rw [h2]
  simp only [Option.bind_some]
  rw [v.shown_eq w ht hj]
  simp only [Option.bind_some]
  have l1 := lim (j + 1) hj
  have l2 := Nat.mul_le_mul (Nat.le_trans (v.step_le hs hj) v.g12) (Nat.le_trans (v.sh_le (seen.getD (t + 1) 0) hj) v.g12)
  simp only [sumTo] at l1
  generalize hA : bw h n seen T (t + 1) j = A at *
  generalize hB : nat2 h.Step s j = B at *
  generalize hC : shN h (seen.getD (t + 1) 0) j = C at *
  rw [← Int.natCast_mul, w64 (n := ((B * C : Nat) : Int)) (by omega), ← Int.natCast_mul, w64 (n := ((B * C * A : Nat) : Int)) (by omega), ← Int.natCast_add, w64 (n := (((sumTo j fun r => nat2 h.Step s r * shN h (seen.getD (t + 1) 0) r * bw h n seen T (t + 1) r) + B * C * A : Nat) : Int)) (by omega), w64 (by omega), nat_i, nat_i, midB_set]
  congr 2
  refine Prod.ext (by simp) ?_
  dsimp only
  congr 1
  funext s'
  by_cases e : s' = s
  ·rw [if_pos e, if_pos e]; simp only [sumTo, hA, hB, hC]
  ·rw [if_neg e, if_neg e, if_neg e]
 ·unfold g_hidden_watcher_backward_b1
  simp only [ha]
  rw [if_neg (by simp), ← htot]
theorem VH.btab : whileN fuel (g_hidden_watcher_backward_b0 ⟨h, seen⟩) (0, List.replicate (Int.toNat (seen.length : Int)) ([] : List Int)) = some (tabI T n fun _ _ => 0) := v.ftab w hT
theorem VH.brow {t : Nat} (ht : t < T) (s9 : List (List Int)) :
  whileN fuel (g_hidden_watcher_backward_b2 ⟨h, seen⟩ ((t : Int), s9)) (0, midB T n (bw h n seen T) t fun _ => 0) = some (midB T n (bw h n seen T) t (bw h n seen T t)) := by
 have hn4 := v.n4
 have hlen := w.len
 refine whileN_run (fun j => ((j : Int), midB T n (bw h n seen T) t fun s => if s < j then bw h n seen T t s else 0)) n _ ?_ ?_ ?_ (by omega)
 ·refine Prod.ext rfl ?_
  unfold midB
  exact tabI_congr fun t' _ s' _ => by simp
 ·intro j hj
  have fin : ∀ x : Nat, x = bw h n seen T t j → midB T n (bw h n seen T) t (fun s' => if s' = j then x else if s' < j then bw h n seen T t s' else 0) = midB T n (bw h n seen T) t fun s => if s < j + 1 then bw h n seen T t s else 0 := fun x hx => by
   congr 1
   funext s'
   by_cases e : s' = j
   ·subst e; rw [if_pos rfl, if_pos (by omega), hx]
   ·rw [if_neg e]
    by_cases e2 : s' < j
    ·rw [if_pos e2, if_pos (by omega)]
    ·rw [if_neg e2, if_neg (by omega)]
  unfold g_hidden_watcher_backward_b2
  simp only [v.firstL, hlen]
  rw [if_pos (by rw [decide_eq_true_eq]; omega)]
  by_cases hl : t = T - 1
  ·rw [if_pos (by rw [w64 (by omega), beq_iff_eq]; omega), midB_row ht]
   simp only [Option.bind_some]
   rw [rowI_get hj]
   simp only [Option.bind_some]
   have e1 : (1 : Int) = ((1 : Nat) : Int) := rfl
   rw [w64 (by omega), nat_i, nat_i]
   have := midB_set (T := T) (n := n) (F := bw h n seen T) (t := t) (f := fun s => if s < j then bw h n seen T t s else 0) (s := j) (x := 1)
   rw [show ((1 : Nat) : Int) = 1 from rfl] at this
   rw [this, fin 1 (by rw [hl, bw_last])]
   rfl
  ·rw [if_neg (by rw [w64 (by omega), beq_iff_eq]; omega), show IntKind.i64.wrap ((t : Int) + 1) = ((t + 1 : Nat) : Int) by rw [w64 (by omega)]; omega, midB_next (by omega)]
   simp only [Option.bind_some]
   rw [v.bsum w hT (by omega) hj _ (by simp) _ rowI_len]
   simp only [Option.bind_some]
   rw [w64 (by omega), fin _ rfl]
   rfl
 ·unfold g_hidden_watcher_backward_b2
  simp only [v.firstL]
  rw [if_neg (by simp)]
  congr 2
  unfold midB
  refine tabI_congr fun t' _ s' hs' => ?_
  simp [hs']
theorem VH.backward_eq : g_hidden_watcher_backward ⟨h, seen⟩ = some (tabI T n (bw h n seen T)) := by
 unfold g_hidden_watcher_backward
 have hlen := w.len
 rw [if_pos (by simp only; omega), v.btab w hT]
 simp only [Option.bind_some]
 rw [whileN_run (fun j => ((T : Int) - 1 - j, tabI T n fun t' s' => if T - 1 - t' < j then bw h n seen T t' s' else 0)) T (tabI T n (bw h n seen T)) ?_ ?_ ?_ (by omega)]
 ·rfl
 ·refine Prod.ext ?_ (tabI_congr fun t' _ s' _ => by simp)
  simp only [hlen]
  rw [w64 (by omega)]; omega
 ·intro j hj
  unfold g_hidden_watcher_backward_b3
  simp only []
  rw [if_pos (by rw [decide_eq_true_eq]; omega), show (T : Int) - 1 - (j : Int) = ((T - 1 - j : Nat) : Int) by omega]
  have e1 : (tabI T n fun t' s' => if T - 1 - t' < j then bw h n seen T t' s' else 0) = midB T n (bw h n seen T) (T - 1 - j) fun _ => 0 := by
   unfold midB
   refine tabI_congr fun t' ht' s' _ => ?_
   by_cases c : T - 1 - t' < j
   ·rw [if_pos c, if_pos (by omega)]
   ·rw [if_neg c, if_neg (by omega)]; simp
  rw [e1, v.brow w hT (by omega)]
  simp only [Option.bind_some]
  rw [w64 (by omega)]
  congr 2
  refine Prod.ext (by simp only []; omega) ?_
  unfold midB
  refine tabI_congr fun t' ht' s' _ => ?_
  by_cases c : T - 1 - j < t'
  ·rw [if_pos c, if_pos (by omega)]
  ·rw [if_neg c]
   by_cases c2 : t' = T - 1 - j
   ·rw [if_pos c2, if_pos (by omega), c2]
   ·rw [if_neg c2, if_neg (by omega)]
 ·unfold g_hidden_watcher_backward_b3
  simp only []
  rw [if_neg (by simp only [ge_iff_le, decide_eq_true_eq]; omega)]
  congr 2
  exact tabI_congr fun t' ht s' _ => by rw [if_pos (by omega)]
end
end Go.Ab
namespace Go.Ab
open Go
set_option maxRecDepth 100000
def wB (h : Tapi_Hidden) (seen : List Int) (t s : Nat) : List Nat → Nat
 | [] => 1
 | x :: q => wB h seen t s q * nat2 h.Step (q.headD s) x * shN h (seen.getD (t + 1 + q.length) 0) x
theorem lsum_append (f : List Nat → Nat) : ∀ (A B : List (List Nat)), lsum f (A ++ B) = lsum f A + lsum f B
 | [], B => by simp [lsum]
 | q :: A, B => by simp only [List.cons_append, lsum, lsum_append f A B]; omega
theorem lsum_ext (f : List Nat → Nat) (q : List Nat) (n : Nat) : lsum f ((List.range n).map fun x => x :: q) = sumTo n fun x => f (x :: q) := by
 induction n with
 | zero => rfl
 | succ n ih =>
  rw [List.range_succ, List.map_append, lsum_append, ih]
  simp [lsum, sumTo]
theorem lsum_flat (f : List Nat → Nat) (n : Nat) : ∀ (L : List (List Nat)), lsum f (L.flatMap fun q => (List.range n).map fun x => x :: q) = lsum (fun q => sumTo n fun x => f (x :: q)) L
 | [] => rfl
 | q :: L => by rw [List.flatMap_cons, lsum_append, lsum_ext, lsum_flat f n L]; simp only [lsum]; omega
theorem lsum_take (f : List Nat → Nat) (L : List (List Nat)) (i : Nat) : lsum f (L.take i) ≤ lsum f L := by
 have := lsum_append f (L.take i) (L.drop i)
 rw [List.take_append_drop] at this; omega
theorem wB_sum (h : Tapi_Hidden) (n : Nat) (seen : List Int) {T t s : Nat} (hs : s < n) : ∀ (d : Nat), t + d < T →
  lsum (fun q => wB h seen t s q * bw h n seen T (t + d) (q.headD s)) (pathR n d) = bw h n seen T t s
 | 0, _ => by simp [pathR, lsum, wB]
 | d + 1, hd => by
  rw [← wB_sum h n seen hs d (by omega), pathR, lsum_flat]
  refine lsum_congr fun q hq => ?_
  obtain ⟨h1, h2⟩ := pathR_mem hq
  rw [bw_step h n seen (by omega : t + d + 1 < T), ← sumTo_mul]
  refine sumTo_congr fun x hx => ?_
  simp only [wB, List.headD_cons, h1]
  rw [show t + 1 + d = t + d + 1 by omega, show t + (d + 1) = t + d + 1 by omega]
  simp only [Nat.mul_assoc]
theorem wB_total (h : Tapi_Hidden) (n : Nat) (seen : List Int) {T t s : Nat} (hs : s < n) (ht : t < T) : lsum (wB h seen t s) (pathR n (T - 1 - t)) = bw h n seen T t s := by
 rw [← wB_sum h n seen hs (T - 1 - t) (by omega)]
 refine lsum_congr fun q _ => ?_
 rw [show t + (T - 1 - t) = T - 1 by omega, bw_last, Nat.mul_one]
section
variable {h : Tapi_Hidden} {g n k : Nat} (v : VH h g n k) {seen : List Int} {T : Nat} (w : VS k seen T) (hT : 1 ≤ T ∧ T ≤ 8)
include v
theorem VH.wB_le (seen : List Int) (t s : Nat) (hs : s < n) : ∀ (q : List Nat), (∀ x ∈ q, x < n) → wB h seen t s q ≤ g ^ (2 * q.length)
 | [], _ => by simp [wB]
 | x :: q, hq => by
  simp only [wB]
  have h0 := VH.wB_le seen t s hs q (fun y hy => hq y (List.mem_cons_of_mem _ hy))
  have hh : q.headD s < n := by
   cases q with
   | nil => exact hs
   | cons y q => exact hq y (by simp)
  have h1 := v.step_le hh (hq x (by simp))
  have h2 := v.sh_le (seen.getD (t + 1 + q.length) 0) (hq x (by simp))
  calc _ ≤ g ^ (2 * q.length) * g * g := Nat.mul_le_mul (Nat.mul_le_mul h0 h1) h2
    _ = g ^ (2 * (x :: q).length) := by simp only [List.length_cons]; rw [show 2 * (q.length + 1) = 2 * q.length + 1 + 1 by omega, Nat.pow_succ, Nat.pow_succ]
include w hT
theorem VH.bpath {t s : Nat} (ht : t < T) (hs : s < n) {L : List (List Nat)} {i : Nat} (hi : i < L.length) {q : List Nat} (hq : L[i] = q) (hqn : ∀ x ∈ q, x < n) (hql : q.length = T - 1 - t) (s40 s6 : List (List Int)) :
  whileN fuel (g_ref17_Backward_b2 (L.map pI) ((i : Int), s40) h seen ((t : Int), s6)) (1, (s : Int), 0) = some ((wB h seen t s q : Nat) : Int) := by
 have hlen := w.len
 have key : ∀ j (hj : j < q.length), q.drop (q.length - (j + 1)) = q[q.length - 1 - j]'(by omega) :: q.drop (q.length - j) := fun j hj => by
  rw [List.drop_eq_getElem_cons (by omega : q.length - (j + 1) < q.length)]
  congr 1
  ·congr 1; omega
  ·congr 1; omega
 have bnd : ∀ j, j ≤ q.length → wB h seen t s (q.drop (q.length - j)) ≤ 184884258895036416 := fun j hj => by
  refine Nat.le_trans (v.wB_le seen t s hs _ (fun s hs => hqn s (List.mem_of_mem_drop hs))) (pow12' v.g12 ?_)
  rw [List.length_drop]; omega
 refine whileN_run (fun j => (((wB h seen t s (q.drop (q.length - j)) : Nat) : Int), (((q.drop (q.length - j)).headD s : Nat) : Int), (j : Int))) q.length _ (by simp [wB]) ?_ ?_ (by omega)
 ·intro j hj
  have hk := key j hj
  have hb := bnd (j + 1) hj
  have hb0 := bnd j (by omega)
  have hx : q[q.length - 1 - j]'(by omega) < n := hqn _ (List.getElem_mem _)
  have hh : (q.drop (q.length - j)).headD s < n := by
   cases e : q.drop (q.length - j) with
   | nil => exact hs
   | cons y r => exact hqn y (List.mem_of_mem_drop (by rw [e]; simp))
  have hju : t + 1 + j < seen.length := by omega
  have hsx : -1 ≤ seen.getD (t + 1 + j) 0 ∧ seen.getD (t + 1 + j) 0 < (k : Int) := by
   have := w.all _ (List.getElem_mem hju)
   simpa [List.getD_eq_getElem?_getD, List.getElem?_eq_getElem hju] using this
  have hgu : seen[t + 1 + j] = seen.getD (t + 1 + j) 0 := by simp [List.getD_eq_getElem?_getD, List.getElem?_eq_getElem hju]
  unfold g_ref17_Backward_b2
  rw [lkI_nat (by simpa using hi)]
  simp only [Option.bind_some, List.getElem_map, hq, pI_len]
  rw [if_pos (by rw [decide_eq_true_eq]; omega)]
  obtain ⟨l, h1, h2⟩ := v.step_get hh hx
  rw [h1]
  simp only [Option.bind_some]
  rw [pI_get hj]
  simp only [Option.bind_some]
  rw [h2]
  simp only [Option.bind_some]
  rw [show IntKind.i64.wrap (IntKind.i64.wrap ((t : Int) + 1) + (j : Int)) = ((t + 1 + j : Nat) : Int) by rw [w64 (n := (t : Int) + 1) (by omega), w64 (by omega)]; omega, lkI_nat hju]
  simp only [Option.bind_some]
  rw [hgu, v.shows_eq hsx hx]
  simp only [Option.bind_some]
  have hl2 : (q.drop (q.length - j)).length = j := by rw [List.length_drop]; omega
  rw [hk] at hb ⊢
  simp only [wB, hl2] at hb ⊢
  have hb2 := Nat.mul_le_mul hb0 (Nat.le_trans (v.step_le hh hx) v.g12)
  generalize wB h seen t s (q.drop (q.length - j)) = A at *
  generalize nat2 h.Step ((q.drop (q.length - j)).headD s) (q[q.length - 1 - j]'(by omega)) = B at *
  generalize shN h (seen.getD (t + 1 + j) 0) (q[q.length - 1 - j]'(by omega)) = C at *
  rw [← Int.natCast_mul, w64 (n := ((A * B : Nat) : Int)) (by omega), ← Int.natCast_mul, w64 (n := ((A * B * C : Nat) : Int)) (by omega), w64 (by omega)]
  rfl
 ·unfold g_ref17_Backward_b2
  rw [lkI_nat (by simpa using hi)]
  simp only [Option.bind_some, List.getElem_map, hq, pI_len]
  rw [if_neg (by simp)]
  simp
theorem VH.rbpaths {t s : Nat} (ht : t < T) (hs : s < n) (f : Nat → Nat) (f0 : f s = 0) (hsh : n ^ (T - 1 - t) ≤ 1024) (s9 s6 : List (List Int)) :
  whileN fuel (g_ref17_Backward_b3 ((pathR n (T - 1 - t)).map pI) h seen ((t : Int), s6) ((s : Int), s9)) (0, midB T n (bw h n seen T) t f) =
   some (midB T n (bw h n seen T) t fun s' => if s' = s then bw h n seen T t s else f s') := by
 have hlen := w.len
 have hpl := pathR_len n (T - 1 - t)
 have htot := wB_total h n seen hs ht
 refine whileN_run (fun i => ((i : Int), midB T n (bw h n seen T) t fun s' => if s' = s then lsum (wB h seen t s) ((pathR n (T - 1 - t)).take i) else f s')) (pathR n (T - 1 - t)).length _ ?_ ?_ ?_ (by omega)
 ·refine Prod.ext rfl ?_
  unfold midB
  refine tabI_congr fun t' _ s' _ => ?_
  by_cases e : s' = s
  ·subst e; simp [lsum, f0]
  ·simp [e]
 ·intro i hi
  obtain ⟨hq1, hq2⟩ := pathR_mem (List.getElem_mem hi)
  unfold g_ref17_Backward_b3
  simp only [List.length_map]
  rw [if_pos (by rw [decide_eq_true_eq]; omega), v.bpath w hT ht hs hi rfl hq2 hq1]
  simp only [Option.bind_some]
  rw [midB_row ht]
  simp only [Option.bind_some]
  rw [rowI_get hs]
  simp only [Option.bind_some, if_true]
  have hacc : lsum (wB h seen t s) ((pathR n (T - 1 - t)).take (i + 1)) = lsum (wB h seen t s) ((pathR n (T - 1 - t)).take i) + wB h seen t s ((pathR n (T - 1 - t))[i]) := by
   rw [List.take_succ_eq_append_getElem hi, lsum_append]; simp [lsum]
  have hb : lsum (wB h seen t s) ((pathR n (T - 1 - t)).take (i + 1)) ≤ 184884258895036416 := by
   refine Nat.le_trans (lsum_take _ _ _) ?_
   rw [htot]; exact v.bw_le w hT ht hs
  rw [hacc] at hb
  rw [← Int.natCast_add, w64 (n := ((lsum (wB h seen t s) ((pathR n (T - 1 - t)).take i) + wB h seen t s ((pathR n (T - 1 - t))[i]) : Nat) : Int)) (by omega), nat_i, nat_i, midB_set, w64 (by omega)]
  congr 2
  refine Prod.ext (by simp) ?_
  dsimp only
  congr 1
  funext s'
  by_cases e : s' = s
  ·rw [if_pos e, if_pos e, hacc]
  ·rw [if_neg e, if_neg e, if_neg e]
 ·unfold g_ref17_Backward_b3
  simp only [List.length_map]
  rw [if_neg (by simp), List.take_length, htot]
theorem VH.rbsum {t s : Nat} (ht : t + 1 < T) (hs : s < n) (f : Nat → Nat) (f0 : f s = 0) (s9 s6 : List (List Int)) :
  whileN fuel (g_ref17_Backward_b1 h ((t : Int), s6) ((s : Int), s9) seen) (0, midB T n (bw h n seen T) t f) =
   some (midB T n (bw h n seen T) t fun s' => if s' = s then bw h n seen T t s else f s') := by
 have hn4 := v.n4
 have hlen := w.len
 have htot := bw_step h n seen ht s
 have hge : lkI seen ((t + 1 : Nat) : Int) = some (seen.getD (t + 1) 0) := by
  rw [lkI_nat (show t + 1 < seen.length by omega)]
  simp [List.getD_eq_getElem?_getD, List.getElem?_eq_getElem (show t + 1 < seen.length by omega)]
 have hx : -1 ≤ seen.getD (t + 1) 0 ∧ seen.getD (t + 1) 0 < (k : Int) := by
  have := w.all _ (List.getElem_mem (show t + 1 < seen.length by omega))
  simpa [List.getD_eq_getElem?_getD, List.getElem?_eq_getElem (show t + 1 < seen.length by omega)] using this
 have lim : ∀ j, j ≤ n → sumTo j (fun r => nat2 h.Step s r * shN h (seen.getD (t + 1) 0) r * bw h n seen T (t + 1) r) ≤ 184884258895036416 := fun j hj => by
  refine Nat.le_trans (sumTo_mono hj) ?_
  rw [← htot]; exact v.bw_le w hT (by omega) hs
 refine whileN_run (fun j => ((j : Int), midB T n (bw h n seen T) t fun s' => if s' = s then sumTo j (fun r => nat2 h.Step s r * shN h (seen.getD (t + 1) 0) r * bw h n seen T (t + 1) r) else f s')) n _ ?_ ?_ ?_ (by omega)
 ·refine Prod.ext rfl ?_
  unfold midB
  refine tabI_congr fun t' _ s' _ => ?_
  by_cases e : s' = s
  ·subst e; simp [sumTo, f0]
  ·simp [e]
 ·intro j hj
  unfold g_ref17_Backward_b1
  simp only [v.firstL]
  rw [if_pos (by rw [decide_eq_true_eq]; omega), midB_row (by omega)]
  simp only [Option.bind_some]
  rw [rowI_get hs]
  simp only [Option.bind_some, if_true]
  obtain ⟨l, h1, h2⟩ := v.step_get hs hj
  rw [h1]
  simp only [Option.bind_some]
  rw [h2]
  simp only [Option.bind_some]
  rw [show IntKind.i64.wrap ((t : Int) + 1) = ((t + 1 : Nat) : Int) by rw [w64 (by omega)]; omega, hge]
  simp only [Option.bind_some]
  rw [v.shows_eq hx hj]
  simp only [Option.bind_some]
  rw [midB_next ht]
  simp only [Option.bind_some]
  rw [rowI_get hj]
  simp only [Option.bind_some]
  have l1 := lim (j + 1) hj
  have l2 := Nat.mul_le_mul (Nat.le_trans (v.step_le hs hj) v.g12) (Nat.le_trans (v.sh_le (seen.getD (t + 1) 0) hj) v.g12)
  simp only [sumTo] at l1
  generalize hA : bw h n seen T (t + 1) j = A at *
  generalize hB : nat2 h.Step s j = B at *
  generalize hC : shN h (seen.getD (t + 1) 0) j = C at *
  rw [← Int.natCast_mul, w64 (n := ((B * C : Nat) : Int)) (by omega), ← Int.natCast_mul, w64 (n := ((B * C * A : Nat) : Int)) (by omega), ← Int.natCast_add, w64 (n := (((sumTo j fun r => nat2 h.Step s r * shN h (seen.getD (t + 1) 0) r * bw h n seen T (t + 1) r) + B * C * A : Nat) : Int)) (by omega), w64 (by omega), nat_i, nat_i, midB_set]
  congr 2
  refine Prod.ext (by simp) ?_
  dsimp only
  congr 1
  funext s'
  by_cases e : s' = s
  ·rw [if_pos e, if_pos e]; simp only [sumTo, hA, hB, hC]
  ·rw [if_neg e, if_neg e, if_neg e]
 ·unfold g_ref17_Backward_b1
  simp only [v.firstL]
  rw [if_neg (by simp), ← htot]
theorem VH.rbrow {t : Nat} (ht : t < T) (s6 : List (List Int)) :
  whileN fuel (g_ref17_Backward_b4 h seen ((t : Int), s6)) (0, midB T n (bw h n seen T) t fun _ => 0) = some (midB T n (bw h n seen T) t (bw h n seen T t)) := by
 have hn4 := v.n4
 have hlen := w.len
 refine whileN_run (fun j => ((j : Int), midB T n (bw h n seen T) t fun s => if s < j then bw h n seen T t s else 0)) n _ ?_ ?_ ?_ (by omega)
 ·refine Prod.ext rfl ?_
  unfold midB
  exact tabI_congr fun t' _ s' _ => by simp
 ·intro j hj
  have fin : midB T n (bw h n seen T) t (fun s' => if s' = j then bw h n seen T t j else if s' < j then bw h n seen T t s' else 0) = midB T n (bw h n seen T) t fun s => if s < j + 1 then bw h n seen T t s else 0 := by
   congr 1
   funext s'
   by_cases e : s' = j
   ·subst e; rw [if_pos rfl, if_pos (by omega)]
   ·rw [if_neg e]
    by_cases e2 : s' < j
    ·rw [if_pos e2, if_pos (by omega)]
    ·rw [if_neg e2, if_neg (by omega)]
  unfold g_ref17_Backward_b4
  simp only [v.firstL, hlen]
  rw [if_pos (by rw [decide_eq_true_eq]; omega), show IntKind.i64.wrap (IntKind.i64.wrap ((T : Int) - 1) - (t : Int)) = ((T - 1 - t : Nat) : Int) by rw [w64 (n := (T : Int) - 1) (by omega), w64 (by omega)]; omega, v.short_eq (by omega)]
  simp only [Option.bind_some]
  by_cases hsh : n ^ (T - 1 - t) ≤ 1024
  ·rw [if_neg (by simpa using hsh), v.paths_eq (by omega) hsh]
   simp only [Option.bind_some]
   rw [v.rbpaths w hT ht hj _ (by simp) hsh]
   simp only [Option.bind_some]
   rw [w64 (by omega), fin]
   rfl
  ·rw [if_pos (by simpa using hsh)]
   have ht1 : t + 1 < T := by
    rcases Nat.lt_or_ge (t + 1) T with c | c
    ·exact c
    ·exfalso; apply hsh; rw [show T - 1 - t = 0 by omega]; simp
   rw [v.rbsum w hT ht1 hj _ (by simp)]
   simp only [Option.bind_some]
   rw [w64 (by omega), fin]
   rfl
 ·unfold g_ref17_Backward_b4
  simp only [v.firstL]
  rw [if_neg (by simp)]
  congr 2
  unfold midB
  refine tabI_congr fun t' _ s' hs' => ?_
  simp [hs']
theorem VH.rbackward_eq : g_ref17_Backward h seen = some (tabI T n (bw h n seen T)) := by
 unfold g_ref17_Backward
 have hlen := w.len
 rw [show whileN fuel (g_ref17_Backward_b0 seen h) (0, ([] : List (List Int))) = some (tabI T n fun _ _ => 0) from v.rzero w hT]
 simp only [Option.bind_some]
 rw [whileN_run (fun j => ((T : Int) - 1 - j, tabI T n fun t' s' => if T - 1 - t' < j then bw h n seen T t' s' else 0)) T (tabI T n (bw h n seen T)) ?_ ?_ ?_ (by omega)]
 ·rfl
 ·refine Prod.ext ?_ (tabI_congr fun t' _ s' _ => by simp)
  simp only [hlen]
  rw [w64 (by omega)]; omega
 ·intro j hj
  unfold g_ref17_Backward_b5
  simp only []
  rw [if_pos (by rw [decide_eq_true_eq]; omega), show (T : Int) - 1 - (j : Int) = ((T - 1 - j : Nat) : Int) by omega]
  have e1 : (tabI T n fun t' s' => if T - 1 - t' < j then bw h n seen T t' s' else 0) = midB T n (bw h n seen T) (T - 1 - j) fun _ => 0 := by
   unfold midB
   refine tabI_congr fun t' ht' s' _ => ?_
   by_cases c : T - 1 - t' < j
   ·rw [if_pos c, if_pos (by omega)]
   ·rw [if_neg c, if_neg (by omega)]; simp
  rw [e1, v.rbrow w hT (by omega)]
  simp only [Option.bind_some]
  rw [w64 (by omega)]
  congr 2
  refine Prod.ext (by simp only []; omega) ?_
  unfold midB
  refine tabI_congr fun t' ht' s' _ => ?_
  by_cases c : T - 1 - j < t'
  ·rw [if_pos c, if_pos (by omega)]
  ·rw [if_neg c]
   by_cases c2 : t' = T - 1 - j
   ·rw [if_pos c2, if_pos (by omega), c2]
   ·rw [if_neg c2, if_neg (by omega)]
 ·unfold g_ref17_Backward_b5
  simp only []
  rw [if_neg (by simp only [ge_iff_le, decide_eq_true_eq]; omega)]
  congr 2
  exact tabI_congr fun t' ht s' _ => by rw [if_pos (by omega)]
end
end Go.Ab
namespace Go.Ab
open Go
theorem one5 {cs : List AV} (h : WT (.int .u8) cs) : ∃ a : Int, cs = [(AV.int .u8) a] ∧ (Lit.int .u8 a).wf = true := by
 obtain ⟨n, rfl, w⟩ := h
 exact ⟨n, rfl, w⟩
theorem el5 {x : AV} (h : WT (.int .u8) x.flat ∧ (if false then x = .agg x.flat else x.cell = true)) : ∃ a : Int, x = (AV.int .u8) a ∧ (Lit.int .u8 a).wf = true := by
 obtain ⟨a, h1, h2⟩ := one5 h.1
 rw [flat_cell h.2] at h1
 exact ⟨a, (List.cons.inj h1).1, h2⟩
theorem one22 {cs : List AV} (h : WT (.slice true false 1 (.int .u8)) cs) : ∃ a : (List Int), cs = [(eL true (AV.int .u8)) a] ∧ (a.length ≤ maxLen ∧ ∀ y0 ∈ a, (Lit.int .u8 y0).wf = true) := by
 obtain ⟨xs, rfl, hl, hx⟩ := h
 obtain ⟨l, rfl, hr⟩ := lists_of (enc := (AV.int .u8)) (R := fun a => (Lit.int .u8 a).wf = true) (fun x hm => el5 (hx x hm))
 exact ⟨l, rfl, by simpa using hl, hr⟩
def okTharuspexref17_Draft (x : Tharuspexref17_Draft) : Prop := ((Lit.int .u8 x.Grain).wf = true) ∧ ((Lit.int .u8 x.States).wf = true) ∧ ((Lit.int .u8 x.Shows).wf = true) ∧ ((x.L.length ≤ maxLen ∧ ∀ y0 ∈ x.L, (Lit.int .u8 y0).wf = true)) ∧ ((x.Seen.length ≤ maxLen ∧ ∀ y0 ∈ x.Seen, (Lit.int .u8 y0).wf = true))
theorem rdTharuspexref17_Draft {cs : List AV} (h : WT (.cat (.int .u8) (.cat (.int .u8) (.cat (.int .u8) (.cat (.slice true false 1 (.int .u8)) (.cat (.slice true false 1 (.int .u8)) .unit))))) cs) : ∃ x : Tharuspexref17_Draft, AV.agg cs = eTharuspexref17_Draft x ∧ okTharuspexref17_Draft x := by
 obtain ⟨_, _, rfl, a0, r0⟩ := h
 obtain ⟨v0, e0, w0⟩ := one5 a0
 cases e0
 obtain ⟨_, _, rfl, a1, r1⟩ := r0
 obtain ⟨v1, e1, w1⟩ := one5 a1
 cases e1
 obtain ⟨_, _, rfl, a2, r2⟩ := r1
 obtain ⟨v2, e2, w2⟩ := one5 a2
 cases e2
 obtain ⟨_, _, rfl, a3, r3⟩ := r2
 obtain ⟨v3, e3, w3⟩ := one22 a3
 cases e3
 obtain ⟨_, _, rfl, a4, r4⟩ := r3
 obtain ⟨v4, e4, w4⟩ := one22 a4
 cases e4
 cases r4
 exact ⟨⟨v0, v1, v2, v3, v4⟩, rfl, ⟨w0, w1, w2, w3, w4⟩⟩
theorem one3 {cs : List AV} (h : WT (.int .i64) cs) : ∃ a : Int, cs = [eI a] ∧ (Lit.int .i64 a).wf = true := by
 obtain ⟨n, rfl, w⟩ := h
 exact ⟨n, rfl, w⟩
theorem el3 {x : AV} (h : WT (.int .i64) x.flat ∧ (if false then x = .agg x.flat else x.cell = true)) : ∃ a : Int, x = eI a ∧ (Lit.int .i64 a).wf = true := by
 obtain ⟨a, h1, h2⟩ := one3 h.1
 rw [flat_cell h.2] at h1
 exact ⟨a, (List.cons.inj h1).1, h2⟩
def okTharuspexref17_Bend (x : Tharuspexref17_Bend) : Prop := ((Lit.int .u8 x.What).wf = true) ∧ ((Lit.int .u8 x.S).wf = true) ∧ ((Lit.int .u8 x.At).wf = true) ∧ ((Lit.int .i64 x.N).wf = true)
theorem rdTharuspexref17_Bend {cs : List AV} (h : WT (.cat (.int .u8) (.cat (.int .u8) (.cat (.int .u8) (.cat (.int .i64) .unit)))) cs) : ∃ x : Tharuspexref17_Bend, AV.agg cs = eTharuspexref17_Bend x ∧ okTharuspexref17_Bend x := by
 obtain ⟨_, _, rfl, a0, r0⟩ := h
 obtain ⟨v0, e0, w0⟩ := one5 a0
 cases e0
 obtain ⟨_, _, rfl, a1, r1⟩ := r0
 obtain ⟨v1, e1, w1⟩ := one5 a1
 cases e1
 obtain ⟨_, _, rfl, a2, r2⟩ := r1
 obtain ⟨v2, e2, w2⟩ := one5 a2
 cases e2
 obtain ⟨_, _, rfl, a3, r3⟩ := r2
 obtain ⟨v3, e3, w3⟩ := one3 a3
 cases e3
 cases r3
 exact ⟨⟨v0, v1, v2, v3⟩, rfl, ⟨w0, w1, w2, w3⟩⟩
theorem one27 {cs : List AV} (h : WT (.slice true false 1 (.int .i64)) cs) : ∃ a : (List Int), cs = [(eL true eI) a] ∧ (a.length ≤ maxLen ∧ ∀ y0 ∈ a, (Lit.int .i64 y0).wf = true) := by
 obtain ⟨xs, rfl, hl, hx⟩ := h
 obtain ⟨l, rfl, hr⟩ := lists_of (enc := eI) (R := fun a => (Lit.int .i64 a).wf = true) (fun x hm => el3 (hx x hm))
 exact ⟨l, rfl, by simpa using hl, hr⟩
theorem el27 {x : AV} (h : WT (.slice true false 1 (.int .i64)) x.flat ∧ (if false then x = .agg x.flat else x.cell = true)) : ∃ a : (List Int), x = (eL true eI) a ∧ (a.length ≤ maxLen ∧ ∀ y0 ∈ a, (Lit.int .i64 y0).wf = true) := by
 obtain ⟨a, h1, h2⟩ := one27 h.1
 rw [flat_cell h.2] at h1
 exact ⟨a, (List.cons.inj h1).1, h2⟩
theorem one28 {cs : List AV} (h : WT (.slice false false 1 (.slice true false 1 (.int .i64))) cs) : ∃ a : (List (List Int)), cs = [(eL false (eL true eI)) a] ∧ (a.length ≤ maxLen ∧ ∀ y0 ∈ a, (y0.length ≤ maxLen ∧ ∀ y1 ∈ y0, (Lit.int .i64 y1).wf = true)) := by
 obtain ⟨xs, rfl, hl, hx⟩ := h
 obtain ⟨l, rfl, hr⟩ := lists_of (enc := (eL true eI)) (R := fun a => (a.length ≤ maxLen ∧ ∀ y0 ∈ a, (Lit.int .i64 y0).wf = true)) (fun x hm => el27 (hx x hm))
 exact ⟨l, rfl, by simpa using hl, hr⟩
def okTapi_Hidden (x : Tapi_Hidden) : Prop := ((Lit.int .i64 x.Grain).wf = true) ∧ ((x.First.length ≤ maxLen ∧ ∀ y0 ∈ x.First, (Lit.int .i64 y0).wf = true)) ∧ ((x.Step.length ≤ maxLen ∧ ∀ y0 ∈ x.Step, (y0.length ≤ maxLen ∧ ∀ y1 ∈ y0, (Lit.int .i64 y1).wf = true))) ∧ ((x.Show.length ≤ maxLen ∧ ∀ y0 ∈ x.Show, (y0.length ≤ maxLen ∧ ∀ y1 ∈ y0, (Lit.int .i64 y1).wf = true)))
theorem rdTapi_Hidden {cs : List AV} (h : WT (.cat (.int .i64) (.cat (.slice true false 1 (.int .i64)) (.cat (.slice false false 1 (.slice true false 1 (.int .i64))) (.cat (.slice false false 1 (.slice true false 1 (.int .i64))) .unit)))) cs) : ∃ x : Tapi_Hidden, AV.agg cs = eTapi_Hidden x ∧ okTapi_Hidden x := by
 obtain ⟨_, _, rfl, a0, r0⟩ := h
 obtain ⟨v0, e0, w0⟩ := one3 a0
 cases e0
 obtain ⟨_, _, rfl, a1, r1⟩ := r0
 obtain ⟨v1, e1, w1⟩ := one27 a1
 cases e1
 obtain ⟨_, _, rfl, a2, r2⟩ := r1
 obtain ⟨v2, e2, w2⟩ := one28 a2
 cases e2
 obtain ⟨_, _, rfl, a3, r3⟩ := r2
 obtain ⟨v3, e3, w3⟩ := one28 a3
 cases e3
 cases r3
 exact ⟨⟨v0, v1, v2, v3⟩, rfl, ⟨w0, w1, w2, w3⟩⟩
end Go.Ab
namespace Go.Ab
open Go
set_option maxRecDepth 100000
theorem wf_u8 {n : Int} (h : (Lit.int .u8 n).wf = true) : 0 ≤ n ∧ n ≤ 255 := by
 simpa [Lit.wf, IntKind.min, IntKind.max, IntKind.bits, IntKind.signed] using h
theorem split_eq (n : Nat) (sum : Int) (l : List Int) (hn : 1 ≤ n ∧ n ≤ 100) (hs : 0 ≤ sum ∧ sum ≤ 1000) (hl : ∀ x ∈ l, 0 ≤ x ∧ x ≤ 255) (hlen : l.length ≤ 1000) :
  ∃ r, g_ref17_Split (n : Int) sum l = some r ∧ r.length = n ∧ RowP sum r := by
 unfold g_ref17_Split
 have ex := whileN_ex (body := g_ref17_Split_b0 (n : Int) l) (fun s => ∃ i : Nat, s.2.1 = (i : Int) ∧ i ≤ n ∧ s.2.2.length = i ∧ (∀ x ∈ s.2.2, 0 ≤ x) ∧ isum s.2.2 + s.1 = sum ∧ 0 ≤ s.1 ∧ s.1 ≤ sum ∧ (i = n → s.1 = 0)) (fun s => n - s.2.1.toNat) (fun r => r.length = n ∧ RowP sum r) ?_
  (sum, 0, []) ⟨0, rfl, by omega, rfl, by simp, by simp [isum], hs.1, by simp, by omega⟩ (by simp only; omega)
 ·obtain ⟨r, e, hr⟩ := ex
  exact ⟨r, by rw [e]; rfl, hr⟩
 ·rintro ⟨left, i0, out⟩ ⟨i, h1, h2, h3, h4, h5, h6, h7, h8⟩
  simp only at h1 h3 h4 h5 h6 h7 h8
  subst h1
  have snoc : ∀ k : Int, 0 ≤ k → ∀ x ∈ out ++ [k], 0 ≤ x := fun k hk x hx => by
   rcases List.mem_append.1 hx with h | h
   ·exact h4 x h
   ·rw [List.mem_singleton] at h; omega
  have sm : ∀ k : Int, isum (out ++ [k]) = isum out + k := fun k => by rw [isum_append]; simp [isum]
  unfold g_ref17_Split_b0
  simp only
  by_cases hi : i < n
  ·left
   rw [if_pos (by simp [hi]), w64 (n := (n : Int) - 1) (by omega), w64 (n := (i : Int) + 1) (by omega)]
   by_cases hi2 : i < n - 1
   ·rw [if_pos (by simp; omega)]
    by_cases hi3 : i < l.length
    ·rw [if_pos (by simp [hi3]), lkI_nat hi3]
     simp only [Option.bind_some]
     have hb := hl _ (List.getElem_mem hi3)
     rw [w64 (n := left + 1) (by omega), if_pos (by omega), w64 (n := l[i]) (by omega), tmod_pos (by omega)]
     have m1 := Int.emod_nonneg l[i] (b := left + 1) (by omega)
     have m2 := Int.emod_lt_of_pos l[i] (b := left + 1) (by omega)
     generalize l[i] % (left + 1) = k at *
     rw [if_pos (by simp; omega), w64 (by omega)]
     exact ⟨_, rfl, ⟨i + 1, by simp only; omega, hi, by simp [h3], snoc k m1, by simp only [sm]; omega, by simp only; omega, by simp only; omega, by omega⟩, by simp only; omega⟩
    ·rw [if_neg (by simp; omega), if_pos (by simp; omega), w64 (by omega)]
     exact ⟨_, rfl, ⟨i + 1, by simp only; omega, hi, by simp [h3], snoc 0 (by omega), by simp only [sm]; omega, by simp only; omega, by simp only; omega, by omega⟩, by simp only; omega⟩
   ·rw [if_neg (by simp; omega), if_pos (by simp; omega), w64 (by omega)]
    exact ⟨_, rfl, ⟨i + 1, by simp only; omega, hi, by simp [h3], snoc left h6, by simp only [sm]; omega, by simp only; omega, by simp only; omega, by simp only; omega⟩, by simp only; omega⟩
  ·right
   rw [if_neg (by simp; omega)]
   have hin : i = n := by omega
   have := h8 hin
   exact ⟨out, rfl, by omega, h4, by omega⟩
theorem from_eq (d : Tharuspexref17_Draft) (h : okTharuspexref17_Draft d) (at0 : Int) (ha : 0 ≤ at0 ∧ at0 ≤ 1000) : ∃ l, g_ref17_Draft_from d at0 = some l ∧ (∀ x ∈ l, 0 ≤ x ∧ x ≤ 255) ∧ l.length ≤ 1000 := by
 have hml : maxLen = 9223372036854775807 := rfl
 obtain ⟨b1, b2, b3, b4, b5⟩ := h
 have len := b4.1
 have ent := fun x hx => wf_u8 (b4.2 x hx)
 unfold g_ref17_Draft_from
 by_cases h0 : d.L.length = 0
 ·rw [if_pos (by simp [h0])]
  exact ⟨[], rfl, by simp, by simp⟩
 rw [if_neg (by simpa using h0)]
 have ex := whileN_ex (body := g_ref17_Draft_from_b0 d at0) (fun s => ∃ i : Nat, s.1 = (i : Int) ∧ i ≤ 4 ∧ s.2.length = i ∧ ∀ x ∈ s.2, 0 ≤ x ∧ x ≤ 255) (fun s => 4 - s.1.toNat) (fun r => (∀ x ∈ r, 0 ≤ x ∧ x ≤ 255) ∧ r.length ≤ 1000) ?_
  (0, []) ⟨0, rfl, by omega, rfl, by simp⟩ (by simp only; omega)
 ·obtain ⟨r, e, hr⟩ := ex
  exact ⟨r, by rw [e]; rfl, hr⟩
 ·rintro ⟨i0, out⟩ ⟨i, h1, h2, h3, h4⟩
  simp only at h1 h3 h4
  subst h1
  unfold g_ref17_Draft_from_b0
  simp only
  by_cases hi : i < 4
  ·left
   rw [if_pos (by rw [decide_eq_true_eq]; omega), if_pos (by omega), w64 (n := at0 + (i : Int)) (by omega), tmod_pos (by omega)]
   have m1 := Int.emod_nonneg (at0 + (i : Int)) (b := (d.L.length : Int)) (by omega)
   have m2 := Int.emod_lt_of_pos (at0 + (i : Int)) (b := (d.L.length : Int)) (by omega)
   rw [lkI_at m1 m2]
   simp only [Option.bind_some]
   rw [if_pos (by simp; omega), w64 (by omega)]
   refine ⟨_, rfl, ⟨i + 1, by simp only; omega, hi, by simp [h3], fun x hx => ?_⟩, by simp only; omega⟩
   rcases List.mem_append.1 hx with h | h
   ·exact h4 x h
   ·rw [List.mem_singleton] at h; rw [h]; exact ent _ (List.getElem_mem _)
  ·right
   rw [if_neg (by rw [decide_eq_true_eq]; omega)]
   exact ⟨out, rfl, h4, by omega⟩
theorem draft_ok (d : Tharuspexref17_Draft) (h : okTharuspexref17_Draft d) : ∃ x g n k, g_ref17_Draft_Hidden d = some x ∧ VH x g n k ∧ (k : Int) = 1 + d.Shows % 4 := by
 have hh := h
 obtain ⟨b1, b2, b3, b4, b5⟩ := hh
 have b1 := wf_u8 b1; have b2 := wf_u8 b2; have b3 := wf_u8 b3
 unfold g_ref17_Draft_Hidden
 obtain ⟨g, hg⟩ : ∃ g : Nat, 1 + d.Grain % 12 = (g : Int) := ⟨(1 + d.Grain % 12).toNat, by omega⟩
 obtain ⟨n, hn⟩ : ∃ n : Nat, 1 + d.States % 4 = (n : Int) := ⟨(1 + d.States % 4).toNat, by omega⟩
 obtain ⟨k, hk⟩ : ∃ k : Nat, 1 + d.Shows % 4 = (k : Int) := ⟨(1 + d.Shows % 4).toNat, by omega⟩
 have wg : IntKind.i64.wrap (1 + IntKind.i64.wrap (Int.tmod d.Grain 12)) = (g : Int) := by rw [tmod_pos (by omega), w64 (n := d.Grain % 12) (by omega), w64 (by omega), hg]
 have wn : IntKind.i64.wrap (1 + IntKind.i64.wrap (Int.tmod d.States 4)) = (n : Int) := by rw [tmod_pos (by omega), w64 (n := d.States % 4) (by omega), w64 (by omega), hn]
 have wk : IntKind.i64.wrap (1 + IntKind.i64.wrap (Int.tmod d.Shows 4)) = (k : Int) := by rw [tmod_pos (by omega), w64 (n := d.Shows % 4) (by omega), w64 (by omega), hk]
 obtain ⟨l0, e0, f0, f1⟩ := from_eq d h 0 (by omega)
 obtain ⟨r0, e1, r1, r2⟩ := split_eq n (g : Int) l0 (by omega) (by omega) f0 f1
 rw [e0]
 simp only [Option.bind_some]
 rw [wg, wn, e1]
 simp only [Option.bind_some]
 have ex := whileN_ex (body := g_ref17_Draft_Hidden_b0 d) (fun s => ∃ i : Nat, s.1 = (i : Int) ∧ i ≤ n ∧ s.2.1.length = i ∧ (∀ l ∈ s.2.1, l.length = n ∧ RowP g l) ∧ s.2.2.length = i ∧ ∀ l ∈ s.2.2, l.length = k ∧ RowP g l) (fun s => n - s.1.toNat)
  (fun r => r.1.length = n ∧ (∀ l ∈ r.1, l.length = n ∧ RowP g l) ∧ r.2.length = n ∧ ∀ l ∈ r.2, l.length = k ∧ RowP g l) ?_
  (0, [], []) ⟨0, rfl, by omega, rfl, by simp, rfl, by simp⟩ (by simp only; omega)
 ·obtain ⟨R, e, h1, h2, h3, h4⟩ := ex
  rw [e]
  exact ⟨_, g, n, k, rfl, ⟨rfl, by omega, by omega, by omega, by omega, by omega, by omega, r1, r2, h1, h2, h3, h4⟩, hk.symm⟩
 ·rintro ⟨i0, A, B⟩ ⟨i, h1, h2, h3, h4, h5, h6⟩
  simp only at h1 h3 h4 h5 h6
  subst h1
  unfold g_ref17_Draft_Hidden_b0
  simp only
  rw [wn]
  by_cases hi : i < n
  ·left
   rw [if_pos (by rw [decide_eq_true_eq]; omega), w64 (n := 8 * (i : Int)) (by omega), w64 (n := 4 + 8 * (i : Int)) (by omega), w64 (n := 8 + 8 * (i : Int)) (by omega)]
   obtain ⟨la, ea, fa, ga⟩ := from_eq d h (4 + 8 * (i : Int)) (by omega)
   obtain ⟨ra, ea1, ra1, ra2⟩ := split_eq n (g : Int) la (by omega) (by omega) fa ga
   obtain ⟨lb, eb, fb, gb⟩ := from_eq d h (8 + 8 * (i : Int)) (by omega)
   obtain ⟨rb, eb1, rb1, rb2⟩ := split_eq k (g : Int) lb (by omega) (by omega) fb gb
   rw [ea]
   simp only [Option.bind_some]
   rw [wg, ea1]
   simp only [Option.bind_some]
   rw [if_pos (by simp; omega), eb]
   simp only [Option.bind_some]
   rw [wk, eb1]
   simp only [Option.bind_some]
   rw [if_pos (by simp; omega), w64 (by omega)]
   refine ⟨_, rfl, ⟨i + 1, by simp only; omega, hi, by simp [h3], fun x hx => ?_, by simp [h5], fun x hx => ?_⟩, by simp only; omega⟩
   ·rcases List.mem_append.1 hx with h | h
    ·exact h4 x h
    ·rw [List.mem_singleton] at h; rw [h]; exact ⟨ra1, ra2⟩
   ·rcases List.mem_append.1 hx with h | h
    ·exact h6 x h
    ·rw [List.mem_singleton] at h; rw [h]; exact ⟨rb1, rb2⟩
  ·right
   rw [if_neg (by rw [decide_eq_true_eq]; omega)]
   have hin : i = n := by omega
   exact ⟨_, rfl, by simp only; omega, h4, by simp only; omega, h6⟩
theorem what_ok (d : Tharuspexref17_Draft) (h : okTharuspexref17_Draft d) {k : Nat} (hk : (k : Int) = 1 + d.Shows % 4) : ∃ l, g_ref17_Draft_What d = some l ∧ 1 ≤ l.length ∧ l.length ≤ 8 ∧ VS k l l.length := by
 have hml : maxLen = 9223372036854775807 := rfl
 obtain ⟨b1, b2, b3, b4, b5⟩ := h
 have b3 := wf_u8 b3
 have len := b5.1
 have ent := fun x hx => wf_u8 (b5.2 x hx)
 have wk : IntKind.i64.wrap (2 + IntKind.i64.wrap (Int.tmod d.Shows 4)) = (k : Int) + 1 := by rw [tmod_pos (by omega), w64 (n := d.Shows % 4) (by omega), w64 (by omega)]; omega
 unfold g_ref17_Draft_What
 have ex := whileN_ex (body := g_ref17_Draft_What_b0 d) (fun s => ∃ i : Nat, s.1 = (i : Int) ∧ i ≤ 8 ∧ i ≤ d.Seen.length ∧ s.2.length = i ∧ ∀ x ∈ s.2, -1 ≤ x ∧ x < (k : Int)) (fun s => 8 - s.1.toNat) (fun r => r.length ≤ 8 ∧ ∀ x ∈ r, -1 ≤ x ∧ x < (k : Int)) ?_
  (0, []) ⟨0, rfl, by omega, by omega, rfl, by simp⟩ (by simp only; omega)
 ·obtain ⟨r, e, hr1, hr2⟩ := ex
  rw [e]
  simp only [Option.bind_some]
  by_cases h0 : r.length = 0
  ·rw [if_pos (by simp [h0])]
   refine ⟨[-1], rfl, by simp, by simp, rfl, fun x hx => ?_⟩
   rw [List.mem_singleton] at hx; omega
  ·rw [if_neg (by simpa using h0)]
   exact ⟨r, rfl, by omega, hr1, rfl, hr2⟩
 ·rintro ⟨i0, out⟩ ⟨i, h1, h2, h3, h4, h5⟩
  simp only at h1 h4 h5
  subst h1
  unfold g_ref17_Draft_What_b0
  simp only
  by_cases hi : i < d.Seen.length
  ·rw [if_pos (by rw [decide_eq_true_eq]; omega)]
   by_cases hi8 : i < 8
   ·left
    rw [if_pos (by rw [decide_eq_true_eq]; omega), lkI_nat hi]
    simp only [Option.bind_some]
    have hb := ent _ (List.getElem_mem hi)
    rw [wk, if_pos (by omega), w64 (n := d.Seen[i]) (by omega), tmod_pos (by omega)]
    have m1 := Int.emod_nonneg d.Seen[i] (b := (k : Int) + 1) (by omega)
    have m2 := Int.emod_lt_of_pos d.Seen[i] (b := (k : Int) + 1) (by omega)
    generalize d.Seen[i] % ((k : Int) + 1) = y at *
    rw [w64 (n := y - 1) (by omega), if_pos (by simp; omega), w64 (by omega)]
    refine ⟨_, rfl, ⟨i + 1, by simp only; omega, hi8, by omega, by simp [h4], fun x hx => ?_⟩, by simp only; omega⟩
    rcases List.mem_append.1 hx with h | h
    ·exact h5 x h
    ·rw [List.mem_singleton] at h; omega
   ·right
    rw [if_neg (by rw [decide_eq_true_eq]; omega)]
    exact ⟨_, rfl, by omega, h5⟩
  ·right
   rw [if_neg (by rw [decide_eq_true_eq]; omega)]
   exact ⟨_, rfl, by omega, h5⟩
end Go.Ab
namespace Go.Ab
open Go
set_option maxRecDepth 100000
theorem copy_rows {body : (Int × List (List Int)) → Option (Step (Int × List (List Int)) (List (List Int)))} (L : List (List Int)) (hL : L.length ≤ 1000)
  (step : ∀ i (hi : i < L.length) (out : List (List Int)), out.length = i → body ((i : Int), out) = some (.next (((i + 1 : Nat) : Int), out ++ [L[i]]))) (done : ∀ out, body ((L.length : Int), out) = some (.done out)) :
  whileN fuel body (0, ([] : List (List Int))) = some L := by
 refine whileN_run (fun i => ((i : Int), L.take i)) L.length L (by simp) (fun i hi => ?_) ?_ (by omega)
 ·rw [step i hi _ (by simp; omega)]
  simp only [List.take_succ_eq_append_getElem hi]
 ·rw [done]; simp
structure FewH (h : Tapi_Hidden) : Prop where
 first : h.First.length ≤ 8
 step : h.Step.length ≤ 8
 stepL : ∀ l ∈ h.Step, l.length ≤ 8
 shows : h.Show.length ≤ 8
 showsL : ∀ l ∈ h.Show, l.length ≤ 8
theorem FewH.ok {h : Tapi_Hidden} (w : FewH h) : OkH h :=
 ⟨Nat.le_trans w.first (by omega), Nat.le_trans w.step (by omega), fun l hl => Nat.le_trans (w.stepL l hl) (by omega), Nat.le_trans w.shows (by omega), fun l hl => Nat.le_trans (w.showsL l hl) (by omega)⟩
theorem VH.few {h : Tapi_Hidden} {g n k : Nat} (v : VH h g n k) : FewH h := by
 have := v.n4; have := v.k4
 exact ⟨by rw [v.firstL]; omega, by rw [v.stepL]; omega, fun l hl => by rw [(v.step l hl).1]; omega, by rw [v.showL]; omega, fun l hl => by rw [(v.shows l hl).1]; omega⟩
theorem mem_set_le {L : List (List Int)} {i : Nat} {r : List Int} (h : ∀ l ∈ L, l.length ≤ 8) (hr : r.length ≤ 8) : ∀ l ∈ L.set i r, l.length ≤ 8 := fun l hl => by
 rcases List.mem_or_eq_of_mem_set hl with h1 | h1
 ·exact h l h1
 ·rw [h1]; exact hr
theorem bend_ok (b : Tharuspexref17_Bend) (hb : okTharuspexref17_Bend b) {h : Tapi_Hidden} {g n k : Nat} (v : VH h g n k) : ∃ h', g_ref17_Bend_Of b h = some h' ∧ FewH h' := by
 obtain ⟨b1, b2, b3, b4⟩ := hb
 have b1 := wf_u8 b1; have b2 := wf_u8 b2; have b3 := wf_u8 b3
 have hn1 := v.n1; have hn4 := v.n4; have hk1 := v.k1; have hk4 := v.k4
 have f := v.few
 have hfL := v.firstL; have hsL := v.stepL; have hwL := v.showL
 unfold g_ref17_Bend_Of
 rw [copy_rows h.Step (by omega) (fun i hi out ho => by
  unfold g_ref17_Bend_Of_b0
  simp only
  have := f.stepL _ (List.getElem_mem hi)
  rw [if_pos (by rw [decide_eq_true_eq]; omega), lkI_nat hi]
  simp only [Option.bind_some]
  rw [if_pos (by omega), if_pos (by simp; omega), w64 (by omega)]; rfl) (fun out => by
  unfold g_ref17_Bend_Of_b0
  simp only
  rw [if_neg (by simp)])]
 simp only [Option.bind_some]
 rw [copy_rows h.Show (by omega) (fun i hi out ho => by
  unfold g_ref17_Bend_Of_b1
  simp only
  have := f.showsL _ (List.getElem_mem hi)
  rw [if_pos (by rw [decide_eq_true_eq]; omega), lkI_nat hi]
  simp only [Option.bind_some]
  rw [if_pos (by omega), if_pos (by simp; omega), w64 (by omega)]; rfl) (fun out => by
  unfold g_ref17_Bend_Of_b1
  simp only
  rw [if_neg (by simp)])]
 simp only [Option.bind_some]
 rw [if_pos (by omega), tmod_pos (by omega), w64 (n := b.At) (by omega), w64 (n := b.S) (by omega)]
 have a1 := Int.emod_nonneg b.At (b := (h.First.length : Int)) (by omega)
 have a2 := Int.emod_lt_of_pos b.At (b := (h.First.length : Int)) (by omega)
 have c1 := Int.emod_nonneg b.S (b := (h.Step.length : Int)) (by omega)
 have c2 := Int.emod_lt_of_pos b.S (b := (h.Step.length : Int)) (by omega)
 have d1 := Int.emod_nonneg b.S (b := (h.Show.length : Int)) (by omega)
 have d2 := Int.emod_lt_of_pos b.S (b := (h.Show.length : Int)) (by omega)
 by_cases e0 : (b.What % 8 == 0) = true
 ·rw [if_pos e0]; exact ⟨_, rfl, f.first, f.step, f.stepL, f.shows, f.showsL⟩
 rw [if_neg e0]
 by_cases e1 : (b.What % 8 == 1) = true
 ·rw [if_pos e1, if_pos (by omega), tmod_pos (by omega), lkI_at a1 a2]
  simp only [Option.bind_some]
  exact ⟨_, rfl, by simp only [List.length_set]; exact f.first, f.step, f.stepL, f.shows, f.showsL⟩
 rw [if_neg e1]
 by_cases e2 : (b.What % 8 == 2) = true
 ·rw [if_pos e2, if_pos (by omega), tmod_pos (by omega), lkI_at c1 c2]
  simp only [Option.bind_some]
  have hr := v.step _ (List.getElem_mem (show (b.S % (h.Step.length : Int)).toNat < h.Step.length by omega))
  generalize h.Step[(b.S % (h.Step.length : Int)).toNat]'(by omega) = r at *
  have e1 := Int.emod_nonneg b.At (b := (r.length : Int)) (by omega)
  have e2 := Int.emod_lt_of_pos b.At (b := (r.length : Int)) (by omega)
  rw [if_pos (by omega), tmod_pos (by omega), lkI_at e1 e2]
  simp only [Option.bind_some]
  exact ⟨_, rfl, f.first, by simp only [List.length_set]; exact f.step, mem_set_le f.stepL (by rw [List.length_set]; omega), f.shows, f.showsL⟩
 rw [if_neg e2]
 by_cases e3 : (b.What % 8 == 3) = true
 ·rw [if_pos e3, if_pos (by omega), tmod_pos (by omega), lkI_at d1 d2]
  simp only [Option.bind_some]
  have hr := v.shows _ (List.getElem_mem (show (b.S % (h.Show.length : Int)).toNat < h.Show.length by omega))
  generalize h.Show[(b.S % (h.Show.length : Int)).toNat]'(by omega) = r at *
  have e1 := Int.emod_nonneg b.At (b := (r.length : Int)) (by omega)
  have e2 := Int.emod_lt_of_pos b.At (b := (r.length : Int)) (by omega)
  rw [if_pos (by omega), tmod_pos (by omega), lkI_at e1 e2]
  simp only [Option.bind_some]
  exact ⟨_, rfl, f.first, f.step, f.stepL, by simp only [List.length_set]; exact f.shows, mem_set_le f.showsL (by rw [List.length_set]; omega)⟩
 rw [if_neg e3]
 by_cases e4 : (b.What % 8 == 4) = true
 ·rw [if_pos e4, if_pos (by omega)]
  refine ⟨_, rfl, f.first, ?_, fun l hl => ?_, f.shows, f.showsL⟩
  ·simp only [sub, List.length_take, List.length_drop]; omega
  ·exact f.stepL l (by simp only [sub] at hl; first | exact List.mem_of_mem_drop (List.mem_of_mem_take hl) | exact List.mem_of_mem_take (List.mem_of_mem_drop hl))
 rw [if_neg e4]
 by_cases e5 : (b.What % 8 == 5) = true
 ·rw [if_pos e5, tmod_pos (by omega), lkI_at d1 d2]
  simp only [Option.bind_some]
  have hr := v.shows _ (List.getElem_mem (show (b.S % (h.Show.length : Int)).toNat < h.Show.length by omega))
  generalize h.Show[(b.S % (h.Show.length : Int)).toNat]'(by omega) = r at *
  rw [if_pos (by rw [List.length_set]; omega), if_pos (by rw [List.length_set]; omega), if_pos (by simp; omega)]
  exact ⟨_, rfl, f.first, f.step, f.stepL, by simp only [List.length_set]; exact f.shows, mem_set_le (mem_set_le f.showsL (by simp)) (by simp; omega)⟩
 rw [if_neg e5]
 by_cases e6 : (b.What % 8 == 6) = true
 ·rw [if_pos e6, if_pos (by simp; omega)]
  exact ⟨_, rfl, by simp; omega, f.step, f.stepL, f.shows, f.showsL⟩
 rw [if_neg e6]
 exact ⟨_, rfl, f.first, f.step, f.stepL, by simp, by simp⟩
end Go.Ab
namespace Go.Ab
open Go
set_option maxRecDepth 100000
theorem sub_lim {α : Type} (l : List α) (m : Nat) : sub l 0 (if (m : Int) < (l.length : Int) then (m : Int) else (l.length : Int)) = l.take m := by
 by_cases c : (m : Int) < (l.length : Int)
 ·rw [if_pos c]; simp [sub]
 ·rw [if_neg c]; simp only [sub]
  rw [show (0 : Int).toNat = 0 from rfl, List.drop_zero, show ((l.length : Int).toNat - 0) = l.length by omega, List.take_length, List.take_of_length_le (by omega)]
theorem lim_ok {α : Type} (l : List α) (m : Nat) : 0 ≤ (0 : Int) ∧ (0 : Int) ≤ (if (m : Int) < (l.length : Int) then (m : Int) else (l.length : Int)) ∧ (if (m : Int) < (l.length : Int) then (m : Int) else (l.length : Int)) ≤ (l.length : Int) := by
 by_cases c : (m : Int) < (l.length : Int)
 ·rw [if_pos c]; omega
 ·rw [if_neg c]; omega
theorem few_rows {body : (Int × List (List Int)) → Option (Step (Int × List (List Int)) (List (List Int)))} (L : List (List Int)) (hL : L.length ≤ 1000)
  (step : ∀ i (hi : i < L.length) (out : List (List Int)), out.length = i → body ((i : Int), out) = some (.next (((i + 1 : Nat) : Int), out ++ [L[i].take 6]))) (done : ∀ out, body ((L.length : Int), out) = some (.done out)) :
  whileN fuel body (0, ([] : List (List Int))) = some (L.map fun l => l.take 6) := by
 refine whileN_run (fun i => ((i : Int), (L.take i).map fun l => l.take 6)) L.length _ (by simp) (fun i hi => ?_) ?_ (by omega)
 ·rw [step i hi _ (by simp; omega)]
  simp only [List.take_succ_eq_append_getElem hi, List.map_append, List.map_cons, List.map_nil]
 ·rw [done]; simp
theorem few_ok (h : Tapi_Hidden) : ∃ h', g_law17_few h = some h' ∧ FewH h' := by
 have six : ((6 : Nat) : Int) = 6 := rfl
 unfold g_law17_few
 have s1 := sub_lim h.First 6; have s2 := sub_lim h.Step 6; have s3 := sub_lim h.Show 6
 have l1 := lim_ok h.First 6; have l2 := lim_ok h.Step 6; have l3 := lim_ok h.Show 6
 rw [six] at s1 s2 s3 l1 l2 l3
 rw [if_pos l1, if_pos l2]
 rw [few_rows (h.Step.take 6) (by simp; omega) (fun i hi out ho => by
  have hi' : i < 6 := by simp at hi; omega
  unfold g_law17_few_b0
  simp only
  rw [s2, if_pos (by rw [decide_eq_true_eq]; omega), lkI_nat hi]
  simp only [Option.bind_some]
  have l4 := lim_ok ((h.Step.take 6)[i]) 6; have s4 := sub_lim ((h.Step.take 6)[i]) 6
  rw [six] at l4 s4
  rw [if_pos l4, s4, if_pos (by simp; omega), w64 (by omega)]; rfl) (fun out => by
  unfold g_law17_few_b0
  simp only
  rw [s2, if_neg (by simp)])]
 simp only [Option.bind_some]
 rw [if_pos l3]
 rw [few_rows (h.Show.take 6) (by simp; omega) (fun i hi out ho => by
  have hi' : i < 6 := by simp at hi; omega
  unfold g_law17_few_b1
  simp only
  rw [s3, if_pos (by rw [decide_eq_true_eq]; omega), lkI_nat hi]
  simp only [Option.bind_some]
  have l4 := lim_ok ((h.Show.take 6)[i]) 6; have s4 := sub_lim ((h.Show.take 6)[i]) 6
  rw [six] at l4 s4
  rw [if_pos l4, s4, if_pos (by simp; omega), w64 (by omega)]; rfl) (fun out => by
  unfold g_law17_few_b1
  simp only
  rw [s3, if_neg (by simp)])]
 simp only [Option.bind_some]
 rw [s1]
 have row : ∀ (L : List (List Int)), ∀ l ∈ (L.take 6).map (fun l => l.take 6), l.length ≤ 8 := fun L l hl => by
  obtain ⟨a, _, rfl⟩ := List.mem_map.1 hl
  simp; omega
 exact ⟨_, rfl, by simp; omega, by simp; omega, row _, by simp; omega, row _⟩
theorem chains_ok (p0 : Tharuspexref17_Draft) (p1 : Tharuspexref17_Bend) (p2 : Tapi_Hidden) (h0 : okTharuspexref17_Draft p0) (h1 : okTharuspexref17_Bend p1) :
  ∃ a b c g n k, g_law17_chains p0 p1 p2 = some (a, b, c) ∧ g_ref17_Draft_Hidden p0 = some a ∧ VH a g n k ∧ (k : Int) = 1 + p0.Shows % 4 ∧ FewH a ∧ FewH b ∧ FewH c := by
 obtain ⟨a, g, n, k, e1, v, hk⟩ := draft_ok p0 h0
 obtain ⟨b, e2, f2⟩ := bend_ok p1 h1 v
 obtain ⟨c, e3, f3⟩ := few_ok p2
 refine ⟨a, b, c, g, n, k, ?_, e1, v, hk, v.few, f2, f3⟩
 unfold g_law17_chains
 rw [e1]; simp only [Option.bind_some]
 rw [e2]; simp only [Option.bind_some]
 rw [e3]; rfl
theorem same_refl (l : List Int) (hl : l.length ≤ 100000) : g_ref02_Same l l = some true := by
 unfold g_ref02_Same
 rw [if_neg (by simp)]
 rw [whileN_run (s0 := (0 : Int)) (fun i => (i : Int)) l.length (Sum.inr ()) rfl (fun i hi => by
  unfold g_ref02_Same_b0
  rw [if_pos (by rw [decide_eq_true_eq]; omega), lkI_nat hi]
  simp only [Option.bind_some]
  rw [if_neg (by simp), w64 (by omega)]; rfl) (by
  unfold g_ref02_Same_b0
  rw [if_neg (by simp)]) (by omega)]
 rfl
theorem sameTable_refl (L : List (List Int)) (hL : L.length ≤ 100000) (hl : ∀ l ∈ L, l.length ≤ 100000) : g_ref17_SameTable L L = some true := by
 unfold g_ref17_SameTable
 rw [if_neg (by simp)]
 rw [whileN_run (s0 := (0 : Int)) (fun i => (i : Int)) L.length (Sum.inr ()) rfl (fun i hi => by
  unfold g_ref17_SameTable_b0
  rw [if_pos (by rw [decide_eq_true_eq]; omega), lkI_nat hi]
  simp only [Option.bind_some]
  rw [same_refl _ (hl _ (List.getElem_mem hi))]
  simp only [Option.bind_some]
  rw [if_neg (by simp), w64 (by omega)]; rfl) (by
  unfold g_ref17_SameTable_b0
  rw [if_neg (by simp)]) (by omega)]
 rfl
theorem sameTab {T n : Nat} {F : Nat → Nat → Nat} (hT : T ≤ 8) (hn : n ≤ 4) : g_ref17_SameTable (tabI T n F) (tabI T n F) = some true :=
 sameTable_refl _ (by rw [tabI_len]; omega) (fun l hl => by
  obtain ⟨t, _, rfl⟩ := List.mem_map.1 hl
  rw [rowI_len]; omega)
theorem errN_ok {h : Tapi_Hidden} {seen : List Int} (e : errN h seen = 0) : ∃ g n k, VH h g n k ∧ VS k seen seen.length ∧ 1 ≤ seen.length ∧ seen.length ≤ 8 := by
 unfold errN at e
 cases hr : rightB h with
 | false => rw [hr] at e; simp at e
 | true =>
  rw [hr] at e
  cases hs : seenB h seen with
  | false => rw [hs] at e; simp at e
  | true =>
   obtain ⟨g, n, k, v, hk⟩ := vh_of hr
   unfold seenB seesB at hs
   simp only [Bool.and_eq_true, decide_eq_true_eq, List.all_eq_true] at hs
   obtain ⟨h1, h2, h3⟩ := hs
   exact ⟨g, n, k, v, ⟨rfl, fun x hx => by have := h1 x hx; rw [← hk]; omega⟩, by omega, by omega⟩
theorem forward_call (h : Tapi_Hidden) (seen : List Int) (ok : OkH h) (hl : seen.length ≤ 281474976710656) (e : errN h seen ≠ 0) : g_hidden_Forward h seen = some ([], errN h seen) := by
 unfold g_hidden_Forward
 rw [watcher_eq h seen ok hl, if_neg e]
 simp only [Option.bind_some]
 rw [if_pos (by simpa using e)]
theorem backward_call (h : Tapi_Hidden) (seen : List Int) (ok : OkH h) (hl : seen.length ≤ 281474976710656) (e : errN h seen ≠ 0) : g_hidden_Backward h seen = some ([], errN h seen) := by
 unfold g_hidden_Backward
 rw [watcher_eq h seen ok hl, if_neg e]
 simp only [Option.bind_some]
 rw [if_pos (by simpa using e)]
theorem VH.forward_call {h : Tapi_Hidden} {g n k : Nat} (v : VH h g n k) {seen : List Int} (w : VS k seen seen.length) (hT : 1 ≤ seen.length ∧ seen.length ≤ 8) (ok : OkH h) (e : errN h seen = 0) : g_hidden_Forward h seen = some (tabI seen.length n (fw h n seen), 0) := by
 unfold g_hidden_Forward
 rw [watcher_eq h seen ok (by omega), if_pos e, e]
 simp only [Option.bind_some]
 rw [if_neg (by simp), v.forward_eq w hT]
 rfl
theorem VH.backward_call {h : Tapi_Hidden} {g n k : Nat} (v : VH h g n k) {seen : List Int} (w : VS k seen seen.length) (hT : 1 ≤ seen.length ∧ seen.length ≤ 8) (ok : OkH h) (e : errN h seen = 0) : g_hidden_Backward h seen = some (tabI seen.length n (bw h n seen seen.length), 0) := by
 unfold g_hidden_Backward
 rw [watcher_eq h seen ok (by omega), if_pos e, e]
 simp only [Option.bind_some]
 rw [if_neg (by simp), v.backward_eq w hT]
 rfl
theorem tables_b0 (x26 p3 : List Int) (h : Tapi_Hidden) (ok : OkH h) (hx : x26.length ≤ 8) (j : Nat) (hj : j < 2) : g_law17_HiddenTables_b0 x26 p3 h (j : Int) = some (.next ((j + 1 : Nat) : Int)) := by
 unfold g_law17_HiddenTables_b0
 have s3 := sub_lim p3 10
 rw [show ((10 : Nat) : Int) = 10 from rfl] at s3
 rw [if_pos (by rw [decide_eq_true_eq]; omega), s3, lkI_nat (by simpa using hj)]
 simp only [Option.bind_some]
 have hlen : ([x26, p3.take 10] : List (List Int))[j].length ≤ 10 := by
  match j, hj with
  | 0, _ => show x26.length ≤ 10; omega
  | 1, _ => show (p3.take 10).length ≤ 10; simp; omega
 generalize ([x26, p3.take 10] : List (List Int))[j] = seen at *
 have hl : seen.length ≤ 281474976710656 := by omega
 have wj : IntKind.i64.wrap ((j : Int) + 1) = ((j + 1 : Nat) : Int) := by rw [w64 (by omega)]; rfl
 by_cases e : errN h seen = 0
 ·obtain ⟨g, n, k, v, w, h1, h2⟩ := errN_ok e
  rw [v.forward_call w ⟨h1, h2⟩ ok e]; simp only [Option.bind_some]
  rw [v.backward_call w ⟨h1, h2⟩ ok e]; simp only [Option.bind_some]
  rw [errors_eq h seen ok hl]; simp only [Option.bind_some]
  rw [e, if_neg (by simp), if_neg (by simp), if_neg (by simp), v.rforward_eq w ⟨h1, h2⟩]; simp only [Option.bind_some]
  rw [sameTab h2 v.n4]; simp only [Option.bind_some]
  rw [if_neg (by simp), v.rbackward_eq w ⟨h1, h2⟩]; simp only [Option.bind_some]
  rw [sameTab h2 v.n4]; simp only [Option.bind_some]
  rw [if_neg (by simp), wj]
 ·rw [Go.Ab.forward_call h seen ok hl e]; simp only [Option.bind_some]
  rw [Go.Ab.backward_call h seen ok hl e]; simp only [Option.bind_some]
  rw [errors_eq h seen ok hl]; simp only [Option.bind_some]
  rw [if_neg (by simp), if_neg (by simp), if_pos (by simpa using e), if_neg (by rw [w64 (by simp)]; simp), wj]
theorem wakes_true : g_law17_wakes = some true := by kernel_rfl
theorem tables_true (p0 : Tharuspexref17_Draft) (p1 : Tharuspexref17_Bend) (p2 : Tapi_Hidden) (p3 : List Int) (h0 : okTharuspexref17_Draft p0) (h1 : okTharuspexref17_Bend p1) (h2 : okTapi_Hidden p2) (h3 : p3.length ≤ maxLen ∧ ∀ y0 ∈ p3, (Lit.int .i64 y0).wf = true) : g_law17_HiddenTables p0 p1 p2 p3 = some true := by
 unfold g_law17_HiddenTables
 rw [wakes_true]
 simp only [Option.bind_some]
 rw [if_neg (by simp)]
 obtain ⟨a, b, c, g, n, k, e, e1, v, hk, fa, fb, fc⟩ := chains_ok p0 p1 p2 h0 h1
 obtain ⟨x, ex, x1, x8, xs⟩ := what_ok p0 h0 hk
 have l3 := lim_ok p3 10
 rw [show ((10 : Nat) : Int) = 10 from rfl] at l3
 rw [e]
 simp only [Option.bind_some]
 rw [whileN_run (s0 := (0 : Int)) (fun j => (j : Int)) 3 (Sum.inr ()) rfl (fun j hj => ?_) (by unfold g_law17_HiddenTables_b2; rfl) (by omega)]
 ·rfl
 ·unfold g_law17_HiddenTables_b2
  rw [if_pos (by rw [decide_eq_true_eq]; omega), lkI_nat (by simpa using hj)]
  simp only [Option.bind_some]
  have hf : FewH ([a, b, c] : List Tapi_Hidden)[j] := by
   match j, hj with
   | 0, _ => exact fa
   | 1, _ => exact fb
   | 2, _ => exact fc
  generalize ([a, b, c] : List Tapi_Hidden)[j] = h at *
  have ok := hf.ok
  rw [check_eq h ok]; simp only [Option.bind_some]
  rw [right_eq h ok]; simp only [Option.bind_some]
  have hb0 := fun j hj => tables_b0 x p3 h ok x8 j hj
  have lp : whileN fuel (g_law17_HiddenTables_b0 x p3 h) 0 = some (Sum.inr ()) := whileN_run (fun j => (j : Int)) 2 (Sum.inr ()) rfl hb0 (by unfold g_law17_HiddenTables_b0; rfl) (by omega)
  have lp1 : whileN fuel (g_law17_HiddenTables_b1 x p3 h) 0 = some (Sum.inr ()) := lp
  have wj : IntKind.i64.wrap ((j : Int) + 1) = ((j + 1 : Nat) : Int) := by rw [w64 (by omega)]; rfl
  cases hr : rightB h with
  | true =>
   simp only [if_true]
   rw [if_neg (by simp), if_neg (by simp), ex]; simp only [Option.bind_some]
   rw [if_pos l3, lp1]; simp only [Option.bind_some]
   rw [wj]
  | false =>
   simp only [Bool.false_eq_true, if_false]
   rw [if_neg (by simp), if_pos (by simp), if_neg (by simp), ex]; simp only [Option.bind_some]
   rw [if_pos l3, lp]; simp only [Option.bind_some]
   rw [wj]
end Go.Ab
