/- What the functions of this program compute, as plain functions, and that the program computes them. No conditions. -/
import Derived.Test.YtapoljjoedcknaaW11
set_option linter.all false
namespace Go.Ab
open Go
set_option maxRecDepth 100000
theorem mkQ_eq {n d : Nat} (h1 : n / Nat.gcd n d ≤ MX) (h2 : d / Nat.gcd n d ≤ MX) : mkQ false n d = (qN n d, true) := by
  unfold mkQ
  rw [if_pos h1, if_pos h2]; rfl
theorem qN_parts (A M : Nat) (hM : 0 < M) : ∃ g n d, 0 < g ∧ A = g * n ∧ M = g * d ∧ 0 < d ∧ qN A M = ⟨(n : Int), (d : Int)⟩ ∧ Nat.gcd n d = 1 := by
  have hg : 0 < Nat.gcd A M := Nat.gcd_pos_of_pos_right _ hM
  refine ⟨Nat.gcd A M, A / Nat.gcd A M, M / Nat.gcd A M, hg, (Nat.mul_div_cancel' (Nat.gcd_dvd_left A M)).symm, (Nat.mul_div_cancel' (Nat.gcd_dvd_right A M)).symm, Nat.div_pos (Nat.le_of_dvd hM (Nat.gcd_dvd_right A M)) hg, rfl, ?_⟩
  rw [Nat.gcd_div (Nat.gcd_dvd_left A M) (Nat.gcd_dvd_right A M), Nat.div_self hg]
theorem dig_len {x : Nat} (h : x ≤ MX) : (dgs x).length ≤ 5 := dgs_length_le (by have : MX = 4611686018427387903 := rfl; omega)
theorem prod_len {x y : Nat} (hx : (dgs x).length ≤ 5) (hy : (dgs y).length ≤ 5) : (dgs (x * y)).length ≤ 10 := by
  have h1 := lt_dgs x
  have h2 := lt_dgs y
  have : (dgs (x * y)).length ≤ (dgs x).length + (dgs y).length := dgs_length_le (by rw [Nat.pow_add]; exact Nat.mul_lt_mul'' h1 h2)
  omega
theorem sum_len {x y : Nat} (hx : (dgs x).length ≤ 10) (hy : (dgs y).length ≤ 10) : (dgs (x + y)).length ≤ 11 := by
  have h1 := lt_dgs x
  have h2 := lt_dgs y
  have h3 := pow_le hx
  have h4 := pow_le hy
  exact dgs_length_le (by omega)
theorem times_dgs (x y : Nat) (hx : (dgs x).length ≤ 5) (hy : (dgs y).length ≤ 5) : g_ref01_times (dgs x) (dgs y) = some (dgs (x * y)) := by
  rw [times_eq (dgs x) (dgs y) (isdg_dgs x) (fun z hz => by have := isdg_dgs y z hz; omega) (Nat.le_of_lt (by rw [dval_dgs]; exact lt_dgs y)) (by omega) (by omega), dval_dgs, dval_dgs]
theorem add_eq (A B M : Nat) (hM : 0 < M) (hMX : M ≤ MX) (hA : A + B ≤ MX) : g_ref01_Add (qN A M) (qN B M) = some (qN (A + B) M, true) := by
  have hX : MX = 4611686018427387903 := rfl
  obtain ⟨g1, n1, d1, p1, a1, m1, q1, e1, _⟩ := qN_parts A M hM
  obtain ⟨g2, n2, d2, p2, a2, m2, q2, e2, _⟩ := qN_parts B M hM
  have l1 : n1 ≤ A := by rw [a1]; exact Nat.le_mul_of_pos_left _ p1
  have l2 : n2 ≤ B := by rw [a2]; exact Nat.le_mul_of_pos_left _ p2
  have l3 : d1 ≤ M := by rw [m1]; exact Nat.le_mul_of_pos_left _ p1
  have l4 : d2 ≤ M := by rw [m2]; exact Nat.le_mul_of_pos_left _ p2
  have w1 := dig_len (x := n1) (by omega); have w2 := dig_len (x := n2) (by omega); have w3 := dig_len (x := d1) (by omega); have w4 := dig_len (x := d2) (by omega)
  unfold g_ref01_Add
  rw [e1, e2]
  simp only
  rw [digits_eq _ (by omega), digits_eq _ (by omega), digits_eq _ (by omega), digits_eq _ (by omega)]
  simp only [Int.natAbs_natCast, Option.bind_some]
  rw [times_dgs _ _ w1 w4, times_dgs _ _ w2 w3, times_dgs _ _ w3 w4]
  simp only [Option.bind_some]
  have s1 : decide ((n1 : Int) < 0) = false := by simp
  have s2 : decide ((n2 : Int) < 0) = false := by simp
  rw [s1, s2, if_pos (by rfl)]
  have v1 := prod_len w1 w4; have v2 := prod_len w2 w3; have v3 := prod_len w3 w4
  rw [plus_eq _ _ (by omega) (by omega)]
  simp only [Option.bind_some]
  have v4 := sum_len v1 v2
  rw [made_eq _ _ _ (Nat.mul_pos q1 q2) (by omega) (by omega)]
  simp only [Option.bind_some]
  have k1 : g1 * g2 * (n1 * d2 + n2 * d1) = M * (A + B) := by
    have t1 : g1 * g2 * (n1 * d2) = A * M := by rw [a1]; conv => rhs; rw [m2]
                                                ac_rfl
    have t2 : g1 * g2 * (n2 * d1) = B * M := by rw [a2]; conv => rhs; rw [m1]
                                                ac_rfl
    rw [Nat.mul_add, t1, t2, ← Nat.add_mul, Nat.mul_comm]
  have k2 : g1 * g2 * (d1 * d2) = M * M := by
    conv => rhs; rw [show M * M = (g1 * d1) * (g2 * d2) by rw [← m1, ← m2]]
    ac_rfl
  have pg : 0 < g1 * g2 := Nat.mul_pos p1 p2
  have r1 : (n1 * d2 + n2 * d1) / Nat.gcd (n1 * d2 + n2 * d1) (d1 * d2) = (A + B) / Nat.gcd (A + B) M := by
    rw [← Nat.mul_div_mul_left _ _ pg, ← Nat.gcd_mul_left, k1, k2, Nat.gcd_mul_left, Nat.mul_div_mul_left _ _ hM]
  have r2 : (d1 * d2) / Nat.gcd (n1 * d2 + n2 * d1) (d1 * d2) = M / Nat.gcd (A + B) M := by
    rw [← Nat.mul_div_mul_left _ _ pg, ← Nat.gcd_mul_left, k1, k2, Nat.gcd_mul_left, Nat.mul_div_mul_left _ _ hM]
  have b1 := Nat.div_le_self (A + B) (Nat.gcd (A + B) M)
  have b2 := Nat.div_le_self M (Nat.gcd (A + B) M)
  rw [mkQ_eq (by rw [r1]; omega) (by rw [r2]; omega)]
  unfold qN
  rw [r1, r2]
theorem mul_eq (A j M : Nat) (hM : 0 < M) (hMX : M ≤ MX) (hA : A ≤ MX) (hj : j ≤ MX) (hAj : A * j ≤ MX) : g_ref01_Mul (qN A M) ⟨(j : Int), 1⟩ = some (qN (A * j) M, true) := by
  have hX : MX = 4611686018427387903 := rfl
  obtain ⟨g1, n1, d1, p1, a1, m1, q1, e1, _⟩ := qN_parts A M hM
  have l1 : n1 ≤ A := by rw [a1]; exact Nat.le_mul_of_pos_left _ p1
  have l3 : d1 ≤ M := by rw [m1]; exact Nat.le_mul_of_pos_left _ p1
  have w1 := dig_len (x := n1) (by omega); have w3 := dig_len (x := d1) (by omega); have w2 := dig_len hj; have w4 := dig_len (x := 1) (by omega)
  unfold g_ref01_Mul
  rw [e1]
  simp only
  rw [digits_eq _ (by omega), digits_eq _ (by omega), digits_eq _ (by omega), digits_eq _ (by omega)]
  simp only [Int.natAbs_natCast, Option.bind_some, Int.natAbs_one]
  rw [times_dgs _ _ w1 w2, times_dgs _ _ w3 w4]
  simp only [Option.bind_some]
  have s1 : decide ((n1 : Int) < 0) = false := by simp
  have s2 : decide ((j : Int) < 0) = false := by simp
  have v1 := prod_len w1 w2; have v3 := prod_len w3 w4
  rw [s1, s2, made_eq _ _ _ (by omega) (by omega) (by omega)]
  simp only [Option.bind_some]
  have k1 : g1 * (n1 * j) = A * j := by rw [a1]; ac_rfl
  have k2 : g1 * (d1 * 1) = M := by rw [Nat.mul_one]; exact m1.symm
  have r1 : (n1 * j) / Nat.gcd (n1 * j) (d1 * 1) = (A * j) / Nat.gcd (A * j) M := by rw [← Nat.mul_div_mul_left _ _ p1, ← Nat.gcd_mul_left, k1, k2]
  have r2 : (d1 * 1) / Nat.gcd (n1 * j) (d1 * 1) = M / Nat.gcd (A * j) M := by rw [← Nat.mul_div_mul_left _ _ p1, ← Nat.gcd_mul_left, k1, k2]
  have b1 := Nat.div_le_self (A * j) (Nat.gcd (A * j) M)
  have b2 := Nat.div_le_self M (Nat.gcd (A * j) M)
  rw [show (!(false == false)) = false from rfl, mkQ_eq (by rw [r1]; omega) (by rw [r2]; omega)]
  unfold qN
  rw [r1, r2]
theorem right_q (A M : Nat) (hM : 0 < M) (hMX : M ≤ MX) (hA : A ≤ MX) : g_ref01_Right (qN A M) = some true := by
  have hX : MX = 4611686018427387903 := rfl
  obtain ⟨g1, n1, d1, p1, a1, m1, q1, e1, c1⟩ := qN_parts A M hM
  have l1 : n1 ≤ A := by rw [a1]; exact Nat.le_mul_of_pos_left _ p1
  have l3 : d1 ≤ M := by rw [m1]; exact Nat.le_mul_of_pos_left _ p1
  have w1 := dig_len (x := n1) (by omega); have w3 := dig_len (x := d1) (by omega)
  unfold g_ref01_Right
  rw [e1]
  simp only
  rw [if_neg (by simp only [decide_eq_true_eq]; omega), if_neg (by simp only [decide_eq_true_eq]; omega), if_neg (by simp only [decide_eq_true_eq]; omega), if_neg (by simp only [decide_eq_true_eq]; omega), digits_eq _ (by omega), digits_eq _ (by omega)]
  simp only [Int.natAbs_natCast, Option.bind_some]
  rw [gcd_eq _ _ (by omega) (by omega), c1]
  simp only [Option.bind_some]
  have e : dgs 1 = [1] := dgs_single (by omega) (by omega)
  have := compare_eq 1 1 (by rw [e]; simp) (by rw [e]; simp)
  rw [e] at this
  rw [e, this]
  rfl
theorem qN_one (j : Nat) : qN j 1 = ⟨(j : Int), 1⟩ := by unfold qN; simp
theorem qN_zero (M : Nat) (hM : 0 < M) : qN 0 M = ⟨0, 1⟩ := by
  unfold qN
  rw [Nat.gcd_zero_left, Nat.zero_div, Nat.div_self hM]; rfl
theorem of_one (j : Nat) (hj : j ≤ MX) : g_ref01_Of (j : Int) 1 = some ⟨(j : Int), 1⟩ := by
  have := of_eq j 1 hj (by decide) (by omega)
  rw [qN_one] at this
  exact this
theorem choose_mul : ∀ (u k : Nat), k * choose u k = u * (match k with | 0 => 0 | k + 1 => choose (u - 1) k)
  | _, 0 => by simp
  | 0, k + 1 => by rw [choose]; simp
  | u + 1, k + 1 => by
    have i1 := choose_mul u k
    have i2 := choose_mul u (k + 1)
    simp only [Nat.add_sub_cancel] at *
    rw [choose, Nat.mul_add]
    cases u with
    | zero =>
      cases k with
      | zero => simp [choose]
      | succ k => simp [choose]
    | succ u =>
      simp only [Nat.add_sub_cancel] at i1 i2
      cases k with
      | zero => simp [choose] at *; omega
      | succ k =>
        simp only at i1 i2 ⊢
        rw [i2, Nat.add_mul (k + 1) 1, i1]
        rw [show choose (u + 1) (k + 1) = choose u k + choose u (k + 1) from rfl]
        simp only [Nat.add_mul, Nat.mul_add, Nat.one_mul]
        omega
theorem mean_tm (z o u a b : Nat) (s : Nat → Nat) (j : Nat) : j * tm z o u a b s j = o * tm z o u a b s j + u * tm z (o + 1) (u - 1) a b s j := by
  unfold tm
  by_cases h1 : j < o
  · rw [if_pos h1, if_pos (by omega)]; simp
  · rw [if_neg h1]
    by_cases h2 : o + u < j
    · rw [if_pos h2, if_neg (by omega)]
      by_cases h3 : u = 0
      · subst h3; simp
      · rw [if_pos (by omega)]; simp
    · rw [if_neg h2]
      obtain ⟨k, hk⟩ : ∃ k, j = o + k := ⟨j - o, by omega⟩
      subst hk
      have e : (o + k - o) = k := by omega
      rw [e]
      by_cases h3 : u = 0
      · have : k = 0 := by omega
        subst this; subst h3; simp
      · rw [if_neg (show ¬ (o + 1 + (u - 1) < o + k) by omega), show z + (o + 1) + (u - 1) = z + o + u by omega]
        generalize a ^ (o + k) * b ^ (z + o + u - (o + k)) = W
        generalize s (o + k) = S
        cases k with
        | zero => rw [if_pos (by omega)]; simp
        | succ k =>
          rw [if_neg (by omega), show o + (k + 1) - (o + 1) = k by omega]
          have cm := choose_mul u (k + 1)
          simp only at cm
          rw [Nat.add_mul, Nat.add_left_cancel_iff]
          have t1 : (k + 1) * (choose u (k + 1) * W * S) = (k + 1) * choose u (k + 1) * W * S := by ac_rfl
          have t2 : u * (choose (u - 1) k * W * S) = u * choose (u - 1) k * W * S := by ac_rfl
          rw [t1, t2, cm]
theorem mean_sum (z o u a b : Nat) (s : Nat → Nat) (n : Nat) : sumTo n (fun j => j * tm z o u a b s j) = o * sumTo n (tm z o u a b s) + u * sumTo n (tm z (o + 1) (u - 1) a b s) := by
  rw [← sumTo_mul, ← sumTo_mul, ← sumTo_add]
  exact sumTo_congr fun k _ => mean_tm z o u a b s k
theorem ones_eq {l : Tapi_Lift} {g C a card : Nat} (h : VL l g C a card) {z o u : Nat} (hu : z + o + u = C) (c : Int) (hc : -1 ≤ c ∧ c < card) :
    g_lift_Ones l (z : Int) (o : Int) c = some (if massN z o u a (g - a) (shownN l g c) = 0 then ([], 7) else ((List.range (C + 1)).map fun (k : Nat) => qN (tm z o u a (g - a) (shownN l g c) k) (massN z o u a (g - a) (shownN l g c)), 0)) := by
  have c2 := h.c2
  obtain ⟨v, e1, e2, _⟩ := ones_same h.lens (z : Int) (o : Int) c
  rw [e1, ← e2]
  have eM : sumTo (C + 1) (tm z o u a (g - a) (shownN l g c)) = massN z o u a (g - a) (shownN l g c) := by unfold massN; rw [hu]
  have lim : ∀ k, k ≤ C + 1 → sumTo k (tm z o u a (g - a) (shownN l g c)) ≤ 4611686018427387903 := fun k hk => by
    have h1 : sumTo k (tm z o u a (g - a) (shownN l g c)) ≤ sumTo (C + 1) (tm z o u a (g - a) (shownN l g c)) := sumTo_mono hk
    have h2 := tm_lim h hu c C (Nat.le_refl _)
    omega
  unfold g_ref14_Ones
  rcases errors_eq h (z : Int) (o : Int) c with ⟨_, e⟩ | ⟨bad, _⟩
  · rw [e]
    simp only [Option.bind_some]
    rw [if_neg (by simp), weights_eq h hu c hc]
    simp only [Option.bind_some]
    rw [total_w h hu]
    simp only [Option.bind_some]
    by_cases hM : massN z o u a (g - a) (shownN l g c) = 0
    · rw [if_pos (by simp [hM]), if_pos hM]
    · rw [if_neg (by simp; omega), if_neg hM]
      unfold wlist
      rw [shared_eq _ _ (by omega) lim (by rw [eM]; omega), eM]
      rfl
  · exact absurd ⟨by omega, by omega, by omega, hc.1, hc.2⟩ bad
theorem means_true (p0 : Tharuspexref14_Draft) (p1 : Tharuspexlaw14_Known) (h0 : okTharuspexref14_Draft p0) (h1 : okTharuspexlaw14_Known p1) : g_law14_LiftMeans p0 p1 = some true := by
  have hMX : MX = 4611686018427387903 := rfl
  obtain ⟨l, g, C, a, card, e, h⟩ := draft_ok p0 h0
  obtain ⟨z, o, u, c, hu, hc1, hc2, ek⟩ := known_ok p1 h
  have c2 := h.c2
  unfold g_law14_LiftMeans
  rw [wakes_true]
  simp only [Option.bind_some]
  rw [if_neg (by simp), e]
  simp only [Option.bind_some]
  rw [ek]
  simp only [Option.bind_some]
  rw [ones_eq h hu c ⟨hc1, hc2⟩]
  simp only [Option.bind_some]
  rw [next_eq h hu c ⟨hc1, hc2⟩]
  simp only [Option.bind_some]
  have wu : IntKind.i64.wrap (IntKind.i64.wrap (l.Count - (z : Int)) - (o : Int)) = (u : Int) := by rw [h.hC, w64 (n := (C : Int) - z) (by omega), w64 (by omega)]; omega
  rw [wu]
  by_cases hM : massN z o u a (g - a) (shownN l g c) = 0
  · simp only [if_pos hM]
    by_cases hu0 : u = 0
    · simp [hu0]
    · simp [hu0]
  simp only [if_neg hM]
  obtain ⟨M, eM⟩ : ∃ M, M = massN z o u a (g - a) (shownN l g c) := ⟨_, rfl⟩
  obtain ⟨T, eT⟩ : ∃ T : Nat → Nat, T = tm z o u a (g - a) (shownN l g c) := ⟨_, rfl⟩
  have limM : M ≤ 204800000000000 := by
    have := tm_lim h hu c C (Nat.le_refl _)
    rw [eM]; unfold massN; rw [hu]; exact this
  have sM : sumTo (C + 1) T = M := by rw [eM, eT]; unfold massN; rw [hu]
  rw [← eM, ← eT]
  rw [← eM] at hM
  have hMp : 0 < M := by omega
  have limT : ∀ k, k ≤ C + 1 → sumTo k T ≤ M := fun k hk => by rw [← sM]; exact sumTo_mono hk
  have limJ : ∀ k, k ≤ C + 1 → sumTo k (fun j => j * T j) ≤ 10 * M := fun k hk => by
    have h1 : sumTo k (fun j => j * T j) ≤ sumTo k (fun j => 10 * T j) := sumTo_le fun j hj => Nat.mul_le_mul_right _ (by omega)
    rw [sumTo_mul] at h1
    have := limT k hk
    omega
  have sJ : sumTo (C + 1) (fun j => j * T j) = o * M + u * massN z (o + 1) (u - 1) a (g - a) (shownN l g c) := by
    rw [eT, mean_sum, ← eT, sM]
    by_cases hu0 : u = 0
    · subst hu0; simp
    · have : massN z (o + 1) (u - 1) a (g - a) (shownN l g c) = sumTo (C + 1) (tm z (o + 1) (u - 1) a (g - a) (shownN l g c)) := by unfold massN; rw [show z + (o + 1) + (u - 1) + 1 = C + 1 by omega]
      rw [this]
  have body : ∀ (x : Tharuspexlaw14_Known) (hx1 : x.Zeros = (z : Int)) (hx2 : x.Ones = (o : Int)) (b : (List Tapi_Q × Int) → Tharuspexlaw14_Known → Tapi_Lift → (Int × Int × Int × Int × Int) → Option (Step (Int × Int × Int × Int × Int) (Unit ⊕ (Int × Int × Int × Int)))), b = g_law14_LiftMeans_b0 →
      whileN fuel (b ((List.range (C + 1)).map fun (k : Nat) => qN (T k) M, 0) x l) (0, 0, 1, 0, 1) = some (.inr ((qN M M).N, (qN M M).D, (qN (sumTo (C + 1) (fun j => j * T j)) M).N, (qN (sumTo (C + 1) (fun j => j * T j)) M).D)) := by
    intro x hx1 hx2 b hb
    subst hb
    refine whileN_run (fun k => ((k : Int), (qN (sumTo k T) M).N, (qN (sumTo k T) M).D, (qN (sumTo k (fun j => j * T j)) M).N, (qN (sumTo k (fun j => j * T j)) M).D)) (C + 1) _ (by simp only [sumTo]; rw [qN_zero M hMp]; rfl) (fun k hk => ?step) ?done (by omega)
    case step =>
      have t1 := limT (k + 1) (by omega)
      have t2 := limJ (k + 1) (by omega)
      simp only [sumTo] at t1 t2
      unfold g_law14_LiftMeans_b0
      simp only [List.length_map, List.length_range]
      rw [if_pos (by simp only [decide_eq_true_eq]; omega), lkI_nat (by simpa using hk)]
      simp only [Option.bind_some, List.getElem_map, List.getElem_range]
      rw [right_q _ _ hMp (by omega) (by omega)]
      simp only [Option.bind_some]
      rw [if_neg (by simp)]
      have np : ¬ (qN (T k) M).N < 0 := Int.not_lt.2 (Int.natCast_nonneg _)
      rw [if_neg (by simpa using np), of_one k (by omega)]
      have hT2 : T k * k = k * T k := Nat.mul_comm _ _
      have e1 : g_ref01_Mul (qN (T k) M) ⟨(k : Int), 1⟩ = some (qN (k * T k) M, true) := by rw [← hT2]; exact mul_eq _ _ _ hMp (by omega) (by omega) (by omega) (by omega)
      have e2 : g_ref01_Add (Tapi_Q.mk (qN (sumTo k (fun j => j * T j)) M).N (qN (sumTo k (fun j => j * T j)) M).D) (qN (k * T k) M) = some (qN (sumTo k (fun j => j * T j) + k * T k) M, true) := add_eq _ _ _ hMp (by omega) (by omega)
      have e3 : g_ref01_Add (Tapi_Q.mk (qN (sumTo k T) M).N (qN (sumTo k T) M).D) (qN (T k) M) = some (qN (sumTo k T + T k) M, true) := add_eq _ _ _ hMp (by omega) (by omega)
      have fin : ∀ y : Option (Step (Int × Int × Int × Int × Int) (Unit ⊕ (Int × Int × Int × Int))), ((some (Tapi_Q.mk (k : Int) 1)).bind fun x52 => (g_ref01_Mul (qN (T k) M) x52).bind fun x54 => (g_ref01_Add (Tapi_Q.mk (qN (sumTo k (fun j => j * T j)) M).N (qN (sumTo k (fun j => j * T j)) M).D) x54.1).bind fun x56 => (g_ref01_Add (Tapi_Q.mk (qN (sumTo k T) M).N (qN (sumTo k T) M).D) (qN (T k) M)).bind fun x58 => if (!x54.2) = true then y else if (!x56.2) = true then y else if (!x58.2) = true then y else
          some (.next (IntKind.i64.wrap ((k : Int) + 1), x58.1.N, x58.1.D, x56.1.N, x56.1.D))) = some (.next (((k + 1 : Nat) : Int), (qN (sumTo (k + 1) T) M).N, (qN (sumTo (k + 1) T) M).D, (qN (sumTo (k + 1) (fun j => j * T j)) M).N, (qN (sumTo (k + 1) (fun j => j * T j)) M).D)) := fun y => by
        simp only [Option.bind_some]
        rw [e1]
        simp only [Option.bind_some]
        rw [e2]
        simp only [Option.bind_some]
        rw [e3]
        simp only [Option.bind_some, sumTo]
        rw [w64 (by omega)]
        simp
      by_cases hp : (qN (T k) M).N > 0
      · have tk : T k ≠ 0 := fun h0 => by rw [h0, qN_zero M hMp] at hp; simp at hp
        have r1 : ¬ k < o := fun h9 => tk (by rw [eT]; unfold tm; rw [if_pos h9])
        have r2 : ¬ o + u < k := fun h9 => tk (by rw [eT]; unfold tm; rw [if_neg r1, if_pos h9])
        rw [if_pos (by simpa using hp), hx1, hx2, if_neg (by simp only [decide_eq_true_eq]; omega), h.hC, w64 (n := (C : Int) - z) (by omega), if_neg (by simp only [decide_eq_true_eq]; omega)]
        exact fin _
      · rw [if_neg (by simpa using hp)]
        exact fin _
    case done =>
      unfold g_law14_LiftMeans_b0
      simp only [List.length_map, List.length_range]
      rw [if_neg (by simp), sM]
  have bb : g_law14_LiftMeans_b1 = g_law14_LiftMeans_b0 := rfl
  have z1 : g_ref01_Of 0 1 = some ⟨0, 1⟩ := of_one 0 (by omega)
  have o1 : g_ref01_Of 1 1 = some ⟨1, 1⟩ := of_one 1 (by omega)
  have qM : qN M M = ⟨1, 1⟩ := by
    have := qN_mul (k := M) (n := 1) (d := 1) hMp
    rw [Nat.mul_one] at this
    rw [this, qN_one]; rfl
  rw [if_neg (by simp), if_neg (by simp [h.hC, w64 (n := (C : Int) + 1) (by omega)])]
  by_cases hu0 : u = 0
  · rw [if_pos hu0]
    rw [if_pos (by simp), if_neg (by simp), if_neg (by simp [hu0]), z1]
    simp only [Option.bind_some]
    rw [body ⟨(z : Int), (o : Int), c⟩ rfl rfl _ rfl]
    simp only [Option.bind_some]
    rw [of_one o (by omega), o1]
    simp only [Option.bind_some]
    have m1 : sumTo (C + 1) (fun j => j * T j) = M * o := by rw [sJ, hu0]; simp [Nat.mul_comm]
    have m2 : qN (M * o) M = ⟨(o : Int), 1⟩ := by
      have := qN_mul (k := M) (n := o) (d := 1) hMp
      rw [Nat.mul_one] at this
      rw [this, qN_one]
    rw [qM, m1, m2]
    simp
  · rw [if_neg hu0]
    rw [if_neg (by simp), z1]
    simp only [Option.bind_some]
    rw [bb, body ⟨(z : Int), (o : Int), c⟩ rfl rfl _ rfl]
    simp only [Option.bind_some]
    rw [of_one o (by omega), o1, of_one u (by omega)]
    simp only [Option.bind_some]
    obtain ⟨M', eM'⟩ : ∃ M', M' = massN z (o + 1) (u - 1) a (g - a) (shownN l g c) := ⟨_, rfl⟩
    have limM' : M' ≤ 204800000000000 := by
      have := tm_lim h (z := z) (o := o + 1) (u := u - 1) (by omega) c C (Nat.le_refl _)
      rw [eM']; unfold massN; rw [show z + (o + 1) + (u - 1) + 1 = C + 1 by omega]; exact this
    rw [← eM'] at sJ ⊢
    have uM : M' * u ≤ 204800000000000 * 10 := Nat.mul_le_mul limM' (by omega)
    rw [if_pos (by simp; omega), right_q M' M hMp (by omega) (by omega)]
    simp only [Option.bind_some]
    rw [if_neg (by simp), mul_eq M' u M hMp (by omega) (by omega) (by omega) (by omega)]
    simp only [Option.bind_some]
    have oM : qN (M * o) M = ⟨(o : Int), 1⟩ := by
      have := qN_mul (k := M) (n := o) (d := 1) hMp
      rw [Nat.mul_one] at this
      rw [this, qN_one]
    have oL : M * o ≤ 204800000000000 * 10 := Nat.mul_le_mul limM (by omega)
    rw [← oM, add_eq (M * o) (M' * u) M hMp (by omega) (by omega)]
    simp only [Option.bind_some]
    have m1 : sumTo (C + 1) (fun j => j * T j) = M * o + M' * u := by rw [sJ]; simp [Nat.mul_comm]
    rw [qM, m1]
    simp
end Go.Ab
