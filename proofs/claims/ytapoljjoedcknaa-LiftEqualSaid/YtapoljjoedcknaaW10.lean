/- What the functions of this program compute, as plain functions, and that the program computes them. No conditions. -/
import Derived.Test.YtapoljjoedcknaaProg
import Derived.Test.YtapoljjoedcknaaW8
import Derived.KernelRfl
import Derived.Test.YtapoljjoedcknaaW9
set_option linter.all false
namespace Go.Ab
open Go Go.Proofs
set_option linter.unusedVariables false
set_option linter.unusedSimpArgs false
set_option maxRecDepth 100000
set_option maxHeartbeats 4000000
theorem g_weigh_Ratio_ok (p0 : Int) (p1 : Int) (x : Tapi_Q) (h : g_weigh_Ratio p0 p1 = some x) : CallOk Try.prog 43 [vI p0, vI p1] (.ret (.agg [vI x.N, vI x.D]) []) := by
  refine fn_ok [] Try.func43 rfl (by decide +kernel) rfl ?_
  unfold g_weigh_Ratio at h
  refine wp_eqB (base' := 0) (st' := ⟨[(0, vI p0), (1, vI p1)], [], 25⟩) rfl (by kernel_rfl) ?_
  refine sq ?_
  refine sqN (S := ⟨[(0, vI p0), (1, vI p1), (4, .ptr 0 0 0), (7, vI p0), (8, vI p0), (9, vI (IntKind.i64.wrap (0 - p0))), (10, vI (if (IntKind.i64.wrap (0 - p0)) > p0 then (IntKind.i64.wrap (0 - p0)) else p0)), (11, vI p1), (5, vI (if (IntKind.i64.wrap (0 - p0)) > p0 then (IntKind.i64.wrap (0 - p0)) else p0)), (6, vI p1)], [oX true true 2 (.agg [vI 0, vI 0])], 25⟩) ?_
  refine wp_seq ?_
  refine wp_block ?_
  refine wp_while (σ := (Int × Int)) (ρ := Int) (n := fuel) (body := g_weigh_Ratio_b0) (I := fun s1 => ⟨[(0, vI p0), (1, vI p1), (4, .ptr 0 0 0), (5, vI s1.1), (6, vI s1.2)], [oX true true 2 (.agg [vI 0, vI 0])], 25⟩) (Ex := fun v out => out = .go (.exit 0) ⟨[(0, vI p0), (1, vI p1), (4, .ptr 0 0 0), (5, vI v)], [oX true true 2 (.agg [vI 0, vI 0])], 25⟩) ((if (IntKind.i64.wrap (0 - p0)) > p0 then (IntKind.i64.wrap (0 - p0)) else p0), p1) (wk_gc (live := [0, 1, 4, 5, 6]) (keep := [0]) (st' := ⟨[(0, vI p0), (1, vI p1), (4, .ptr 0 0 0), (5, vI (if (IntKind.i64.wrap (0 - p0)) > p0 then (IntKind.i64.wrap (0 - p0)) else p0))] ++ [(6, vI p1)], [oX true true 2 (.agg [vI 0, vI 0])], 25⟩) (by kernel_rfl)) h ?_ ?_
  · intro s1 o h
    unfold g_weigh_Ratio_b0 at h
    refine wp_seq ?_
    refine sq ?_
    refine wbr (S := fun b2 => ⟨[(0, vI p0), (1, vI p1), (4, .ptr 0 0 0), (5, vI s1.1), (6, vI s1.2), (12, vI s1.2), (13, vB b2)], [oX true true 2 (.agg [vI 0, vI 0])], 25⟩) h (fun q3 h => ?_) (fun q3 h => ?_)
    · refine wp_condT rfl ?_
      refine wp_skip ?_
      refine wp_block ?_
      refine rga hfol ?_
      refine sgy 3 3 (S := ⟨[(0, vI p0), (1, vI p1), (4, .ptr 0 0 0), (5, vI s1.1), (6, vI s1.2), (12, vI s1.2), (13, vB true), (14, vI s1.2), (15, vI s1.1), (16, vI s1.2)], [oX true true 2 (.agg [vI 0, vI 0])], 25⟩) ?_
      refine remR (k := .i64) (a := s1.1) (b := s1.2) (S := ⟨[(0, vI p0), (1, vI p1), (4, .ptr 0 0 0), (5, vI s1.1), (6, vI s1.2), (12, vI s1.2), (13, vB true), (14, vI s1.2), (15, vI s1.1), (16, vI s1.2), (17, vI (Int.tmod s1.1 s1.2))], [oX true true 2 (.agg [vI 0, vI 0])], 25⟩) (by kernel_rfl) (by kernel_rfl) h (fun h => ?_)
      refine sgy 2 6 (S := ⟨[(0, vI p0), (1, vI p1), (4, .ptr 0 0 0), (5, vI s1.2), (6, vI (Int.tmod s1.1 s1.2)), (12, vI s1.2), (13, vB true), (14, vI s1.2), (15, vI s1.1), (16, vI s1.2), (17, vI (Int.tmod s1.1 s1.2))], [oX true true 2 (.agg [vI 0, vI 0])], 25⟩) ?_
      refine rgd ?_
      cases h
      exact ⟨_, rfl, (wk_gc (live := [0, 1, 4, 5, 6]) (keep := [0]) (st' := ⟨[(0, vI p0), (1, vI p1), (4, .ptr 0 0 0), (5, vI s1.2), (6, vI (Int.tmod s1.1 s1.2))], [oX true true 2 (.agg [vI 0, vI 0])], 25⟩) (by kernel_rfl))⟩
    refine wp_condF rfl ?_
    refine wgc [0, 1, 4, 5] [0] ⟨[(0, vI p0), (1, vI p1), (4, .ptr 0 0 0), (5, vI s1.1)], [oX true true 2 (.agg [vI 0, vI 0])], 25⟩ ?_
    refine wp_exit ?_
    cases h
    exact ⟨rfl, rfl⟩
  intro x5 h out hx
  subst hx
  refine wp_seq ?_
  refine rga hfol ?_
  refine sgy 2 2 (S := ⟨[(0, vI p0), (1, vI p1), (4, .ptr 0 0 0), (5, vI x5), (18, vI p0), (19, vI x5)], [oX true true 2 (.agg [vI 0, vI 0])], 25⟩) ?_
  refine quoR (k := .i64) (a := p0) (b := x5) (S := ⟨[(0, vI p0), (1, vI p1), (4, .ptr 0 0 0), (5, vI x5), (18, vI p0), (19, vI x5), (20, vI (IntKind.i64.wrap (Int.tdiv p0 x5)))], [oX true true 2 (.agg [vI 0, vI 0])], 25⟩) (by kernel_rfl) (by kernel_rfl) h (fun h => ?_)
  refine sgy 2 5 (S := ⟨[(0, vI p0), (1, vI p1), (4, .ptr 0 0 0), (5, vI x5), (18, vI p0), (19, vI x5), (20, vI (IntKind.i64.wrap (Int.tdiv p0 x5))), (21, vI p1), (22, vI x5)], [oX true true 2 (.agg [vI 0, vI 0])], 25⟩) ?_
  refine quoR (k := .i64) (a := p1) (b := x5) (S := ⟨[(0, vI p0), (1, vI p1), (4, .ptr 0 0 0), (5, vI x5), (18, vI p0), (19, vI x5), (20, vI (IntKind.i64.wrap (Int.tdiv p0 x5))), (21, vI p1), (22, vI x5), (23, vI (IntKind.i64.wrap (Int.tdiv p1 x5)))], [oX true true 2 (.agg [vI 0, vI 0])], 25⟩) (by kernel_rfl) (by kernel_rfl) h (fun h => ?_)
  refine sy 2 8 ?_
  refine rgd ?_
  refine wg [4] [0] ?_
  refine wp_ret ?_
  cases h
  show fnOut _ _ _ _ = _
  kernel_rfl
@[reducible] noncomputable def s50_1 (p0 : Tlift_counter) : List (Nat × AV) := [(0, .fz [vI p0.Lift.Grain, vI p0.Lift.Count, vI p0.Lift.One, eL false (eL true eI) p0.Lift.Rows, vI p0.zeros, vI p0.ones, vI p0.child])]
theorem g_lift_counter_numbers_ok (p0 : Tlift_counter) (x : (List Int)) (h : g_lift_counter_numbers p0 = some x) : CallOk Try.prog 50 [.fz [vI p0.Lift.Grain, vI p0.Lift.Count, vI p0.Lift.One, eL false (eL true eI) p0.Lift.Rows, vI p0.zeros, vI p0.ones, vI p0.child]] (.ret (.ref 0 0 x.length) [oR true 1 eI x]) := by
  refine fn_ok [] Try.func50 rfl (by decide +kernel) rfl ?_
  unfold g_lift_counter_numbers at h
  refine wp_eqB (base' := 0) (st' := ⟨(s50_1 p0), [], 20⟩) rfl (by kernel_rfl) ?_
  refine sq ?_
  refine sq ?_
  refine wp_seq ?_
  refine sqN (S := ⟨(s50_1 p0) ++ [(2, .nils), (3, .nils), (5, .fz [vI p0.Lift.Grain, vI p0.Lift.Count, vI p0.Lift.One, eL false (eL true eI) p0.Lift.Rows, vI p0.zeros, vI p0.ones, vI p0.child]), (6, .fz [vI p0.Lift.Grain, vI p0.Lift.Count, vI p0.Lift.One, eL false (eL true eI) p0.Lift.Rows, vI p0.zeros, vI p0.ones, vI p0.child]), (7, .fz [vI p0.Lift.Grain, vI p0.Lift.Count, vI p0.Lift.One, eL false (eL true eI) p0.Lift.Rows, vI p0.zeros, vI p0.ones, vI p0.child]), (8, .fz [vI p0.Lift.Count, vI p0.Lift.One, eL false (eL true eI) p0.Lift.Rows, vI p0.zeros, vI p0.ones, vI p0.child]), (9, vI p0.Lift.Count), (10, vI (IntKind.i64.wrap (p0.Lift.Count + 1))), (11, vI 0)], [], 20⟩) ?_
  refine wp_block ?_
  refine wp_while (σ := (Int × (List Int))) (ρ := (List Int)) (n := fuel) (body := g_lift_counter_numbers_b0 p0) (I := fun s1 => ⟨[(3, .ref 0 0 s1.2.length), (10, vI (IntKind.i64.wrap (p0.Lift.Count + 1))), (11, vI s1.1)], [oR true 1 eI s1.2], 20⟩) (Ex := fun v out => out = .go (.exit 0) ⟨[(3, .ref 0 0 v.length)], [oR true 1 eI v], 20⟩) (0, ([] : (List Int))) (wk_trans (wk_gc (live := [3, 10, 11]) (keep := []) (st' := ⟨[(3, .nils), (10, vI (IntKind.i64.wrap (p0.Lift.Count + 1))), (11, vI 0)], [], 20⟩) (by kernel_rfl)) (wk_trans (wk_nil 3 1 true true (st' := ⟨[(3, .ref 0 0 0), (10, vI (IntKind.i64.wrap (p0.Lift.Count + 1))), (11, vI 0)], [.row false false true true 1 []], 20⟩) (by kernel_rfl)) (wk_gc (live := [3, 10, 11]) (keep := [0]) (st' := ⟨[(3, .ref 0 0 (([] : (List Int)).length)), (10, vI (IntKind.i64.wrap (p0.Lift.Count + 1))), (11, vI 0)], [oR true 1 eI ([] : (List Int))], 20⟩) (by kernel_rfl)))) h ?_ ?_
  · intro s1 o h
    unfold g_lift_counter_numbers_b0 at h
    refine sq ?_
    refine wp_seq ?_
    refine wbr (S := fun b2 => ⟨[(3, .ref 0 0 s1.2.length), (10, vI (IntKind.i64.wrap (p0.Lift.Count + 1))), (11, vI s1.1), (12, vB b2)], [oR true 1 eI s1.2], 20⟩) h (fun q3 h => ?_) (fun q3 h => ?_)
    · refine wp_condT rfl ?_
      refine wp_skip ?_
      refine wp_seq ?_
      refine wp_block ?_
      refine sq ?_
      refine reg_in ?_
      refine sz 2 2 ?_
      refine sgL false [] [] true (S := ⟨[(3, .ref 0 0 s1.2.length), (10, vI (IntKind.i64.wrap (p0.Lift.Count + 1))), (11, vI s1.1), (12, vB true), (13, vI s1.1), (4, vI s1.1), (14, .ref 0 0 s1.2.length), (15, vI s1.1), (16, .ref 1 0 1)], [oR true 1 eI s1.2, .row false false true true 1 [vI s1.1]], 20⟩) (by kernel_rfl) ?_
      refine appR (enc := eI) (l := s1.2) (m := ([s1.1] : (List Int))) (w := 1) (bytes := 8) (ob := 0) (nr := true) (fl := true) (nr' := true) (fl' := true) (b := .ref 1 0 1) (rds := [1]) (S := ⟨[(3, .ref 0 0 s1.2.length), (10, vI (IntKind.i64.wrap (p0.Lift.Count + 1))), (11, vI s1.1), (12, vB true), (13, vI s1.1), (4, vI s1.1), (14, .ref 0 0 s1.2.length), (15, vI s1.1), (16, .ref 1 0 1), (17, .ref 2 0 ((s1.2 ++ ([s1.1] : (List Int))).length))], [.dead, .row false false true true 1 [vI s1.1], oR true 1 eI (s1.2 ++ ([s1.1] : (List Int)))], 20⟩) false (by kernel_rfl) rfl (by kernel_rfl) rfl (by kernel_rfl) (by kernel_rfl) h (fun h => ?_)
      refine sz 1 5 ?_
      refine reg_end rfl ?_
      refine wg [3, 10, 11] [2] ?_
      refine rgN (S := ⟨[(3, .ref 0 0 ((s1.2 ++ ([s1.1] : (List Int))).length)), (10, vI (IntKind.i64.wrap (p0.Lift.Count + 1))), (11, vI (IntKind.i64.wrap (s1.1 + 1))), (18, vI (IntKind.i64.wrap (s1.1 + 1)))], [oR true 1 eI (s1.2 ++ ([s1.1] : (List Int)))], 20⟩) ?_
      cases h
      exact ⟨_, rfl, (wk_gc (live := [3, 10, 11]) (keep := [0]) (st' := ⟨[(3, .ref 0 0 ((s1.2 ++ ([s1.1] : (List Int))).length)), (10, vI (IntKind.i64.wrap (p0.Lift.Count + 1))), (11, vI (IntKind.i64.wrap (s1.1 + 1)))], [oR true 1 eI (s1.2 ++ ([s1.1] : (List Int)))], 20⟩) (by kernel_rfl))⟩
    refine wp_condF rfl ?_
    refine wgc [3] [0] ⟨[(3, .ref 0 0 s1.2.length)], [oR true 1 eI s1.2], 20⟩ ?_
    refine wp_exit ?_
    cases h
    exact ⟨rfl, rfl⟩
  intro x5 h out hx
  subst hx
  refine sq ?_
  refine wg [2] [0] ?_
  refine wp_ret ?_
  cases h
  show fnOut _ _ _ _ = _
  kernel_rfl
theorem g_lift_counter_unknown_ok (p0 : Tlift_counter) (x : Int) (h : g_lift_counter_unknown p0 = some x) : CallOk Try.prog 54 [.fz [vI p0.Lift.Grain, vI p0.Lift.Count, vI p0.Lift.One, eL false (eL true eI) p0.Lift.Rows, vI p0.zeros, vI p0.ones, vI p0.child]] (.ret (vI x) []) := by
  refine fn_ok [] Try.func54 rfl (by decide +kernel) rfl ?_
  unfold g_lift_counter_unknown at h
  refine wp_eqB (base' := 0) (st' := ⟨[(0, .fz [vI p0.Lift.Grain, vI p0.Lift.Count, vI p0.Lift.One, eL false (eL true eI) p0.Lift.Rows, vI p0.zeros, vI p0.ones, vI p0.child])], [], 18⟩) rfl (by kernel_rfl) ?_
  refine sq ?_
  refine wp_seq ?_
  refine rga hfol ?_
  refine sy 16 16 ?_
  refine rgd ?_
  refine wg [2] [] ?_
  refine wp_ret ?_
  cases h
  show fnOut _ _ _ _ = _
  kernel_rfl
@[reducible] noncomputable def s70_44 (s4 : (Int × (List Int))) (p0 : Int) (s1 : (Int × (List Int) × (List Int))) : List (Nat × AV) := [(0, .yld 2), (4, .ref 4 0 s4.2.length), (8, vI p0), (9, vI s1.1), (19, .ref 3 0 s1.2.2.length), (20, vI (s1.2.2.length : Int)), (21, vI s4.1)]
theorem g_lift_binomial_ok (p0 : Int) (x : (List Int)) (h : g_lift_binomial p0 = some x) : CallOk Try.prog 70 [vI p0] (.ret (.ref 0 0 x.length) [oR true 1 eI x]) := by
  refine fn_ok [] Try.func70 rfl (by decide +kernel) rfl ?_
  unfold g_lift_binomial at h
  refine wp_eqB (base' := 0) (st' := ⟨[(0, vI p0)], [], 10⟩) rfl (by kernel_rfl) ?_
  refine sq ?_
  refine wp_seq ?_
  refine reg_in ?_
  refine sl false [] [] false rfl ?_
  refine reg_end rfl ?_
  refine wp_seq ?_
  refine wp_seq ?_
  refine reg_in ?_
  refine sgz 1 1 (S := ⟨[(0, vI p0), (2, .nils), (3, .ptr 0 0 0), (5, vI p0)], [oX true false 1 (.nils)], 10⟩) ?_
  refine inlR (f := 87) (fn := Try.f87) (as0 := [vI p0]) (by kernel_rfl) Try.func87 rfl (by decide +kernel) rfl ?_
  refine wp_eqB (base' := 1) (st' := ⟨[(0, vI p0)], [oX true false 1 (.nils)], 4⟩) rfl (by kernel_rfl) ?_
  refine sq ?_
  refine sq ?_
  refine wgc [2] [1] ⟨[(2, .fn (.func 95) [] [.ptr 1 0 0])], [oX true false 1 (.nils), oX true true 1 (vI p0)], 4⟩ ?_
  refine wp_ret ?_
  refine ⟨⟨[(0, vI p0), (2, .nils), (3, .ptr 0 0 0), (5, vI p0), (6, .fn (.func 95) [] [.ptr 1 0 0])], [oX true false 1 (.nils), oX true true 1 (vI p0)], 10⟩, by kernel_rfl, ?_⟩
  refine reg_end rfl ?_
  refine wp_block ?_
  refine wgc [3, 6] [0, 1] ⟨[(3, .ptr 0 0 0), (6, .fn (.func 95) [] [.ptr 1 0 0])], [oX true false 1 (.nils), oX true true 1 (vI p0)], 10⟩ ?_
  refine wp_range (f := 95) (fn := Try.f95) (first := []) (caps := [.ptr 1 0 0]) rfl Try.func95 rfl (by decide +kernel) rfl rfl ?_
  refine wp_eqB (base' := 3) (st' := ⟨[(0, .yld 2), (1, .ptr 1 0 0)], [oX true false 1 (.nils), oX true true 1 (vI p0), .loop 10 [(3, .ptr 0 0 0), (6, .fn (.func 95) [] [.ptr 1 0 0])] [7] (cA Try.f70 [true, true, false, true, true]) (cB Try.f70 [true, true, false, true, true]) .ready none], 47⟩) rfl (by kernel_rfl) ?_
  refine wp_seq ?_
  refine reg_in ?_
  refine sl false [] [] true rfl ?_
  refine sz 1 2 ?_
  refine reg_end rfl ?_
  refine wp_seq ?_
  refine sqN (S := ⟨[(0, .yld 2), (1, .ptr 1 0 0), (7, .ref 3 0 1), (3, .ref 3 0 1), (8, vI p0), (9, vI 0)], [oX true false 1 (.nils), oX true true 1 (vI p0), .loop 10 [(3, .ptr 0 0 0), (6, .fn (.func 95) [] [.ptr 1 0 0])] [7] (cA Try.f70 [true, true, false, true, true]) (cB Try.f70 [true, true, false, true, true]) .ready none, .row false false true true 1 [vI 1]], 47⟩) ?_
  refine wp_block ?_
  refine wp_while (σ := (Int × (List Int) × (List Int))) (ρ := ((List Int) × (List Int))) (n := fuel) (body := g_lift_binomial_b1 p0) (I := fun s1 => ⟨[(0, .yld 2), (3, .ref 4 0 s1.2.2.length), (8, vI p0), (9, vI s1.1)], [oX false false 1 (.ref 3 0 s1.2.1.length), oX true true 1 (vI p0), .loop 10 [(3, .ptr 0 0 0), (6, .fn (.func 95) [] [.ptr 1 0 0])] [7] (cA Try.f70 [true, true, false, true, true]) (cB Try.f70 [true, true, false, true, true]) .ready none, oR true 1 eI s1.2.1, oR true 1 eI s1.2.2], 47⟩) (Ex := fun v out => out = .go (.exit 0) ⟨[(0, .yld 2), (3, .ref 4 0 v.2.length)], [oX false false 1 (.ref 3 0 v.1.length), oX true true 1 (vI p0), .loop 10 [(3, .ptr 0 0 0), (6, .fn (.func 95) [] [.ptr 1 0 0])] [7] (cA Try.f70 [true, true, false, true, true]) (cB Try.f70 [true, true, false, true, true]) .ready none, oR true 1 eI v.1, oR true 1 eI v.2], 47⟩) (0, ([] : (List Int)), ([1] : (List Int))) (wk_trans (wk_gc (live := [0, 3, 8, 9]) (keep := [3]) (st' := ⟨[(0, .yld 2), (3, .ref 3 0 1), (8, vI p0), (9, vI 0)], [oX true false 1 (.nils), oX true true 1 (vI p0), .loop 10 [(3, .ptr 0 0 0), (6, .fn (.func 95) [] [.ptr 1 0 0])] [7] (cA Try.f70 [true, true, false, true, true]) (cB Try.f70 [true, true, false, true, true]) .ready none, .row false false true true 1 [vI 1]], 47⟩) (by kernel_rfl)) (wk_trans (wk_nilO 0 0 0 1 true true (st' := ⟨[(0, .yld 2), (3, .ref 3 0 1), (8, vI p0), (9, vI 0)], [oX false false 1 (.ref 4 0 0), oX true true 1 (vI p0), .loop 10 [(3, .ptr 0 0 0), (6, .fn (.func 95) [] [.ptr 1 0 0])] [7] (cA Try.f70 [true, true, false, true, true]) (cB Try.f70 [true, true, false, true, true]) .ready none, .row false false true true 1 [vI 1], .row false false true true 1 []], 47⟩) (by kernel_rfl)) (wk_gc (live := [0, 3, 8, 9]) (keep := [4, 3]) (st' := ⟨[(0, .yld 2), (3, .ref 4 0 (([1] : (List Int)).length)), (8, vI p0), (9, vI 0)], [oX false false 1 (.ref 3 0 (([] : (List Int)).length)), oX true true 1 (vI p0), .loop 10 [(3, .ptr 0 0 0), (6, .fn (.func 95) [] [.ptr 1 0 0])] [7] (cA Try.f70 [true, true, false, true, true]) (cB Try.f70 [true, true, false, true, true]) .ready none, oR true 1 eI ([] : (List Int)), oR true 1 eI ([1] : (List Int))], 47⟩) (by kernel_rfl)))) h ?_ ?_
  · intro s1 o h
    unfold g_lift_binomial_b1 at h
    refine sq ?_
    refine wp_seq ?_
    refine wbr (S := fun b2 => ⟨[(0, .yld 2), (3, .ref 4 0 s1.2.2.length), (8, vI p0), (9, vI s1.1), (10, vB b2)], [oX false false 1 (.ref 3 0 s1.2.1.length), oX true true 1 (vI p0), .loop 10 [(3, .ptr 0 0 0), (6, .fn (.func 95) [] [.ptr 1 0 0])] [7] (cA Try.f70 [true, true, false, true, true]) (cB Try.f70 [true, true, false, true, true]) .ready none, oR true 1 eI s1.2.1, oR true 1 eI s1.2.2], 47⟩) h (fun q3 h => ?_) (fun q3 h => ?_)
    · refine wp_condT rfl ?_
      refine wp_skip ?_
      refine wp_seq ?_
      refine wp_block ?_
      refine wp_seq ?_
      refine wp_seq ?_
      refine reg_in ?_
      refine sgz 2 2 (S := ⟨[(0, .yld 2), (3, .ref 4 0 s1.2.2.length), (8, vI p0), (9, vI s1.1), (10, vB true), (11, .yld 2), (12, .ref 4 0 s1.2.2.length)], [oX false false 1 (.ref 3 0 s1.2.1.length), oX true true 1 (vI p0), .loop 10 [(3, .ptr 0 0 0), (6, .fn (.func 95) [] [.ptr 1 0 0])] [7] (cA Try.f70 [true, true, false, true, true]) (cB Try.f70 [true, true, false, true, true]) .ready none, oR true 1 eI s1.2.1, oR true 1 eI s1.2.2], 47⟩) ?_
      refine yldR (l := 2) (nt := 10) (us := [.ref 4 0 s1.2.2.length]) (sl := [(3, .ptr 0 0 0), (6, .fn (.func 95) [] [.ptr 1 0 0])]) (ps := [7]) (assign := cA Try.f70 [true, true, false, true, true]) (body := cB Try.f70 [true, true, false, true, true]) (pe := none) (by kernel_rfl) rfl rfl ?_
      refine wp_eqB (base' := 5) (st' := ⟨[(3, .ptr 0 0 0), (6, .fn (.func 95) [] [.ptr 1 0 0]), (7, .ref 4 0 s1.2.2.length)], [oX false false 1 (.ref 3 0 s1.2.1.length), oX true true 1 (vI p0), .loop 10 [(3, .ptr 0 0 0), (6, .fn (.func 95) [] [.ptr 1 0 0])] [7] (cA Try.f70 [true, true, false, true, true]) (cB Try.f70 [true, true, false, true, true]) .ready none, oR true 1 eI s1.2.1, oR true 1 eI s1.2.2], 10⟩) rfl (by kernel_rfl) ?_
      refine rgN (S := ⟨[(3, .ptr 0 0 0), (6, .fn (.func 95) [] [.ptr 1 0 0]), (7, .ref 4 0 s1.2.2.length), (4, .ref 4 0 s1.2.2.length)], [oX false false 1 (.ref 3 0 s1.2.1.length), oX true true 1 (vI p0), .loop 10 [(3, .ptr 0 0 0), (6, .fn (.func 95) [] [.ptr 1 0 0])] [7] (cA Try.f70 [true, true, false, true, true]) (cB Try.f70 [true, true, false, true, true]) .ready none, oR true 1 eI s1.2.1, oR true 1 eI s1.2.2], 10⟩) ?_
      refine ⟨⟨[(3, .ptr 0 0 0), (6, .fn (.func 95) [] [.ptr 1 0 0]), (7, .ref 4 0 s1.2.2.length), (4, .ref 4 0 s1.2.2.length)], [oX false false 1 (.ref 3 0 s1.2.1.length), oX true true 1 (vI p0), .loop 10 [(3, .ptr 0 0 0), (6, .fn (.func 95) [] [.ptr 1 0 0])] [7] (cA Try.f70 [true, true, false, true, true]) (cB Try.f70 [true, true, false, true, true]) .busy none, oR true 1 eI s1.2.1, oR true 1 eI s1.2.2], 10⟩, by kernel_rfl, ?_⟩
      refine wp_block ?_
      refine rgN (S := ⟨[(3, .ptr 0 0 0), (6, .fn (.func 95) [] [.ptr 1 0 0]), (7, .ref 4 0 s1.2.2.length), (4, .ref 4 0 s1.2.2.length), (8, .ref 4 0 s1.2.2.length)], [oX false false 1 (.ref 4 0 s1.2.2.length), oX true true 1 (vI p0), .loop 10 [(3, .ptr 0 0 0), (6, .fn (.func 95) [] [.ptr 1 0 0])] [7] (cA Try.f70 [true, true, false, true, true]) (cB Try.f70 [true, true, false, true, true]) .busy none, oR true 1 eI s1.2.1, oR true 1 eI s1.2.2], 10⟩) ?_
      refine ⟨⟨[(0, .yld 2), (3, .ref 4 0 s1.2.2.length), (8, vI p0), (9, vI s1.1), (10, vB true), (11, .yld 2), (12, .ref 4 0 s1.2.2.length), (13, vB true)], [oX false false 1 (.ref 4 0 s1.2.2.length), oX true true 1 (vI p0), .loop 10 [(3, .ptr 0 0 0), (6, .fn (.func 95) [] [.ptr 1 0 0])] [7] (cA Try.f70 [true, true, false, true, true]) (cB Try.f70 [true, true, false, true, true]) .ready none, oR true 1 eI s1.2.1, oR true 1 eI s1.2.2], 47⟩, by kernel_rfl, ?_⟩
      refine sgz 1 4 (S := ⟨[(0, .yld 2), (3, .ref 4 0 s1.2.2.length), (8, vI p0), (9, vI s1.1), (10, vB true), (11, .yld 2), (12, .ref 4 0 s1.2.2.length), (13, vB true), (14, vB false)], [oX false false 1 (.ref 4 0 s1.2.2.length), oX true true 1 (vI p0), .loop 10 [(3, .ptr 0 0 0), (6, .fn (.func 95) [] [.ptr 1 0 0])] [7] (cA Try.f70 [true, true, false, true, true]) (cB Try.f70 [true, true, false, true, true]) .ready none, oR true 1 eI s1.2.1, oR true 1 eI s1.2.2], 47⟩) ?_
      refine reg_end rfl ?_
      refine wp_condF rfl ?_
      refine wp_skip ?_
      refine wp_seq ?_
      refine wg [0, 3, 8, 9] [4] ?_
      refine reg_in ?_
      refine sgz 3 3 (S := ⟨[(0, .yld 2), (3, .ref 3 0 s1.2.2.length), (8, vI p0), (9, vI s1.1), (15, .ref 3 0 s1.2.2.length), (16, vI (s1.2.2.length : Int)), (17, vI (IntKind.i64.wrap ((s1.2.2.length : Int) + 1)))], [oX false false 1 (.ref 3 0 s1.2.2.length), oX true true 1 (vI p0), .loop 10 [(3, .ptr 0 0 0), (6, .fn (.func 95) [] [.ptr 1 0 0])] [7] (cA Try.f70 [true, true, false, true, true]) (cB Try.f70 [true, true, false, true, true]) .ready none, oR true 1 eI s1.2.2], 47⟩) ?_
      refine mkL (enc := eI) (z := (0 : Int)) (z0 := vI 0) (n := IntKind.i64.wrap ((s1.2.2.length : Int) + 1)) (m := IntKind.i64.wrap ((s1.2.2.length : Int) + 1)) (w := 1) (bytes := 8) (S := ⟨[(0, .yld 2), (3, .ref 3 0 s1.2.2.length), (8, vI p0), (9, vI s1.1), (15, .ref 3 0 s1.2.2.length), (16, vI (s1.2.2.length : Int)), (17, vI (IntKind.i64.wrap ((s1.2.2.length : Int) + 1)))] ++ [(18, .ref 4 0 ((List.replicate (Int.toNat (IntKind.i64.wrap ((s1.2.2.length : Int) + 1))) (0 : Int)).length))], [oX false false 1 (.ref 3 0 s1.2.2.length), oX true true 1 (vI p0), .loop 10 [(3, .ptr 0 0 0), (6, .fn (.func 95) [] [.ptr 1 0 0])] [7] (cA Try.f70 [true, true, false, true, true]) (cB Try.f70 [true, true, false, true, true]) .ready none, oR true 1 eI s1.2.2, oR true 1 eI (List.replicate (Int.toNat (IntKind.i64.wrap ((s1.2.2.length : Int) + 1))) (0 : Int))], 47⟩) [] true (by kernel_rfl) rfl (by kernel_rfl) (by kernel_rfl) h (fun h => ?_)
      refine sz 1 5 ?_
      refine reg_end rfl ?_
      refine wp_seq ?_
      refine sqN (S := ⟨[(0, .yld 2), (3, .ref 3 0 s1.2.2.length), (8, vI p0), (9, vI s1.1), (15, .ref 3 0 s1.2.2.length), (16, vI (s1.2.2.length : Int)), (17, vI (IntKind.i64.wrap ((s1.2.2.length : Int) + 1)))] ++ [(18, .ref 4 0 ((List.replicate (Int.toNat (IntKind.i64.wrap ((s1.2.2.length : Int) + 1))) (0 : Int)).length)), (4, .ref 4 0 ((List.replicate (Int.toNat (IntKind.i64.wrap ((s1.2.2.length : Int) + 1))) (0 : Int)).length)), (19, .ref 3 0 s1.2.2.length), (20, vI (s1.2.2.length : Int)), (21, vI 0)], [oX false false 1 (.ref 3 0 s1.2.2.length), oX true true 1 (vI p0), .loop 10 [(3, .ptr 0 0 0), (6, .fn (.func 95) [] [.ptr 1 0 0])] [7] (cA Try.f70 [true, true, false, true, true]) (cB Try.f70 [true, true, false, true, true]) .ready none, oR true 1 eI s1.2.2, oR true 1 eI (List.replicate (Int.toNat (IntKind.i64.wrap ((s1.2.2.length : Int) + 1))) (0 : Int))], 47⟩) ?_
      refine wp_block ?_
      refine wp_while (σ := (Int × (List Int))) (ρ := (List Int)) (n := fuel) (body := g_lift_binomial_b0 s1) (I := fun s4 => ⟨(s70_44 s4 p0 s1), [oX false false 1 (.ref 3 0 s1.2.2.length), oX true true 1 (vI p0), .loop 10 [(3, .ptr 0 0 0), (6, .fn (.func 95) [] [.ptr 1 0 0])] [7] (cA Try.f70 [true, true, false, true, true]) (cB Try.f70 [true, true, false, true, true]) .ready none, oR true 1 eI s1.2.2, oR true 1 eI s4.2], 47⟩) (Ex := fun v out => out = .go (.exit 2) ⟨[(0, .yld 2), (4, .ref 4 0 v.length), (8, vI p0), (9, vI s1.1)], [oX false false 1 (.ref 3 0 s1.2.2.length), oX true true 1 (vI p0), .loop 10 [(3, .ptr 0 0 0), (6, .fn (.func 95) [] [.ptr 1 0 0])] [7] (cA Try.f70 [true, true, false, true, true]) (cB Try.f70 [true, true, false, true, true]) .ready none, oR true 1 eI s1.2.2, oR true 1 eI v], 47⟩) (0, (List.replicate (Int.toNat (IntKind.i64.wrap ((s1.2.2.length : Int) + 1))) (0 : Int))) (wk_gc (live := [0, 4, 8, 9, 19, 20, 21]) (keep := [3, 4]) (st' := ⟨[(0, .yld 2), (4, .ref 4 0 ((List.replicate (Int.toNat (IntKind.i64.wrap ((s1.2.2.length : Int) + 1))) (0 : Int)).length)), (8, vI p0), (9, vI s1.1)] ++ [(19, .ref 3 0 s1.2.2.length), (20, vI (s1.2.2.length : Int)), (21, vI 0)], [oX false false 1 (.ref 3 0 s1.2.2.length), oX true true 1 (vI p0), .loop 10 [(3, .ptr 0 0 0), (6, .fn (.func 95) [] [.ptr 1 0 0])] [7] (cA Try.f70 [true, true, false, true, true]) (cB Try.f70 [true, true, false, true, true]) .ready none, oR true 1 eI s1.2.2, oR true 1 eI (List.replicate (Int.toNat (IntKind.i64.wrap ((s1.2.2.length : Int) + 1))) (0 : Int))], 47⟩) (by kernel_rfl)) h ?_ ?_
      · intro s4 o h
        unfold g_lift_binomial_b0 at h
        refine sq ?_
        refine wp_seq ?_
        refine wbr (S := fun b5 => ⟨(s70_44 s4 p0 s1) ++ [(22, vB b5)], [oX false false 1 (.ref 3 0 s1.2.2.length), oX true true 1 (vI p0), .loop 10 [(3, .ptr 0 0 0), (6, .fn (.func 95) [] [.ptr 1 0 0])] [7] (cA Try.f70 [true, true, false, true, true]) (cB Try.f70 [true, true, false, true, true]) .ready none, oR true 1 eI s1.2.2, oR true 1 eI s4.2], 47⟩) h (fun q6 h => ?_) (fun q6 h => ?_)
        · refine wp_condT rfl ?_
          refine wp_skip ?_
          refine wp_seq ?_
          refine wp_block ?_
          refine wp_seq ?_
          refine reg_in ?_
          refine sgz 1 1 (S := ⟨(s70_44 s4 p0 s1) ++ [(22, vB true), (23, vI s4.1)], [oX false false 1 (.ref 3 0 s1.2.2.length), oX true true 1 (vI p0), .loop 10 [(3, .ptr 0 0 0), (6, .fn (.func 95) [] [.ptr 1 0 0])] [7] (cA Try.f70 [true, true, false, true, true]) (cB Try.f70 [true, true, false, true, true]) .ready none, oR true 1 eI s1.2.2, oR true 1 eI s4.2], 47⟩) ?_
          refine bind_elim h (fun a7 q8 h => ?_)
          refine idxR' (enc := eI) (l := s1.2.2) (n := s4.1) (w := 1) (ob := 3) (a := a7) (S := ⟨(s70_44 s4 p0 s1) ++ [(22, vB true), (23, vI s4.1), (24, .ptr 3 (Int.toNat s4.1) 0)], [oX false false 1 (.ref 3 0 s1.2.2.length), oX true true 1 (vI p0), .loop 10 [(3, .ptr 0 0 0), (6, .fn (.func 95) [] [.ptr 1 0 0])] [7] (cA Try.f70 [true, true, false, true, true]) (cB Try.f70 [true, true, false, true, true]) .ready none, oR true 1 eI s1.2.2, oR true 1 eI s4.2], 47⟩) (by kernel_rfl) rfl (by kernel_rfl) q8 ?_
          refine loadR (enc := eI) (l := s1.2.2) (n := s4.1) (ob := 3) (c := 0) (a := a7) (S := ⟨(s70_44 s4 p0 s1) ++ [(22, vB true), (23, vI s4.1), (24, .ptr 3 (Int.toNat s4.1) 0), (25, vI a7)], [oX false false 1 (.ref 3 0 s1.2.2.length), oX true true 1 (vI p0), .loop 10 [(3, .ptr 0 0 0), (6, .fn (.func 95) [] [.ptr 1 0 0])] [7] (cA Try.f70 [true, true, false, true, true]) (cB Try.f70 [true, true, false, true, true]) .ready none, oR true 1 eI s1.2.2, oR true 1 eI s4.2], 47⟩) (by kernel_rfl) rfl q8 (by kernel_rfl) ?_
          refine sz 2 5 ?_
          refine reg_end rfl ?_
          refine wp_seq ?_
          refine reg_in ?_
          refine sgz 2 2 (S := ⟨(s70_44 s4 p0 s1) ++ [(22, vB true), (23, vI s4.1), (24, .ptr 3 (Int.toNat s4.1) 0), (25, vI a7), (5, vI s4.1), (6, vI a7), (26, .ref 4 0 s4.2.length), (27, vI s4.1)], [oX false false 1 (.ref 3 0 s1.2.2.length), oX true true 1 (vI p0), .loop 10 [(3, .ptr 0 0 0), (6, .fn (.func 95) [] [.ptr 1 0 0])] [7] (cA Try.f70 [true, true, false, true, true]) (cB Try.f70 [true, true, false, true, true]) .ready none, oR true 1 eI s1.2.2, oR true 1 eI s4.2], 47⟩) ?_
          refine bind_elim h (fun a9 q10 h => ?_)
          refine idxR' (enc := eI) (l := s4.2) (n := s4.1) (w := 1) (ob := 4) (a := a9) (S := ⟨(s70_44 s4 p0 s1) ++ [(22, vB true), (23, vI s4.1), (24, .ptr 3 (Int.toNat s4.1) 0), (25, vI a7), (5, vI s4.1), (6, vI a7), (26, .ref 4 0 s4.2.length), (27, vI s4.1), (28, .ptr 4 (Int.toNat s4.1) 0)], [oX false false 1 (.ref 3 0 s1.2.2.length), oX true true 1 (vI p0), .loop 10 [(3, .ptr 0 0 0), (6, .fn (.func 95) [] [.ptr 1 0 0])] [7] (cA Try.f70 [true, true, false, true, true]) (cB Try.f70 [true, true, false, true, true]) .ready none, oR true 1 eI s1.2.2, oR true 1 eI s4.2], 47⟩) (by kernel_rfl) rfl (by kernel_rfl) q10 ?_
          refine loadR (enc := eI) (l := s4.2) (n := s4.1) (ob := 4) (c := 0) (a := a9) (S := ⟨(s70_44 s4 p0 s1) ++ [(22, vB true), (23, vI s4.1), (24, .ptr 3 (Int.toNat s4.1) 0), (25, vI a7), (5, vI s4.1), (6, vI a7), (26, .ref 4 0 s4.2.length), (27, vI s4.1), (28, .ptr 4 (Int.toNat s4.1) 0), (29, vI a9)], [oX false false 1 (.ref 3 0 s1.2.2.length), oX true true 1 (vI p0), .loop 10 [(3, .ptr 0 0 0), (6, .fn (.func 95) [] [.ptr 1 0 0])] [7] (cA Try.f70 [true, true, false, true, true]) (cB Try.f70 [true, true, false, true, true]) .ready none, oR true 1 eI s1.2.2, oR true 1 eI s4.2], 47⟩) (by kernel_rfl) rfl q10 (by kernel_rfl) ?_
          refine sgz 2 6 (S := ⟨(s70_44 s4 p0 s1) ++ [(22, vB true), (23, vI s4.1), (24, .ptr 3 (Int.toNat s4.1) 0), (25, vI a7), (5, vI s4.1), (6, vI a7), (26, .ref 4 0 s4.2.length), (27, vI s4.1), (28, .ptr 4 (Int.toNat s4.1) 0), (29, vI a9), (30, vI a7), (31, vI (IntKind.i64.wrap (a9 + a7)))], [oX false false 1 (.ref 3 0 s1.2.2.length), oX true true 1 (vI p0), .loop 10 [(3, .ptr 0 0 0), (6, .fn (.func 95) [] [.ptr 1 0 0])] [7] (cA Try.f70 [true, true, false, true, true]) (cB Try.f70 [true, true, false, true, true]) .ready none, oR true 1 eI s1.2.2, oR true 1 eI s4.2], 47⟩) ?_
          refine idxR' (enc := eI) (l := s4.2) (n := s4.1) (w := 1) (ob := 4) (a := a9) (S := ⟨(s70_44 s4 p0 s1) ++ [(22, vB true), (23, vI s4.1), (24, .ptr 3 (Int.toNat s4.1) 0), (25, vI a7), (5, vI s4.1), (6, vI a7), (26, .ref 4 0 s4.2.length), (27, vI s4.1), (28, .ptr 4 (Int.toNat s4.1) 0), (29, vI a9), (30, vI a7), (31, vI (IntKind.i64.wrap (a9 + a7)))] ++ [(32, .ptr 4 (Int.toNat s4.1) 0)], [oX false false 1 (.ref 3 0 s1.2.2.length), oX true true 1 (vI p0), .loop 10 [(3, .ptr 0 0 0), (6, .fn (.func 95) [] [.ptr 1 0 0])] [7] (cA Try.f70 [true, true, false, true, true]) (cB Try.f70 [true, true, false, true, true]) .ready none, oR true 1 eI s1.2.2, oR true 1 eI s4.2], 47⟩) (by kernel_rfl) rfl (by kernel_rfl) q10 ?_
          refine storeR (enc := eI) (l := s4.2) (n := s4.1) (ob := 4) (c := 0) (a := a9) (a' := IntKind.i64.wrap (a9 + a7)) (v := vI (IntKind.i64.wrap (a9 + a7))) (S := ⟨(s70_44 s4 p0 s1) ++ [(22, vB true), (23, vI s4.1), (24, .ptr 3 (Int.toNat s4.1) 0), (25, vI a7), (5, vI s4.1), (6, vI a7), (26, .ref 4 0 s4.2.length), (27, vI s4.1), (28, .ptr 4 (Int.toNat s4.1) 0), (29, vI a9), (30, vI a7), (31, vI (IntKind.i64.wrap (a9 + a7)))] ++ [(32, .ptr 4 (Int.toNat s4.1) 0)], [oX false false 1 (.ref 3 0 s1.2.2.length), oX true true 1 (vI p0), .loop 10 [(3, .ptr 0 0 0), (6, .fn (.func 95) [] [.ptr 1 0 0])] [7] (cA Try.f70 [true, true, false, true, true]) (cB Try.f70 [true, true, false, true, true]) .ready none, oR true 1 eI s1.2.2, oR true 1 eI (List.set s4.2 (Int.toNat s4.1) (IntKind.i64.wrap (a9 + a7)))], 47⟩) false (by kernel_rfl) rfl q10 (by kernel_rfl) rfl (by kernel_rfl) (by kernel_rfl) (by kernel_rfl) ?_
          refine rw_knN (n := s4.2.length) (m := (List.set s4.2 (Int.toNat s4.1) (IntKind.i64.wrap (a9 + a7))).length) (S := fun n16 => ⟨[(0, .yld 2), (4, .ref 4 0 n16), (8, vI p0), (9, vI s1.1), (19, .ref 3 0 s1.2.2.length), (20, vI (s1.2.2.length : Int)), (21, vI s4.1), (22, vB true), (23, vI s4.1), (24, .ptr 3 (Int.toNat s4.1) 0), (25, vI a7), (5, vI s4.1), (6, vI a7), (26, .ref 4 0 n16), (27, vI s4.1), (28, .ptr 4 (Int.toNat s4.1) 0), (29, vI a9), (30, vI a7), (31, vI (IntKind.i64.wrap (a9 + a7))), (32, .ptr 4 (Int.toNat s4.1) 0)], [oX false false 1 (.ref 3 0 s1.2.2.length), oX true true 1 (vI p0), .loop 10 [(3, .ptr 0 0 0), (6, .fn (.func 95) [] [.ptr 1 0 0])] [7] (cA Try.f70 [true, true, false, true, true]) (cB Try.f70 [true, true, false, true, true]) .ready none, oR true 1 eI s1.2.2, oR true 1 eI (List.set s4.2 (Int.toNat s4.1) (IntKind.i64.wrap (a9 + a7)))], 47⟩) (by simp only [List.length_set]) ?_
          refine reg_end rfl ?_
          refine wg [0, 4, 8, 9, 19, 20, 21, 5, 6] [3, 4] ?_
          refine reg_in ?_
          refine sgz 3 3 (S := ⟨[(0, .yld 2), (4, .ref 4 0 ((List.set s4.2 (Int.toNat s4.1) (IntKind.i64.wrap (a9 + a7))).length)), (8, vI p0), (9, vI s1.1), (19, .ref 3 0 s1.2.2.length), (20, vI (s1.2.2.length : Int)), (21, vI s4.1), (5, vI s4.1), (6, vI a7)] ++ [(33, .ref 4 0 ((List.set s4.2 (Int.toNat s4.1) (IntKind.i64.wrap (a9 + a7))).length)), (34, vI s4.1), (35, vI (IntKind.i64.wrap (s4.1 + 1)))], [oX false false 1 (.ref 3 0 s1.2.2.length), oX true true 1 (vI p0), .loop 10 [(3, .ptr 0 0 0), (6, .fn (.func 95) [] [.ptr 1 0 0])] [7] (cA Try.f70 [true, true, false, true, true]) (cB Try.f70 [true, true, false, true, true]) .ready none, oR true 1 eI s1.2.2, oR true 1 eI (List.set s4.2 (Int.toNat s4.1) (IntKind.i64.wrap (a9 + a7)))], 47⟩) ?_
          refine bind_elim h (fun a11 q12 h => ?_)
          refine idxR' (enc := eI) (l := (List.set s4.2 (Int.toNat s4.1) (IntKind.i64.wrap (a9 + a7)))) (n := IntKind.i64.wrap (s4.1 + 1)) (w := 1) (ob := 4) (a := a11) (S := ⟨[(0, .yld 2), (4, .ref 4 0 ((List.set s4.2 (Int.toNat s4.1) (IntKind.i64.wrap (a9 + a7))).length)), (8, vI p0), (9, vI s1.1), (19, .ref 3 0 s1.2.2.length), (20, vI (s1.2.2.length : Int)), (21, vI s4.1), (5, vI s4.1), (6, vI a7)] ++ [(33, .ref 4 0 ((List.set s4.2 (Int.toNat s4.1) (IntKind.i64.wrap (a9 + a7))).length)), (34, vI s4.1), (35, vI (IntKind.i64.wrap (s4.1 + 1))), (36, .ptr 4 (Int.toNat (IntKind.i64.wrap (s4.1 + 1))) 0)], [oX false false 1 (.ref 3 0 s1.2.2.length), oX true true 1 (vI p0), .loop 10 [(3, .ptr 0 0 0), (6, .fn (.func 95) [] [.ptr 1 0 0])] [7] (cA Try.f70 [true, true, false, true, true]) (cB Try.f70 [true, true, false, true, true]) .ready none, oR true 1 eI s1.2.2, oR true 1 eI (List.set s4.2 (Int.toNat s4.1) (IntKind.i64.wrap (a9 + a7)))], 47⟩) (by kernel_rfl) rfl (by kernel_rfl) q12 ?_
          refine loadR (enc := eI) (l := (List.set s4.2 (Int.toNat s4.1) (IntKind.i64.wrap (a9 + a7)))) (n := IntKind.i64.wrap (s4.1 + 1)) (ob := 4) (c := 0) (a := a11) (S := ⟨[(0, .yld 2), (4, .ref 4 0 ((List.set s4.2 (Int.toNat s4.1) (IntKind.i64.wrap (a9 + a7))).length)), (8, vI p0), (9, vI s1.1), (19, .ref 3 0 s1.2.2.length), (20, vI (s1.2.2.length : Int)), (21, vI s4.1), (5, vI s4.1), (6, vI a7)] ++ [(33, .ref 4 0 ((List.set s4.2 (Int.toNat s4.1) (IntKind.i64.wrap (a9 + a7))).length)), (34, vI s4.1), (35, vI (IntKind.i64.wrap (s4.1 + 1))), (36, .ptr 4 (Int.toNat (IntKind.i64.wrap (s4.1 + 1))) 0), (37, vI a11)], [oX false false 1 (.ref 3 0 s1.2.2.length), oX true true 1 (vI p0), .loop 10 [(3, .ptr 0 0 0), (6, .fn (.func 95) [] [.ptr 1 0 0])] [7] (cA Try.f70 [true, true, false, true, true]) (cB Try.f70 [true, true, false, true, true]) .ready none, oR true 1 eI s1.2.2, oR true 1 eI (List.set s4.2 (Int.toNat s4.1) (IntKind.i64.wrap (a9 + a7)))], 47⟩) (by kernel_rfl) rfl q12 (by kernel_rfl) ?_
          refine sgz 2 7 (S := ⟨[(0, .yld 2), (4, .ref 4 0 ((List.set s4.2 (Int.toNat s4.1) (IntKind.i64.wrap (a9 + a7))).length)), (8, vI p0), (9, vI s1.1), (19, .ref 3 0 s1.2.2.length), (20, vI (s1.2.2.length : Int)), (21, vI s4.1), (5, vI s4.1), (6, vI a7)] ++ [(33, .ref 4 0 ((List.set s4.2 (Int.toNat s4.1) (IntKind.i64.wrap (a9 + a7))).length)), (34, vI s4.1), (35, vI (IntKind.i64.wrap (s4.1 + 1))), (36, .ptr 4 (Int.toNat (IntKind.i64.wrap (s4.1 + 1))) 0), (37, vI a11), (38, vI a7), (39, vI (IntKind.i64.wrap (a11 + a7)))], [oX false false 1 (.ref 3 0 s1.2.2.length), oX true true 1 (vI p0), .loop 10 [(3, .ptr 0 0 0), (6, .fn (.func 95) [] [.ptr 1 0 0])] [7] (cA Try.f70 [true, true, false, true, true]) (cB Try.f70 [true, true, false, true, true]) .ready none, oR true 1 eI s1.2.2, oR true 1 eI (List.set s4.2 (Int.toNat s4.1) (IntKind.i64.wrap (a9 + a7)))], 47⟩) ?_
          refine idxR' (enc := eI) (l := (List.set s4.2 (Int.toNat s4.1) (IntKind.i64.wrap (a9 + a7)))) (n := IntKind.i64.wrap (s4.1 + 1)) (w := 1) (ob := 4) (a := a11) (S := ⟨[(0, .yld 2), (4, .ref 4 0 ((List.set s4.2 (Int.toNat s4.1) (IntKind.i64.wrap (a9 + a7))).length)), (8, vI p0), (9, vI s1.1), (19, .ref 3 0 s1.2.2.length), (20, vI (s1.2.2.length : Int)), (21, vI s4.1), (5, vI s4.1), (6, vI a7)] ++ [(33, .ref 4 0 ((List.set s4.2 (Int.toNat s4.1) (IntKind.i64.wrap (a9 + a7))).length)), (34, vI s4.1), (35, vI (IntKind.i64.wrap (s4.1 + 1))), (36, .ptr 4 (Int.toNat (IntKind.i64.wrap (s4.1 + 1))) 0), (37, vI a11), (38, vI a7), (39, vI (IntKind.i64.wrap (a11 + a7)))] ++ [(40, .ptr 4 (Int.toNat (IntKind.i64.wrap (s4.1 + 1))) 0)], [oX false false 1 (.ref 3 0 s1.2.2.length), oX true true 1 (vI p0), .loop 10 [(3, .ptr 0 0 0), (6, .fn (.func 95) [] [.ptr 1 0 0])] [7] (cA Try.f70 [true, true, false, true, true]) (cB Try.f70 [true, true, false, true, true]) .ready none, oR true 1 eI s1.2.2, oR true 1 eI (List.set s4.2 (Int.toNat s4.1) (IntKind.i64.wrap (a9 + a7)))], 47⟩) (by kernel_rfl) rfl (by kernel_rfl) q12 ?_
          refine bind_elim h (fun a13 q14 h => ?_)
          refine storeR (enc := eI) (l := (List.set s4.2 (Int.toNat s4.1) (IntKind.i64.wrap (a9 + a7)))) (n := (IntKind.i64.wrap (s4.1 + 1))) (ob := 4) (c := 0) (a := a13) (a' := IntKind.i64.wrap (a11 + a7)) (v := vI (IntKind.i64.wrap (a11 + a7))) (S := ⟨[(0, .yld 2), (4, .ref 4 0 ((List.set s4.2 (Int.toNat s4.1) (IntKind.i64.wrap (a9 + a7))).length)), (8, vI p0), (9, vI s1.1), (19, .ref 3 0 s1.2.2.length), (20, vI (s1.2.2.length : Int)), (21, vI s4.1), (5, vI s4.1), (6, vI a7)] ++ [(33, .ref 4 0 ((List.set s4.2 (Int.toNat s4.1) (IntKind.i64.wrap (a9 + a7))).length)), (34, vI s4.1), (35, vI (IntKind.i64.wrap (s4.1 + 1))), (36, .ptr 4 (Int.toNat (IntKind.i64.wrap (s4.1 + 1))) 0), (37, vI a11), (38, vI a7), (39, vI (IntKind.i64.wrap (a11 + a7)))] ++ [(40, .ptr 4 (Int.toNat (IntKind.i64.wrap (s4.1 + 1))) 0)], [oX false false 1 (.ref 3 0 s1.2.2.length), oX true true 1 (vI p0), .loop 10 [(3, .ptr 0 0 0), (6, .fn (.func 95) [] [.ptr 1 0 0])] [7] (cA Try.f70 [true, true, false, true, true]) (cB Try.f70 [true, true, false, true, true]) .ready none, oR true 1 eI s1.2.2, oR true 1 eI (List.set (List.set s4.2 (Int.toNat s4.1) (IntKind.i64.wrap (a9 + a7))) (Int.toNat (IntKind.i64.wrap (s4.1 + 1))) (IntKind.i64.wrap (a11 + a7)))], 47⟩) false (by kernel_rfl) rfl q14 (by kernel_rfl) rfl (by kernel_rfl) (by kernel_rfl) (by kernel_rfl) ?_
          refine rw_knN (n := (List.set s4.2 (Int.toNat s4.1) (IntKind.i64.wrap (a9 + a7))).length) (m := (List.set (List.set s4.2 (Int.toNat s4.1) (IntKind.i64.wrap (a9 + a7))) (Int.toNat (IntKind.i64.wrap (s4.1 + 1))) (IntKind.i64.wrap (a11 + a7))).length) (S := fun n15 => ⟨[(0, .yld 2), (4, .ref 4 0 n15), (8, vI p0), (9, vI s1.1), (19, .ref 3 0 s1.2.2.length), (20, vI (s1.2.2.length : Int)), (21, vI s4.1), (5, vI s4.1), (6, vI a7), (33, .ref 4 0 n15), (34, vI s4.1), (35, vI (IntKind.i64.wrap (s4.1 + 1))), (36, .ptr 4 (Int.toNat (IntKind.i64.wrap (s4.1 + 1))) 0), (37, vI a11), (38, vI a7), (39, vI (IntKind.i64.wrap (a11 + a7))), (40, .ptr 4 (Int.toNat (IntKind.i64.wrap (s4.1 + 1))) 0)], [oX false false 1 (.ref 3 0 s1.2.2.length), oX true true 1 (vI p0), .loop 10 [(3, .ptr 0 0 0), (6, .fn (.func 95) [] [.ptr 1 0 0])] [7] (cA Try.f70 [true, true, false, true, true]) (cB Try.f70 [true, true, false, true, true]) .ready none, oR true 1 eI s1.2.2, oR true 1 eI (List.set (List.set s4.2 (Int.toNat s4.1) (IntKind.i64.wrap (a9 + a7))) (Int.toNat (IntKind.i64.wrap (s4.1 + 1))) (IntKind.i64.wrap (a11 + a7)))], 47⟩) (by simp only [List.length_set]) ?_
          refine reg_end rfl ?_
          refine wg [0, 4, 8, 9, 19, 20, 21] [3, 4] ?_
          refine rgN (S := ⟨[(0, .yld 2), (4, .ref 4 0 ((List.set (List.set s4.2 (Int.toNat s4.1) (IntKind.i64.wrap (a9 + a7))) (Int.toNat (IntKind.i64.wrap (s4.1 + 1))) (IntKind.i64.wrap (a11 + a7))).length)), (8, vI p0), (9, vI s1.1), (19, .ref 3 0 s1.2.2.length), (20, vI (s1.2.2.length : Int)), (21, vI (IntKind.i64.wrap (s4.1 + 1)))] ++ [(41, vI (IntKind.i64.wrap (s4.1 + 1)))], [oX false false 1 (.ref 3 0 s1.2.2.length), oX true true 1 (vI p0), .loop 10 [(3, .ptr 0 0 0), (6, .fn (.func 95) [] [.ptr 1 0 0])] [7] (cA Try.f70 [true, true, false, true, true]) (cB Try.f70 [true, true, false, true, true]) .ready none, oR true 1 eI s1.2.2, oR true 1 eI (List.set (List.set s4.2 (Int.toNat s4.1) (IntKind.i64.wrap (a9 + a7))) (Int.toNat (IntKind.i64.wrap (s4.1 + 1))) (IntKind.i64.wrap (a11 + a7)))], 47⟩) ?_
          cases h
          exact ⟨_, rfl, (wk_gc (live := [0, 4, 8, 9, 19, 20, 21]) (keep := [3, 4]) (st' := ⟨[(0, .yld 2), (4, .ref 4 0 ((List.set (List.set s4.2 (Int.toNat s4.1) (IntKind.i64.wrap (a9 + a7))) (Int.toNat (IntKind.i64.wrap (s4.1 + 1))) (IntKind.i64.wrap (a11 + a7))).length)), (8, vI p0), (9, vI s1.1), (19, .ref 3 0 s1.2.2.length), (20, vI (s1.2.2.length : Int)), (21, vI (IntKind.i64.wrap (s4.1 + 1)))], [oX false false 1 (.ref 3 0 s1.2.2.length), oX true true 1 (vI p0), .loop 10 [(3, .ptr 0 0 0), (6, .fn (.func 95) [] [.ptr 1 0 0])] [7] (cA Try.f70 [true, true, false, true, true]) (cB Try.f70 [true, true, false, true, true]) .ready none, oR true 1 eI s1.2.2, oR true 1 eI (List.set (List.set s4.2 (Int.toNat s4.1) (IntKind.i64.wrap (a9 + a7))) (Int.toNat (IntKind.i64.wrap (s4.1 + 1))) (IntKind.i64.wrap (a11 + a7)))], 47⟩) (by kernel_rfl))⟩
        refine wp_condF rfl ?_
        refine wgc [0, 4, 8, 9] [3, 4] ⟨[(0, .yld 2), (4, .ref 4 0 s4.2.length), (8, vI p0), (9, vI s1.1)], [oX false false 1 (.ref 3 0 s1.2.2.length), oX true true 1 (vI p0), .loop 10 [(3, .ptr 0 0 0), (6, .fn (.func 95) [] [.ptr 1 0 0])] [7] (cA Try.f70 [true, true, false, true, true]) (cB Try.f70 [true, true, false, true, true]) .ready none, oR true 1 eI s1.2.2, oR true 1 eI s4.2], 47⟩ ?_
        refine wp_exit ?_
        cases h
        exact ⟨rfl, rfl⟩
      intro x18 h out hx
      subst hx
      refine rn ?_
      refine rgN (S := ⟨[(0, .yld 2), (4, .ref 4 0 x18.length), (8, vI p0), (9, vI (IntKind.i64.wrap (s1.1 + 1))), (42, .ref 4 0 x18.length), (3, .ref 4 0 x18.length), (43, vI (IntKind.i64.wrap (s1.1 + 1)))], [oX false false 1 (.ref 3 0 s1.2.2.length), oX true true 1 (vI p0), .loop 10 [(3, .ptr 0 0 0), (6, .fn (.func 95) [] [.ptr 1 0 0])] [7] (cA Try.f70 [true, true, false, true, true]) (cB Try.f70 [true, true, false, true, true]) .ready none, oR true 1 eI s1.2.2, oR true 1 eI x18], 47⟩) ?_
      cases h
      exact ⟨_, rfl, (wk_gc (live := [0, 3, 8, 9]) (keep := [3, 4]) (st' := ⟨[(0, .yld 2), (3, .ref 4 0 x18.length), (8, vI p0), (9, vI (IntKind.i64.wrap (s1.1 + 1)))], [oX false false 1 (.ref 3 0 s1.2.2.length), oX true true 1 (vI p0), .loop 10 [(3, .ptr 0 0 0), (6, .fn (.func 95) [] [.ptr 1 0 0])] [7] (cA Try.f70 [true, true, false, true, true]) (cB Try.f70 [true, true, false, true, true]) .ready none, oR true 1 eI s1.2.2, oR true 1 eI x18], 47⟩) (by kernel_rfl))⟩
    refine wp_condF rfl ?_
    refine wgc [0, 3] [3, 4] ⟨[(0, .yld 2), (3, .ref 4 0 s1.2.2.length)], [oX false false 1 (.ref 3 0 s1.2.1.length), oX true true 1 (vI p0), .loop 10 [(3, .ptr 0 0 0), (6, .fn (.func 95) [] [.ptr 1 0 0])] [7] (cA Try.f70 [true, true, false, true, true]) (cB Try.f70 [true, true, false, true, true]) .ready none, oR true 1 eI s1.2.1, oR true 1 eI s1.2.2], 47⟩ ?_
    refine wp_exit ?_
    cases h
    exact ⟨rfl, rfl⟩
  intro x20 h out hx
  subst hx
  refine reg_in ?_
  refine sgz 2 2 (S := ⟨[(0, .yld 2), (3, .ref 4 0 x20.2.length), (44, .yld 2), (45, .ref 4 0 x20.2.length)], [oX false false 1 (.ref 3 0 x20.1.length), oX true true 1 (vI p0), .loop 10 [(3, .ptr 0 0 0), (6, .fn (.func 95) [] [.ptr 1 0 0])] [7] (cA Try.f70 [true, true, false, true, true]) (cB Try.f70 [true, true, false, true, true]) .ready none, oR true 1 eI x20.1, oR true 1 eI x20.2], 47⟩) ?_
  refine yldR (l := 2) (nt := 10) (us := [.ref 4 0 x20.2.length]) (sl := [(3, .ptr 0 0 0), (6, .fn (.func 95) [] [.ptr 1 0 0])]) (ps := [7]) (assign := cA Try.f70 [true, true, false, true, true]) (body := cB Try.f70 [true, true, false, true, true]) (pe := none) (by kernel_rfl) rfl rfl ?_
  refine wp_eqB (base' := 5) (st' := ⟨[(3, .ptr 0 0 0), (6, .fn (.func 95) [] [.ptr 1 0 0]), (7, .ref 4 0 x20.2.length)], [oX false false 1 (.ref 3 0 x20.1.length), oX true true 1 (vI p0), .loop 10 [(3, .ptr 0 0 0), (6, .fn (.func 95) [] [.ptr 1 0 0])] [7] (cA Try.f70 [true, true, false, true, true]) (cB Try.f70 [true, true, false, true, true]) .ready none, oR true 1 eI x20.1, oR true 1 eI x20.2], 10⟩) rfl (by kernel_rfl) ?_
  refine rgN (S := ⟨[(3, .ptr 0 0 0), (6, .fn (.func 95) [] [.ptr 1 0 0]), (7, .ref 4 0 x20.2.length), (4, .ref 4 0 x20.2.length)], [oX false false 1 (.ref 3 0 x20.1.length), oX true true 1 (vI p0), .loop 10 [(3, .ptr 0 0 0), (6, .fn (.func 95) [] [.ptr 1 0 0])] [7] (cA Try.f70 [true, true, false, true, true]) (cB Try.f70 [true, true, false, true, true]) .ready none, oR true 1 eI x20.1, oR true 1 eI x20.2], 10⟩) ?_
  refine ⟨⟨[(3, .ptr 0 0 0), (6, .fn (.func 95) [] [.ptr 1 0 0]), (7, .ref 4 0 x20.2.length), (4, .ref 4 0 x20.2.length)], [oX false false 1 (.ref 3 0 x20.1.length), oX true true 1 (vI p0), .loop 10 [(3, .ptr 0 0 0), (6, .fn (.func 95) [] [.ptr 1 0 0])] [7] (cA Try.f70 [true, true, false, true, true]) (cB Try.f70 [true, true, false, true, true]) .busy none, oR true 1 eI x20.1, oR true 1 eI x20.2], 10⟩, by kernel_rfl, ?_⟩
  refine wp_block ?_
  refine rgN (S := ⟨[(3, .ptr 0 0 0), (6, .fn (.func 95) [] [.ptr 1 0 0]), (7, .ref 4 0 x20.2.length), (4, .ref 4 0 x20.2.length), (8, .ref 4 0 x20.2.length)], [oX false false 1 (.ref 4 0 x20.2.length), oX true true 1 (vI p0), .loop 10 [(3, .ptr 0 0 0), (6, .fn (.func 95) [] [.ptr 1 0 0])] [7] (cA Try.f70 [true, true, false, true, true]) (cB Try.f70 [true, true, false, true, true]) .busy none, oR true 1 eI x20.1, oR true 1 eI x20.2], 10⟩) ?_
  refine ⟨⟨[(0, .yld 2), (3, .ref 4 0 x20.2.length), (44, .yld 2), (45, .ref 4 0 x20.2.length), (46, vB true)], [oX false false 1 (.ref 4 0 x20.2.length), oX true true 1 (vI p0), .loop 10 [(3, .ptr 0 0 0), (6, .fn (.func 95) [] [.ptr 1 0 0])] [7] (cA Try.f70 [true, true, false, true, true]) (cB Try.f70 [true, true, false, true, true]) .ready none, oR true 1 eI x20.1, oR true 1 eI x20.2], 47⟩, by kernel_rfl, ?_⟩
  refine reg_end rfl ?_
  refine ⟨.go .normal ⟨[(3, .ptr 0 0 0), (6, .fn (.func 95) [] [.ptr 1 0 0])], [oX false false 1 (.ref 4 0 x20.2.length), oX true true 1 (vI p0), .dead, oR true 1 eI x20.1, oR true 1 eI x20.2], 10⟩, by kernel_rfl, ?_⟩
  refine sq ?_
  refine wg [2] [4] ?_
  refine wp_ret ?_
  cases h
  show fnOut _ _ _ _ = _
  kernel_rfl
theorem g_weigh_Whole_ok (p0 : Int) (p1 : Int) (x : Int) (h : g_weigh_Whole p0 p1 = some x) : CallOk Try.prog 45 [vI p0, vI p1] (.ret (vI x) []) := by
  refine fn_ok [] Try.func45 rfl (by decide +kernel) rfl ?_
  unfold g_weigh_Whole at h
  refine wp_eqB (base' := 0) (st' := ⟨[(0, vI p0), (1, vI p1)], [], 14⟩) rfl (by kernel_rfl) ?_
  refine sq ?_
  refine sq ?_
  refine wp_seq ?_
  refine sqN (S := ⟨[(0, vI p0), (1, vI p1), (4, vI 0), (5, vI 1), (6, vI p1), (7, vI 0)], [], 14⟩) ?_
  refine wp_block ?_
  refine wp_while (σ := (Int × Int)) (ρ := Int) (n := fuel) (body := g_weigh_Whole_b0 p1 p0) (I := fun s1 => ⟨[(0, vI p0), (5, vI s1.1), (6, vI p1), (7, vI s1.2)], [], 14⟩) (Ex := fun v out => out = .go (.exit 0) ⟨[(5, vI v)], [], 14⟩) (1, 0) (wk_gc (live := [0, 5, 6, 7]) (keep := []) (st' := ⟨[(0, vI p0), (5, vI 1), (6, vI p1), (7, vI 0)], [], 14⟩) (by kernel_rfl)) h ?_ ?_
  · intro s1 o h
    unfold g_weigh_Whole_b0 at h
    refine sq ?_
    refine wp_seq ?_
    refine wbr (S := fun b2 => ⟨[(0, vI p0), (5, vI s1.1), (6, vI p1), (7, vI s1.2), (8, vB b2)], [], 14⟩) h (fun q3 h => ?_) (fun q3 h => ?_)
    · refine wp_condT rfl ?_
      refine wp_skip ?_
      refine wp_seq ?_
      refine wp_block ?_
      refine rn ?_
      refine rgN (S := ⟨[(0, vI p0), (5, vI (IntKind.i64.wrap (s1.1 * p0))), (6, vI p1), (7, vI (IntKind.i64.wrap (s1.2 + 1))), (8, vB true), (9, vI s1.1), (10, vI p0), (11, vI (IntKind.i64.wrap (s1.1 * p0))), (12, vI (IntKind.i64.wrap (s1.2 + 1)))], [], 14⟩) ?_
      cases h
      exact ⟨_, rfl, (wk_gc (live := [0, 5, 6, 7]) (keep := []) (st' := ⟨[(0, vI p0), (5, vI (IntKind.i64.wrap (s1.1 * p0))), (6, vI p1), (7, vI (IntKind.i64.wrap (s1.2 + 1)))], [], 14⟩) (by kernel_rfl))⟩
    refine wp_condF rfl ?_
    refine wgc [5] [] ⟨[(5, vI s1.1)], [], 14⟩ ?_
    refine wp_exit ?_
    cases h
    exact ⟨rfl, rfl⟩
  intro x5 h out hx
  subst hx
  refine sq ?_
  refine wg [4] [] ?_
  refine wp_ret ?_
  cases h
  show fnOut _ _ _ _ = _
  kernel_rfl
theorem g_lift_counter_members_ok (p0 : Tlift_counter) (p1 : Int) (p2 : Int) (x : Int) (h : g_lift_counter_members p0 p1 p2 = some x) : CallOk Try.prog 72 [.fz [vI p0.Lift.Grain, vI p0.Lift.Count, vI p0.Lift.One, eL false (eL true eI) p0.Lift.Rows, vI p0.zeros, vI p0.ones, vI p0.child], vI p1, vI p2] (.ret (vI x) []) := by
  refine fn_ok [] Try.func72 rfl (by decide +kernel) rfl ?_
  unfold g_lift_counter_members at h
  refine wp_eqB (base' := 0) (st' := ⟨[(0, .fz [vI p0.Lift.Grain, vI p0.Lift.Count, vI p0.Lift.One, eL false (eL true eI) p0.Lift.Rows, vI p0.zeros, vI p0.ones, vI p0.child]), (1, vI p1), (2, vI p2)], [], 28⟩) rfl (by kernel_rfl) ?_
  refine sq ?_
  refine wp_seq ?_
  refine rga hfol ?_
  refine sy 6 6 ?_
  refine callZ (as0 := [vI p0.Lift.One, vI p1]) (ids := []) (by kernel_rfl) bodyB_45 (msnap_cons rfl (msnap_cons rfl msnap_nil (by rfl)) (by rfl)) (fun x1 q2 => g_weigh_Whole_ok p0.Lift.One p1 x1 q2) h (fun x1 q2 h => ?_)
  refine sy 12 19 ?_
  refine callZ (as0 := [vI (IntKind.i64.wrap (p0.Lift.Grain - p0.Lift.One)), vI p2]) (ids := []) (by kernel_rfl) bodyB_45 (msnap_cons rfl (msnap_cons rfl msnap_nil (by rfl)) (by rfl)) (fun x3 q4 => g_weigh_Whole_ok (IntKind.i64.wrap (p0.Lift.Grain - p0.Lift.One)) p2 x3 q4) h (fun x3 q4 h => ?_)
  refine sy 2 22 ?_
  refine rgd ?_
  refine wgc [6] [] ⟨[(6, vI (IntKind.i64.wrap (x1 * x3)))], [], 28⟩ ?_
  refine wp_ret ?_
  cases h
  show fnOut _ _ _ _ = _
  kernel_rfl
@[reducible] noncomputable def s73_1 (p0 : Tlift_counter) (p1 : Int) : List (Nat × AV) := [(0, .fz [vI p0.Lift.Grain, vI p0.Lift.Count, vI p0.Lift.One, eL false (eL true eI) p0.Lift.Rows, vI p0.zeros, vI p0.ones, vI p0.child]), (1, vI p1)]
@[reducible] noncomputable def s73_4 (p0 : Tlift_counter) (p1 : Int) : List (Nat × AV) := (s73_1 p0 p1) ++ [(15, .fz [vI p0.Lift.Grain, vI p0.Lift.Count, vI p0.Lift.One, eL false (eL true eI) p0.Lift.Rows, vI p0.zeros, vI p0.ones, vI p0.child]), (16, .fz [vI p0.Lift.Grain, vI p0.Lift.Count, vI p0.Lift.One, eL false (eL true eI) p0.Lift.Rows, vI p0.zeros, vI p0.ones, vI p0.child]), (17, .fz [vI p0.Lift.Grain, vI p0.Lift.Count, vI p0.Lift.One, eL false (eL true eI) p0.Lift.Rows, vI p0.zeros, vI p0.ones, vI p0.child]), (18, .fz [eL false (eL true eI) p0.Lift.Rows, vI p0.zeros, vI p0.ones, vI p0.child]), (19, eL false (eL true eI) p0.Lift.Rows), (20, vI p1)]
theorem g_lift_counter_shown_ok (p0 : Tlift_counter) (p1 : Int) (x : Int) (h : g_lift_counter_shown p0 p1 = some x) : CallOk Try.prog 73 [.fz [vI p0.Lift.Grain, vI p0.Lift.Count, vI p0.Lift.One, eL false (eL true eI) p0.Lift.Rows, vI p0.zeros, vI p0.ones, vI p0.child], vI p1] (.ret (vI x) []) := by
  refine fn_ok [] Try.func73 rfl (by decide +kernel) rfl ?_
  unfold g_lift_counter_shown at h
  refine wp_eqB (base' := 0) (st' := ⟨(s73_1 p0 p1), [], 29⟩) rfl (by kernel_rfl) ?_
  refine sq ?_
  refine wp_seq ?_
  refine sq ?_
  refine wbr (S := fun b1 => ⟨(s73_1 p0 p1) ++ [(4, vI 0), (5, .fz [vI p0.Lift.Grain, vI p0.Lift.Count, vI p0.Lift.One, eL false (eL true eI) p0.Lift.Rows, vI p0.zeros, vI p0.ones, vI p0.child]), (6, .fz [vI p0.Lift.Grain, vI p0.Lift.Count, vI p0.Lift.One, eL false (eL true eI) p0.Lift.Rows, vI p0.zeros, vI p0.ones, vI p0.child]), (7, .fz [vI p0.child]), (8, vI p0.child), (9, vB b1)], [], 29⟩) h (fun q2 h => ?_) (fun q2 h => ?_)
  · refine wp_condT rfl ?_
    refine wp_seq ?_
    refine wg [0] [] ?_
    refine rn ?_
    refine wg [4] [] ?_
    refine wp_ret ?_
    cases h
    show fnOut _ _ _ _ = _
    kernel_rfl
  refine wp_condF rfl ?_
  refine wp_skip ?_
  refine wp_seq ?_
  refine wg [0, 1] [] ?_
  refine rga hfol ?_
  refine sgy 6 6 (S := ⟨(s73_4 p0 p1), [], 29⟩) ?_
  refine bind_elim h (fun a3 q4 h => ?_)
  refine idxZ (enc := (eL true eI)) (l := p0.Lift.Rows) (n := p1) (fl := false) (w := 1) (a := a3) (by kernel_rfl) q4 ?_
  refine sgy 5 12 (S := ⟨(s73_4 p0 p1) ++ [(21, .fz [eL true eI a3]), (22, eL true eI a3), (23, .fz [vI p0.Lift.Grain, vI p0.Lift.Count, vI p0.Lift.One, eL false (eL true eI) p0.Lift.Rows, vI p0.zeros, vI p0.ones, vI p0.child]), (24, .fz [vI p0.Lift.Grain, vI p0.Lift.Count, vI p0.Lift.One, eL false (eL true eI) p0.Lift.Rows, vI p0.zeros, vI p0.ones, vI p0.child]), (25, .fz [vI p0.child]), (26, vI p0.child)], [], 29⟩) ?_
  refine bind_elim h (fun a5 q6 h => ?_)
  refine idxZ (enc := eI) (l := a3) (n := p0.child) (fl := true) (w := 1) (a := a5) (by kernel_rfl) q6 ?_
  refine sy 2 15 ?_
  refine rgd ?_
  refine wg [4] [] ?_
  refine wp_ret ?_
  cases h
  show fnOut _ _ _ _ = _
  kernel_rfl
@[reducible] noncomputable def s44_1 (p0 : Tlift_counter) : List (Nat × AV) := [(0, .fz [vI p0.Lift.Grain, vI p0.Lift.Count, vI p0.Lift.One, eL false (eL true eI) p0.Lift.Rows, vI p0.zeros, vI p0.ones, vI p0.child])]
@[reducible] noncomputable def s44_3 (p0 : Tlift_counter) (x3 : (List Int)) : List AObj := [oX true false 1 (.fz [vI p0.Lift.Grain, vI p0.Lift.Count, vI p0.Lift.One, eL false (eL true eI) p0.Lift.Rows, vI p0.zeros, vI p0.ones, vI p0.child]), oX false false 1 (.ref 2 0 x3.length), oR true 1 eI x3]
@[reducible] noncomputable def s44_4 (p0 : Tlift_counter) : List (Nat × AV) := (s44_1 p0) ++ [(2, vI 0), (3, .fz [vI p0.Lift.Grain, vI p0.Lift.Count, vI p0.Lift.One, eL false (eL true eI) p0.Lift.Rows, vI p0.zeros, vI p0.ones, vI p0.child]), (4, .fn (.func 71) [] [.ptr 0 0 0, .ptr 1 0 0]), (5, .fz [vI p0.Lift.Grain, vI p0.Lift.Count, vI p0.Lift.One, eL false (eL true eI) p0.Lift.Rows, vI p0.zeros, vI p0.ones, vI p0.child])]
@[reducible] noncomputable def s44_5 (p0 : Tlift_counter) (x3 : (List Int)) (x5 : (List Int)) : List AObj := [oX true false 1 (.fz [vI p0.Lift.Grain, vI p0.Lift.Count, vI p0.Lift.One, eL false (eL true eI) p0.Lift.Rows, vI p0.zeros, vI p0.ones, vI p0.child]), oX false false 1 (.ref 2 0 x3.length), oR true 1 eI x3, oR true 1 eI x5]
@[reducible] noncomputable def s44_12 (s7 : (Int × Int)) (x5 : (List Int)) : List (Nat × AV) := [(0, .fn (.func 71) [] [.ptr 0 0 0, .ptr 1 0 0]), (5, vI s7.1), (8, .ref 3 0 x5.length), (9, vI (x5.length : Int)), (10, vI s7.2)]
theorem g_lift_counter_mass_ok (p0 : Tlift_counter) (x : Int) (h : g_lift_counter_mass p0 = some x) : CallOk Try.prog 44 [.fz [vI p0.Lift.Grain, vI p0.Lift.Count, vI p0.Lift.One, eL false (eL true eI) p0.Lift.Rows, vI p0.zeros, vI p0.ones, vI p0.child]] (.ret (vI x) []) := by
  refine fn_ok [] Try.func44 rfl (by decide +kernel) rfl ?_
  unfold g_lift_counter_mass at h
  refine wp_eqB (base' := 0) (st' := ⟨(s44_1 p0), [], 8⟩) rfl (by kernel_rfl) ?_
  refine sq ?_
  refine wp_seq ?_
  refine reg_in ?_
  refine sgz 1 1 (S := ⟨(s44_1 p0) ++ [(2, vI 0), (3, .fz [vI p0.Lift.Grain, vI p0.Lift.Count, vI p0.Lift.One, eL false (eL true eI) p0.Lift.Rows, vI p0.zeros, vI p0.ones, vI p0.child])], [], 8⟩) ?_
  refine inlR (f := 51) (fn := Try.f51) (as0 := [.fz [vI p0.Lift.Grain, vI p0.Lift.Count, vI p0.Lift.One, eL false (eL true eI) p0.Lift.Rows, vI p0.zeros, vI p0.ones, vI p0.child]]) (by kernel_rfl) Try.func51 rfl (by decide +kernel) rfl ?_
  refine wp_eqB (base' := 0) (st' := ⟨(s44_1 p0), [], 8⟩) rfl (by kernel_rfl) ?_
  refine wp_seq ?_
  refine reg_in ?_
  refine sl false [] [] false rfl ?_
  refine sz 1 2 ?_
  refine reg_end rfl ?_
  refine wp_seq ?_
  refine reg_in ?_
  refine sz 1 1 ?_
  refine callZ (as0 := [.fz [vI p0.Lift.Grain, vI p0.Lift.Count, vI p0.Lift.One, eL false (eL true eI) p0.Lift.Rows, vI p0.zeros, vI p0.ones, vI p0.child]]) (ids := []) (by kernel_rfl) bodyB_54 (msnap_cons rfl msnap_nil (by rfl)) (fun x1 q2 => g_lift_counter_unknown_ok p0 x1 q2) h (fun x1 q2 h => ?_)
  refine callZ (as0 := [vI x1]) (ids := []) (by kernel_rfl) bodyB_70 (msnap_cons rfl msnap_nil (by rfl)) (fun x3 q4 => g_lift_binomial_ok x1 x3 q4) h (fun x3 q4 h => ?_)
  refine sl false [] [] false rfl ?_
  refine sgz 1 5 (S := ⟨(s44_1 p0) ++ [(1, .ptr 0 0 0), (2, .nilf), (4, .fz [vI p0.Lift.Grain, vI p0.Lift.Count, vI p0.Lift.One, eL false (eL true eI) p0.Lift.Rows, vI p0.zeros, vI p0.ones, vI p0.child]), (5, vI x1), (6, .ref 1 0 x3.length), (3, .ptr 2 0 0)], [oX true false 1 (.fz [vI p0.Lift.Grain, vI p0.Lift.Count, vI p0.Lift.One, eL false (eL true eI) p0.Lift.Rows, vI p0.zeros, vI p0.ones, vI p0.child]), oR true 1 eI x3, oX false false 1 (.ref 1 0 x3.length)], 8⟩) ?_
  refine reg_end rfl ?_
  refine wp_seq ?_
  refine wg [1, 3] [0, 2, 1] ?_
  refine rn ?_
  refine wgc [2] [0, 1, 2] ⟨[(2, .fn (.func 71) [] [.ptr 0 0 0, .ptr 1 0 0])], (s44_3 p0 x3), 8⟩ ?_
  refine wp_ret ?_
  refine ⟨⟨(s44_1 p0) ++ [(2, vI 0), (3, .fz [vI p0.Lift.Grain, vI p0.Lift.Count, vI p0.Lift.One, eL false (eL true eI) p0.Lift.Rows, vI p0.zeros, vI p0.ones, vI p0.child]), (4, .fn (.func 71) [] [.ptr 0 0 0, .ptr 1 0 0])], (s44_3 p0 x3), 8⟩, by kernel_rfl, ?_⟩
  refine sz 1 3 ?_
  refine callR (as0 := [.fz [vI p0.Lift.Grain, vI p0.Lift.Count, vI p0.Lift.One, eL false (eL true eI) p0.Lift.Rows, vI p0.zeros, vI p0.ones, vI p0.child]]) (ids := []) (S := fun x5 => ⟨(s44_4 p0) ++ [(6, .ref 3 0 x5.length)], (s44_5 p0 x3 x5), 8⟩) (by kernel_rfl) bodyB_50 (msnap_cons rfl msnap_nil (by rfl)) (fun x5 q6 => g_lift_counter_numbers_ok p0 x5 q6) (fun _ => by kernel_rfl) h (fun x5 q6 h => ?_)
  refine inlR (f := 69) (fn := Try.f69) (as0 := [.fn (.func 71) [] [.ptr 0 0 0, .ptr 1 0 0], .ref 3 0 x5.length]) (by kernel_rfl) Try.func69 rfl (by decide +kernel) rfl ?_
  refine wp_eqB (base' := 4) (st' := ⟨[(0, .fn (.func 71) [] [.ptr 0 0 0, .ptr 1 0 0]), (1, .ref 3 0 x5.length)], (s44_5 p0 x3 x5), 21⟩) rfl (by kernel_rfl) ?_
  refine sq ?_
  refine sq ?_
  refine wp_seq ?_
  refine sqN (S := ⟨[(0, .fn (.func 71) [] [.ptr 0 0 0, .ptr 1 0 0]), (1, .ref 3 0 x5.length), (4, vI 0), (5, vI 0), (8, .ref 3 0 x5.length), (9, vI (x5.length : Int)), (10, vI 0)], (s44_5 p0 x3 x5), 21⟩) ?_
  refine wp_block ?_
  refine wp_while (σ := (Int × Int)) (ρ := Int) (n := fuel) (body := g_lift_counter_mass_b0 x5 p0 x3) (I := fun s7 => ⟨(s44_12 s7 x5), (s44_5 p0 x3 x5), 21⟩) (Ex := fun v out => out = .go (.exit 0) ⟨[(5, vI v)], (s44_5 p0 x3 x5), 21⟩) (0, 0) (wk_gc (live := [0, 5, 8, 9, 10]) (keep := []) (st' := ⟨[(0, .fn (.func 71) [] [.ptr 0 0 0, .ptr 1 0 0]), (5, vI 0), (8, .ref 3 0 x5.length), (9, vI (x5.length : Int)), (10, vI 0)], (s44_5 p0 x3 x5), 21⟩) (by kernel_rfl)) h ?_ ?_
  · intro s7 o h
    unfold g_lift_counter_mass_b0 at h
    refine sq ?_
    refine wp_seq ?_
    refine wbr (S := fun b8 => ⟨(s44_12 s7 x5) ++ [(11, vB b8)], (s44_5 p0 x3 x5), 21⟩) h (fun q9 h => ?_) (fun q9 h => ?_)
    · refine wp_condT rfl ?_
      refine wp_skip ?_
      refine wp_seq ?_
      refine wp_block ?_
      refine wp_seq ?_
      refine reg_in ?_
      refine bind_elim h (fun a10 q11 h => ?_)
      refine idxR' (enc := eI) (l := x5) (n := s7.2) (w := 1) (ob := 3) (a := a10) (S := ⟨(s44_12 s7 x5) ++ [(11, vB true), (12, .ptr 3 (Int.toNat s7.2) 0)], (s44_5 p0 x3 x5), 21⟩) (by kernel_rfl) rfl (by kernel_rfl) q11 ?_
      refine loadR (enc := eI) (l := x5) (n := s7.2) (ob := 3) (c := 0) (a := a10) (S := ⟨(s44_12 s7 x5) ++ [(11, vB true), (12, .ptr 3 (Int.toNat s7.2) 0), (13, vI a10)], (s44_5 p0 x3 x5), 21⟩) (by kernel_rfl) rfl q11 (by kernel_rfl) ?_
      refine sz 1 3 ?_
      refine reg_end rfl ?_
      refine reg_in ?_
      refine sgz 3 3 (S := ⟨(s44_12 s7 x5) ++ [(11, vB true), (12, .ptr 3 (Int.toNat s7.2) 0), (13, vI a10), (7, vI a10), (14, vI s7.1), (15, .fn (.func 71) [] [.ptr 0 0 0, .ptr 1 0 0]), (16, vI a10)], (s44_5 p0 x3 x5), 21⟩) ?_
      refine inlR (f := 71) (fn := Try.f71) (as0 := [vI a10, .ptr 0 0 0, .ptr 1 0 0]) (by kernel_rfl) Try.func71 rfl (by decide +kernel) rfl ?_
      refine wp_eqB (base' := 4) (st' := ⟨[(0, vI a10), (1, .ptr 0 0 0), (2, .ptr 1 0 0)], (s44_5 p0 x3 x5), 49⟩) rfl (by kernel_rfl) ?_
      refine sq ?_
      refine wp_seq ?_
      refine wp_seq ?_
      refine rga hfol ?_
      refine sy 7 7 ?_
      refine rbr (S := fun b12 => ⟨[(0, vI a10), (1, .ptr 0 0 0), (2, .ptr 1 0 0), (4, vI 0), (5, vI a10), (6, .fz [vI p0.Lift.Grain, vI p0.Lift.Count, vI p0.Lift.One, eL false (eL true eI) p0.Lift.Rows, vI p0.zeros, vI p0.ones, vI p0.child]), (7, .fz [vI p0.Lift.Grain, vI p0.Lift.Count, vI p0.Lift.One, eL false (eL true eI) p0.Lift.Rows, vI p0.zeros, vI p0.ones, vI p0.child]), (8, .fz [vI p0.ones, vI p0.child]), (9, vI p0.ones), (10, vB b12), (11, vB b12)], (s44_5 p0 x3 x5), 49⟩) h (fun q13 h => ?_) (fun q13 h => ?_)
      · refine sgy 13 20 (S := ⟨[(0, vI a10), (1, .ptr 0 0 0), (2, .ptr 1 0 0), (4, vI 0), (5, vI a10), (6, .fz [vI p0.Lift.Grain, vI p0.Lift.Count, vI p0.Lift.One, eL false (eL true eI) p0.Lift.Rows, vI p0.zeros, vI p0.ones, vI p0.child]), (7, .fz [vI p0.Lift.Grain, vI p0.Lift.Count, vI p0.Lift.One, eL false (eL true eI) p0.Lift.Rows, vI p0.zeros, vI p0.ones, vI p0.child]), (8, .fz [vI p0.ones, vI p0.child]), (9, vI p0.ones), (10, vB true), (11, vB true), (12, .tup []), (13, .tup []), (14, .tup []), (15, .tup []), (16, .tup []), (17, .tup []), (18, .tup []), (19, .tup []), (20, .tup []), (21, .tup []), (22, .tup []), (23, .tup []), (24, vB true)], (s44_5 p0 x3 x5), 49⟩) ?_
        refine rgd ?_
        refine wp_condT rfl ?_
        refine wp_seq ?_
        refine wg [] [] ?_
        refine rn ?_
        refine wgc [4] [] ⟨[(4, vI 0)], (s44_5 p0 x3 x5), 49⟩ ?_
        refine wp_ret ?_
        refine ⟨⟨(s44_12 s7 x5) ++ [(11, vB true), (12, .ptr 3 (Int.toNat s7.2) 0), (13, vI a10), (7, vI a10), (14, vI s7.1), (15, .fn (.func 71) [] [.ptr 0 0 0, .ptr 1 0 0]), (16, vI a10), (17, vI 0)], (s44_5 p0 x3 x5), 21⟩, by kernel_rfl, ?_⟩
        refine sz 2 6 ?_
        refine reg_end rfl ?_
        refine wg [0, 5, 8, 9, 10] [] ?_
        refine rgN (S := ⟨[(0, .fn (.func 71) [] [.ptr 0 0 0, .ptr 1 0 0]), (5, vI (IntKind.i64.wrap (s7.1 + 0))), (8, .ref 3 0 x5.length), (9, vI (x5.length : Int)), (10, vI (IntKind.i64.wrap (s7.2 + 1))), (19, vI (IntKind.i64.wrap (s7.2 + 1)))], (s44_5 p0 x3 x5), 21⟩) ?_
        cases h
        exact ⟨_, rfl, (wk_gc (live := [0, 5, 8, 9, 10]) (keep := []) (st' := ⟨[(0, .fn (.func 71) [] [.ptr 0 0 0, .ptr 1 0 0]), (5, vI (IntKind.i64.wrap (s7.1 + 0))), (8, .ref 3 0 x5.length), (9, vI (x5.length : Int)), (10, vI (IntKind.i64.wrap (s7.2 + 1)))], (s44_5 p0 x3 x5), 21⟩) (by kernel_rfl))⟩
      refine sy 13 20 ?_
      refine rgd ?_
      refine wbr (S := fun b14 => ⟨[(0, vI a10), (1, .ptr 0 0 0), (2, .ptr 1 0 0), (4, vI 0), (5, vI a10), (6, .fz [vI p0.Lift.Grain, vI p0.Lift.Count, vI p0.Lift.One, eL false (eL true eI) p0.Lift.Rows, vI p0.zeros, vI p0.ones, vI p0.child]), (7, .fz [vI p0.Lift.Grain, vI p0.Lift.Count, vI p0.Lift.One, eL false (eL true eI) p0.Lift.Rows, vI p0.zeros, vI p0.ones, vI p0.child]), (8, .fz [vI p0.ones, vI p0.child]), (9, vI p0.ones), (10, vB false), (11, vB false), (12, vI a10), (13, .fz [vI p0.Lift.Grain, vI p0.Lift.Count, vI p0.Lift.One, eL false (eL true eI) p0.Lift.Rows, vI p0.zeros, vI p0.ones, vI p0.child]), (14, .fz [vI p0.Lift.Grain, vI p0.Lift.Count, vI p0.Lift.One, eL false (eL true eI) p0.Lift.Rows, vI p0.zeros, vI p0.ones, vI p0.child]), (15, .fz [vI p0.Lift.Grain, vI p0.Lift.Count, vI p0.Lift.One, eL false (eL true eI) p0.Lift.Rows, vI p0.zeros, vI p0.ones, vI p0.child]), (16, .fz [vI p0.Lift.Count, vI p0.Lift.One, eL false (eL true eI) p0.Lift.Rows, vI p0.zeros, vI p0.ones, vI p0.child]), (17, vI p0.Lift.Count), (18, .fz [vI p0.Lift.Grain, vI p0.Lift.Count, vI p0.Lift.One, eL false (eL true eI) p0.Lift.Rows, vI p0.zeros, vI p0.ones, vI p0.child]), (19, .fz [vI p0.Lift.Grain, vI p0.Lift.Count, vI p0.Lift.One, eL false (eL true eI) p0.Lift.Rows, vI p0.zeros, vI p0.ones, vI p0.child]), (20, .fz [vI p0.zeros, vI p0.ones, vI p0.child]), (21, vI p0.zeros), (22, vI (IntKind.i64.wrap (p0.Lift.Count - p0.zeros))), (23, vB b14), (24, vB b14)], (s44_5 p0 x3 x5), 49⟩) h (fun q15 h => ?_) (fun q15 h => ?_)
      · refine wp_condT rfl ?_
        refine wp_seq ?_
        refine wg [] [] ?_
        refine rn ?_
        refine wgc [4] [] ⟨[(4, vI 0)], (s44_5 p0 x3 x5), 49⟩ ?_
        refine wp_ret ?_
        refine ⟨⟨(s44_12 s7 x5) ++ [(11, vB true), (12, .ptr 3 (Int.toNat s7.2) 0), (13, vI a10), (7, vI a10), (14, vI s7.1), (15, .fn (.func 71) [] [.ptr 0 0 0, .ptr 1 0 0]), (16, vI a10), (17, vI 0)], (s44_5 p0 x3 x5), 21⟩, by kernel_rfl, ?_⟩
        refine sz 2 6 ?_
        refine reg_end rfl ?_
        refine wg [0, 5, 8, 9, 10] [] ?_
        refine rgN (S := ⟨[(0, .fn (.func 71) [] [.ptr 0 0 0, .ptr 1 0 0]), (5, vI (IntKind.i64.wrap (s7.1 + 0))), (8, .ref 3 0 x5.length), (9, vI (x5.length : Int)), (10, vI (IntKind.i64.wrap (s7.2 + 1))), (19, vI (IntKind.i64.wrap (s7.2 + 1)))], (s44_5 p0 x3 x5), 21⟩) ?_
        cases h
        exact ⟨_, rfl, (wk_gc (live := [0, 5, 8, 9, 10]) (keep := []) (st' := ⟨[(0, .fn (.func 71) [] [.ptr 0 0 0, .ptr 1 0 0]), (5, vI (IntKind.i64.wrap (s7.1 + 0))), (8, .ref 3 0 x5.length), (9, vI (x5.length : Int)), (10, vI (IntKind.i64.wrap (s7.2 + 1)))], (s44_5 p0 x3 x5), 21⟩) (by kernel_rfl))⟩
      refine wp_condF rfl ?_
      refine wp_skip ?_
      refine wp_seq ?_
      refine wg [0, 1, 2] [] ?_
      refine rga hfol ?_
      refine sgy 7 7 (S := ⟨[(0, vI a10), (1, .ptr 0 0 0), (2, .ptr 1 0 0), (25, .ref 2 0 x3.length), (26, vI a10), (27, .fz [vI p0.Lift.Grain, vI p0.Lift.Count, vI p0.Lift.One, eL false (eL true eI) p0.Lift.Rows, vI p0.zeros, vI p0.ones, vI p0.child]), (28, .fz [vI p0.Lift.Grain, vI p0.Lift.Count, vI p0.Lift.One, eL false (eL true eI) p0.Lift.Rows, vI p0.zeros, vI p0.ones, vI p0.child]), (29, .fz [vI p0.ones, vI p0.child]), (30, vI p0.ones), (31, vI (IntKind.i64.wrap (a10 - p0.ones)))], (s44_5 p0 x3 x5), 49⟩) ?_
      refine bind_elim h (fun a16 q17 h => ?_)
      refine idxR' (enc := eI) (l := x3) (n := IntKind.i64.wrap (a10 - p0.ones)) (w := 1) (ob := 2) (a := a16) (S := ⟨[(0, vI a10), (1, .ptr 0 0 0), (2, .ptr 1 0 0), (25, .ref 2 0 x3.length), (26, vI a10), (27, .fz [vI p0.Lift.Grain, vI p0.Lift.Count, vI p0.Lift.One, eL false (eL true eI) p0.Lift.Rows, vI p0.zeros, vI p0.ones, vI p0.child]), (28, .fz [vI p0.Lift.Grain, vI p0.Lift.Count, vI p0.Lift.One, eL false (eL true eI) p0.Lift.Rows, vI p0.zeros, vI p0.ones, vI p0.child]), (29, .fz [vI p0.ones, vI p0.child]), (30, vI p0.ones), (31, vI (IntKind.i64.wrap (a10 - p0.ones)))] ++ [(32, .ptr 2 (Int.toNat (IntKind.i64.wrap (a10 - p0.ones))) 0)], (s44_5 p0 x3 x5), 49⟩) (by kernel_rfl) rfl (by kernel_rfl) q17 ?_
      refine loadR (enc := eI) (l := x3) (n := IntKind.i64.wrap (a10 - p0.ones)) (ob := 2) (c := 0) (a := a16) (S := ⟨[(0, vI a10), (1, .ptr 0 0 0), (2, .ptr 1 0 0), (25, .ref 2 0 x3.length), (26, vI a10), (27, .fz [vI p0.Lift.Grain, vI p0.Lift.Count, vI p0.Lift.One, eL false (eL true eI) p0.Lift.Rows, vI p0.zeros, vI p0.ones, vI p0.child]), (28, .fz [vI p0.Lift.Grain, vI p0.Lift.Count, vI p0.Lift.One, eL false (eL true eI) p0.Lift.Rows, vI p0.zeros, vI p0.ones, vI p0.child]), (29, .fz [vI p0.ones, vI p0.child]), (30, vI p0.ones), (31, vI (IntKind.i64.wrap (a10 - p0.ones)))] ++ [(32, .ptr 2 (Int.toNat (IntKind.i64.wrap (a10 - p0.ones))) 0), (33, vI a16)], (s44_5 p0 x3 x5), 49⟩) (by kernel_rfl) rfl q17 (by kernel_rfl) ?_
      refine sy 9 18 ?_
      refine callZ (as0 := [.fz [vI p0.Lift.Grain, vI p0.Lift.Count, vI p0.Lift.One, eL false (eL true eI) p0.Lift.Rows, vI p0.zeros, vI p0.ones, vI p0.child], vI a10, vI (IntKind.i64.wrap (p0.Lift.Count - a10))]) (ids := []) (by kernel_rfl) bodyB_72 (msnap_cons rfl (msnap_cons rfl (msnap_cons rfl msnap_nil (by rfl)) (by rfl)) (by rfl)) (fun x18 q19 => g_lift_counter_members_ok p0 a10 (IntKind.i64.wrap (p0.Lift.Count - a10)) x18 q19) h (fun x18 q19 h => ?_)
      refine sy 3 22 ?_
      refine callZ (as0 := [.fz [vI p0.Lift.Grain, vI p0.Lift.Count, vI p0.Lift.One, eL false (eL true eI) p0.Lift.Rows, vI p0.zeros, vI p0.ones, vI p0.child], vI a10]) (ids := []) (by kernel_rfl) bodyB_73 (msnap_cons rfl (msnap_cons rfl msnap_nil (by rfl)) (by rfl)) (fun x20 q21 => g_lift_counter_shown_ok p0 a10 x20 q21) h (fun x20 q21 h => ?_)
      refine sy 2 25 ?_
      refine rgd ?_
      refine wgc [4] [] ⟨[(4, vI (IntKind.i64.wrap ((IntKind.i64.wrap (a16 * x18)) * x20)))], (s44_5 p0 x3 x5), 49⟩ ?_
      refine wp_ret ?_
      refine ⟨⟨(s44_12 s7 x5) ++ [(11, vB true), (12, .ptr 3 (Int.toNat s7.2) 0), (13, vI a10), (7, vI a10), (14, vI s7.1), (15, .fn (.func 71) [] [.ptr 0 0 0, .ptr 1 0 0]), (16, vI a10), (17, vI (IntKind.i64.wrap ((IntKind.i64.wrap (a16 * x18)) * x20)))], (s44_5 p0 x3 x5), 21⟩, by kernel_rfl, ?_⟩
      refine sz 2 6 ?_
      refine reg_end rfl ?_
      refine wg [0, 5, 8, 9, 10] [] ?_
      refine rgN (S := ⟨[(0, .fn (.func 71) [] [.ptr 0 0 0, .ptr 1 0 0]), (5, vI (IntKind.i64.wrap (s7.1 + (IntKind.i64.wrap ((IntKind.i64.wrap (a16 * x18)) * x20))))), (8, .ref 3 0 x5.length), (9, vI (x5.length : Int)), (10, vI (IntKind.i64.wrap (s7.2 + 1)))] ++ [(19, vI (IntKind.i64.wrap (s7.2 + 1)))], (s44_5 p0 x3 x5), 21⟩) ?_
      cases h
      exact ⟨_, rfl, (wk_gc (live := [0, 5, 8, 9, 10]) (keep := []) (st' := ⟨[(0, .fn (.func 71) [] [.ptr 0 0 0, .ptr 1 0 0]), (5, vI (IntKind.i64.wrap (s7.1 + (IntKind.i64.wrap ((IntKind.i64.wrap (a16 * x18)) * x20))))), (8, .ref 3 0 x5.length), (9, vI (x5.length : Int)), (10, vI (IntKind.i64.wrap (s7.2 + 1)))], (s44_5 p0 x3 x5), 21⟩) (by kernel_rfl))⟩
    refine wp_condF rfl ?_
    refine wgc [5] [] ⟨[(5, vI s7.1)], (s44_5 p0 x3 x5), 21⟩ ?_
    refine wp_exit ?_
    cases h
    exact ⟨rfl, rfl⟩
  intro x23 h out hx
  subst hx
  refine sq ?_
  refine wgc [4] [] ⟨[(4, vI x23)], (s44_5 p0 x3 x5), 21⟩ ?_
  refine wp_ret ?_
  refine ⟨⟨(s44_4 p0) ++ [(6, .ref 3 0 x5.length), (7, vI x23)], (s44_5 p0 x3 x5), 8⟩, by kernel_rfl, ?_⟩
  refine sz 1 6 ?_
  refine reg_end rfl ?_
  refine wg [2] [] ?_
  refine wp_ret ?_
  cases h
  show fnOut _ _ _ _ = _
  kernel_rfl
@[reducible] noncomputable def s19_1 (p0 : Tapi_Lift) (p1 : Int) (p2 : Int) (p3 : Int) : List (Nat × AV) := [(0, .agg [vI p0.Grain, vI p0.Count, vI p0.One, eL false (eL true eI) p0.Rows]), (1, vI p1), (2, vI p2), (3, vI p3)]
@[reducible] noncomputable def s19_2 (p0 : Tapi_Lift) : List AObj := [oX true false 4 (.agg [vI p0.Grain, vI p0.Count, vI p0.One, eL false (eL true eI) p0.Rows]), oX true true 2 (.agg [vI 0, vI 0])]
@[reducible] noncomputable def s19_3 (p0 : Tapi_Lift) : List AObj := [oX true false 4 (.agg [vI p0.Grain, vI p0.Count, vI p0.One, eL false (eL true eI) p0.Rows]), oX true true 2 (.agg [vI 0, vI 0]), oX true false 4 (.agg [vI p0.Grain, vI p0.Count, vI p0.One, eL false (eL true eI) p0.Rows])]
@[reducible] noncomputable def s19_7 (p0 : Tapi_Lift) (p1 : Int) (p2 : Int) (p3 : Int) : List (Nat × AV) := (s19_1 p0 p1 p2 p3) ++ [(4, .ptr 0 0 0), (8, .ptr 1 0 0), (9, vI 0), (13, .agg [vI p0.Grain, vI p0.Count, vI p0.One, eL false (eL true eI) p0.Rows]), (14, vI p1), (15, vI p2), (16, vI p3), (17, .tup [.nilp, vI 2])]
@[reducible] noncomputable def s19_18 (p0 : Tapi_Lift) (p1 : Int) (p2 : Int) (p3 : Int) : List AObj := [oX true false 4 (.agg [vI p0.Grain, vI p0.Count, vI p0.One, eL false (eL true eI) p0.Rows]), oX true true 2 (.agg [vI 0, vI 0]), oX true false 7 (.agg [vI p0.Grain, vI p0.Count, vI p0.One, eL false (eL true eI) p0.Rows, vI p1, vI p2, vI p3])]
@[reducible] noncomputable def s19_19 (p0 : Tapi_Lift) (p1 : Int) (p2 : Int) (p3 : Int) : List AObj := [oX true true 2 (.agg [vI 0, vI 0]), oX true false 7 (.agg [vI p0.Grain, vI p0.Count, vI p0.One, eL false (eL true eI) p0.Rows, vI p1, vI p2, vI p3])]
theorem g_lift_Prob_ok (p0 : Tapi_Lift) (p1 : Int) (p2 : Int) (p3 : Int) (x : (Tapi_Q × Int)) (h : g_lift_Prob p0 p1 p2 p3 = some x) : CallOk Try.prog 19 [.agg [vI p0.Grain, vI p0.Count, vI p0.One, eL false (eL true eI) p0.Rows], vI p1, vI p2, vI p3] (.ret (.tup [.agg [vI x.1.N, vI x.1.D], vI x.2]) []) := by
  refine fn_ok [] Try.func19 rfl (by decide +kernel) rfl ?_
  unfold g_lift_Prob at h
  refine wp_eqB (base' := 0) (st' := ⟨(s19_1 p0 p1 p2 p3), [], 39⟩) rfl (by as_aux_lemma => kernel_rfl) ?_
  refine wp_seq ?_
  refine reg_in ?_
  refine sl false [] [] false rfl ?_
  refine sz 2 3 ?_
  refine reg_end rfl ?_
  refine wp_seq ?_
  refine reg_in ?_
  refine sgz 4 4 (S := ⟨(s19_1 p0 p1 p2 p3) ++ [(4, .ptr 0 0 0), (8, .ptr 1 0 0), (9, vI 0), (13, .agg [vI p0.Grain, vI p0.Count, vI p0.One, eL false (eL true eI) p0.Rows]), (14, vI p1), (15, vI p2), (16, vI p3)], (s19_2 p0), 39⟩) ?_
  refine inlR (f := 42) (fn := Try.f42) (as0 := [.agg [vI p0.Grain, vI p0.Count, vI p0.One, eL false (eL true eI) p0.Rows], vI p1, vI p2, vI p3]) (by as_aux_lemma => kernel_rfl) Try.func42 rfl (by decide +kernel) rfl ?_
  refine wp_eqB (base' := 2) (st' := ⟨(s19_1 p0 p1 p2 p3), (s19_2 p0), 55⟩) rfl (by as_aux_lemma => kernel_rfl) ?_
  refine wp_seq ?_
  refine reg_in ?_
  refine sl false [] [] false rfl ?_
  refine sz 2 3 ?_
  refine reg_end rfl ?_
  refine wp_seq ?_
  refine wp_seq ?_
  refine reg_in ?_
  refine sz 1 1 ?_
  refine callZ (as0 := [.agg [vI p0.Grain, vI p0.Count, vI p0.One, eL false (eL true eI) p0.Rows]]) (ids := []) (by as_aux_lemma => kernel_rfl) bodyB_14 (msnap_cons (snap_agg (msnap_cons rfl (msnap_cons rfl (msnap_cons rfl (msnap_cons rfl msnap_nil (by rfl)) (by rfl)) (by rfl)) (by rfl))) msnap_nil (by rfl)) (fun x1 q2 => g_lift_Check_ok p0 x1 q2) h (fun x1 q2 h => ?_)
  refine sz 1 3 ?_
  refine reg_end rfl ?_
  refine wp_seq ?_
  refine wg [1, 2, 3, 4, 10] [2] ?_
  refine rgN (S := ⟨[(1, vI p1), (2, vI p2), (3, vI p3), (4, .ptr 2 0 0), (10, vI x1), (13, vI x1), (14, vB (x1 != 0))], (s19_3 p0), 55⟩) ?_
  refine wbr (S := fun b3 => ⟨[(1, vI p1), (2, vI p2), (3, vI p3), (4, .ptr 2 0 0), (10, vI x1), (13, vI x1), (14, vB b3)], (s19_3 p0), 55⟩) h (fun q4 h => ?_) (fun q4 h => ?_)
  · refine wp_condT rfl ?_
    refine wp_seq ?_
    refine wg [10] [] ?_
    refine rn ?_
    refine wgc [8, 9] [] ⟨[(8, .nilp), (9, vI x1)], (s19_2 p0), 55⟩ ?_
    refine wp_ret ?_
    refine ⟨⟨(s19_1 p0 p1 p2 p3) ++ [(4, .ptr 0 0 0), (8, .ptr 1 0 0), (9, vI 0), (13, .agg [vI p0.Grain, vI p0.Count, vI p0.One, eL false (eL true eI) p0.Rows]), (14, vI p1), (15, vI p2), (16, vI p3), (17, .tup [.nilp, vI x1])], (s19_2 p0), 39⟩, by as_aux_lemma => kernel_rfl, ?_⟩
    refine sz 5 10 ?_
    refine reg_end rfl ?_
    refine wp_seq ?_
    refine wp_seq ?_
    refine wg [8, 10, 11] [1] ?_
    refine rn ?_
    refine wkn (S := fun b5 => ⟨[(8, .ptr 0 0 0), (10, .nilp), (11, vI x1), (20, vI x1), (21, vB b5)], [oX true true 2 (.agg [vI 0, vI 0])], 39⟩) q4 ?_
    refine wp_condT rfl ?_
    refine sq ?_
    refine wg [8, 9] [0] ?_
    refine wp_ret ?_
    cases h
    show fnOut _ _ _ _ = _
    kernel_rfl
  refine wp_condF rfl ?_
  refine wp_skip ?_
  refine wp_seq ?_
  refine wp_seq ?_
  refine reg_in ?_
  refine sz 3 3 ?_
  refine rw_wk (wk_gc (live := [1, 2, 3, 4, 18]) (keep := [2]) (st' := ⟨[(1, vI p1), (2, vI p2), (3, vI p3), (4, .ptr 2 0 0), (18, vB (decide (p1 < 0)))], (s19_3 p0), 55⟩) (by as_aux_lemma => kernel_rfl)) ?_
  refine rbr (S := fun b6 => ⟨[(1, vI p1), (2, vI p2), (3, vI p3), (4, .ptr 2 0 0), (18, vB b6)], (s19_3 p0), 55⟩) h (fun q7 h => ?_) (fun q7 h => ?_)
  · refine sgz 30 33 (S := ⟨[(1, vI p1), (2, vI p2), (3, vI p3), (4, .ptr 2 0 0), (18, vB true), (19, .tup []), (20, .tup []), (21, .tup []), (22, .tup []), (23, vB true), (24, vB true), (25, .tup []), (26, .tup []), (27, vB true), (28, vB true), (29, .tup []), (30, .tup []), (31, .tup []), (32, .tup []), (33, .tup []), (34, .tup []), (35, vB true), (36, vB true), (37, .tup []), (38, .tup []), (39, vB true), (40, vB true), (41, .tup []), (42, .tup []), (43, .tup []), (44, .tup []), (45, .tup []), (46, .tup []), (47, .tup []), (48, vB true)], (s19_3 p0), 55⟩) ?_
    refine reg_end rfl ?_
    refine wp_condT rfl ?_
    refine wp_seq ?_
    refine wg [] [] ?_
    refine rn ?_
    refine wgc [8, 9] [] ⟨[(8, .nilp), (9, vI 2)], (s19_2 p0), 55⟩ ?_
    refine wp_ret ?_
    refine ⟨⟨(s19_7 p0 p1 p2 p3), (s19_2 p0), 39⟩, by as_aux_lemma => kernel_rfl, ?_⟩
    refine sz 5 10 ?_
    refine reg_end rfl ?_
    refine wp_seq ?_
    refine wp_seq ?_
    refine wg [8, 10, 11] [1] ?_
    refine rgN (S := ⟨[(8, .ptr 0 0 0), (10, .nilp), (11, vI 2), (20, vI 2), (21, vB true)], [oX true true 2 (.agg [vI 0, vI 0])], 39⟩) ?_
    refine wp_condT rfl ?_
    refine sq ?_
    refine wg [8, 9] [0] ?_
    refine wp_ret ?_
    cases h
    show fnOut _ _ _ _ = _
    kernel_rfl
  refine sz 6 9 ?_
  refine rw_wk (wk_gc (live := [1, 2, 3, 4, 24]) (keep := [2]) (st' := ⟨[(1, vI p1), (2, vI p2), (3, vI p3), (4, .ptr 2 0 0), (24, vB (decide (p1 > p0.Count)))], (s19_3 p0), 55⟩) (by as_aux_lemma => kernel_rfl)) ?_
  refine rbr (S := fun b8 => ⟨[(1, vI p1), (2, vI p2), (3, vI p3), (4, .ptr 2 0 0), (24, vB b8)], (s19_3 p0), 55⟩) h (fun q9 h => ?_) (fun q9 h => ?_)
  · refine sgz 24 33 (S := ⟨[(1, vI p1), (2, vI p2), (3, vI p3), (4, .ptr 2 0 0), (24, vB true), (25, .tup []), (26, .tup []), (27, vB true), (28, vB true), (29, .tup []), (30, .tup []), (31, .tup []), (32, .tup []), (33, .tup []), (34, .tup []), (35, vB true), (36, vB true), (37, .tup []), (38, .tup []), (39, vB true), (40, vB true), (41, .tup []), (42, .tup []), (43, .tup []), (44, .tup []), (45, .tup []), (46, .tup []), (47, .tup []), (48, vB true)], (s19_3 p0), 55⟩) ?_
    refine reg_end rfl ?_
    refine wp_condT rfl ?_
    refine wp_seq ?_
    refine wg [] [] ?_
    refine rn ?_
    refine wgc [8, 9] [] ⟨[(8, .nilp), (9, vI 2)], (s19_2 p0), 55⟩ ?_
    refine wp_ret ?_
    refine ⟨⟨(s19_7 p0 p1 p2 p3), (s19_2 p0), 39⟩, by as_aux_lemma => kernel_rfl, ?_⟩
    refine sz 5 10 ?_
    refine reg_end rfl ?_
    refine wp_seq ?_
    refine wp_seq ?_
    refine wg [8, 10, 11] [1] ?_
    refine rgN (S := ⟨[(8, .ptr 0 0 0), (10, .nilp), (11, vI 2), (20, vI 2), (21, vB true)], [oX true true 2 (.agg [vI 0, vI 0])], 39⟩) ?_
    refine wp_condT rfl ?_
    refine sq ?_
    refine wg [8, 9] [0] ?_
    refine wp_ret ?_
    cases h
    show fnOut _ _ _ _ = _
    kernel_rfl
  refine sz 4 13 ?_
  refine rw_wk (wk_gc (live := [1, 2, 3, 4, 28]) (keep := [2]) (st' := ⟨[(1, vI p1), (2, vI p2), (3, vI p3), (4, .ptr 2 0 0), (28, vB (decide (p2 < 0)))], (s19_3 p0), 55⟩) (by as_aux_lemma => kernel_rfl)) ?_
  refine rbr (S := fun b10 => ⟨[(1, vI p1), (2, vI p2), (3, vI p3), (4, .ptr 2 0 0), (28, vB b10)], (s19_3 p0), 55⟩) h (fun q11 h => ?_) (fun q11 h => ?_)
  · refine sgz 20 33 (S := ⟨[(1, vI p1), (2, vI p2), (3, vI p3), (4, .ptr 2 0 0), (28, vB true), (29, .tup []), (30, .tup []), (31, .tup []), (32, .tup []), (33, .tup []), (34, .tup []), (35, vB true), (36, vB true), (37, .tup []), (38, .tup []), (39, vB true), (40, vB true), (41, .tup []), (42, .tup []), (43, .tup []), (44, .tup []), (45, .tup []), (46, .tup []), (47, .tup []), (48, vB true)], (s19_3 p0), 55⟩) ?_
    refine reg_end rfl ?_
    refine wp_condT rfl ?_
    refine wp_seq ?_
    refine wg [] [] ?_
    refine rn ?_
    refine wgc [8, 9] [] ⟨[(8, .nilp), (9, vI 2)], (s19_2 p0), 55⟩ ?_
    refine wp_ret ?_
    refine ⟨⟨(s19_7 p0 p1 p2 p3), (s19_2 p0), 39⟩, by as_aux_lemma => kernel_rfl, ?_⟩
    refine sz 5 10 ?_
    refine reg_end rfl ?_
    refine wp_seq ?_
    refine wp_seq ?_
    refine wg [8, 10, 11] [1] ?_
    refine rgN (S := ⟨[(8, .ptr 0 0 0), (10, .nilp), (11, vI 2), (20, vI 2), (21, vB true)], [oX true true 2 (.agg [vI 0, vI 0])], 39⟩) ?_
    refine wp_condT rfl ?_
    refine sq ?_
    refine wg [8, 9] [0] ?_
    refine wp_ret ?_
    cases h
    show fnOut _ _ _ _ = _
    kernel_rfl
  refine sz 8 21 ?_
  refine rw_wk (wk_gc (live := [1, 2, 3, 4, 36]) (keep := [2]) (st' := ⟨[(1, vI p1), (2, vI p2), (3, vI p3), (4, .ptr 2 0 0), (36, vB (decide (p2 > (IntKind.i64.wrap (p0.Count - p1)))))], (s19_3 p0), 55⟩) (by as_aux_lemma => kernel_rfl)) ?_
  refine rbr (S := fun b12 => ⟨[(1, vI p1), (2, vI p2), (3, vI p3), (4, .ptr 2 0 0), (36, vB b12)], (s19_3 p0), 55⟩) h (fun q13 h => ?_) (fun q13 h => ?_)
  · refine sgz 12 33 (S := ⟨[(1, vI p1), (2, vI p2), (3, vI p3), (4, .ptr 2 0 0), (36, vB true), (37, .tup []), (38, .tup []), (39, vB true), (40, vB true), (41, .tup []), (42, .tup []), (43, .tup []), (44, .tup []), (45, .tup []), (46, .tup []), (47, .tup []), (48, vB true)], (s19_3 p0), 55⟩) ?_
    refine reg_end rfl ?_
    refine wp_condT rfl ?_
    refine wp_seq ?_
    refine wg [] [] ?_
    refine rn ?_
    refine wgc [8, 9] [] ⟨[(8, .nilp), (9, vI 2)], (s19_2 p0), 55⟩ ?_
    refine wp_ret ?_
    refine ⟨⟨(s19_7 p0 p1 p2 p3), (s19_2 p0), 39⟩, by as_aux_lemma => kernel_rfl, ?_⟩
    refine sz 5 10 ?_
    refine reg_end rfl ?_
    refine wp_seq ?_
    refine wp_seq ?_
    refine wg [8, 10, 11] [1] ?_
    refine rgN (S := ⟨[(8, .ptr 0 0 0), (10, .nilp), (11, vI 2), (20, vI 2), (21, vB true)], [oX true true 2 (.agg [vI 0, vI 0])], 39⟩) ?_
    refine wp_condT rfl ?_
    refine sq ?_
    refine wg [8, 9] [0] ?_
    refine wp_ret ?_
    cases h
    show fnOut _ _ _ _ = _
    kernel_rfl
  refine sz 4 25 ?_
  refine rw_wk (wk_gc (live := [1, 2, 3, 4, 40]) (keep := [2]) (st' := ⟨[(1, vI p1), (2, vI p2), (3, vI p3), (4, .ptr 2 0 0), (40, vB (decide (p3 < (-1))))], (s19_3 p0), 55⟩) (by as_aux_lemma => kernel_rfl)) ?_
  refine rbr (S := fun b14 => ⟨[(1, vI p1), (2, vI p2), (3, vI p3), (4, .ptr 2 0 0), (40, vB b14)], (s19_3 p0), 55⟩) h (fun q15 h => ?_) (fun q15 h => ?_)
  · refine sgz 8 33 (S := ⟨[(1, vI p1), (2, vI p2), (3, vI p3), (4, .ptr 2 0 0), (40, vB true), (41, .tup []), (42, .tup []), (43, .tup []), (44, .tup []), (45, .tup []), (46, .tup []), (47, .tup []), (48, vB true)], (s19_3 p0), 55⟩) ?_
    refine reg_end rfl ?_
    refine wp_condT rfl ?_
    refine wp_seq ?_
    refine wg [] [] ?_
    refine rn ?_
    refine wgc [8, 9] [] ⟨[(8, .nilp), (9, vI 2)], (s19_2 p0), 55⟩ ?_
    refine wp_ret ?_
    refine ⟨⟨(s19_7 p0 p1 p2 p3), (s19_2 p0), 39⟩, by as_aux_lemma => kernel_rfl, ?_⟩
    refine sz 5 10 ?_
    refine reg_end rfl ?_
    refine wp_seq ?_
    refine wp_seq ?_
    refine wg [8, 10, 11] [1] ?_
    refine rgN (S := ⟨[(8, .ptr 0 0 0), (10, .nilp), (11, vI 2), (20, vI 2), (21, vB true)], [oX true true 2 (.agg [vI 0, vI 0])], 39⟩) ?_
    refine wp_condT rfl ?_
    refine sq ?_
    refine wg [8, 9] [0] ?_
    refine wp_ret ?_
    cases h
    show fnOut _ _ _ _ = _
    kernel_rfl
  refine sgz 3 28 (S := ⟨[(1, vI p1), (2, vI p2), (3, vI p3), (4, .ptr 2 0 0), (40, vB false), (41, vI p3), (42, .ptr 2 0 3), (43, eL false (eL true eI) p0.Rows)], (s19_3 p0), 55⟩) ?_
  refine bind_elim h (fun a16 q17 h => ?_)
  refine idxZ (enc := (eL true eI)) (l := p0.Rows) (n := 0) (fl := false) (w := 1) (a := a16) (by as_aux_lemma => kernel_rfl) q17 ?_
  refine sz 1 30 ?_
  refine lenZ (enc := eI) (l := a16) (fl := true) (by as_aux_lemma => kernel_rfl) ?_
  refine sz 2 33 ?_
  refine reg_end rfl ?_
  refine wbr (S := fun b18 => ⟨[(1, vI p1), (2, vI p2), (3, vI p3), (4, .ptr 2 0 0), (40, vB false), (41, vI p3), (42, .ptr 2 0 3), (43, eL false (eL true eI) p0.Rows), (44, .fz [eL true eI a16]), (45, eL true eI a16)] ++ [(46, vI (a16.length : Int)), (47, vB b18), (48, vB b18)], (s19_3 p0), 55⟩) h (fun q19 h => ?_) (fun q19 h => ?_)
  · refine wp_condT rfl ?_
    refine wp_seq ?_
    refine wg [] [] ?_
    refine rn ?_
    refine wgc [8, 9] [] ⟨[(8, .nilp), (9, vI 2)], (s19_2 p0), 55⟩ ?_
    refine wp_ret ?_
    refine ⟨⟨(s19_7 p0 p1 p2 p3), (s19_2 p0), 39⟩, by as_aux_lemma => kernel_rfl, ?_⟩
    refine sz 5 10 ?_
    refine reg_end rfl ?_
    refine wp_seq ?_
    refine wp_seq ?_
    refine wg [8, 10, 11] [1] ?_
    refine rgN (S := ⟨[(8, .ptr 0 0 0), (10, .nilp), (11, vI 2), (20, vI 2), (21, vB true)], [oX true true 2 (.agg [vI 0, vI 0])], 39⟩) ?_
    refine wp_condT rfl ?_
    refine sq ?_
    refine wg [8, 9] [0] ?_
    refine wp_ret ?_
    cases h
    show fnOut _ _ _ _ = _
    kernel_rfl
  refine wp_condF rfl ?_
  refine wp_skip ?_
  refine wp_seq ?_
  refine wg [1, 2, 3, 4] [2] ?_
  refine reg_in ?_
  refine sz 5 5 ?_
  refine sl false [] [] false rfl ?_
  refine sz 2 8 ?_
  refine reg_end rfl ?_
  refine wgc [8, 9] [3] ⟨[(8, .ptr 2 0 0), (9, vI 0)], (s19_18 p0 p1 p2 p3), 55⟩ ?_
  refine wp_ret ?_
  refine ⟨⟨(s19_1 p0 p1 p2 p3) ++ [(4, .ptr 0 0 0), (8, .ptr 1 0 0), (9, vI 0), (13, .agg [vI p0.Grain, vI p0.Count, vI p0.One, eL false (eL true eI) p0.Rows]), (14, vI p1), (15, vI p2), (16, vI p3), (17, .tup [.ptr 2 0 0, vI 0])], (s19_18 p0 p1 p2 p3), 39⟩, by as_aux_lemma => kernel_rfl, ?_⟩
  refine sz 5 10 ?_
  refine reg_end rfl ?_
  refine wp_seq ?_
  refine wp_seq ?_
  refine wg [8, 10, 11] [1, 2] ?_
  refine rgN (S := ⟨[(8, .ptr 0 0 0), (10, .ptr 1 0 0), (11, vI 0), (20, vI 0), (21, vB false)], (s19_19 p0 p1 p2 p3), 39⟩) ?_
  refine wp_condF rfl ?_
  refine wp_skip ?_
  refine wp_seq ?_
  refine rga hfol ?_
  refine sgy 1 1 (S := ⟨[(8, .ptr 0 0 0), (10, .ptr 1 0 0), (11, vI 0), (20, vI 0), (21, vB false), (24, .ptr 1 0 0)], (s19_19 p0 p1 p2 p3), 39⟩) ?_
  refine callZ (as0 := [.ptr 1 0 0]) (ids := [1]) (by as_aux_lemma => kernel_rfl) bodyB_44 (msnap_cons (snap_ptr rfl (msnap_cons (snap_agg (msnap_cons rfl (msnap_cons rfl (msnap_cons rfl (msnap_cons rfl (msnap_cons rfl (msnap_cons rfl (msnap_cons rfl msnap_nil (by rfl)) (by rfl)) (by rfl)) (by rfl)) (by rfl)) (by rfl)) (by rfl))) msnap_nil (by rfl)) (by rfl) (by rfl)) msnap_nil (by rfl)) (fun x20 q21 => g_lift_counter_mass_ok (Tlift_counter.mk p0 p1 p2 p3) x20 q21) h (fun x20 q21 h => ?_)
  refine sy 11 13 ?_
  refine callZ (as0 := [vI p0.Grain, vI (IntKind.i64.wrap (p0.Count + 1))]) (ids := []) (by as_aux_lemma => kernel_rfl) bodyB_45 (msnap_cons rfl (msnap_cons rfl msnap_nil (by rfl)) (by rfl)) (fun x22 q23 => g_weigh_Whole_ok p0.Grain (IntKind.i64.wrap (p0.Count + 1)) x22 q23) h (fun x22 q23 h => ?_)
  refine callZ (as0 := [vI x20, vI x22]) (ids := []) (by as_aux_lemma => kernel_rfl) bodyB_43 (msnap_cons rfl (msnap_cons rfl msnap_nil (by rfl)) (by rfl)) (fun x24 q25 => g_weigh_Ratio_ok x20 x22 x24 q25) h (fun x24 q25 h => ?_)
  refine sy 2 17 ?_
  refine rgd ?_
  refine wg [8, 9] [0] ?_
  refine wp_ret ?_
  cases h
  show fnOut _ _ _ _ = _
  kernel_rfl
end Go.Ab
