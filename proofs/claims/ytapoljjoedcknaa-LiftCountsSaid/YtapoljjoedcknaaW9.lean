/- What functions compute. No conditions. -/
import Derived.Test.YtapoljjoedcknaaProg
import Derived.Test.YtapoljjoedcknaaW8
import Derived.KernelRfl
set_option linter.all false
namespace Go.Ab
open Go Go.Proofs
set_option maxRecDepth 100000
set_option maxHeartbeats 4000000
theorem g_weigh_Ratio_ok (p0 : Int) (p1 : Int) (x : Tapi_Q) (h : g_weigh_Ratio p0 p1 = some x) : CallOk Try.prog 43 [vI p0, vI p1] (.ret (.agg [vI x.N, vI x.D]) []) := by
  refine fn_ok [] Try.func43 rfl (by decide +kernel) rfl ?_
  unfold g_weigh_Ratio at h
  refine wp_eqB (base' := 0) (st' := ⟨[(0, vI p0), (1, vI p1)], [], 25⟩) rfl (by kernel_rfl) ?_
  refine sq (sq (wp_seq (wp_block ?_)))
  refine wwh h (fun s1 => ⟨[(0, vI p0), (1, vI p1), (4, .ptr 0 0 0), (5, vI s1.1), (6, vI s1.2)], [oX true true 2 (.agg [vI 0, vI 0])], 25⟩) (fun v out => out = .go (.exit 0) ⟨[(0, vI p0), (1, vI p1), (4, .ptr 0 0 0), (5, vI v)], [oX true true 2 (.agg [vI 0, vI 0])], 25⟩) (wk_gc (live := [0, 1, 4, 5, 6]) (keep := [0]) (by kernel_rfl)) ?_ ?_
  · intro s1 o h
    unfold g_weigh_Ratio_b0 at h
    refine wp_seq (sq ?_)
    refine wbr (S := fun b2 => ⟨[(0, vI p0), (1, vI p1), (4, .ptr 0 0 0), (5, vI s1.1), (6, vI s1.2), (12, vI s1.2), (13, vB b2)], [oX true true 2 (.agg [vI 0, vI 0])], 25⟩) h (fun q3 h => ?_) (fun q3 h => ?_)
    · refine wcT (wp_skip (wp_block (rga hfol ?_)))
      refine sgy 3 3 (S := ⟨[(0, vI p0), (1, vI p1), (4, .ptr 0 0 0), (5, vI s1.1), (6, vI s1.2), (12, vI s1.2), (13, vB true), (14, vI s1.2), (15, vI s1.1), (16, vI s1.2)], [oX true true 2 (.agg [vI 0, vI 0])], 25⟩) ?_
      refine remR (k := .i64) (a := s1.1) (b := s1.2) (S := ⟨[(0, vI p0), (1, vI p1), (4, .ptr 0 0 0), (5, vI s1.1), (6, vI s1.2), (12, vI s1.2), (13, vB true), (14, vI s1.2), (15, vI s1.1), (16, vI s1.2), (17, vI (Int.tmod s1.1 s1.2))], [oX true true 2 (.agg [vI 0, vI 0])], 25⟩) (by kernel_rfl) (by kernel_rfl) h (fun h => ?_)
      refine sy 2 6 (rgd ?_)
      cases h
      exact ⟨_, rfl, (wk_gc (live := [0, 1, 4, 5, 6]) (keep := [0]) (by kernel_rfl))⟩
    refine wcF ?_
    refine wgc [0, 1, 4, 5] [0] ⟨[(0, vI p0), (1, vI p1), (4, .ptr 0 0 0), (5, vI s1.1)], [oX true true 2 (.agg [vI 0, vI 0])], 25⟩ ?_
    refine wp_exit ?_
    cases h
    exact ⟨rfl, rfl⟩
  intro x5 h out hx
  subst hx
  refine wp_seq (rga hfol ?_)
  refine sgy 2 2 (S := ⟨[(0, vI p0), (1, vI p1), (4, .ptr 0 0 0), (5, vI x5), (18, vI p0), (19, vI x5)], [oX true true 2 (.agg [vI 0, vI 0])], 25⟩) ?_
  refine quoR (k := .i64) (a := p0) (b := x5) (S := ⟨[(0, vI p0), (1, vI p1), (4, .ptr 0 0 0), (5, vI x5), (18, vI p0), (19, vI x5), (20, vI (IntKind.i64.wrap (Int.tdiv p0 x5)))], [oX true true 2 (.agg [vI 0, vI 0])], 25⟩) (by kernel_rfl) (by kernel_rfl) h (fun h => ?_)
  refine sgy 2 5 (S := ⟨[(0, vI p0), (1, vI p1), (4, .ptr 0 0 0), (5, vI x5), (18, vI p0), (19, vI x5), (20, vI (IntKind.i64.wrap (Int.tdiv p0 x5))), (21, vI p1), (22, vI x5)], [oX true true 2 (.agg [vI 0, vI 0])], 25⟩) ?_
  refine quoR (k := .i64) (a := p1) (b := x5) (S := ⟨[(0, vI p0), (1, vI p1), (4, .ptr 0 0 0), (5, vI x5), (18, vI p0), (19, vI x5), (20, vI (IntKind.i64.wrap (Int.tdiv p0 x5))), (21, vI p1), (22, vI x5), (23, vI (IntKind.i64.wrap (Int.tdiv p1 x5)))], [oX true true 2 (.agg [vI 0, vI 0])], 25⟩) (by kernel_rfl) (by kernel_rfl) h (fun h => ?_)
  refine sy 2 8 (rgd (wg [4] [0] ?_))
  cases h
  exact wp_ret (show fnOut _ _ _ _ = _ from by kernel_rfl)
theorem g_lift_counter_numbers_ok (p0 : Tlift_counter) (x : (List Int)) (h : g_lift_counter_numbers p0 = some x) : CallOk Try.prog 50 [.fz [vI p0.Lift.Grain, vI p0.Lift.Count, vI p0.Lift.One, eL false (eL true eI) p0.Lift.Rows, vI p0.zeros, vI p0.ones, vI p0.child]] (.ret (.ref 0 0 x.length) [oR true 1 eI x]) := by
  refine fn_ok [] Try.func50 rfl (by decide +kernel) rfl ?_
  unfold g_lift_counter_numbers at h
  refine wp_eqB (base' := 0) (st' := ⟨[(0, .fz [vI p0.Lift.Grain, vI p0.Lift.Count, vI p0.Lift.One, eL false (eL true eI) p0.Lift.Rows, vI p0.zeros, vI p0.ones, vI p0.child])], [], 20⟩) rfl (by kernel_rfl) ?_
  refine sq (sq (wp_seq (sq (wp_block ?_))))
  refine wwh h (fun s1 => ⟨[(3, .ref 0 0 s1.2.length), (10, vI (IntKind.i64.wrap (p0.Lift.Count + 1))), (11, vI s1.1)], [oR true 1 eI s1.2], 20⟩) (fun v out => out = .go (.exit 0) ⟨[(3, .ref 0 0 v.length)], [oR true 1 eI v], 20⟩) (wk_trans (wk_gc (live := [3, 10, 11]) (keep := []) (st' := ⟨[(3, .nils), (10, vI (IntKind.i64.wrap (p0.Lift.Count + 1))), (11, vI 0)], [], 20⟩) (by kernel_rfl)) (wk_trans (wk_nil 3 1 true true (st' := ⟨[(3, .ref 0 0 0), (10, vI (IntKind.i64.wrap (p0.Lift.Count + 1))), (11, vI 0)], [.row false false true true 1 []], 20⟩) (by kernel_rfl)) (wk_gc (live := [3, 10, 11]) (keep := [0]) (by kernel_rfl)))) ?_ ?_
  · intro s1 o h
    unfold g_lift_counter_numbers_b0 at h
    refine sq (wp_seq ?_)
    refine wbr (S := fun b2 => ⟨[(3, .ref 0 0 s1.2.length), (10, vI (IntKind.i64.wrap (p0.Lift.Count + 1))), (11, vI s1.1), (12, vB b2)], [oR true 1 eI s1.2], 20⟩) h (fun q3 h => ?_) (fun q3 h => ?_)
    · refine wcT (wp_skip (wp_seq (wp_block (sq (reg_in (sz 2 2 ?_))))))
      refine sgL false [] [] true (S := ⟨[(3, .ref 0 0 s1.2.length), (10, vI (IntKind.i64.wrap (p0.Lift.Count + 1))), (11, vI s1.1), (12, vB true), (13, vI s1.1), (4, vI s1.1), (14, .ref 0 0 s1.2.length), (15, vI s1.1), (16, .ref 1 0 1)], [oR true 1 eI s1.2, .row false false true true 1 [vI s1.1]], 20⟩) (by kernel_rfl) ?_
      refine appR (enc := eI) (l := s1.2) (m := ([s1.1] : (List Int))) (w := 1) (bytes := 8) (ob := 0) (nr := true) (fl := true) (nr' := true) (fl' := true) (b := .ref 1 0 1) (rds := [1]) (S := ⟨[(3, .ref 0 0 s1.2.length), (10, vI (IntKind.i64.wrap (p0.Lift.Count + 1))), (11, vI s1.1), (12, vB true), (13, vI s1.1), (4, vI s1.1), (14, .ref 0 0 s1.2.length), (15, vI s1.1), (16, .ref 1 0 1), (17, .ref 2 0 ((s1.2 ++ ([s1.1] : (List Int))).length))], [.dead, .row false false true true 1 [vI s1.1], oR true 1 eI (s1.2 ++ ([s1.1] : (List Int)))], 20⟩) false (by kernel_rfl) rfl (by kernel_rfl) rfl (by kernel_rfl) (by kernel_rfl) h (fun h => ?_)
      refine sz 1 5 (reg_end rfl (wg [3, 10, 11] [2] (rn ?_)))
      cases h
      exact ⟨_, rfl, (wk_gc (live := [3, 10, 11]) (keep := [0]) (by kernel_rfl))⟩
    refine wcF ?_
    refine wgc [3] [0] ⟨[(3, .ref 0 0 s1.2.length)], [oR true 1 eI s1.2], 20⟩ ?_
    refine wp_exit ?_
    cases h
    exact ⟨rfl, rfl⟩
  intro x5 h out hx
  subst hx
  refine sq (wg [2] [0] ?_)
  cases h
  exact wp_ret (show fnOut _ _ _ _ = _ from by kernel_rfl)
theorem g_lift_counter_unknown_ok (p0 : Tlift_counter) (x : Int) (h : g_lift_counter_unknown p0 = some x) : CallOk Try.prog 54 [.fz [vI p0.Lift.Grain, vI p0.Lift.Count, vI p0.Lift.One, eL false (eL true eI) p0.Lift.Rows, vI p0.zeros, vI p0.ones, vI p0.child]] (.ret (vI x) []) := by
  refine fn_ok [] Try.func54 rfl (by decide +kernel) rfl ?_
  unfold g_lift_counter_unknown at h
  refine wp_eqB (base' := 0) (st' := ⟨[(0, .fz [vI p0.Lift.Grain, vI p0.Lift.Count, vI p0.Lift.One, eL false (eL true eI) p0.Lift.Rows, vI p0.zeros, vI p0.ones, vI p0.child])], [], 18⟩) rfl (by kernel_rfl) ?_
  refine sq (wp_seq (rga hfol (sy 16 16 (rgd (wg [2] [] ?_)))))
  cases h
  exact wp_ret (show fnOut _ _ _ _ = _ from by kernel_rfl)
noncomputable abbrev s70_44 (s4 : (Int × (List Int))) (p0 : Int) (s1 : (Int × (List Int) × (List Int))) : List (Nat × AV) := [(0, .yld 2), (4, .ref 4 0 s4.2.length), (8, vI p0), (9, vI s1.1), (19, .ref 3 0 s1.2.2.length), (20, vI (s1.2.2.length : Int)), (21, vI s4.1)]
theorem g_lift_binomial_ok (p0 : Int) (x : (List Int)) (h : g_lift_binomial p0 = some x) : CallOk Try.prog 70 [vI p0] (.ret (.ref 0 0 x.length) [oR true 1 eI x]) := by
  refine fn_ok [] Try.func70 rfl (by decide +kernel) rfl ?_
  unfold g_lift_binomial at h
  refine wp_eqB (base' := 0) (st' := ⟨[(0, vI p0)], [], 10⟩) rfl (by kernel_rfl) ?_
  refine sq (wp_seq (reg_in ?_))
  refine sl false [] [] false rfl ?_
  refine reg_end rfl (wp_seq (wp_seq (reg_in ?_)))
  refine sgz 1 1 (S := ⟨[(0, vI p0), (2, .nils), (3, .ptr 0 0 0), (5, vI p0)], [oX true false 1 (.nils)], 10⟩) ?_
  refine inlR (f := 87) (fn := Try.f87) (as0 := [vI p0]) (by kernel_rfl) Try.func87 rfl (by decide +kernel) rfl ?_
  refine wp_eqB (base' := 1) (st' := ⟨[(0, vI p0)], [oX true false 1 (.nils)], 4⟩) rfl (by kernel_rfl) ?_
  refine sq (sq (wg [2] [1] ?_))
  refine wp_ret ?_
  refine ez ?_
  refine reg_end rfl (wp_block ?_)
  refine wgc [3, 6] [0, 1] ⟨[(3, .ptr 0 0 0), (6, .fn (.func 95) [] [.ptr 1 0 0])], [oX true false 1 (.nils), oX true true 1 (vI p0)], 10⟩ ?_
  refine wp_range (f := 95) (fn := Try.f95) (first := []) (caps := [.ptr 1 0 0]) rfl Try.func95 rfl (by decide +kernel) rfl rfl ?_
  refine wp_eqB (base' := 3) (st' := ⟨[(0, .yld 2), (1, .ptr 1 0 0)], [oX true false 1 (.nils), oX true true 1 (vI p0), .loop 10 [(3, .ptr 0 0 0), (6, .fn (.func 95) [] [.ptr 1 0 0])] [7] (cA Try.f70 [true, true, false, true, true]) (cB Try.f70 [true, true, false, true, true]) .ready none], 47⟩) rfl (by kernel_rfl) ?_
  refine wp_seq (reg_in ?_)
  refine sl false [] [] true rfl ?_
  refine sz 1 2 (reg_end rfl (wp_seq (sq (wp_block ?_))))
  refine wwh h (fun s1 => ⟨[(0, .yld 2), (3, .ref 4 0 s1.2.2.length), (8, vI p0), (9, vI s1.1)], [oX false false 1 (.ref 3 0 s1.2.1.length), oX true true 1 (vI p0), .loop 10 [(3, .ptr 0 0 0), (6, .fn (.func 95) [] [.ptr 1 0 0])] [7] (cA Try.f70 [true, true, false, true, true]) (cB Try.f70 [true, true, false, true, true]) .ready none, oR true 1 eI s1.2.1, oR true 1 eI s1.2.2], 47⟩) (fun v out => out = .go (.exit 0) ⟨[(0, .yld 2), (3, .ref 4 0 v.2.length)], [oX false false 1 (.ref 3 0 v.1.length), oX true true 1 (vI p0), .loop 10 [(3, .ptr 0 0 0), (6, .fn (.func 95) [] [.ptr 1 0 0])] [7] (cA Try.f70 [true, true, false, true, true]) (cB Try.f70 [true, true, false, true, true]) .ready none, oR true 1 eI v.1, oR true 1 eI v.2], 47⟩) (wk_trans (wk_gc (live := [0, 3, 8, 9]) (keep := [3]) (st' := ⟨[(0, .yld 2), (3, .ref 3 0 1), (8, vI p0), (9, vI 0)], [oX true false 1 (.nils), oX true true 1 (vI p0), .loop 10 [(3, .ptr 0 0 0), (6, .fn (.func 95) [] [.ptr 1 0 0])] [7] (cA Try.f70 [true, true, false, true, true]) (cB Try.f70 [true, true, false, true, true]) .ready none, .row false false true true 1 [vI 1]], 47⟩) (by kernel_rfl)) (wk_trans (wk_nilO 0 0 0 1 true true (st' := ⟨[(0, .yld 2), (3, .ref 3 0 1), (8, vI p0), (9, vI 0)], [oX false false 1 (.ref 4 0 0), oX true true 1 (vI p0), .loop 10 [(3, .ptr 0 0 0), (6, .fn (.func 95) [] [.ptr 1 0 0])] [7] (cA Try.f70 [true, true, false, true, true]) (cB Try.f70 [true, true, false, true, true]) .ready none, .row false false true true 1 [vI 1], .row false false true true 1 []], 47⟩) (by kernel_rfl)) (wk_gc (live := [0, 3, 8, 9]) (keep := [4, 3]) (by kernel_rfl)))) ?_ ?_
  · intro s1 o h
    unfold g_lift_binomial_b1 at h
    refine sq (wp_seq ?_)
    refine wbr (S := fun b2 => ⟨[(0, .yld 2), (3, .ref 4 0 s1.2.2.length), (8, vI p0), (9, vI s1.1), (10, vB b2)], [oX false false 1 (.ref 3 0 s1.2.1.length), oX true true 1 (vI p0), .loop 10 [(3, .ptr 0 0 0), (6, .fn (.func 95) [] [.ptr 1 0 0])] [7] (cA Try.f70 [true, true, false, true, true]) (cB Try.f70 [true, true, false, true, true]) .ready none, oR true 1 eI s1.2.1, oR true 1 eI s1.2.2], 47⟩) h (fun q3 h => ?_) (fun q3 h => ?_)
    · refine wcT (wp_skip (wp_seq (wp_block (wp_seq (wp_seq (reg_in ?_))))))
      refine sgz 2 2 (S := ⟨[(0, .yld 2), (3, .ref 4 0 s1.2.2.length), (8, vI p0), (9, vI s1.1), (10, vB true), (11, .yld 2), (12, .ref 4 0 s1.2.2.length)], [oX false false 1 (.ref 3 0 s1.2.1.length), oX true true 1 (vI p0), .loop 10 [(3, .ptr 0 0 0), (6, .fn (.func 95) [] [.ptr 1 0 0])] [7] (cA Try.f70 [true, true, false, true, true]) (cB Try.f70 [true, true, false, true, true]) .ready none, oR true 1 eI s1.2.1, oR true 1 eI s1.2.2], 47⟩) ?_
      refine yldR (l := 2) (nt := 10) (us := [.ref 4 0 s1.2.2.length]) (sl := [(3, .ptr 0 0 0), (6, .fn (.func 95) [] [.ptr 1 0 0])]) (ps := [7]) (assign := cA Try.f70 [true, true, false, true, true]) (body := cB Try.f70 [true, true, false, true, true]) (pe := none) (by kernel_rfl) rfl rfl ?_
      refine wp_eqB (base' := 5) (st' := ⟨[(3, .ptr 0 0 0), (6, .fn (.func 95) [] [.ptr 1 0 0]), (7, .ref 4 0 s1.2.2.length)], [oX false false 1 (.ref 3 0 s1.2.1.length), oX true true 1 (vI p0), .loop 10 [(3, .ptr 0 0 0), (6, .fn (.func 95) [] [.ptr 1 0 0])] [7] (cA Try.f70 [true, true, false, true, true]) (cB Try.f70 [true, true, false, true, true]) .ready none, oR true 1 eI s1.2.1, oR true 1 eI s1.2.2], 10⟩) rfl (by kernel_rfl) ?_
      refine rn ?_
      refine ez ?_
      refine wp_block (rn ?_)
      refine ez ?_
      refine sz 1 4 (reg_end rfl (wcF (wp_skip (wp_seq (wg [0, 3, 8, 9] [4] (reg_in ?_))))))
      refine sgz 3 3 (S := ⟨[(0, .yld 2), (3, .ref 3 0 s1.2.2.length), (8, vI p0), (9, vI s1.1), (15, .ref 3 0 s1.2.2.length), (16, vI (s1.2.2.length : Int)), (17, vI (IntKind.i64.wrap ((s1.2.2.length : Int) + 1)))], [oX false false 1 (.ref 3 0 s1.2.2.length), oX true true 1 (vI p0), .loop 10 [(3, .ptr 0 0 0), (6, .fn (.func 95) [] [.ptr 1 0 0])] [7] (cA Try.f70 [true, true, false, true, true]) (cB Try.f70 [true, true, false, true, true]) .ready none, oR true 1 eI s1.2.2], 47⟩) ?_
      refine mkL (enc := eI) (z := (0 : Int)) (z0 := vI 0) (n := IntKind.i64.wrap ((s1.2.2.length : Int) + 1)) (m := IntKind.i64.wrap ((s1.2.2.length : Int) + 1)) (w := 1) (bytes := 8) (S := ⟨[(0, .yld 2), (3, .ref 3 0 s1.2.2.length), (8, vI p0), (9, vI s1.1), (15, .ref 3 0 s1.2.2.length), (16, vI (s1.2.2.length : Int)), (17, vI (IntKind.i64.wrap ((s1.2.2.length : Int) + 1)))] ++ [(18, .ref 4 0 ((List.replicate (Int.toNat (IntKind.i64.wrap ((s1.2.2.length : Int) + 1))) (0 : Int)).length))], [oX false false 1 (.ref 3 0 s1.2.2.length), oX true true 1 (vI p0), .loop 10 [(3, .ptr 0 0 0), (6, .fn (.func 95) [] [.ptr 1 0 0])] [7] (cA Try.f70 [true, true, false, true, true]) (cB Try.f70 [true, true, false, true, true]) .ready none, oR true 1 eI s1.2.2, oR true 1 eI (List.replicate (Int.toNat (IntKind.i64.wrap ((s1.2.2.length : Int) + 1))) (0 : Int))], 47⟩) [] true (by kernel_rfl) rfl (by kernel_rfl) (by kernel_rfl) h (fun h => ?_)
      refine sz 1 5 (reg_end rfl (wp_seq (sq (wp_block ?_))))
      refine wwh h (fun s4 => ⟨(s70_44 s4 p0 s1), [oX false false 1 (.ref 3 0 s1.2.2.length), oX true true 1 (vI p0), .loop 10 [(3, .ptr 0 0 0), (6, .fn (.func 95) [] [.ptr 1 0 0])] [7] (cA Try.f70 [true, true, false, true, true]) (cB Try.f70 [true, true, false, true, true]) .ready none, oR true 1 eI s1.2.2, oR true 1 eI s4.2], 47⟩) (fun v out => out = .go (.exit 2) ⟨[(0, .yld 2), (4, .ref 4 0 v.length), (8, vI p0), (9, vI s1.1)], [oX false false 1 (.ref 3 0 s1.2.2.length), oX true true 1 (vI p0), .loop 10 [(3, .ptr 0 0 0), (6, .fn (.func 95) [] [.ptr 1 0 0])] [7] (cA Try.f70 [true, true, false, true, true]) (cB Try.f70 [true, true, false, true, true]) .ready none, oR true 1 eI s1.2.2, oR true 1 eI v], 47⟩) (wk_gc (live := [0, 4, 8, 9, 19, 20, 21]) (keep := [3, 4]) (by kernel_rfl)) ?_ ?_
      · intro s4 o h
        unfold g_lift_binomial_b0 at h
        refine sq (wp_seq ?_)
        refine wbr (S := fun b5 => ⟨(s70_44 s4 p0 s1) ++ [(22, vB b5)], [oX false false 1 (.ref 3 0 s1.2.2.length), oX true true 1 (vI p0), .loop 10 [(3, .ptr 0 0 0), (6, .fn (.func 95) [] [.ptr 1 0 0])] [7] (cA Try.f70 [true, true, false, true, true]) (cB Try.f70 [true, true, false, true, true]) .ready none, oR true 1 eI s1.2.2, oR true 1 eI s4.2], 47⟩) h (fun q6 h => ?_) (fun q6 h => ?_)
        · refine wcT (wp_skip (wp_seq (wp_block (wp_seq (reg_in (sz 1 1 ?_))))))
          refine bind_elim h (fun a7 q8 h => ?_)
          refine idxY (enc := eI) (l := s1.2.2) (n := s4.1) (w := 1) (ob := 3) (ro := false) (nr := true) (fl := true) q8 ?_
          refine loadY (enc := eI) (l := s1.2.2) (n := s4.1) (w := 1) (ob := 3) (c := 0) (bx := false) (ro := false) (nr := true) (fl := true) q8 ?_
          refine sz 2 5 (reg_end rfl (wp_seq (reg_in (sz 2 2 ?_))))
          refine bind_elim h (fun a9 q10 h => ?_)
          refine idxY (enc := eI) (l := s4.2) (n := s4.1) (w := 1) (ob := 4) (ro := false) (nr := true) (fl := true) q10 ?_
          refine loadR (enc := eI) (l := s4.2) (n := s4.1) (w := 1) (ob := 4) (c := 0) (bx := false) (ro := false) (nr := true) (fl := true) (a := a9) (S := ⟨(s70_44 s4 p0 s1) ++ [(22, vB true), (23, vI s4.1), (24, .ptr 3 (Int.toNat s4.1) 0), (25, vI a7), (5, vI s4.1), (6, vI a7), (26, .ref 4 0 s4.2.length), (27, vI s4.1), (28, .ptr 4 (Int.toNat s4.1) 0), (29, vI a9)], [oX false false 1 (.ref 3 0 s1.2.2.length), oX true true 1 (vI p0), .loop 10 [(3, .ptr 0 0 0), (6, .fn (.func 95) [] [.ptr 1 0 0])] [7] (cA Try.f70 [true, true, false, true, true]) (cB Try.f70 [true, true, false, true, true]) .ready none, oR true 1 eI s1.2.2, oR true 1 eI s4.2], 47⟩) (by kernel_rfl) (by kernel_rfl) q10 (by kernel_rfl) ?_
          refine sz 2 6 ?_
          refine idxR' (enc := eI) (l := s4.2) (n := s4.1) (w := 1) (ob := 4) (ro := false) (nr := true) (fl := true) (a := a9) (S := ⟨(s70_44 s4 p0 s1) ++ [(22, vB true), (23, vI s4.1), (24, .ptr 3 (Int.toNat s4.1) 0), (25, vI a7), (5, vI s4.1), (6, vI a7), (26, .ref 4 0 s4.2.length), (27, vI s4.1), (28, .ptr 4 (Int.toNat s4.1) 0), (29, vI a9), (30, vI a7), (31, vI (IntKind.i64.wrap (a9 + a7)))] ++ [(32, .ptr 4 (Int.toNat s4.1) 0)], [oX false false 1 (.ref 3 0 s1.2.2.length), oX true true 1 (vI p0), .loop 10 [(3, .ptr 0 0 0), (6, .fn (.func 95) [] [.ptr 1 0 0])] [7] (cA Try.f70 [true, true, false, true, true]) (cB Try.f70 [true, true, false, true, true]) .ready none, oR true 1 eI s1.2.2, oR true 1 eI s4.2], 47⟩) (by kernel_rfl) (by kernel_rfl) (by kernel_rfl) q10 ?_
          refine storeR (enc := eI) (l := s4.2) (n := s4.1) (ob := 4) (c := 0) (a := a9) (a' := IntKind.i64.wrap (a9 + a7)) (v := vI (IntKind.i64.wrap (a9 + a7))) (S := ⟨(s70_44 s4 p0 s1) ++ [(22, vB true), (23, vI s4.1), (24, .ptr 3 (Int.toNat s4.1) 0), (25, vI a7), (5, vI s4.1), (6, vI a7), (26, .ref 4 0 s4.2.length), (27, vI s4.1), (28, .ptr 4 (Int.toNat s4.1) 0), (29, vI a9), (30, vI a7), (31, vI (IntKind.i64.wrap (a9 + a7)))] ++ [(32, .ptr 4 (Int.toNat s4.1) 0)], [oX false false 1 (.ref 3 0 s1.2.2.length), oX true true 1 (vI p0), .loop 10 [(3, .ptr 0 0 0), (6, .fn (.func 95) [] [.ptr 1 0 0])] [7] (cA Try.f70 [true, true, false, true, true]) (cB Try.f70 [true, true, false, true, true]) .ready none, oR true 1 eI s1.2.2, oR true 1 eI (List.set s4.2 (Int.toNat s4.1) (IntKind.i64.wrap (a9 + a7)))], 47⟩) false (by kernel_rfl) rfl q10 (by kernel_rfl) rfl (by kernel_rfl) (by kernel_rfl) (by kernel_rfl) ?_
          refine rw_knN (n := s4.2.length) (m := (List.set s4.2 (Int.toNat s4.1) (IntKind.i64.wrap (a9 + a7))).length) (S := fun n16 => ⟨[(0, .yld 2), (4, .ref 4 0 n16), (8, vI p0), (9, vI s1.1), (19, .ref 3 0 s1.2.2.length), (20, vI (s1.2.2.length : Int)), (21, vI s4.1), (22, vB true), (23, vI s4.1), (24, .ptr 3 (Int.toNat s4.1) 0), (25, vI a7), (5, vI s4.1), (6, vI a7), (26, .ref 4 0 n16), (27, vI s4.1), (28, .ptr 4 (Int.toNat s4.1) 0), (29, vI a9), (30, vI a7), (31, vI (IntKind.i64.wrap (a9 + a7))), (32, .ptr 4 (Int.toNat s4.1) 0)], [oX false false 1 (.ref 3 0 s1.2.2.length), oX true true 1 (vI p0), .loop 10 [(3, .ptr 0 0 0), (6, .fn (.func 95) [] [.ptr 1 0 0])] [7] (cA Try.f70 [true, true, false, true, true]) (cB Try.f70 [true, true, false, true, true]) .ready none, oR true 1 eI s1.2.2, oR true 1 eI (List.set s4.2 (Int.toNat s4.1) (IntKind.i64.wrap (a9 + a7)))], 47⟩) (by simp only [List.length_set]) ?_
          refine reg_end rfl (wg [0, 4, 8, 9, 19, 20, 21, 5, 6] [3, 4] (reg_in (sz 3 3 ?_)))
          refine bind_elim h (fun a11 q12 h => ?_)
          refine idxY (enc := eI) (l := (List.set s4.2 (Int.toNat s4.1) (IntKind.i64.wrap (a9 + a7)))) (n := IntKind.i64.wrap (s4.1 + 1)) (w := 1) (ob := 4) (ro := false) (nr := true) (fl := true) q12 ?_
          refine loadY (enc := eI) (l := (List.set s4.2 (Int.toNat s4.1) (IntKind.i64.wrap (a9 + a7)))) (n := IntKind.i64.wrap (s4.1 + 1)) (w := 1) (ob := 4) (c := 0) (bx := false) (ro := false) (nr := true) (fl := true) q12 ?_
          refine sz 2 7 ?_
          refine idxR' (enc := eI) (l := (List.set s4.2 (Int.toNat s4.1) (IntKind.i64.wrap (a9 + a7)))) (n := IntKind.i64.wrap (s4.1 + 1)) (w := 1) (ob := 4) (ro := false) (nr := true) (fl := true) (a := a11) (S := ⟨[(0, .yld 2), (4, .ref 4 0 ((List.set s4.2 (Int.toNat s4.1) (IntKind.i64.wrap (a9 + a7))).length)), (8, vI p0), (9, vI s1.1), (19, .ref 3 0 s1.2.2.length), (20, vI (s1.2.2.length : Int)), (21, vI s4.1), (5, vI s4.1), (6, vI a7)] ++ [(33, .ref 4 0 ((List.set s4.2 (Int.toNat s4.1) (IntKind.i64.wrap (a9 + a7))).length)), (34, vI s4.1), (35, vI (IntKind.i64.wrap (s4.1 + 1))), (36, .ptr 4 (Int.toNat (IntKind.i64.wrap (s4.1 + 1))) 0), (37, vI a11), (38, vI a7), (39, vI (IntKind.i64.wrap (a11 + a7)))] ++ [(40, .ptr 4 (Int.toNat (IntKind.i64.wrap (s4.1 + 1))) 0)], [oX false false 1 (.ref 3 0 s1.2.2.length), oX true true 1 (vI p0), .loop 10 [(3, .ptr 0 0 0), (6, .fn (.func 95) [] [.ptr 1 0 0])] [7] (cA Try.f70 [true, true, false, true, true]) (cB Try.f70 [true, true, false, true, true]) .ready none, oR true 1 eI s1.2.2, oR true 1 eI (List.set s4.2 (Int.toNat s4.1) (IntKind.i64.wrap (a9 + a7)))], 47⟩) (by kernel_rfl) (by kernel_rfl) (by kernel_rfl) q12 ?_
          refine bind_elim h (fun a13 q14 h => ?_)
          refine storeR (enc := eI) (l := (List.set s4.2 (Int.toNat s4.1) (IntKind.i64.wrap (a9 + a7)))) (n := (IntKind.i64.wrap (s4.1 + 1))) (ob := 4) (c := 0) (a := a13) (a' := IntKind.i64.wrap (a11 + a7)) (v := vI (IntKind.i64.wrap (a11 + a7))) (S := ⟨[(0, .yld 2), (4, .ref 4 0 ((List.set s4.2 (Int.toNat s4.1) (IntKind.i64.wrap (a9 + a7))).length)), (8, vI p0), (9, vI s1.1), (19, .ref 3 0 s1.2.2.length), (20, vI (s1.2.2.length : Int)), (21, vI s4.1), (5, vI s4.1), (6, vI a7)] ++ [(33, .ref 4 0 ((List.set s4.2 (Int.toNat s4.1) (IntKind.i64.wrap (a9 + a7))).length)), (34, vI s4.1), (35, vI (IntKind.i64.wrap (s4.1 + 1))), (36, .ptr 4 (Int.toNat (IntKind.i64.wrap (s4.1 + 1))) 0), (37, vI a11), (38, vI a7), (39, vI (IntKind.i64.wrap (a11 + a7)))] ++ [(40, .ptr 4 (Int.toNat (IntKind.i64.wrap (s4.1 + 1))) 0)], [oX false false 1 (.ref 3 0 s1.2.2.length), oX true true 1 (vI p0), .loop 10 [(3, .ptr 0 0 0), (6, .fn (.func 95) [] [.ptr 1 0 0])] [7] (cA Try.f70 [true, true, false, true, true]) (cB Try.f70 [true, true, false, true, true]) .ready none, oR true 1 eI s1.2.2, oR true 1 eI (List.set (List.set s4.2 (Int.toNat s4.1) (IntKind.i64.wrap (a9 + a7))) (Int.toNat (IntKind.i64.wrap (s4.1 + 1))) (IntKind.i64.wrap (a11 + a7)))], 47⟩) false (by kernel_rfl) rfl q14 (by kernel_rfl) rfl (by kernel_rfl) (by kernel_rfl) (by kernel_rfl) ?_
          refine rw_knN (n := (List.set s4.2 (Int.toNat s4.1) (IntKind.i64.wrap (a9 + a7))).length) (m := (List.set (List.set s4.2 (Int.toNat s4.1) (IntKind.i64.wrap (a9 + a7))) (Int.toNat (IntKind.i64.wrap (s4.1 + 1))) (IntKind.i64.wrap (a11 + a7))).length) (S := fun n15 => ⟨[(0, .yld 2), (4, .ref 4 0 n15), (8, vI p0), (9, vI s1.1), (19, .ref 3 0 s1.2.2.length), (20, vI (s1.2.2.length : Int)), (21, vI s4.1), (5, vI s4.1), (6, vI a7), (33, .ref 4 0 n15), (34, vI s4.1), (35, vI (IntKind.i64.wrap (s4.1 + 1))), (36, .ptr 4 (Int.toNat (IntKind.i64.wrap (s4.1 + 1))) 0), (37, vI a11), (38, vI a7), (39, vI (IntKind.i64.wrap (a11 + a7))), (40, .ptr 4 (Int.toNat (IntKind.i64.wrap (s4.1 + 1))) 0)], [oX false false 1 (.ref 3 0 s1.2.2.length), oX true true 1 (vI p0), .loop 10 [(3, .ptr 0 0 0), (6, .fn (.func 95) [] [.ptr 1 0 0])] [7] (cA Try.f70 [true, true, false, true, true]) (cB Try.f70 [true, true, false, true, true]) .ready none, oR true 1 eI s1.2.2, oR true 1 eI (List.set (List.set s4.2 (Int.toNat s4.1) (IntKind.i64.wrap (a9 + a7))) (Int.toNat (IntKind.i64.wrap (s4.1 + 1))) (IntKind.i64.wrap (a11 + a7)))], 47⟩) (by simp only [List.length_set]) ?_
          refine reg_end rfl (wg [0, 4, 8, 9, 19, 20, 21] [3, 4] (rn ?_))
          cases h
          exact ⟨_, rfl, (wk_gc (live := [0, 4, 8, 9, 19, 20, 21]) (keep := [3, 4]) (by kernel_rfl))⟩
        refine wcF ?_
        refine wgc [0, 4, 8, 9] [3, 4] ⟨[(0, .yld 2), (4, .ref 4 0 s4.2.length), (8, vI p0), (9, vI s1.1)], [oX false false 1 (.ref 3 0 s1.2.2.length), oX true true 1 (vI p0), .loop 10 [(3, .ptr 0 0 0), (6, .fn (.func 95) [] [.ptr 1 0 0])] [7] (cA Try.f70 [true, true, false, true, true]) (cB Try.f70 [true, true, false, true, true]) .ready none, oR true 1 eI s1.2.2, oR true 1 eI s4.2], 47⟩ ?_
        refine wp_exit ?_
        cases h
        exact ⟨rfl, rfl⟩
      intro x18 h out hx
      subst hx
      refine rn (rn ?_)
      cases h
      exact ⟨_, rfl, (wk_gc (live := [0, 3, 8, 9]) (keep := [3, 4]) (by kernel_rfl))⟩
    refine wcF ?_
    refine wgc [0, 3] [3, 4] ⟨[(0, .yld 2), (3, .ref 4 0 s1.2.2.length)], [oX false false 1 (.ref 3 0 s1.2.1.length), oX true true 1 (vI p0), .loop 10 [(3, .ptr 0 0 0), (6, .fn (.func 95) [] [.ptr 1 0 0])] [7] (cA Try.f70 [true, true, false, true, true]) (cB Try.f70 [true, true, false, true, true]) .ready none, oR true 1 eI s1.2.1, oR true 1 eI s1.2.2], 47⟩ ?_
    refine wp_exit ?_
    cases h
    exact ⟨rfl, rfl⟩
  intro x20 h out hx
  subst hx
  refine reg_in ?_
  refine sgz 2 2 (S := ⟨[(0, .yld 2), (3, .ref 4 0 x20.2.length), (44, .yld 2), (45, .ref 4 0 x20.2.length)], [oX false false 1 (.ref 3 0 x20.1.length), oX true true 1 (vI p0), .loop 10 [(3, .ptr 0 0 0), (6, .fn (.func 95) [] [.ptr 1 0 0])] [7] (cA Try.f70 [true, true, false, true, true]) (cB Try.f70 [true, true, false, true, true]) .ready none, oR true 1 eI x20.1, oR true 1 eI x20.2], 47⟩) ?_
  refine yldR (l := 2) (nt := 10) (us := [.ref 4 0 x20.2.length]) (sl := [(3, .ptr 0 0 0), (6, .fn (.func 95) [] [.ptr 1 0 0])]) (ps := [7]) (assign := cA Try.f70 [true, true, false, true, true]) (body := cB Try.f70 [true, true, false, true, true]) (pe := none) (by kernel_rfl) rfl rfl ?_
  refine wp_eqB (base' := 5) (st' := ⟨[(3, .ptr 0 0 0), (6, .fn (.func 95) [] [.ptr 1 0 0]), (7, .ref 4 0 x20.2.length)], [oX false false 1 (.ref 3 0 x20.1.length), oX true true 1 (vI p0), .loop 10 [(3, .ptr 0 0 0), (6, .fn (.func 95) [] [.ptr 1 0 0])] [7] (cA Try.f70 [true, true, false, true, true]) (cB Try.f70 [true, true, false, true, true]) .ready none, oR true 1 eI x20.1, oR true 1 eI x20.2], 10⟩) rfl (by kernel_rfl) ?_
  refine rn ?_
  refine ez ?_
  refine wp_block (rn ?_)
  refine ⟨⟨[(0, .yld 2), (3, .ref 4 0 x20.2.length), (44, .yld 2), (45, .ref 4 0 x20.2.length), (46, vB true)], [oX false false 1 (.ref 4 0 x20.2.length), oX true true 1 (vI p0), .loop 10 [(3, .ptr 0 0 0), (6, .fn (.func 95) [] [.ptr 1 0 0])] [7] (cA Try.f70 [true, true, false, true, true]) (cB Try.f70 [true, true, false, true, true]) .ready none, oR true 1 eI x20.1, oR true 1 eI x20.2], 47⟩, by kernel_rfl, ?_⟩
  refine reg_end rfl ?_
  refine ⟨.go .normal ⟨[(3, .ptr 0 0 0), (6, .fn (.func 95) [] [.ptr 1 0 0])], [oX false false 1 (.ref 4 0 x20.2.length), oX true true 1 (vI p0), .dead, oR true 1 eI x20.1, oR true 1 eI x20.2], 10⟩, by kernel_rfl, ?_⟩
  refine sq (wg [2] [4] ?_)
  cases h
  exact wp_ret (show fnOut _ _ _ _ = _ from by kernel_rfl)
theorem g_weigh_Whole_ok (p0 : Int) (p1 : Int) (x : Int) (h : g_weigh_Whole p0 p1 = some x) : CallOk Try.prog 45 [vI p0, vI p1] (.ret (vI x) []) := by
  refine fn_ok [] Try.func45 rfl (by decide +kernel) rfl ?_
  unfold g_weigh_Whole at h
  refine wp_eqB (base' := 0) (st' := ⟨[(0, vI p0), (1, vI p1)], [], 14⟩) rfl (by kernel_rfl) ?_
  refine sq (sq (wp_seq (sq (wp_block ?_))))
  refine wwh h (fun s1 => ⟨[(0, vI p0), (5, vI s1.1), (6, vI p1), (7, vI s1.2)], [], 14⟩) (fun v out => out = .go (.exit 0) ⟨[(5, vI v)], [], 14⟩) (wk_gc (live := [0, 5, 6, 7]) (keep := []) (by kernel_rfl)) ?_ ?_
  · intro s1 o h
    unfold g_weigh_Whole_b0 at h
    refine sq (wp_seq ?_)
    refine wbr (S := fun b2 => ⟨[(0, vI p0), (5, vI s1.1), (6, vI p1), (7, vI s1.2), (8, vB b2)], [], 14⟩) h (fun q3 h => ?_) (fun q3 h => ?_)
    · refine wcT (wp_skip (wp_seq (wp_block (rn (rn ?_)))))
      cases h
      exact ⟨_, rfl, (wk_gc (live := [0, 5, 6, 7]) (keep := []) (by kernel_rfl))⟩
    refine wcF ?_
    refine wgc [5] [] ⟨[(5, vI s1.1)], [], 14⟩ ?_
    refine wp_exit ?_
    cases h
    exact ⟨rfl, rfl⟩
  intro x5 h out hx
  subst hx
  refine sq (wg [4] [] ?_)
  cases h
  exact wp_ret (show fnOut _ _ _ _ = _ from by kernel_rfl)
theorem g_lift_counter_members_ok (p0 : Tlift_counter) (p1 : Int) (p2 : Int) (x : Int) (h : g_lift_counter_members p0 p1 p2 = some x) : CallOk Try.prog 72 [.fz [vI p0.Lift.Grain, vI p0.Lift.Count, vI p0.Lift.One, eL false (eL true eI) p0.Lift.Rows, vI p0.zeros, vI p0.ones, vI p0.child], vI p1, vI p2] (.ret (vI x) []) := by
  refine fn_ok [] Try.func72 rfl (by decide +kernel) rfl ?_
  unfold g_lift_counter_members at h
  refine wp_eqB (base' := 0) (st' := ⟨[(0, .fz [vI p0.Lift.Grain, vI p0.Lift.Count, vI p0.Lift.One, eL false (eL true eI) p0.Lift.Rows, vI p0.zeros, vI p0.ones, vI p0.child]), (1, vI p1), (2, vI p2)], [], 28⟩) rfl (by kernel_rfl) ?_
  refine sq (wp_seq (rga hfol (sy 6 6 ?_)))
  refine callY (f := 45) (as0 := [vI p0.Lift.One, vI p1]) (us := [vI p0.Lift.One, vI p1]) (G := g_weigh_Whole p0.Lift.One p1) (rv := fun x1 => vI x1) (ro := fun x1 => []) bodyB_45 (fun x1 q2 => g_weigh_Whole_ok p0.Lift.One p1 x1 q2) h (fun x1 q2 h => ?_)
  refine sy 12 19 ?_
  refine callY (f := 45) (as0 := [vI (IntKind.i64.wrap (p0.Lift.Grain - p0.Lift.One)), vI p2]) (us := [vI (IntKind.i64.wrap (p0.Lift.Grain - p0.Lift.One)), vI p2]) (G := g_weigh_Whole (IntKind.i64.wrap (p0.Lift.Grain - p0.Lift.One)) p2) (rv := fun x3 => vI x3) (ro := fun x3 => []) bodyB_45 (fun x3 q4 => g_weigh_Whole_ok (IntKind.i64.wrap (p0.Lift.Grain - p0.Lift.One)) p2 x3 q4) h (fun x3 q4 h => ?_)
  refine sy 2 22 (rgd ?_)
  refine wgc [6] [] ⟨[(6, vI (IntKind.i64.wrap (x1 * x3)))], [], 28⟩ ?_
  cases h
  exact wp_ret (show fnOut _ _ _ _ = _ from by kernel_rfl)
theorem g_lift_counter_shown_ok (p0 : Tlift_counter) (p1 : Int) (x : Int) (h : g_lift_counter_shown p0 p1 = some x) : CallOk Try.prog 73 [.fz [vI p0.Lift.Grain, vI p0.Lift.Count, vI p0.Lift.One, eL false (eL true eI) p0.Lift.Rows, vI p0.zeros, vI p0.ones, vI p0.child], vI p1] (.ret (vI x) []) := by
  refine fn_ok [] Try.func73 rfl (by decide +kernel) rfl ?_
  unfold g_lift_counter_shown at h
  refine wp_eqB (base' := 0) (st' := ⟨[(0, .fz [vI p0.Lift.Grain, vI p0.Lift.Count, vI p0.Lift.One, eL false (eL true eI) p0.Lift.Rows, vI p0.zeros, vI p0.ones, vI p0.child]), (1, vI p1)], [], 29⟩) rfl (by kernel_rfl) ?_
  refine sq (wp_seq (sq ?_))
  refine wbz h (fun q2 h => ?_) (fun q2 h => ?_)
  · refine wp_seq (wg [0] [] (rn (wg [4] [] ?_)))
    cases h
    exact wp_ret (show fnOut _ _ _ _ = _ from by kernel_rfl)
  refine wp_skip (wp_seq (wg [0, 1] [] (rga hfol (sy 6 6 ?_))))
  refine bind_elim h (fun a3 q4 h => ?_)
  refine idxZ (enc := (eL true eI)) (l := p0.Lift.Rows) (n := p1) (fl := false) (w := 1) (a := a3) (by kernel_rfl) q4 ?_
  refine sy 5 12 ?_
  refine bind_elim h (fun a5 q6 h => ?_)
  refine idxZ (enc := eI) (l := a3) (n := p0.child) (fl := true) (w := 1) (a := a5) (by kernel_rfl) q6 ?_
  refine sy 2 15 (rgd ?_)
  refine wgc [4] [] ⟨[(4, vI a5)], [], 29⟩ ?_
  cases h
  exact wp_ret (show fnOut _ _ _ _ = _ from by kernel_rfl)
noncomputable abbrev s44_1 (p0 : Tlift_counter) : List (Nat × AV) := [(0, .fz [vI p0.Lift.Grain, vI p0.Lift.Count, vI p0.Lift.One, eL false (eL true eI) p0.Lift.Rows, vI p0.zeros, vI p0.ones, vI p0.child])]
noncomputable abbrev s44_5 (p0 : Tlift_counter) (x3 : (List Int)) (x5 : (List Int)) : List AObj := [oX true false 1 (.fz [vI p0.Lift.Grain, vI p0.Lift.Count, vI p0.Lift.One, eL false (eL true eI) p0.Lift.Rows, vI p0.zeros, vI p0.ones, vI p0.child]), oX false false 1 (.ref 2 0 x3.length), oR true 1 eI x3, oR true 1 eI x5]
noncomputable abbrev s44_12 (s7 : (Int × Int)) (x5 : (List Int)) : List (Nat × AV) := [(0, .fn (.func 71) [] [.ptr 0 0 0, .ptr 1 0 0]), (5, vI s7.1), (8, .ref 3 0 x5.length), (9, vI (x5.length : Int)), (10, vI s7.2)]
theorem g_lift_counter_mass_ok (p0 : Tlift_counter) (x : Int) (h : g_lift_counter_mass p0 = some x) : CallOk Try.prog 44 [.fz [vI p0.Lift.Grain, vI p0.Lift.Count, vI p0.Lift.One, eL false (eL true eI) p0.Lift.Rows, vI p0.zeros, vI p0.ones, vI p0.child]] (.ret (vI x) []) := by
  refine fn_ok [] Try.func44 rfl (by decide +kernel) rfl ?_
  unfold g_lift_counter_mass at h
  refine wp_eqB (base' := 0) (st' := ⟨(s44_1 p0), [], 8⟩) rfl (by kernel_rfl) ?_
  refine sq (wp_seq (reg_in ?_))
  refine sgz 1 1 (S := ⟨(s44_1 p0) ++ [(2, vI 0), (3, .fz [vI p0.Lift.Grain, vI p0.Lift.Count, vI p0.Lift.One, eL false (eL true eI) p0.Lift.Rows, vI p0.zeros, vI p0.ones, vI p0.child])], [], 8⟩) ?_
  refine inlR (f := 51) (fn := Try.f51) (as0 := [.fz [vI p0.Lift.Grain, vI p0.Lift.Count, vI p0.Lift.One, eL false (eL true eI) p0.Lift.Rows, vI p0.zeros, vI p0.ones, vI p0.child]]) (by kernel_rfl) Try.func51 rfl (by decide +kernel) rfl ?_
  refine wp_eqB (base' := 0) (st' := ⟨(s44_1 p0), [], 8⟩) rfl (by kernel_rfl) ?_
  refine wp_seq (reg_in ?_)
  refine sl false [] [] false rfl ?_
  refine sz 1 2 (reg_end rfl (wp_seq (reg_in (sz 1 1 ?_))))
  refine callY (f := 54) (as0 := [.fz [vI p0.Lift.Grain, vI p0.Lift.Count, vI p0.Lift.One, eL false (eL true eI) p0.Lift.Rows, vI p0.zeros, vI p0.ones, vI p0.child]]) (us := [.fz [vI p0.Lift.Grain, vI p0.Lift.Count, vI p0.Lift.One, eL false (eL true eI) p0.Lift.Rows, vI p0.zeros, vI p0.ones, vI p0.child]]) (G := g_lift_counter_unknown p0) (rv := fun x1 => vI x1) (ro := fun x1 => []) bodyB_54 (fun x1 q2 => g_lift_counter_unknown_ok p0 x1 q2) h (fun x1 q2 h => ?_)
  refine callY (f := 70) (as0 := [vI x1]) (us := [vI x1]) (G := g_lift_binomial x1) (rv := fun x3 => .ref 0 0 x3.length) (ro := fun x3 => [oR true 1 eI x3]) bodyB_70 (fun x3 q4 => g_lift_binomial_ok x1 x3 q4) h (fun x3 q4 h => ?_)
  refine sl false [] [] false rfl ?_
  refine sgz 1 5 (S := ⟨(s44_1 p0) ++ [(1, .ptr 0 0 0), (2, .nilf), (4, .fz [vI p0.Lift.Grain, vI p0.Lift.Count, vI p0.Lift.One, eL false (eL true eI) p0.Lift.Rows, vI p0.zeros, vI p0.ones, vI p0.child]), (5, vI x1), (6, .ref 1 0 x3.length), (3, .ptr 2 0 0)], [oX true false 1 (.fz [vI p0.Lift.Grain, vI p0.Lift.Count, vI p0.Lift.One, eL false (eL true eI) p0.Lift.Rows, vI p0.zeros, vI p0.ones, vI p0.child]), oR true 1 eI x3, oX false false 1 (.ref 1 0 x3.length)], 8⟩) ?_
  refine reg_end rfl (wp_seq (wg [1, 3] [0, 2, 1] (rn (wg [2] [0, 1, 2] ?_))))
  refine wp_ret ?_
  refine ez ?_
  refine sz 1 3 ?_
  refine callR (as0 := [.fz [vI p0.Lift.Grain, vI p0.Lift.Count, vI p0.Lift.One, eL false (eL true eI) p0.Lift.Rows, vI p0.zeros, vI p0.ones, vI p0.child]]) (ids := []) (S := fun x5 => ⟨(s44_1 p0) ++ [(2, vI 0), (3, .fz [vI p0.Lift.Grain, vI p0.Lift.Count, vI p0.Lift.One, eL false (eL true eI) p0.Lift.Rows, vI p0.zeros, vI p0.ones, vI p0.child]), (4, .fn (.func 71) [] [.ptr 0 0 0, .ptr 1 0 0]), (5, .fz [vI p0.Lift.Grain, vI p0.Lift.Count, vI p0.Lift.One, eL false (eL true eI) p0.Lift.Rows, vI p0.zeros, vI p0.ones, vI p0.child])] ++ [(6, .ref 3 0 x5.length)], (s44_5 p0 x3 x5), 8⟩) (by kernel_rfl) bodyB_50 (msnap_cons rfl msnap_nil) (fun x5 q6 => g_lift_counter_numbers_ok p0 x5 q6) (fun _ => by kernel_rfl) h (fun x5 q6 h => ?_)
  refine inlR (f := 69) (fn := Try.f69) (as0 := [.fn (.func 71) [] [.ptr 0 0 0, .ptr 1 0 0], .ref 3 0 x5.length]) (by kernel_rfl) Try.func69 rfl (by decide +kernel) rfl ?_
  refine wp_eqB (base' := 4) (st' := ⟨[(0, .fn (.func 71) [] [.ptr 0 0 0, .ptr 1 0 0]), (1, .ref 3 0 x5.length)], (s44_5 p0 x3 x5), 21⟩) rfl (by kernel_rfl) ?_
  refine sq (sq (wp_seq (sq (wp_block ?_))))
  refine wwh h (fun s7 => ⟨(s44_12 s7 x5), (s44_5 p0 x3 x5), 21⟩) (fun v out => out = .go (.exit 0) ⟨[(5, vI v)], (s44_5 p0 x3 x5), 21⟩) (wk_gc (live := [0, 5, 8, 9, 10]) (keep := []) (by kernel_rfl)) ?_ ?_
  · intro s7 o h
    unfold g_lift_counter_mass_b0 at h
    refine sq (wp_seq ?_)
    refine wbr (S := fun b8 => ⟨(s44_12 s7 x5) ++ [(11, vB b8)], (s44_5 p0 x3 x5), 21⟩) h (fun q9 h => ?_) (fun q9 h => ?_)
    · refine wcT (wp_skip (wp_seq (wp_block (wp_seq (reg_in ?_)))))
      refine bind_elim h (fun a10 q11 h => ?_)
      refine idxY (enc := eI) (l := x5) (n := s7.2) (w := 1) (ob := 3) (ro := false) (nr := true) (fl := true) q11 ?_
      refine loadY (enc := eI) (l := x5) (n := s7.2) (w := 1) (ob := 3) (c := 0) (bx := false) (ro := false) (nr := true) (fl := true) q11 ?_
      refine sz 1 3 (reg_end rfl (reg_in ?_))
      refine sgz 3 3 (S := ⟨(s44_12 s7 x5) ++ [(11, vB true), (12, .ptr 3 (Int.toNat s7.2) 0), (13, vI a10), (7, vI a10), (14, vI s7.1), (15, .fn (.func 71) [] [.ptr 0 0 0, .ptr 1 0 0]), (16, vI a10)], (s44_5 p0 x3 x5), 21⟩) ?_
      refine inlR (f := 71) (fn := Try.f71) (as0 := [vI a10, .ptr 0 0 0, .ptr 1 0 0]) (by kernel_rfl) Try.func71 rfl (by decide +kernel) rfl ?_
      refine wp_eqB (base' := 4) (st' := ⟨[(0, vI a10), (1, .ptr 0 0 0), (2, .ptr 1 0 0)], (s44_5 p0 x3 x5), 49⟩) rfl (by kernel_rfl) ?_
      refine sq (wp_seq (wp_seq (rga hfol (sy 7 7 ?_))))
      refine rbr (S := fun b12 => ⟨[(0, vI a10), (1, .ptr 0 0 0), (2, .ptr 1 0 0), (4, vI 0), (5, vI a10), (6, .fz [vI p0.Lift.Grain, vI p0.Lift.Count, vI p0.Lift.One, eL false (eL true eI) p0.Lift.Rows, vI p0.zeros, vI p0.ones, vI p0.child]), (7, .fz [vI p0.Lift.Grain, vI p0.Lift.Count, vI p0.Lift.One, eL false (eL true eI) p0.Lift.Rows, vI p0.zeros, vI p0.ones, vI p0.child]), (8, .fz [vI p0.ones, vI p0.child]), (9, vI p0.ones), (10, vB b12), (11, vB b12)], (s44_5 p0 x3 x5), 49⟩) h (fun q13 h => ?_) (fun q13 h => ?_)
      · refine sy 13 20 (rgd (wcT (wp_seq (wg [] [] (rn (wg [4] [] ?_))))))
        refine wp_ret ?_
        refine ez ?_
        refine sz 2 6 (reg_end rfl (wg [0, 5, 8, 9, 10] [] (rn ?_)))
        cases h
        exact ⟨_, rfl, (wk_gc (live := [0, 5, 8, 9, 10]) (keep := []) (by kernel_rfl))⟩
      refine sy 13 20 (rgd ?_)
      refine wbz h (fun q15 h => ?_) (fun q15 h => ?_)
      · refine wp_seq (wg [] [] (rn (wg [4] [] ?_)))
        refine wp_ret ?_
        refine ez ?_
        refine sz 2 6 (reg_end rfl (wg [0, 5, 8, 9, 10] [] (rn ?_)))
        cases h
        exact ⟨_, rfl, (wk_gc (live := [0, 5, 8, 9, 10]) (keep := []) (by kernel_rfl))⟩
      refine wp_skip (wp_seq (wg [0, 1, 2] [] (rga hfol (sy 7 7 ?_))))
      refine bind_elim h (fun a16 q17 h => ?_)
      refine idxY (enc := eI) (l := x3) (n := IntKind.i64.wrap (a10 - p0.ones)) (w := 1) (ob := 2) (ro := false) (nr := true) (fl := true) q17 ?_
      refine loadY (enc := eI) (l := x3) (n := IntKind.i64.wrap (a10 - p0.ones)) (w := 1) (ob := 2) (c := 0) (bx := false) (ro := false) (nr := true) (fl := true) q17 ?_
      refine sy 9 18 ?_
      refine callY (f := 72) (as0 := [.fz [vI p0.Lift.Grain, vI p0.Lift.Count, vI p0.Lift.One, eL false (eL true eI) p0.Lift.Rows, vI p0.zeros, vI p0.ones, vI p0.child], vI a10, vI (IntKind.i64.wrap (p0.Lift.Count - a10))]) (us := [.fz [vI p0.Lift.Grain, vI p0.Lift.Count, vI p0.Lift.One, eL false (eL true eI) p0.Lift.Rows, vI p0.zeros, vI p0.ones, vI p0.child], vI a10, vI (IntKind.i64.wrap (p0.Lift.Count - a10))]) (G := g_lift_counter_members p0 a10 (IntKind.i64.wrap (p0.Lift.Count - a10))) (rv := fun x18 => vI x18) (ro := fun x18 => []) bodyB_72 (fun x18 q19 => g_lift_counter_members_ok p0 a10 (IntKind.i64.wrap (p0.Lift.Count - a10)) x18 q19) h (fun x18 q19 h => ?_)
      refine sgy 3 22 (S := ⟨[(0, vI a10), (1, .ptr 0 0 0), (2, .ptr 1 0 0), (25, .ref 2 0 x3.length), (26, vI a10), (27, .fz [vI p0.Lift.Grain, vI p0.Lift.Count, vI p0.Lift.One, eL false (eL true eI) p0.Lift.Rows, vI p0.zeros, vI p0.ones, vI p0.child]), (28, .fz [vI p0.Lift.Grain, vI p0.Lift.Count, vI p0.Lift.One, eL false (eL true eI) p0.Lift.Rows, vI p0.zeros, vI p0.ones, vI p0.child]), (29, .fz [vI p0.ones, vI p0.child]), (30, vI p0.ones), (31, vI (IntKind.i64.wrap (a10 - p0.ones))), (32, .ptr 2 (Int.toNat (IntKind.i64.wrap (a10 - p0.ones))) 0), (33, vI a16), (34, .fz [vI p0.Lift.Grain, vI p0.Lift.Count, vI p0.Lift.One, eL false (eL true eI) p0.Lift.Rows, vI p0.zeros, vI p0.ones, vI p0.child]), (35, vI a10), (36, .fz [vI p0.Lift.Grain, vI p0.Lift.Count, vI p0.Lift.One, eL false (eL true eI) p0.Lift.Rows, vI p0.zeros, vI p0.ones, vI p0.child]), (37, .fz [vI p0.Lift.Grain, vI p0.Lift.Count, vI p0.Lift.One, eL false (eL true eI) p0.Lift.Rows, vI p0.zeros, vI p0.ones, vI p0.child]), (38, .fz [vI p0.Lift.Grain, vI p0.Lift.Count, vI p0.Lift.One, eL false (eL true eI) p0.Lift.Rows, vI p0.zeros, vI p0.ones, vI p0.child]), (39, .fz [vI p0.Lift.Count, vI p0.Lift.One, eL false (eL true eI) p0.Lift.Rows, vI p0.zeros, vI p0.ones, vI p0.child]), (40, vI p0.Lift.Count), (41, vI a10), (42, vI (IntKind.i64.wrap (p0.Lift.Count - a10))), (43, vI x18), (44, vI (IntKind.i64.wrap (a16 * x18))), (45, .fz [vI p0.Lift.Grain, vI p0.Lift.Count, vI p0.Lift.One, eL false (eL true eI) p0.Lift.Rows, vI p0.zeros, vI p0.ones, vI p0.child]), (46, vI a10)], (s44_5 p0 x3 x5), 49⟩) ?_
      refine callY (f := 73) (as0 := [.fz [vI p0.Lift.Grain, vI p0.Lift.Count, vI p0.Lift.One, eL false (eL true eI) p0.Lift.Rows, vI p0.zeros, vI p0.ones, vI p0.child], vI a10]) (us := [.fz [vI p0.Lift.Grain, vI p0.Lift.Count, vI p0.Lift.One, eL false (eL true eI) p0.Lift.Rows, vI p0.zeros, vI p0.ones, vI p0.child], vI a10]) (G := g_lift_counter_shown p0 a10) (rv := fun x20 => vI x20) (ro := fun x20 => []) bodyB_73 (fun x20 q21 => g_lift_counter_shown_ok p0 a10 x20 q21) h (fun x20 q21 h => ?_)
      refine sy 2 25 (rgd (wg [4] [] ?_))
      refine wp_ret ?_
      refine ez ?_
      refine sz 2 6 (reg_end rfl (wg [0, 5, 8, 9, 10] [] (rn ?_)))
      cases h
      exact ⟨_, rfl, (wk_gc (live := [0, 5, 8, 9, 10]) (keep := []) (by kernel_rfl))⟩
    refine wcF ?_
    refine wgc [5] [] ⟨[(5, vI s7.1)], (s44_5 p0 x3 x5), 21⟩ ?_
    refine wp_exit ?_
    cases h
    exact ⟨rfl, rfl⟩
  intro x23 h out hx
  subst hx
  refine sq (wg [4] [] ?_)
  refine wp_ret ?_
  refine ez ?_
  refine sz 1 6 (reg_end rfl (wg [2] [] ?_))
  cases h
  exact wp_ret (show fnOut _ _ _ _ = _ from by kernel_rfl)
noncomputable abbrev s19_1 (p0 : Tapi_Lift) (p1 : Int) (p2 : Int) (p3 : Int) : List (Nat × AV) := [(0, .agg [vI p0.Grain, vI p0.Count, vI p0.One, eL false (eL true eI) p0.Rows]), (1, vI p1), (2, vI p2), (3, vI p3)]
noncomputable abbrev s19_2 (p0 : Tapi_Lift) : List AObj := [oX true false 4 (.agg [vI p0.Grain, vI p0.Count, vI p0.One, eL false (eL true eI) p0.Rows]), oX true true 2 (.agg [vI 0, vI 0])]
noncomputable abbrev s19_3 (p0 : Tapi_Lift) : List AObj := [oX true false 4 (.agg [vI p0.Grain, vI p0.Count, vI p0.One, eL false (eL true eI) p0.Rows]), oX true true 2 (.agg [vI 0, vI 0]), oX true false 4 (.agg [vI p0.Grain, vI p0.Count, vI p0.One, eL false (eL true eI) p0.Rows])]
theorem g_lift_Prob_ok (p0 : Tapi_Lift) (p1 : Int) (p2 : Int) (p3 : Int) (x : (Tapi_Q × Int)) (h : g_lift_Prob p0 p1 p2 p3 = some x) : CallOk Try.prog 19 [.agg [vI p0.Grain, vI p0.Count, vI p0.One, eL false (eL true eI) p0.Rows], vI p1, vI p2, vI p3] (.ret (.tup [.agg [vI x.1.N, vI x.1.D], vI x.2]) []) := by
  refine fn_ok [] Try.func19 rfl (by decide +kernel) rfl ?_
  unfold g_lift_Prob at h
  refine wp_eqB (base' := 0) (st' := ⟨(s19_1 p0 p1 p2 p3), [], 39⟩) rfl (by kernel_rfl) ?_
  refine wp_seq (reg_in ?_)
  refine sl false [] [] false rfl ?_
  refine sz 2 3 (reg_end rfl (wp_seq (reg_in ?_)))
  refine sgz 4 4 (S := ⟨(s19_1 p0 p1 p2 p3) ++ [(4, .ptr 0 0 0), (8, .ptr 1 0 0), (9, vI 0), (13, .agg [vI p0.Grain, vI p0.Count, vI p0.One, eL false (eL true eI) p0.Rows]), (14, vI p1), (15, vI p2), (16, vI p3)], (s19_2 p0), 39⟩) ?_
  refine inlR (f := 42) (fn := Try.f42) (as0 := [.agg [vI p0.Grain, vI p0.Count, vI p0.One, eL false (eL true eI) p0.Rows], vI p1, vI p2, vI p3]) (by kernel_rfl) Try.func42 rfl (by decide +kernel) rfl ?_
  refine wp_eqB (base' := 2) (st' := ⟨(s19_1 p0 p1 p2 p3), (s19_2 p0), 55⟩) rfl (by kernel_rfl) ?_
  refine wp_seq (reg_in ?_)
  refine sl false [] [] false rfl ?_
  refine sz 2 3 (reg_end rfl (wp_seq (wp_seq (reg_in (sz 1 1 ?_)))))
  refine callZ (as0 := [.agg [vI p0.Grain, vI p0.Count, vI p0.One, eL false (eL true eI) p0.Rows]]) (ids := []) (by kernel_rfl) bodyB_14 (msnap_cons (snap_agg (msnap_cons rfl (msnap_cons rfl (msnap_cons rfl (msnap_cons rfl msnap_nil))))) msnap_nil) (fun x1 q2 => g_lift_Check_ok p0 x1 q2) h (fun x1 q2 h => ?_)
  refine sz 1 3 (reg_end rfl (wp_seq (wg [1, 2, 3, 4, 10] [2] ?_)))
  refine rgN (S := ⟨[(1, vI p1), (2, vI p2), (3, vI p3), (4, .ptr 2 0 0), (10, vI x1), (13, vI x1), (14, vB (x1 != 0))], (s19_3 p0), 55⟩) ?_
  refine wbr (S := fun b3 => ⟨[(1, vI p1), (2, vI p2), (3, vI p3), (4, .ptr 2 0 0), (10, vI x1), (13, vI x1), (14, vB b3)], (s19_3 p0), 55⟩) h (fun q4 h => ?_) (fun q4 h => ?_)
  · refine wcT (wp_seq (wg [10] [] (rn (wg [8, 9] [] ?_))))
    refine wp_ret ?_
    refine ez ?_
    refine sz 5 10 (reg_end rfl (wp_seq (wp_seq (wg [8, 10, 11] [1] (rn ?_)))))
    refine wkn (S := fun b5 => ⟨[(8, .ptr 0 0 0), (10, .nilp), (11, vI x1), (20, vI x1), (21, vB b5)], [oX true true 2 (.agg [vI 0, vI 0])], 39⟩) q4 ?_
    refine wcT (sq (wg [8, 9] [0] ?_))
    cases h
    exact wp_ret (show fnOut _ _ _ _ = _ from by kernel_rfl)
  refine wcF (wp_skip (wp_seq (wp_seq (reg_in (sz 3 3 (rwg [1, 2, 3, 4, 18] [2] ?_))))))
  refine rbr (S := fun b6 => ⟨[(1, vI p1), (2, vI p2), (3, vI p3), (4, .ptr 2 0 0), (18, vB b6)], (s19_3 p0), 55⟩) h (fun q7 h => ?_) (fun q7 h => ?_)
  · refine sz 30 33 (reg_end rfl (wcT (wp_seq (wg [] [] (rn (wg [8, 9] [] ?_))))))
    refine wp_ret ?_
    refine ez ?_
    refine sz 5 10 (reg_end rfl (wp_seq (wp_seq (wg [8, 10, 11] [1] (rn (wcT (sq (wg [8, 9] [0] ?_))))))))
    cases h
    exact wp_ret (show fnOut _ _ _ _ = _ from by kernel_rfl)
  refine sz 6 9 (rwg [1, 2, 3, 4, 24] [2] ?_)
  refine rbr (S := fun b8 => ⟨[(1, vI p1), (2, vI p2), (3, vI p3), (4, .ptr 2 0 0), (24, vB b8)], (s19_3 p0), 55⟩) h (fun q9 h => ?_) (fun q9 h => ?_)
  · refine sz 24 33 (reg_end rfl (wcT (wp_seq (wg [] [] (rn (wg [8, 9] [] ?_))))))
    refine wp_ret ?_
    refine ez ?_
    refine sz 5 10 (reg_end rfl (wp_seq (wp_seq (wg [8, 10, 11] [1] (rn (wcT (sq (wg [8, 9] [0] ?_))))))))
    cases h
    exact wp_ret (show fnOut _ _ _ _ = _ from by kernel_rfl)
  refine sz 4 13 (rwg [1, 2, 3, 4, 28] [2] ?_)
  refine rbr (S := fun b10 => ⟨[(1, vI p1), (2, vI p2), (3, vI p3), (4, .ptr 2 0 0), (28, vB b10)], (s19_3 p0), 55⟩) h (fun q11 h => ?_) (fun q11 h => ?_)
  · refine sz 20 33 (reg_end rfl (wcT (wp_seq (wg [] [] (rn (wg [8, 9] [] ?_))))))
    refine wp_ret ?_
    refine ez ?_
    refine sz 5 10 (reg_end rfl (wp_seq (wp_seq (wg [8, 10, 11] [1] (rn (wcT (sq (wg [8, 9] [0] ?_))))))))
    cases h
    exact wp_ret (show fnOut _ _ _ _ = _ from by kernel_rfl)
  refine sz 8 21 (rwg [1, 2, 3, 4, 36] [2] ?_)
  refine rbr (S := fun b12 => ⟨[(1, vI p1), (2, vI p2), (3, vI p3), (4, .ptr 2 0 0), (36, vB b12)], (s19_3 p0), 55⟩) h (fun q13 h => ?_) (fun q13 h => ?_)
  · refine sz 12 33 (reg_end rfl (wcT (wp_seq (wg [] [] (rn (wg [8, 9] [] ?_))))))
    refine wp_ret ?_
    refine ez ?_
    refine sz 5 10 (reg_end rfl (wp_seq (wp_seq (wg [8, 10, 11] [1] (rn (wcT (sq (wg [8, 9] [0] ?_))))))))
    cases h
    exact wp_ret (show fnOut _ _ _ _ = _ from by kernel_rfl)
  refine sz 4 25 (rwg [1, 2, 3, 4, 40] [2] ?_)
  refine rbr (S := fun b14 => ⟨[(1, vI p1), (2, vI p2), (3, vI p3), (4, .ptr 2 0 0), (40, vB b14)], (s19_3 p0), 55⟩) h (fun q15 h => ?_) (fun q15 h => ?_)
  · refine sz 8 33 (reg_end rfl (wcT (wp_seq (wg [] [] (rn (wg [8, 9] [] ?_))))))
    refine wp_ret ?_
    refine ez ?_
    refine sz 5 10 (reg_end rfl (wp_seq (wp_seq (wg [8, 10, 11] [1] (rn (wcT (sq (wg [8, 9] [0] ?_))))))))
    cases h
    exact wp_ret (show fnOut _ _ _ _ = _ from by kernel_rfl)
  refine sz 3 28 ?_
  refine bind_elim h (fun a16 q17 h => ?_)
  refine idxZ (enc := (eL true eI)) (l := p0.Rows) (n := 0) (fl := false) (w := 1) (a := a16) (by kernel_rfl) q17 ?_
  refine sz 1 30 ?_
  refine lenZ (enc := eI) (l := a16) (fl := true) (by kernel_rfl) ?_
  refine sz 2 33 (reg_end rfl ?_)
  refine wbz h (fun q19 h => ?_) (fun q19 h => ?_)
  · refine wp_seq (wg [] [] (rn (wg [8, 9] [] ?_)))
    refine wp_ret ?_
    refine ez ?_
    refine sz 5 10 (reg_end rfl (wp_seq (wp_seq (wg [8, 10, 11] [1] (rn (wcT (sq (wg [8, 9] [0] ?_))))))))
    cases h
    exact wp_ret (show fnOut _ _ _ _ = _ from by kernel_rfl)
  refine wp_skip (wp_seq (wg [1, 2, 3, 4] [2] (reg_in (sz 5 5 ?_))))
  refine sl false [] [] false rfl ?_
  refine sz 2 8 (reg_end rfl (wg [8, 9] [3] ?_))
  refine wp_ret ?_
  refine ez ?_
  refine sz 5 10 (reg_end rfl (wp_seq (wp_seq (wg [8, 10, 11] [1, 2] (rn (wcF (wp_skip (wp_seq ?_))))))))
  refine rga hfol ?_
  refine sgy 1 1 (S := ⟨[(8, .ptr 0 0 0), (10, .ptr 1 0 0), (11, vI 0), (20, vI 0), (21, vB false), (24, .ptr 1 0 0)], [oX true true 2 (.agg [vI 0, vI 0]), oX true false 7 (.agg [vI p0.Grain, vI p0.Count, vI p0.One, eL false (eL true eI) p0.Rows, vI p1, vI p2, vI p3])], 39⟩) ?_
  refine callZ (as0 := [.ptr 1 0 0]) (ids := [1]) (by kernel_rfl) bodyB_44 (msnap_cons (snap_ptr rfl (msnap_cons (snap_agg (msnap_cons rfl (msnap_cons rfl (msnap_cons rfl (msnap_cons rfl (msnap_cons rfl (msnap_cons rfl (msnap_cons rfl msnap_nil (by rfl)) (by rfl)) (by rfl)) (by rfl)) (by rfl)) (by rfl)) (by rfl))) msnap_nil (by rfl)) (by rfl) (by rfl)) msnap_nil (by rfl)) (fun x20 q21 => g_lift_counter_mass_ok (Tlift_counter.mk p0 p1 p2 p3) x20 q21) h (fun x20 q21 h => ?_)
  refine sy 11 13 ?_
  refine callY (f := 45) (as0 := [vI p0.Grain, vI (IntKind.i64.wrap (p0.Count + 1))]) (us := [vI p0.Grain, vI (IntKind.i64.wrap (p0.Count + 1))]) (G := g_weigh_Whole p0.Grain (IntKind.i64.wrap (p0.Count + 1))) (rv := fun x22 => vI x22) (ro := fun x22 => []) bodyB_45 (fun x22 q23 => g_weigh_Whole_ok p0.Grain (IntKind.i64.wrap (p0.Count + 1)) x22 q23) h (fun x22 q23 h => ?_)
  refine callY (f := 43) (as0 := [vI x20, vI x22]) (us := [vI x20, vI x22]) (G := g_weigh_Ratio x20 x22) (rv := fun x24 => .agg [vI x24.N, vI x24.D]) (ro := fun x24 => []) bodyB_43 (fun x24 q25 => g_weigh_Ratio_ok x20 x22 x24 q25) h (fun x24 q25 h => ?_)
  refine sy 2 17 (rgd (wg [8, 9] [0] ?_))
  cases h
  exact wp_ret (show fnOut _ _ _ _ = _ from by kernel_rfl)
noncomputable abbrev s52_7 (p0 : Int) (s1 : (Int × (List Tapi_Q))) (p1 : (List Int)) : List (Nat × AV) := [(0, vI p0), (5, .ref 0 0 s1.2.length), (11, eL true eI p1), (12, vI (p1.length : Int)), (13, vI s1.1)]
noncomputable abbrev s52_10 (p0 : Int) (s1 : (Int × (List Tapi_Q))) (p1 : (List Int)) (a4 : Int) (x6 : Tapi_Q) : List (Nat × AV) := (s52_7 p0 s1 p1) ++ [(14, vB true), (15, vI s1.1), (16, .fz [vI a4]), (17, vI a4), (6, vI s1.1), (7, vI a4), (18, .ref 0 0 s1.2.length), (19, vI s1.1), (20, vI a4), (21, vI p0), (22, .agg [vI x6.N, vI x6.D]), (23, .ptr 0 (Int.toNat s1.1) 0)]
theorem g_lift_divided_ok (p0 : Int) (p1 : (List Int)) (x : (List Tapi_Q)) (h : g_lift_divided p0 p1 = some x) : CallOk Try.prog 52 [vI p0, eL true eI p1] (.ret (.ref 0 0 x.length) [oR true 2 eTapi_Q x]) := by
  refine fn_ok [] Try.func52 rfl (by decide +kernel) rfl ?_
  unfold g_lift_divided at h
  refine wp_eqB (base' := 0) (st' := ⟨[(0, vI p0), (1, eL true eI p1)], [], 26⟩) rfl (by kernel_rfl) ?_
  refine sq (wp_seq (reg_in (sz 1 1 ?_)))
  refine lenL (enc := eI) (l := p1) (fl := true) (S := ⟨[(0, vI p0), (1, eL true eI p1), (4, .nils), (8, eL true eI p1), (9, vI (p1.length : Int))], [], 26⟩) (by kernel_rfl) (by kernel_rfl) ?_
  refine mkL (enc := eTapi_Q) (z := ((Tapi_Q.mk 0 0) : Tapi_Q)) (z0 := .agg [vI 0, vI 0]) (n := (p1.length : Int)) (m := (p1.length : Int)) (w := 2) (bytes := 16) (S := ⟨[(0, vI p0), (1, eL true eI p1), (4, .nils), (8, eL true eI p1), (9, vI (p1.length : Int)), (10, .ref 0 0 ((List.replicate (Int.toNat (p1.length : Int)) ((Tapi_Q.mk 0 0) : Tapi_Q)).length))], [oR true 2 eTapi_Q (List.replicate (Int.toNat (p1.length : Int)) ((Tapi_Q.mk 0 0) : Tapi_Q))], 26⟩) [] true (by kernel_rfl) rfl (by kernel_rfl) (by kernel_rfl) h (fun h => ?_)
  refine sz 1 4 (reg_end rfl (wp_seq (wp_seq (reg_in (sz 1 1 ?_)))))
  refine lenZ (enc := eI) (l := p1) (fl := true) (by kernel_rfl) ?_
  refine sz 1 3 (reg_end rfl (wp_block ?_))
  refine wwh h (fun s1 => ⟨(s52_7 p0 s1 p1), [oR true 2 eTapi_Q s1.2], 26⟩) (fun v out => out = .go (.exit 0) ⟨[(5, .ref 0 0 v.length)], [oR true 2 eTapi_Q v], 26⟩) (wk_gc (live := [0, 5, 11, 12, 13]) (keep := [0]) (by kernel_rfl)) ?_ ?_
  · intro s1 o h
    unfold g_lift_divided_b0 at h
    refine sq (wp_seq ?_)
    refine wbr (S := fun b2 => ⟨(s52_7 p0 s1 p1) ++ [(14, vB b2)], [oR true 2 eTapi_Q s1.2], 26⟩) h (fun q3 h => ?_) (fun q3 h => ?_)
    · refine wcT (wp_skip (wp_seq (wp_block (wp_seq (reg_in (sz 1 1 ?_))))))
      refine bind_elim h (fun a4 q5 h => ?_)
      refine idxZ (enc := eI) (l := p1) (n := s1.1) (fl := true) (w := 1) (a := a4) (by kernel_rfl) q5 ?_
      refine sz 3 5 (reg_end rfl (reg_in (sz 4 4 ?_)))
      refine callY (f := 43) (as0 := [vI a4, vI p0]) (us := [vI a4, vI p0]) (G := g_weigh_Ratio a4 p0) (rv := fun x6 => .agg [vI x6.N, vI x6.D]) (ro := fun x6 => []) bodyB_43 (fun x6 q7 => g_weigh_Ratio_ok a4 p0 x6 q7) h (fun x6 q7 h => ?_)
      refine bind_elim h (fun a8 q9 h => ?_)
      refine idxR' (enc := eTapi_Q) (l := s1.2) (n := s1.1) (w := 2) (ob := 0) (ro := false) (nr := true) (fl := true) (a := a8) (S := ⟨(s52_10 p0 s1 p1 a4 x6), [oR true 2 eTapi_Q s1.2], 26⟩) (by kernel_rfl) (by kernel_rfl) (by kernel_rfl) q9 ?_
      refine storeR (enc := eTapi_Q) (l := s1.2) (n := s1.1) (ob := 0) (c := 0) (a := a8) (a' := x6) (v := .agg [vI x6.N, vI x6.D]) (S := ⟨(s52_10 p0 s1 p1 a4 x6), [oR true 2 eTapi_Q (List.set s1.2 (Int.toNat s1.1) x6)], 26⟩) false (by kernel_rfl) rfl q9 (by kernel_rfl) rfl (by kernel_rfl) (by kernel_rfl) (by kernel_rfl) ?_
      refine rw_knN (n := s1.2.length) (m := (List.set s1.2 (Int.toNat s1.1) x6).length) (S := fun n10 => ⟨[(0, vI p0), (5, .ref 0 0 n10), (11, eL true eI p1), (12, vI (p1.length : Int)), (13, vI s1.1), (14, vB true), (15, vI s1.1), (16, .fz [vI a4]), (17, vI a4), (6, vI s1.1), (7, vI a4), (18, .ref 0 0 n10), (19, vI s1.1), (20, vI a4), (21, vI p0), (22, .agg [vI x6.N, vI x6.D]), (23, .ptr 0 (Int.toNat s1.1) 0)], [oR true 2 eTapi_Q (List.set s1.2 (Int.toNat s1.1) x6)], 26⟩) (by simp only [List.length_set]) ?_
      refine reg_end rfl (wg [0, 5, 11, 12, 13] [0] (rn ?_))
      cases h
      exact ⟨_, rfl, (wk_gc (live := [0, 5, 11, 12, 13]) (keep := [0]) (by kernel_rfl))⟩
    refine wcF ?_
    refine wgc [5] [0] ⟨[(5, .ref 0 0 s1.2.length)], [oR true 2 eTapi_Q s1.2], 26⟩ ?_
    refine wp_exit ?_
    cases h
    exact ⟨rfl, rfl⟩
  intro x12 h out hx
  subst hx
  refine sq (wg [4] [0] ?_)
  cases h
  exact wp_ret (show fnOut _ _ _ _ = _ from by kernel_rfl)
noncomputable abbrev s21_1 (p0 : Tapi_Lift) (p1 : Int) (p2 : Int) (p3 : Int) : List (Nat × AV) := [(0, .agg [vI p0.Grain, vI p0.Count, vI p0.One, eL false (eL true eI) p0.Rows]), (1, vI p1), (2, vI p2), (3, vI p3)]
noncomputable abbrev s21_2 (p0 : Tapi_Lift) : List AObj := [oX true false 4 (.agg [vI p0.Grain, vI p0.Count, vI p0.One, eL false (eL true eI) p0.Rows])]
noncomputable abbrev s21_3 (p0 : Tapi_Lift) : List AObj := [oX true false 4 (.agg [vI p0.Grain, vI p0.Count, vI p0.One, eL false (eL true eI) p0.Rows]), oX true false 4 (.agg [vI p0.Grain, vI p0.Count, vI p0.One, eL false (eL true eI) p0.Rows])]
noncomputable abbrev s21_19 (p0 : Tapi_Lift) (p1 : Int) (p2 : Int) (p3 : Int) : List AObj := [oX true false 7 (.agg [vI p0.Grain, vI p0.Count, vI p0.One, eL false (eL true eI) p0.Rows, vI p1, vI p2, vI p3])]
noncomputable abbrev s21_30 (s30 : (Int × (List Int))) (x28 : (List Int)) (p0 : Tapi_Lift) (p1 : Int) (p2 : Int) (p3 : Int) : List AObj := [oR true 1 eI s30.2, oX false false 1 (.ptr 3 0 0), oX false false 1 (.ref 4 0 x28.length), oX true false 7 (.agg [vI p0.Grain, vI p0.Count, vI p0.One, eL false (eL true eI) p0.Rows, vI p1, vI p2, vI p3]), oR true 1 eI x28]
noncomputable abbrev s21_32 (s30 : (Int × (List Int))) (x28 : (List Int)) (p0 : Tapi_Lift) (p1 : Int) (p2 : Int) (p3 : Int) : List AObj := [oR true 1 eI (List.set s30.2 (Int.toNat s30.1) 0), oX false false 1 (.ptr 3 0 0), oX false false 1 (.ref 4 0 x28.length), oX true false 7 (.agg [vI p0.Grain, vI p0.Count, vI p0.One, eL false (eL true eI) p0.Rows, vI p1, vI p2, vI p3]), oR true 1 eI x28]
noncomputable abbrev s21_37 (x20 : Int) (s30 : (Int × (List Int))) (x24 : (List Int)) : List (Nat × AV) := [(12, vI x20), (13, .ref 0 0 s30.2.length), (14, .fn (.func 71) [] [.ptr 1 0 0, .ptr 2 0 0]), (36, .ref 0 0 s30.2.length), (37, vI (x24.length : Int)), (38, vI s30.1)]
noncomputable abbrev s21_38 (x20 : Int) (s30 : (Int × (List Int))) (x24 : (List Int)) (a33 : Int) : List (Nat × AV) := (s21_37 x20 s30 x24) ++ [(39, vB true), (40, vI s30.1), (41, .ptr 0 (Int.toNat s30.1) 0), (42, vI a33), (15, vI s30.1), (16, vI a33), (43, .ref 0 0 s30.2.length), (44, vI s30.1), (45, .fn (.func 71) [] [.ptr 1 0 0, .ptr 2 0 0]), (46, vI a33)]
theorem g_lift_Ones_ok (p0 : Tapi_Lift) (p1 : Int) (p2 : Int) (p3 : Int) (x : ((List Tapi_Q) × Int)) (h : g_lift_Ones p0 p1 p2 p3 = some x) : CallOk Try.prog 21 [.agg [vI p0.Grain, vI p0.Count, vI p0.One, eL false (eL true eI) p0.Rows], vI p1, vI p2, vI p3] (.ret (.tup [.ref 0 0 x.1.length, vI x.2]) [oR true 2 eTapi_Q x.1]) := by
  refine fn_ok [] Try.func21 rfl (by decide +kernel) rfl ?_
  unfold g_lift_Ones at h
  refine wp_eqB (base' := 0) (st' := ⟨(s21_1 p0 p1 p2 p3), [], 53⟩) rfl (by kernel_rfl) ?_
  refine wp_seq (reg_in ?_)
  refine sl false [] [] false rfl ?_
  refine sz 2 3 (reg_end rfl (wp_seq (reg_in ?_)))
  refine sgz 4 4 (S := ⟨(s21_1 p0 p1 p2 p3) ++ [(4, .ptr 0 0 0), (8, .nils), (9, vI 0), (18, .agg [vI p0.Grain, vI p0.Count, vI p0.One, eL false (eL true eI) p0.Rows]), (19, vI p1), (20, vI p2), (21, vI p3)], (s21_2 p0), 53⟩) ?_
  refine inlR (f := 42) (fn := Try.f42) (as0 := [.agg [vI p0.Grain, vI p0.Count, vI p0.One, eL false (eL true eI) p0.Rows], vI p1, vI p2, vI p3]) (by kernel_rfl) Try.func42 rfl (by decide +kernel) rfl ?_
  refine wp_eqB (base' := 1) (st' := ⟨(s21_1 p0 p1 p2 p3), (s21_2 p0), 55⟩) rfl (by kernel_rfl) ?_
  refine wp_seq (reg_in ?_)
  refine sl false [] [] false rfl ?_
  refine sz 2 3 (reg_end rfl (wp_seq (wp_seq (reg_in (sz 1 1 ?_)))))
  refine callZ (as0 := [.agg [vI p0.Grain, vI p0.Count, vI p0.One, eL false (eL true eI) p0.Rows]]) (ids := []) (by kernel_rfl) bodyB_14 (msnap_cons (snap_agg (msnap_cons rfl (msnap_cons rfl (msnap_cons rfl (msnap_cons rfl msnap_nil))))) msnap_nil) (fun x1 q2 => g_lift_Check_ok p0 x1 q2) h (fun x1 q2 h => ?_)
  refine sz 1 3 (reg_end rfl (wp_seq (wg [1, 2, 3, 4, 10] [1] ?_)))
  refine rgN (S := ⟨[(1, vI p1), (2, vI p2), (3, vI p3), (4, .ptr 1 0 0), (10, vI x1), (13, vI x1), (14, vB (x1 != 0))], (s21_3 p0), 55⟩) ?_
  refine wbr (S := fun b3 => ⟨[(1, vI p1), (2, vI p2), (3, vI p3), (4, .ptr 1 0 0), (10, vI x1), (13, vI x1), (14, vB b3)], (s21_3 p0), 55⟩) h (fun q4 h => ?_) (fun q4 h => ?_)
  · refine wcT (wp_seq (wg [10] [] (rn (wg [8, 9] [] ?_))))
    refine wp_ret ?_
    refine ez ?_
    refine sz 5 10 (reg_end rfl (wp_seq (wp_seq (wg [10, 11] [] (rn ?_)))))
    refine wkn (S := fun b5 => ⟨[(10, .nilp), (11, vI x1), (25, vI x1), (26, vB b5)], [], 53⟩) q4 ?_
    refine wcT (sq ?_)
    refine wgc [8, 9] [] ⟨[(8, .nils), (9, vI x1)], [], 53⟩ ?_
    refine wp_wk (wk_nil 8 2 true true (st' := ⟨[(8, .ref 0 0 0), (9, vI x1)], [.row false false true true 2 []], 53⟩) (by kernel_rfl)) ?_
    cases h
    exact wp_ret (show fnOut _ _ _ _ = _ from by kernel_rfl)
  refine wcF (wp_skip (wp_seq (wp_seq (reg_in (sz 3 3 (rwg [1, 2, 3, 4, 18] [1] ?_))))))
  refine rbr (S := fun b6 => ⟨[(1, vI p1), (2, vI p2), (3, vI p3), (4, .ptr 1 0 0), (18, vB b6)], (s21_3 p0), 55⟩) h (fun q7 h => ?_) (fun q7 h => ?_)
  · refine sz 30 33 (reg_end rfl (wcT (wp_seq (wg [] [] (rn (wg [8, 9] [] ?_))))))
    refine wp_ret ?_
    refine ez ?_
    refine sz 5 10 (reg_end rfl (wp_seq (wp_seq (wg [10, 11] [] (rn (wcT (sq ?_)))))))
    refine wgc [8, 9] [] ⟨[(8, .nils), (9, vI 2)], [], 53⟩ ?_
    refine wp_wk (wk_nil 8 2 true true (st' := ⟨[(8, .ref 0 0 0), (9, vI 2)], [.row false false true true 2 []], 53⟩) (by kernel_rfl)) ?_
    cases h
    exact wp_ret (show fnOut _ _ _ _ = _ from by kernel_rfl)
  refine sz 6 9 (rwg [1, 2, 3, 4, 24] [1] ?_)
  refine rbr (S := fun b8 => ⟨[(1, vI p1), (2, vI p2), (3, vI p3), (4, .ptr 1 0 0), (24, vB b8)], (s21_3 p0), 55⟩) h (fun q9 h => ?_) (fun q9 h => ?_)
  · refine sz 24 33 (reg_end rfl (wcT (wp_seq (wg [] [] (rn (wg [8, 9] [] ?_))))))
    refine wp_ret ?_
    refine ez ?_
    refine sz 5 10 (reg_end rfl (wp_seq (wp_seq (wg [10, 11] [] (rn (wcT (sq ?_)))))))
    refine wgc [8, 9] [] ⟨[(8, .nils), (9, vI 2)], [], 53⟩ ?_
    refine wp_wk (wk_nil 8 2 true true (st' := ⟨[(8, .ref 0 0 0), (9, vI 2)], [.row false false true true 2 []], 53⟩) (by kernel_rfl)) ?_
    cases h
    exact wp_ret (show fnOut _ _ _ _ = _ from by kernel_rfl)
  refine sz 4 13 (rwg [1, 2, 3, 4, 28] [1] ?_)
  refine rbr (S := fun b10 => ⟨[(1, vI p1), (2, vI p2), (3, vI p3), (4, .ptr 1 0 0), (28, vB b10)], (s21_3 p0), 55⟩) h (fun q11 h => ?_) (fun q11 h => ?_)
  · refine sz 20 33 (reg_end rfl (wcT (wp_seq (wg [] [] (rn (wg [8, 9] [] ?_))))))
    refine wp_ret ?_
    refine ez ?_
    refine sz 5 10 (reg_end rfl (wp_seq (wp_seq (wg [10, 11] [] (rn (wcT (sq ?_)))))))
    refine wgc [8, 9] [] ⟨[(8, .nils), (9, vI 2)], [], 53⟩ ?_
    refine wp_wk (wk_nil 8 2 true true (st' := ⟨[(8, .ref 0 0 0), (9, vI 2)], [.row false false true true 2 []], 53⟩) (by kernel_rfl)) ?_
    cases h
    exact wp_ret (show fnOut _ _ _ _ = _ from by kernel_rfl)
  refine sz 8 21 (rwg [1, 2, 3, 4, 36] [1] ?_)
  refine rbr (S := fun b12 => ⟨[(1, vI p1), (2, vI p2), (3, vI p3), (4, .ptr 1 0 0), (36, vB b12)], (s21_3 p0), 55⟩) h (fun q13 h => ?_) (fun q13 h => ?_)
  · refine sz 12 33 (reg_end rfl (wcT (wp_seq (wg [] [] (rn (wg [8, 9] [] ?_))))))
    refine wp_ret ?_
    refine ez ?_
    refine sz 5 10 (reg_end rfl (wp_seq (wp_seq (wg [10, 11] [] (rn (wcT (sq ?_)))))))
    refine wgc [8, 9] [] ⟨[(8, .nils), (9, vI 2)], [], 53⟩ ?_
    refine wp_wk (wk_nil 8 2 true true (st' := ⟨[(8, .ref 0 0 0), (9, vI 2)], [.row false false true true 2 []], 53⟩) (by kernel_rfl)) ?_
    cases h
    exact wp_ret (show fnOut _ _ _ _ = _ from by kernel_rfl)
  refine sz 4 25 (rwg [1, 2, 3, 4, 40] [1] ?_)
  refine rbr (S := fun b14 => ⟨[(1, vI p1), (2, vI p2), (3, vI p3), (4, .ptr 1 0 0), (40, vB b14)], (s21_3 p0), 55⟩) h (fun q15 h => ?_) (fun q15 h => ?_)
  · refine sz 8 33 (reg_end rfl (wcT (wp_seq (wg [] [] (rn (wg [8, 9] [] ?_))))))
    refine wp_ret ?_
    refine ez ?_
    refine sz 5 10 (reg_end rfl (wp_seq (wp_seq (wg [10, 11] [] (rn (wcT (sq ?_)))))))
    refine wgc [8, 9] [] ⟨[(8, .nils), (9, vI 2)], [], 53⟩ ?_
    refine wp_wk (wk_nil 8 2 true true (st' := ⟨[(8, .ref 0 0 0), (9, vI 2)], [.row false false true true 2 []], 53⟩) (by kernel_rfl)) ?_
    cases h
    exact wp_ret (show fnOut _ _ _ _ = _ from by kernel_rfl)
  refine sz 3 28 ?_
  refine bind_elim h (fun a16 q17 h => ?_)
  refine idxZ (enc := (eL true eI)) (l := p0.Rows) (n := 0) (fl := false) (w := 1) (a := a16) (by kernel_rfl) q17 ?_
  refine sz 1 30 ?_
  refine lenZ (enc := eI) (l := a16) (fl := true) (by kernel_rfl) ?_
  refine sz 2 33 (reg_end rfl ?_)
  refine wbz h (fun q19 h => ?_) (fun q19 h => ?_)
  · refine wp_seq (wg [] [] (rn (wg [8, 9] [] ?_)))
    refine wp_ret ?_
    refine ez ?_
    refine sz 5 10 (reg_end rfl (wp_seq (wp_seq (wg [10, 11] [] (rn (wcT (sq ?_)))))))
    refine wgc [8, 9] [] ⟨[(8, .nils), (9, vI 2)], [], 53⟩ ?_
    refine wp_wk (wk_nil 8 2 true true (st' := ⟨[(8, .ref 0 0 0), (9, vI 2)], [.row false false true true 2 []], 53⟩) (by kernel_rfl)) ?_
    cases h
    exact wp_ret (show fnOut _ _ _ _ = _ from by kernel_rfl)
  refine wp_skip (wp_seq (wg [1, 2, 3, 4] [1] (reg_in (sz 5 5 ?_))))
  refine sl false [] [] false rfl ?_
  refine sz 2 8 (reg_end rfl (wg [8, 9] [2] ?_))
  refine wp_ret ?_
  refine ez ?_
  refine sz 5 10 (reg_end rfl (wp_seq (wp_seq (wg [10, 11] [1] (rn (wcF (wp_skip (wp_seq ?_))))))))
  refine reg_in ?_
  refine sgz 1 1 (S := ⟨[(10, .ptr 0 0 0), (11, vI 0), (25, vI 0), (26, vB false), (28, .ptr 0 0 0)], (s21_19 p0 p1 p2 p3), 53⟩) ?_
  refine callZ (as0 := [.ptr 0 0 0]) (ids := [0]) (by kernel_rfl) bodyB_44 (msnap_cons (snap_ptr rfl (msnap_cons (snap_agg (msnap_cons rfl (msnap_cons rfl (msnap_cons rfl (msnap_cons rfl (msnap_cons rfl (msnap_cons rfl (msnap_cons rfl msnap_nil (by rfl)) (by rfl)) (by rfl)) (by rfl)) (by rfl)) (by rfl)) (by rfl))) msnap_nil (by rfl)) (by rfl) (by rfl)) msnap_nil (by rfl)) (fun x20 q21 => g_lift_counter_mass_ok (Tlift_counter.mk p0 p1 p2 p3) x20 q21) h (fun x20 q21 h => ?_)
  refine sz 1 3 (reg_end rfl (wp_seq (wp_seq (wg [10, 12] [0] (rn ?_)))))
  refine wbr (S := fun b22 => ⟨[(10, .ptr 0 0 0), (12, vI x20), (30, vI x20), (31, vB b22)], (s21_19 p0 p1 p2 p3), 53⟩) h (fun q23 h => ?_) (fun q23 h => ?_)
  · refine wcT (sq ?_)
    refine wgc [8, 9] [] ⟨[(8, .nils), (9, vI 7)], [], 53⟩ ?_
    refine wp_wk (wk_nil 8 2 true true (st' := ⟨[(8, .ref 0 0 0), (9, vI 7)], [.row false false true true 2 []], 53⟩) (by kernel_rfl)) ?_
    cases h
    exact wp_ret (show fnOut _ _ _ _ = _ from by kernel_rfl)
  refine wcF (wp_skip (wp_seq (reg_in ?_)))
  refine sgz 1 1 (S := ⟨[(10, .ptr 0 0 0), (12, vI x20), (30, vI x20), (31, vB false), (32, .ptr 0 0 0)], (s21_19 p0 p1 p2 p3), 53⟩) ?_
  refine callZ (as0 := [.ptr 0 0 0]) (ids := [0]) (by kernel_rfl) bodyB_50 (msnap_cons (snap_ptr rfl (msnap_cons (snap_agg (msnap_cons rfl (msnap_cons rfl (msnap_cons rfl (msnap_cons rfl (msnap_cons rfl (msnap_cons rfl (msnap_cons rfl msnap_nil (by rfl)) (by rfl)) (by rfl)) (by rfl)) (by rfl)) (by rfl)) (by rfl))) msnap_nil (by rfl)) (by rfl) (by rfl)) msnap_nil (by rfl)) (fun x24 q25 => g_lift_counter_numbers_ok (Tlift_counter.mk p0 p1 p2 p3) x24 q25) h (fun x24 q25 h => ?_)
  refine sgz 1 3 (S := ⟨[(10, .ptr 0 0 0), (12, vI x20), (30, vI x20), (31, vB false), (32, .ptr 0 0 0), (33, .ref 1 0 x24.length), (34, .ptr 0 0 0)], [oX true false 7 (.agg [vI p0.Grain, vI p0.Count, vI p0.One, eL false (eL true eI) p0.Rows, vI p1, vI p2, vI p3]), oR true 1 eI x24], 53⟩) ?_
  refine inlR (f := 51) (fn := Try.f51) (as0 := [.ptr 0 0 0]) (by kernel_rfl) Try.func51 rfl (by decide +kernel) rfl ?_
  refine wp_eqB (base' := 2) (st' := ⟨[(0, .ptr 0 0 0)], [oX true false 7 (.agg [vI p0.Grain, vI p0.Count, vI p0.One, eL false (eL true eI) p0.Rows, vI p1, vI p2, vI p3]), oR true 1 eI x24], 8⟩) rfl (by kernel_rfl) ?_
  refine wp_seq (reg_in ?_)
  refine sl false [] [] false rfl ?_
  refine sz 1 2 (reg_end rfl (wp_seq (reg_in ?_)))
  refine sgz 1 1 (S := ⟨[(0, .ptr 0 0 0), (1, .ptr 2 0 0), (2, .nilf), (4, .ptr 0 0 0)], [oX true false 7 (.agg [vI p0.Grain, vI p0.Count, vI p0.One, eL false (eL true eI) p0.Rows, vI p1, vI p2, vI p3]), oR true 1 eI x24, oX false false 1 (.ptr 0 0 0)], 8⟩) ?_
  refine callZ (as0 := [.ptr 0 0 0]) (ids := [0]) (by kernel_rfl) bodyB_54 (msnap_cons (snap_ptr rfl (msnap_cons (snap_agg (msnap_cons rfl (msnap_cons rfl (msnap_cons rfl (msnap_cons rfl (msnap_cons rfl (msnap_cons rfl (msnap_cons rfl msnap_nil (by rfl)) (by rfl)) (by rfl)) (by rfl)) (by rfl)) (by rfl)) (by rfl))) msnap_nil (by rfl)) (by rfl) (by rfl)) msnap_nil (by rfl)) (fun x26 q27 => g_lift_counter_unknown_ok (Tlift_counter.mk p0 p1 p2 p3) x26 q27) h (fun x26 q27 h => ?_)
  refine callY (f := 70) (as0 := [vI x26]) (us := [vI x26]) (G := g_lift_binomial x26) (rv := fun x28 => .ref 0 0 x28.length) (ro := fun x28 => [oR true 1 eI x28]) bodyB_70 (fun x28 q29 => g_lift_binomial_ok x26 x28 q29) h (fun x28 q29 h => ?_)
  refine sl false [] [] false rfl ?_
  refine sz 1 5 (reg_end rfl (wp_seq (wg [1, 3] [2, 4, 3] (rn ?_))))
  refine wgc [2] [2, 3, 4] ⟨[(2, .fn (.func 71) [] [.ptr 2 0 0, .ptr 3 0 0])], [oX true false 7 (.agg [vI p0.Grain, vI p0.Count, vI p0.One, eL false (eL true eI) p0.Rows, vI p1, vI p2, vI p3]), oR true 1 eI x24, oX false false 1 (.ptr 0 0 0), oX false false 1 (.ref 4 0 x28.length), oR true 1 eI x28], 8⟩ ?_
  refine wp_ret ?_
  refine ez ?_
  refine sz 2 6 (reg_end rfl (wp_seq (wp_seq (wg [12, 13, 14] [1, 2, 3, 0, 4] (rn (wp_block ?_))))))
  refine wwh h (fun s30 => ⟨(s21_37 x20 s30 x24), (s21_30 s30 x28 p0 p1 p2 p3), 53⟩) (fun v out => out = .go (.exit 0) ⟨[(12, vI x20), (13, .ref 0 0 v.length)], [oR true 1 eI v], 53⟩) (wk_gc (live := [12, 13, 14, 36, 37, 38]) (keep := [0, 1, 2, 3, 4]) (by kernel_rfl)) ?_ ?_
  · intro s30 o h
    unfold g_lift_Ones_b0 at h
    refine sq (wp_seq ?_)
    refine wbr (S := fun b31 => ⟨(s21_37 x20 s30 x24) ++ [(39, vB b31)], (s21_30 s30 x28 p0 p1 p2 p3), 53⟩) h (fun q32 h => ?_) (fun q32 h => ?_)
    · refine wcT (wp_skip (wp_seq (wp_block (wp_seq (reg_in (sz 1 1 ?_))))))
      refine bind_elim h (fun a33 q34 h => ?_)
      refine idxY (enc := eI) (l := s30.2) (n := s30.1) (w := 1) (ob := 0) (ro := false) (nr := true) (fl := true) q34 ?_
      refine loadY (enc := eI) (l := s30.2) (n := s30.1) (w := 1) (ob := 0) (c := 0) (bx := false) (ro := false) (nr := true) (fl := true) q34 ?_
      refine sz 2 5 (reg_end rfl (reg_in ?_))
      refine sgz 4 4 (S := ⟨(s21_38 x20 s30 x24 a33), (s21_30 s30 x28 p0 p1 p2 p3), 53⟩) ?_
      refine inlR (f := 71) (fn := Try.f71) (as0 := [vI a33, .ptr 1 0 0, .ptr 2 0 0]) (by kernel_rfl) Try.func71 rfl (by decide +kernel) rfl ?_
      refine wp_eqB (base' := 5) (st' := ⟨[(0, vI a33), (1, .ptr 1 0 0), (2, .ptr 2 0 0)], (s21_30 s30 x28 p0 p1 p2 p3), 49⟩) rfl (by kernel_rfl) ?_
      refine sq (wp_seq (wp_seq (rga hfol (sy 7 7 ?_))))
      refine rbr (S := fun b35 => ⟨[(0, vI a33), (1, .ptr 1 0 0), (2, .ptr 2 0 0), (4, vI 0), (5, vI a33), (6, .ptr 3 0 0), (7, .ptr 3 0 0), (8, .ptr 3 0 5), (9, vI p2), (10, vB b35), (11, vB b35)], (s21_30 s30 x28 p0 p1 p2 p3), 49⟩) h (fun q36 h => ?_) (fun q36 h => ?_)
      · refine sy 13 20 (rgd (wcT (wp_seq (wg [] [] (rn (wg [4] [] ?_))))))
        refine wp_ret ?_
        refine ez ?_
        refine idxR' (enc := eI) (l := s30.2) (n := s30.1) (w := 1) (ob := 0) (ro := false) (nr := true) (fl := true) (a := a33) (S := ⟨(s21_38 x20 s30 x24 a33) ++ [(47, vI 0), (48, .ptr 0 (Int.toNat s30.1) 0)], (s21_30 s30 x28 p0 p1 p2 p3), 53⟩) (by kernel_rfl) (by kernel_rfl) (by kernel_rfl) q34 ?_
        refine storeR (enc := eI) (l := s30.2) (n := s30.1) (ob := 0) (c := 0) (a := a33) (a' := 0) (v := vI 0) (S := ⟨(s21_38 x20 s30 x24 a33) ++ [(47, vI 0), (48, .ptr 0 (Int.toNat s30.1) 0)], (s21_32 s30 x28 p0 p1 p2 p3), 53⟩) false (by kernel_rfl) rfl q34 (by kernel_rfl) rfl (by kernel_rfl) (by kernel_rfl) (by kernel_rfl) ?_
        refine rw_knN (n := s30.2.length) (m := (List.set s30.2 (Int.toNat s30.1) 0).length) (S := fun n37 => ⟨[(12, vI x20), (13, .ref 0 0 n37), (14, .fn (.func 71) [] [.ptr 1 0 0, .ptr 2 0 0]), (36, .ref 0 0 n37), (37, vI (x24.length : Int)), (38, vI s30.1), (39, vB true), (40, vI s30.1), (41, .ptr 0 (Int.toNat s30.1) 0), (42, vI a33), (15, vI s30.1), (16, vI a33), (43, .ref 0 0 n37), (44, vI s30.1), (45, .fn (.func 71) [] [.ptr 1 0 0, .ptr 2 0 0]), (46, vI a33), (47, vI 0), (48, .ptr 0 (Int.toNat s30.1) 0)], (s21_32 s30 x28 p0 p1 p2 p3), 53⟩) (by simp only [List.length_set]) ?_
        refine reg_end rfl (wg [12, 13, 14, 36, 37, 38] [0, 1, 2, 3, 4] (rn ?_))
        cases h
        exact ⟨_, rfl, (wk_gc (live := [12, 13, 14, 36, 37, 38]) (keep := [0, 1, 2, 3, 4]) (by kernel_rfl))⟩
      refine sy 13 20 (rgd ?_)
      refine wbz h (fun q39 h => ?_) (fun q39 h => ?_)
      · refine wp_seq (wg [] [] (rn (wg [4] [] ?_)))
        refine wp_ret ?_
        refine ez ?_
        refine idxR' (enc := eI) (l := s30.2) (n := s30.1) (w := 1) (ob := 0) (ro := false) (nr := true) (fl := true) (a := a33) (S := ⟨(s21_38 x20 s30 x24 a33) ++ [(47, vI 0), (48, .ptr 0 (Int.toNat s30.1) 0)], (s21_30 s30 x28 p0 p1 p2 p3), 53⟩) (by kernel_rfl) (by kernel_rfl) (by kernel_rfl) q34 ?_
        refine storeR (enc := eI) (l := s30.2) (n := s30.1) (ob := 0) (c := 0) (a := a33) (a' := 0) (v := vI 0) (S := ⟨(s21_38 x20 s30 x24 a33) ++ [(47, vI 0), (48, .ptr 0 (Int.toNat s30.1) 0)], (s21_32 s30 x28 p0 p1 p2 p3), 53⟩) false (by kernel_rfl) rfl q34 (by kernel_rfl) rfl (by kernel_rfl) (by kernel_rfl) (by kernel_rfl) ?_
        refine rw_knN (n := s30.2.length) (m := (List.set s30.2 (Int.toNat s30.1) 0).length) (S := fun n40 => ⟨[(12, vI x20), (13, .ref 0 0 n40), (14, .fn (.func 71) [] [.ptr 1 0 0, .ptr 2 0 0]), (36, .ref 0 0 n40), (37, vI (x24.length : Int)), (38, vI s30.1), (39, vB true), (40, vI s30.1), (41, .ptr 0 (Int.toNat s30.1) 0), (42, vI a33), (15, vI s30.1), (16, vI a33), (43, .ref 0 0 n40), (44, vI s30.1), (45, .fn (.func 71) [] [.ptr 1 0 0, .ptr 2 0 0]), (46, vI a33), (47, vI 0), (48, .ptr 0 (Int.toNat s30.1) 0)], (s21_32 s30 x28 p0 p1 p2 p3), 53⟩) (by simp only [List.length_set]) ?_
        refine reg_end rfl (wg [12, 13, 14, 36, 37, 38] [0, 1, 2, 3, 4] (rn ?_))
        cases h
        exact ⟨_, rfl, (wk_gc (live := [12, 13, 14, 36, 37, 38]) (keep := [0, 1, 2, 3, 4]) (by kernel_rfl))⟩
      refine wp_skip (wp_seq (wg [0, 1, 2] [] (rga hfol (sy 7 7 ?_))))
      refine bind_elim h (fun a41 q42 h => ?_)
      refine idxY (enc := eI) (l := x28) (n := IntKind.i64.wrap (a33 - p2)) (w := 1) (ob := 4) (ro := false) (nr := true) (fl := true) q42 ?_
      refine loadY (enc := eI) (l := x28) (n := IntKind.i64.wrap (a33 - p2)) (w := 1) (ob := 4) (c := 0) (bx := false) (ro := false) (nr := true) (fl := true) q42 ?_
      refine sgy 9 18 (S := ⟨[(0, vI a33), (1, .ptr 1 0 0), (2, .ptr 2 0 0), (25, .ref 4 0 x28.length), (26, vI a33), (27, .ptr 3 0 0), (28, .ptr 3 0 0), (29, .ptr 3 0 5), (30, vI p2), (31, vI (IntKind.i64.wrap (a33 - p2)))] ++ [(32, .ptr 4 (Int.toNat (IntKind.i64.wrap (a33 - p2))) 0), (33, vI a41), (34, .ptr 3 0 0), (35, vI a33), (36, .ptr 3 0 0), (37, .ptr 3 0 0), (38, .ptr 3 0 0), (39, .ptr 3 0 1), (40, vI p0.Count), (41, vI a33), (42, vI (IntKind.i64.wrap (p0.Count - a33)))], (s21_30 s30 x28 p0 p1 p2 p3), 49⟩) ?_
      refine callZ (as0 := [.ptr 3 0 0, vI a33, vI (IntKind.i64.wrap (p0.Count - a33))]) (ids := [3]) (by kernel_rfl) bodyB_72 (msnap_cons (snap_ptr rfl (msnap_cons (snap_agg (msnap_cons rfl (msnap_cons rfl (msnap_cons rfl (msnap_cons rfl (msnap_cons rfl (msnap_cons rfl (msnap_cons rfl msnap_nil (by rfl)) (by rfl)) (by rfl)) (by rfl)) (by rfl)) (by rfl)) (by rfl))) msnap_nil (by rfl)) (by rfl) (by rfl)) (msnap_cons rfl (msnap_cons rfl msnap_nil (by rfl)) (by rfl)) (by rfl)) (fun x43 q44 => g_lift_counter_members_ok (Tlift_counter.mk p0 p1 p2 p3) a33 (IntKind.i64.wrap (p0.Count - a33)) x43 q44) h (fun x43 q44 h => ?_)
      refine sgy 3 22 (S := ⟨[(0, vI a33), (1, .ptr 1 0 0), (2, .ptr 2 0 0), (25, .ref 4 0 x28.length), (26, vI a33), (27, .ptr 3 0 0), (28, .ptr 3 0 0), (29, .ptr 3 0 5), (30, vI p2), (31, vI (IntKind.i64.wrap (a33 - p2)))] ++ [(32, .ptr 4 (Int.toNat (IntKind.i64.wrap (a33 - p2))) 0), (33, vI a41), (34, .ptr 3 0 0), (35, vI a33), (36, .ptr 3 0 0), (37, .ptr 3 0 0), (38, .ptr 3 0 0), (39, .ptr 3 0 1), (40, vI p0.Count), (41, vI a33), (42, vI (IntKind.i64.wrap (p0.Count - a33)))] ++ [(43, vI x43), (44, vI (IntKind.i64.wrap (a41 * x43))), (45, .ptr 3 0 0), (46, vI a33)], (s21_30 s30 x28 p0 p1 p2 p3), 49⟩) ?_
      refine callZ (as0 := [.ptr 3 0 0, vI a33]) (ids := [3]) (by kernel_rfl) bodyB_73 (msnap_cons (snap_ptr rfl (msnap_cons (snap_agg (msnap_cons rfl (msnap_cons rfl (msnap_cons rfl (msnap_cons rfl (msnap_cons rfl (msnap_cons rfl (msnap_cons rfl msnap_nil (by rfl)) (by rfl)) (by rfl)) (by rfl)) (by rfl)) (by rfl)) (by rfl))) msnap_nil (by rfl)) (by rfl) (by rfl)) (msnap_cons rfl msnap_nil (by rfl)) (by rfl)) (fun x45 q46 => g_lift_counter_shown_ok (Tlift_counter.mk p0 p1 p2 p3) a33 x45 q46) h (fun x45 q46 h => ?_)
      refine sy 2 25 (rgd (wg [4] [] ?_))
      refine wp_ret ?_
      refine ez ?_
      refine idxR' (enc := eI) (l := s30.2) (n := s30.1) (w := 1) (ob := 0) (ro := false) (nr := true) (fl := true) (a := a33) (S := ⟨(s21_38 x20 s30 x24 a33) ++ [(47, vI (IntKind.i64.wrap ((IntKind.i64.wrap (a41 * x43)) * x45))), (48, .ptr 0 (Int.toNat s30.1) 0)], (s21_30 s30 x28 p0 p1 p2 p3), 53⟩) (by kernel_rfl) (by kernel_rfl) (by kernel_rfl) q34 ?_
      refine storeR (enc := eI) (l := s30.2) (n := s30.1) (ob := 0) (c := 0) (a := a33) (a' := IntKind.i64.wrap ((IntKind.i64.wrap (a41 * x43)) * x45)) (v := vI (IntKind.i64.wrap ((IntKind.i64.wrap (a41 * x43)) * x45))) (S := ⟨(s21_38 x20 s30 x24 a33) ++ [(47, vI (IntKind.i64.wrap ((IntKind.i64.wrap (a41 * x43)) * x45))), (48, .ptr 0 (Int.toNat s30.1) 0)], [oR true 1 eI (List.set s30.2 (Int.toNat s30.1) (IntKind.i64.wrap ((IntKind.i64.wrap (a41 * x43)) * x45))), oX false false 1 (.ptr 3 0 0), oX false false 1 (.ref 4 0 x28.length), oX true false 7 (.agg [vI p0.Grain, vI p0.Count, vI p0.One, eL false (eL true eI) p0.Rows, vI p1, vI p2, vI p3]), oR true 1 eI x28], 53⟩) false (by kernel_rfl) rfl q34 (by kernel_rfl) rfl (by kernel_rfl) (by kernel_rfl) (by kernel_rfl) ?_
      refine rw_knN (n := s30.2.length) (m := (List.set s30.2 (Int.toNat s30.1) (IntKind.i64.wrap ((IntKind.i64.wrap (a41 * x43)) * x45))).length) (S := fun n47 => ⟨[(12, vI x20), (13, .ref 0 0 n47), (14, .fn (.func 71) [] [.ptr 1 0 0, .ptr 2 0 0]), (36, .ref 0 0 n47), (37, vI (x24.length : Int)), (38, vI s30.1), (39, vB true), (40, vI s30.1), (41, .ptr 0 (Int.toNat s30.1) 0), (42, vI a33), (15, vI s30.1), (16, vI a33), (43, .ref 0 0 n47), (44, vI s30.1), (45, .fn (.func 71) [] [.ptr 1 0 0, .ptr 2 0 0]), (46, vI a33), (47, vI (IntKind.i64.wrap ((IntKind.i64.wrap (a41 * x43)) * x45))), (48, .ptr 0 (Int.toNat s30.1) 0)], [oR true 1 eI (List.set s30.2 (Int.toNat s30.1) (IntKind.i64.wrap ((IntKind.i64.wrap (a41 * x43)) * x45))), oX false false 1 (.ptr 3 0 0), oX false false 1 (.ref 4 0 x28.length), oX true false 7 (.agg [vI p0.Grain, vI p0.Count, vI p0.One, eL false (eL true eI) p0.Rows, vI p1, vI p2, vI p3]), oR true 1 eI x28], 53⟩) (by simp only [List.length_set]) ?_
      refine reg_end rfl (wg [12, 13, 14, 36, 37, 38] [0, 1, 2, 3, 4] (rn ?_))
      cases h
      exact ⟨_, rfl, (wk_gc (live := [12, 13, 14, 36, 37, 38]) (keep := [0, 1, 2, 3, 4]) (by kernel_rfl))⟩
    refine wcF ?_
    refine wgc [12, 13] [0] ⟨[(12, vI x20), (13, .ref 0 0 s30.2.length)], [oR true 1 eI s30.2], 53⟩ ?_
    refine wp_exit ?_
    cases h
    exact ⟨rfl, rfl⟩
  intro x49 h out hx
  subst hx
  refine wp_seq (reg_in ?_)
  refine sgz 2 2 (S := ⟨[(12, vI x20), (13, .ref 0 0 x49.length), (50, vI x20), (51, .ref 0 0 x49.length)], [oR true 1 eI x49], 53⟩) ?_
  refine callZ (as0 := [vI x20, .ref 0 0 x49.length]) (ids := [0]) (by kernel_rfl) bodyB_52 (msnap_cons rfl (msnap_cons (snap_full rfl) msnap_nil (by rfl)) (by rfl)) (fun x50 q51 => g_lift_divided_ok x20 x49 x50 q51) h (fun x50 q51 h => ?_)
  refine sz 2 5 (reg_end rfl (wg [8, 9] [1] ?_))
  cases h
  exact wp_ret (show fnOut _ _ _ _ = _ from by kernel_rfl)
theorem g_slices_Equal_api_Q_api_Q_ok (p0 : (List Tapi_Q)) (p1 : (List Tapi_Q)) (x : Bool) (h : g_slices_Equal_api_Q_api_Q p0 p1 = some x) : CallOk Try.prog 23 [eL true eTapi_Q p0, eL true eTapi_Q p1] (.ret (vB x) []) := by
  refine fn_ok [] Try.func23 rfl (by decide +kernel) rfl ?_
  unfold g_slices_Equal_api_Q_api_Q at h
  refine wp_eqB (base' := 0) (st' := ⟨[(0, eL true eTapi_Q p0), (1, eL true eTapi_Q p1)], [], 26⟩) rfl (by kernel_rfl) ?_
  refine sq (wp_seq (wp_seq (reg_in (sz 1 1 ?_))))
  refine lenZ (enc := eTapi_Q) (l := p0) (fl := true) (by kernel_rfl) ?_
  refine sz 1 3 ?_
  refine lenZ (enc := eTapi_Q) (l := p1) (fl := true) (by kernel_rfl) ?_
  refine sz 1 5 (reg_end rfl ?_)
  refine wbz h (fun q2 h => ?_) (fun q2 h => ?_)
  · refine wp_seq (wg [] [] (rn (wg [4] [] ?_)))
    cases h
    exact wp_ret (show fnOut _ _ _ _ = _ from by kernel_rfl)
  refine wp_skip (wp_seq (wp_seq (wg [0, 1] [] (reg_in (sz 1 1 ?_)))))
  refine lenZ (enc := eTapi_Q) (l := p0) (fl := true) (by kernel_rfl) ?_
  refine sz 1 3 (reg_end rfl (wp_block ?_))
  refine wwh h (fun s3 => ⟨[(0, eL true eTapi_Q p0), (1, eL true eTapi_Q p1), (12, vI (p0.length : Int)), (13, vI s3)], [], 26⟩) (fun x out => out = match x with | .inl v => .go (.ret) ⟨[(4, vB false)], [], 26⟩ | .inr v => .go (.exit 0) ⟨[], [], 26⟩) (wk_gc (live := [0, 1, 12, 13]) (keep := []) (by kernel_rfl)) ?_ ?_
  · intro s3 o h
    unfold g_slices_Equal_api_Q_api_Q_b0 at h
    refine sq (wp_seq ?_)
    refine wbr (S := fun b4 => ⟨[(0, eL true eTapi_Q p0), (1, eL true eTapi_Q p1), (12, vI (p0.length : Int)), (13, vI s3), (14, vB b4)], [], 26⟩) h (fun q5 h => ?_) (fun q5 h => ?_)
    · refine wcT (wp_skip (wp_seq (wp_block (sq (wp_seq (rga hfol (sy 2 2 ?_)))))))
      refine bind_elim h (fun a6 q7 h => ?_)
      refine idxZ (enc := eTapi_Q) (l := p0) (n := s3) (fl := true) (w := 2) (a := a6) (by kernel_rfl) q7 ?_
      refine sy 3 6 ?_
      refine bind_elim h (fun a8 q9 h => ?_)
      refine idxZ (enc := eTapi_Q) (l := p1) (n := s3) (fl := true) (w := 2) (a := a8) (by kernel_rfl) q9 ?_
      refine sy 2 9 (rgd ?_)
      refine wbz h (fun q11 h => ?_) (fun q11 h => ?_)
      · refine wp_seq (wg [] [] (rn ?_))
        refine wgc [4] [] ⟨[(4, vB false)], [], 26⟩ ?_
        refine wp_ret ?_
        cases h
        exact ⟨rfl, rfl⟩
      refine wp_skip (wg [0, 1, 12, 13] [] (rn ?_))
      cases h
      exact ⟨_, rfl, (wk_gc (live := [0, 1, 12, 13]) (keep := []) (by kernel_rfl))⟩
    refine wcF ?_
    refine wgc [] [] ⟨[], [], 26⟩ ?_
    refine wp_exit ?_
    cases h
    exact ⟨rfl, rfl⟩
  intro x12 h out hx
  subst hx
  rcases x12 with x13 | x14
  · dsimp only at h ⊢
    cases h
    show fnOut _ _ _ _ = _
    kernel_rfl
  · dsimp only at h ⊢
    refine sq (wg [4] [] ?_)
    cases h
    exact wp_ret (show fnOut _ _ _ _ = _ from by kernel_rfl)
noncomputable abbrev s24_1 (p0 : Tapi_Lift) (p1 : Int) (p2 : Int) (p3 : Int) : List (Nat × AV) := [(0, .agg [vI p0.Grain, vI p0.Count, vI p0.One, eL false (eL true eI) p0.Rows]), (1, vI p1), (2, vI p2), (3, vI p3)]
noncomputable abbrev s24_2 (p0 : Tapi_Lift) : List AObj := [oX true false 4 (.agg [vI p0.Grain, vI p0.Count, vI p0.One, eL false (eL true eI) p0.Rows]), oX true true 2 (.agg [vI 0, vI 0])]
noncomputable abbrev s24_3 (p0 : Tapi_Lift) : List AObj := [oX true false 4 (.agg [vI p0.Grain, vI p0.Count, vI p0.One, eL false (eL true eI) p0.Rows]), oX true true 2 (.agg [vI 0, vI 0]), oX true false 4 (.agg [vI p0.Grain, vI p0.Count, vI p0.One, eL false (eL true eI) p0.Rows])]
noncomputable abbrev s24_19 (p0 : Tapi_Lift) (p1 : Int) (p2 : Int) (p3 : Int) : List AObj := [oX true true 2 (.agg [vI 0, vI 0]), oX true false 7 (.agg [vI p0.Grain, vI p0.Count, vI p0.One, eL false (eL true eI) p0.Rows, vI p1, vI p2, vI p3])]
theorem g_lift_Next_ok (p0 : Tapi_Lift) (p1 : Int) (p2 : Int) (p3 : Int) (x : (Tapi_Q × Int)) (h : g_lift_Next p0 p1 p2 p3 = some x) : CallOk Try.prog 24 [.agg [vI p0.Grain, vI p0.Count, vI p0.One, eL false (eL true eI) p0.Rows], vI p1, vI p2, vI p3] (.ret (.tup [.agg [vI x.1.N, vI x.1.D], vI x.2]) []) := by
  refine fn_ok [] Try.func24 rfl (by decide +kernel) rfl ?_
  unfold g_lift_Next at h
  refine wp_eqB (base' := 0) (st' := ⟨(s24_1 p0 p1 p2 p3), [], 45⟩) rfl (by kernel_rfl) ?_
  refine wp_seq (reg_in ?_)
  refine sl false [] [] false rfl ?_
  refine sz 2 3 (reg_end rfl (wp_seq (reg_in ?_)))
  refine sgz 4 4 (S := ⟨(s24_1 p0 p1 p2 p3) ++ [(4, .ptr 0 0 0), (8, .ptr 1 0 0), (9, vI 0), (15, .agg [vI p0.Grain, vI p0.Count, vI p0.One, eL false (eL true eI) p0.Rows]), (16, vI p1), (17, vI p2), (18, vI p3)], (s24_2 p0), 45⟩) ?_
  refine inlR (f := 42) (fn := Try.f42) (as0 := [.agg [vI p0.Grain, vI p0.Count, vI p0.One, eL false (eL true eI) p0.Rows], vI p1, vI p2, vI p3]) (by kernel_rfl) Try.func42 rfl (by decide +kernel) rfl ?_
  refine wp_eqB (base' := 2) (st' := ⟨(s24_1 p0 p1 p2 p3), (s24_2 p0), 55⟩) rfl (by kernel_rfl) ?_
  refine wp_seq (reg_in ?_)
  refine sl false [] [] false rfl ?_
  refine sz 2 3 (reg_end rfl (wp_seq (wp_seq (reg_in (sz 1 1 ?_)))))
  refine callZ (as0 := [.agg [vI p0.Grain, vI p0.Count, vI p0.One, eL false (eL true eI) p0.Rows]]) (ids := []) (by kernel_rfl) bodyB_14 (msnap_cons (snap_agg (msnap_cons rfl (msnap_cons rfl (msnap_cons rfl (msnap_cons rfl msnap_nil))))) msnap_nil) (fun x1 q2 => g_lift_Check_ok p0 x1 q2) h (fun x1 q2 h => ?_)
  refine sz 1 3 (reg_end rfl (wp_seq (wg [1, 2, 3, 4, 10] [2] ?_)))
  refine rgN (S := ⟨[(1, vI p1), (2, vI p2), (3, vI p3), (4, .ptr 2 0 0), (10, vI x1), (13, vI x1), (14, vB (x1 != 0))], (s24_3 p0), 55⟩) ?_
  refine wbr (S := fun b3 => ⟨[(1, vI p1), (2, vI p2), (3, vI p3), (4, .ptr 2 0 0), (10, vI x1), (13, vI x1), (14, vB b3)], (s24_3 p0), 55⟩) h (fun q4 h => ?_) (fun q4 h => ?_)
  · refine wcT (wp_seq (wg [10] [] (rn (wg [8, 9] [] ?_))))
    refine wp_ret ?_
    refine ez ?_
    refine sz 5 10 (reg_end rfl (wp_seq (wp_seq (wg [8, 10, 11] [1] (rn ?_)))))
    refine wkn (S := fun b5 => ⟨[(8, .ptr 0 0 0), (10, .nilp), (11, vI x1), (22, vI x1), (23, vB b5)], [oX true true 2 (.agg [vI 0, vI 0])], 45⟩) q4 ?_
    refine wcT (sq (wg [8, 9] [0] ?_))
    cases h
    exact wp_ret (show fnOut _ _ _ _ = _ from by kernel_rfl)
  refine wcF (wp_skip (wp_seq (wp_seq (reg_in (sz 3 3 (rwg [1, 2, 3, 4, 18] [2] ?_))))))
  refine rbr (S := fun b6 => ⟨[(1, vI p1), (2, vI p2), (3, vI p3), (4, .ptr 2 0 0), (18, vB b6)], (s24_3 p0), 55⟩) h (fun q7 h => ?_) (fun q7 h => ?_)
  · refine sz 30 33 (reg_end rfl (wcT (wp_seq (wg [] [] (rn (wg [8, 9] [] ?_))))))
    refine wp_ret ?_
    refine ez ?_
    refine sz 5 10 (reg_end rfl (wp_seq (wp_seq (wg [8, 10, 11] [1] (rn (wcT (sq (wg [8, 9] [0] ?_))))))))
    cases h
    exact wp_ret (show fnOut _ _ _ _ = _ from by kernel_rfl)
  refine sz 6 9 (rwg [1, 2, 3, 4, 24] [2] ?_)
  refine rbr (S := fun b8 => ⟨[(1, vI p1), (2, vI p2), (3, vI p3), (4, .ptr 2 0 0), (24, vB b8)], (s24_3 p0), 55⟩) h (fun q9 h => ?_) (fun q9 h => ?_)
  · refine sz 24 33 (reg_end rfl (wcT (wp_seq (wg [] [] (rn (wg [8, 9] [] ?_))))))
    refine wp_ret ?_
    refine ez ?_
    refine sz 5 10 (reg_end rfl (wp_seq (wp_seq (wg [8, 10, 11] [1] (rn (wcT (sq (wg [8, 9] [0] ?_))))))))
    cases h
    exact wp_ret (show fnOut _ _ _ _ = _ from by kernel_rfl)
  refine sz 4 13 (rwg [1, 2, 3, 4, 28] [2] ?_)
  refine rbr (S := fun b10 => ⟨[(1, vI p1), (2, vI p2), (3, vI p3), (4, .ptr 2 0 0), (28, vB b10)], (s24_3 p0), 55⟩) h (fun q11 h => ?_) (fun q11 h => ?_)
  · refine sz 20 33 (reg_end rfl (wcT (wp_seq (wg [] [] (rn (wg [8, 9] [] ?_))))))
    refine wp_ret ?_
    refine ez ?_
    refine sz 5 10 (reg_end rfl (wp_seq (wp_seq (wg [8, 10, 11] [1] (rn (wcT (sq (wg [8, 9] [0] ?_))))))))
    cases h
    exact wp_ret (show fnOut _ _ _ _ = _ from by kernel_rfl)
  refine sz 8 21 (rwg [1, 2, 3, 4, 36] [2] ?_)
  refine rbr (S := fun b12 => ⟨[(1, vI p1), (2, vI p2), (3, vI p3), (4, .ptr 2 0 0), (36, vB b12)], (s24_3 p0), 55⟩) h (fun q13 h => ?_) (fun q13 h => ?_)
  · refine sz 12 33 (reg_end rfl (wcT (wp_seq (wg [] [] (rn (wg [8, 9] [] ?_))))))
    refine wp_ret ?_
    refine ez ?_
    refine sz 5 10 (reg_end rfl (wp_seq (wp_seq (wg [8, 10, 11] [1] (rn (wcT (sq (wg [8, 9] [0] ?_))))))))
    cases h
    exact wp_ret (show fnOut _ _ _ _ = _ from by kernel_rfl)
  refine sz 4 25 (rwg [1, 2, 3, 4, 40] [2] ?_)
  refine rbr (S := fun b14 => ⟨[(1, vI p1), (2, vI p2), (3, vI p3), (4, .ptr 2 0 0), (40, vB b14)], (s24_3 p0), 55⟩) h (fun q15 h => ?_) (fun q15 h => ?_)
  · refine sz 8 33 (reg_end rfl (wcT (wp_seq (wg [] [] (rn (wg [8, 9] [] ?_))))))
    refine wp_ret ?_
    refine ez ?_
    refine sz 5 10 (reg_end rfl (wp_seq (wp_seq (wg [8, 10, 11] [1] (rn (wcT (sq (wg [8, 9] [0] ?_))))))))
    cases h
    exact wp_ret (show fnOut _ _ _ _ = _ from by kernel_rfl)
  refine sz 3 28 ?_
  refine bind_elim h (fun a16 q17 h => ?_)
  refine idxZ (enc := (eL true eI)) (l := p0.Rows) (n := 0) (fl := false) (w := 1) (a := a16) (by kernel_rfl) q17 ?_
  refine sz 1 30 ?_
  refine lenZ (enc := eI) (l := a16) (fl := true) (by kernel_rfl) ?_
  refine sz 2 33 (reg_end rfl ?_)
  refine wbz h (fun q19 h => ?_) (fun q19 h => ?_)
  · refine wp_seq (wg [] [] (rn (wg [8, 9] [] ?_)))
    refine wp_ret ?_
    refine ez ?_
    refine sz 5 10 (reg_end rfl (wp_seq (wp_seq (wg [8, 10, 11] [1] (rn (wcT (sq (wg [8, 9] [0] ?_))))))))
    cases h
    exact wp_ret (show fnOut _ _ _ _ = _ from by kernel_rfl)
  refine wp_skip (wp_seq (wg [1, 2, 3, 4] [2] (reg_in (sz 5 5 ?_))))
  refine sl false [] [] false rfl ?_
  refine sz 2 8 (reg_end rfl (wg [8, 9] [3] ?_))
  refine wp_ret ?_
  refine ez ?_
  refine sz 5 10 (reg_end rfl (wp_seq (wp_seq (wg [8, 10, 11] [1, 2] (rn (wcF (wp_skip (wp_seq ?_))))))))
  refine wp_seq (reg_in ?_)
  refine sgz 1 1 (S := ⟨[(8, .ptr 0 0 0), (10, .ptr 1 0 0), (11, vI 0), (22, vI 0), (23, vB false), (26, .ptr 1 0 0)], (s24_19 p0 p1 p2 p3), 45⟩) ?_
  refine callZ (as0 := [.ptr 1 0 0]) (ids := [1]) (by kernel_rfl) bodyB_54 (msnap_cons (snap_ptr rfl (msnap_cons (snap_agg (msnap_cons rfl (msnap_cons rfl (msnap_cons rfl (msnap_cons rfl (msnap_cons rfl (msnap_cons rfl (msnap_cons rfl msnap_nil (by rfl)) (by rfl)) (by rfl)) (by rfl)) (by rfl)) (by rfl)) (by rfl))) msnap_nil (by rfl)) (by rfl) (by rfl)) msnap_nil (by rfl)) (fun x20 q21 => g_lift_counter_unknown_ok (Tlift_counter.mk p0 p1 p2 p3) x20 q21) h (fun x20 q21 h => ?_)
  refine sz 1 3 (reg_end rfl ?_)
  refine wbz h (fun q23 h => ?_) (fun q23 h => ?_)
  · refine wp_seq (wg [8] [0] (rn (wg [8, 9] [0] ?_)))
    cases h
    exact wp_ret (show fnOut _ _ _ _ = _ from by kernel_rfl)
  refine wp_skip (wp_seq (wg [8, 10] [0, 1] (reg_in ?_)))
  refine sgz 1 1 (S := ⟨[(8, .ptr 0 0 0), (10, .ptr 1 0 0), (30, .ptr 1 0 0)], (s24_19 p0 p1 p2 p3), 45⟩) ?_
  refine callZ (as0 := [.ptr 1 0 0]) (ids := [1]) (by kernel_rfl) bodyB_44 (msnap_cons (snap_ptr rfl (msnap_cons (snap_agg (msnap_cons rfl (msnap_cons rfl (msnap_cons rfl (msnap_cons rfl (msnap_cons rfl (msnap_cons rfl (msnap_cons rfl msnap_nil (by rfl)) (by rfl)) (by rfl)) (by rfl)) (by rfl)) (by rfl)) (by rfl))) msnap_nil (by rfl)) (by rfl) (by rfl)) msnap_nil (by rfl)) (fun x24 q25 => g_lift_counter_mass_ok (Tlift_counter.mk p0 p1 p2 p3) x24 q25) h (fun x24 q25 h => ?_)
  refine sz 1 3 (reg_end rfl (wp_seq (sq ?_)))
  refine wbr (S := fun b26 => ⟨[(8, .ptr 0 0 0), (10, .ptr 1 0 0), (30, .ptr 1 0 0), (31, vI x24), (12, vI x24), (32, vI x24), (33, vB b26)], (s24_19 p0 p1 p2 p3), 45⟩) h (fun q27 h => ?_) (fun q27 h => ?_)
  · refine wcT (wp_seq (wg [8] [0] (rn (wg [8, 9] [0] ?_))))
    cases h
    exact wp_ret (show fnOut _ _ _ _ = _ from by kernel_rfl)
  refine wcF (wp_skip (wp_seq (reg_in (sz 3 3 ?_))))
  refine sl false [] [] false rfl ?_
  refine sz 1 5 (reg_end rfl (wp_seq (wg [8, 12, 13] [0, 2] ?_)))
  refine rgN (S := ⟨[(8, .ptr 0 0 0), (12, vI x24), (13, .ptr 1 0 0), (38, .ptr 1 0 5), (39, vI p2), (40, vI (IntKind.i64.wrap (p2 + 1))), (41, .ptr 1 0 5)], [oX true true 2 (.agg [vI 0, vI 0]), oX true false 7 (.agg [vI p0.Grain, vI p0.Count, vI p0.One, eL false (eL true eI) p0.Rows, vI p1, vI (IntKind.i64.wrap (p2 + 1)), vI p3])], 45⟩) ?_
  refine wp_seq (reg_in ?_)
  refine callZ (as0 := [.ptr 1 0 0]) (ids := [1]) (by kernel_rfl) bodyB_44 (msnap_cons (snap_ptr rfl (msnap_cons (snap_agg (msnap_cons rfl (msnap_cons rfl (msnap_cons rfl (msnap_cons rfl (msnap_cons rfl (msnap_cons rfl (msnap_cons rfl msnap_nil (by rfl)) (by rfl)) (by rfl)) (by rfl)) (by rfl)) (by rfl)) (by rfl))) msnap_nil (by rfl)) (by rfl) (by rfl)) msnap_nil (by rfl)) (fun x28 q29 => g_lift_counter_mass_ok (Tlift_counter.mk p0 p1 (IntKind.i64.wrap (p2 + 1)) p3) x28 q29) h (fun x28 q29 h => ?_)
  refine sz 1 2 ?_
  refine callY (f := 43) (as0 := [vI x28, vI x24]) (us := [vI x28, vI x24]) (G := g_weigh_Ratio x28 x24) (rv := fun x30 => .agg [vI x30.N, vI x30.D]) (ro := fun x30 => []) bodyB_43 (fun x30 q31 => g_weigh_Ratio_ok x28 x24 x30 q31) h (fun x30 q31 h => ?_)
  refine sz 2 5 (reg_end rfl (wg [8, 9] [0] ?_))
  cases h
  exact wp_ret (show fnOut _ _ _ _ = _ from by kernel_rfl)
noncomputable abbrev s26_3 (p0 : Tapi_Lift) : List AObj := [oX true false 4 (.agg [vI p0.Grain, vI p0.Count, vI p0.One, eL false (eL true eI) p0.Rows])]
noncomputable abbrev s26_4 (p0 : Tapi_Lift) : List AObj := [oX true false 4 (.agg [vI p0.Grain, vI p0.Count, vI p0.One, eL false (eL true eI) p0.Rows]), oX true false 4 (.agg [vI p0.Grain, vI p0.Count, vI p0.One, eL false (eL true eI) p0.Rows])]
noncomputable abbrev s26_17 (p0 : Tapi_Lift) (p1 : Int) (p2 : Int) : List AObj := [oX true false 7 (.agg [vI p0.Grain, vI p0.Count, vI p0.One, eL false (eL true eI) p0.Rows, vI p1, vI p2, vI (-1)])]
noncomputable abbrev s26_18 (x18 : Int) (p0 : Tapi_Lift) (a14 : (List Int)) : List (Nat × AV) := [(8, .ptr 0 0 0), (10, vI x18), (26, vI x18), (27, vB false), (28, .ptr 0 0 0), (29, .ptr 0 0 0), (30, .ptr 0 0 0), (31, .ptr 0 0 3), (32, eL false (eL true eI) p0.Rows), (33, .fz [eL true eI a14]), (34, eL true eI a14)]
noncomputable abbrev s26_27 (x18 : Int) (s22 : (Int × (List Int))) (a14 : (List Int)) : List (Nat × AV) := [(8, .ptr 0 0 0), (10, vI x18), (11, .ref 1 0 s22.2.length), (38, vI (((List.replicate (Int.toNat (a14.length : Int)) (0 : Int)).length) : Int)), (39, vI s22.1), (12, vI s22.1), (13, .ptr 2 0 0)]
noncomputable abbrev s26_32 (x18 : Int) (s22 : (Int × (List Int))) (a14 : (List Int)) : List (Nat × AV) := [(8, .ptr 0 0 0), (10, vI x18), (11, .ref 1 0 s22.2.length), (38, vI (((List.replicate (Int.toNat (a14.length : Int)) (0 : Int)).length) : Int)), (39, vI s22.1)]
noncomputable abbrev s26_35 (p0 : Tapi_Lift) (p1 : Int) (p2 : Int) (s22 : (Int × (List Int))) : List AObj := [oX true false 7 (.agg [vI p0.Grain, vI p0.Count, vI p0.One, eL false (eL true eI) p0.Rows, vI p1, vI p2, vI (-1)]), oR true 1 eI s22.2, oX true false 7 (.agg [vI p0.Grain, vI p0.Count, vI p0.One, eL false (eL true eI) p0.Rows, vI p1, vI p2, vI s22.1])]
noncomputable abbrev s26_37 (p0 : Tapi_Lift) (p1 : Int) (p2 : Int) (s22 : (Int × (List Int))) (x25 : Int) : List AObj := [oX true false 7 (.agg [vI p0.Grain, vI p0.Count, vI p0.One, eL false (eL true eI) p0.Rows, vI p1, vI p2, vI (-1)]), oR true 1 eI (List.set s22.2 (Int.toNat s22.1) x25), oX true false 7 (.agg [vI p0.Grain, vI p0.Count, vI p0.One, eL false (eL true eI) p0.Rows, vI p1, vI p2, vI s22.1])]
theorem g_lift_Child_ok (p0 : Tapi_Lift) (p1 : Int) (p2 : Int) (x : ((List Tapi_Q) × Int)) (h : g_lift_Child p0 p1 p2 = some x) : CallOk Try.prog 26 [.agg [vI p0.Grain, vI p0.Count, vI p0.One, eL false (eL true eI) p0.Rows], vI p1, vI p2] (.ret (.tup [.ref 0 0 x.1.length, vI x.2]) [oR true 2 eTapi_Q x.1]) := by
  refine fn_ok [] Try.func26 rfl (by decide +kernel) rfl ?_
  unfold g_lift_Child at h
  refine wp_eqB (base' := 0) (st' := ⟨[(0, .agg [vI p0.Grain, vI p0.Count, vI p0.One, eL false (eL true eI) p0.Rows]), (1, vI p1), (2, vI p2)], [], 55⟩) rfl (by kernel_rfl) ?_
  refine wp_seq (reg_in ?_)
  refine sl false [] [] false rfl ?_
  refine sz 2 3 (reg_end rfl (wp_seq (reg_in ?_)))
  refine sgz 3 3 (S := ⟨[(0, .agg [vI p0.Grain, vI p0.Count, vI p0.One, eL false (eL true eI) p0.Rows]), (1, vI p1), (2, vI p2)] ++ [(3, .ptr 0 0 0), (6, .nils), (7, vI 0), (15, .agg [vI p0.Grain, vI p0.Count, vI p0.One, eL false (eL true eI) p0.Rows]), (16, vI p1), (17, vI p2)], (s26_3 p0), 55⟩) ?_
  refine inlR (f := 42) (fn := Try.f42) (as0 := [.agg [vI p0.Grain, vI p0.Count, vI p0.One, eL false (eL true eI) p0.Rows], vI p1, vI p2, vI (-1)]) (by kernel_rfl) Try.func42 rfl (by decide +kernel) rfl ?_
  refine wp_eqB (base' := 1) (st' := ⟨[(0, .agg [vI p0.Grain, vI p0.Count, vI p0.One, eL false (eL true eI) p0.Rows]), (1, vI p1), (2, vI p2), (3, vI (-1))], (s26_3 p0), 55⟩) rfl (by kernel_rfl) ?_
  refine wp_seq (reg_in ?_)
  refine sl false [] [] false rfl ?_
  refine sz 2 3 (reg_end rfl (wp_seq (wp_seq (reg_in (sz 1 1 ?_)))))
  refine callZ (as0 := [.agg [vI p0.Grain, vI p0.Count, vI p0.One, eL false (eL true eI) p0.Rows]]) (ids := []) (by kernel_rfl) bodyB_14 (msnap_cons (snap_agg (msnap_cons rfl (msnap_cons rfl (msnap_cons rfl (msnap_cons rfl msnap_nil))))) msnap_nil) (fun x1 q2 => g_lift_Check_ok p0 x1 q2) h (fun x1 q2 h => ?_)
  refine sz 1 3 (reg_end rfl (wp_seq (wg [1, 2, 3, 4, 10] [1] ?_)))
  refine rgN (S := ⟨[(1, vI p1), (2, vI p2), (3, vI (-1)), (4, .ptr 1 0 0), (10, vI x1), (13, vI x1), (14, vB (x1 != 0))], (s26_4 p0), 55⟩) ?_
  refine wbr (S := fun b3 => ⟨[(1, vI p1), (2, vI p2), (3, vI (-1)), (4, .ptr 1 0 0), (10, vI x1), (13, vI x1), (14, vB b3)], (s26_4 p0), 55⟩) h (fun q4 h => ?_) (fun q4 h => ?_)
  · refine wcT (wp_seq (wg [10] [] (rn (wg [8, 9] [] ?_))))
    refine wp_ret ?_
    refine ez ?_
    refine sz 5 9 (reg_end rfl (wp_seq (wp_seq (wg [8, 9] [] (rn ?_)))))
    refine wkn (S := fun b5 => ⟨[(8, .nilp), (9, vI x1), (21, vI x1), (22, vB b5)], [], 55⟩) q4 ?_
    refine wcT (sq ?_)
    refine wgc [6, 7] [] ⟨[(6, .nils), (7, vI x1)], [], 55⟩ ?_
    refine wp_wk (wk_nil 6 2 true true (st' := ⟨[(6, .ref 0 0 0), (7, vI x1)], [.row false false true true 2 []], 55⟩) (by kernel_rfl)) ?_
    cases h
    exact wp_ret (show fnOut _ _ _ _ = _ from by kernel_rfl)
  refine wcF (wp_skip (wp_seq (wp_seq (reg_in (sz 3 3 (rwg [1, 2, 3, 4, 18] [1] ?_))))))
  refine rbr (S := fun b6 => ⟨[(1, vI p1), (2, vI p2), (3, vI (-1)), (4, .ptr 1 0 0), (18, vB b6)], (s26_4 p0), 55⟩) h (fun q7 h => ?_) (fun q7 h => ?_)
  · refine sz 30 33 (reg_end rfl (wcT (wp_seq (wg [] [] (rn (wg [8, 9] [] ?_))))))
    refine wp_ret ?_
    refine ez ?_
    refine sz 5 9 (reg_end rfl (wp_seq (wp_seq (wg [8, 9] [] (rn (wcT (sq ?_)))))))
    refine wgc [6, 7] [] ⟨[(6, .nils), (7, vI 2)], [], 55⟩ ?_
    refine wp_wk (wk_nil 6 2 true true (st' := ⟨[(6, .ref 0 0 0), (7, vI 2)], [.row false false true true 2 []], 55⟩) (by kernel_rfl)) ?_
    cases h
    exact wp_ret (show fnOut _ _ _ _ = _ from by kernel_rfl)
  refine sz 6 9 (rwg [1, 2, 3, 4, 24] [1] ?_)
  refine rbr (S := fun b8 => ⟨[(1, vI p1), (2, vI p2), (3, vI (-1)), (4, .ptr 1 0 0), (24, vB b8)], (s26_4 p0), 55⟩) h (fun q9 h => ?_) (fun q9 h => ?_)
  · refine sz 24 33 (reg_end rfl (wcT (wp_seq (wg [] [] (rn (wg [8, 9] [] ?_))))))
    refine wp_ret ?_
    refine ez ?_
    refine sz 5 9 (reg_end rfl (wp_seq (wp_seq (wg [8, 9] [] (rn (wcT (sq ?_)))))))
    refine wgc [6, 7] [] ⟨[(6, .nils), (7, vI 2)], [], 55⟩ ?_
    refine wp_wk (wk_nil 6 2 true true (st' := ⟨[(6, .ref 0 0 0), (7, vI 2)], [.row false false true true 2 []], 55⟩) (by kernel_rfl)) ?_
    cases h
    exact wp_ret (show fnOut _ _ _ _ = _ from by kernel_rfl)
  refine sz 4 13 (rwg [1, 2, 3, 4, 28] [1] ?_)
  refine rbr (S := fun b10 => ⟨[(1, vI p1), (2, vI p2), (3, vI (-1)), (4, .ptr 1 0 0), (28, vB b10)], (s26_4 p0), 55⟩) h (fun q11 h => ?_) (fun q11 h => ?_)
  · refine sz 20 33 (reg_end rfl (wcT (wp_seq (wg [] [] (rn (wg [8, 9] [] ?_))))))
    refine wp_ret ?_
    refine ez ?_
    refine sz 5 9 (reg_end rfl (wp_seq (wp_seq (wg [8, 9] [] (rn (wcT (sq ?_)))))))
    refine wgc [6, 7] [] ⟨[(6, .nils), (7, vI 2)], [], 55⟩ ?_
    refine wp_wk (wk_nil 6 2 true true (st' := ⟨[(6, .ref 0 0 0), (7, vI 2)], [.row false false true true 2 []], 55⟩) (by kernel_rfl)) ?_
    cases h
    exact wp_ret (show fnOut _ _ _ _ = _ from by kernel_rfl)
  refine sz 8 21 (rwg [1, 2, 3, 4, 36] [1] ?_)
  refine rbr (S := fun b12 => ⟨[(1, vI p1), (2, vI p2), (3, vI (-1)), (4, .ptr 1 0 0), (36, vB b12)], (s26_4 p0), 55⟩) h (fun q13 h => ?_) (fun q13 h => ?_)
  · refine sz 12 33 (reg_end rfl (wcT (wp_seq (wg [] [] (rn (wg [8, 9] [] ?_))))))
    refine wp_ret ?_
    refine ez ?_
    refine sz 5 9 (reg_end rfl (wp_seq (wp_seq (wg [8, 9] [] (rn (wcT (sq ?_)))))))
    refine wgc [6, 7] [] ⟨[(6, .nils), (7, vI 2)], [], 55⟩ ?_
    refine wp_wk (wk_nil 6 2 true true (st' := ⟨[(6, .ref 0 0 0), (7, vI 2)], [.row false false true true 2 []], 55⟩) (by kernel_rfl)) ?_
    cases h
    exact wp_ret (show fnOut _ _ _ _ = _ from by kernel_rfl)
  refine sz 7 28 ?_
  refine bind_elim h (fun a14 q15 h => ?_)
  refine idxZ (enc := (eL true eI)) (l := p0.Rows) (n := 0) (fl := false) (w := 1) (a := a14) (by kernel_rfl) q15 ?_
  refine sz 1 30 ?_
  refine lenZ (enc := eI) (l := a14) (fl := true) (by kernel_rfl) ?_
  refine sz 2 33 (reg_end rfl ?_)
  refine wbz h (fun q17 h => ?_) (fun q17 h => ?_)
  · refine wp_seq (wg [] [] (rn (wg [8, 9] [] ?_)))
    refine wp_ret ?_
    refine ez ?_
    refine sz 5 9 (reg_end rfl (wp_seq (wp_seq (wg [8, 9] [] (rn (wcT (sq ?_)))))))
    refine wgc [6, 7] [] ⟨[(6, .nils), (7, vI 2)], [], 55⟩ ?_
    refine wp_wk (wk_nil 6 2 true true (st' := ⟨[(6, .ref 0 0 0), (7, vI 2)], [.row false false true true 2 []], 55⟩) (by kernel_rfl)) ?_
    cases h
    exact wp_ret (show fnOut _ _ _ _ = _ from by kernel_rfl)
  refine wp_skip (wp_seq (wg [1, 2, 3, 4] [1] (reg_in (sz 5 5 ?_))))
  refine sl false [] [] false rfl ?_
  refine sz 2 8 (reg_end rfl (wg [8, 9] [2] ?_))
  refine wp_ret ?_
  refine ez ?_
  refine sz 5 9 (reg_end rfl (wp_seq (wp_seq (wg [8, 9] [1] (rn (wcF (wp_skip (wp_seq ?_))))))))
  refine reg_in ?_
  refine sgz 1 1 (S := ⟨[(8, .ptr 0 0 0), (9, vI 0), (21, vI 0), (22, vB false), (24, .ptr 0 0 0)], (s26_17 p0 p1 p2), 55⟩) ?_
  refine callZ (as0 := [.ptr 0 0 0]) (ids := [0]) (by kernel_rfl) bodyB_44 (msnap_cons (snap_ptr rfl (msnap_cons (snap_agg (msnap_cons rfl (msnap_cons rfl (msnap_cons rfl (msnap_cons rfl (msnap_cons rfl (msnap_cons rfl (msnap_cons rfl msnap_nil (by rfl)) (by rfl)) (by rfl)) (by rfl)) (by rfl)) (by rfl)) (by rfl))) msnap_nil (by rfl)) (by rfl) (by rfl)) msnap_nil (by rfl)) (fun x18 q19 => g_lift_counter_mass_ok (Tlift_counter.mk p0 p1 p2 (-1)) x18 q19) h (fun x18 q19 h => ?_)
  refine sz 1 3 (reg_end rfl (wp_seq (wp_seq (wg [8, 10] [0] (rn ?_)))))
  refine wbr (S := fun b20 => ⟨[(8, .ptr 0 0 0), (10, vI x18), (26, vI x18), (27, vB b20)], (s26_17 p0 p1 p2), 55⟩) h (fun q21 h => ?_) (fun q21 h => ?_)
  · refine wcT (sq ?_)
    refine wgc [6, 7] [] ⟨[(6, .nils), (7, vI 7)], [], 55⟩ ?_
    refine wp_wk (wk_nil 6 2 true true (st' := ⟨[(6, .ref 0 0 0), (7, vI 7)], [.row false false true true 2 []], 55⟩) (by kernel_rfl)) ?_
    cases h
    exact wp_ret (show fnOut _ _ _ _ = _ from by kernel_rfl)
  refine wcF (wp_skip (wp_seq (reg_in (sz 5 5 ?_))))
  refine idxZ (enc := (eL true eI)) (l := p0.Rows) (n := 0) (fl := false) (w := 1) (a := a14) (by kernel_rfl) q15 ?_
  refine sz 1 7 ?_
  refine lenL (enc := eI) (l := a14) (fl := true) (S := ⟨(s26_18 x18 p0 a14) ++ [(35, vI (a14.length : Int))], (s26_17 p0 p1 p2), 55⟩) (by kernel_rfl) (by kernel_rfl) ?_
  refine mkL (enc := eI) (z := (0 : Int)) (z0 := vI 0) (n := (a14.length : Int)) (m := (a14.length : Int)) (w := 1) (bytes := 8) (S := ⟨(s26_18 x18 p0 a14) ++ [(35, vI (a14.length : Int)), (36, .ref 1 0 ((List.replicate (Int.toNat (a14.length : Int)) (0 : Int)).length))], [oX true false 7 (.agg [vI p0.Grain, vI p0.Count, vI p0.One, eL false (eL true eI) p0.Rows, vI p1, vI p2, vI (-1)]), oR true 1 eI (List.replicate (Int.toNat (a14.length : Int)) (0 : Int))], 55⟩) [] true (by kernel_rfl) rfl (by kernel_rfl) (by kernel_rfl) h (fun h => ?_)
  refine sz 1 10 (reg_end rfl (wp_seq (wp_seq (wg [8, 10, 11] [0, 1] (rn (wp_block ?_))))))
  refine wwh h (fun s22 => ⟨(s26_32 x18 s22 a14), [oX true false 7 (.agg [vI p0.Grain, vI p0.Count, vI p0.One, eL false (eL true eI) p0.Rows, vI p1, vI p2, vI (-1)]), oR true 1 eI s22.2], 55⟩) (fun v out => out = .go (.exit 0) ⟨[(10, vI x18), (11, .ref 0 0 v.length)], [oR true 1 eI v], 55⟩) (wk_gc (live := [8, 10, 11, 38, 39]) (keep := [0, 1]) (by kernel_rfl)) ?_ ?_
  · intro s22 o h
    unfold g_lift_Child_b0 at h
    refine sq (wp_seq ?_)
    refine wbr (S := fun b23 => ⟨(s26_32 x18 s22 a14) ++ [(40, vB b23)], [oX true false 7 (.agg [vI p0.Grain, vI p0.Count, vI p0.One, eL false (eL true eI) p0.Rows, vI p1, vI p2, vI (-1)]), oR true 1 eI s22.2], 55⟩) h (fun q24 h => ?_) (fun q24 h => ?_)
    · refine wcT (wp_skip (wp_seq (wp_block (sq (wp_seq (reg_in (sz 3 3 ?_)))))))
      refine sl false [] [] false rfl ?_
      refine sz 1 5 (reg_end rfl (wp_seq (wg [8, 10, 11, 38, 39, 12, 13] [0, 1, 2] (rn (reg_in ?_)))))
      refine sgz 2 2 (S := ⟨(s26_27 x18 s22 a14) ++ [(45, vI s22.1), (46, .ptr 2 0 6), (47, .ref 1 0 s22.2.length), (48, vI s22.1)], (s26_35 p0 p1 p2 s22), 55⟩) ?_
      refine callZ (as0 := [.ptr 2 0 0]) (ids := [2]) (by kernel_rfl) bodyB_44 (msnap_cons (snap_ptr rfl (msnap_cons (snap_agg (msnap_cons rfl (msnap_cons rfl (msnap_cons rfl (msnap_cons rfl (msnap_cons rfl (msnap_cons rfl (msnap_cons rfl msnap_nil (by rfl)) (by rfl)) (by rfl)) (by rfl)) (by rfl)) (by rfl)) (by rfl))) msnap_nil (by rfl)) (by rfl) (by rfl)) msnap_nil (by rfl)) (fun x25 q26 => g_lift_counter_mass_ok (Tlift_counter.mk p0 p1 p2 s22.1) x25 q26) h (fun x25 q26 h => ?_)
      refine bind_elim h (fun a27 q28 h => ?_)
      refine idxR' (enc := eI) (l := s22.2) (n := s22.1) (w := 1) (ob := 1) (ro := false) (nr := true) (fl := true) (a := a27) (S := ⟨(s26_27 x18 s22 a14) ++ [(45, vI s22.1), (46, .ptr 2 0 6), (47, .ref 1 0 s22.2.length), (48, vI s22.1), (49, vI x25), (50, .ptr 1 (Int.toNat s22.1) 0)], (s26_35 p0 p1 p2 s22), 55⟩) (by kernel_rfl) (by kernel_rfl) (by kernel_rfl) q28 ?_
      refine storeR (enc := eI) (l := s22.2) (n := s22.1) (ob := 1) (c := 0) (a := a27) (a' := x25) (v := vI x25) (S := ⟨(s26_27 x18 s22 a14) ++ [(45, vI s22.1), (46, .ptr 2 0 6), (47, .ref 1 0 s22.2.length), (48, vI s22.1), (49, vI x25), (50, .ptr 1 (Int.toNat s22.1) 0)], (s26_37 p0 p1 p2 s22 x25), 55⟩) false (by kernel_rfl) rfl q28 (by kernel_rfl) rfl (by kernel_rfl) (by kernel_rfl) (by kernel_rfl) ?_
      refine rw_knN (n := s22.2.length) (m := (List.set s22.2 (Int.toNat s22.1) x25).length) (S := fun n29 => ⟨[(8, .ptr 0 0 0), (10, vI x18), (11, .ref 1 0 n29), (38, vI (((List.replicate (Int.toNat (a14.length : Int)) (0 : Int)).length) : Int)), (39, vI s22.1), (12, vI s22.1), (13, .ptr 2 0 0), (45, vI s22.1), (46, .ptr 2 0 6), (47, .ref 1 0 n29), (48, vI s22.1), (49, vI x25), (50, .ptr 1 (Int.toNat s22.1) 0)], (s26_37 p0 p1 p2 s22 x25), 55⟩) (by simp only [List.length_set]) ?_
      refine reg_end rfl (wg [8, 10, 11, 38, 39] [0, 1] (rn ?_))
      cases h
      exact ⟨_, rfl, (wk_gc (live := [8, 10, 11, 38, 39]) (keep := [0, 1]) (by kernel_rfl))⟩
    refine wcF ?_
    refine wgc [10, 11] [1] ⟨[(10, vI x18), (11, .ref 0 0 s22.2.length)], [oR true 1 eI s22.2], 55⟩ ?_
    refine wp_exit ?_
    cases h
    exact ⟨rfl, rfl⟩
  intro x31 h out hx
  subst hx
  refine wp_seq (reg_in ?_)
  refine sgz 2 2 (S := ⟨[(10, vI x18), (11, .ref 0 0 x31.length), (52, vI x18), (53, .ref 0 0 x31.length)], [oR true 1 eI x31], 55⟩) ?_
  refine callZ (as0 := [vI x18, .ref 0 0 x31.length]) (ids := [0]) (by kernel_rfl) bodyB_52 (msnap_cons rfl (msnap_cons (snap_full rfl) msnap_nil (by rfl)) (by rfl)) (fun x32 q33 => g_lift_divided_ok x18 x31 x32 q33) h (fun x32 q33 h => ?_)
  refine sz 2 5 (reg_end rfl (wg [6, 7] [1] ?_))
  cases h
  exact wp_ret (show fnOut _ _ _ _ = _ from by kernel_rfl)
end Go.Ab
