/- What the functions of this program compute, as plain functions, and that the program computes them. No conditions. -/
import Derived.Test.YtapoljjoedcknaaProg
import Derived.Test.YtapoljjoedcknaaW8
import Derived.KernelRfl
import Derived.Test.YtapoljjoedcknaaW10
set_option linter.all false
namespace Go.Ab
open Go Go.Proofs
set_option linter.unusedVariables false
set_option linter.unusedSimpArgs false
set_option maxRecDepth 100000
set_option maxHeartbeats 4000000
@[reducible] noncomputable def s52_4 (p1 : (List Int)) : List AObj := [oR true 2 eTapi_Q (List.replicate (Int.toNat (p1.length : Int)) ((Tapi_Q.mk 0 0) : Tapi_Q))]
@[reducible] noncomputable def s52_7 (p0 : Int) (s1 : (Int × (List Tapi_Q))) (p1 : (List Int)) : List (Nat × AV) := [(0, vI p0), (5, .ref 0 0 s1.2.length), (11, eL true eI p1), (12, vI (p1.length : Int)), (13, vI s1.1)]
@[reducible] noncomputable def s52_10 (p0 : Int) (s1 : (Int × (List Tapi_Q))) (p1 : (List Int)) (a4 : Int) (x6 : Tapi_Q) : List (Nat × AV) := (s52_7 p0 s1 p1) ++ [(14, vB true), (15, vI s1.1), (16, .fz [vI a4]), (17, vI a4), (6, vI s1.1), (7, vI a4), (18, .ref 0 0 s1.2.length), (19, vI s1.1), (20, vI a4), (21, vI p0), (22, .agg [vI x6.N, vI x6.D]), (23, .ptr 0 (Int.toNat s1.1) 0)]
theorem g_lift_divided_ok (p0 : Int) (p1 : (List Int)) (x : (List Tapi_Q)) (h : g_lift_divided p0 p1 = some x) : CallOk Try.prog 52 [vI p0, eL true eI p1] (.ret (.ref 0 0 x.length) [oR true 2 eTapi_Q x]) := by
  refine fn_ok [] Try.func52 rfl (by decide +kernel) rfl ?_
  unfold g_lift_divided at h
  refine wp_eqB (base' := 0) (st' := ⟨[(0, vI p0), (1, eL true eI p1)], [], 26⟩) rfl (by kernel_rfl) ?_
  refine sq ?_
  refine wp_seq ?_
  refine reg_in ?_
  refine sz 1 1 ?_
  refine lenL (enc := eI) (l := p1) (fl := true) (S := ⟨[(0, vI p0), (1, eL true eI p1), (4, .nils), (8, eL true eI p1), (9, vI (p1.length : Int))], [], 26⟩) (by kernel_rfl) (by kernel_rfl) ?_
  refine mkL (enc := eTapi_Q) (z := ((Tapi_Q.mk 0 0) : Tapi_Q)) (z0 := .agg [vI 0, vI 0]) (n := (p1.length : Int)) (m := (p1.length : Int)) (w := 2) (bytes := 16) (S := ⟨[(0, vI p0), (1, eL true eI p1), (4, .nils), (8, eL true eI p1), (9, vI (p1.length : Int)), (10, .ref 0 0 ((List.replicate (Int.toNat (p1.length : Int)) ((Tapi_Q.mk 0 0) : Tapi_Q)).length))], (s52_4 p1), 26⟩) [] true (by kernel_rfl) rfl (by kernel_rfl) (by kernel_rfl) h (fun h => ?_)
  refine sz 1 4 ?_
  refine reg_end rfl ?_
  refine wp_seq ?_
  refine wp_seq ?_
  refine reg_in ?_
  refine sz 1 1 ?_
  refine lenZ (enc := eI) (l := p1) (fl := true) (by kernel_rfl) ?_
  refine sgz 1 3 (S := ⟨[(0, vI p0), (1, eL true eI p1), (4, .nils), (8, eL true eI p1), (9, vI (p1.length : Int)), (10, .ref 0 0 ((List.replicate (Int.toNat (p1.length : Int)) ((Tapi_Q.mk 0 0) : Tapi_Q)).length)), (5, .ref 0 0 ((List.replicate (Int.toNat (p1.length : Int)) ((Tapi_Q.mk 0 0) : Tapi_Q)).length)), (11, eL true eI p1)] ++ [(12, vI (p1.length : Int)), (13, vI 0)], (s52_4 p1), 26⟩) ?_
  refine reg_end rfl ?_
  refine wp_block ?_
  refine wp_while (σ := (Int × (List Tapi_Q))) (ρ := (List Tapi_Q)) (n := fuel) (body := g_lift_divided_b0 p1 p0) (I := fun s1 => ⟨(s52_7 p0 s1 p1), [oR true 2 eTapi_Q s1.2], 26⟩) (Ex := fun v out => out = .go (.exit 0) ⟨[(5, .ref 0 0 v.length)], [oR true 2 eTapi_Q v], 26⟩) (0, (List.replicate (Int.toNat (p1.length : Int)) ((Tapi_Q.mk 0 0) : Tapi_Q))) (wk_gc (live := [0, 5, 11, 12, 13]) (keep := [0]) (st' := ⟨[(0, vI p0), (5, .ref 0 0 ((List.replicate (Int.toNat (p1.length : Int)) ((Tapi_Q.mk 0 0) : Tapi_Q)).length)), (11, eL true eI p1), (12, vI (p1.length : Int)), (13, vI 0)], (s52_4 p1), 26⟩) (by kernel_rfl)) h ?_ ?_
  · intro s1 o h
    unfold g_lift_divided_b0 at h
    refine sq ?_
    refine wp_seq ?_
    refine wbr (S := fun b2 => ⟨(s52_7 p0 s1 p1) ++ [(14, vB b2)], [oR true 2 eTapi_Q s1.2], 26⟩) h (fun q3 h => ?_) (fun q3 h => ?_)
    · refine wp_condT rfl ?_
      refine wp_skip ?_
      refine wp_seq ?_
      refine wp_block ?_
      refine wp_seq ?_
      refine reg_in ?_
      refine sgz 1 1 (S := ⟨(s52_7 p0 s1 p1) ++ [(14, vB true), (15, vI s1.1)], [oR true 2 eTapi_Q s1.2], 26⟩) ?_
      refine bind_elim h (fun a4 q5 h => ?_)
      refine idxZ (enc := eI) (l := p1) (n := s1.1) (fl := true) (w := 1) (a := a4) (by kernel_rfl) q5 ?_
      refine sz 3 5 ?_
      refine reg_end rfl ?_
      refine reg_in ?_
      refine sz 4 4 ?_
      refine callR (as0 := [vI a4, vI p0]) (ids := []) (S := fun x6 => ⟨(s52_7 p0 s1 p1) ++ [(14, vB true), (15, vI s1.1), (16, .fz [vI a4]), (17, vI a4), (6, vI s1.1), (7, vI a4), (18, .ref 0 0 s1.2.length), (19, vI s1.1), (20, vI a4), (21, vI p0), (22, .agg [vI x6.N, vI x6.D])], [oR true 2 eTapi_Q s1.2], 26⟩) (by kernel_rfl) bodyB_43 (msnap_cons rfl (msnap_cons rfl msnap_nil (by rfl)) (by rfl)) (fun x6 q7 => g_weigh_Ratio_ok a4 p0 x6 q7) (fun _ => by kernel_rfl) h (fun x6 q7 h => ?_)
      refine bind_elim h (fun a8 q9 h => ?_)
      refine idxR' (enc := eTapi_Q) (l := s1.2) (n := s1.1) (w := 2) (ob := 0) (a := a8) (S := ⟨(s52_10 p0 s1 p1 a4 x6), [oR true 2 eTapi_Q s1.2], 26⟩) (by kernel_rfl) rfl (by kernel_rfl) q9 ?_
      refine storeR (enc := eTapi_Q) (l := s1.2) (n := s1.1) (ob := 0) (c := 0) (a := a8) (a' := x6) (v := .agg [vI x6.N, vI x6.D]) (S := ⟨(s52_10 p0 s1 p1 a4 x6), [oR true 2 eTapi_Q (List.set s1.2 (Int.toNat s1.1) x6)], 26⟩) false (by kernel_rfl) rfl q9 (by kernel_rfl) rfl (by kernel_rfl) (by kernel_rfl) (by kernel_rfl) ?_
      refine rw_knN (n := s1.2.length) (m := (List.set s1.2 (Int.toNat s1.1) x6).length) (S := fun n10 => ⟨[(0, vI p0), (5, .ref 0 0 n10), (11, eL true eI p1), (12, vI (p1.length : Int)), (13, vI s1.1), (14, vB true), (15, vI s1.1), (16, .fz [vI a4]), (17, vI a4), (6, vI s1.1), (7, vI a4), (18, .ref 0 0 n10), (19, vI s1.1), (20, vI a4), (21, vI p0), (22, .agg [vI x6.N, vI x6.D]), (23, .ptr 0 (Int.toNat s1.1) 0)], [oR true 2 eTapi_Q (List.set s1.2 (Int.toNat s1.1) x6)], 26⟩) (by simp only [List.length_set]) ?_
      refine reg_end rfl ?_
      refine wg [0, 5, 11, 12, 13] [0] ?_
      refine rgN (S := ⟨[(0, vI p0), (5, .ref 0 0 ((List.set s1.2 (Int.toNat s1.1) x6).length)), (11, eL true eI p1), (12, vI (p1.length : Int)), (13, vI (IntKind.i64.wrap (s1.1 + 1))), (24, vI (IntKind.i64.wrap (s1.1 + 1)))], [oR true 2 eTapi_Q (List.set s1.2 (Int.toNat s1.1) x6)], 26⟩) ?_
      cases h
      exact ⟨_, rfl, (wk_gc (live := [0, 5, 11, 12, 13]) (keep := [0]) (st' := ⟨[(0, vI p0), (5, .ref 0 0 ((List.set s1.2 (Int.toNat s1.1) x6).length)), (11, eL true eI p1), (12, vI (p1.length : Int)), (13, vI (IntKind.i64.wrap (s1.1 + 1)))], [oR true 2 eTapi_Q (List.set s1.2 (Int.toNat s1.1) x6)], 26⟩) (by kernel_rfl))⟩
    refine wp_condF rfl ?_
    refine wgc [5] [0] ⟨[(5, .ref 0 0 s1.2.length)], [oR true 2 eTapi_Q s1.2], 26⟩ ?_
    refine wp_exit ?_
    cases h
    exact ⟨rfl, rfl⟩
  intro x12 h out hx
  subst hx
  refine sq ?_
  refine wg [4] [0] ?_
  refine wp_ret ?_
  cases h
  show fnOut _ _ _ _ = _
  kernel_rfl
@[reducible] noncomputable def s21_1 (p0 : Tapi_Lift) (p1 : Int) (p2 : Int) (p3 : Int) : List (Nat × AV) := [(0, .agg [vI p0.Grain, vI p0.Count, vI p0.One, eL false (eL true eI) p0.Rows]), (1, vI p1), (2, vI p2), (3, vI p3)]
@[reducible] noncomputable def s21_2 (p0 : Tapi_Lift) : List AObj := [oX true false 4 (.agg [vI p0.Grain, vI p0.Count, vI p0.One, eL false (eL true eI) p0.Rows])]
@[reducible] noncomputable def s21_3 (p0 : Tapi_Lift) : List AObj := [oX true false 4 (.agg [vI p0.Grain, vI p0.Count, vI p0.One, eL false (eL true eI) p0.Rows]), oX true false 4 (.agg [vI p0.Grain, vI p0.Count, vI p0.One, eL false (eL true eI) p0.Rows])]
@[reducible] noncomputable def s21_7 (p0 : Tapi_Lift) (p1 : Int) (p2 : Int) (p3 : Int) : List (Nat × AV) := (s21_1 p0 p1 p2 p3) ++ [(4, .ptr 0 0 0), (8, .nils), (9, vI 0), (18, .agg [vI p0.Grain, vI p0.Count, vI p0.One, eL false (eL true eI) p0.Rows]), (19, vI p1), (20, vI p2), (21, vI p3), (22, .tup [.nilp, vI 2])]
@[reducible] noncomputable def s21_18 (p0 : Tapi_Lift) (p1 : Int) (p2 : Int) (p3 : Int) : List AObj := [oX true false 4 (.agg [vI p0.Grain, vI p0.Count, vI p0.One, eL false (eL true eI) p0.Rows]), oX true false 7 (.agg [vI p0.Grain, vI p0.Count, vI p0.One, eL false (eL true eI) p0.Rows, vI p1, vI p2, vI p3])]
@[reducible] noncomputable def s21_19 (p0 : Tapi_Lift) (p1 : Int) (p2 : Int) (p3 : Int) : List AObj := [oX true false 7 (.agg [vI p0.Grain, vI p0.Count, vI p0.One, eL false (eL true eI) p0.Rows, vI p1, vI p2, vI p3])]
@[reducible] noncomputable def s21_22 (p0 : Tapi_Lift) (p1 : Int) (p2 : Int) (p3 : Int) (x24 : (List Int)) (x28 : (List Int)) : List AObj := [oX true false 7 (.agg [vI p0.Grain, vI p0.Count, vI p0.One, eL false (eL true eI) p0.Rows, vI p1, vI p2, vI p3]), oR true 1 eI x24, oX false false 1 (.ptr 0 0 0), oX false false 1 (.ref 4 0 x28.length), oR true 1 eI x28]
@[reducible] noncomputable def s21_23 (x24 : (List Int)) (x28 : (List Int)) (p0 : Tapi_Lift) (p1 : Int) (p2 : Int) (p3 : Int) : List AObj := [oR true 1 eI x24, oX false false 1 (.ptr 3 0 0), oX false false 1 (.ref 4 0 x28.length), oX true false 7 (.agg [vI p0.Grain, vI p0.Count, vI p0.One, eL false (eL true eI) p0.Rows, vI p1, vI p2, vI p3]), oR true 1 eI x28]
@[reducible] noncomputable def s21_30 (s30 : (Int × (List Int))) (x28 : (List Int)) (p0 : Tapi_Lift) (p1 : Int) (p2 : Int) (p3 : Int) : List AObj := [oR true 1 eI s30.2, oX false false 1 (.ptr 3 0 0), oX false false 1 (.ref 4 0 x28.length), oX true false 7 (.agg [vI p0.Grain, vI p0.Count, vI p0.One, eL false (eL true eI) p0.Rows, vI p1, vI p2, vI p3]), oR true 1 eI x28]
@[reducible] noncomputable def s21_32 (s30 : (Int × (List Int))) (x28 : (List Int)) (p0 : Tapi_Lift) (p1 : Int) (p2 : Int) (p3 : Int) : List AObj := [oR true 1 eI (List.set s30.2 (Int.toNat s30.1) 0), oX false false 1 (.ptr 3 0 0), oX false false 1 (.ref 4 0 x28.length), oX true false 7 (.agg [vI p0.Grain, vI p0.Count, vI p0.One, eL false (eL true eI) p0.Rows, vI p1, vI p2, vI p3]), oR true 1 eI x28]
@[reducible] noncomputable def s21_37 (x20 : Int) (s30 : (Int × (List Int))) (x24 : (List Int)) : List (Nat × AV) := [(12, vI x20), (13, .ref 0 0 s30.2.length), (14, .fn (.func 71) [] [.ptr 1 0 0, .ptr 2 0 0]), (36, .ref 0 0 s30.2.length), (37, vI (x24.length : Int)), (38, vI s30.1)]
@[reducible] noncomputable def s21_38 (x20 : Int) (s30 : (Int × (List Int))) (x24 : (List Int)) (a33 : Int) : List (Nat × AV) := (s21_37 x20 s30 x24) ++ [(39, vB true), (40, vI s30.1), (41, .ptr 0 (Int.toNat s30.1) 0), (42, vI a33), (15, vI s30.1), (16, vI a33), (43, .ref 0 0 s30.2.length), (44, vI s30.1), (45, .fn (.func 71) [] [.ptr 1 0 0, .ptr 2 0 0]), (46, vI a33)]
theorem g_lift_Ones_ok (p0 : Tapi_Lift) (p1 : Int) (p2 : Int) (p3 : Int) (x : ((List Tapi_Q) × Int)) (h : g_lift_Ones p0 p1 p2 p3 = some x) : CallOk Try.prog 21 [.agg [vI p0.Grain, vI p0.Count, vI p0.One, eL false (eL true eI) p0.Rows], vI p1, vI p2, vI p3] (.ret (.tup [.ref 0 0 x.1.length, vI x.2]) [oR true 2 eTapi_Q x.1]) := by
  refine fn_ok [] Try.func21 rfl (by decide +kernel) rfl ?_
  unfold g_lift_Ones at h
  refine wp_eqB (base' := 0) (st' := ⟨(s21_1 p0 p1 p2 p3), [], 53⟩) rfl (by as_aux_lemma => kernel_rfl) ?_
  refine wp_seq ?_
  refine reg_in ?_
  refine sl false [] [] false rfl ?_
  refine sz 2 3 ?_
  refine reg_end rfl ?_
  refine wp_seq ?_
  refine reg_in ?_
  refine sgz 4 4 (S := ⟨(s21_1 p0 p1 p2 p3) ++ [(4, .ptr 0 0 0), (8, .nils), (9, vI 0), (18, .agg [vI p0.Grain, vI p0.Count, vI p0.One, eL false (eL true eI) p0.Rows]), (19, vI p1), (20, vI p2), (21, vI p3)], (s21_2 p0), 53⟩) ?_
  refine inlR (f := 42) (fn := Try.f42) (as0 := [.agg [vI p0.Grain, vI p0.Count, vI p0.One, eL false (eL true eI) p0.Rows], vI p1, vI p2, vI p3]) (by as_aux_lemma => kernel_rfl) Try.func42 rfl (by decide +kernel) rfl ?_
  refine wp_eqB (base' := 1) (st' := ⟨(s21_1 p0 p1 p2 p3), (s21_2 p0), 55⟩) rfl (by as_aux_lemma => kernel_rfl) ?_
  refine wp_seq ?_
  refine reg_in ?_
  refine sl false [] [] false rfl ?_
  refine sz 2 3 ?_
  refine reg_end rfl ?_
  refine wp_seq ?_
  refine wp_seq ?_
  refine reg_in ?_
  refine sz 1 1 ?_
  refine callZ (as0 := [.agg [vI p0.Grain, vI p0.Count, vI p0.One, eL false (eL true eI) p0.Rows]]) (ids := []) (by as_aux_lemma => kernel_rfl) bodyB_14 (msnap_cons (snap_agg (msnap_cons rfl (msnap_cons rfl (msnap_cons rfl (msnap_cons rfl msnap_nil (by rfl)) (by rfl)) (by rfl)) (by rfl))) msnap_nil (by rfl)) (fun x1 q2 => g_lift_Check_ok p0 x1 q2) h (fun x1 q2 h => ?_)
  refine sz 1 3 ?_
  refine reg_end rfl ?_
  refine wp_seq ?_
  refine wg [1, 2, 3, 4, 10] [1] ?_
  refine rgN (S := ⟨[(1, vI p1), (2, vI p2), (3, vI p3), (4, .ptr 1 0 0), (10, vI x1), (13, vI x1), (14, vB (x1 != 0))], (s21_3 p0), 55⟩) ?_
  refine wbr (S := fun b3 => ⟨[(1, vI p1), (2, vI p2), (3, vI p3), (4, .ptr 1 0 0), (10, vI x1), (13, vI x1), (14, vB b3)], (s21_3 p0), 55⟩) h (fun q4 h => ?_) (fun q4 h => ?_)
  · refine wp_condT rfl ?_
    refine wp_seq ?_
    refine wg [10] [] ?_
    refine rn ?_
    refine wgc [8, 9] [] ⟨[(8, .nilp), (9, vI x1)], (s21_2 p0), 55⟩ ?_
    refine wp_ret ?_
    refine ⟨⟨(s21_1 p0 p1 p2 p3) ++ [(4, .ptr 0 0 0), (8, .nils), (9, vI 0), (18, .agg [vI p0.Grain, vI p0.Count, vI p0.One, eL false (eL true eI) p0.Rows]), (19, vI p1), (20, vI p2), (21, vI p3), (22, .tup [.nilp, vI x1])], (s21_2 p0), 53⟩, by as_aux_lemma => kernel_rfl, ?_⟩
    refine sz 5 10 ?_
    refine reg_end rfl ?_
    refine wp_seq ?_
    refine wp_seq ?_
    refine wg [10, 11] [] ?_
    refine rn ?_
    refine wkn (S := fun b5 => ⟨[(10, .nilp), (11, vI x1), (25, vI x1), (26, vB b5)], [], 53⟩) q4 ?_
    refine wp_condT rfl ?_
    refine sq ?_
    refine wgc [8, 9] [] ⟨[(8, .nils), (9, vI x1)], [], 53⟩ ?_
    refine wp_wk (wk_nil 8 2 true true (st' := ⟨[(8, .ref 0 0 0), (9, vI x1)], [.row false false true true 2 []], 53⟩) (by as_aux_lemma => kernel_rfl)) ?_
    refine wp_ret ?_
    cases h
    show fnOut _ _ _ _ = _
    kernel_rfl
  refine wp_condF rfl ?_
  refine wp_skip ?_
  refine wp_seq ?_
  refine wp_seq ?_
  refine reg_in ?_
  refine sz 3 3 ?_
  refine rw_wk (wk_gc (live := [1, 2, 3, 4, 18]) (keep := [1]) (st' := ⟨[(1, vI p1), (2, vI p2), (3, vI p3), (4, .ptr 1 0 0), (18, vB (decide (p1 < 0)))], (s21_3 p0), 55⟩) (by as_aux_lemma => kernel_rfl)) ?_
  refine rbr (S := fun b6 => ⟨[(1, vI p1), (2, vI p2), (3, vI p3), (4, .ptr 1 0 0), (18, vB b6)], (s21_3 p0), 55⟩) h (fun q7 h => ?_) (fun q7 h => ?_)
  · refine sgz 30 33 (S := ⟨[(1, vI p1), (2, vI p2), (3, vI p3), (4, .ptr 1 0 0), (18, vB true), (19, .tup []), (20, .tup []), (21, .tup []), (22, .tup []), (23, vB true), (24, vB true), (25, .tup []), (26, .tup []), (27, vB true), (28, vB true), (29, .tup []), (30, .tup []), (31, .tup []), (32, .tup []), (33, .tup []), (34, .tup []), (35, vB true), (36, vB true), (37, .tup []), (38, .tup []), (39, vB true), (40, vB true), (41, .tup []), (42, .tup []), (43, .tup []), (44, .tup []), (45, .tup []), (46, .tup []), (47, .tup []), (48, vB true)], (s21_3 p0), 55⟩) ?_
    refine reg_end rfl ?_
    refine wp_condT rfl ?_
    refine wp_seq ?_
    refine wg [] [] ?_
    refine rn ?_
    refine wgc [8, 9] [] ⟨[(8, .nilp), (9, vI 2)], (s21_2 p0), 55⟩ ?_
    refine wp_ret ?_
    refine ⟨⟨(s21_7 p0 p1 p2 p3), (s21_2 p0), 53⟩, by as_aux_lemma => kernel_rfl, ?_⟩
    refine sz 5 10 ?_
    refine reg_end rfl ?_
    refine wp_seq ?_
    refine wp_seq ?_
    refine wg [10, 11] [] ?_
    refine rgN (S := ⟨[(10, .nilp), (11, vI 2), (25, vI 2), (26, vB true)], [], 53⟩) ?_
    refine wp_condT rfl ?_
    refine sq ?_
    refine wgc [8, 9] [] ⟨[(8, .nils), (9, vI 2)], [], 53⟩ ?_
    refine wp_wk (wk_nil 8 2 true true (st' := ⟨[(8, .ref 0 0 0), (9, vI 2)], [.row false false true true 2 []], 53⟩) (by as_aux_lemma => kernel_rfl)) ?_
    refine wp_ret ?_
    cases h
    show fnOut _ _ _ _ = _
    kernel_rfl
  refine sz 6 9 ?_
  refine rw_wk (wk_gc (live := [1, 2, 3, 4, 24]) (keep := [1]) (st' := ⟨[(1, vI p1), (2, vI p2), (3, vI p3), (4, .ptr 1 0 0), (24, vB (decide (p1 > p0.Count)))], (s21_3 p0), 55⟩) (by as_aux_lemma => kernel_rfl)) ?_
  refine rbr (S := fun b8 => ⟨[(1, vI p1), (2, vI p2), (3, vI p3), (4, .ptr 1 0 0), (24, vB b8)], (s21_3 p0), 55⟩) h (fun q9 h => ?_) (fun q9 h => ?_)
  · refine sgz 24 33 (S := ⟨[(1, vI p1), (2, vI p2), (3, vI p3), (4, .ptr 1 0 0), (24, vB true), (25, .tup []), (26, .tup []), (27, vB true), (28, vB true), (29, .tup []), (30, .tup []), (31, .tup []), (32, .tup []), (33, .tup []), (34, .tup []), (35, vB true), (36, vB true), (37, .tup []), (38, .tup []), (39, vB true), (40, vB true), (41, .tup []), (42, .tup []), (43, .tup []), (44, .tup []), (45, .tup []), (46, .tup []), (47, .tup []), (48, vB true)], (s21_3 p0), 55⟩) ?_
    refine reg_end rfl ?_
    refine wp_condT rfl ?_
    refine wp_seq ?_
    refine wg [] [] ?_
    refine rn ?_
    refine wgc [8, 9] [] ⟨[(8, .nilp), (9, vI 2)], (s21_2 p0), 55⟩ ?_
    refine wp_ret ?_
    refine ⟨⟨(s21_7 p0 p1 p2 p3), (s21_2 p0), 53⟩, by as_aux_lemma => kernel_rfl, ?_⟩
    refine sz 5 10 ?_
    refine reg_end rfl ?_
    refine wp_seq ?_
    refine wp_seq ?_
    refine wg [10, 11] [] ?_
    refine rgN (S := ⟨[(10, .nilp), (11, vI 2), (25, vI 2), (26, vB true)], [], 53⟩) ?_
    refine wp_condT rfl ?_
    refine sq ?_
    refine wgc [8, 9] [] ⟨[(8, .nils), (9, vI 2)], [], 53⟩ ?_
    refine wp_wk (wk_nil 8 2 true true (st' := ⟨[(8, .ref 0 0 0), (9, vI 2)], [.row false false true true 2 []], 53⟩) (by as_aux_lemma => kernel_rfl)) ?_
    refine wp_ret ?_
    cases h
    show fnOut _ _ _ _ = _
    kernel_rfl
  refine sz 4 13 ?_
  refine rw_wk (wk_gc (live := [1, 2, 3, 4, 28]) (keep := [1]) (st' := ⟨[(1, vI p1), (2, vI p2), (3, vI p3), (4, .ptr 1 0 0), (28, vB (decide (p2 < 0)))], (s21_3 p0), 55⟩) (by as_aux_lemma => kernel_rfl)) ?_
  refine rbr (S := fun b10 => ⟨[(1, vI p1), (2, vI p2), (3, vI p3), (4, .ptr 1 0 0), (28, vB b10)], (s21_3 p0), 55⟩) h (fun q11 h => ?_) (fun q11 h => ?_)
  · refine sgz 20 33 (S := ⟨[(1, vI p1), (2, vI p2), (3, vI p3), (4, .ptr 1 0 0), (28, vB true), (29, .tup []), (30, .tup []), (31, .tup []), (32, .tup []), (33, .tup []), (34, .tup []), (35, vB true), (36, vB true), (37, .tup []), (38, .tup []), (39, vB true), (40, vB true), (41, .tup []), (42, .tup []), (43, .tup []), (44, .tup []), (45, .tup []), (46, .tup []), (47, .tup []), (48, vB true)], (s21_3 p0), 55⟩) ?_
    refine reg_end rfl ?_
    refine wp_condT rfl ?_
    refine wp_seq ?_
    refine wg [] [] ?_
    refine rn ?_
    refine wgc [8, 9] [] ⟨[(8, .nilp), (9, vI 2)], (s21_2 p0), 55⟩ ?_
    refine wp_ret ?_
    refine ⟨⟨(s21_7 p0 p1 p2 p3), (s21_2 p0), 53⟩, by as_aux_lemma => kernel_rfl, ?_⟩
    refine sz 5 10 ?_
    refine reg_end rfl ?_
    refine wp_seq ?_
    refine wp_seq ?_
    refine wg [10, 11] [] ?_
    refine rgN (S := ⟨[(10, .nilp), (11, vI 2), (25, vI 2), (26, vB true)], [], 53⟩) ?_
    refine wp_condT rfl ?_
    refine sq ?_
    refine wgc [8, 9] [] ⟨[(8, .nils), (9, vI 2)], [], 53⟩ ?_
    refine wp_wk (wk_nil 8 2 true true (st' := ⟨[(8, .ref 0 0 0), (9, vI 2)], [.row false false true true 2 []], 53⟩) (by as_aux_lemma => kernel_rfl)) ?_
    refine wp_ret ?_
    cases h
    show fnOut _ _ _ _ = _
    kernel_rfl
  refine sz 8 21 ?_
  refine rw_wk (wk_gc (live := [1, 2, 3, 4, 36]) (keep := [1]) (st' := ⟨[(1, vI p1), (2, vI p2), (3, vI p3), (4, .ptr 1 0 0), (36, vB (decide (p2 > (IntKind.i64.wrap (p0.Count - p1)))))], (s21_3 p0), 55⟩) (by as_aux_lemma => kernel_rfl)) ?_
  refine rbr (S := fun b12 => ⟨[(1, vI p1), (2, vI p2), (3, vI p3), (4, .ptr 1 0 0), (36, vB b12)], (s21_3 p0), 55⟩) h (fun q13 h => ?_) (fun q13 h => ?_)
  · refine sgz 12 33 (S := ⟨[(1, vI p1), (2, vI p2), (3, vI p3), (4, .ptr 1 0 0), (36, vB true), (37, .tup []), (38, .tup []), (39, vB true), (40, vB true), (41, .tup []), (42, .tup []), (43, .tup []), (44, .tup []), (45, .tup []), (46, .tup []), (47, .tup []), (48, vB true)], (s21_3 p0), 55⟩) ?_
    refine reg_end rfl ?_
    refine wp_condT rfl ?_
    refine wp_seq ?_
    refine wg [] [] ?_
    refine rn ?_
    refine wgc [8, 9] [] ⟨[(8, .nilp), (9, vI 2)], (s21_2 p0), 55⟩ ?_
    refine wp_ret ?_
    refine ⟨⟨(s21_7 p0 p1 p2 p3), (s21_2 p0), 53⟩, by as_aux_lemma => kernel_rfl, ?_⟩
    refine sz 5 10 ?_
    refine reg_end rfl ?_
    refine wp_seq ?_
    refine wp_seq ?_
    refine wg [10, 11] [] ?_
    refine rgN (S := ⟨[(10, .nilp), (11, vI 2), (25, vI 2), (26, vB true)], [], 53⟩) ?_
    refine wp_condT rfl ?_
    refine sq ?_
    refine wgc [8, 9] [] ⟨[(8, .nils), (9, vI 2)], [], 53⟩ ?_
    refine wp_wk (wk_nil 8 2 true true (st' := ⟨[(8, .ref 0 0 0), (9, vI 2)], [.row false false true true 2 []], 53⟩) (by as_aux_lemma => kernel_rfl)) ?_
    refine wp_ret ?_
    cases h
    show fnOut _ _ _ _ = _
    kernel_rfl
  refine sz 4 25 ?_
  refine rw_wk (wk_gc (live := [1, 2, 3, 4, 40]) (keep := [1]) (st' := ⟨[(1, vI p1), (2, vI p2), (3, vI p3), (4, .ptr 1 0 0), (40, vB (decide (p3 < (-1))))], (s21_3 p0), 55⟩) (by as_aux_lemma => kernel_rfl)) ?_
  refine rbr (S := fun b14 => ⟨[(1, vI p1), (2, vI p2), (3, vI p3), (4, .ptr 1 0 0), (40, vB b14)], (s21_3 p0), 55⟩) h (fun q15 h => ?_) (fun q15 h => ?_)
  · refine sgz 8 33 (S := ⟨[(1, vI p1), (2, vI p2), (3, vI p3), (4, .ptr 1 0 0), (40, vB true), (41, .tup []), (42, .tup []), (43, .tup []), (44, .tup []), (45, .tup []), (46, .tup []), (47, .tup []), (48, vB true)], (s21_3 p0), 55⟩) ?_
    refine reg_end rfl ?_
    refine wp_condT rfl ?_
    refine wp_seq ?_
    refine wg [] [] ?_
    refine rn ?_
    refine wgc [8, 9] [] ⟨[(8, .nilp), (9, vI 2)], (s21_2 p0), 55⟩ ?_
    refine wp_ret ?_
    refine ⟨⟨(s21_7 p0 p1 p2 p3), (s21_2 p0), 53⟩, by as_aux_lemma => kernel_rfl, ?_⟩
    refine sz 5 10 ?_
    refine reg_end rfl ?_
    refine wp_seq ?_
    refine wp_seq ?_
    refine wg [10, 11] [] ?_
    refine rgN (S := ⟨[(10, .nilp), (11, vI 2), (25, vI 2), (26, vB true)], [], 53⟩) ?_
    refine wp_condT rfl ?_
    refine sq ?_
    refine wgc [8, 9] [] ⟨[(8, .nils), (9, vI 2)], [], 53⟩ ?_
    refine wp_wk (wk_nil 8 2 true true (st' := ⟨[(8, .ref 0 0 0), (9, vI 2)], [.row false false true true 2 []], 53⟩) (by as_aux_lemma => kernel_rfl)) ?_
    refine wp_ret ?_
    cases h
    show fnOut _ _ _ _ = _
    kernel_rfl
  refine sgz 3 28 (S := ⟨[(1, vI p1), (2, vI p2), (3, vI p3), (4, .ptr 1 0 0), (40, vB false), (41, vI p3), (42, .ptr 1 0 3), (43, eL false (eL true eI) p0.Rows)], (s21_3 p0), 55⟩) ?_
  refine bind_elim h (fun a16 q17 h => ?_)
  refine idxZ (enc := (eL true eI)) (l := p0.Rows) (n := 0) (fl := false) (w := 1) (a := a16) (by as_aux_lemma => kernel_rfl) q17 ?_
  refine sz 1 30 ?_
  refine lenZ (enc := eI) (l := a16) (fl := true) (by as_aux_lemma => kernel_rfl) ?_
  refine sz 2 33 ?_
  refine reg_end rfl ?_
  refine wbr (S := fun b18 => ⟨[(1, vI p1), (2, vI p2), (3, vI p3), (4, .ptr 1 0 0), (40, vB false), (41, vI p3), (42, .ptr 1 0 3), (43, eL false (eL true eI) p0.Rows), (44, .fz [eL true eI a16]), (45, eL true eI a16)] ++ [(46, vI (a16.length : Int)), (47, vB b18), (48, vB b18)], (s21_3 p0), 55⟩) h (fun q19 h => ?_) (fun q19 h => ?_)
  · refine wp_condT rfl ?_
    refine wp_seq ?_
    refine wg [] [] ?_
    refine rn ?_
    refine wgc [8, 9] [] ⟨[(8, .nilp), (9, vI 2)], (s21_2 p0), 55⟩ ?_
    refine wp_ret ?_
    refine ⟨⟨(s21_7 p0 p1 p2 p3), (s21_2 p0), 53⟩, by as_aux_lemma => kernel_rfl, ?_⟩
    refine sz 5 10 ?_
    refine reg_end rfl ?_
    refine wp_seq ?_
    refine wp_seq ?_
    refine wg [10, 11] [] ?_
    refine rgN (S := ⟨[(10, .nilp), (11, vI 2), (25, vI 2), (26, vB true)], [], 53⟩) ?_
    refine wp_condT rfl ?_
    refine sq ?_
    refine wgc [8, 9] [] ⟨[(8, .nils), (9, vI 2)], [], 53⟩ ?_
    refine wp_wk (wk_nil 8 2 true true (st' := ⟨[(8, .ref 0 0 0), (9, vI 2)], [.row false false true true 2 []], 53⟩) (by as_aux_lemma => kernel_rfl)) ?_
    refine wp_ret ?_
    cases h
    show fnOut _ _ _ _ = _
    kernel_rfl
  refine wp_condF rfl ?_
  refine wp_skip ?_
  refine wp_seq ?_
  refine wg [1, 2, 3, 4] [1] ?_
  refine reg_in ?_
  refine sz 5 5 ?_
  refine sl false [] [] false rfl ?_
  refine sz 2 8 ?_
  refine reg_end rfl ?_
  refine wgc [8, 9] [2] ⟨[(8, .ptr 1 0 0), (9, vI 0)], (s21_18 p0 p1 p2 p3), 55⟩ ?_
  refine wp_ret ?_
  refine ⟨⟨(s21_1 p0 p1 p2 p3) ++ [(4, .ptr 0 0 0), (8, .nils), (9, vI 0), (18, .agg [vI p0.Grain, vI p0.Count, vI p0.One, eL false (eL true eI) p0.Rows]), (19, vI p1), (20, vI p2), (21, vI p3), (22, .tup [.ptr 1 0 0, vI 0])], (s21_18 p0 p1 p2 p3), 53⟩, by as_aux_lemma => kernel_rfl, ?_⟩
  refine sz 5 10 ?_
  refine reg_end rfl ?_
  refine wp_seq ?_
  refine wp_seq ?_
  refine wg [10, 11] [1] ?_
  refine rgN (S := ⟨[(10, .ptr 0 0 0), (11, vI 0), (25, vI 0), (26, vB false)], (s21_19 p0 p1 p2 p3), 53⟩) ?_
  refine wp_condF rfl ?_
  refine wp_skip ?_
  refine wp_seq ?_
  refine reg_in ?_
  refine sgz 1 1 (S := ⟨[(10, .ptr 0 0 0), (11, vI 0), (25, vI 0), (26, vB false), (28, .ptr 0 0 0)], (s21_19 p0 p1 p2 p3), 53⟩) ?_
  refine callZ (as0 := [.ptr 0 0 0]) (ids := [0]) (by as_aux_lemma => kernel_rfl) bodyB_44 (msnap_cons (snap_ptr rfl (msnap_cons (snap_agg (msnap_cons rfl (msnap_cons rfl (msnap_cons rfl (msnap_cons rfl (msnap_cons rfl (msnap_cons rfl (msnap_cons rfl msnap_nil (by rfl)) (by rfl)) (by rfl)) (by rfl)) (by rfl)) (by rfl)) (by rfl))) msnap_nil (by rfl)) (by rfl) (by rfl)) msnap_nil (by rfl)) (fun x20 q21 => g_lift_counter_mass_ok (Tlift_counter.mk p0 p1 p2 p3) x20 q21) h (fun x20 q21 h => ?_)
  refine sz 1 3 ?_
  refine reg_end rfl ?_
  refine wp_seq ?_
  refine wp_seq ?_
  refine wg [10, 12] [0] ?_
  refine rn ?_
  refine wbr (S := fun b22 => ⟨[(10, .ptr 0 0 0), (12, vI x20), (30, vI x20), (31, vB b22)], (s21_19 p0 p1 p2 p3), 53⟩) h (fun q23 h => ?_) (fun q23 h => ?_)
  · refine wp_condT rfl ?_
    refine sq ?_
    refine wgc [8, 9] [] ⟨[(8, .nils), (9, vI 7)], [], 53⟩ ?_
    refine wp_wk (wk_nil 8 2 true true (st' := ⟨[(8, .ref 0 0 0), (9, vI 7)], [.row false false true true 2 []], 53⟩) (by as_aux_lemma => kernel_rfl)) ?_
    refine wp_ret ?_
    cases h
    show fnOut _ _ _ _ = _
    kernel_rfl
  refine wp_condF rfl ?_
  refine wp_skip ?_
  refine wp_seq ?_
  refine reg_in ?_
  refine sgz 1 1 (S := ⟨[(10, .ptr 0 0 0), (12, vI x20), (30, vI x20), (31, vB false), (32, .ptr 0 0 0)], (s21_19 p0 p1 p2 p3), 53⟩) ?_
  refine callZ (as0 := [.ptr 0 0 0]) (ids := [0]) (by as_aux_lemma => kernel_rfl) bodyB_50 (msnap_cons (snap_ptr rfl (msnap_cons (snap_agg (msnap_cons rfl (msnap_cons rfl (msnap_cons rfl (msnap_cons rfl (msnap_cons rfl (msnap_cons rfl (msnap_cons rfl msnap_nil (by rfl)) (by rfl)) (by rfl)) (by rfl)) (by rfl)) (by rfl)) (by rfl))) msnap_nil (by rfl)) (by rfl) (by rfl)) msnap_nil (by rfl)) (fun x24 q25 => g_lift_counter_numbers_ok (Tlift_counter.mk p0 p1 p2 p3) x24 q25) h (fun x24 q25 h => ?_)
  refine sgz 1 3 (S := ⟨[(10, .ptr 0 0 0), (12, vI x20), (30, vI x20), (31, vB false), (32, .ptr 0 0 0), (33, .ref 1 0 x24.length), (34, .ptr 0 0 0)], [oX true false 7 (.agg [vI p0.Grain, vI p0.Count, vI p0.One, eL false (eL true eI) p0.Rows, vI p1, vI p2, vI p3]), oR true 1 eI x24], 53⟩) ?_
  refine inlR (f := 51) (fn := Try.f51) (as0 := [.ptr 0 0 0]) (by as_aux_lemma => kernel_rfl) Try.func51 rfl (by decide +kernel) rfl ?_
  refine wp_eqB (base' := 2) (st' := ⟨[(0, .ptr 0 0 0)], [oX true false 7 (.agg [vI p0.Grain, vI p0.Count, vI p0.One, eL false (eL true eI) p0.Rows, vI p1, vI p2, vI p3]), oR true 1 eI x24], 8⟩) rfl (by as_aux_lemma => kernel_rfl) ?_
  refine wp_seq ?_
  refine reg_in ?_
  refine sl false [] [] false rfl ?_
  refine sz 1 2 ?_
  refine reg_end rfl ?_
  refine wp_seq ?_
  refine reg_in ?_
  refine sgz 1 1 (S := ⟨[(0, .ptr 0 0 0), (1, .ptr 2 0 0), (2, .nilf), (4, .ptr 0 0 0)], [oX true false 7 (.agg [vI p0.Grain, vI p0.Count, vI p0.One, eL false (eL true eI) p0.Rows, vI p1, vI p2, vI p3]), oR true 1 eI x24, oX false false 1 (.ptr 0 0 0)], 8⟩) ?_
  refine callZ (as0 := [.ptr 0 0 0]) (ids := [0]) (by as_aux_lemma => kernel_rfl) bodyB_54 (msnap_cons (snap_ptr rfl (msnap_cons (snap_agg (msnap_cons rfl (msnap_cons rfl (msnap_cons rfl (msnap_cons rfl (msnap_cons rfl (msnap_cons rfl (msnap_cons rfl msnap_nil (by rfl)) (by rfl)) (by rfl)) (by rfl)) (by rfl)) (by rfl)) (by rfl))) msnap_nil (by rfl)) (by rfl) (by rfl)) msnap_nil (by rfl)) (fun x26 q27 => g_lift_counter_unknown_ok (Tlift_counter.mk p0 p1 p2 p3) x26 q27) h (fun x26 q27 h => ?_)
  refine callZ (as0 := [vI x26]) (ids := []) (by as_aux_lemma => kernel_rfl) bodyB_70 (msnap_cons rfl msnap_nil (by rfl)) (fun x28 q29 => g_lift_binomial_ok x26 x28 q29) h (fun x28 q29 h => ?_)
  refine sl false [] [] false rfl ?_
  refine sz 1 5 ?_
  refine reg_end rfl ?_
  refine wp_seq ?_
  refine wg [1, 3] [2, 4, 3] ?_
  refine rn ?_
  refine wgc [2] [2, 3, 4] ⟨[(2, .fn (.func 71) [] [.ptr 2 0 0, .ptr 3 0 0])], (s21_22 p0 p1 p2 p3 x24 x28), 8⟩ ?_
  refine wp_ret ?_
  refine ⟨⟨[(10, .ptr 0 0 0), (12, vI x20), (30, vI x20), (31, vB false), (32, .ptr 0 0 0), (33, .ref 1 0 x24.length), (34, .ptr 0 0 0), (35, .fn (.func 71) [] [.ptr 2 0 0, .ptr 3 0 0])], (s21_22 p0 p1 p2 p3 x24 x28), 53⟩, by as_aux_lemma => kernel_rfl, ?_⟩
  refine sz 2 6 ?_
  refine reg_end rfl ?_
  refine wp_seq ?_
  refine wp_seq ?_
  refine wg [12, 13, 14] [1, 2, 3, 0, 4] ?_
  refine rgN (S := ⟨[(12, vI x20), (13, .ref 0 0 x24.length), (14, .fn (.func 71) [] [.ptr 1 0 0, .ptr 2 0 0]), (36, .ref 0 0 x24.length), (37, vI (x24.length : Int)), (38, vI 0)], (s21_23 x24 x28 p0 p1 p2 p3), 53⟩) ?_
  refine wp_block ?_
  refine wp_while (σ := (Int × (List Int))) (ρ := (List Int)) (n := fuel) (body := g_lift_Ones_b0 x24 p2 p0 p1 x28 p3) (I := fun s30 => ⟨(s21_37 x20 s30 x24), (s21_30 s30 x28 p0 p1 p2 p3), 53⟩) (Ex := fun v out => out = .go (.exit 0) ⟨[(12, vI x20), (13, .ref 0 0 v.length)], [oR true 1 eI v], 53⟩) (0, x24) (wk_gc (live := [12, 13, 14, 36, 37, 38]) (keep := [0, 1, 2, 3, 4]) (st' := ⟨[(12, vI x20), (13, .ref 0 0 x24.length), (14, .fn (.func 71) [] [.ptr 1 0 0, .ptr 2 0 0]), (36, .ref 0 0 x24.length), (37, vI (x24.length : Int)), (38, vI 0)], (s21_23 x24 x28 p0 p1 p2 p3), 53⟩) (by as_aux_lemma => kernel_rfl)) h ?_ ?_
  · intro s30 o h
    unfold g_lift_Ones_b0 at h
    refine sq ?_
    refine wp_seq ?_
    refine wbr (S := fun b31 => ⟨(s21_37 x20 s30 x24) ++ [(39, vB b31)], (s21_30 s30 x28 p0 p1 p2 p3), 53⟩) h (fun q32 h => ?_) (fun q32 h => ?_)
    · refine wp_condT rfl ?_
      refine wp_skip ?_
      refine wp_seq ?_
      refine wp_block ?_
      refine wp_seq ?_
      refine reg_in ?_
      refine sgz 1 1 (S := ⟨(s21_37 x20 s30 x24) ++ [(39, vB true), (40, vI s30.1)], (s21_30 s30 x28 p0 p1 p2 p3), 53⟩) ?_
      refine bind_elim h (fun a33 q34 h => ?_)
      refine idxR' (enc := eI) (l := s30.2) (n := s30.1) (w := 1) (ob := 0) (a := a33) (S := ⟨(s21_37 x20 s30 x24) ++ [(39, vB true), (40, vI s30.1), (41, .ptr 0 (Int.toNat s30.1) 0)], (s21_30 s30 x28 p0 p1 p2 p3), 53⟩) (by as_aux_lemma => kernel_rfl) rfl (by as_aux_lemma => kernel_rfl) q34 ?_
      refine loadR (enc := eI) (l := s30.2) (n := s30.1) (ob := 0) (c := 0) (a := a33) (S := ⟨(s21_37 x20 s30 x24) ++ [(39, vB true), (40, vI s30.1), (41, .ptr 0 (Int.toNat s30.1) 0), (42, vI a33)], (s21_30 s30 x28 p0 p1 p2 p3), 53⟩) (by as_aux_lemma => kernel_rfl) rfl q34 (by as_aux_lemma => kernel_rfl) ?_
      refine sz 2 5 ?_
      refine reg_end rfl ?_
      refine reg_in ?_
      refine sgz 4 4 (S := ⟨(s21_38 x20 s30 x24 a33), (s21_30 s30 x28 p0 p1 p2 p3), 53⟩) ?_
      refine inlR (f := 71) (fn := Try.f71) (as0 := [vI a33, .ptr 1 0 0, .ptr 2 0 0]) (by as_aux_lemma => kernel_rfl) Try.func71 rfl (by decide +kernel) rfl ?_
      refine wp_eqB (base' := 5) (st' := ⟨[(0, vI a33), (1, .ptr 1 0 0), (2, .ptr 2 0 0)], (s21_30 s30 x28 p0 p1 p2 p3), 49⟩) rfl (by as_aux_lemma => kernel_rfl) ?_
      refine sq ?_
      refine wp_seq ?_
      refine wp_seq ?_
      refine rga hfol ?_
      refine sy 7 7 ?_
      refine rbr (S := fun b35 => ⟨[(0, vI a33), (1, .ptr 1 0 0), (2, .ptr 2 0 0), (4, vI 0), (5, vI a33), (6, .ptr 3 0 0), (7, .ptr 3 0 0), (8, .ptr 3 0 5), (9, vI p2), (10, vB b35), (11, vB b35)], (s21_30 s30 x28 p0 p1 p2 p3), 49⟩) h (fun q36 h => ?_) (fun q36 h => ?_)
      · refine sgy 13 20 (S := ⟨[(0, vI a33), (1, .ptr 1 0 0), (2, .ptr 2 0 0), (4, vI 0), (5, vI a33), (6, .ptr 3 0 0), (7, .ptr 3 0 0), (8, .ptr 3 0 5), (9, vI p2), (10, vB true), (11, vB true), (12, .tup []), (13, .tup []), (14, .tup []), (15, .tup []), (16, .tup []), (17, .tup []), (18, .tup []), (19, .tup []), (20, .tup []), (21, .tup []), (22, .tup []), (23, .tup []), (24, vB true)], (s21_30 s30 x28 p0 p1 p2 p3), 49⟩) ?_
        refine rgd ?_
        refine wp_condT rfl ?_
        refine wp_seq ?_
        refine wg [] [] ?_
        refine rn ?_
        refine wgc [4] [] ⟨[(4, vI 0)], (s21_30 s30 x28 p0 p1 p2 p3), 49⟩ ?_
        refine wp_ret ?_
        refine ⟨⟨(s21_38 x20 s30 x24 a33) ++ [(47, vI 0)], (s21_30 s30 x28 p0 p1 p2 p3), 53⟩, by as_aux_lemma => kernel_rfl, ?_⟩
        refine idxR' (enc := eI) (l := s30.2) (n := s30.1) (w := 1) (ob := 0) (a := a33) (S := ⟨(s21_38 x20 s30 x24 a33) ++ [(47, vI 0), (48, .ptr 0 (Int.toNat s30.1) 0)], (s21_30 s30 x28 p0 p1 p2 p3), 53⟩) (by as_aux_lemma => kernel_rfl) rfl (by as_aux_lemma => kernel_rfl) q34 ?_
        refine storeR (enc := eI) (l := s30.2) (n := s30.1) (ob := 0) (c := 0) (a := a33) (a' := 0) (v := vI 0) (S := ⟨(s21_38 x20 s30 x24 a33) ++ [(47, vI 0), (48, .ptr 0 (Int.toNat s30.1) 0)], (s21_32 s30 x28 p0 p1 p2 p3), 53⟩) false (by as_aux_lemma => kernel_rfl) rfl q34 (by as_aux_lemma => kernel_rfl) rfl (by as_aux_lemma => kernel_rfl) (by as_aux_lemma => kernel_rfl) (by as_aux_lemma => kernel_rfl) ?_
        refine rw_knN (n := s30.2.length) (m := (List.set s30.2 (Int.toNat s30.1) 0).length) (S := fun n37 => ⟨[(12, vI x20), (13, .ref 0 0 n37), (14, .fn (.func 71) [] [.ptr 1 0 0, .ptr 2 0 0]), (36, .ref 0 0 n37), (37, vI (x24.length : Int)), (38, vI s30.1), (39, vB true), (40, vI s30.1), (41, .ptr 0 (Int.toNat s30.1) 0), (42, vI a33), (15, vI s30.1), (16, vI a33), (43, .ref 0 0 n37), (44, vI s30.1), (45, .fn (.func 71) [] [.ptr 1 0 0, .ptr 2 0 0]), (46, vI a33), (47, vI 0), (48, .ptr 0 (Int.toNat s30.1) 0)], (s21_32 s30 x28 p0 p1 p2 p3), 53⟩) (by simp only [List.length_set]) ?_
        refine reg_end rfl ?_
        refine wg [12, 13, 14, 36, 37, 38] [0, 1, 2, 3, 4] ?_
        refine rgN (S := ⟨[(12, vI x20), (13, .ref 0 0 ((List.set s30.2 (Int.toNat s30.1) 0).length)), (14, .fn (.func 71) [] [.ptr 1 0 0, .ptr 2 0 0]), (36, .ref 0 0 ((List.set s30.2 (Int.toNat s30.1) 0).length)), (37, vI (x24.length : Int)), (38, vI (IntKind.i64.wrap (s30.1 + 1)))] ++ [(49, vI (IntKind.i64.wrap (s30.1 + 1)))], (s21_32 s30 x28 p0 p1 p2 p3), 53⟩) ?_
        cases h
        exact ⟨_, rfl, (wk_gc (live := [12, 13, 14, 36, 37, 38]) (keep := [0, 1, 2, 3, 4]) (st' := ⟨[(12, vI x20), (13, .ref 0 0 ((List.set s30.2 (Int.toNat s30.1) 0).length)), (14, .fn (.func 71) [] [.ptr 1 0 0, .ptr 2 0 0]), (36, .ref 0 0 ((List.set s30.2 (Int.toNat s30.1) 0).length)), (37, vI (x24.length : Int)), (38, vI (IntKind.i64.wrap (s30.1 + 1)))], (s21_32 s30 x28 p0 p1 p2 p3), 53⟩) (by as_aux_lemma => kernel_rfl))⟩
      refine sy 13 20 ?_
      refine rgd ?_
      refine wbr (S := fun b38 => ⟨[(0, vI a33), (1, .ptr 1 0 0), (2, .ptr 2 0 0), (4, vI 0), (5, vI a33), (6, .ptr 3 0 0), (7, .ptr 3 0 0), (8, .ptr 3 0 5), (9, vI p2), (10, vB false), (11, vB false), (12, vI a33), (13, .ptr 3 0 0), (14, .ptr 3 0 0), (15, .ptr 3 0 0), (16, .ptr 3 0 1), (17, vI p0.Count), (18, .ptr 3 0 0), (19, .ptr 3 0 0), (20, .ptr 3 0 4), (21, vI p1), (22, vI (IntKind.i64.wrap (p0.Count - p1))), (23, vB b38), (24, vB b38)], (s21_30 s30 x28 p0 p1 p2 p3), 49⟩) h (fun q39 h => ?_) (fun q39 h => ?_)
      · refine wp_condT rfl ?_
        refine wp_seq ?_
        refine wg [] [] ?_
        refine rn ?_
        refine wgc [4] [] ⟨[(4, vI 0)], (s21_30 s30 x28 p0 p1 p2 p3), 49⟩ ?_
        refine wp_ret ?_
        refine ⟨⟨(s21_38 x20 s30 x24 a33) ++ [(47, vI 0)], (s21_30 s30 x28 p0 p1 p2 p3), 53⟩, by as_aux_lemma => kernel_rfl, ?_⟩
        refine idxR' (enc := eI) (l := s30.2) (n := s30.1) (w := 1) (ob := 0) (a := a33) (S := ⟨(s21_38 x20 s30 x24 a33) ++ [(47, vI 0), (48, .ptr 0 (Int.toNat s30.1) 0)], (s21_30 s30 x28 p0 p1 p2 p3), 53⟩) (by as_aux_lemma => kernel_rfl) rfl (by as_aux_lemma => kernel_rfl) q34 ?_
        refine storeR (enc := eI) (l := s30.2) (n := s30.1) (ob := 0) (c := 0) (a := a33) (a' := 0) (v := vI 0) (S := ⟨(s21_38 x20 s30 x24 a33) ++ [(47, vI 0), (48, .ptr 0 (Int.toNat s30.1) 0)], (s21_32 s30 x28 p0 p1 p2 p3), 53⟩) false (by as_aux_lemma => kernel_rfl) rfl q34 (by as_aux_lemma => kernel_rfl) rfl (by as_aux_lemma => kernel_rfl) (by as_aux_lemma => kernel_rfl) (by as_aux_lemma => kernel_rfl) ?_
        refine rw_knN (n := s30.2.length) (m := (List.set s30.2 (Int.toNat s30.1) 0).length) (S := fun n40 => ⟨[(12, vI x20), (13, .ref 0 0 n40), (14, .fn (.func 71) [] [.ptr 1 0 0, .ptr 2 0 0]), (36, .ref 0 0 n40), (37, vI (x24.length : Int)), (38, vI s30.1), (39, vB true), (40, vI s30.1), (41, .ptr 0 (Int.toNat s30.1) 0), (42, vI a33), (15, vI s30.1), (16, vI a33), (43, .ref 0 0 n40), (44, vI s30.1), (45, .fn (.func 71) [] [.ptr 1 0 0, .ptr 2 0 0]), (46, vI a33), (47, vI 0), (48, .ptr 0 (Int.toNat s30.1) 0)], (s21_32 s30 x28 p0 p1 p2 p3), 53⟩) (by simp only [List.length_set]) ?_
        refine reg_end rfl ?_
        refine wg [12, 13, 14, 36, 37, 38] [0, 1, 2, 3, 4] ?_
        refine rgN (S := ⟨[(12, vI x20), (13, .ref 0 0 ((List.set s30.2 (Int.toNat s30.1) 0).length)), (14, .fn (.func 71) [] [.ptr 1 0 0, .ptr 2 0 0]), (36, .ref 0 0 ((List.set s30.2 (Int.toNat s30.1) 0).length)), (37, vI (x24.length : Int)), (38, vI (IntKind.i64.wrap (s30.1 + 1)))] ++ [(49, vI (IntKind.i64.wrap (s30.1 + 1)))], (s21_32 s30 x28 p0 p1 p2 p3), 53⟩) ?_
        cases h
        exact ⟨_, rfl, (wk_gc (live := [12, 13, 14, 36, 37, 38]) (keep := [0, 1, 2, 3, 4]) (st' := ⟨[(12, vI x20), (13, .ref 0 0 ((List.set s30.2 (Int.toNat s30.1) 0).length)), (14, .fn (.func 71) [] [.ptr 1 0 0, .ptr 2 0 0]), (36, .ref 0 0 ((List.set s30.2 (Int.toNat s30.1) 0).length)), (37, vI (x24.length : Int)), (38, vI (IntKind.i64.wrap (s30.1 + 1)))], (s21_32 s30 x28 p0 p1 p2 p3), 53⟩) (by as_aux_lemma => kernel_rfl))⟩
      refine wp_condF rfl ?_
      refine wp_skip ?_
      refine wp_seq ?_
      refine wg [0, 1, 2] [] ?_
      refine rga hfol ?_
      refine sgy 7 7 (S := ⟨[(0, vI a33), (1, .ptr 1 0 0), (2, .ptr 2 0 0), (25, .ref 4 0 x28.length), (26, vI a33), (27, .ptr 3 0 0), (28, .ptr 3 0 0), (29, .ptr 3 0 5), (30, vI p2), (31, vI (IntKind.i64.wrap (a33 - p2)))], (s21_30 s30 x28 p0 p1 p2 p3), 49⟩) ?_
      refine bind_elim h (fun a41 q42 h => ?_)
      refine idxR' (enc := eI) (l := x28) (n := IntKind.i64.wrap (a33 - p2)) (w := 1) (ob := 4) (a := a41) (S := ⟨[(0, vI a33), (1, .ptr 1 0 0), (2, .ptr 2 0 0), (25, .ref 4 0 x28.length), (26, vI a33), (27, .ptr 3 0 0), (28, .ptr 3 0 0), (29, .ptr 3 0 5), (30, vI p2), (31, vI (IntKind.i64.wrap (a33 - p2)))] ++ [(32, .ptr 4 (Int.toNat (IntKind.i64.wrap (a33 - p2))) 0)], (s21_30 s30 x28 p0 p1 p2 p3), 49⟩) (by as_aux_lemma => kernel_rfl) rfl (by as_aux_lemma => kernel_rfl) q42 ?_
      refine loadR (enc := eI) (l := x28) (n := IntKind.i64.wrap (a33 - p2)) (ob := 4) (c := 0) (a := a41) (S := ⟨[(0, vI a33), (1, .ptr 1 0 0), (2, .ptr 2 0 0), (25, .ref 4 0 x28.length), (26, vI a33), (27, .ptr 3 0 0), (28, .ptr 3 0 0), (29, .ptr 3 0 5), (30, vI p2), (31, vI (IntKind.i64.wrap (a33 - p2)))] ++ [(32, .ptr 4 (Int.toNat (IntKind.i64.wrap (a33 - p2))) 0), (33, vI a41)], (s21_30 s30 x28 p0 p1 p2 p3), 49⟩) (by as_aux_lemma => kernel_rfl) rfl q42 (by as_aux_lemma => kernel_rfl) ?_
      refine sgy 9 18 (S := ⟨[(0, vI a33), (1, .ptr 1 0 0), (2, .ptr 2 0 0), (25, .ref 4 0 x28.length), (26, vI a33), (27, .ptr 3 0 0), (28, .ptr 3 0 0), (29, .ptr 3 0 5), (30, vI p2), (31, vI (IntKind.i64.wrap (a33 - p2)))] ++ [(32, .ptr 4 (Int.toNat (IntKind.i64.wrap (a33 - p2))) 0), (33, vI a41), (34, .ptr 3 0 0), (35, vI a33), (36, .ptr 3 0 0), (37, .ptr 3 0 0), (38, .ptr 3 0 0), (39, .ptr 3 0 1), (40, vI p0.Count), (41, vI a33), (42, vI (IntKind.i64.wrap (p0.Count - a33)))], (s21_30 s30 x28 p0 p1 p2 p3), 49⟩) ?_
      refine callZ (as0 := [.ptr 3 0 0, vI a33, vI (IntKind.i64.wrap (p0.Count - a33))]) (ids := [3]) (by as_aux_lemma => kernel_rfl) bodyB_72 (msnap_cons (snap_ptr rfl (msnap_cons (snap_agg (msnap_cons rfl (msnap_cons rfl (msnap_cons rfl (msnap_cons rfl (msnap_cons rfl (msnap_cons rfl (msnap_cons rfl msnap_nil (by rfl)) (by rfl)) (by rfl)) (by rfl)) (by rfl)) (by rfl)) (by rfl))) msnap_nil (by rfl)) (by rfl) (by rfl)) (msnap_cons rfl (msnap_cons rfl msnap_nil (by rfl)) (by rfl)) (by rfl)) (fun x43 q44 => g_lift_counter_members_ok (Tlift_counter.mk p0 p1 p2 p3) a33 (IntKind.i64.wrap (p0.Count - a33)) x43 q44) h (fun x43 q44 h => ?_)
      refine sgy 3 22 (S := ⟨[(0, vI a33), (1, .ptr 1 0 0), (2, .ptr 2 0 0), (25, .ref 4 0 x28.length), (26, vI a33), (27, .ptr 3 0 0), (28, .ptr 3 0 0), (29, .ptr 3 0 5), (30, vI p2), (31, vI (IntKind.i64.wrap (a33 - p2)))] ++ [(32, .ptr 4 (Int.toNat (IntKind.i64.wrap (a33 - p2))) 0), (33, vI a41), (34, .ptr 3 0 0), (35, vI a33), (36, .ptr 3 0 0), (37, .ptr 3 0 0), (38, .ptr 3 0 0), (39, .ptr 3 0 1), (40, vI p0.Count), (41, vI a33), (42, vI (IntKind.i64.wrap (p0.Count - a33)))] ++ [(43, vI x43), (44, vI (IntKind.i64.wrap (a41 * x43))), (45, .ptr 3 0 0), (46, vI a33)], (s21_30 s30 x28 p0 p1 p2 p3), 49⟩) ?_
      refine callZ (as0 := [.ptr 3 0 0, vI a33]) (ids := [3]) (by as_aux_lemma => kernel_rfl) bodyB_73 (msnap_cons (snap_ptr rfl (msnap_cons (snap_agg (msnap_cons rfl (msnap_cons rfl (msnap_cons rfl (msnap_cons rfl (msnap_cons rfl (msnap_cons rfl (msnap_cons rfl msnap_nil (by rfl)) (by rfl)) (by rfl)) (by rfl)) (by rfl)) (by rfl)) (by rfl))) msnap_nil (by rfl)) (by rfl) (by rfl)) (msnap_cons rfl msnap_nil (by rfl)) (by rfl)) (fun x45 q46 => g_lift_counter_shown_ok (Tlift_counter.mk p0 p1 p2 p3) a33 x45 q46) h (fun x45 q46 h => ?_)
      refine sy 2 25 ?_
      refine rgd ?_
      refine wgc [4] [] ⟨[(4, vI (IntKind.i64.wrap ((IntKind.i64.wrap (a41 * x43)) * x45)))], (s21_30 s30 x28 p0 p1 p2 p3), 49⟩ ?_
      refine wp_ret ?_
      refine ⟨⟨(s21_38 x20 s30 x24 a33) ++ [(47, vI (IntKind.i64.wrap ((IntKind.i64.wrap (a41 * x43)) * x45)))], (s21_30 s30 x28 p0 p1 p2 p3), 53⟩, by as_aux_lemma => kernel_rfl, ?_⟩
      refine idxR' (enc := eI) (l := s30.2) (n := s30.1) (w := 1) (ob := 0) (a := a33) (S := ⟨(s21_38 x20 s30 x24 a33) ++ [(47, vI (IntKind.i64.wrap ((IntKind.i64.wrap (a41 * x43)) * x45))), (48, .ptr 0 (Int.toNat s30.1) 0)], (s21_30 s30 x28 p0 p1 p2 p3), 53⟩) (by as_aux_lemma => kernel_rfl) rfl (by as_aux_lemma => kernel_rfl) q34 ?_
      refine storeR (enc := eI) (l := s30.2) (n := s30.1) (ob := 0) (c := 0) (a := a33) (a' := IntKind.i64.wrap ((IntKind.i64.wrap (a41 * x43)) * x45)) (v := vI (IntKind.i64.wrap ((IntKind.i64.wrap (a41 * x43)) * x45))) (S := ⟨(s21_38 x20 s30 x24 a33) ++ [(47, vI (IntKind.i64.wrap ((IntKind.i64.wrap (a41 * x43)) * x45))), (48, .ptr 0 (Int.toNat s30.1) 0)], [oR true 1 eI (List.set s30.2 (Int.toNat s30.1) (IntKind.i64.wrap ((IntKind.i64.wrap (a41 * x43)) * x45))), oX false false 1 (.ptr 3 0 0), oX false false 1 (.ref 4 0 x28.length), oX true false 7 (.agg [vI p0.Grain, vI p0.Count, vI p0.One, eL false (eL true eI) p0.Rows, vI p1, vI p2, vI p3]), oR true 1 eI x28], 53⟩) false (by as_aux_lemma => kernel_rfl) rfl q34 (by as_aux_lemma => kernel_rfl) rfl (by as_aux_lemma => kernel_rfl) (by as_aux_lemma => kernel_rfl) (by as_aux_lemma => kernel_rfl) ?_
      refine rw_knN (n := s30.2.length) (m := (List.set s30.2 (Int.toNat s30.1) (IntKind.i64.wrap ((IntKind.i64.wrap (a41 * x43)) * x45))).length) (S := fun n47 => ⟨[(12, vI x20), (13, .ref 0 0 n47), (14, .fn (.func 71) [] [.ptr 1 0 0, .ptr 2 0 0]), (36, .ref 0 0 n47), (37, vI (x24.length : Int)), (38, vI s30.1), (39, vB true), (40, vI s30.1), (41, .ptr 0 (Int.toNat s30.1) 0), (42, vI a33), (15, vI s30.1), (16, vI a33), (43, .ref 0 0 n47), (44, vI s30.1), (45, .fn (.func 71) [] [.ptr 1 0 0, .ptr 2 0 0]), (46, vI a33), (47, vI (IntKind.i64.wrap ((IntKind.i64.wrap (a41 * x43)) * x45))), (48, .ptr 0 (Int.toNat s30.1) 0)], [oR true 1 eI (List.set s30.2 (Int.toNat s30.1) (IntKind.i64.wrap ((IntKind.i64.wrap (a41 * x43)) * x45))), oX false false 1 (.ptr 3 0 0), oX false false 1 (.ref 4 0 x28.length), oX true false 7 (.agg [vI p0.Grain, vI p0.Count, vI p0.One, eL false (eL true eI) p0.Rows, vI p1, vI p2, vI p3]), oR true 1 eI x28], 53⟩) (by simp only [List.length_set]) ?_
      refine reg_end rfl ?_
      refine wg [12, 13, 14, 36, 37, 38] [0, 1, 2, 3, 4] ?_
      refine rgN (S := ⟨[(12, vI x20), (13, .ref 0 0 ((List.set s30.2 (Int.toNat s30.1) (IntKind.i64.wrap ((IntKind.i64.wrap (a41 * x43)) * x45))).length)), (14, .fn (.func 71) [] [.ptr 1 0 0, .ptr 2 0 0]), (36, .ref 0 0 ((List.set s30.2 (Int.toNat s30.1) (IntKind.i64.wrap ((IntKind.i64.wrap (a41 * x43)) * x45))).length)), (37, vI (x24.length : Int)), (38, vI (IntKind.i64.wrap (s30.1 + 1)))] ++ [(49, vI (IntKind.i64.wrap (s30.1 + 1)))], [oR true 1 eI (List.set s30.2 (Int.toNat s30.1) (IntKind.i64.wrap ((IntKind.i64.wrap (a41 * x43)) * x45))), oX false false 1 (.ptr 3 0 0), oX false false 1 (.ref 4 0 x28.length), oX true false 7 (.agg [vI p0.Grain, vI p0.Count, vI p0.One, eL false (eL true eI) p0.Rows, vI p1, vI p2, vI p3]), oR true 1 eI x28], 53⟩) ?_
      cases h
      exact ⟨_, rfl, (wk_gc (live := [12, 13, 14, 36, 37, 38]) (keep := [0, 1, 2, 3, 4]) (st' := ⟨[(12, vI x20), (13, .ref 0 0 ((List.set s30.2 (Int.toNat s30.1) (IntKind.i64.wrap ((IntKind.i64.wrap (a41 * x43)) * x45))).length)), (14, .fn (.func 71) [] [.ptr 1 0 0, .ptr 2 0 0]), (36, .ref 0 0 ((List.set s30.2 (Int.toNat s30.1) (IntKind.i64.wrap ((IntKind.i64.wrap (a41 * x43)) * x45))).length)), (37, vI (x24.length : Int)), (38, vI (IntKind.i64.wrap (s30.1 + 1)))], [oR true 1 eI (List.set s30.2 (Int.toNat s30.1) (IntKind.i64.wrap ((IntKind.i64.wrap (a41 * x43)) * x45))), oX false false 1 (.ptr 3 0 0), oX false false 1 (.ref 4 0 x28.length), oX true false 7 (.agg [vI p0.Grain, vI p0.Count, vI p0.One, eL false (eL true eI) p0.Rows, vI p1, vI p2, vI p3]), oR true 1 eI x28], 53⟩) (by as_aux_lemma => kernel_rfl))⟩
    refine wp_condF rfl ?_
    refine wgc [12, 13] [0] ⟨[(12, vI x20), (13, .ref 0 0 s30.2.length)], [oR true 1 eI s30.2], 53⟩ ?_
    refine wp_exit ?_
    cases h
    exact ⟨rfl, rfl⟩
  intro x49 h out hx
  subst hx
  refine wp_seq ?_
  refine reg_in ?_
  refine sgz 2 2 (S := ⟨[(12, vI x20), (13, .ref 0 0 x49.length), (50, vI x20), (51, .ref 0 0 x49.length)], [oR true 1 eI x49], 53⟩) ?_
  refine callZ (as0 := [vI x20, .ref 0 0 x49.length]) (ids := [0]) (by as_aux_lemma => kernel_rfl) bodyB_52 (msnap_cons rfl (msnap_cons (snap_full rfl) msnap_nil (by rfl)) (by rfl)) (fun x50 q51 => g_lift_divided_ok x20 x49 x50 q51) h (fun x50 q51 h => ?_)
  refine sz 2 5 ?_
  refine reg_end rfl ?_
  refine wg [8, 9] [1] ?_
  refine wp_ret ?_
  cases h
  show fnOut _ _ _ _ = _
  kernel_rfl
@[reducible] noncomputable def s23_1 (p0 : (List Tapi_Q)) (p1 : (List Tapi_Q)) (s3 : Int) (a6 : Tapi_Q) : List (Nat × AV) := [(0, eL true eTapi_Q p0), (1, eL true eTapi_Q p1), (12, vI (p0.length : Int)), (13, vI s3), (14, vB true), (15, vI s3), (5, vI s3), (16, eL true eTapi_Q p0), (17, vI s3), (18, .fz [vI a6.N, vI a6.D]), (19, .agg [vI a6.N, vI a6.D]), (20, eL true eTapi_Q p1), (21, vI s3)]
theorem g_slices_Equal_api_Q_api_Q_ok (p0 : (List Tapi_Q)) (p1 : (List Tapi_Q)) (x : Bool) (h : g_slices_Equal_api_Q_api_Q p0 p1 = some x) : CallOk Try.prog 23 [eL true eTapi_Q p0, eL true eTapi_Q p1] (.ret (vB x) []) := by
  refine fn_ok [] Try.func23 rfl (by decide +kernel) rfl ?_
  unfold g_slices_Equal_api_Q_api_Q at h
  refine wp_eqB (base' := 0) (st' := ⟨[(0, eL true eTapi_Q p0), (1, eL true eTapi_Q p1)], [], 26⟩) rfl (by kernel_rfl) ?_
  refine sq ?_
  refine wp_seq ?_
  refine wp_seq ?_
  refine reg_in ?_
  refine sz 1 1 ?_
  refine lenZ (enc := eTapi_Q) (l := p0) (fl := true) (by kernel_rfl) ?_
  refine sz 1 3 ?_
  refine lenZ (enc := eTapi_Q) (l := p1) (fl := true) (by kernel_rfl) ?_
  refine sz 1 5 ?_
  refine reg_end rfl ?_
  refine wbr (S := fun b1 => ⟨[(0, eL true eTapi_Q p0), (1, eL true eTapi_Q p1), (4, vB false), (6, eL true eTapi_Q p0), (7, vI (p0.length : Int)), (8, eL true eTapi_Q p1), (9, vI (p1.length : Int)), (10, vB b1)], [], 26⟩) h (fun q2 h => ?_) (fun q2 h => ?_)
  · refine wp_condT rfl ?_
    refine wp_seq ?_
    refine wg [] [] ?_
    refine rn ?_
    refine wg [4] [] ?_
    refine wp_ret ?_
    cases h
    show fnOut _ _ _ _ = _
    kernel_rfl
  refine wp_condF rfl ?_
  refine wp_skip ?_
  refine wp_seq ?_
  refine wp_seq ?_
  refine wg [0, 1] [] ?_
  refine reg_in ?_
  refine sz 1 1 ?_
  refine lenZ (enc := eTapi_Q) (l := p0) (fl := true) (by kernel_rfl) ?_
  refine sgz 1 3 (S := ⟨[(0, eL true eTapi_Q p0), (1, eL true eTapi_Q p1), (11, eL true eTapi_Q p0), (12, vI (p0.length : Int)), (13, vI 0)], [], 26⟩) ?_
  refine reg_end rfl ?_
  refine wp_block ?_
  refine wp_while (σ := Int) (ρ := (Unit ⊕ Unit)) (n := fuel) (body := g_slices_Equal_api_Q_api_Q_b0 p0 p1) (I := fun s3 => ⟨[(0, eL true eTapi_Q p0), (1, eL true eTapi_Q p1), (12, vI (p0.length : Int)), (13, vI s3)], [], 26⟩) (Ex := fun x out => out = match x with | .inl v => .go (.ret) ⟨[(4, vB false)], [], 26⟩ | .inr v => .go (.exit 0) ⟨[], [], 26⟩) 0 (wk_gc (live := [0, 1, 12, 13]) (keep := []) (st' := ⟨[(0, eL true eTapi_Q p0), (1, eL true eTapi_Q p1), (12, vI (p0.length : Int)), (13, vI 0)], [], 26⟩) (by kernel_rfl)) h ?_ ?_
  · intro s3 o h
    unfold g_slices_Equal_api_Q_api_Q_b0 at h
    refine sq ?_
    refine wp_seq ?_
    refine wbr (S := fun b4 => ⟨[(0, eL true eTapi_Q p0), (1, eL true eTapi_Q p1), (12, vI (p0.length : Int)), (13, vI s3), (14, vB b4)], [], 26⟩) h (fun q5 h => ?_) (fun q5 h => ?_)
    · refine wp_condT rfl ?_
      refine wp_skip ?_
      refine wp_seq ?_
      refine wp_block ?_
      refine sq ?_
      refine wp_seq ?_
      refine rga hfol ?_
      refine sgy 2 2 (S := ⟨[(0, eL true eTapi_Q p0), (1, eL true eTapi_Q p1), (12, vI (p0.length : Int)), (13, vI s3), (14, vB true), (15, vI s3), (5, vI s3), (16, eL true eTapi_Q p0), (17, vI s3)], [], 26⟩) ?_
      refine bind_elim h (fun a6 q7 h => ?_)
      refine idxZ (enc := eTapi_Q) (l := p0) (n := s3) (fl := true) (w := 2) (a := a6) (by kernel_rfl) q7 ?_
      refine sgy 3 6 (S := ⟨(s23_1 p0 p1 s3 a6), [], 26⟩) ?_
      refine bind_elim h (fun a8 q9 h => ?_)
      refine idxZ (enc := eTapi_Q) (l := p1) (n := s3) (fl := true) (w := 2) (a := a8) (by kernel_rfl) q9 ?_
      refine sy 2 9 ?_
      refine rgd ?_
      refine wbr (S := fun b10 => ⟨(s23_1 p0 p1 s3 a6) ++ [(22, .fz [vI a8.N, vI a8.D]), (23, .agg [vI a8.N, vI a8.D]), (24, vB b10)], [], 26⟩) h (fun q11 h => ?_) (fun q11 h => ?_)
      · refine wp_condT rfl ?_
        refine wp_seq ?_
        refine wg [] [] ?_
        refine rn ?_
        refine wgc [4] [] ⟨[(4, vB false)], [], 26⟩ ?_
        refine wp_ret ?_
        cases h
        exact ⟨rfl, rfl⟩
      refine wp_condF rfl ?_
      refine wp_skip ?_
      refine wg [0, 1, 12, 13] [] ?_
      refine rgN (S := ⟨[(0, eL true eTapi_Q p0), (1, eL true eTapi_Q p1), (12, vI (p0.length : Int)), (13, vI (IntKind.i64.wrap (s3 + 1))), (25, vI (IntKind.i64.wrap (s3 + 1)))], [], 26⟩) ?_
      cases h
      exact ⟨_, rfl, (wk_gc (live := [0, 1, 12, 13]) (keep := []) (st' := ⟨[(0, eL true eTapi_Q p0), (1, eL true eTapi_Q p1), (12, vI (p0.length : Int)), (13, vI (IntKind.i64.wrap (s3 + 1)))], [], 26⟩) (by kernel_rfl))⟩
    refine wp_condF rfl ?_
    refine wgc [] [] ⟨[], [], 26⟩ ?_
    refine wp_exit ?_
    cases h
    exact ⟨rfl, rfl⟩
  intro x12 h out hx
  subst hx
  rcases x12 with x13 | x14
  · dsimp only at h ⊢
    cases h
    show fnOut _ _ _ _ = _
    kernel_rfl
  · dsimp only at h ⊢
    refine sq ?_
    refine wg [4] [] ?_
    refine wp_ret ?_
    cases h
    show fnOut _ _ _ _ = _
    kernel_rfl
@[reducible] noncomputable def s24_1 (p0 : Tapi_Lift) (p1 : Int) (p2 : Int) (p3 : Int) : List (Nat × AV) := [(0, .agg [vI p0.Grain, vI p0.Count, vI p0.One, eL false (eL true eI) p0.Rows]), (1, vI p1), (2, vI p2), (3, vI p3)]
@[reducible] noncomputable def s24_2 (p0 : Tapi_Lift) : List AObj := [oX true false 4 (.agg [vI p0.Grain, vI p0.Count, vI p0.One, eL false (eL true eI) p0.Rows]), oX true true 2 (.agg [vI 0, vI 0])]
@[reducible] noncomputable def s24_3 (p0 : Tapi_Lift) : List AObj := [oX true false 4 (.agg [vI p0.Grain, vI p0.Count, vI p0.One, eL false (eL true eI) p0.Rows]), oX true true 2 (.agg [vI 0, vI 0]), oX true false 4 (.agg [vI p0.Grain, vI p0.Count, vI p0.One, eL false (eL true eI) p0.Rows])]
@[reducible] noncomputable def s24_7 (p0 : Tapi_Lift) (p1 : Int) (p2 : Int) (p3 : Int) : List (Nat × AV) := (s24_1 p0 p1 p2 p3) ++ [(4, .ptr 0 0 0), (8, .ptr 1 0 0), (9, vI 0), (15, .agg [vI p0.Grain, vI p0.Count, vI p0.One, eL false (eL true eI) p0.Rows]), (16, vI p1), (17, vI p2), (18, vI p3), (19, .tup [.nilp, vI 2])]
@[reducible] noncomputable def s24_18 (p0 : Tapi_Lift) (p1 : Int) (p2 : Int) (p3 : Int) : List AObj := [oX true false 4 (.agg [vI p0.Grain, vI p0.Count, vI p0.One, eL false (eL true eI) p0.Rows]), oX true true 2 (.agg [vI 0, vI 0]), oX true false 7 (.agg [vI p0.Grain, vI p0.Count, vI p0.One, eL false (eL true eI) p0.Rows, vI p1, vI p2, vI p3])]
@[reducible] noncomputable def s24_19 (p0 : Tapi_Lift) (p1 : Int) (p2 : Int) (p3 : Int) : List AObj := [oX true true 2 (.agg [vI 0, vI 0]), oX true false 7 (.agg [vI p0.Grain, vI p0.Count, vI p0.One, eL false (eL true eI) p0.Rows, vI p1, vI p2, vI p3])]
theorem g_lift_Next_ok (p0 : Tapi_Lift) (p1 : Int) (p2 : Int) (p3 : Int) (x : (Tapi_Q × Int)) (h : g_lift_Next p0 p1 p2 p3 = some x) : CallOk Try.prog 24 [.agg [vI p0.Grain, vI p0.Count, vI p0.One, eL false (eL true eI) p0.Rows], vI p1, vI p2, vI p3] (.ret (.tup [.agg [vI x.1.N, vI x.1.D], vI x.2]) []) := by
  refine fn_ok [] Try.func24 rfl (by decide +kernel) rfl ?_
  unfold g_lift_Next at h
  refine wp_eqB (base' := 0) (st' := ⟨(s24_1 p0 p1 p2 p3), [], 45⟩) rfl (by as_aux_lemma => kernel_rfl) ?_
  refine wp_seq ?_
  refine reg_in ?_
  refine sl false [] [] false rfl ?_
  refine sz 2 3 ?_
  refine reg_end rfl ?_
  refine wp_seq ?_
  refine reg_in ?_
  refine sgz 4 4 (S := ⟨(s24_1 p0 p1 p2 p3) ++ [(4, .ptr 0 0 0), (8, .ptr 1 0 0), (9, vI 0), (15, .agg [vI p0.Grain, vI p0.Count, vI p0.One, eL false (eL true eI) p0.Rows]), (16, vI p1), (17, vI p2), (18, vI p3)], (s24_2 p0), 45⟩) ?_
  refine inlR (f := 42) (fn := Try.f42) (as0 := [.agg [vI p0.Grain, vI p0.Count, vI p0.One, eL false (eL true eI) p0.Rows], vI p1, vI p2, vI p3]) (by as_aux_lemma => kernel_rfl) Try.func42 rfl (by decide +kernel) rfl ?_
  refine wp_eqB (base' := 2) (st' := ⟨(s24_1 p0 p1 p2 p3), (s24_2 p0), 55⟩) rfl (by as_aux_lemma => kernel_rfl) ?_
  refine wp_seq ?_
  refine reg_in ?_
  refine sl false [] [] false rfl ?_
  refine sz 2 3 ?_
  refine reg_end rfl ?_
  refine wp_seq ?_
  refine wp_seq ?_
  refine reg_in ?_
  refine sz 1 1 ?_
  refine callZ (as0 := [.agg [vI p0.Grain, vI p0.Count, vI p0.One, eL false (eL true eI) p0.Rows]]) (ids := []) (by as_aux_lemma => kernel_rfl) bodyB_14 (msnap_cons (snap_agg (msnap_cons rfl (msnap_cons rfl (msnap_cons rfl (msnap_cons rfl msnap_nil (by rfl)) (by rfl)) (by rfl)) (by rfl))) msnap_nil (by rfl)) (fun x1 q2 => g_lift_Check_ok p0 x1 q2) h (fun x1 q2 h => ?_)
  refine sz 1 3 ?_
  refine reg_end rfl ?_
  refine wp_seq ?_
  refine wg [1, 2, 3, 4, 10] [2] ?_
  refine rgN (S := ⟨[(1, vI p1), (2, vI p2), (3, vI p3), (4, .ptr 2 0 0), (10, vI x1), (13, vI x1), (14, vB (x1 != 0))], (s24_3 p0), 55⟩) ?_
  refine wbr (S := fun b3 => ⟨[(1, vI p1), (2, vI p2), (3, vI p3), (4, .ptr 2 0 0), (10, vI x1), (13, vI x1), (14, vB b3)], (s24_3 p0), 55⟩) h (fun q4 h => ?_) (fun q4 h => ?_)
  · refine wp_condT rfl ?_
    refine wp_seq ?_
    refine wg [10] [] ?_
    refine rn ?_
    refine wgc [8, 9] [] ⟨[(8, .nilp), (9, vI x1)], (s24_2 p0), 55⟩ ?_
    refine wp_ret ?_
    refine ⟨⟨(s24_1 p0 p1 p2 p3) ++ [(4, .ptr 0 0 0), (8, .ptr 1 0 0), (9, vI 0), (15, .agg [vI p0.Grain, vI p0.Count, vI p0.One, eL false (eL true eI) p0.Rows]), (16, vI p1), (17, vI p2), (18, vI p3), (19, .tup [.nilp, vI x1])], (s24_2 p0), 45⟩, by as_aux_lemma => kernel_rfl, ?_⟩
    refine sz 5 10 ?_
    refine reg_end rfl ?_
    refine wp_seq ?_
    refine wp_seq ?_
    refine wg [8, 10, 11] [1] ?_
    refine rn ?_
    refine wkn (S := fun b5 => ⟨[(8, .ptr 0 0 0), (10, .nilp), (11, vI x1), (22, vI x1), (23, vB b5)], [oX true true 2 (.agg [vI 0, vI 0])], 45⟩) q4 ?_
    refine wp_condT rfl ?_
    refine sq ?_
    refine wg [8, 9] [0] ?_
    refine wp_ret ?_
    cases h
    show fnOut _ _ _ _ = _
    kernel_rfl
  refine wp_condF rfl ?_
  refine wp_skip ?_
  refine wp_seq ?_
  refine wp_seq ?_
  refine reg_in ?_
  refine sz 3 3 ?_
  refine rw_wk (wk_gc (live := [1, 2, 3, 4, 18]) (keep := [2]) (st' := ⟨[(1, vI p1), (2, vI p2), (3, vI p3), (4, .ptr 2 0 0), (18, vB (decide (p1 < 0)))], (s24_3 p0), 55⟩) (by as_aux_lemma => kernel_rfl)) ?_
  refine rbr (S := fun b6 => ⟨[(1, vI p1), (2, vI p2), (3, vI p3), (4, .ptr 2 0 0), (18, vB b6)], (s24_3 p0), 55⟩) h (fun q7 h => ?_) (fun q7 h => ?_)
  · refine sgz 30 33 (S := ⟨[(1, vI p1), (2, vI p2), (3, vI p3), (4, .ptr 2 0 0), (18, vB true), (19, .tup []), (20, .tup []), (21, .tup []), (22, .tup []), (23, vB true), (24, vB true), (25, .tup []), (26, .tup []), (27, vB true), (28, vB true), (29, .tup []), (30, .tup []), (31, .tup []), (32, .tup []), (33, .tup []), (34, .tup []), (35, vB true), (36, vB true), (37, .tup []), (38, .tup []), (39, vB true), (40, vB true), (41, .tup []), (42, .tup []), (43, .tup []), (44, .tup []), (45, .tup []), (46, .tup []), (47, .tup []), (48, vB true)], (s24_3 p0), 55⟩) ?_
    refine reg_end rfl ?_
    refine wp_condT rfl ?_
    refine wp_seq ?_
    refine wg [] [] ?_
    refine rn ?_
    refine wgc [8, 9] [] ⟨[(8, .nilp), (9, vI 2)], (s24_2 p0), 55⟩ ?_
    refine wp_ret ?_
    refine ⟨⟨(s24_7 p0 p1 p2 p3), (s24_2 p0), 45⟩, by as_aux_lemma => kernel_rfl, ?_⟩
    refine sz 5 10 ?_
    refine reg_end rfl ?_
    refine wp_seq ?_
    refine wp_seq ?_
    refine wg [8, 10, 11] [1] ?_
    refine rgN (S := ⟨[(8, .ptr 0 0 0), (10, .nilp), (11, vI 2), (22, vI 2), (23, vB true)], [oX true true 2 (.agg [vI 0, vI 0])], 45⟩) ?_
    refine wp_condT rfl ?_
    refine sq ?_
    refine wg [8, 9] [0] ?_
    refine wp_ret ?_
    cases h
    show fnOut _ _ _ _ = _
    kernel_rfl
  refine sz 6 9 ?_
  refine rw_wk (wk_gc (live := [1, 2, 3, 4, 24]) (keep := [2]) (st' := ⟨[(1, vI p1), (2, vI p2), (3, vI p3), (4, .ptr 2 0 0), (24, vB (decide (p1 > p0.Count)))], (s24_3 p0), 55⟩) (by as_aux_lemma => kernel_rfl)) ?_
  refine rbr (S := fun b8 => ⟨[(1, vI p1), (2, vI p2), (3, vI p3), (4, .ptr 2 0 0), (24, vB b8)], (s24_3 p0), 55⟩) h (fun q9 h => ?_) (fun q9 h => ?_)
  · refine sgz 24 33 (S := ⟨[(1, vI p1), (2, vI p2), (3, vI p3), (4, .ptr 2 0 0), (24, vB true), (25, .tup []), (26, .tup []), (27, vB true), (28, vB true), (29, .tup []), (30, .tup []), (31, .tup []), (32, .tup []), (33, .tup []), (34, .tup []), (35, vB true), (36, vB true), (37, .tup []), (38, .tup []), (39, vB true), (40, vB true), (41, .tup []), (42, .tup []), (43, .tup []), (44, .tup []), (45, .tup []), (46, .tup []), (47, .tup []), (48, vB true)], (s24_3 p0), 55⟩) ?_
    refine reg_end rfl ?_
    refine wp_condT rfl ?_
    refine wp_seq ?_
    refine wg [] [] ?_
    refine rn ?_
    refine wgc [8, 9] [] ⟨[(8, .nilp), (9, vI 2)], (s24_2 p0), 55⟩ ?_
    refine wp_ret ?_
    refine ⟨⟨(s24_7 p0 p1 p2 p3), (s24_2 p0), 45⟩, by as_aux_lemma => kernel_rfl, ?_⟩
    refine sz 5 10 ?_
    refine reg_end rfl ?_
    refine wp_seq ?_
    refine wp_seq ?_
    refine wg [8, 10, 11] [1] ?_
    refine rgN (S := ⟨[(8, .ptr 0 0 0), (10, .nilp), (11, vI 2), (22, vI 2), (23, vB true)], [oX true true 2 (.agg [vI 0, vI 0])], 45⟩) ?_
    refine wp_condT rfl ?_
    refine sq ?_
    refine wg [8, 9] [0] ?_
    refine wp_ret ?_
    cases h
    show fnOut _ _ _ _ = _
    kernel_rfl
  refine sz 4 13 ?_
  refine rw_wk (wk_gc (live := [1, 2, 3, 4, 28]) (keep := [2]) (st' := ⟨[(1, vI p1), (2, vI p2), (3, vI p3), (4, .ptr 2 0 0), (28, vB (decide (p2 < 0)))], (s24_3 p0), 55⟩) (by as_aux_lemma => kernel_rfl)) ?_
  refine rbr (S := fun b10 => ⟨[(1, vI p1), (2, vI p2), (3, vI p3), (4, .ptr 2 0 0), (28, vB b10)], (s24_3 p0), 55⟩) h (fun q11 h => ?_) (fun q11 h => ?_)
  · refine sgz 20 33 (S := ⟨[(1, vI p1), (2, vI p2), (3, vI p3), (4, .ptr 2 0 0), (28, vB true), (29, .tup []), (30, .tup []), (31, .tup []), (32, .tup []), (33, .tup []), (34, .tup []), (35, vB true), (36, vB true), (37, .tup []), (38, .tup []), (39, vB true), (40, vB true), (41, .tup []), (42, .tup []), (43, .tup []), (44, .tup []), (45, .tup []), (46, .tup []), (47, .tup []), (48, vB true)], (s24_3 p0), 55⟩) ?_
    refine reg_end rfl ?_
    refine wp_condT rfl ?_
    refine wp_seq ?_
    refine wg [] [] ?_
    refine rn ?_
    refine wgc [8, 9] [] ⟨[(8, .nilp), (9, vI 2)], (s24_2 p0), 55⟩ ?_
    refine wp_ret ?_
    refine ⟨⟨(s24_7 p0 p1 p2 p3), (s24_2 p0), 45⟩, by as_aux_lemma => kernel_rfl, ?_⟩
    refine sz 5 10 ?_
    refine reg_end rfl ?_
    refine wp_seq ?_
    refine wp_seq ?_
    refine wg [8, 10, 11] [1] ?_
    refine rgN (S := ⟨[(8, .ptr 0 0 0), (10, .nilp), (11, vI 2), (22, vI 2), (23, vB true)], [oX true true 2 (.agg [vI 0, vI 0])], 45⟩) ?_
    refine wp_condT rfl ?_
    refine sq ?_
    refine wg [8, 9] [0] ?_
    refine wp_ret ?_
    cases h
    show fnOut _ _ _ _ = _
    kernel_rfl
  refine sz 8 21 ?_
  refine rw_wk (wk_gc (live := [1, 2, 3, 4, 36]) (keep := [2]) (st' := ⟨[(1, vI p1), (2, vI p2), (3, vI p3), (4, .ptr 2 0 0), (36, vB (decide (p2 > (IntKind.i64.wrap (p0.Count - p1)))))], (s24_3 p0), 55⟩) (by as_aux_lemma => kernel_rfl)) ?_
  refine rbr (S := fun b12 => ⟨[(1, vI p1), (2, vI p2), (3, vI p3), (4, .ptr 2 0 0), (36, vB b12)], (s24_3 p0), 55⟩) h (fun q13 h => ?_) (fun q13 h => ?_)
  · refine sgz 12 33 (S := ⟨[(1, vI p1), (2, vI p2), (3, vI p3), (4, .ptr 2 0 0), (36, vB true), (37, .tup []), (38, .tup []), (39, vB true), (40, vB true), (41, .tup []), (42, .tup []), (43, .tup []), (44, .tup []), (45, .tup []), (46, .tup []), (47, .tup []), (48, vB true)], (s24_3 p0), 55⟩) ?_
    refine reg_end rfl ?_
    refine wp_condT rfl ?_
    refine wp_seq ?_
    refine wg [] [] ?_
    refine rn ?_
    refine wgc [8, 9] [] ⟨[(8, .nilp), (9, vI 2)], (s24_2 p0), 55⟩ ?_
    refine wp_ret ?_
    refine ⟨⟨(s24_7 p0 p1 p2 p3), (s24_2 p0), 45⟩, by as_aux_lemma => kernel_rfl, ?_⟩
    refine sz 5 10 ?_
    refine reg_end rfl ?_
    refine wp_seq ?_
    refine wp_seq ?_
    refine wg [8, 10, 11] [1] ?_
    refine rgN (S := ⟨[(8, .ptr 0 0 0), (10, .nilp), (11, vI 2), (22, vI 2), (23, vB true)], [oX true true 2 (.agg [vI 0, vI 0])], 45⟩) ?_
    refine wp_condT rfl ?_
    refine sq ?_
    refine wg [8, 9] [0] ?_
    refine wp_ret ?_
    cases h
    show fnOut _ _ _ _ = _
    kernel_rfl
  refine sz 4 25 ?_
  refine rw_wk (wk_gc (live := [1, 2, 3, 4, 40]) (keep := [2]) (st' := ⟨[(1, vI p1), (2, vI p2), (3, vI p3), (4, .ptr 2 0 0), (40, vB (decide (p3 < (-1))))], (s24_3 p0), 55⟩) (by as_aux_lemma => kernel_rfl)) ?_
  refine rbr (S := fun b14 => ⟨[(1, vI p1), (2, vI p2), (3, vI p3), (4, .ptr 2 0 0), (40, vB b14)], (s24_3 p0), 55⟩) h (fun q15 h => ?_) (fun q15 h => ?_)
  · refine sgz 8 33 (S := ⟨[(1, vI p1), (2, vI p2), (3, vI p3), (4, .ptr 2 0 0), (40, vB true), (41, .tup []), (42, .tup []), (43, .tup []), (44, .tup []), (45, .tup []), (46, .tup []), (47, .tup []), (48, vB true)], (s24_3 p0), 55⟩) ?_
    refine reg_end rfl ?_
    refine wp_condT rfl ?_
    refine wp_seq ?_
    refine wg [] [] ?_
    refine rn ?_
    refine wgc [8, 9] [] ⟨[(8, .nilp), (9, vI 2)], (s24_2 p0), 55⟩ ?_
    refine wp_ret ?_
    refine ⟨⟨(s24_7 p0 p1 p2 p3), (s24_2 p0), 45⟩, by as_aux_lemma => kernel_rfl, ?_⟩
    refine sz 5 10 ?_
    refine reg_end rfl ?_
    refine wp_seq ?_
    refine wp_seq ?_
    refine wg [8, 10, 11] [1] ?_
    refine rgN (S := ⟨[(8, .ptr 0 0 0), (10, .nilp), (11, vI 2), (22, vI 2), (23, vB true)], [oX true true 2 (.agg [vI 0, vI 0])], 45⟩) ?_
    refine wp_condT rfl ?_
    refine sq ?_
    refine wg [8, 9] [0] ?_
    refine wp_ret ?_
    cases h
    show fnOut _ _ _ _ = _
    kernel_rfl
  refine sgz 3 28 (S := ⟨[(1, vI p1), (2, vI p2), (3, vI p3), (4, .ptr 2 0 0), (40, vB false), (41, vI p3), (42, .ptr 2 0 3), (43, eL false (eL true eI) p0.Rows)], (s24_3 p0), 55⟩) ?_
  refine bind_elim h (fun a16 q17 h => ?_)
  refine idxZ (enc := (eL true eI)) (l := p0.Rows) (n := 0) (fl := false) (w := 1) (a := a16) (by as_aux_lemma => kernel_rfl) q17 ?_
  refine sz 1 30 ?_
  refine lenZ (enc := eI) (l := a16) (fl := true) (by as_aux_lemma => kernel_rfl) ?_
  refine sz 2 33 ?_
  refine reg_end rfl ?_
  refine wbr (S := fun b18 => ⟨[(1, vI p1), (2, vI p2), (3, vI p3), (4, .ptr 2 0 0), (40, vB false), (41, vI p3), (42, .ptr 2 0 3), (43, eL false (eL true eI) p0.Rows), (44, .fz [eL true eI a16]), (45, eL true eI a16)] ++ [(46, vI (a16.length : Int)), (47, vB b18), (48, vB b18)], (s24_3 p0), 55⟩) h (fun q19 h => ?_) (fun q19 h => ?_)
  · refine wp_condT rfl ?_
    refine wp_seq ?_
    refine wg [] [] ?_
    refine rn ?_
    refine wgc [8, 9] [] ⟨[(8, .nilp), (9, vI 2)], (s24_2 p0), 55⟩ ?_
    refine wp_ret ?_
    refine ⟨⟨(s24_7 p0 p1 p2 p3), (s24_2 p0), 45⟩, by as_aux_lemma => kernel_rfl, ?_⟩
    refine sz 5 10 ?_
    refine reg_end rfl ?_
    refine wp_seq ?_
    refine wp_seq ?_
    refine wg [8, 10, 11] [1] ?_
    refine rgN (S := ⟨[(8, .ptr 0 0 0), (10, .nilp), (11, vI 2), (22, vI 2), (23, vB true)], [oX true true 2 (.agg [vI 0, vI 0])], 45⟩) ?_
    refine wp_condT rfl ?_
    refine sq ?_
    refine wg [8, 9] [0] ?_
    refine wp_ret ?_
    cases h
    show fnOut _ _ _ _ = _
    kernel_rfl
  refine wp_condF rfl ?_
  refine wp_skip ?_
  refine wp_seq ?_
  refine wg [1, 2, 3, 4] [2] ?_
  refine reg_in ?_
  refine sz 5 5 ?_
  refine sl false [] [] false rfl ?_
  refine sz 2 8 ?_
  refine reg_end rfl ?_
  refine wgc [8, 9] [3] ⟨[(8, .ptr 2 0 0), (9, vI 0)], (s24_18 p0 p1 p2 p3), 55⟩ ?_
  refine wp_ret ?_
  refine ⟨⟨(s24_1 p0 p1 p2 p3) ++ [(4, .ptr 0 0 0), (8, .ptr 1 0 0), (9, vI 0), (15, .agg [vI p0.Grain, vI p0.Count, vI p0.One, eL false (eL true eI) p0.Rows]), (16, vI p1), (17, vI p2), (18, vI p3), (19, .tup [.ptr 2 0 0, vI 0])], (s24_18 p0 p1 p2 p3), 45⟩, by as_aux_lemma => kernel_rfl, ?_⟩
  refine sz 5 10 ?_
  refine reg_end rfl ?_
  refine wp_seq ?_
  refine wp_seq ?_
  refine wg [8, 10, 11] [1, 2] ?_
  refine rgN (S := ⟨[(8, .ptr 0 0 0), (10, .ptr 1 0 0), (11, vI 0), (22, vI 0), (23, vB false)], (s24_19 p0 p1 p2 p3), 45⟩) ?_
  refine wp_condF rfl ?_
  refine wp_skip ?_
  refine wp_seq ?_
  refine wp_seq ?_
  refine reg_in ?_
  refine sgz 1 1 (S := ⟨[(8, .ptr 0 0 0), (10, .ptr 1 0 0), (11, vI 0), (22, vI 0), (23, vB false), (26, .ptr 1 0 0)], (s24_19 p0 p1 p2 p3), 45⟩) ?_
  refine callZ (as0 := [.ptr 1 0 0]) (ids := [1]) (by as_aux_lemma => kernel_rfl) bodyB_54 (msnap_cons (snap_ptr rfl (msnap_cons (snap_agg (msnap_cons rfl (msnap_cons rfl (msnap_cons rfl (msnap_cons rfl (msnap_cons rfl (msnap_cons rfl (msnap_cons rfl msnap_nil (by rfl)) (by rfl)) (by rfl)) (by rfl)) (by rfl)) (by rfl)) (by rfl))) msnap_nil (by rfl)) (by rfl) (by rfl)) msnap_nil (by rfl)) (fun x20 q21 => g_lift_counter_unknown_ok (Tlift_counter.mk p0 p1 p2 p3) x20 q21) h (fun x20 q21 h => ?_)
  refine sz 1 3 ?_
  refine reg_end rfl ?_
  refine wbr (S := fun b22 => ⟨[(8, .ptr 0 0 0), (10, .ptr 1 0 0), (11, vI 0), (22, vI 0), (23, vB false), (26, .ptr 1 0 0), (27, vI x20), (28, vB b22)], (s24_19 p0 p1 p2 p3), 45⟩) h (fun q23 h => ?_) (fun q23 h => ?_)
  · refine wp_condT rfl ?_
    refine wp_seq ?_
    refine wg [8] [0] ?_
    refine rn ?_
    refine wg [8, 9] [0] ?_
    refine wp_ret ?_
    cases h
    show fnOut _ _ _ _ = _
    kernel_rfl
  refine wp_condF rfl ?_
  refine wp_skip ?_
  refine wp_seq ?_
  refine wg [8, 10] [0, 1] ?_
  refine reg_in ?_
  refine sgz 1 1 (S := ⟨[(8, .ptr 0 0 0), (10, .ptr 1 0 0), (30, .ptr 1 0 0)], (s24_19 p0 p1 p2 p3), 45⟩) ?_
  refine callZ (as0 := [.ptr 1 0 0]) (ids := [1]) (by as_aux_lemma => kernel_rfl) bodyB_44 (msnap_cons (snap_ptr rfl (msnap_cons (snap_agg (msnap_cons rfl (msnap_cons rfl (msnap_cons rfl (msnap_cons rfl (msnap_cons rfl (msnap_cons rfl (msnap_cons rfl msnap_nil (by rfl)) (by rfl)) (by rfl)) (by rfl)) (by rfl)) (by rfl)) (by rfl))) msnap_nil (by rfl)) (by rfl) (by rfl)) msnap_nil (by rfl)) (fun x24 q25 => g_lift_counter_mass_ok (Tlift_counter.mk p0 p1 p2 p3) x24 q25) h (fun x24 q25 h => ?_)
  refine sz 1 3 ?_
  refine reg_end rfl ?_
  refine wp_seq ?_
  refine sq ?_
  refine wbr (S := fun b26 => ⟨[(8, .ptr 0 0 0), (10, .ptr 1 0 0), (30, .ptr 1 0 0), (31, vI x24), (12, vI x24), (32, vI x24), (33, vB b26)], (s24_19 p0 p1 p2 p3), 45⟩) h (fun q27 h => ?_) (fun q27 h => ?_)
  · refine wp_condT rfl ?_
    refine wp_seq ?_
    refine wg [8] [0] ?_
    refine rn ?_
    refine wg [8, 9] [0] ?_
    refine wp_ret ?_
    cases h
    show fnOut _ _ _ _ = _
    kernel_rfl
  refine wp_condF rfl ?_
  refine wp_skip ?_
  refine wp_seq ?_
  refine reg_in ?_
  refine sz 3 3 ?_
  refine sl false [] [] false rfl ?_
  refine sz 1 5 ?_
  refine reg_end rfl ?_
  refine wp_seq ?_
  refine wg [8, 12, 13] [0, 2] ?_
  refine rgN (S := ⟨[(8, .ptr 0 0 0), (12, vI x24), (13, .ptr 1 0 0), (38, .ptr 1 0 5), (39, vI p2), (40, vI (IntKind.i64.wrap (p2 + 1))), (41, .ptr 1 0 5)], [oX true true 2 (.agg [vI 0, vI 0]), oX true false 7 (.agg [vI p0.Grain, vI p0.Count, vI p0.One, eL false (eL true eI) p0.Rows, vI p1, vI (IntKind.i64.wrap (p2 + 1)), vI p3])], 45⟩) ?_
  refine wp_seq ?_
  refine reg_in ?_
  refine callZ (as0 := [.ptr 1 0 0]) (ids := [1]) (by as_aux_lemma => kernel_rfl) bodyB_44 (msnap_cons (snap_ptr rfl (msnap_cons (snap_agg (msnap_cons rfl (msnap_cons rfl (msnap_cons rfl (msnap_cons rfl (msnap_cons rfl (msnap_cons rfl (msnap_cons rfl msnap_nil (by rfl)) (by rfl)) (by rfl)) (by rfl)) (by rfl)) (by rfl)) (by rfl))) msnap_nil (by rfl)) (by rfl) (by rfl)) msnap_nil (by rfl)) (fun x28 q29 => g_lift_counter_mass_ok (Tlift_counter.mk p0 p1 (IntKind.i64.wrap (p2 + 1)) p3) x28 q29) h (fun x28 q29 h => ?_)
  refine sz 1 2 ?_
  refine callZ (as0 := [vI x28, vI x24]) (ids := []) (by as_aux_lemma => kernel_rfl) bodyB_43 (msnap_cons rfl (msnap_cons rfl msnap_nil (by rfl)) (by rfl)) (fun x30 q31 => g_weigh_Ratio_ok x28 x24 x30 q31) h (fun x30 q31 h => ?_)
  refine sz 2 5 ?_
  refine reg_end rfl ?_
  refine wg [8, 9] [0] ?_
  refine wp_ret ?_
  cases h
  show fnOut _ _ _ _ = _
  kernel_rfl
end Go.Ab
