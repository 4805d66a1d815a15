/- What the functions of this program compute, as plain functions, and that the program computes them. No conditions. -/
import Derived.Test.YtapoljjoedcknaaProg
import Derived.Test.YtapoljjoedcknaaW8
import Derived.KernelRfl
import Derived.Test.YtapoljjoedcknaaW11
set_option linter.all false
namespace Go.Ab
open Go Go.Proofs
set_option linter.unusedVariables false
set_option linter.unusedSimpArgs false
set_option maxRecDepth 100000
set_option maxHeartbeats 4000000
@[reducible] noncomputable def s26_1 (p0 : Tapi_Lift) (p1 : Int) (p2 : Int) : List (Nat × AV) := [(0, .agg [vI p0.Grain, vI p0.Count, vI p0.One, eL false (eL true eI) p0.Rows]), (1, vI p1), (2, vI p2)]
@[reducible] noncomputable def s26_3 (p0 : Tapi_Lift) : List AObj := [oX true false 4 (.agg [vI p0.Grain, vI p0.Count, vI p0.One, eL false (eL true eI) p0.Rows])]
@[reducible] noncomputable def s26_4 (p0 : Tapi_Lift) : List AObj := [oX true false 4 (.agg [vI p0.Grain, vI p0.Count, vI p0.One, eL false (eL true eI) p0.Rows]), oX true false 4 (.agg [vI p0.Grain, vI p0.Count, vI p0.One, eL false (eL true eI) p0.Rows])]
@[reducible] noncomputable def s26_14 (p1 : Int) (p2 : Int) (p0 : Tapi_Lift) : List (Nat × AV) := [(1, vI p1), (2, vI p2), (3, vI (-1)), (4, .ptr 1 0 0), (36, vB false), (37, vI (-1)), (38, vB false), (39, vB false), (40, vB false), (41, vI (-1)), (42, .ptr 1 0 3), (43, eL false (eL true eI) p0.Rows)]
@[reducible] noncomputable def s26_16 (p0 : Tapi_Lift) (p1 : Int) (p2 : Int) : List AObj := [oX true false 4 (.agg [vI p0.Grain, vI p0.Count, vI p0.One, eL false (eL true eI) p0.Rows]), oX true false 7 (.agg [vI p0.Grain, vI p0.Count, vI p0.One, eL false (eL true eI) p0.Rows, vI p1, vI p2, vI (-1)])]
@[reducible] noncomputable def s26_17 (p0 : Tapi_Lift) (p1 : Int) (p2 : Int) : List AObj := [oX true false 7 (.agg [vI p0.Grain, vI p0.Count, vI p0.One, eL false (eL true eI) p0.Rows, vI p1, vI p2, vI (-1)])]
@[reducible] noncomputable def s26_18 (x18 : Int) (p0 : Tapi_Lift) (a14 : (List Int)) : List (Nat × AV) := [(8, .ptr 0 0 0), (10, vI x18), (26, vI x18), (27, vB false), (28, .ptr 0 0 0), (29, .ptr 0 0 0), (30, .ptr 0 0 0), (31, .ptr 0 0 3), (32, eL false (eL true eI) p0.Rows), (33, .fz [eL true eI a14]), (34, eL true eI a14)]
@[reducible] noncomputable def s26_20 (p0 : Tapi_Lift) (p1 : Int) (p2 : Int) (a14 : (List Int)) : List AObj := [oX true false 7 (.agg [vI p0.Grain, vI p0.Count, vI p0.One, eL false (eL true eI) p0.Rows, vI p1, vI p2, vI (-1)]), oR true 1 eI (List.replicate (Int.toNat (a14.length : Int)) (0 : Int))]
@[reducible] noncomputable def s26_27 (x18 : Int) (s22 : (Int × (List Int))) (a14 : (List Int)) : List (Nat × AV) := [(8, .ptr 0 0 0), (10, vI x18), (11, .ref 1 0 s22.2.length), (38, vI (((List.replicate (Int.toNat (a14.length : Int)) (0 : Int)).length) : Int)), (39, vI s22.1), (12, vI s22.1), (13, .ptr 2 0 0)]
@[reducible] noncomputable def s26_32 (x18 : Int) (s22 : (Int × (List Int))) (a14 : (List Int)) : List (Nat × AV) := [(8, .ptr 0 0 0), (10, vI x18), (11, .ref 1 0 s22.2.length), (38, vI (((List.replicate (Int.toNat (a14.length : Int)) (0 : Int)).length) : Int)), (39, vI s22.1)]
@[reducible] noncomputable def s26_35 (p0 : Tapi_Lift) (p1 : Int) (p2 : Int) (s22 : (Int × (List Int))) : List AObj := [oX true false 7 (.agg [vI p0.Grain, vI p0.Count, vI p0.One, eL false (eL true eI) p0.Rows, vI p1, vI p2, vI (-1)]), oR true 1 eI s22.2, oX true false 7 (.agg [vI p0.Grain, vI p0.Count, vI p0.One, eL false (eL true eI) p0.Rows, vI p1, vI p2, vI s22.1])]
@[reducible] noncomputable def s26_37 (p0 : Tapi_Lift) (p1 : Int) (p2 : Int) (s22 : (Int × (List Int))) (x25 : Int) : List AObj := [oX true false 7 (.agg [vI p0.Grain, vI p0.Count, vI p0.One, eL false (eL true eI) p0.Rows, vI p1, vI p2, vI (-1)]), oR true 1 eI (List.set s22.2 (Int.toNat s22.1) x25), oX true false 7 (.agg [vI p0.Grain, vI p0.Count, vI p0.One, eL false (eL true eI) p0.Rows, vI p1, vI p2, vI s22.1])]
theorem g_lift_Child_ok (p0 : Tapi_Lift) (p1 : Int) (p2 : Int) (x : ((List Tapi_Q) × Int)) (h : g_lift_Child p0 p1 p2 = some x) : CallOk Try.prog 26 [.agg [vI p0.Grain, vI p0.Count, vI p0.One, eL false (eL true eI) p0.Rows], vI p1, vI p2] (.ret (.tup [.ref 0 0 x.1.length, vI x.2]) [oR true 2 eTapi_Q x.1]) := by
  refine fn_ok [] Try.func26 rfl (by decide +kernel) rfl ?_
  unfold g_lift_Child at h
  refine wp_eqB (base' := 0) (st' := ⟨(s26_1 p0 p1 p2), [], 55⟩) rfl (by as_aux_lemma => kernel_rfl) ?_
  refine wp_seq ?_
  refine reg_in ?_
  refine sl false [] [] false rfl ?_
  refine sz 2 3 ?_
  refine reg_end rfl ?_
  refine wp_seq ?_
  refine reg_in ?_
  refine sgz 3 3 (S := ⟨(s26_1 p0 p1 p2) ++ [(3, .ptr 0 0 0), (6, .nils), (7, vI 0), (15, .agg [vI p0.Grain, vI p0.Count, vI p0.One, eL false (eL true eI) p0.Rows]), (16, vI p1), (17, vI p2)], (s26_3 p0), 55⟩) ?_
  refine inlR (f := 42) (fn := Try.f42) (as0 := [.agg [vI p0.Grain, vI p0.Count, vI p0.One, eL false (eL true eI) p0.Rows], vI p1, vI p2, vI (-1)]) (by as_aux_lemma => kernel_rfl) Try.func42 rfl (by decide +kernel) rfl ?_
  refine wp_eqB (base' := 1) (st' := ⟨[(0, .agg [vI p0.Grain, vI p0.Count, vI p0.One, eL false (eL true eI) p0.Rows]), (1, vI p1), (2, vI p2), (3, vI (-1))], (s26_3 p0), 55⟩) rfl (by as_aux_lemma => kernel_rfl) ?_
  refine wp_seq ?_
  refine reg_in ?_
  refine sl false [] [] false rfl ?_
  refine sz 2 3 ?_
  refine reg_end rfl ?_
  refine wp_seq ?_
  refine wp_seq ?_
  refine reg_in ?_
  refine sz 1 1 ?_
  refine callZ (as0 := [.agg [vI p0.Grain, vI p0.Count, vI p0.One, eL false (eL true eI) p0.Rows]]) (ids := []) (by as_aux_lemma => kernel_rfl) bodyB_14 (msnap_cons (snap_agg (msnap_cons rfl (msnap_cons rfl (msnap_cons rfl (msnap_cons rfl msnap_nil (by rfl)) (by rfl)) (by rfl)) (by rfl))) msnap_nil (by rfl)) (fun x1 q2 => g_lift_Check_ok p0 x1 q2) h (fun x1 q2 h => ?_)
  refine sz 1 3 ?_
  refine reg_end rfl ?_
  refine wp_seq ?_
  refine wg [1, 2, 3, 4, 10] [1] ?_
  refine rgN (S := ⟨[(1, vI p1), (2, vI p2), (3, vI (-1)), (4, .ptr 1 0 0), (10, vI x1), (13, vI x1), (14, vB (x1 != 0))], (s26_4 p0), 55⟩) ?_
  refine wbr (S := fun b3 => ⟨[(1, vI p1), (2, vI p2), (3, vI (-1)), (4, .ptr 1 0 0), (10, vI x1), (13, vI x1), (14, vB b3)], (s26_4 p0), 55⟩) h (fun q4 h => ?_) (fun q4 h => ?_)
  · refine wp_condT rfl ?_
    refine wp_seq ?_
    refine wg [10] [] ?_
    refine rn ?_
    refine wgc [8, 9] [] ⟨[(8, .nilp), (9, vI x1)], (s26_3 p0), 55⟩ ?_
    refine wp_ret ?_
    refine ⟨⟨(s26_1 p0 p1 p2) ++ [(3, .ptr 0 0 0), (6, .nils), (7, vI 0), (15, .agg [vI p0.Grain, vI p0.Count, vI p0.One, eL false (eL true eI) p0.Rows]), (16, vI p1), (17, vI p2), (18, .tup [.nilp, vI x1])], (s26_3 p0), 55⟩, by as_aux_lemma => kernel_rfl, ?_⟩
    refine sz 5 9 ?_
    refine reg_end rfl ?_
    refine wp_seq ?_
    refine wp_seq ?_
    refine wg [8, 9] [] ?_
    refine rn ?_
    refine wkn (S := fun b5 => ⟨[(8, .nilp), (9, vI x1), (21, vI x1), (22, vB b5)], [], 55⟩) q4 ?_
    refine wp_condT rfl ?_
    refine sq ?_
    refine wgc [6, 7] [] ⟨[(6, .nils), (7, vI x1)], [], 55⟩ ?_
    refine wp_wk (wk_nil 6 2 true true (st' := ⟨[(6, .ref 0 0 0), (7, vI x1)], [.row false false true true 2 []], 55⟩) (by as_aux_lemma => kernel_rfl)) ?_
    refine wp_ret ?_
    cases h
    show fnOut _ _ _ _ = _
    kernel_rfl
  refine wp_condF rfl ?_
  refine wp_skip ?_
  refine wp_seq ?_
  refine wp_seq ?_
  refine reg_in ?_
  refine sz 3 3 ?_
  refine rw_wk (wk_gc (live := [1, 2, 3, 4, 18]) (keep := [1]) (st' := ⟨[(1, vI p1), (2, vI p2), (3, vI (-1)), (4, .ptr 1 0 0), (18, vB (decide (p1 < 0)))], (s26_4 p0), 55⟩) (by as_aux_lemma => kernel_rfl)) ?_
  refine rbr (S := fun b6 => ⟨[(1, vI p1), (2, vI p2), (3, vI (-1)), (4, .ptr 1 0 0), (18, vB b6)], (s26_4 p0), 55⟩) h (fun q7 h => ?_) (fun q7 h => ?_)
  · refine sgz 30 33 (S := ⟨[(1, vI p1), (2, vI p2), (3, vI (-1)), (4, .ptr 1 0 0), (18, vB true), (19, .tup []), (20, .tup []), (21, .tup []), (22, .tup []), (23, vB true), (24, vB true), (25, .tup []), (26, .tup []), (27, vB true), (28, vB true), (29, .tup []), (30, .tup []), (31, .tup []), (32, .tup []), (33, .tup []), (34, .tup []), (35, vB true), (36, vB true), (37, .tup []), (38, .tup []), (39, vB true), (40, vB true), (41, .tup []), (42, .tup []), (43, .tup []), (44, .tup []), (45, .tup []), (46, .tup []), (47, .tup []), (48, vB true)], (s26_4 p0), 55⟩) ?_
    refine reg_end rfl ?_
    refine wp_condT rfl ?_
    refine wp_seq ?_
    refine wg [] [] ?_
    refine rn ?_
    refine wgc [8, 9] [] ⟨[(8, .nilp), (9, vI 2)], (s26_3 p0), 55⟩ ?_
    refine wp_ret ?_
    refine ⟨⟨(s26_1 p0 p1 p2) ++ [(3, .ptr 0 0 0), (6, .nils), (7, vI 0), (15, .agg [vI p0.Grain, vI p0.Count, vI p0.One, eL false (eL true eI) p0.Rows]), (16, vI p1), (17, vI p2), (18, .tup [.nilp, vI 2])], (s26_3 p0), 55⟩, by as_aux_lemma => kernel_rfl, ?_⟩
    refine sz 5 9 ?_
    refine reg_end rfl ?_
    refine wp_seq ?_
    refine wp_seq ?_
    refine wg [8, 9] [] ?_
    refine rgN (S := ⟨[(8, .nilp), (9, vI 2), (21, vI 2), (22, vB true)], [], 55⟩) ?_
    refine wp_condT rfl ?_
    refine sq ?_
    refine wgc [6, 7] [] ⟨[(6, .nils), (7, vI 2)], [], 55⟩ ?_
    refine wp_wk (wk_nil 6 2 true true (st' := ⟨[(6, .ref 0 0 0), (7, vI 2)], [.row false false true true 2 []], 55⟩) (by as_aux_lemma => kernel_rfl)) ?_
    refine wp_ret ?_
    cases h
    show fnOut _ _ _ _ = _
    kernel_rfl
  refine sz 6 9 ?_
  refine rw_wk (wk_gc (live := [1, 2, 3, 4, 24]) (keep := [1]) (st' := ⟨[(1, vI p1), (2, vI p2), (3, vI (-1)), (4, .ptr 1 0 0), (24, vB (decide (p1 > p0.Count)))], (s26_4 p0), 55⟩) (by as_aux_lemma => kernel_rfl)) ?_
  refine rbr (S := fun b8 => ⟨[(1, vI p1), (2, vI p2), (3, vI (-1)), (4, .ptr 1 0 0), (24, vB b8)], (s26_4 p0), 55⟩) h (fun q9 h => ?_) (fun q9 h => ?_)
  · refine sgz 24 33 (S := ⟨[(1, vI p1), (2, vI p2), (3, vI (-1)), (4, .ptr 1 0 0), (24, vB true), (25, .tup []), (26, .tup []), (27, vB true), (28, vB true), (29, .tup []), (30, .tup []), (31, .tup []), (32, .tup []), (33, .tup []), (34, .tup []), (35, vB true), (36, vB true), (37, .tup []), (38, .tup []), (39, vB true), (40, vB true), (41, .tup []), (42, .tup []), (43, .tup []), (44, .tup []), (45, .tup []), (46, .tup []), (47, .tup []), (48, vB true)], (s26_4 p0), 55⟩) ?_
    refine reg_end rfl ?_
    refine wp_condT rfl ?_
    refine wp_seq ?_
    refine wg [] [] ?_
    refine rn ?_
    refine wgc [8, 9] [] ⟨[(8, .nilp), (9, vI 2)], (s26_3 p0), 55⟩ ?_
    refine wp_ret ?_
    refine ⟨⟨(s26_1 p0 p1 p2) ++ [(3, .ptr 0 0 0), (6, .nils), (7, vI 0), (15, .agg [vI p0.Grain, vI p0.Count, vI p0.One, eL false (eL true eI) p0.Rows]), (16, vI p1), (17, vI p2), (18, .tup [.nilp, vI 2])], (s26_3 p0), 55⟩, by as_aux_lemma => kernel_rfl, ?_⟩
    refine sz 5 9 ?_
    refine reg_end rfl ?_
    refine wp_seq ?_
    refine wp_seq ?_
    refine wg [8, 9] [] ?_
    refine rgN (S := ⟨[(8, .nilp), (9, vI 2), (21, vI 2), (22, vB true)], [], 55⟩) ?_
    refine wp_condT rfl ?_
    refine sq ?_
    refine wgc [6, 7] [] ⟨[(6, .nils), (7, vI 2)], [], 55⟩ ?_
    refine wp_wk (wk_nil 6 2 true true (st' := ⟨[(6, .ref 0 0 0), (7, vI 2)], [.row false false true true 2 []], 55⟩) (by as_aux_lemma => kernel_rfl)) ?_
    refine wp_ret ?_
    cases h
    show fnOut _ _ _ _ = _
    kernel_rfl
  refine sz 4 13 ?_
  refine rw_wk (wk_gc (live := [1, 2, 3, 4, 28]) (keep := [1]) (st' := ⟨[(1, vI p1), (2, vI p2), (3, vI (-1)), (4, .ptr 1 0 0), (28, vB (decide (p2 < 0)))], (s26_4 p0), 55⟩) (by as_aux_lemma => kernel_rfl)) ?_
  refine rbr (S := fun b10 => ⟨[(1, vI p1), (2, vI p2), (3, vI (-1)), (4, .ptr 1 0 0), (28, vB b10)], (s26_4 p0), 55⟩) h (fun q11 h => ?_) (fun q11 h => ?_)
  · refine sgz 20 33 (S := ⟨[(1, vI p1), (2, vI p2), (3, vI (-1)), (4, .ptr 1 0 0), (28, vB true), (29, .tup []), (30, .tup []), (31, .tup []), (32, .tup []), (33, .tup []), (34, .tup []), (35, vB true), (36, vB true), (37, .tup []), (38, .tup []), (39, vB true), (40, vB true), (41, .tup []), (42, .tup []), (43, .tup []), (44, .tup []), (45, .tup []), (46, .tup []), (47, .tup []), (48, vB true)], (s26_4 p0), 55⟩) ?_
    refine reg_end rfl ?_
    refine wp_condT rfl ?_
    refine wp_seq ?_
    refine wg [] [] ?_
    refine rn ?_
    refine wgc [8, 9] [] ⟨[(8, .nilp), (9, vI 2)], (s26_3 p0), 55⟩ ?_
    refine wp_ret ?_
    refine ⟨⟨(s26_1 p0 p1 p2) ++ [(3, .ptr 0 0 0), (6, .nils), (7, vI 0), (15, .agg [vI p0.Grain, vI p0.Count, vI p0.One, eL false (eL true eI) p0.Rows]), (16, vI p1), (17, vI p2), (18, .tup [.nilp, vI 2])], (s26_3 p0), 55⟩, by as_aux_lemma => kernel_rfl, ?_⟩
    refine sz 5 9 ?_
    refine reg_end rfl ?_
    refine wp_seq ?_
    refine wp_seq ?_
    refine wg [8, 9] [] ?_
    refine rgN (S := ⟨[(8, .nilp), (9, vI 2), (21, vI 2), (22, vB true)], [], 55⟩) ?_
    refine wp_condT rfl ?_
    refine sq ?_
    refine wgc [6, 7] [] ⟨[(6, .nils), (7, vI 2)], [], 55⟩ ?_
    refine wp_wk (wk_nil 6 2 true true (st' := ⟨[(6, .ref 0 0 0), (7, vI 2)], [.row false false true true 2 []], 55⟩) (by as_aux_lemma => kernel_rfl)) ?_
    refine wp_ret ?_
    cases h
    show fnOut _ _ _ _ = _
    kernel_rfl
  refine sz 8 21 ?_
  refine rw_wk (wk_gc (live := [1, 2, 3, 4, 36]) (keep := [1]) (st' := ⟨[(1, vI p1), (2, vI p2), (3, vI (-1)), (4, .ptr 1 0 0), (36, vB (decide (p2 > (IntKind.i64.wrap (p0.Count - p1)))))], (s26_4 p0), 55⟩) (by as_aux_lemma => kernel_rfl)) ?_
  refine rbr (S := fun b12 => ⟨[(1, vI p1), (2, vI p2), (3, vI (-1)), (4, .ptr 1 0 0), (36, vB b12)], (s26_4 p0), 55⟩) h (fun q13 h => ?_) (fun q13 h => ?_)
  · refine sgz 12 33 (S := ⟨[(1, vI p1), (2, vI p2), (3, vI (-1)), (4, .ptr 1 0 0), (36, vB true), (37, .tup []), (38, .tup []), (39, vB true), (40, vB true), (41, .tup []), (42, .tup []), (43, .tup []), (44, .tup []), (45, .tup []), (46, .tup []), (47, .tup []), (48, vB true)], (s26_4 p0), 55⟩) ?_
    refine reg_end rfl ?_
    refine wp_condT rfl ?_
    refine wp_seq ?_
    refine wg [] [] ?_
    refine rn ?_
    refine wgc [8, 9] [] ⟨[(8, .nilp), (9, vI 2)], (s26_3 p0), 55⟩ ?_
    refine wp_ret ?_
    refine ⟨⟨(s26_1 p0 p1 p2) ++ [(3, .ptr 0 0 0), (6, .nils), (7, vI 0), (15, .agg [vI p0.Grain, vI p0.Count, vI p0.One, eL false (eL true eI) p0.Rows]), (16, vI p1), (17, vI p2), (18, .tup [.nilp, vI 2])], (s26_3 p0), 55⟩, by as_aux_lemma => kernel_rfl, ?_⟩
    refine sz 5 9 ?_
    refine reg_end rfl ?_
    refine wp_seq ?_
    refine wp_seq ?_
    refine wg [8, 9] [] ?_
    refine rgN (S := ⟨[(8, .nilp), (9, vI 2), (21, vI 2), (22, vB true)], [], 55⟩) ?_
    refine wp_condT rfl ?_
    refine sq ?_
    refine wgc [6, 7] [] ⟨[(6, .nils), (7, vI 2)], [], 55⟩ ?_
    refine wp_wk (wk_nil 6 2 true true (st' := ⟨[(6, .ref 0 0 0), (7, vI 2)], [.row false false true true 2 []], 55⟩) (by as_aux_lemma => kernel_rfl)) ?_
    refine wp_ret ?_
    cases h
    show fnOut _ _ _ _ = _
    kernel_rfl
  refine sgz 7 28 (S := ⟨(s26_14 p1 p2 p0), (s26_4 p0), 55⟩) ?_
  refine bind_elim h (fun a14 q15 h => ?_)
  refine idxZ (enc := (eL true eI)) (l := p0.Rows) (n := 0) (fl := false) (w := 1) (a := a14) (by as_aux_lemma => kernel_rfl) q15 ?_
  refine sz 1 30 ?_
  refine lenZ (enc := eI) (l := a14) (fl := true) (by as_aux_lemma => kernel_rfl) ?_
  refine sz 2 33 ?_
  refine reg_end rfl ?_
  refine wbr (S := fun b16 => ⟨(s26_14 p1 p2 p0) ++ [(44, .fz [eL true eI a14]), (45, eL true eI a14), (46, vI (a14.length : Int)), (47, vB b16), (48, vB b16)], (s26_4 p0), 55⟩) h (fun q17 h => ?_) (fun q17 h => ?_)
  · refine wp_condT rfl ?_
    refine wp_seq ?_
    refine wg [] [] ?_
    refine rn ?_
    refine wgc [8, 9] [] ⟨[(8, .nilp), (9, vI 2)], (s26_3 p0), 55⟩ ?_
    refine wp_ret ?_
    refine ⟨⟨(s26_1 p0 p1 p2) ++ [(3, .ptr 0 0 0), (6, .nils), (7, vI 0), (15, .agg [vI p0.Grain, vI p0.Count, vI p0.One, eL false (eL true eI) p0.Rows]), (16, vI p1), (17, vI p2), (18, .tup [.nilp, vI 2])], (s26_3 p0), 55⟩, by as_aux_lemma => kernel_rfl, ?_⟩
    refine sz 5 9 ?_
    refine reg_end rfl ?_
    refine wp_seq ?_
    refine wp_seq ?_
    refine wg [8, 9] [] ?_
    refine rgN (S := ⟨[(8, .nilp), (9, vI 2), (21, vI 2), (22, vB true)], [], 55⟩) ?_
    refine wp_condT rfl ?_
    refine sq ?_
    refine wgc [6, 7] [] ⟨[(6, .nils), (7, vI 2)], [], 55⟩ ?_
    refine wp_wk (wk_nil 6 2 true true (st' := ⟨[(6, .ref 0 0 0), (7, vI 2)], [.row false false true true 2 []], 55⟩) (by as_aux_lemma => kernel_rfl)) ?_
    refine wp_ret ?_
    cases h
    show fnOut _ _ _ _ = _
    kernel_rfl
  refine wp_condF rfl ?_
  refine wp_skip ?_
  refine wp_seq ?_
  refine wg [1, 2, 3, 4] [1] ?_
  refine reg_in ?_
  refine sz 5 5 ?_
  refine sl false [] [] false rfl ?_
  refine sz 2 8 ?_
  refine reg_end rfl ?_
  refine wgc [8, 9] [2] ⟨[(8, .ptr 1 0 0), (9, vI 0)], (s26_16 p0 p1 p2), 55⟩ ?_
  refine wp_ret ?_
  refine ⟨⟨(s26_1 p0 p1 p2) ++ [(3, .ptr 0 0 0), (6, .nils), (7, vI 0), (15, .agg [vI p0.Grain, vI p0.Count, vI p0.One, eL false (eL true eI) p0.Rows]), (16, vI p1), (17, vI p2), (18, .tup [.ptr 1 0 0, vI 0])], (s26_16 p0 p1 p2), 55⟩, by as_aux_lemma => kernel_rfl, ?_⟩
  refine sz 5 9 ?_
  refine reg_end rfl ?_
  refine wp_seq ?_
  refine wp_seq ?_
  refine wg [8, 9] [1] ?_
  refine rgN (S := ⟨[(8, .ptr 0 0 0), (9, vI 0), (21, vI 0), (22, vB false)], (s26_17 p0 p1 p2), 55⟩) ?_
  refine wp_condF rfl ?_
  refine wp_skip ?_
  refine wp_seq ?_
  refine reg_in ?_
  refine sgz 1 1 (S := ⟨[(8, .ptr 0 0 0), (9, vI 0), (21, vI 0), (22, vB false), (24, .ptr 0 0 0)], (s26_17 p0 p1 p2), 55⟩) ?_
  refine callZ (as0 := [.ptr 0 0 0]) (ids := [0]) (by as_aux_lemma => kernel_rfl) bodyB_44 (msnap_cons (snap_ptr rfl (msnap_cons (snap_agg (msnap_cons rfl (msnap_cons rfl (msnap_cons rfl (msnap_cons rfl (msnap_cons rfl (msnap_cons rfl (msnap_cons rfl msnap_nil (by rfl)) (by rfl)) (by rfl)) (by rfl)) (by rfl)) (by rfl)) (by rfl))) msnap_nil (by rfl)) (by rfl) (by rfl)) msnap_nil (by rfl)) (fun x18 q19 => g_lift_counter_mass_ok (Tlift_counter.mk p0 p1 p2 (-1)) x18 q19) h (fun x18 q19 h => ?_)
  refine sz 1 3 ?_
  refine reg_end rfl ?_
  refine wp_seq ?_
  refine wp_seq ?_
  refine wg [8, 10] [0] ?_
  refine rn ?_
  refine wbr (S := fun b20 => ⟨[(8, .ptr 0 0 0), (10, vI x18), (26, vI x18), (27, vB b20)], (s26_17 p0 p1 p2), 55⟩) h (fun q21 h => ?_) (fun q21 h => ?_)
  · refine wp_condT rfl ?_
    refine sq ?_
    refine wgc [6, 7] [] ⟨[(6, .nils), (7, vI 7)], [], 55⟩ ?_
    refine wp_wk (wk_nil 6 2 true true (st' := ⟨[(6, .ref 0 0 0), (7, vI 7)], [.row false false true true 2 []], 55⟩) (by as_aux_lemma => kernel_rfl)) ?_
    refine wp_ret ?_
    cases h
    show fnOut _ _ _ _ = _
    kernel_rfl
  refine wp_condF rfl ?_
  refine wp_skip ?_
  refine wp_seq ?_
  refine reg_in ?_
  refine sz 5 5 ?_
  refine idxZ (enc := (eL true eI)) (l := p0.Rows) (n := 0) (fl := false) (w := 1) (a := a14) (by as_aux_lemma => kernel_rfl) q15 ?_
  refine sz 1 7 ?_
  refine lenL (enc := eI) (l := a14) (fl := true) (S := ⟨(s26_18 x18 p0 a14) ++ [(35, vI (a14.length : Int))], (s26_17 p0 p1 p2), 55⟩) (by as_aux_lemma => kernel_rfl) (by as_aux_lemma => kernel_rfl) ?_
  refine mkL (enc := eI) (z := (0 : Int)) (z0 := vI 0) (n := (a14.length : Int)) (m := (a14.length : Int)) (w := 1) (bytes := 8) (S := ⟨(s26_18 x18 p0 a14) ++ [(35, vI (a14.length : Int)), (36, .ref 1 0 ((List.replicate (Int.toNat (a14.length : Int)) (0 : Int)).length))], (s26_20 p0 p1 p2 a14), 55⟩) [] true (by as_aux_lemma => kernel_rfl) rfl (by as_aux_lemma => kernel_rfl) (by as_aux_lemma => kernel_rfl) h (fun h => ?_)
  refine sz 1 10 ?_
  refine reg_end rfl ?_
  refine wp_seq ?_
  refine wp_seq ?_
  refine wg [8, 10, 11] [0, 1] ?_
  refine rgN (S := ⟨[(8, .ptr 0 0 0), (10, vI x18), (11, .ref 1 0 ((List.replicate (Int.toNat (a14.length : Int)) (0 : Int)).length))] ++ [(37, .ref 1 0 ((List.replicate (Int.toNat (a14.length : Int)) (0 : Int)).length)), (38, vI (((List.replicate (Int.toNat (a14.length : Int)) (0 : Int)).length) : Int)), (39, vI 0)], (s26_20 p0 p1 p2 a14), 55⟩) ?_
  refine wp_block ?_
  refine wp_while (σ := (Int × (List Int))) (ρ := (List Int)) (n := fuel) (body := g_lift_Child_b0 a14 p0 p1 p2) (I := fun s22 => ⟨(s26_32 x18 s22 a14), [oX true false 7 (.agg [vI p0.Grain, vI p0.Count, vI p0.One, eL false (eL true eI) p0.Rows, vI p1, vI p2, vI (-1)]), oR true 1 eI s22.2], 55⟩) (Ex := fun v out => out = .go (.exit 0) ⟨[(10, vI x18), (11, .ref 0 0 v.length)], [oR true 1 eI v], 55⟩) (0, (List.replicate (Int.toNat (a14.length : Int)) (0 : Int))) (wk_gc (live := [8, 10, 11, 38, 39]) (keep := [0, 1]) (st' := ⟨[(8, .ptr 0 0 0), (10, vI x18), (11, .ref 1 0 ((List.replicate (Int.toNat (a14.length : Int)) (0 : Int)).length))] ++ [(38, vI (((List.replicate (Int.toNat (a14.length : Int)) (0 : Int)).length) : Int)), (39, vI 0)], (s26_20 p0 p1 p2 a14), 55⟩) (by as_aux_lemma => kernel_rfl)) h ?_ ?_
  · intro s22 o h
    unfold g_lift_Child_b0 at h
    refine sq ?_
    refine wp_seq ?_
    refine wbr (S := fun b23 => ⟨(s26_32 x18 s22 a14) ++ [(40, vB b23)], [oX true false 7 (.agg [vI p0.Grain, vI p0.Count, vI p0.One, eL false (eL true eI) p0.Rows, vI p1, vI p2, vI (-1)]), oR true 1 eI s22.2], 55⟩) h (fun q24 h => ?_) (fun q24 h => ?_)
    · refine wp_condT rfl ?_
      refine wp_skip ?_
      refine wp_seq ?_
      refine wp_block ?_
      refine sq ?_
      refine wp_seq ?_
      refine reg_in ?_
      refine sz 3 3 ?_
      refine sl false [] [] false rfl ?_
      refine sz 1 5 ?_
      refine reg_end rfl ?_
      refine wp_seq ?_
      refine wg [8, 10, 11, 38, 39, 12, 13] [0, 1, 2] ?_
      refine rn ?_
      refine reg_in ?_
      refine sgz 2 2 (S := ⟨(s26_27 x18 s22 a14) ++ [(45, vI s22.1), (46, .ptr 2 0 6), (47, .ref 1 0 s22.2.length), (48, vI s22.1)], (s26_35 p0 p1 p2 s22), 55⟩) ?_
      refine callR (as0 := [.ptr 2 0 0]) (ids := [2]) (S := fun x25 => ⟨(s26_27 x18 s22 a14) ++ [(45, vI s22.1), (46, .ptr 2 0 6), (47, .ref 1 0 s22.2.length), (48, vI s22.1), (49, vI x25)], (s26_35 p0 p1 p2 s22), 55⟩) (by as_aux_lemma => kernel_rfl) bodyB_44 (msnap_cons (snap_ptr rfl (msnap_cons (snap_agg (msnap_cons rfl (msnap_cons rfl (msnap_cons rfl (msnap_cons rfl (msnap_cons rfl (msnap_cons rfl (msnap_cons rfl msnap_nil (by rfl)) (by rfl)) (by rfl)) (by rfl)) (by rfl)) (by rfl)) (by rfl))) msnap_nil (by rfl)) (by rfl) (by rfl)) msnap_nil (by rfl)) (fun x25 q26 => g_lift_counter_mass_ok (Tlift_counter.mk p0 p1 p2 s22.1) x25 q26) (fun _ => by as_aux_lemma => kernel_rfl) h (fun x25 q26 h => ?_)
      refine bind_elim h (fun a27 q28 h => ?_)
      refine idxR' (enc := eI) (l := s22.2) (n := s22.1) (w := 1) (ob := 1) (a := a27) (S := ⟨(s26_27 x18 s22 a14) ++ [(45, vI s22.1), (46, .ptr 2 0 6), (47, .ref 1 0 s22.2.length), (48, vI s22.1), (49, vI x25), (50, .ptr 1 (Int.toNat s22.1) 0)], (s26_35 p0 p1 p2 s22), 55⟩) (by as_aux_lemma => kernel_rfl) rfl (by as_aux_lemma => kernel_rfl) q28 ?_
      refine storeR (enc := eI) (l := s22.2) (n := s22.1) (ob := 1) (c := 0) (a := a27) (a' := x25) (v := vI x25) (S := ⟨(s26_27 x18 s22 a14) ++ [(45, vI s22.1), (46, .ptr 2 0 6), (47, .ref 1 0 s22.2.length), (48, vI s22.1), (49, vI x25), (50, .ptr 1 (Int.toNat s22.1) 0)], (s26_37 p0 p1 p2 s22 x25), 55⟩) false (by as_aux_lemma => kernel_rfl) rfl q28 (by as_aux_lemma => kernel_rfl) rfl (by as_aux_lemma => kernel_rfl) (by as_aux_lemma => kernel_rfl) (by as_aux_lemma => kernel_rfl) ?_
      refine rw_knN (n := s22.2.length) (m := (List.set s22.2 (Int.toNat s22.1) x25).length) (S := fun n29 => ⟨[(8, .ptr 0 0 0), (10, vI x18), (11, .ref 1 0 n29), (38, vI (((List.replicate (Int.toNat (a14.length : Int)) (0 : Int)).length) : Int)), (39, vI s22.1), (12, vI s22.1), (13, .ptr 2 0 0), (45, vI s22.1), (46, .ptr 2 0 6), (47, .ref 1 0 n29), (48, vI s22.1), (49, vI x25), (50, .ptr 1 (Int.toNat s22.1) 0)], (s26_37 p0 p1 p2 s22 x25), 55⟩) (by simp only [List.length_set]) ?_
      refine reg_end rfl ?_
      refine wg [8, 10, 11, 38, 39] [0, 1] ?_
      refine rgN (S := ⟨[(8, .ptr 0 0 0), (10, vI x18), (11, .ref 1 0 ((List.set s22.2 (Int.toNat s22.1) x25).length)), (38, vI (((List.replicate (Int.toNat (a14.length : Int)) (0 : Int)).length) : Int)), (39, vI (IntKind.i64.wrap (s22.1 + 1)))] ++ [(51, vI (IntKind.i64.wrap (s22.1 + 1)))], [oX true false 7 (.agg [vI p0.Grain, vI p0.Count, vI p0.One, eL false (eL true eI) p0.Rows, vI p1, vI p2, vI (-1)]), oR true 1 eI (List.set s22.2 (Int.toNat s22.1) x25)], 55⟩) ?_
      cases h
      exact ⟨_, rfl, (wk_gc (live := [8, 10, 11, 38, 39]) (keep := [0, 1]) (st' := ⟨[(8, .ptr 0 0 0), (10, vI x18), (11, .ref 1 0 ((List.set s22.2 (Int.toNat s22.1) x25).length)), (38, vI (((List.replicate (Int.toNat (a14.length : Int)) (0 : Int)).length) : Int)), (39, vI (IntKind.i64.wrap (s22.1 + 1)))], [oX true false 7 (.agg [vI p0.Grain, vI p0.Count, vI p0.One, eL false (eL true eI) p0.Rows, vI p1, vI p2, vI (-1)]), oR true 1 eI (List.set s22.2 (Int.toNat s22.1) x25)], 55⟩) (by as_aux_lemma => kernel_rfl))⟩
    refine wp_condF rfl ?_
    refine wgc [10, 11] [1] ⟨[(10, vI x18), (11, .ref 0 0 s22.2.length)], [oR true 1 eI s22.2], 55⟩ ?_
    refine wp_exit ?_
    cases h
    exact ⟨rfl, rfl⟩
  intro x31 h out hx
  subst hx
  refine wp_seq ?_
  refine reg_in ?_
  refine sgz 2 2 (S := ⟨[(10, vI x18), (11, .ref 0 0 x31.length), (52, vI x18), (53, .ref 0 0 x31.length)], [oR true 1 eI x31], 55⟩) ?_
  refine callZ (as0 := [vI x18, .ref 0 0 x31.length]) (ids := [0]) (by as_aux_lemma => kernel_rfl) bodyB_52 (msnap_cons rfl (msnap_cons (snap_full rfl) msnap_nil (by rfl)) (by rfl)) (fun x32 q33 => g_lift_divided_ok x18 x31 x32 q33) h (fun x32 q33 h => ?_)
  refine sz 2 5 ?_
  refine reg_end rfl ?_
  refine wg [6, 7] [1] ?_
  refine wp_ret ?_
  cases h
  show fnOut _ _ _ _ = _
  kernel_rfl
theorem g_ref01_digits_ok (p0 : Int) (x : (List Int)) (h : g_ref01_digits p0 = some x) : CallOk Try.prog 58 [vI p0] (.ret (.ref 0 0 x.length) [oR true 1 eI x]) := by
  refine fn_ok [] Try.func58 rfl (by decide +kernel) rfl ?_
  unfold g_ref01_digits at h
  refine wp_eqB (base' := 0) (st' := ⟨[(0, vI p0)], [], 19⟩) rfl (by kernel_rfl) ?_
  refine sq ?_
  refine sqN (S := ⟨[(0, vI p0), (2, .nils), (3, .nils)], [], 19⟩) ?_
  refine wp_seq ?_
  refine wp_block ?_
  refine wp_while (σ := (Int × (List Int))) (ρ := (List Int)) (n := fuel) (body := g_ref01_digits_b0) (I := fun s1 => ⟨[(0, vI s1.1), (3, .ref 0 0 s1.2.length)], [oR true 1 eI s1.2], 19⟩) (Ex := fun v out => out = .go (.exit 0) ⟨[(3, .ref 0 0 v.length)], [oR true 1 eI v], 19⟩) (p0, ([] : (List Int))) (wk_trans (wk_gc (live := [0, 3]) (keep := []) (st' := ⟨[(0, vI p0), (3, .nils)], [], 19⟩) (by kernel_rfl)) (wk_trans (wk_nil 3 1 true true (st' := ⟨[(0, vI p0), (3, .ref 0 0 0)], [.row false false true true 1 []], 19⟩) (by kernel_rfl)) (wk_gc (live := [0, 3]) (keep := [0]) (st' := ⟨[(0, vI p0), (3, .ref 0 0 (([] : (List Int)).length))], [oR true 1 eI ([] : (List Int))], 19⟩) (by kernel_rfl)))) h ?_ ?_
  · intro s1 o h
    unfold g_ref01_digits_b0 at h
    refine wp_seq ?_
    refine sq ?_
    refine wbr (S := fun b2 => ⟨[(0, vI s1.1), (3, .ref 0 0 s1.2.length), (5, vI s1.1), (6, vB b2)], [oR true 1 eI s1.2], 19⟩) h (fun q3 h => ?_) (fun q3 h => ?_)
    · refine wp_condT rfl ?_
      refine wp_skip ?_
      refine wp_block ?_
      refine sq ?_
      refine wp_seq ?_
      refine reg_in ?_
      refine sz 5 5 ?_
      refine sgL false [] [] true (S := ⟨[(0, vI s1.1), (3, .ref 0 0 s1.2.length), (5, vI s1.1), (6, vB true), (7, vI s1.1), (8, vI (Int.tmod s1.1 10000)), (4, vI (Int.tmod s1.1 10000)), (9, .ref 0 0 s1.2.length), (10, vI (Int.tmod s1.1 10000)), (11, vI (Int.tmod s1.1 10000)), (12, vI (IntKind.i64.wrap (0 - (Int.tmod s1.1 10000)))), (13, vI (if (IntKind.i64.wrap (0 - (Int.tmod s1.1 10000))) > (Int.tmod s1.1 10000) then (IntKind.i64.wrap (0 - (Int.tmod s1.1 10000))) else (Int.tmod s1.1 10000)))] ++ [(14, .ref 1 0 1)], [oR true 1 eI s1.2, .row false false true true 1 [vI (if (IntKind.i64.wrap (0 - (Int.tmod s1.1 10000))) > (Int.tmod s1.1 10000) then (IntKind.i64.wrap (0 - (Int.tmod s1.1 10000))) else (Int.tmod s1.1 10000))]], 19⟩) (by kernel_rfl) ?_
      refine appR (enc := eI) (l := s1.2) (m := ([(if (IntKind.i64.wrap (0 - (Int.tmod s1.1 10000))) > (Int.tmod s1.1 10000) then (IntKind.i64.wrap (0 - (Int.tmod s1.1 10000))) else (Int.tmod s1.1 10000))] : (List Int))) (w := 1) (bytes := 8) (ob := 0) (nr := true) (fl := true) (nr' := true) (fl' := true) (b := .ref 1 0 1) (rds := [1]) (S := ⟨[(0, vI s1.1), (3, .ref 0 0 s1.2.length), (5, vI s1.1), (6, vB true), (7, vI s1.1), (8, vI (Int.tmod s1.1 10000)), (4, vI (Int.tmod s1.1 10000)), (9, .ref 0 0 s1.2.length), (10, vI (Int.tmod s1.1 10000)), (11, vI (Int.tmod s1.1 10000)), (12, vI (IntKind.i64.wrap (0 - (Int.tmod s1.1 10000)))), (13, vI (if (IntKind.i64.wrap (0 - (Int.tmod s1.1 10000))) > (Int.tmod s1.1 10000) then (IntKind.i64.wrap (0 - (Int.tmod s1.1 10000))) else (Int.tmod s1.1 10000)))] ++ [(14, .ref 1 0 1), (15, .ref 2 0 ((s1.2 ++ ([(if (IntKind.i64.wrap (0 - (Int.tmod s1.1 10000))) > (Int.tmod s1.1 10000) then (IntKind.i64.wrap (0 - (Int.tmod s1.1 10000))) else (Int.tmod s1.1 10000))] : (List Int))).length))], [.dead, .row false false true true 1 [vI (if (IntKind.i64.wrap (0 - (Int.tmod s1.1 10000))) > (Int.tmod s1.1 10000) then (IntKind.i64.wrap (0 - (Int.tmod s1.1 10000))) else (Int.tmod s1.1 10000))], oR true 1 eI (s1.2 ++ ([(if (IntKind.i64.wrap (0 - (Int.tmod s1.1 10000))) > (Int.tmod s1.1 10000) then (IntKind.i64.wrap (0 - (Int.tmod s1.1 10000))) else (Int.tmod s1.1 10000))] : (List Int)))], 19⟩) false (by kernel_rfl) rfl (by kernel_rfl) rfl (by kernel_rfl) (by kernel_rfl) h (fun h => ?_)
      refine sz 1 8 ?_
      refine reg_end rfl ?_
      refine wg [0, 3] [2] ?_
      refine rgN (S := ⟨[(0, vI (IntKind.i64.wrap (Int.tdiv s1.1 10000))), (3, .ref 0 0 ((s1.2 ++ ([(if (IntKind.i64.wrap (0 - (Int.tmod s1.1 10000))) > (Int.tmod s1.1 10000) then (IntKind.i64.wrap (0 - (Int.tmod s1.1 10000))) else (Int.tmod s1.1 10000))] : (List Int))).length))] ++ [(16, vI s1.1), (17, vI (IntKind.i64.wrap (Int.tdiv s1.1 10000)))], [oR true 1 eI (s1.2 ++ ([(if (IntKind.i64.wrap (0 - (Int.tmod s1.1 10000))) > (Int.tmod s1.1 10000) then (IntKind.i64.wrap (0 - (Int.tmod s1.1 10000))) else (Int.tmod s1.1 10000))] : (List Int)))], 19⟩) ?_
      cases h
      exact ⟨_, rfl, (wk_gc (live := [0, 3]) (keep := [0]) (st' := ⟨[(0, vI (IntKind.i64.wrap (Int.tdiv s1.1 10000))), (3, .ref 0 0 ((s1.2 ++ ([(if (IntKind.i64.wrap (0 - (Int.tmod s1.1 10000))) > (Int.tmod s1.1 10000) then (IntKind.i64.wrap (0 - (Int.tmod s1.1 10000))) else (Int.tmod s1.1 10000))] : (List Int))).length))], [oR true 1 eI (s1.2 ++ ([(if (IntKind.i64.wrap (0 - (Int.tmod s1.1 10000))) > (Int.tmod s1.1 10000) then (IntKind.i64.wrap (0 - (Int.tmod s1.1 10000))) else (Int.tmod s1.1 10000))] : (List Int)))], 19⟩) (by kernel_rfl))⟩
    refine wp_condF rfl ?_
    refine wgc [3] [0] ⟨[(3, .ref 0 0 s1.2.length)], [oR true 1 eI s1.2], 19⟩ ?_
    refine wp_exit ?_
    cases h
    exact ⟨rfl, rfl⟩
  intro x5 h out hx
  subst hx
  refine sq ?_
  refine wg [2] [0] ?_
  refine wp_ret ?_
  cases h
  show fnOut _ _ _ _ = _
  kernel_rfl
theorem g_ref01_compare_ok (p0 : (List Int)) (p1 : (List Int)) (x : Int) (h : g_ref01_compare p0 p1 = some x) : CallOk Try.prog 56 [eL true eI p0, eL true eI p1] (.ret (vI x) []) := by
  refine fn_ok [] Try.func56 rfl (by decide +kernel) rfl ?_
  unfold g_ref01_compare at h
  refine wp_eqB (base' := 0) (st' := ⟨[(0, eL true eI p0), (1, eL true eI p1)], [], 41⟩) rfl (by kernel_rfl) ?_
  refine sq ?_
  refine wp_seq ?_
  refine wp_seq ?_
  refine reg_in ?_
  refine sz 1 1 ?_
  refine lenZ (enc := eI) (l := p0) (fl := true) (by kernel_rfl) ?_
  refine sz 1 3 ?_
  refine lenZ (enc := eI) (l := p1) (fl := true) (by kernel_rfl) ?_
  refine sz 1 5 ?_
  refine reg_end rfl ?_
  refine wbr (S := fun b1 => ⟨[(0, eL true eI p0), (1, eL true eI p1), (4, vI 0), (6, eL true eI p0), (7, vI (p0.length : Int)), (8, eL true eI p1), (9, vI (p1.length : Int)), (10, vB b1)], [], 41⟩) h (fun q2 h => ?_) (fun q2 h => ?_)
  · refine wp_condT rfl ?_
    refine wp_seq ?_
    refine wp_seq ?_
    refine wg [0, 1] [] ?_
    refine reg_in ?_
    refine sz 1 1 ?_
    refine lenZ (enc := eI) (l := p0) (fl := true) (by kernel_rfl) ?_
    refine sz 1 3 ?_
    refine lenZ (enc := eI) (l := p1) (fl := true) (by kernel_rfl) ?_
    refine sz 1 5 ?_
    refine reg_end rfl ?_
    refine wbr (S := fun b3 => ⟨[(0, eL true eI p0), (1, eL true eI p1), (11, eL true eI p0), (12, vI (p0.length : Int)), (13, eL true eI p1), (14, vI (p1.length : Int)), (15, vB b3)], [], 41⟩) h (fun q4 h => ?_) (fun q4 h => ?_)
    · refine wp_condT rfl ?_
      refine wp_seq ?_
      refine wg [] [] ?_
      refine rn ?_
      refine wg [4] [] ?_
      refine wp_ret ?_
      cases h
      show fnOut _ _ _ _ = _
      kernel_rfl
    refine wp_condF rfl ?_
    refine wp_skip ?_
    refine wp_seq ?_
    refine wg [] [] ?_
    refine rn ?_
    refine wg [4] [] ?_
    refine wp_ret ?_
    cases h
    show fnOut _ _ _ _ = _
    kernel_rfl
  refine wp_condF rfl ?_
  refine wp_skip ?_
  refine wp_seq ?_
  refine wp_seq ?_
  refine wg [0, 1] [] ?_
  refine reg_in ?_
  refine sz 1 1 ?_
  refine lenZ (enc := eI) (l := p0) (fl := true) (by kernel_rfl) ?_
  refine sgz 2 4 (S := ⟨[(0, eL true eI p0), (1, eL true eI p1), (16, eL true eI p0), (17, vI (p0.length : Int)), (18, vI (IntKind.i64.wrap ((p0.length : Int) - 1))), (5, vI (IntKind.i64.wrap ((p0.length : Int) - 1)))], [], 41⟩) ?_
  refine reg_end rfl ?_
  refine wp_block ?_
  refine wp_while (σ := Int) (ρ := (Int ⊕ Unit)) (n := fuel) (body := g_ref01_compare_b0 p0 p1) (I := fun s5 => ⟨[(0, eL true eI p0), (1, eL true eI p1), (5, vI s5)], [], 41⟩) (Ex := fun x out => out = match x with | .inl v => .go (.ret) ⟨[(4, vI v)], [], 41⟩ | .inr v => .go (.exit 0) ⟨[], [], 41⟩) (IntKind.i64.wrap ((p0.length : Int) - 1)) (wk_gc (live := [0, 1, 5]) (keep := []) (st' := ⟨[(0, eL true eI p0), (1, eL true eI p1), (5, vI (IntKind.i64.wrap ((p0.length : Int) - 1)))], [], 41⟩) (by kernel_rfl)) h ?_ ?_
  · intro s5 o h
    unfold g_ref01_compare_b0 at h
    refine wp_seq ?_
    refine sq ?_
    refine wbr (S := fun b6 => ⟨[(0, eL true eI p0), (1, eL true eI p1), (5, vI s5), (19, vI s5), (20, vB b6)], [], 41⟩) h (fun q7 h => ?_) (fun q7 h => ?_)
    · refine wp_condT rfl ?_
      refine wp_skip ?_
      refine wp_seq ?_
      refine wp_block ?_
      refine wp_seq ?_
      refine rga hfol ?_
      refine sgy 2 2 (S := ⟨[(0, eL true eI p0), (1, eL true eI p1), (5, vI s5), (19, vI s5), (20, vB true), (23, eL true eI p0), (24, vI s5)], [], 41⟩) ?_
      refine bind_elim h (fun a8 q9 h => ?_)
      refine idxZ (enc := eI) (l := p0) (n := s5) (fl := true) (w := 1) (a := a8) (by kernel_rfl) q9 ?_
      refine sgy 3 6 (S := ⟨[(0, eL true eI p0), (1, eL true eI p1), (5, vI s5), (19, vI s5), (20, vB true), (23, eL true eI p0), (24, vI s5), (25, .fz [vI a8]), (26, vI a8), (27, eL true eI p1), (28, vI s5)], [], 41⟩) ?_
      refine bind_elim h (fun a10 q11 h => ?_)
      refine idxZ (enc := eI) (l := p1) (n := s5) (fl := true) (w := 1) (a := a10) (by kernel_rfl) q11 ?_
      refine sy 2 9 ?_
      refine rgd ?_
      refine wbr (S := fun b12 => ⟨[(0, eL true eI p0), (1, eL true eI p1), (5, vI s5), (19, vI s5), (20, vB true), (23, eL true eI p0), (24, vI s5), (25, .fz [vI a8]), (26, vI a8), (27, eL true eI p1), (28, vI s5), (29, .fz [vI a10]), (30, vI a10), (31, vB b12)], [], 41⟩) h (fun q13 h => ?_) (fun q13 h => ?_)
      · refine wp_condT rfl ?_
        refine wp_seq ?_
        refine wp_seq ?_
        refine wg [0, 1, 5] [] ?_
        refine rga hfol ?_
        refine sy 2 2 ?_
        refine idxZ (enc := eI) (l := p0) (n := s5) (fl := true) (w := 1) (a := a8) (by kernel_rfl) q9 ?_
        refine sy 3 6 ?_
        refine idxZ (enc := eI) (l := p1) (n := s5) (fl := true) (w := 1) (a := a10) (by kernel_rfl) q11 ?_
        refine sy 2 9 ?_
        refine rgd ?_
        refine wbr (S := fun b14 => ⟨[(0, eL true eI p0), (1, eL true eI p1), (5, vI s5), (32, eL true eI p0), (33, vI s5), (34, .fz [vI a8]), (35, vI a8), (36, eL true eI p1), (37, vI s5), (38, .fz [vI a10]), (39, vI a10), (40, vB b14)], [], 41⟩) h (fun q15 h => ?_) (fun q15 h => ?_)
        · refine wp_condT rfl ?_
          refine wp_seq ?_
          refine wg [] [] ?_
          refine rn ?_
          refine wgc [4] [] ⟨[(4, vI (-1))], [], 41⟩ ?_
          refine wp_ret ?_
          cases h
          exact ⟨rfl, rfl⟩
        refine wp_condF rfl ?_
        refine wp_skip ?_
        refine wp_seq ?_
        refine wg [] [] ?_
        refine rn ?_
        refine wgc [4] [] ⟨[(4, vI 1)], [], 41⟩ ?_
        refine wp_ret ?_
        cases h
        exact ⟨rfl, rfl⟩
      refine wp_condF rfl ?_
      refine wp_skip ?_
      refine wg [0, 1, 5] [] ?_
      refine rgN (S := ⟨[(0, eL true eI p0), (1, eL true eI p1), (5, vI (IntKind.i64.wrap (s5 - 1))), (21, vI s5), (22, vI (IntKind.i64.wrap (s5 - 1)))], [], 41⟩) ?_
      cases h
      exact ⟨_, rfl, (wk_gc (live := [0, 1, 5]) (keep := []) (st' := ⟨[(0, eL true eI p0), (1, eL true eI p1), (5, vI (IntKind.i64.wrap (s5 - 1)))], [], 41⟩) (by kernel_rfl))⟩
    refine wp_condF rfl ?_
    refine wgc [] [] ⟨[], [], 41⟩ ?_
    refine wp_exit ?_
    cases h
    exact ⟨rfl, rfl⟩
  intro x16 h out hx
  subst hx
  rcases x16 with x17 | x18
  · dsimp only at h ⊢
    cases h
    show fnOut _ _ _ _ = _
    kernel_rfl
  · dsimp only at h ⊢
    refine sq ?_
    refine wg [4] [] ?_
    refine wp_ret ?_
    cases h
    show fnOut _ _ _ _ = _
    kernel_rfl
theorem g_ref01_cut_ok (p0 : (List Int)) (x : (List Int)) (h : g_ref01_cut p0 = some x) : CallOk Try.prog 76 [eL true eI p0] (.ret (eL true eI x) []) := by
  refine fn_ok [[.lst true]] Try.func76 rfl (by decide +kernel) rfl ?_
  unfold g_ref01_cut at h
  refine wp_eqB (base' := 0) (st' := ⟨[(0, eL true eI p0)], [], 21⟩) rfl (by kernel_rfl) ?_
  refine sqN (S := ⟨[(0, eL true eI p0), (2, .nils)], [], 21⟩) ?_
  refine wp_seq ?_
  refine wp_block ?_
  refine wp_while (σ := (List Int)) (ρ := (List Int)) (n := fuel) (body := g_ref01_cut_b0) (I := fun s1 => ⟨[(0, eL true eI s1)], [], 21⟩) (Ex := fun v out => out = .go (.exit 0) ⟨[(0, eL true eI v)], [], 21⟩) p0 (wk_gc (live := [0]) (keep := []) (st' := ⟨[(0, eL true eI p0)], [], 21⟩) (by kernel_rfl)) h ?_ ?_
  · intro s1 o h
    unfold g_ref01_cut_b0 at h
    refine wp_seq ?_
    refine wp_seq ?_
    refine reg_in ?_
    refine sz 1 1 ?_
    refine lenZ (enc := eI) (l := s1) (fl := true) (by kernel_rfl) ?_
    refine sz 2 4 ?_
    refine rbr (S := fun b2 => ⟨[(0, eL true eI s1), (3, eL true eI s1), (4, vI (s1.length : Int)), (5, vB b2), (6, vB b2)], [], 21⟩) h (fun q3 h => ?_) (fun q3 h => ?_)
    · refine sz 2 6 ?_
      refine lenZ (enc := eI) (l := s1) (fl := true) (by kernel_rfl) ?_
      refine sgz 1 8 (S := ⟨[(0, eL true eI s1), (3, eL true eI s1), (4, vI (s1.length : Int)), (5, vB true), (6, vB true), (7, eL true eI s1), (8, eL true eI s1), (9, vI (s1.length : Int)), (10, vI (IntKind.i64.wrap ((s1.length : Int) - 1)))], [], 21⟩) ?_
      refine bind_elim h (fun a4 q5 h => ?_)
      refine idxZ (enc := eI) (l := s1) (n := IntKind.i64.wrap ((s1.length : Int) - 1)) (fl := true) (w := 1) (a := a4) (by kernel_rfl) q5 ?_
      refine sz 3 12 ?_
      refine reg_end rfl ?_
      refine wbr (S := fun b6 => ⟨[(0, eL true eI s1), (3, eL true eI s1), (4, vI (s1.length : Int)), (5, vB true), (6, vB true), (7, eL true eI s1), (8, eL true eI s1), (9, vI (s1.length : Int)), (10, vI (IntKind.i64.wrap ((s1.length : Int) - 1)))] ++ [(11, .fz [vI a4]), (12, vI a4), (13, vB b6), (14, vB b6)], [], 21⟩) h (fun q7 h => ?_) (fun q7 h => ?_)
      · refine wp_condT rfl ?_
        refine wp_skip ?_
        refine wp_block ?_
        refine wg [0] [] ?_
        refine reg_in ?_
        refine sz 2 2 ?_
        refine lenZ (enc := eI) (l := s1) (fl := true) (by kernel_rfl) ?_
        refine sgz 1 4 (S := ⟨[(0, eL true eI s1), (15, eL true eI s1), (16, eL true eI s1), (17, vI (s1.length : Int)), (18, vI (IntKind.i64.wrap ((s1.length : Int) - 1)))], [], 21⟩) ?_
        refine sliceL (enc := eI) (l := s1) (fl := true) (lo := none) (hi := (some (vI (IntKind.i64.wrap ((s1.length : Int) - 1))))) (a := 0) (b := IntKind.i64.wrap ((s1.length : Int) - 1)) (w := 1) (S := ⟨[(0, eL true eI s1), (15, eL true eI s1), (16, eL true eI s1), (17, vI (s1.length : Int)), (18, vI (IntKind.i64.wrap ((s1.length : Int) - 1))), (19, eL true eI (sub s1 0 (IntKind.i64.wrap ((s1.length : Int) - 1))))], [], 21⟩) (by kernel_rfl) (fun _ => rfl) rfl rfl (by kernel_rfl) h (fun h => ?_)
        refine sgz 1 6 (S := ⟨[(0, eL true eI (sub s1 0 (IntKind.i64.wrap ((s1.length : Int) - 1)))), (15, eL true eI s1), (16, eL true eI s1), (17, vI (s1.length : Int)), (18, vI (IntKind.i64.wrap ((s1.length : Int) - 1))), (19, eL true eI (sub s1 0 (IntKind.i64.wrap ((s1.length : Int) - 1))))], [], 21⟩) ?_
        refine reg_end rfl ?_
        cases h
        exact ⟨_, rfl, (wk_gc (live := [0]) (keep := []) (st' := ⟨[(0, eL true eI (sub s1 0 (IntKind.i64.wrap ((s1.length : Int) - 1))))], [], 21⟩) (by kernel_rfl))⟩
      refine wp_condF rfl ?_
      refine wgc [0] [] ⟨[(0, eL true eI s1)], [], 21⟩ ?_
      refine wp_exit ?_
      cases h
      exact ⟨rfl, rfl⟩
    refine sgz 8 12 (S := ⟨[(0, eL true eI s1), (3, eL true eI s1), (4, vI (s1.length : Int)), (5, vB false), (6, vB false), (7, .tup []), (8, .tup []), (9, .tup []), (10, .tup []), (11, .tup []), (12, .tup []), (13, .tup []), (14, vB false)], [], 21⟩) ?_
    refine reg_end rfl ?_
    refine wp_condF rfl ?_
    refine wgc [0] [] ⟨[(0, eL true eI s1)], [], 21⟩ ?_
    refine wp_exit ?_
    cases h
    exact ⟨rfl, rfl⟩
  intro x9 h out hx
  subst hx
  refine sq ?_
  refine wg [2] [] ?_
  refine wp_ret ?_
  cases h
  show fnOut _ _ _ _ = _
  kernel_rfl
@[reducible] noncomputable def s60_33 (p0 : (List Int)) (p1 : (List Int)) (s4 : (Int × Int × (List Int))) (s1 : (Int × (List Int))) : List (Nat × AV) := [(0, eL true eI p0), (1, eL true eI p1), (5, .ref 0 0 s4.2.2.length), (6, vI s1.1), (7, vI s4.1), (8, vI s4.2.1)]
theorem g_ref01_times_ok (p0 : (List Int)) (p1 : (List Int)) (x : (List Int)) (h : g_ref01_times p0 p1 = some x) : CallOk Try.prog 60 [eL true eI p0, eL true eI p1] (.ret (eL true eI x) []) := by
  refine fn_ok [[.lst true]] Try.func60 rfl (by decide +kernel) rfl ?_
  unfold g_ref01_times at h
  refine wp_eqB (base' := 0) (st' := ⟨[(0, eL true eI p0), (1, eL true eI p1)], [], 65⟩) rfl (by as_aux_lemma => kernel_rfl) ?_
  refine sq ?_
  refine wp_seq ?_
  refine reg_in ?_
  refine sz 1 1 ?_
  refine lenZ (enc := eI) (l := p0) (fl := true) (by as_aux_lemma => kernel_rfl) ?_
  refine sz 1 3 ?_
  refine lenZ (enc := eI) (l := p1) (fl := true) (by as_aux_lemma => kernel_rfl) ?_
  refine sgz 1 5 (S := ⟨[(0, eL true eI p0), (1, eL true eI p1), (4, .nils), (9, eL true eI p0), (10, vI (p0.length : Int)), (11, eL true eI p1), (12, vI (p1.length : Int)), (13, vI (IntKind.i64.wrap ((p0.length : Int) + (p1.length : Int))))], [], 65⟩) ?_
  refine mkL (enc := eI) (z := (0 : Int)) (z0 := vI 0) (n := IntKind.i64.wrap ((p0.length : Int) + (p1.length : Int))) (m := IntKind.i64.wrap ((p0.length : Int) + (p1.length : Int))) (w := 1) (bytes := 8) (S := ⟨[(0, eL true eI p0), (1, eL true eI p1), (4, .nils), (9, eL true eI p0), (10, vI (p0.length : Int)), (11, eL true eI p1), (12, vI (p1.length : Int)), (13, vI (IntKind.i64.wrap ((p0.length : Int) + (p1.length : Int))))] ++ [(14, .ref 0 0 ((List.replicate (Int.toNat (IntKind.i64.wrap ((p0.length : Int) + (p1.length : Int)))) (0 : Int)).length))], [oR true 1 eI (List.replicate (Int.toNat (IntKind.i64.wrap ((p0.length : Int) + (p1.length : Int)))) (0 : Int))], 65⟩) [] true (by as_aux_lemma => kernel_rfl) rfl (by as_aux_lemma => kernel_rfl) (by as_aux_lemma => kernel_rfl) h (fun h => ?_)
  refine sz 1 7 ?_
  refine reg_end rfl ?_
  refine wp_seq ?_
  refine wp_seq ?_
  refine wg [0, 1, 5] [0] ?_
  refine rgN (S := ⟨[(0, eL true eI p0), (1, eL true eI p1), (5, .ref 0 0 ((List.replicate (Int.toNat (IntKind.i64.wrap ((p0.length : Int) + (p1.length : Int)))) (0 : Int)).length)), (6, vI 0)], [oR true 1 eI (List.replicate (Int.toNat (IntKind.i64.wrap ((p0.length : Int) + (p1.length : Int)))) (0 : Int))], 65⟩) ?_
  refine wp_block ?_
  refine wp_while (σ := (Int × (List Int))) (ρ := (List Int)) (n := fuel) (body := g_ref01_times_b1 p0 p1) (I := fun s1 => ⟨[(0, eL true eI p0), (1, eL true eI p1), (5, .ref 0 0 s1.2.length), (6, vI s1.1)], [oR true 1 eI s1.2], 65⟩) (Ex := fun v out => out = .go (.exit 0) ⟨[(5, .ref 0 0 v.length)], [oR true 1 eI v], 65⟩) (0, (List.replicate (Int.toNat (IntKind.i64.wrap ((p0.length : Int) + (p1.length : Int)))) (0 : Int))) (wk_gc (live := [0, 1, 5, 6]) (keep := [0]) (st' := ⟨[(0, eL true eI p0), (1, eL true eI p1), (5, .ref 0 0 ((List.replicate (Int.toNat (IntKind.i64.wrap ((p0.length : Int) + (p1.length : Int)))) (0 : Int)).length)), (6, vI 0)], [oR true 1 eI (List.replicate (Int.toNat (IntKind.i64.wrap ((p0.length : Int) + (p1.length : Int)))) (0 : Int))], 65⟩) (by as_aux_lemma => kernel_rfl)) h ?_ ?_
  · intro s1 o h
    unfold g_ref01_times_b1 at h
    refine wp_seq ?_
    refine wp_seq ?_
    refine reg_in ?_
    refine sz 2 2 ?_
    refine lenZ (enc := eI) (l := p0) (fl := true) (by as_aux_lemma => kernel_rfl) ?_
    refine sz 1 4 ?_
    refine reg_end rfl ?_
    refine wbr (S := fun b2 => ⟨[(0, eL true eI p0), (1, eL true eI p1), (5, .ref 0 0 s1.2.length), (6, vI s1.1), (15, vI s1.1), (16, eL true eI p0), (17, vI (p0.length : Int)), (18, vB b2)], [oR true 1 eI s1.2], 65⟩) h (fun q3 h => ?_) (fun q3 h => ?_)
    · refine wp_condT rfl ?_
      refine wp_skip ?_
      refine wp_seq ?_
      refine wp_block ?_
      refine sq ?_
      refine sqN (S := ⟨[(0, eL true eI p0), (1, eL true eI p1), (5, .ref 0 0 s1.2.length), (6, vI s1.1), (15, vI s1.1), (16, eL true eI p0), (17, vI (p0.length : Int)), (18, vB true), (7, vI 0), (8, vI 0)], [oR true 1 eI s1.2], 65⟩) ?_
      refine wp_block ?_
      refine wp_while (σ := (Int × Int × (List Int))) (ρ := (List Int)) (n := fuel) (body := g_ref01_times_b0 p1 s1 p0) (I := fun s4 => ⟨(s60_33 p0 p1 s4 s1), [oR true 1 eI s4.2.2], 65⟩) (Ex := fun v out => out = .go (.exit 2) ⟨[(0, eL true eI p0), (1, eL true eI p1), (5, .ref 0 0 v.length), (6, vI s1.1)], [oR true 1 eI v], 65⟩) (0, 0, s1.2) (wk_gc (live := [0, 1, 5, 6, 7, 8]) (keep := [0]) (st' := ⟨[(0, eL true eI p0), (1, eL true eI p1), (5, .ref 0 0 s1.2.length), (6, vI s1.1), (7, vI 0), (8, vI 0)], [oR true 1 eI s1.2], 65⟩) (by as_aux_lemma => kernel_rfl)) h ?_ ?_
      · intro s4 o h
        unfold g_ref01_times_b0 at h
        refine wp_seq ?_
        refine wp_seq ?_
        refine reg_in ?_
        refine sz 2 2 ?_
        refine lenZ (enc := eI) (l := p1) (fl := true) (by as_aux_lemma => kernel_rfl) ?_
        refine sz 2 5 ?_
        refine rw_wk (wk_gc (live := [0, 1, 5, 6, 7, 8, 25]) (keep := [0]) (st' := ⟨[(0, eL true eI p0), (1, eL true eI p1), (5, .ref 0 0 s4.2.2.length), (6, vI s1.1), (7, vI s4.1), (8, vI s4.2.1), (25, vB (decide (s4.2.1 < (p1.length : Int))))], [oR true 1 eI s4.2.2], 65⟩) (by as_aux_lemma => kernel_rfl)) ?_
        refine rbr (S := fun b5 => ⟨(s60_33 p0 p1 s4 s1) ++ [(25, vB b5)], [oR true 1 eI s4.2.2], 65⟩) h (fun q6 h => ?_) (fun q6 h => ?_)
        · refine sgz 3 8 (S := ⟨(s60_33 p0 p1 s4 s1) ++ [(25, vB true), (26, .tup []), (27, .tup []), (28, vB true)], [oR true 1 eI s4.2.2], 65⟩) ?_
          refine reg_end rfl ?_
          refine wp_condT rfl ?_
          refine wp_skip ?_
          refine wp_seq ?_
          refine wp_block ?_
          refine wp_seq ?_
          refine reg_in ?_
          refine sgz 5 5 (S := ⟨(s60_33 p0 p1 s4 s1) ++ [(25, vB true), (26, .tup []), (27, .tup []), (28, vB true), (31, vI s4.1), (32, .ref 0 0 s4.2.2.length), (33, vI s1.1), (34, vI s4.2.1), (35, vI (IntKind.i64.wrap (s1.1 + s4.2.1)))], [oR true 1 eI s4.2.2], 65⟩) ?_
          refine bind_elim h (fun a7 q8 h => ?_)
          refine idxR' (enc := eI) (l := s4.2.2) (n := IntKind.i64.wrap (s1.1 + s4.2.1)) (w := 1) (ob := 0) (a := a7) (S := ⟨(s60_33 p0 p1 s4 s1) ++ [(25, vB true), (26, .tup []), (27, .tup []), (28, vB true), (31, vI s4.1), (32, .ref 0 0 s4.2.2.length), (33, vI s1.1), (34, vI s4.2.1), (35, vI (IntKind.i64.wrap (s1.1 + s4.2.1)))] ++ [(36, .ptr 0 (Int.toNat (IntKind.i64.wrap (s1.1 + s4.2.1))) 0)], [oR true 1 eI s4.2.2], 65⟩) (by as_aux_lemma => kernel_rfl) rfl (by as_aux_lemma => kernel_rfl) q8 ?_
          refine loadR (enc := eI) (l := s4.2.2) (n := IntKind.i64.wrap (s1.1 + s4.2.1)) (ob := 0) (c := 0) (a := a7) (S := ⟨(s60_33 p0 p1 s4 s1) ++ [(25, vB true), (26, .tup []), (27, .tup []), (28, vB true), (31, vI s4.1), (32, .ref 0 0 s4.2.2.length), (33, vI s1.1), (34, vI s4.2.1), (35, vI (IntKind.i64.wrap (s1.1 + s4.2.1)))] ++ [(36, .ptr 0 (Int.toNat (IntKind.i64.wrap (s1.1 + s4.2.1))) 0), (37, vI a7)], [oR true 1 eI s4.2.2], 65⟩) (by as_aux_lemma => kernel_rfl) rfl q8 (by as_aux_lemma => kernel_rfl) ?_
          refine sz 2 9 ?_
          refine reg_end rfl ?_
          refine wp_seq ?_
          refine wp_seq ?_
          refine wg [0, 1, 5, 6, 7, 8] [0] ?_
          refine reg_in ?_
          refine sz 2 2 ?_
          refine lenZ (enc := eI) (l := p1) (fl := true) (by as_aux_lemma => kernel_rfl) ?_
          refine sz 1 4 ?_
          refine reg_end rfl ?_
          refine wkn (S := fun b9 => ⟨[(0, eL true eI p0), (1, eL true eI p1), (5, .ref 0 0 s4.2.2.length), (6, vI s1.1), (7, vI (IntKind.i64.wrap (s4.1 + a7))), (8, vI s4.2.1)] ++ [(39, vI s4.2.1), (40, eL true eI p1), (41, vI (p1.length : Int)), (42, vB b9)], [oR true 1 eI s4.2.2], 65⟩) q6 ?_
          refine wp_condT rfl ?_
          refine rga hfol ?_
          refine sgy 3 3 (S := ⟨[(0, eL true eI p0), (1, eL true eI p1), (5, .ref 0 0 s4.2.2.length), (6, vI s1.1), (7, vI (IntKind.i64.wrap (s4.1 + a7))), (8, vI s4.2.1)] ++ [(39, vI s4.2.1), (40, eL true eI p1), (41, vI (p1.length : Int)), (42, vB true), (43, vI (IntKind.i64.wrap (s4.1 + a7))), (44, eL true eI p0), (45, vI s1.1)], [oR true 1 eI s4.2.2], 65⟩) ?_
          refine bind_elim h (fun a10 q11 h => ?_)
          refine idxZ (enc := eI) (l := p0) (n := s1.1) (fl := true) (w := 1) (a := a10) (by as_aux_lemma => kernel_rfl) q11 ?_
          refine sgy 3 7 (S := ⟨[(0, eL true eI p0), (1, eL true eI p1), (5, .ref 0 0 s4.2.2.length), (6, vI s1.1), (7, vI (IntKind.i64.wrap (s4.1 + a7))), (8, vI s4.2.1)] ++ [(39, vI s4.2.1), (40, eL true eI p1), (41, vI (p1.length : Int)), (42, vB true), (43, vI (IntKind.i64.wrap (s4.1 + a7))), (44, eL true eI p0), (45, vI s1.1), (46, .fz [vI a10]), (47, vI a10), (48, eL true eI p1), (49, vI s4.2.1)], [oR true 1 eI s4.2.2], 65⟩) ?_
          refine bind_elim h (fun a12 q13 h => ?_)
          refine idxZ (enc := eI) (l := p1) (n := s4.2.1) (fl := true) (w := 1) (a := a12) (by as_aux_lemma => kernel_rfl) q13 ?_
          refine sy 4 12 ?_
          refine rgd ?_
          refine wp_seq ?_
          refine wg [0, 1, 5, 6, 7, 8] [0] ?_
          refine reg_in ?_
          refine sgz 6 6 (S := ⟨[(0, eL true eI p0), (1, eL true eI p1), (5, .ref 0 0 s4.2.2.length), (6, vI s1.1), (7, vI (IntKind.i64.wrap ((IntKind.i64.wrap (s4.1 + a7)) + (IntKind.i64.wrap (a10 * a12))))), (8, vI s4.2.1)] ++ [(54, .ref 0 0 s4.2.2.length), (55, vI s1.1), (56, vI s4.2.1), (57, vI (IntKind.i64.wrap (s1.1 + s4.2.1))), (58, vI (IntKind.i64.wrap ((IntKind.i64.wrap (s4.1 + a7)) + (IntKind.i64.wrap (a10 * a12))))), (59, vI (Int.tmod (IntKind.i64.wrap ((IntKind.i64.wrap (s4.1 + a7)) + (IntKind.i64.wrap (a10 * a12)))) 10000))], [oR true 1 eI s4.2.2], 65⟩) ?_
          refine idxR' (enc := eI) (l := s4.2.2) (n := IntKind.i64.wrap (s1.1 + s4.2.1)) (w := 1) (ob := 0) (a := a7) (S := ⟨[(0, eL true eI p0), (1, eL true eI p1), (5, .ref 0 0 s4.2.2.length), (6, vI s1.1), (7, vI (IntKind.i64.wrap ((IntKind.i64.wrap (s4.1 + a7)) + (IntKind.i64.wrap (a10 * a12))))), (8, vI s4.2.1)] ++ [(54, .ref 0 0 s4.2.2.length), (55, vI s1.1), (56, vI s4.2.1), (57, vI (IntKind.i64.wrap (s1.1 + s4.2.1))), (58, vI (IntKind.i64.wrap ((IntKind.i64.wrap (s4.1 + a7)) + (IntKind.i64.wrap (a10 * a12))))), (59, vI (Int.tmod (IntKind.i64.wrap ((IntKind.i64.wrap (s4.1 + a7)) + (IntKind.i64.wrap (a10 * a12)))) 10000))] ++ [(60, .ptr 0 (Int.toNat (IntKind.i64.wrap (s1.1 + s4.2.1))) 0)], [oR true 1 eI s4.2.2], 65⟩) (by as_aux_lemma => kernel_rfl) rfl (by as_aux_lemma => kernel_rfl) q8 ?_
          refine bind_elim h (fun a14 q15 h => ?_)
          refine storeR (enc := eI) (l := s4.2.2) (n := (IntKind.i64.wrap (s1.1 + s4.2.1))) (ob := 0) (c := 0) (a := a14) (a' := Int.tmod (IntKind.i64.wrap ((IntKind.i64.wrap (s4.1 + a7)) + (IntKind.i64.wrap (a10 * a12)))) 10000) (v := vI (Int.tmod (IntKind.i64.wrap ((IntKind.i64.wrap (s4.1 + a7)) + (IntKind.i64.wrap (a10 * a12)))) 10000)) (S := ⟨[(0, eL true eI p0), (1, eL true eI p1), (5, .ref 0 0 s4.2.2.length), (6, vI s1.1), (7, vI (IntKind.i64.wrap ((IntKind.i64.wrap (s4.1 + a7)) + (IntKind.i64.wrap (a10 * a12))))), (8, vI s4.2.1)] ++ [(54, .ref 0 0 s4.2.2.length), (55, vI s1.1), (56, vI s4.2.1), (57, vI (IntKind.i64.wrap (s1.1 + s4.2.1))), (58, vI (IntKind.i64.wrap ((IntKind.i64.wrap (s4.1 + a7)) + (IntKind.i64.wrap (a10 * a12))))), (59, vI (Int.tmod (IntKind.i64.wrap ((IntKind.i64.wrap (s4.1 + a7)) + (IntKind.i64.wrap (a10 * a12)))) 10000))] ++ [(60, .ptr 0 (Int.toNat (IntKind.i64.wrap (s1.1 + s4.2.1))) 0)], [oR true 1 eI (List.set s4.2.2 (Int.toNat (IntKind.i64.wrap (s1.1 + s4.2.1))) (Int.tmod (IntKind.i64.wrap ((IntKind.i64.wrap (s4.1 + a7)) + (IntKind.i64.wrap (a10 * a12)))) 10000))], 65⟩) false (by as_aux_lemma => kernel_rfl) rfl q15 (by as_aux_lemma => kernel_rfl) rfl (by as_aux_lemma => kernel_rfl) (by as_aux_lemma => kernel_rfl) (by as_aux_lemma => kernel_rfl) ?_
          refine rw_knN (n := s4.2.2.length) (m := (List.set s4.2.2 (Int.toNat (IntKind.i64.wrap (s1.1 + s4.2.1))) (Int.tmod (IntKind.i64.wrap ((IntKind.i64.wrap (s4.1 + a7)) + (IntKind.i64.wrap (a10 * a12)))) 10000)).length) (S := fun n16 => ⟨[(0, eL true eI p0), (1, eL true eI p1), (5, .ref 0 0 n16), (6, vI s1.1), (7, vI (IntKind.i64.wrap ((IntKind.i64.wrap (s4.1 + a7)) + (IntKind.i64.wrap (a10 * a12))))), (8, vI s4.2.1), (54, .ref 0 0 n16), (55, vI s1.1), (56, vI s4.2.1), (57, vI (IntKind.i64.wrap (s1.1 + s4.2.1))), (58, vI (IntKind.i64.wrap ((IntKind.i64.wrap (s4.1 + a7)) + (IntKind.i64.wrap (a10 * a12))))), (59, vI (Int.tmod (IntKind.i64.wrap ((IntKind.i64.wrap (s4.1 + a7)) + (IntKind.i64.wrap (a10 * a12)))) 10000)), (60, .ptr 0 (Int.toNat (IntKind.i64.wrap (s1.1 + s4.2.1))) 0)], [oR true 1 eI (List.set s4.2.2 (Int.toNat (IntKind.i64.wrap (s1.1 + s4.2.1))) (Int.tmod (IntKind.i64.wrap ((IntKind.i64.wrap (s4.1 + a7)) + (IntKind.i64.wrap (a10 * a12)))) 10000))], 65⟩) (by simp only [List.length_set]) ?_
          refine reg_end rfl ?_
          refine wg [0, 1, 5, 6, 7, 8] [0] ?_
          refine rn ?_
          refine rgN (S := ⟨[(0, eL true eI p0), (1, eL true eI p1), (5, .ref 0 0 ((List.set s4.2.2 (Int.toNat (IntKind.i64.wrap (s1.1 + s4.2.1))) (Int.tmod (IntKind.i64.wrap ((IntKind.i64.wrap (s4.1 + a7)) + (IntKind.i64.wrap (a10 * a12)))) 10000)).length)), (6, vI s1.1), (7, vI (IntKind.i64.wrap (Int.tdiv (IntKind.i64.wrap ((IntKind.i64.wrap (s4.1 + a7)) + (IntKind.i64.wrap (a10 * a12)))) 10000))), (8, vI (IntKind.i64.wrap (s4.2.1 + 1)))] ++ [(61, vI (IntKind.i64.wrap ((IntKind.i64.wrap (s4.1 + a7)) + (IntKind.i64.wrap (a10 * a12))))), (62, vI (IntKind.i64.wrap (Int.tdiv (IntKind.i64.wrap ((IntKind.i64.wrap (s4.1 + a7)) + (IntKind.i64.wrap (a10 * a12)))) 10000))), (29, vI s4.2.1), (30, vI (IntKind.i64.wrap (s4.2.1 + 1)))], [oR true 1 eI (List.set s4.2.2 (Int.toNat (IntKind.i64.wrap (s1.1 + s4.2.1))) (Int.tmod (IntKind.i64.wrap ((IntKind.i64.wrap (s4.1 + a7)) + (IntKind.i64.wrap (a10 * a12)))) 10000))], 65⟩) ?_
          cases h
          exact ⟨_, rfl, (wk_gc (live := [0, 1, 5, 6, 7, 8]) (keep := [0]) (st' := ⟨[(0, eL true eI p0), (1, eL true eI p1), (5, .ref 0 0 ((List.set s4.2.2 (Int.toNat (IntKind.i64.wrap (s1.1 + s4.2.1))) (Int.tmod (IntKind.i64.wrap ((IntKind.i64.wrap (s4.1 + a7)) + (IntKind.i64.wrap (a10 * a12)))) 10000)).length)), (6, vI s1.1), (7, vI (IntKind.i64.wrap (Int.tdiv (IntKind.i64.wrap ((IntKind.i64.wrap (s4.1 + a7)) + (IntKind.i64.wrap (a10 * a12)))) 10000))), (8, vI (IntKind.i64.wrap (s4.2.1 + 1)))], [oR true 1 eI (List.set s4.2.2 (Int.toNat (IntKind.i64.wrap (s1.1 + s4.2.1))) (Int.tmod (IntKind.i64.wrap ((IntKind.i64.wrap (s4.1 + a7)) + (IntKind.i64.wrap (a10 * a12)))) 10000))], 65⟩) (by as_aux_lemma => kernel_rfl))⟩
        refine sz 3 8 ?_
        refine reg_end rfl ?_
        refine wbr (S := fun b17 => ⟨(s60_33 p0 p1 s4 s1) ++ [(25, vB false), (26, vI s4.1), (27, vB b17), (28, vB b17)], [oR true 1 eI s4.2.2], 65⟩) h (fun q18 h => ?_) (fun q18 h => ?_)
        · refine wp_condT rfl ?_
          refine wp_skip ?_
          refine wp_seq ?_
          refine wp_block ?_
          refine wp_seq ?_
          refine reg_in ?_
          refine sgz 5 5 (S := ⟨(s60_33 p0 p1 s4 s1) ++ [(25, vB false), (26, vI s4.1), (27, vB true), (28, vB true), (31, vI s4.1), (32, .ref 0 0 s4.2.2.length), (33, vI s1.1), (34, vI s4.2.1), (35, vI (IntKind.i64.wrap (s1.1 + s4.2.1)))], [oR true 1 eI s4.2.2], 65⟩) ?_
          refine bind_elim h (fun a19 q20 h => ?_)
          refine idxR' (enc := eI) (l := s4.2.2) (n := IntKind.i64.wrap (s1.1 + s4.2.1)) (w := 1) (ob := 0) (a := a19) (S := ⟨(s60_33 p0 p1 s4 s1) ++ [(25, vB false), (26, vI s4.1), (27, vB true), (28, vB true), (31, vI s4.1), (32, .ref 0 0 s4.2.2.length), (33, vI s1.1), (34, vI s4.2.1), (35, vI (IntKind.i64.wrap (s1.1 + s4.2.1)))] ++ [(36, .ptr 0 (Int.toNat (IntKind.i64.wrap (s1.1 + s4.2.1))) 0)], [oR true 1 eI s4.2.2], 65⟩) (by as_aux_lemma => kernel_rfl) rfl (by as_aux_lemma => kernel_rfl) q20 ?_
          refine loadR (enc := eI) (l := s4.2.2) (n := IntKind.i64.wrap (s1.1 + s4.2.1)) (ob := 0) (c := 0) (a := a19) (S := ⟨(s60_33 p0 p1 s4 s1) ++ [(25, vB false), (26, vI s4.1), (27, vB true), (28, vB true), (31, vI s4.1), (32, .ref 0 0 s4.2.2.length), (33, vI s1.1), (34, vI s4.2.1), (35, vI (IntKind.i64.wrap (s1.1 + s4.2.1)))] ++ [(36, .ptr 0 (Int.toNat (IntKind.i64.wrap (s1.1 + s4.2.1))) 0), (37, vI a19)], [oR true 1 eI s4.2.2], 65⟩) (by as_aux_lemma => kernel_rfl) rfl q20 (by as_aux_lemma => kernel_rfl) ?_
          refine sz 2 9 ?_
          refine reg_end rfl ?_
          refine wp_seq ?_
          refine wp_seq ?_
          refine wg [0, 1, 5, 6, 7, 8] [0] ?_
          refine reg_in ?_
          refine sz 2 2 ?_
          refine lenZ (enc := eI) (l := p1) (fl := true) (by as_aux_lemma => kernel_rfl) ?_
          refine sz 1 4 ?_
          refine reg_end rfl ?_
          refine wkn (S := fun b21 => ⟨[(0, eL true eI p0), (1, eL true eI p1), (5, .ref 0 0 s4.2.2.length), (6, vI s1.1), (7, vI (IntKind.i64.wrap (s4.1 + a19))), (8, vI s4.2.1)] ++ [(39, vI s4.2.1), (40, eL true eI p1), (41, vI (p1.length : Int)), (42, vB b21)], [oR true 1 eI s4.2.2], 65⟩) q6 ?_
          refine wp_condF rfl ?_
          refine wp_skip ?_
          refine wp_seq ?_
          refine reg_in ?_
          refine sgz 6 6 (S := ⟨[(0, eL true eI p0), (1, eL true eI p1), (5, .ref 0 0 s4.2.2.length), (6, vI s1.1), (7, vI (IntKind.i64.wrap (s4.1 + a19))), (8, vI s4.2.1)] ++ [(39, vI s4.2.1), (40, eL true eI p1), (41, vI (p1.length : Int)), (42, vB false), (54, .ref 0 0 s4.2.2.length), (55, vI s1.1), (56, vI s4.2.1), (57, vI (IntKind.i64.wrap (s1.1 + s4.2.1))), (58, vI (IntKind.i64.wrap (s4.1 + a19))), (59, vI (Int.tmod (IntKind.i64.wrap (s4.1 + a19)) 10000))], [oR true 1 eI s4.2.2], 65⟩) ?_
          refine idxR' (enc := eI) (l := s4.2.2) (n := IntKind.i64.wrap (s1.1 + s4.2.1)) (w := 1) (ob := 0) (a := a19) (S := ⟨[(0, eL true eI p0), (1, eL true eI p1), (5, .ref 0 0 s4.2.2.length), (6, vI s1.1), (7, vI (IntKind.i64.wrap (s4.1 + a19))), (8, vI s4.2.1)] ++ [(39, vI s4.2.1), (40, eL true eI p1), (41, vI (p1.length : Int)), (42, vB false), (54, .ref 0 0 s4.2.2.length), (55, vI s1.1), (56, vI s4.2.1), (57, vI (IntKind.i64.wrap (s1.1 + s4.2.1))), (58, vI (IntKind.i64.wrap (s4.1 + a19))), (59, vI (Int.tmod (IntKind.i64.wrap (s4.1 + a19)) 10000))] ++ [(60, .ptr 0 (Int.toNat (IntKind.i64.wrap (s1.1 + s4.2.1))) 0)], [oR true 1 eI s4.2.2], 65⟩) (by as_aux_lemma => kernel_rfl) rfl (by as_aux_lemma => kernel_rfl) q20 ?_
          refine bind_elim h (fun a22 q23 h => ?_)
          refine storeR (enc := eI) (l := s4.2.2) (n := (IntKind.i64.wrap (s1.1 + s4.2.1))) (ob := 0) (c := 0) (a := a22) (a' := Int.tmod (IntKind.i64.wrap (s4.1 + a19)) 10000) (v := vI (Int.tmod (IntKind.i64.wrap (s4.1 + a19)) 10000)) (S := ⟨[(0, eL true eI p0), (1, eL true eI p1), (5, .ref 0 0 s4.2.2.length), (6, vI s1.1), (7, vI (IntKind.i64.wrap (s4.1 + a19))), (8, vI s4.2.1)] ++ [(39, vI s4.2.1), (40, eL true eI p1), (41, vI (p1.length : Int)), (42, vB false), (54, .ref 0 0 s4.2.2.length), (55, vI s1.1), (56, vI s4.2.1), (57, vI (IntKind.i64.wrap (s1.1 + s4.2.1))), (58, vI (IntKind.i64.wrap (s4.1 + a19))), (59, vI (Int.tmod (IntKind.i64.wrap (s4.1 + a19)) 10000))] ++ [(60, .ptr 0 (Int.toNat (IntKind.i64.wrap (s1.1 + s4.2.1))) 0)], [oR true 1 eI (List.set s4.2.2 (Int.toNat (IntKind.i64.wrap (s1.1 + s4.2.1))) (Int.tmod (IntKind.i64.wrap (s4.1 + a19)) 10000))], 65⟩) false (by as_aux_lemma => kernel_rfl) rfl q23 (by as_aux_lemma => kernel_rfl) rfl (by as_aux_lemma => kernel_rfl) (by as_aux_lemma => kernel_rfl) (by as_aux_lemma => kernel_rfl) ?_
          refine rw_knN (n := s4.2.2.length) (m := (List.set s4.2.2 (Int.toNat (IntKind.i64.wrap (s1.1 + s4.2.1))) (Int.tmod (IntKind.i64.wrap (s4.1 + a19)) 10000)).length) (S := fun n24 => ⟨[(0, eL true eI p0), (1, eL true eI p1), (5, .ref 0 0 n24), (6, vI s1.1), (7, vI (IntKind.i64.wrap (s4.1 + a19))), (8, vI s4.2.1), (39, vI s4.2.1), (40, eL true eI p1), (41, vI (p1.length : Int)), (42, vB false), (54, .ref 0 0 n24), (55, vI s1.1), (56, vI s4.2.1), (57, vI (IntKind.i64.wrap (s1.1 + s4.2.1))), (58, vI (IntKind.i64.wrap (s4.1 + a19))), (59, vI (Int.tmod (IntKind.i64.wrap (s4.1 + a19)) 10000)), (60, .ptr 0 (Int.toNat (IntKind.i64.wrap (s1.1 + s4.2.1))) 0)], [oR true 1 eI (List.set s4.2.2 (Int.toNat (IntKind.i64.wrap (s1.1 + s4.2.1))) (Int.tmod (IntKind.i64.wrap (s4.1 + a19)) 10000))], 65⟩) (by simp only [List.length_set]) ?_
          refine reg_end rfl ?_
          refine wg [0, 1, 5, 6, 7, 8] [0] ?_
          refine rn ?_
          refine rgN (S := ⟨[(0, eL true eI p0), (1, eL true eI p1), (5, .ref 0 0 ((List.set s4.2.2 (Int.toNat (IntKind.i64.wrap (s1.1 + s4.2.1))) (Int.tmod (IntKind.i64.wrap (s4.1 + a19)) 10000)).length)), (6, vI s1.1), (7, vI (IntKind.i64.wrap (Int.tdiv (IntKind.i64.wrap (s4.1 + a19)) 10000))), (8, vI (IntKind.i64.wrap (s4.2.1 + 1)))] ++ [(61, vI (IntKind.i64.wrap (s4.1 + a19))), (62, vI (IntKind.i64.wrap (Int.tdiv (IntKind.i64.wrap (s4.1 + a19)) 10000))), (29, vI s4.2.1), (30, vI (IntKind.i64.wrap (s4.2.1 + 1)))], [oR true 1 eI (List.set s4.2.2 (Int.toNat (IntKind.i64.wrap (s1.1 + s4.2.1))) (Int.tmod (IntKind.i64.wrap (s4.1 + a19)) 10000))], 65⟩) ?_
          cases h
          exact ⟨_, rfl, (wk_gc (live := [0, 1, 5, 6, 7, 8]) (keep := [0]) (st' := ⟨[(0, eL true eI p0), (1, eL true eI p1), (5, .ref 0 0 ((List.set s4.2.2 (Int.toNat (IntKind.i64.wrap (s1.1 + s4.2.1))) (Int.tmod (IntKind.i64.wrap (s4.1 + a19)) 10000)).length)), (6, vI s1.1), (7, vI (IntKind.i64.wrap (Int.tdiv (IntKind.i64.wrap (s4.1 + a19)) 10000))), (8, vI (IntKind.i64.wrap (s4.2.1 + 1)))], [oR true 1 eI (List.set s4.2.2 (Int.toNat (IntKind.i64.wrap (s1.1 + s4.2.1))) (Int.tmod (IntKind.i64.wrap (s4.1 + a19)) 10000))], 65⟩) (by as_aux_lemma => kernel_rfl))⟩
        refine wp_condF rfl ?_
        refine wgc [0, 1, 5, 6] [0] ⟨[(0, eL true eI p0), (1, eL true eI p1), (5, .ref 0 0 s4.2.2.length), (6, vI s1.1)], [oR true 1 eI s4.2.2], 65⟩ ?_
        refine wp_exit ?_
        cases h
        exact ⟨rfl, rfl⟩
      intro x26 h out hx
      subst hx
      refine rgN (S := ⟨[(0, eL true eI p0), (1, eL true eI p1), (5, .ref 0 0 x26.length), (6, vI (IntKind.i64.wrap (s1.1 + 1))), (19, vI s1.1), (20, vI (IntKind.i64.wrap (s1.1 + 1)))], [oR true 1 eI x26], 65⟩) ?_
      cases h
      exact ⟨_, rfl, (wk_gc (live := [0, 1, 5, 6]) (keep := [0]) (st' := ⟨[(0, eL true eI p0), (1, eL true eI p1), (5, .ref 0 0 x26.length), (6, vI (IntKind.i64.wrap (s1.1 + 1)))], [oR true 1 eI x26], 65⟩) (by as_aux_lemma => kernel_rfl))⟩
    refine wp_condF rfl ?_
    refine wgc [5] [0] ⟨[(5, .ref 0 0 s1.2.length)], [oR true 1 eI s1.2], 65⟩ ?_
    refine wp_exit ?_
    cases h
    exact ⟨rfl, rfl⟩
  intro x28 h out hx
  subst hx
  refine wp_seq ?_
  refine reg_in ?_
  refine sgz 1 1 (S := ⟨[(5, .ref 0 0 x28.length), (63, .ref 0 0 x28.length)], [oR true 1 eI x28], 65⟩) ?_
  refine callZ (as0 := [.ref 0 0 x28.length]) (ids := [0]) (by as_aux_lemma => kernel_rfl) bodyB_76 (msnap_cons (snap_full rfl) msnap_nil (by rfl)) (fun x29 q30 => g_ref01_cut_ok x28 x29 q30) h (fun x29 q30 h => ?_)
  refine sz 1 3 ?_
  refine reg_end rfl ?_
  refine wg [4] [] ?_
  refine wp_ret ?_
  cases h
  show fnOut _ _ _ _ = _
  kernel_rfl
@[reducible] noncomputable def s62_42 (p0 : (List Int)) (p1 : (List Int)) (s1 : (Int × Int × (List Int))) : List (Nat × AV) := [(0, eL true eI p0), (1, eL true eI p1), (5, .ref 0 0 s1.2.2.length), (6, vI s1.1), (7, vI s1.2.1)]
theorem g_ref01_minus_ok (p0 : (List Int)) (p1 : (List Int)) (x : (List Int)) (h : g_ref01_minus p0 p1 = some x) : CallOk Try.prog 62 [eL true eI p0, eL true eI p1] (.ret (eL true eI x) []) := by
  refine fn_ok [[.lst true]] Try.func62 rfl (by decide +kernel) rfl ?_
  unfold g_ref01_minus at h
  refine wp_eqB (base' := 0) (st' := ⟨[(0, eL true eI p0), (1, eL true eI p1)], [], 41⟩) rfl (by kernel_rfl) ?_
  refine sq ?_
  refine sq ?_
  refine sq ?_
  refine wp_seq ?_
  refine sqN (S := ⟨[(0, eL true eI p0), (1, eL true eI p1), (4, .nils), (5, .nils), (6, vI 0), (7, vI 0)], [], 41⟩) ?_
  refine wp_block ?_
  refine wp_while (σ := (Int × Int × (List Int))) (ρ := (List Int)) (n := fuel) (body := g_ref01_minus_b0 p0 p1) (I := fun s1 => ⟨(s62_42 p0 p1 s1), [oR true 1 eI s1.2.2], 41⟩) (Ex := fun v out => out = .go (.exit 0) ⟨[(5, .ref 0 0 v.length)], [oR true 1 eI v], 41⟩) (0, 0, ([] : (List Int))) (wk_trans (wk_gc (live := [0, 1, 5, 6, 7]) (keep := []) (st' := ⟨[(0, eL true eI p0), (1, eL true eI p1), (5, .nils), (6, vI 0), (7, vI 0)], [], 41⟩) (by kernel_rfl)) (wk_trans (wk_nil 5 1 true true (st' := ⟨[(0, eL true eI p0), (1, eL true eI p1), (5, .ref 0 0 0), (6, vI 0), (7, vI 0)], [.row false false true true 1 []], 41⟩) (by kernel_rfl)) (wk_gc (live := [0, 1, 5, 6, 7]) (keep := [0]) (st' := ⟨[(0, eL true eI p0), (1, eL true eI p1), (5, .ref 0 0 (([] : (List Int)).length)), (6, vI 0), (7, vI 0)], [oR true 1 eI ([] : (List Int))], 41⟩) (by kernel_rfl)))) h ?_ ?_
  · intro s1 o h
    unfold g_ref01_minus_b0 at h
    refine wp_seq ?_
    refine wp_seq ?_
    refine reg_in ?_
    refine sz 2 2 ?_
    refine lenZ (enc := eI) (l := p0) (fl := true) (by kernel_rfl) ?_
    refine sz 1 4 ?_
    refine reg_end rfl ?_
    refine wbr (S := fun b2 => ⟨(s62_42 p0 p1 s1) ++ [(9, vI s1.2.1), (10, eL true eI p0), (11, vI (p0.length : Int)), (12, vB b2)], [oR true 1 eI s1.2.2], 41⟩) h (fun q3 h => ?_) (fun q3 h => ?_)
    · refine wp_condT rfl ?_
      refine wp_skip ?_
      refine wp_seq ?_
      refine wp_block ?_
      refine wp_seq ?_
      refine reg_in ?_
      refine sgz 2 2 (S := ⟨(s62_42 p0 p1 s1) ++ [(9, vI s1.2.1), (10, eL true eI p0), (11, vI (p0.length : Int)), (12, vB true), (15, eL true eI p0), (16, vI s1.2.1)], [oR true 1 eI s1.2.2], 41⟩) ?_
      refine bind_elim h (fun a4 q5 h => ?_)
      refine idxZ (enc := eI) (l := p0) (n := s1.2.1) (fl := true) (w := 1) (a := a4) (by kernel_rfl) q5 ?_
      refine sz 4 7 ?_
      refine reg_end rfl ?_
      refine wp_seq ?_
      refine wp_seq ?_
      refine wg [0, 1, 5, 7, 8] [0] ?_
      refine reg_in ?_
      refine sz 2 2 ?_
      refine lenZ (enc := eI) (l := p1) (fl := true) (by kernel_rfl) ?_
      refine sz 1 4 ?_
      refine reg_end rfl ?_
      refine wbr (S := fun b6 => ⟨[(0, eL true eI p0), (1, eL true eI p1), (5, .ref 0 0 s1.2.2.length), (7, vI s1.2.1), (8, vI (IntKind.i64.wrap (a4 - s1.1)))] ++ [(21, vI s1.2.1), (22, eL true eI p1), (23, vI (p1.length : Int)), (24, vB b6)], [oR true 1 eI s1.2.2], 41⟩) h (fun q7 h => ?_) (fun q7 h => ?_)
      · refine wp_condT rfl ?_
        refine reg_in ?_
        refine sgz 3 3 (S := ⟨[(0, eL true eI p0), (1, eL true eI p1), (5, .ref 0 0 s1.2.2.length), (7, vI s1.2.1), (8, vI (IntKind.i64.wrap (a4 - s1.1)))] ++ [(21, vI s1.2.1), (22, eL true eI p1), (23, vI (p1.length : Int)), (24, vB true), (25, vI (IntKind.i64.wrap (a4 - s1.1))), (26, eL true eI p1), (27, vI s1.2.1)], [oR true 1 eI s1.2.2], 41⟩) ?_
        refine bind_elim h (fun a8 q9 h => ?_)
        refine idxZ (enc := eI) (l := p1) (n := s1.2.1) (fl := true) (w := 1) (a := a8) (by kernel_rfl) q9 ?_
        refine sz 3 7 ?_
        refine reg_end rfl ?_
        refine wp_seq ?_
        refine wg [0, 1, 5, 7, 8] [0] ?_
        refine rn ?_
        refine wp_seq ?_
        refine sq ?_
        refine wbr (S := fun b10 => ⟨[(0, eL true eI p0), (1, eL true eI p1), (5, .ref 0 0 s1.2.2.length), (7, vI s1.2.1), (8, vI (IntKind.i64.wrap ((IntKind.i64.wrap (a4 - s1.1)) - a8)))] ++ [(6, vI 0), (31, vI (IntKind.i64.wrap ((IntKind.i64.wrap (a4 - s1.1)) - a8))), (32, vB b10)], [oR true 1 eI s1.2.2], 41⟩) h (fun q11 h => ?_) (fun q11 h => ?_)
        · refine wp_condT rfl ?_
          refine sq ?_
          refine wg [0, 1, 5, 7, 8] [0] ?_
          refine rn ?_
          refine reg_in ?_
          refine sz 2 2 ?_
          refine sgL false [] [] true (S := ⟨[(0, eL true eI p0), (1, eL true eI p1), (5, .ref 0 0 s1.2.2.length), (7, vI s1.2.1), (8, vI (IntKind.i64.wrap ((IntKind.i64.wrap ((IntKind.i64.wrap (a4 - s1.1)) - a8)) + 10000)))] ++ [(6, vI 1), (35, .ref 0 0 s1.2.2.length), (36, vI (IntKind.i64.wrap ((IntKind.i64.wrap ((IntKind.i64.wrap (a4 - s1.1)) - a8)) + 10000))), (37, .ref 1 0 1)], [oR true 1 eI s1.2.2, .row false false true true 1 [vI (IntKind.i64.wrap ((IntKind.i64.wrap ((IntKind.i64.wrap (a4 - s1.1)) - a8)) + 10000))]], 41⟩) (by kernel_rfl) ?_
          refine appR (enc := eI) (l := s1.2.2) (m := ([IntKind.i64.wrap ((IntKind.i64.wrap ((IntKind.i64.wrap (a4 - s1.1)) - a8)) + 10000)] : (List Int))) (w := 1) (bytes := 8) (ob := 0) (nr := true) (fl := true) (nr' := true) (fl' := true) (b := .ref 1 0 1) (rds := [1]) (S := ⟨[(0, eL true eI p0), (1, eL true eI p1), (5, .ref 0 0 s1.2.2.length), (7, vI s1.2.1), (8, vI (IntKind.i64.wrap ((IntKind.i64.wrap ((IntKind.i64.wrap (a4 - s1.1)) - a8)) + 10000)))] ++ [(6, vI 1), (35, .ref 0 0 s1.2.2.length), (36, vI (IntKind.i64.wrap ((IntKind.i64.wrap ((IntKind.i64.wrap (a4 - s1.1)) - a8)) + 10000))), (37, .ref 1 0 1), (38, .ref 2 0 ((s1.2.2 ++ ([IntKind.i64.wrap ((IntKind.i64.wrap ((IntKind.i64.wrap (a4 - s1.1)) - a8)) + 10000)] : (List Int))).length))], [.dead, .row false false true true 1 [vI (IntKind.i64.wrap ((IntKind.i64.wrap ((IntKind.i64.wrap (a4 - s1.1)) - a8)) + 10000))], oR true 1 eI (s1.2.2 ++ ([IntKind.i64.wrap ((IntKind.i64.wrap ((IntKind.i64.wrap (a4 - s1.1)) - a8)) + 10000)] : (List Int)))], 41⟩) false (by kernel_rfl) rfl (by kernel_rfl) rfl (by kernel_rfl) (by kernel_rfl) h (fun h => ?_)
          refine sz 1 5 ?_
          refine reg_end rfl ?_
          refine wg [0, 1, 5, 7, 6] [2] ?_
          refine rgN (S := ⟨[(0, eL true eI p0), (1, eL true eI p1), (5, .ref 0 0 ((s1.2.2 ++ ([IntKind.i64.wrap ((IntKind.i64.wrap ((IntKind.i64.wrap (a4 - s1.1)) - a8)) + 10000)] : (List Int))).length)), (7, vI (IntKind.i64.wrap (s1.2.1 + 1))), (6, vI 1), (13, vI s1.2.1), (14, vI (IntKind.i64.wrap (s1.2.1 + 1)))], [oR true 1 eI (s1.2.2 ++ ([IntKind.i64.wrap ((IntKind.i64.wrap ((IntKind.i64.wrap (a4 - s1.1)) - a8)) + 10000)] : (List Int)))], 41⟩) ?_
          cases h
          exact ⟨_, rfl, (wk_gc (live := [0, 1, 5, 6, 7]) (keep := [0]) (st' := ⟨[(0, eL true eI p0), (1, eL true eI p1), (5, .ref 0 0 ((s1.2.2 ++ ([IntKind.i64.wrap ((IntKind.i64.wrap ((IntKind.i64.wrap (a4 - s1.1)) - a8)) + 10000)] : (List Int))).length)), (6, vI 1), (7, vI (IntKind.i64.wrap (s1.2.1 + 1)))], [oR true 1 eI (s1.2.2 ++ ([IntKind.i64.wrap ((IntKind.i64.wrap ((IntKind.i64.wrap (a4 - s1.1)) - a8)) + 10000)] : (List Int)))], 41⟩) (by kernel_rfl))⟩
        refine wp_condF rfl ?_
        refine wp_skip ?_
        refine reg_in ?_
        refine sz 2 2 ?_
        refine sgL false [] [] true (S := ⟨[(0, eL true eI p0), (1, eL true eI p1), (5, .ref 0 0 s1.2.2.length), (7, vI s1.2.1), (8, vI (IntKind.i64.wrap ((IntKind.i64.wrap (a4 - s1.1)) - a8)))] ++ [(6, vI 0), (31, vI (IntKind.i64.wrap ((IntKind.i64.wrap (a4 - s1.1)) - a8))), (32, vB false), (35, .ref 0 0 s1.2.2.length), (36, vI (IntKind.i64.wrap ((IntKind.i64.wrap (a4 - s1.1)) - a8)))] ++ [(37, .ref 1 0 1)], [oR true 1 eI s1.2.2, .row false false true true 1 [vI (IntKind.i64.wrap ((IntKind.i64.wrap (a4 - s1.1)) - a8))]], 41⟩) (by kernel_rfl) ?_
        refine appR (enc := eI) (l := s1.2.2) (m := ([IntKind.i64.wrap ((IntKind.i64.wrap (a4 - s1.1)) - a8)] : (List Int))) (w := 1) (bytes := 8) (ob := 0) (nr := true) (fl := true) (nr' := true) (fl' := true) (b := .ref 1 0 1) (rds := [1]) (S := ⟨[(0, eL true eI p0), (1, eL true eI p1), (5, .ref 0 0 s1.2.2.length), (7, vI s1.2.1), (8, vI (IntKind.i64.wrap ((IntKind.i64.wrap (a4 - s1.1)) - a8)))] ++ [(6, vI 0), (31, vI (IntKind.i64.wrap ((IntKind.i64.wrap (a4 - s1.1)) - a8))), (32, vB false), (35, .ref 0 0 s1.2.2.length), (36, vI (IntKind.i64.wrap ((IntKind.i64.wrap (a4 - s1.1)) - a8)))] ++ [(37, .ref 1 0 1), (38, .ref 2 0 ((s1.2.2 ++ ([IntKind.i64.wrap ((IntKind.i64.wrap (a4 - s1.1)) - a8)] : (List Int))).length))], [.dead, .row false false true true 1 [vI (IntKind.i64.wrap ((IntKind.i64.wrap (a4 - s1.1)) - a8))], oR true 1 eI (s1.2.2 ++ ([IntKind.i64.wrap ((IntKind.i64.wrap (a4 - s1.1)) - a8)] : (List Int)))], 41⟩) false (by kernel_rfl) rfl (by kernel_rfl) rfl (by kernel_rfl) (by kernel_rfl) h (fun h => ?_)
        refine sz 1 5 ?_
        refine reg_end rfl ?_
        refine wg [0, 1, 5, 7, 6] [2] ?_
        refine rgN (S := ⟨[(0, eL true eI p0), (1, eL true eI p1), (5, .ref 0 0 ((s1.2.2 ++ ([IntKind.i64.wrap ((IntKind.i64.wrap (a4 - s1.1)) - a8)] : (List Int))).length)), (7, vI (IntKind.i64.wrap (s1.2.1 + 1))), (6, vI 0), (13, vI s1.2.1), (14, vI (IntKind.i64.wrap (s1.2.1 + 1)))], [oR true 1 eI (s1.2.2 ++ ([IntKind.i64.wrap ((IntKind.i64.wrap (a4 - s1.1)) - a8)] : (List Int)))], 41⟩) ?_
        cases h
        exact ⟨_, rfl, (wk_gc (live := [0, 1, 5, 6, 7]) (keep := [0]) (st' := ⟨[(0, eL true eI p0), (1, eL true eI p1), (5, .ref 0 0 ((s1.2.2 ++ ([IntKind.i64.wrap ((IntKind.i64.wrap (a4 - s1.1)) - a8)] : (List Int))).length)), (6, vI 0), (7, vI (IntKind.i64.wrap (s1.2.1 + 1)))], [oR true 1 eI (s1.2.2 ++ ([IntKind.i64.wrap ((IntKind.i64.wrap (a4 - s1.1)) - a8)] : (List Int)))], 41⟩) (by kernel_rfl))⟩
      refine wp_condF rfl ?_
      refine wp_skip ?_
      refine sq ?_
      refine wp_seq ?_
      refine sq ?_
      refine wbr (S := fun b12 => ⟨[(0, eL true eI p0), (1, eL true eI p1), (5, .ref 0 0 s1.2.2.length), (7, vI s1.2.1), (8, vI (IntKind.i64.wrap (a4 - s1.1)))] ++ [(21, vI s1.2.1), (22, eL true eI p1), (23, vI (p1.length : Int)), (24, vB false), (6, vI 0), (31, vI (IntKind.i64.wrap (a4 - s1.1))), (32, vB b12)], [oR true 1 eI s1.2.2], 41⟩) h (fun q13 h => ?_) (fun q13 h => ?_)
      · refine wp_condT rfl ?_
        refine wp_seq ?_
        refine wg [0, 1, 5, 7, 8] [0] ?_
        refine rn ?_
        refine rn ?_
        refine reg_in ?_
        refine sz 2 2 ?_
        refine sgL false [] [] true (S := ⟨[(0, eL true eI p0), (1, eL true eI p1), (5, .ref 0 0 s1.2.2.length), (7, vI s1.2.1), (8, vI (IntKind.i64.wrap ((IntKind.i64.wrap (a4 - s1.1)) + 10000))), (33, vI (IntKind.i64.wrap (a4 - s1.1))), (34, vI (IntKind.i64.wrap ((IntKind.i64.wrap (a4 - s1.1)) + 10000))), (6, vI 1), (35, .ref 0 0 s1.2.2.length), (36, vI (IntKind.i64.wrap ((IntKind.i64.wrap (a4 - s1.1)) + 10000)))] ++ [(37, .ref 1 0 1)], [oR true 1 eI s1.2.2, .row false false true true 1 [vI (IntKind.i64.wrap ((IntKind.i64.wrap (a4 - s1.1)) + 10000))]], 41⟩) (by kernel_rfl) ?_
        refine appR (enc := eI) (l := s1.2.2) (m := ([IntKind.i64.wrap ((IntKind.i64.wrap (a4 - s1.1)) + 10000)] : (List Int))) (w := 1) (bytes := 8) (ob := 0) (nr := true) (fl := true) (nr' := true) (fl' := true) (b := .ref 1 0 1) (rds := [1]) (S := ⟨[(0, eL true eI p0), (1, eL true eI p1), (5, .ref 0 0 s1.2.2.length), (7, vI s1.2.1), (8, vI (IntKind.i64.wrap ((IntKind.i64.wrap (a4 - s1.1)) + 10000))), (33, vI (IntKind.i64.wrap (a4 - s1.1))), (34, vI (IntKind.i64.wrap ((IntKind.i64.wrap (a4 - s1.1)) + 10000))), (6, vI 1), (35, .ref 0 0 s1.2.2.length), (36, vI (IntKind.i64.wrap ((IntKind.i64.wrap (a4 - s1.1)) + 10000)))] ++ [(37, .ref 1 0 1), (38, .ref 2 0 ((s1.2.2 ++ ([IntKind.i64.wrap ((IntKind.i64.wrap (a4 - s1.1)) + 10000)] : (List Int))).length))], [.dead, .row false false true true 1 [vI (IntKind.i64.wrap ((IntKind.i64.wrap (a4 - s1.1)) + 10000))], oR true 1 eI (s1.2.2 ++ ([IntKind.i64.wrap ((IntKind.i64.wrap (a4 - s1.1)) + 10000)] : (List Int)))], 41⟩) false (by kernel_rfl) rfl (by kernel_rfl) rfl (by kernel_rfl) (by kernel_rfl) h (fun h => ?_)
        refine sz 1 5 ?_
        refine reg_end rfl ?_
        refine wg [0, 1, 5, 7, 6] [2] ?_
        refine rgN (S := ⟨[(0, eL true eI p0), (1, eL true eI p1), (5, .ref 0 0 ((s1.2.2 ++ ([IntKind.i64.wrap ((IntKind.i64.wrap (a4 - s1.1)) + 10000)] : (List Int))).length)), (7, vI (IntKind.i64.wrap (s1.2.1 + 1))), (6, vI 1), (13, vI s1.2.1), (14, vI (IntKind.i64.wrap (s1.2.1 + 1)))], [oR true 1 eI (s1.2.2 ++ ([IntKind.i64.wrap ((IntKind.i64.wrap (a4 - s1.1)) + 10000)] : (List Int)))], 41⟩) ?_
        cases h
        exact ⟨_, rfl, (wk_gc (live := [0, 1, 5, 6, 7]) (keep := [0]) (st' := ⟨[(0, eL true eI p0), (1, eL true eI p1), (5, .ref 0 0 ((s1.2.2 ++ ([IntKind.i64.wrap ((IntKind.i64.wrap (a4 - s1.1)) + 10000)] : (List Int))).length)), (6, vI 1), (7, vI (IntKind.i64.wrap (s1.2.1 + 1)))], [oR true 1 eI (s1.2.2 ++ ([IntKind.i64.wrap ((IntKind.i64.wrap (a4 - s1.1)) + 10000)] : (List Int)))], 41⟩) (by kernel_rfl))⟩
      refine wp_condF rfl ?_
      refine wp_skip ?_
      refine wg [0, 1, 5, 7, 8, 6] [0] ?_
      refine reg_in ?_
      refine sz 2 2 ?_
      refine sgL false [] [] true (S := ⟨[(0, eL true eI p0), (1, eL true eI p1), (5, .ref 0 0 s1.2.2.length), (7, vI s1.2.1), (8, vI (IntKind.i64.wrap (a4 - s1.1))), (6, vI 0)] ++ [(35, .ref 0 0 s1.2.2.length), (36, vI (IntKind.i64.wrap (a4 - s1.1))), (37, .ref 1 0 1)], [oR true 1 eI s1.2.2, .row false false true true 1 [vI (IntKind.i64.wrap (a4 - s1.1))]], 41⟩) (by kernel_rfl) ?_
      refine appR (enc := eI) (l := s1.2.2) (m := ([IntKind.i64.wrap (a4 - s1.1)] : (List Int))) (w := 1) (bytes := 8) (ob := 0) (nr := true) (fl := true) (nr' := true) (fl' := true) (b := .ref 1 0 1) (rds := [1]) (S := ⟨[(0, eL true eI p0), (1, eL true eI p1), (5, .ref 0 0 s1.2.2.length), (7, vI s1.2.1), (8, vI (IntKind.i64.wrap (a4 - s1.1))), (6, vI 0)] ++ [(35, .ref 0 0 s1.2.2.length), (36, vI (IntKind.i64.wrap (a4 - s1.1))), (37, .ref 1 0 1), (38, .ref 2 0 ((s1.2.2 ++ ([IntKind.i64.wrap (a4 - s1.1)] : (List Int))).length))], [.dead, .row false false true true 1 [vI (IntKind.i64.wrap (a4 - s1.1))], oR true 1 eI (s1.2.2 ++ ([IntKind.i64.wrap (a4 - s1.1)] : (List Int)))], 41⟩) false (by kernel_rfl) rfl (by kernel_rfl) rfl (by kernel_rfl) (by kernel_rfl) h (fun h => ?_)
      refine sz 1 5 ?_
      refine reg_end rfl ?_
      refine wg [0, 1, 5, 7, 6] [2] ?_
      refine rgN (S := ⟨[(0, eL true eI p0), (1, eL true eI p1), (5, .ref 0 0 ((s1.2.2 ++ ([IntKind.i64.wrap (a4 - s1.1)] : (List Int))).length)), (7, vI (IntKind.i64.wrap (s1.2.1 + 1))), (6, vI 0), (13, vI s1.2.1), (14, vI (IntKind.i64.wrap (s1.2.1 + 1)))], [oR true 1 eI (s1.2.2 ++ ([IntKind.i64.wrap (a4 - s1.1)] : (List Int)))], 41⟩) ?_
      cases h
      exact ⟨_, rfl, (wk_gc (live := [0, 1, 5, 6, 7]) (keep := [0]) (st' := ⟨[(0, eL true eI p0), (1, eL true eI p1), (5, .ref 0 0 ((s1.2.2 ++ ([IntKind.i64.wrap (a4 - s1.1)] : (List Int))).length)), (6, vI 0), (7, vI (IntKind.i64.wrap (s1.2.1 + 1)))], [oR true 1 eI (s1.2.2 ++ ([IntKind.i64.wrap (a4 - s1.1)] : (List Int)))], 41⟩) (by kernel_rfl))⟩
    refine wp_condF rfl ?_
    refine wgc [5] [0] ⟨[(5, .ref 0 0 s1.2.2.length)], [oR true 1 eI s1.2.2], 41⟩ ?_
    refine wp_exit ?_
    cases h
    exact ⟨rfl, rfl⟩
  intro x15 h out hx
  subst hx
  refine wp_seq ?_
  refine reg_in ?_
  refine sgz 1 1 (S := ⟨[(5, .ref 0 0 x15.length), (39, .ref 0 0 x15.length)], [oR true 1 eI x15], 41⟩) ?_
  refine callZ (as0 := [.ref 0 0 x15.length]) (ids := [0]) (by kernel_rfl) bodyB_76 (msnap_cons (snap_full rfl) msnap_nil (by rfl)) (fun x16 q17 => g_ref01_cut_ok x15 x16 q17) h (fun x16 q17 h => ?_)
  refine sz 1 3 ?_
  refine reg_end rfl ?_
  refine wg [4] [] ?_
  refine wp_ret ?_
  cases h
  show fnOut _ _ _ _ = _
  kernel_rfl
end Go.Ab
