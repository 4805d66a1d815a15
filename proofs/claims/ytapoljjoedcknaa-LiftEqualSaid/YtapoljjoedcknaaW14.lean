/- What the functions of this program compute, as plain functions, and that the program computes them. No conditions. -/
import Derived.Test.YtapoljjoedcknaaProg
import Derived.Test.YtapoljjoedcknaaW8
import Derived.KernelRfl
import Derived.Test.YtapoljjoedcknaaW13
import Derived.Test.YtapoljjoedcknaaEng7
import Derived.IntWalk
set_option linter.all false
namespace Go.Ab
open Go Go.Proofs
set_option linter.unusedVariables false
set_option linter.unusedSimpArgs false
set_option maxRecDepth 100000
set_option maxHeartbeats 4000000
@[reducible] noncomputable def s17_1 (p0 : Tharuspexlaw14_Known) (p1 : Tapi_Lift) : List (Nat × AV) := [(0, .agg [vI p0.Zeros, vI p0.Ones, vI p0.Child]), (1, .agg [vI p1.Grain, vI p1.Count, vI p1.One, eL false (eL true eI) p1.Rows])]
@[reducible] noncomputable def s17_3 (p0 : Tharuspexlaw14_Known) (p1 : Tapi_Lift) : List AObj := [oX true true 3 (.agg [vI p0.Zeros, vI p0.Ones, vI p0.Child]), oX true false 4 (.agg [vI p1.Grain, vI p1.Count, vI p1.One, eL false (eL true eI) p1.Rows]), oX true true 3 (.agg [vI 0, vI 0, vI 0])]
theorem g_law14_Known_Of_ok (p0 : Tharuspexlaw14_Known) (p1 : Tapi_Lift) (x : Tharuspexlaw14_Known) (h : g_law14_Known_Of p0 p1 = some x) : CallOk Try.prog 17 [.agg [vI p0.Zeros, vI p0.Ones, vI p0.Child], .agg [vI p1.Grain, vI p1.Count, vI p1.One, eL false (eL true eI) p1.Rows]] (.ret (.agg [vI x.Zeros, vI x.Ones, vI x.Child]) []) := by
  refine fn_ok [] Try.func17 rfl (by decide +kernel) rfl ?_
  unfold g_law14_Known_Of at h
  refine wp_eqB (base' := 0) (st' := ⟨(s17_1 p0 p1), [], 41⟩) rfl (by kernel_rfl) ?_
  refine wp_seq ?_
  refine reg_in ?_
  refine sz 1 1 ?_
  refine sl false [] [] false rfl ?_
  refine sz 1 3 ?_
  refine reg_end rfl ?_
  refine wp_seq ?_
  refine reg_in ?_
  refine sgz 7 7 (S := ⟨(s17_1 p0 p1) ++ [(2, .ptr 0 0 0), (3, .ptr 1 0 0), (4, .ptr 2 0 0), (6, .ptr 0 0 0), (7, vI p0.Zeros), (8, .int .u64 (IntKind.u64.wrap (p0.Zeros))), (9, .ptr 1 0 1), (10, vI p1.Count), (11, vI (IntKind.i64.wrap (p1.Count + 1))), (12, .int .u64 (IntKind.u64.wrap (IntKind.i64.wrap (p1.Count + 1))))], (s17_3 p0 p1), 41⟩) ?_
  refine remR (k := .u64) (a := IntKind.u64.wrap (p0.Zeros)) (b := IntKind.u64.wrap (IntKind.i64.wrap (p1.Count + 1))) (S := ⟨(s17_1 p0 p1) ++ [(2, .ptr 0 0 0), (3, .ptr 1 0 0), (4, .ptr 2 0 0), (6, .ptr 0 0 0), (7, vI p0.Zeros), (8, .int .u64 (IntKind.u64.wrap (p0.Zeros))), (9, .ptr 1 0 1), (10, vI p1.Count), (11, vI (IntKind.i64.wrap (p1.Count + 1))), (12, .int .u64 (IntKind.u64.wrap (IntKind.i64.wrap (p1.Count + 1))))] ++ [(13, .int .u64 (Int.tmod (IntKind.u64.wrap (p0.Zeros)) (IntKind.u64.wrap (IntKind.i64.wrap (p1.Count + 1)))))], (s17_3 p0 p1), 41⟩) (by kernel_rfl) (by kernel_rfl) h (fun h => ?_)
  refine sz 2 10 ?_
  refine reg_end rfl ?_
  refine wp_seq ?_
  refine wg [2, 3, 4, 5] [0, 1, 2] ?_
  refine rga hfol ?_
  refine sgy 10 10 (S := ⟨[(2, .ptr 0 0 0), (3, .ptr 1 0 0), (4, .ptr 2 0 0), (5, vI (IntKind.i64.wrap (Int.tmod (IntKind.u64.wrap (p0.Zeros)) (IntKind.u64.wrap (IntKind.i64.wrap (p1.Count + 1))))))] ++ [(15, vI (IntKind.i64.wrap (Int.tmod (IntKind.u64.wrap (p0.Zeros)) (IntKind.u64.wrap (IntKind.i64.wrap (p1.Count + 1)))))), (16, .ptr 0 0 1), (17, vI p0.Ones), (18, .int .u64 (IntKind.u64.wrap (p0.Ones))), (19, .ptr 1 0 1), (20, vI p1.Count), (21, vI (IntKind.i64.wrap (Int.tmod (IntKind.u64.wrap (p0.Zeros)) (IntKind.u64.wrap (IntKind.i64.wrap (p1.Count + 1)))))), (22, vI (IntKind.i64.wrap (p1.Count - (IntKind.i64.wrap (Int.tmod (IntKind.u64.wrap (p0.Zeros)) (IntKind.u64.wrap (IntKind.i64.wrap (p1.Count + 1)))))))), (23, vI (IntKind.i64.wrap ((IntKind.i64.wrap (p1.Count - (IntKind.i64.wrap (Int.tmod (IntKind.u64.wrap (p0.Zeros)) (IntKind.u64.wrap (IntKind.i64.wrap (p1.Count + 1))))))) + 1))), (24, .int .u64 (IntKind.u64.wrap (IntKind.i64.wrap ((IntKind.i64.wrap (p1.Count - (IntKind.i64.wrap (Int.tmod (IntKind.u64.wrap (p0.Zeros)) (IntKind.u64.wrap (IntKind.i64.wrap (p1.Count + 1))))))) + 1))))], (s17_3 p0 p1), 41⟩) ?_
  refine remR (k := .u64) (a := IntKind.u64.wrap (p0.Ones)) (b := IntKind.u64.wrap (IntKind.i64.wrap ((IntKind.i64.wrap (p1.Count - (IntKind.i64.wrap (Int.tmod (IntKind.u64.wrap (p0.Zeros)) (IntKind.u64.wrap (IntKind.i64.wrap (p1.Count + 1))))))) + 1))) (S := ⟨[(2, .ptr 0 0 0), (3, .ptr 1 0 0), (4, .ptr 2 0 0), (5, vI (IntKind.i64.wrap (Int.tmod (IntKind.u64.wrap (p0.Zeros)) (IntKind.u64.wrap (IntKind.i64.wrap (p1.Count + 1))))))] ++ [(15, vI (IntKind.i64.wrap (Int.tmod (IntKind.u64.wrap (p0.Zeros)) (IntKind.u64.wrap (IntKind.i64.wrap (p1.Count + 1)))))), (16, .ptr 0 0 1), (17, vI p0.Ones), (18, .int .u64 (IntKind.u64.wrap (p0.Ones))), (19, .ptr 1 0 1), (20, vI p1.Count), (21, vI (IntKind.i64.wrap (Int.tmod (IntKind.u64.wrap (p0.Zeros)) (IntKind.u64.wrap (IntKind.i64.wrap (p1.Count + 1)))))), (22, vI (IntKind.i64.wrap (p1.Count - (IntKind.i64.wrap (Int.tmod (IntKind.u64.wrap (p0.Zeros)) (IntKind.u64.wrap (IntKind.i64.wrap (p1.Count + 1)))))))), (23, vI (IntKind.i64.wrap ((IntKind.i64.wrap (p1.Count - (IntKind.i64.wrap (Int.tmod (IntKind.u64.wrap (p0.Zeros)) (IntKind.u64.wrap (IntKind.i64.wrap (p1.Count + 1))))))) + 1))), (24, .int .u64 (IntKind.u64.wrap (IntKind.i64.wrap ((IntKind.i64.wrap (p1.Count - (IntKind.i64.wrap (Int.tmod (IntKind.u64.wrap (p0.Zeros)) (IntKind.u64.wrap (IntKind.i64.wrap (p1.Count + 1))))))) + 1))))] ++ [(25, .int .u64 (Int.tmod (IntKind.u64.wrap (p0.Ones)) (IntKind.u64.wrap (IntKind.i64.wrap ((IntKind.i64.wrap (p1.Count - (IntKind.i64.wrap (Int.tmod (IntKind.u64.wrap (p0.Zeros)) (IntKind.u64.wrap (IntKind.i64.wrap (p1.Count + 1))))))) + 1)))))], (s17_3 p0 p1), 41⟩) (by kernel_rfl) (by kernel_rfl) h (fun h => ?_)
  refine sgy 6 17 (S := ⟨[(2, .ptr 0 0 0), (3, .ptr 1 0 0), (4, .ptr 2 0 0), (5, vI (IntKind.i64.wrap (Int.tmod (IntKind.u64.wrap (p0.Zeros)) (IntKind.u64.wrap (IntKind.i64.wrap (p1.Count + 1))))))] ++ [(15, vI (IntKind.i64.wrap (Int.tmod (IntKind.u64.wrap (p0.Zeros)) (IntKind.u64.wrap (IntKind.i64.wrap (p1.Count + 1)))))), (16, .ptr 0 0 1), (17, vI p0.Ones), (18, .int .u64 (IntKind.u64.wrap (p0.Ones))), (19, .ptr 1 0 1), (20, vI p1.Count), (21, vI (IntKind.i64.wrap (Int.tmod (IntKind.u64.wrap (p0.Zeros)) (IntKind.u64.wrap (IntKind.i64.wrap (p1.Count + 1)))))), (22, vI (IntKind.i64.wrap (p1.Count - (IntKind.i64.wrap (Int.tmod (IntKind.u64.wrap (p0.Zeros)) (IntKind.u64.wrap (IntKind.i64.wrap (p1.Count + 1)))))))), (23, vI (IntKind.i64.wrap ((IntKind.i64.wrap (p1.Count - (IntKind.i64.wrap (Int.tmod (IntKind.u64.wrap (p0.Zeros)) (IntKind.u64.wrap (IntKind.i64.wrap (p1.Count + 1))))))) + 1))), (24, .int .u64 (IntKind.u64.wrap (IntKind.i64.wrap ((IntKind.i64.wrap (p1.Count - (IntKind.i64.wrap (Int.tmod (IntKind.u64.wrap (p0.Zeros)) (IntKind.u64.wrap (IntKind.i64.wrap (p1.Count + 1))))))) + 1))))] ++ [(25, .int .u64 (Int.tmod (IntKind.u64.wrap (p0.Ones)) (IntKind.u64.wrap (IntKind.i64.wrap ((IntKind.i64.wrap (p1.Count - (IntKind.i64.wrap (Int.tmod (IntKind.u64.wrap (p0.Zeros)) (IntKind.u64.wrap (IntKind.i64.wrap (p1.Count + 1))))))) + 1))))), (26, vI (IntKind.i64.wrap (Int.tmod (IntKind.u64.wrap (p0.Ones)) (IntKind.u64.wrap (IntKind.i64.wrap ((IntKind.i64.wrap (p1.Count - (IntKind.i64.wrap (Int.tmod (IntKind.u64.wrap (p0.Zeros)) (IntKind.u64.wrap (IntKind.i64.wrap (p1.Count + 1))))))) + 1)))))), (27, .ptr 0 0 2), (28, vI p0.Child), (29, .int .u64 (IntKind.u64.wrap (p0.Child))), (30, .ptr 1 0 3), (31, eL false (eL true eI) p1.Rows)], (s17_3 p0 p1), 41⟩) ?_
  refine bind_elim h (fun a1 q2 h => ?_)
  refine idxZ (enc := (eL true eI)) (l := p1.Rows) (n := 0) (fl := false) (w := 1) (a := a1) (by kernel_rfl) q2 ?_
  refine sy 1 19 ?_
  refine lenZ (enc := eI) (l := a1) (fl := true) (by kernel_rfl) ?_
  refine sgy 2 22 (S := ⟨[(2, .ptr 0 0 0), (3, .ptr 1 0 0), (4, .ptr 2 0 0), (5, vI (IntKind.i64.wrap (Int.tmod (IntKind.u64.wrap (p0.Zeros)) (IntKind.u64.wrap (IntKind.i64.wrap (p1.Count + 1)))))), (15, vI (IntKind.i64.wrap (Int.tmod (IntKind.u64.wrap (p0.Zeros)) (IntKind.u64.wrap (IntKind.i64.wrap (p1.Count + 1)))))), (16, .ptr 0 0 1), (17, vI p0.Ones), (18, .int .u64 (IntKind.u64.wrap (p0.Ones))), (19, .ptr 1 0 1), (20, vI p1.Count), (21, vI (IntKind.i64.wrap (Int.tmod (IntKind.u64.wrap (p0.Zeros)) (IntKind.u64.wrap (IntKind.i64.wrap (p1.Count + 1)))))), (22, vI (IntKind.i64.wrap (p1.Count - (IntKind.i64.wrap (Int.tmod (IntKind.u64.wrap (p0.Zeros)) (IntKind.u64.wrap (IntKind.i64.wrap (p1.Count + 1)))))))), (23, vI (IntKind.i64.wrap ((IntKind.i64.wrap (p1.Count - (IntKind.i64.wrap (Int.tmod (IntKind.u64.wrap (p0.Zeros)) (IntKind.u64.wrap (IntKind.i64.wrap (p1.Count + 1))))))) + 1))), (24, .int .u64 (IntKind.u64.wrap (IntKind.i64.wrap ((IntKind.i64.wrap (p1.Count - (IntKind.i64.wrap (Int.tmod (IntKind.u64.wrap (p0.Zeros)) (IntKind.u64.wrap (IntKind.i64.wrap (p1.Count + 1))))))) + 1)))), (25, .int .u64 (Int.tmod (IntKind.u64.wrap (p0.Ones)) (IntKind.u64.wrap (IntKind.i64.wrap ((IntKind.i64.wrap (p1.Count - (IntKind.i64.wrap (Int.tmod (IntKind.u64.wrap (p0.Zeros)) (IntKind.u64.wrap (IntKind.i64.wrap (p1.Count + 1))))))) + 1))))), (26, vI (IntKind.i64.wrap (Int.tmod (IntKind.u64.wrap (p0.Ones)) (IntKind.u64.wrap (IntKind.i64.wrap ((IntKind.i64.wrap (p1.Count - (IntKind.i64.wrap (Int.tmod (IntKind.u64.wrap (p0.Zeros)) (IntKind.u64.wrap (IntKind.i64.wrap (p1.Count + 1))))))) + 1)))))), (27, .ptr 0 0 2), (28, vI p0.Child), (29, .int .u64 (IntKind.u64.wrap (p0.Child))), (30, .ptr 1 0 3), (31, eL false (eL true eI) p1.Rows), (32, .fz [eL true eI a1]), (33, eL true eI a1), (34, vI (a1.length : Int)), (35, vI (IntKind.i64.wrap ((a1.length : Int) + 1))), (36, .int .u64 (IntKind.u64.wrap (IntKind.i64.wrap ((a1.length : Int) + 1))))], (s17_3 p0 p1), 41⟩) ?_
  refine remR (k := .u64) (a := IntKind.u64.wrap (p0.Child)) (b := IntKind.u64.wrap (IntKind.i64.wrap ((a1.length : Int) + 1))) (S := ⟨[(2, .ptr 0 0 0), (3, .ptr 1 0 0), (4, .ptr 2 0 0), (5, vI (IntKind.i64.wrap (Int.tmod (IntKind.u64.wrap (p0.Zeros)) (IntKind.u64.wrap (IntKind.i64.wrap (p1.Count + 1)))))), (15, vI (IntKind.i64.wrap (Int.tmod (IntKind.u64.wrap (p0.Zeros)) (IntKind.u64.wrap (IntKind.i64.wrap (p1.Count + 1)))))), (16, .ptr 0 0 1), (17, vI p0.Ones), (18, .int .u64 (IntKind.u64.wrap (p0.Ones))), (19, .ptr 1 0 1), (20, vI p1.Count), (21, vI (IntKind.i64.wrap (Int.tmod (IntKind.u64.wrap (p0.Zeros)) (IntKind.u64.wrap (IntKind.i64.wrap (p1.Count + 1)))))), (22, vI (IntKind.i64.wrap (p1.Count - (IntKind.i64.wrap (Int.tmod (IntKind.u64.wrap (p0.Zeros)) (IntKind.u64.wrap (IntKind.i64.wrap (p1.Count + 1)))))))), (23, vI (IntKind.i64.wrap ((IntKind.i64.wrap (p1.Count - (IntKind.i64.wrap (Int.tmod (IntKind.u64.wrap (p0.Zeros)) (IntKind.u64.wrap (IntKind.i64.wrap (p1.Count + 1))))))) + 1))), (24, .int .u64 (IntKind.u64.wrap (IntKind.i64.wrap ((IntKind.i64.wrap (p1.Count - (IntKind.i64.wrap (Int.tmod (IntKind.u64.wrap (p0.Zeros)) (IntKind.u64.wrap (IntKind.i64.wrap (p1.Count + 1))))))) + 1)))), (25, .int .u64 (Int.tmod (IntKind.u64.wrap (p0.Ones)) (IntKind.u64.wrap (IntKind.i64.wrap ((IntKind.i64.wrap (p1.Count - (IntKind.i64.wrap (Int.tmod (IntKind.u64.wrap (p0.Zeros)) (IntKind.u64.wrap (IntKind.i64.wrap (p1.Count + 1))))))) + 1))))), (26, vI (IntKind.i64.wrap (Int.tmod (IntKind.u64.wrap (p0.Ones)) (IntKind.u64.wrap (IntKind.i64.wrap ((IntKind.i64.wrap (p1.Count - (IntKind.i64.wrap (Int.tmod (IntKind.u64.wrap (p0.Zeros)) (IntKind.u64.wrap (IntKind.i64.wrap (p1.Count + 1))))))) + 1)))))), (27, .ptr 0 0 2), (28, vI p0.Child), (29, .int .u64 (IntKind.u64.wrap (p0.Child))), (30, .ptr 1 0 3), (31, eL false (eL true eI) p1.Rows), (32, .fz [eL true eI a1]), (33, eL true eI a1), (34, vI (a1.length : Int)), (35, vI (IntKind.i64.wrap ((a1.length : Int) + 1))), (36, .int .u64 (IntKind.u64.wrap (IntKind.i64.wrap ((a1.length : Int) + 1))))] ++ [(37, .int .u64 (Int.tmod (IntKind.u64.wrap (p0.Child)) (IntKind.u64.wrap (IntKind.i64.wrap ((a1.length : Int) + 1)))))], (s17_3 p0 p1), 41⟩) (by kernel_rfl) (by kernel_rfl) h (fun h => ?_)
  refine sy 4 27 ?_
  refine rgd ?_
  refine wg [4] [2] ?_
  refine wp_ret ?_
  cases h
  show fnOut _ _ _ _ = _
  kernel_rfl
theorem g_ref14_Split_ok (p0 : Int) (p1 : Int) (p2 : (List Int)) (x : (List Int)) (h : g_ref14_Split p0 p1 p2 = some x) : CallOk Try.prog 41 [vI p0, vI p1, eL true (AV.int .u8) p2] (.ret (.ref 0 0 x.length) [oR true 1 eI x]) := by
  refine fn_ok [] Try.func41 rfl (by decide +kernel) rfl ?_
  unfold g_ref14_Split at h
  refine wp_eqB (base' := 0) (st' := ⟨[(0, vI p0), (1, vI p1), (2, eL true (AV.int .u8) p2)], [], 42⟩) rfl (by kernel_rfl) ?_
  refine sq ?_
  refine sq ?_
  refine sq ?_
  refine wp_seq ?_
  refine sqN (S := ⟨[(0, vI p0), (1, vI p1), (2, eL true (AV.int .u8) p2), (6, .nils), (7, .nils), (11, vI p1), (8, vI p1), (9, vI 0)], [], 42⟩) ?_
  refine wp_block ?_
  refine wp_while (σ := (Int × Int × (List Int))) (ρ := (List Int)) (n := fuel) (body := g_ref14_Split_b0 p0 p2) (I := fun s1 => ⟨[(0, vI p0), (2, eL true (AV.int .u8) p2), (7, .ref 0 0 s1.2.2.length), (8, vI s1.1), (9, vI s1.2.1)], [oR true 1 eI s1.2.2], 42⟩) (Ex := fun v out => out = .go (.exit 0) ⟨[(7, .ref 0 0 v.length)], [oR true 1 eI v], 42⟩) (p1, 0, ([] : (List Int))) (wk_trans (wk_gc (live := [0, 2, 7, 8, 9]) (keep := []) (st' := ⟨[(0, vI p0), (2, eL true (AV.int .u8) p2), (7, .nils), (8, vI p1), (9, vI 0)], [], 42⟩) (by kernel_rfl)) (wk_trans (wk_nil 7 1 true true (st' := ⟨[(0, vI p0), (2, eL true (AV.int .u8) p2), (7, .ref 0 0 0), (8, vI p1), (9, vI 0)], [.row false false true true 1 []], 42⟩) (by kernel_rfl)) (wk_gc (live := [0, 2, 7, 8, 9]) (keep := [0]) (st' := ⟨[(0, vI p0), (2, eL true (AV.int .u8) p2), (7, .ref 0 0 (([] : (List Int)).length)), (8, vI p1), (9, vI 0)], [oR true 1 eI ([] : (List Int))], 42⟩) (by kernel_rfl)))) h ?_ ?_
  · intro s1 o h
    unfold g_ref14_Split_b0 at h
    refine wp_seq ?_
    refine sq ?_
    refine wbr (S := fun b2 => ⟨[(0, vI p0), (2, eL true (AV.int .u8) p2), (7, .ref 0 0 s1.2.2.length), (8, vI s1.1), (9, vI s1.2.1)] ++ [(12, vI s1.2.1), (13, vI p0), (14, vB b2)], [oR true 1 eI s1.2.2], 42⟩) h (fun q3 h => ?_) (fun q3 h => ?_)
    · refine wp_condT rfl ?_
      refine wp_skip ?_
      refine wp_seq ?_
      refine wp_block ?_
      refine sq ?_
      refine wp_seq ?_
      refine sq ?_
      refine wbr (S := fun b4 => ⟨[(0, vI p0), (2, eL true (AV.int .u8) p2), (7, .ref 0 0 s1.2.2.length), (8, vI s1.1), (9, vI s1.2.1)] ++ [(12, vI s1.2.1), (13, vI p0), (14, vB true), (17, vI s1.1), (10, vI s1.1), (18, vI s1.2.1), (19, vI p0), (20, vI (IntKind.i64.wrap (p0 - 1))), (21, vB b4)], [oR true 1 eI s1.2.2], 42⟩) h (fun q5 h => ?_) (fun q5 h => ?_)
      · refine wp_condT rfl ?_
        refine wp_seq ?_
        refine wg [0, 2, 7, 8, 9] [0] ?_
        refine rn ?_
        refine wp_seq ?_
        refine reg_in ?_
        refine sz 2 2 ?_
        refine lenZ (enc := (AV.int .u8)) (l := p2) (fl := true) (by kernel_rfl) ?_
        refine sz 1 4 ?_
        refine reg_end rfl ?_
        refine wbr (S := fun b6 => ⟨[(0, vI p0), (2, eL true (AV.int .u8) p2), (7, .ref 0 0 s1.2.2.length), (8, vI s1.1), (9, vI s1.2.1)] ++ [(10, vI 0), (22, vI s1.2.1), (23, eL true (AV.int .u8) p2), (24, vI (p2.length : Int)), (25, vB b6)], [oR true 1 eI s1.2.2], 42⟩) h (fun q7 h => ?_) (fun q7 h => ?_)
        · refine wp_condT rfl ?_
          refine wg [0, 2, 7, 8, 9] [0] ?_
          refine reg_in ?_
          refine sgz 2 2 (S := ⟨[(0, vI p0), (2, eL true (AV.int .u8) p2), (7, .ref 0 0 s1.2.2.length), (8, vI s1.1), (9, vI s1.2.1)] ++ [(26, eL true (AV.int .u8) p2), (27, vI s1.2.1)], [oR true 1 eI s1.2.2], 42⟩) ?_
          refine bind_elim h (fun a8 q9 h => ?_)
          refine idxZ (enc := (AV.int .u8)) (l := p2) (n := s1.2.1) (fl := true) (w := 1) (a := a8) (by kernel_rfl) q9 ?_
          refine sgz 4 7 (S := ⟨[(0, vI p0), (2, eL true (AV.int .u8) p2), (7, .ref 0 0 s1.2.2.length), (8, vI s1.1), (9, vI s1.2.1)] ++ [(26, eL true (AV.int .u8) p2), (27, vI s1.2.1), (28, .fz [.int .u8 a8]), (29, .int .u8 a8), (30, vI (IntKind.i64.wrap (a8))), (31, vI s1.1), (32, vI (IntKind.i64.wrap (s1.1 + 1)))], [oR true 1 eI s1.2.2], 42⟩) ?_
          refine remR (k := .i64) (a := IntKind.i64.wrap (a8)) (b := IntKind.i64.wrap (s1.1 + 1)) (S := ⟨[(0, vI p0), (2, eL true (AV.int .u8) p2), (7, .ref 0 0 s1.2.2.length), (8, vI s1.1), (9, vI s1.2.1)] ++ [(26, eL true (AV.int .u8) p2), (27, vI s1.2.1), (28, .fz [.int .u8 a8]), (29, .int .u8 a8), (30, vI (IntKind.i64.wrap (a8))), (31, vI s1.1), (32, vI (IntKind.i64.wrap (s1.1 + 1)))] ++ [(33, vI (Int.tmod (IntKind.i64.wrap (a8)) (IntKind.i64.wrap (s1.1 + 1))))], [oR true 1 eI s1.2.2], 42⟩) (by kernel_rfl) (by kernel_rfl) h (fun h => ?_)
          refine sz 1 9 ?_
          refine reg_end rfl ?_
          refine wp_seq ?_
          refine wg [0, 2, 7, 8, 9, 10] [0] ?_
          refine reg_in ?_
          refine sz 2 2 ?_
          refine sgL false [] [] true (S := ⟨[(0, vI p0), (2, eL true (AV.int .u8) p2), (7, .ref 0 0 s1.2.2.length), (8, vI s1.1), (9, vI s1.2.1), (10, vI (Int.tmod (IntKind.i64.wrap (a8)) (IntKind.i64.wrap (s1.1 + 1))))] ++ [(34, .ref 0 0 s1.2.2.length), (35, vI (Int.tmod (IntKind.i64.wrap (a8)) (IntKind.i64.wrap (s1.1 + 1)))), (36, .ref 1 0 1)], [oR true 1 eI s1.2.2, .row false false true true 1 [vI (Int.tmod (IntKind.i64.wrap (a8)) (IntKind.i64.wrap (s1.1 + 1)))]], 42⟩) (by kernel_rfl) ?_
          refine appR (enc := eI) (l := s1.2.2) (m := ([Int.tmod (IntKind.i64.wrap (a8)) (IntKind.i64.wrap (s1.1 + 1))] : (List Int))) (w := 1) (bytes := 8) (ob := 0) (nr := true) (fl := true) (nr' := true) (fl' := true) (b := .ref 1 0 1) (rds := [1]) (S := ⟨[(0, vI p0), (2, eL true (AV.int .u8) p2), (7, .ref 0 0 s1.2.2.length), (8, vI s1.1), (9, vI s1.2.1), (10, vI (Int.tmod (IntKind.i64.wrap (a8)) (IntKind.i64.wrap (s1.1 + 1))))] ++ [(34, .ref 0 0 s1.2.2.length), (35, vI (Int.tmod (IntKind.i64.wrap (a8)) (IntKind.i64.wrap (s1.1 + 1)))), (36, .ref 1 0 1), (37, .ref 2 0 ((s1.2.2 ++ ([Int.tmod (IntKind.i64.wrap (a8)) (IntKind.i64.wrap (s1.1 + 1))] : (List Int))).length))], [.dead, .row false false true true 1 [vI (Int.tmod (IntKind.i64.wrap (a8)) (IntKind.i64.wrap (s1.1 + 1)))], oR true 1 eI (s1.2.2 ++ ([Int.tmod (IntKind.i64.wrap (a8)) (IntKind.i64.wrap (s1.1 + 1))] : (List Int)))], 42⟩) false (by kernel_rfl) rfl (by kernel_rfl) rfl (by kernel_rfl) (by kernel_rfl) h (fun h => ?_)
          refine sz 1 5 ?_
          refine reg_end rfl ?_
          refine rn ?_
          refine wg [0, 2, 7, 8, 9] [2] ?_
          refine rgN (S := ⟨[(0, vI p0), (2, eL true (AV.int .u8) p2), (7, .ref 0 0 ((s1.2.2 ++ ([Int.tmod (IntKind.i64.wrap (a8)) (IntKind.i64.wrap (s1.1 + 1))] : (List Int))).length)), (8, vI (IntKind.i64.wrap (s1.1 - (Int.tmod (IntKind.i64.wrap (a8)) (IntKind.i64.wrap (s1.1 + 1)))))), (9, vI (IntKind.i64.wrap (s1.2.1 + 1)))] ++ [(15, vI s1.2.1), (16, vI (IntKind.i64.wrap (s1.2.1 + 1)))], [oR true 1 eI (s1.2.2 ++ ([Int.tmod (IntKind.i64.wrap (a8)) (IntKind.i64.wrap (s1.1 + 1))] : (List Int)))], 42⟩) ?_
          cases h
          exact ⟨_, rfl, (wk_gc (live := [0, 2, 7, 8, 9]) (keep := [0]) (st' := ⟨[(0, vI p0), (2, eL true (AV.int .u8) p2), (7, .ref 0 0 ((s1.2.2 ++ ([Int.tmod (IntKind.i64.wrap (a8)) (IntKind.i64.wrap (s1.1 + 1))] : (List Int))).length)), (8, vI (IntKind.i64.wrap (s1.1 - (Int.tmod (IntKind.i64.wrap (a8)) (IntKind.i64.wrap (s1.1 + 1)))))), (9, vI (IntKind.i64.wrap (s1.2.1 + 1)))], [oR true 1 eI (s1.2.2 ++ ([Int.tmod (IntKind.i64.wrap (a8)) (IntKind.i64.wrap (s1.1 + 1))] : (List Int)))], 42⟩) (by kernel_rfl))⟩
        refine wp_condF rfl ?_
        refine wp_skip ?_
        refine wp_seq ?_
        refine reg_in ?_
        refine sz 2 2 ?_
        refine sgL false [] [] true (S := ⟨[(0, vI p0), (2, eL true (AV.int .u8) p2), (7, .ref 0 0 s1.2.2.length), (8, vI s1.1), (9, vI s1.2.1)] ++ [(10, vI 0), (22, vI s1.2.1), (23, eL true (AV.int .u8) p2), (24, vI (p2.length : Int)), (25, vB false), (34, .ref 0 0 s1.2.2.length), (35, vI 0), (36, .ref 1 0 1)], [oR true 1 eI s1.2.2, .row false false true true 1 [vI 0]], 42⟩) (by kernel_rfl) ?_
        refine appR (enc := eI) (l := s1.2.2) (m := ([0] : (List Int))) (w := 1) (bytes := 8) (ob := 0) (nr := true) (fl := true) (nr' := true) (fl' := true) (b := .ref 1 0 1) (rds := [1]) (S := ⟨[(0, vI p0), (2, eL true (AV.int .u8) p2), (7, .ref 0 0 s1.2.2.length), (8, vI s1.1), (9, vI s1.2.1)] ++ [(10, vI 0), (22, vI s1.2.1), (23, eL true (AV.int .u8) p2), (24, vI (p2.length : Int)), (25, vB false), (34, .ref 0 0 s1.2.2.length), (35, vI 0), (36, .ref 1 0 1), (37, .ref 2 0 ((s1.2.2 ++ ([0] : (List Int))).length))], [.dead, .row false false true true 1 [vI 0], oR true 1 eI (s1.2.2 ++ ([0] : (List Int)))], 42⟩) false (by kernel_rfl) rfl (by kernel_rfl) rfl (by kernel_rfl) (by kernel_rfl) h (fun h => ?_)
        refine sz 1 5 ?_
        refine reg_end rfl ?_
        refine wg [0, 2, 7, 8, 9, 10] [2] ?_
        refine rn ?_
        refine rgN (S := ⟨[(0, vI p0), (2, eL true (AV.int .u8) p2), (7, .ref 0 0 ((s1.2.2 ++ ([0] : (List Int))).length)), (8, vI (IntKind.i64.wrap (s1.1 - 0))), (9, vI (IntKind.i64.wrap (s1.2.1 + 1))), (10, vI 0), (38, vI s1.1), (39, vI 0), (40, vI (IntKind.i64.wrap (s1.1 - 0))), (15, vI s1.2.1), (16, vI (IntKind.i64.wrap (s1.2.1 + 1)))], [oR true 1 eI (s1.2.2 ++ ([0] : (List Int)))], 42⟩) ?_
        cases h
        exact ⟨_, rfl, (wk_gc (live := [0, 2, 7, 8, 9]) (keep := [0]) (st' := ⟨[(0, vI p0), (2, eL true (AV.int .u8) p2), (7, .ref 0 0 ((s1.2.2 ++ ([0] : (List Int))).length)), (8, vI (IntKind.i64.wrap (s1.1 - 0))), (9, vI (IntKind.i64.wrap (s1.2.1 + 1)))], [oR true 1 eI (s1.2.2 ++ ([0] : (List Int)))], 42⟩) (by kernel_rfl))⟩
      refine wp_condF rfl ?_
      refine wp_skip ?_
      refine wp_seq ?_
      refine wg [0, 2, 7, 8, 9, 10] [0] ?_
      refine reg_in ?_
      refine sz 2 2 ?_
      refine sgL false [] [] true (S := ⟨[(0, vI p0), (2, eL true (AV.int .u8) p2), (7, .ref 0 0 s1.2.2.length), (8, vI s1.1), (9, vI s1.2.1), (10, vI s1.1)] ++ [(34, .ref 0 0 s1.2.2.length), (35, vI s1.1), (36, .ref 1 0 1)], [oR true 1 eI s1.2.2, .row false false true true 1 [vI s1.1]], 42⟩) (by kernel_rfl) ?_
      refine appR (enc := eI) (l := s1.2.2) (m := ([s1.1] : (List Int))) (w := 1) (bytes := 8) (ob := 0) (nr := true) (fl := true) (nr' := true) (fl' := true) (b := .ref 1 0 1) (rds := [1]) (S := ⟨[(0, vI p0), (2, eL true (AV.int .u8) p2), (7, .ref 0 0 s1.2.2.length), (8, vI s1.1), (9, vI s1.2.1), (10, vI s1.1)] ++ [(34, .ref 0 0 s1.2.2.length), (35, vI s1.1), (36, .ref 1 0 1), (37, .ref 2 0 ((s1.2.2 ++ ([s1.1] : (List Int))).length))], [.dead, .row false false true true 1 [vI s1.1], oR true 1 eI (s1.2.2 ++ ([s1.1] : (List Int)))], 42⟩) false (by kernel_rfl) rfl (by kernel_rfl) rfl (by kernel_rfl) (by kernel_rfl) h (fun h => ?_)
      refine sz 1 5 ?_
      refine reg_end rfl ?_
      refine rn ?_
      refine wg [0, 2, 7, 8, 9] [2] ?_
      refine rgN (S := ⟨[(0, vI p0), (2, eL true (AV.int .u8) p2), (7, .ref 0 0 ((s1.2.2 ++ ([s1.1] : (List Int))).length)), (8, vI (IntKind.i64.wrap (s1.1 - s1.1))), (9, vI (IntKind.i64.wrap (s1.2.1 + 1)))] ++ [(15, vI s1.2.1), (16, vI (IntKind.i64.wrap (s1.2.1 + 1)))], [oR true 1 eI (s1.2.2 ++ ([s1.1] : (List Int)))], 42⟩) ?_
      cases h
      exact ⟨_, rfl, (wk_gc (live := [0, 2, 7, 8, 9]) (keep := [0]) (st' := ⟨[(0, vI p0), (2, eL true (AV.int .u8) p2), (7, .ref 0 0 ((s1.2.2 ++ ([s1.1] : (List Int))).length)), (8, vI (IntKind.i64.wrap (s1.1 - s1.1))), (9, vI (IntKind.i64.wrap (s1.2.1 + 1)))], [oR true 1 eI (s1.2.2 ++ ([s1.1] : (List Int)))], 42⟩) (by kernel_rfl))⟩
    refine wp_condF rfl ?_
    refine wgc [7] [0] ⟨[(7, .ref 0 0 s1.2.2.length)], [oR true 1 eI s1.2.2], 42⟩ ?_
    refine wp_exit ?_
    cases h
    exact ⟨rfl, rfl⟩
  intro x11 h out hx
  subst hx
  refine sq ?_
  refine wg [6] [0] ?_
  refine wp_ret ?_
  cases h
  show fnOut _ _ _ _ = _
  kernel_rfl
@[reducible] noncomputable def s18_48 (s1 : (Int × (List (List Int)))) (s4 : (Int × (List Int))) : List (Nat × AV) := [(1, .ptr 0 0 0), (2, .ptr 1 0 0), (3, .ptr 2 0 0), (4, vI s1.1), (5, .ref 3 0 s4.2.length), (6, vI s4.1)]
theorem g_ref14_Draft_Lift_ok (p0 : Tharuspexref14_Draft) (x : Tapi_Lift) (h : g_ref14_Draft_Lift p0 = some x) : CallOk Try.prog 18 [.agg [.int .u8 p0.Grain, .int .u8 p0.Count, .int .u8 p0.One, .int .u8 p0.Card, eL true (AV.int .u8) p0.L]] (.ret (.agg [vI x.Grain, vI x.Count, vI x.One, .ref 0 0 x.Rows.length]) [oR false 1 (eL true eI) x.Rows]) := by
  refine fn_ok [] Try.func18 rfl (by decide +kernel) rfl ?_
  unfold g_ref14_Draft_Lift at h
  refine wp_eqB (base' := 0) (st' := ⟨[(0, .agg [.int .u8 p0.Grain, .int .u8 p0.Count, .int .u8 p0.One, .int .u8 p0.Card, eL true (AV.int .u8) p0.L])], [], 72⟩) rfl (by kernel_rfl) ?_
  refine wp_seq ?_
  refine reg_in ?_
  refine sl false [] [] false rfl ?_
  refine sl false [] [] false rfl ?_
  refine reg_end rfl ?_
  refine wp_seq ?_
  refine reg_in ?_
  refine sz 11 11 ?_
  refine sl false [] [] false rfl ?_
  refine sz 1 13 ?_
  refine reg_end rfl ?_
  refine wp_seq ?_
  refine wg [1, 2, 3] [0, 1, 2] ?_
  refine reg_in ?_
  refine sgz 6 6 (S := ⟨[(1, .ptr 0 0 0), (2, .ptr 1 0 0), (3, .ptr 2 0 0), (18, .ptr 0 0 2), (19, .int .u8 p0.One), (20, vI (IntKind.i64.wrap (p0.One))), (21, .ptr 2 0 0), (22, vI (IntKind.i64.wrap (1 + (IntKind.i64.wrap (Int.tmod p0.Grain 20))))), (23, vI (IntKind.i64.wrap ((IntKind.i64.wrap (1 + (IntKind.i64.wrap (Int.tmod p0.Grain 20)))) + 1)))], [oX true false 5 (.agg [.int .u8 p0.Grain, .int .u8 p0.Count, .int .u8 p0.One, .int .u8 p0.Card, eL true (AV.int .u8) p0.L]), oX true false 4 (.agg [vI 0, vI 0, vI 0, .nils]), oX true false 4 (.agg [vI (IntKind.i64.wrap (1 + (IntKind.i64.wrap (Int.tmod p0.Grain 20)))), vI (IntKind.i64.wrap (1 + (IntKind.i64.wrap (Int.tmod p0.Count 10)))), vI 0, .nils])], 72⟩) ?_
  refine remR (k := .i64) (a := IntKind.i64.wrap (p0.One)) (b := IntKind.i64.wrap ((IntKind.i64.wrap (1 + (IntKind.i64.wrap (Int.tmod p0.Grain 20)))) + 1)) (S := ⟨[(1, .ptr 0 0 0), (2, .ptr 1 0 0), (3, .ptr 2 0 0), (18, .ptr 0 0 2), (19, .int .u8 p0.One), (20, vI (IntKind.i64.wrap (p0.One))), (21, .ptr 2 0 0), (22, vI (IntKind.i64.wrap (1 + (IntKind.i64.wrap (Int.tmod p0.Grain 20))))), (23, vI (IntKind.i64.wrap ((IntKind.i64.wrap (1 + (IntKind.i64.wrap (Int.tmod p0.Grain 20)))) + 1)))] ++ [(24, vI (Int.tmod (IntKind.i64.wrap (p0.One)) (IntKind.i64.wrap ((IntKind.i64.wrap (1 + (IntKind.i64.wrap (Int.tmod p0.Grain 20)))) + 1))))], [oX true false 5 (.agg [.int .u8 p0.Grain, .int .u8 p0.Count, .int .u8 p0.One, .int .u8 p0.Card, eL true (AV.int .u8) p0.L]), oX true false 4 (.agg [vI 0, vI 0, vI 0, .nils]), oX true false 4 (.agg [vI (IntKind.i64.wrap (1 + (IntKind.i64.wrap (Int.tmod p0.Grain 20)))), vI (IntKind.i64.wrap (1 + (IntKind.i64.wrap (Int.tmod p0.Count 10)))), vI 0, .nils])], 72⟩) (by kernel_rfl) (by kernel_rfl) h (fun h => ?_)
  refine sz 2 9 ?_
  refine reg_end rfl ?_
  refine wp_seq ?_
  refine wp_seq ?_
  refine wg [1, 2, 3] [0, 1, 2] ?_
  refine rgN (S := ⟨[(1, .ptr 0 0 0), (2, .ptr 1 0 0), (3, .ptr 2 0 0), (4, vI 0)], [oX true false 5 (.agg [.int .u8 p0.Grain, .int .u8 p0.Count, .int .u8 p0.One, .int .u8 p0.Card, eL true (AV.int .u8) p0.L]), oX true false 4 (.agg [vI 0, vI 0, vI 0, .nils]), oX true false 4 (.agg [vI (IntKind.i64.wrap (1 + (IntKind.i64.wrap (Int.tmod p0.Grain 20)))), vI (IntKind.i64.wrap (1 + (IntKind.i64.wrap (Int.tmod p0.Count 10)))), vI (Int.tmod (IntKind.i64.wrap (p0.One)) (IntKind.i64.wrap ((IntKind.i64.wrap (1 + (IntKind.i64.wrap (Int.tmod p0.Grain 20)))) + 1))), .nils])], 72⟩) ?_
  refine wp_block ?_
  refine wp_while (σ := (Int × (List (List Int)))) (ρ := (List (List Int))) (n := fuel) (body := g_ref14_Draft_Lift_b1 p0) (I := fun s1 => ⟨[(1, .ptr 0 0 0), (2, .ptr 1 0 0), (3, .ptr 2 0 0), (4, vI s1.1)], [oX true false 5 (.agg [.int .u8 p0.Grain, .int .u8 p0.Count, .int .u8 p0.One, .int .u8 p0.Card, eL true (AV.int .u8) p0.L]), oX true false 4 (.agg [vI 0, vI 0, vI 0, .nils]), oX false false 4 (.agg [vI (IntKind.i64.wrap (1 + (IntKind.i64.wrap (Int.tmod p0.Grain 20)))), vI (IntKind.i64.wrap (1 + (IntKind.i64.wrap (Int.tmod p0.Count 10)))), vI (Int.tmod (IntKind.i64.wrap (p0.One)) (IntKind.i64.wrap ((IntKind.i64.wrap (1 + (IntKind.i64.wrap (Int.tmod p0.Grain 20)))) + 1))), .ref 3 0 s1.2.length]), oR false 1 (eL true eI) s1.2], 72⟩) (Ex := fun v out => out = .go (.exit 0) ⟨[(2, .ptr 0 0 0), (3, .ptr 1 0 0)], [oX true false 4 (.agg [vI 0, vI 0, vI 0, .nils]), oX false false 4 (.agg [vI (IntKind.i64.wrap (1 + (IntKind.i64.wrap (Int.tmod p0.Grain 20)))), vI (IntKind.i64.wrap (1 + (IntKind.i64.wrap (Int.tmod p0.Count 10)))), vI (Int.tmod (IntKind.i64.wrap (p0.One)) (IntKind.i64.wrap ((IntKind.i64.wrap (1 + (IntKind.i64.wrap (Int.tmod p0.Grain 20)))) + 1))), .ref 2 0 v.length]), oR false 1 (eL true eI) v], 72⟩) (0, ([] : (List (List Int)))) (wk_trans (wk_gc (live := [1, 2, 3, 4]) (keep := [0, 1, 2]) (st' := ⟨[(1, .ptr 0 0 0), (2, .ptr 1 0 0), (3, .ptr 2 0 0), (4, vI 0)], [oX true false 5 (.agg [.int .u8 p0.Grain, .int .u8 p0.Count, .int .u8 p0.One, .int .u8 p0.Card, eL true (AV.int .u8) p0.L]), oX true false 4 (.agg [vI 0, vI 0, vI 0, .nils]), oX true false 4 (.agg [vI (IntKind.i64.wrap (1 + (IntKind.i64.wrap (Int.tmod p0.Grain 20)))), vI (IntKind.i64.wrap (1 + (IntKind.i64.wrap (Int.tmod p0.Count 10)))), vI (Int.tmod (IntKind.i64.wrap (p0.One)) (IntKind.i64.wrap ((IntKind.i64.wrap (1 + (IntKind.i64.wrap (Int.tmod p0.Grain 20)))) + 1))), .nils])], 72⟩) (by kernel_rfl)) (wk_trans (wk_nilO 2 0 3 1 true false (st' := ⟨[(1, .ptr 0 0 0), (2, .ptr 1 0 0), (3, .ptr 2 0 0), (4, vI 0)], [oX true false 5 (.agg [.int .u8 p0.Grain, .int .u8 p0.Count, .int .u8 p0.One, .int .u8 p0.Card, eL true (AV.int .u8) p0.L]), oX true false 4 (.agg [vI 0, vI 0, vI 0, .nils]), oX false false 4 (.agg [vI (IntKind.i64.wrap (1 + (IntKind.i64.wrap (Int.tmod p0.Grain 20)))), vI (IntKind.i64.wrap (1 + (IntKind.i64.wrap (Int.tmod p0.Count 10)))), vI (Int.tmod (IntKind.i64.wrap (p0.One)) (IntKind.i64.wrap ((IntKind.i64.wrap (1 + (IntKind.i64.wrap (Int.tmod p0.Grain 20)))) + 1))), .ref 3 0 0]), .row false false true false 1 []], 72⟩) (by kernel_rfl)) (wk_gc (live := [1, 2, 3, 4]) (keep := [0, 1, 2, 3]) (st' := ⟨[(1, .ptr 0 0 0), (2, .ptr 1 0 0), (3, .ptr 2 0 0), (4, vI 0)], [oX true false 5 (.agg [.int .u8 p0.Grain, .int .u8 p0.Count, .int .u8 p0.One, .int .u8 p0.Card, eL true (AV.int .u8) p0.L]), oX true false 4 (.agg [vI 0, vI 0, vI 0, .nils]), oX false false 4 (.agg [vI (IntKind.i64.wrap (1 + (IntKind.i64.wrap (Int.tmod p0.Grain 20)))), vI (IntKind.i64.wrap (1 + (IntKind.i64.wrap (Int.tmod p0.Count 10)))), vI (Int.tmod (IntKind.i64.wrap (p0.One)) (IntKind.i64.wrap ((IntKind.i64.wrap (1 + (IntKind.i64.wrap (Int.tmod p0.Grain 20)))) + 1))), .ref 3 0 (([] : (List (List Int))).length)]), oR false 1 (eL true eI) ([] : (List (List Int)))], 72⟩) (by kernel_rfl)))) h ?_ ?_
  · intro s1 o h
    unfold g_ref14_Draft_Lift_b1 at h
    refine wp_seq ?_
    refine sq ?_
    refine wbr (S := fun b2 => ⟨[(1, .ptr 0 0 0), (2, .ptr 1 0 0), (3, .ptr 2 0 0), (4, vI s1.1), (26, vI s1.1), (27, .ptr 2 0 1), (28, vI (IntKind.i64.wrap (1 + (IntKind.i64.wrap (Int.tmod p0.Count 10))))), (29, vB b2)], [oX true false 5 (.agg [.int .u8 p0.Grain, .int .u8 p0.Count, .int .u8 p0.One, .int .u8 p0.Card, eL true (AV.int .u8) p0.L]), oX true false 4 (.agg [vI 0, vI 0, vI 0, .nils]), oX false false 4 (.agg [vI (IntKind.i64.wrap (1 + (IntKind.i64.wrap (Int.tmod p0.Grain 20)))), vI (IntKind.i64.wrap (1 + (IntKind.i64.wrap (Int.tmod p0.Count 10)))), vI (Int.tmod (IntKind.i64.wrap (p0.One)) (IntKind.i64.wrap ((IntKind.i64.wrap (1 + (IntKind.i64.wrap (Int.tmod p0.Grain 20)))) + 1))), .ref 3 0 s1.2.length]), oR false 1 (eL true eI) s1.2], 72⟩) h (fun q3 h => ?_) (fun q3 h => ?_)
    · refine wp_condT rfl ?_
      refine wp_skip ?_
      refine wp_seq ?_
      refine wp_block ?_
      refine sq ?_
      refine wp_seq ?_
      refine sqN (S := ⟨[(1, .ptr 0 0 0), (2, .ptr 1 0 0), (3, .ptr 2 0 0), (4, vI s1.1), (26, vI s1.1), (27, .ptr 2 0 1), (28, vI (IntKind.i64.wrap (1 + (IntKind.i64.wrap (Int.tmod p0.Count 10))))), (29, vB true), (5, .nils), (6, vI 0)], [oX true false 5 (.agg [.int .u8 p0.Grain, .int .u8 p0.Count, .int .u8 p0.One, .int .u8 p0.Card, eL true (AV.int .u8) p0.L]), oX true false 4 (.agg [vI 0, vI 0, vI 0, .nils]), oX false false 4 (.agg [vI (IntKind.i64.wrap (1 + (IntKind.i64.wrap (Int.tmod p0.Grain 20)))), vI (IntKind.i64.wrap (1 + (IntKind.i64.wrap (Int.tmod p0.Count 10)))), vI (Int.tmod (IntKind.i64.wrap (p0.One)) (IntKind.i64.wrap ((IntKind.i64.wrap (1 + (IntKind.i64.wrap (Int.tmod p0.Grain 20)))) + 1))), .ref 3 0 s1.2.length]), oR false 1 (eL true eI) s1.2], 72⟩) ?_
      refine wp_block ?_
      refine wp_while (σ := (Int × (List Int))) (ρ := (List Int)) (n := fuel) (body := g_ref14_Draft_Lift_b0 p0 s1) (I := fun s4 => ⟨(s18_48 s1 s4), [oX true false 5 (.agg [.int .u8 p0.Grain, .int .u8 p0.Count, .int .u8 p0.One, .int .u8 p0.Card, eL true (AV.int .u8) p0.L]), oX true false 4 (.agg [vI 0, vI 0, vI 0, .nils]), oX false false 4 (.agg [vI (IntKind.i64.wrap (1 + (IntKind.i64.wrap (Int.tmod p0.Grain 20)))), vI (IntKind.i64.wrap (1 + (IntKind.i64.wrap (Int.tmod p0.Count 10)))), vI (Int.tmod (IntKind.i64.wrap (p0.One)) (IntKind.i64.wrap ((IntKind.i64.wrap (1 + (IntKind.i64.wrap (Int.tmod p0.Grain 20)))) + 1))), .ref 4 0 s1.2.length]), oR true 1 (AV.int .u8) s4.2, oR false 1 (eL true eI) s1.2], 72⟩) (Ex := fun v out => out = .go (.exit 2) ⟨[(1, .ptr 0 0 0), (2, .ptr 1 0 0), (3, .ptr 2 0 0), (4, vI s1.1), (5, .ref 3 0 v.length)], [oX true false 5 (.agg [.int .u8 p0.Grain, .int .u8 p0.Count, .int .u8 p0.One, .int .u8 p0.Card, eL true (AV.int .u8) p0.L]), oX true false 4 (.agg [vI 0, vI 0, vI 0, .nils]), oX false false 4 (.agg [vI (IntKind.i64.wrap (1 + (IntKind.i64.wrap (Int.tmod p0.Grain 20)))), vI (IntKind.i64.wrap (1 + (IntKind.i64.wrap (Int.tmod p0.Count 10)))), vI (Int.tmod (IntKind.i64.wrap (p0.One)) (IntKind.i64.wrap ((IntKind.i64.wrap (1 + (IntKind.i64.wrap (Int.tmod p0.Grain 20)))) + 1))), .ref 4 0 s1.2.length]), oR true 1 (AV.int .u8) v, oR false 1 (eL true eI) s1.2], 72⟩) (0, ([] : (List Int))) (wk_trans (wk_gc (live := [1, 2, 3, 4, 5, 6]) (keep := [0, 1, 2, 3]) (st' := ⟨[(1, .ptr 0 0 0), (2, .ptr 1 0 0), (3, .ptr 2 0 0), (4, vI s1.1), (5, .nils), (6, vI 0)], [oX true false 5 (.agg [.int .u8 p0.Grain, .int .u8 p0.Count, .int .u8 p0.One, .int .u8 p0.Card, eL true (AV.int .u8) p0.L]), oX true false 4 (.agg [vI 0, vI 0, vI 0, .nils]), oX false false 4 (.agg [vI (IntKind.i64.wrap (1 + (IntKind.i64.wrap (Int.tmod p0.Grain 20)))), vI (IntKind.i64.wrap (1 + (IntKind.i64.wrap (Int.tmod p0.Count 10)))), vI (Int.tmod (IntKind.i64.wrap (p0.One)) (IntKind.i64.wrap ((IntKind.i64.wrap (1 + (IntKind.i64.wrap (Int.tmod p0.Grain 20)))) + 1))), .ref 3 0 s1.2.length]), oR false 1 (eL true eI) s1.2], 72⟩) (by kernel_rfl)) (wk_trans (wk_nil 5 1 true true (st' := ⟨[(1, .ptr 0 0 0), (2, .ptr 1 0 0), (3, .ptr 2 0 0), (4, vI s1.1), (5, .ref 4 0 0), (6, vI 0)], [oX true false 5 (.agg [.int .u8 p0.Grain, .int .u8 p0.Count, .int .u8 p0.One, .int .u8 p0.Card, eL true (AV.int .u8) p0.L]), oX true false 4 (.agg [vI 0, vI 0, vI 0, .nils]), oX false false 4 (.agg [vI (IntKind.i64.wrap (1 + (IntKind.i64.wrap (Int.tmod p0.Grain 20)))), vI (IntKind.i64.wrap (1 + (IntKind.i64.wrap (Int.tmod p0.Count 10)))), vI (Int.tmod (IntKind.i64.wrap (p0.One)) (IntKind.i64.wrap ((IntKind.i64.wrap (1 + (IntKind.i64.wrap (Int.tmod p0.Grain 20)))) + 1))), .ref 3 0 s1.2.length]), oR false 1 (eL true eI) s1.2, .row false false true true 1 []], 72⟩) (by kernel_rfl)) (wk_gc (live := [1, 2, 3, 4, 5, 6]) (keep := [0, 1, 2, 4, 3]) (st' := ⟨[(1, .ptr 0 0 0), (2, .ptr 1 0 0), (3, .ptr 2 0 0), (4, vI s1.1), (5, .ref 3 0 (([] : (List Int)).length)), (6, vI 0)], [oX true false 5 (.agg [.int .u8 p0.Grain, .int .u8 p0.Count, .int .u8 p0.One, .int .u8 p0.Card, eL true (AV.int .u8) p0.L]), oX true false 4 (.agg [vI 0, vI 0, vI 0, .nils]), oX false false 4 (.agg [vI (IntKind.i64.wrap (1 + (IntKind.i64.wrap (Int.tmod p0.Grain 20)))), vI (IntKind.i64.wrap (1 + (IntKind.i64.wrap (Int.tmod p0.Count 10)))), vI (Int.tmod (IntKind.i64.wrap (p0.One)) (IntKind.i64.wrap ((IntKind.i64.wrap (1 + (IntKind.i64.wrap (Int.tmod p0.Grain 20)))) + 1))), .ref 4 0 s1.2.length]), oR true 1 (AV.int .u8) ([] : (List Int)), oR false 1 (eL true eI) s1.2], 72⟩) (by kernel_rfl)))) h ?_ ?_
      · intro s4 o h
        unfold g_ref14_Draft_Lift_b0 at h
        refine wp_seq ?_
        refine wp_seq ?_
        refine reg_in ?_
        refine sz 3 3 ?_
        refine rbr (S := fun b5 => ⟨(s18_48 s1 s4) ++ [(32, vI s4.1), (33, vB b5), (34, vB b5)], [oX true false 5 (.agg [.int .u8 p0.Grain, .int .u8 p0.Count, .int .u8 p0.One, .int .u8 p0.Card, eL true (AV.int .u8) p0.L]), oX true false 4 (.agg [vI 0, vI 0, vI 0, .nils]), oX false false 4 (.agg [vI (IntKind.i64.wrap (1 + (IntKind.i64.wrap (Int.tmod p0.Grain 20)))), vI (IntKind.i64.wrap (1 + (IntKind.i64.wrap (Int.tmod p0.Count 10)))), vI (Int.tmod (IntKind.i64.wrap (p0.One)) (IntKind.i64.wrap ((IntKind.i64.wrap (1 + (IntKind.i64.wrap (Int.tmod p0.Grain 20)))) + 1))), .ref 4 0 s1.2.length]), oR true 1 (AV.int .u8) s4.2, oR false 1 (eL true eI) s1.2], 72⟩) h (fun q6 h => ?_) (fun q6 h => ?_)
        · refine sz 2 5 ?_
          refine lenZ (enc := (AV.int .u8)) (l := p0.L) (fl := true) (by kernel_rfl) ?_
          refine sz 2 8 ?_
          refine reg_end rfl ?_
          refine wbr (S := fun b7 => ⟨(s18_48 s1 s4) ++ [(32, vI s4.1), (33, vB true), (34, vB true), (35, .ptr 0 0 4), (36, eL true (AV.int .u8) p0.L), (37, vI (p0.L.length : Int)), (38, vB b7), (39, vB b7)], [oX true false 5 (.agg [.int .u8 p0.Grain, .int .u8 p0.Count, .int .u8 p0.One, .int .u8 p0.Card, eL true (AV.int .u8) p0.L]), oX true false 4 (.agg [vI 0, vI 0, vI 0, .nils]), oX false false 4 (.agg [vI (IntKind.i64.wrap (1 + (IntKind.i64.wrap (Int.tmod p0.Grain 20)))), vI (IntKind.i64.wrap (1 + (IntKind.i64.wrap (Int.tmod p0.Count 10)))), vI (Int.tmod (IntKind.i64.wrap (p0.One)) (IntKind.i64.wrap ((IntKind.i64.wrap (1 + (IntKind.i64.wrap (Int.tmod p0.Grain 20)))) + 1))), .ref 4 0 s1.2.length]), oR true 1 (AV.int .u8) s4.2, oR false 1 (eL true eI) s1.2], 72⟩) h (fun q8 h => ?_) (fun q8 h => ?_)
          · refine wp_condT rfl ?_
            refine wp_skip ?_
            refine wp_seq ?_
            refine wp_block ?_
            refine wg [1, 2, 3, 4, 5, 6] [0, 1, 2, 3, 4] ?_
            refine rga hfol ?_
            refine sy 9 9 ?_
            refine lenL (enc := (AV.int .u8)) (l := p0.L) (fl := true) (S := ⟨(s18_48 s1 s4) ++ [(42, .ref 3 0 s4.2.length), (43, .ptr 0 0 4), (44, eL true (AV.int .u8) p0.L), (45, vI s1.1), (46, vI (IntKind.i64.wrap (3 * s1.1))), (47, vI s4.1), (48, vI (IntKind.i64.wrap ((IntKind.i64.wrap (3 * s1.1)) + s4.1))), (49, .ptr 0 0 4), (50, eL true (AV.int .u8) p0.L)] ++ [(51, vI (p0.L.length : Int))], [oX true false 5 (.agg [.int .u8 p0.Grain, .int .u8 p0.Count, .int .u8 p0.One, .int .u8 p0.Card, eL true (AV.int .u8) p0.L]), oX true false 4 (.agg [vI 0, vI 0, vI 0, .nils]), oX false false 4 (.agg [vI (IntKind.i64.wrap (1 + (IntKind.i64.wrap (Int.tmod p0.Grain 20)))), vI (IntKind.i64.wrap (1 + (IntKind.i64.wrap (Int.tmod p0.Count 10)))), vI (Int.tmod (IntKind.i64.wrap (p0.One)) (IntKind.i64.wrap ((IntKind.i64.wrap (1 + (IntKind.i64.wrap (Int.tmod p0.Grain 20)))) + 1))), .ref 4 0 s1.2.length]), oR true 1 (AV.int .u8) s4.2, oR false 1 (eL true eI) s1.2], 72⟩) (by kernel_rfl) (by kernel_rfl) ?_
            refine remR (k := .i64) (a := IntKind.i64.wrap ((IntKind.i64.wrap (3 * s1.1)) + s4.1)) (b := (p0.L.length : Int)) (S := ⟨(s18_48 s1 s4) ++ [(42, .ref 3 0 s4.2.length), (43, .ptr 0 0 4), (44, eL true (AV.int .u8) p0.L), (45, vI s1.1), (46, vI (IntKind.i64.wrap (3 * s1.1))), (47, vI s4.1), (48, vI (IntKind.i64.wrap ((IntKind.i64.wrap (3 * s1.1)) + s4.1))), (49, .ptr 0 0 4), (50, eL true (AV.int .u8) p0.L)] ++ [(51, vI (p0.L.length : Int)), (52, vI (Int.tmod (IntKind.i64.wrap ((IntKind.i64.wrap (3 * s1.1)) + s4.1)) (p0.L.length : Int)))], [oX true false 5 (.agg [.int .u8 p0.Grain, .int .u8 p0.Count, .int .u8 p0.One, .int .u8 p0.Card, eL true (AV.int .u8) p0.L]), oX true false 4 (.agg [vI 0, vI 0, vI 0, .nils]), oX false false 4 (.agg [vI (IntKind.i64.wrap (1 + (IntKind.i64.wrap (Int.tmod p0.Grain 20)))), vI (IntKind.i64.wrap (1 + (IntKind.i64.wrap (Int.tmod p0.Count 10)))), vI (Int.tmod (IntKind.i64.wrap (p0.One)) (IntKind.i64.wrap ((IntKind.i64.wrap (1 + (IntKind.i64.wrap (Int.tmod p0.Grain 20)))) + 1))), .ref 4 0 s1.2.length]), oR true 1 (AV.int .u8) s4.2, oR false 1 (eL true eI) s1.2], 72⟩) (by kernel_rfl) (by kernel_rfl) h (fun h => ?_)
            refine bind_elim h (fun a9 q10 h => ?_)
            refine idxZ (enc := (AV.int .u8)) (l := p0.L) (n := Int.tmod (IntKind.i64.wrap ((IntKind.i64.wrap (3 * s1.1)) + s4.1)) (p0.L.length : Int)) (fl := true) (w := 1) (a := a9) (by kernel_rfl) q10 ?_
            refine sy 1 13 ?_
            refine sgL false [] [] true (S := ⟨(s18_48 s1 s4) ++ [(42, .ref 3 0 s4.2.length), (43, .ptr 0 0 4), (44, eL true (AV.int .u8) p0.L), (45, vI s1.1), (46, vI (IntKind.i64.wrap (3 * s1.1))), (47, vI s4.1), (48, vI (IntKind.i64.wrap ((IntKind.i64.wrap (3 * s1.1)) + s4.1))), (49, .ptr 0 0 4), (50, eL true (AV.int .u8) p0.L)] ++ [(51, vI (p0.L.length : Int)), (52, vI (Int.tmod (IntKind.i64.wrap ((IntKind.i64.wrap (3 * s1.1)) + s4.1)) (p0.L.length : Int))), (53, .fz [.int .u8 a9]), (54, .int .u8 a9), (55, .ref 5 0 1)], [oX true false 5 (.agg [.int .u8 p0.Grain, .int .u8 p0.Count, .int .u8 p0.One, .int .u8 p0.Card, eL true (AV.int .u8) p0.L]), oX true false 4 (.agg [vI 0, vI 0, vI 0, .nils]), oX false false 4 (.agg [vI (IntKind.i64.wrap (1 + (IntKind.i64.wrap (Int.tmod p0.Grain 20)))), vI (IntKind.i64.wrap (1 + (IntKind.i64.wrap (Int.tmod p0.Count 10)))), vI (Int.tmod (IntKind.i64.wrap (p0.One)) (IntKind.i64.wrap ((IntKind.i64.wrap (1 + (IntKind.i64.wrap (Int.tmod p0.Grain 20)))) + 1))), .ref 4 0 s1.2.length]), oR true 1 (AV.int .u8) s4.2, oR false 1 (eL true eI) s1.2, .row false false true true 1 [.int .u8 a9]], 72⟩) (by kernel_rfl) ?_
            refine appR (enc := (AV.int .u8)) (l := s4.2) (m := ([a9] : (List Int))) (w := 1) (bytes := 1) (ob := 3) (nr := true) (fl := true) (nr' := true) (fl' := true) (b := .ref 5 0 1) (rds := [5]) (S := ⟨(s18_48 s1 s4) ++ [(42, .ref 3 0 s4.2.length), (43, .ptr 0 0 4), (44, eL true (AV.int .u8) p0.L), (45, vI s1.1), (46, vI (IntKind.i64.wrap (3 * s1.1))), (47, vI s4.1), (48, vI (IntKind.i64.wrap ((IntKind.i64.wrap (3 * s1.1)) + s4.1))), (49, .ptr 0 0 4), (50, eL true (AV.int .u8) p0.L)] ++ [(51, vI (p0.L.length : Int)), (52, vI (Int.tmod (IntKind.i64.wrap ((IntKind.i64.wrap (3 * s1.1)) + s4.1)) (p0.L.length : Int))), (53, .fz [.int .u8 a9]), (54, .int .u8 a9), (55, .ref 5 0 1), (56, .ref 6 0 ((s4.2 ++ ([a9] : (List Int))).length))], [oX true false 5 (.agg [.int .u8 p0.Grain, .int .u8 p0.Count, .int .u8 p0.One, .int .u8 p0.Card, eL true (AV.int .u8) p0.L]), oX true false 4 (.agg [vI 0, vI 0, vI 0, .nils]), oX false false 4 (.agg [vI (IntKind.i64.wrap (1 + (IntKind.i64.wrap (Int.tmod p0.Grain 20)))), vI (IntKind.i64.wrap (1 + (IntKind.i64.wrap (Int.tmod p0.Count 10)))), vI (Int.tmod (IntKind.i64.wrap (p0.One)) (IntKind.i64.wrap ((IntKind.i64.wrap (1 + (IntKind.i64.wrap (Int.tmod p0.Grain 20)))) + 1))), .ref 4 0 s1.2.length]), .dead, oR false 1 (eL true eI) s1.2, .row false false true true 1 [.int .u8 a9], oR true 1 (AV.int .u8) (s4.2 ++ ([a9] : (List Int)))], 72⟩) false (by kernel_rfl) rfl (by kernel_rfl) rfl (by kernel_rfl) (by kernel_rfl) h (fun h => ?_)
            refine sy 1 16 ?_
            refine rgd ?_
            refine wg [1, 2, 3, 4, 5, 6] [0, 1, 2, 6, 4] ?_
            refine rgN (S := ⟨[(1, .ptr 0 0 0), (2, .ptr 1 0 0), (3, .ptr 2 0 0), (4, vI s1.1), (5, .ref 3 0 ((s4.2 ++ ([a9] : (List Int))).length)), (6, vI (IntKind.i64.wrap (s4.1 + 1))), (40, vI s4.1), (41, vI (IntKind.i64.wrap (s4.1 + 1)))], [oX true false 5 (.agg [.int .u8 p0.Grain, .int .u8 p0.Count, .int .u8 p0.One, .int .u8 p0.Card, eL true (AV.int .u8) p0.L]), oX true false 4 (.agg [vI 0, vI 0, vI 0, .nils]), oX false false 4 (.agg [vI (IntKind.i64.wrap (1 + (IntKind.i64.wrap (Int.tmod p0.Grain 20)))), vI (IntKind.i64.wrap (1 + (IntKind.i64.wrap (Int.tmod p0.Count 10)))), vI (Int.tmod (IntKind.i64.wrap (p0.One)) (IntKind.i64.wrap ((IntKind.i64.wrap (1 + (IntKind.i64.wrap (Int.tmod p0.Grain 20)))) + 1))), .ref 4 0 s1.2.length]), oR true 1 (AV.int .u8) (s4.2 ++ ([a9] : (List Int))), oR false 1 (eL true eI) s1.2], 72⟩) ?_
            cases h
            exact ⟨_, rfl, (wk_gc (live := [1, 2, 3, 4, 5, 6]) (keep := [0, 1, 2, 3, 4]) (st' := ⟨[(1, .ptr 0 0 0), (2, .ptr 1 0 0), (3, .ptr 2 0 0), (4, vI s1.1), (5, .ref 3 0 ((s4.2 ++ ([a9] : (List Int))).length)), (6, vI (IntKind.i64.wrap (s4.1 + 1)))], [oX true false 5 (.agg [.int .u8 p0.Grain, .int .u8 p0.Count, .int .u8 p0.One, .int .u8 p0.Card, eL true (AV.int .u8) p0.L]), oX true false 4 (.agg [vI 0, vI 0, vI 0, .nils]), oX false false 4 (.agg [vI (IntKind.i64.wrap (1 + (IntKind.i64.wrap (Int.tmod p0.Grain 20)))), vI (IntKind.i64.wrap (1 + (IntKind.i64.wrap (Int.tmod p0.Count 10)))), vI (Int.tmod (IntKind.i64.wrap (p0.One)) (IntKind.i64.wrap ((IntKind.i64.wrap (1 + (IntKind.i64.wrap (Int.tmod p0.Grain 20)))) + 1))), .ref 4 0 s1.2.length]), oR true 1 (AV.int .u8) (s4.2 ++ ([a9] : (List Int))), oR false 1 (eL true eI) s1.2], 72⟩) (by kernel_rfl))⟩
          refine wp_condF rfl ?_
          refine wgc [1, 2, 3, 4, 5] [0, 1, 2, 3, 4] ⟨[(1, .ptr 0 0 0), (2, .ptr 1 0 0), (3, .ptr 2 0 0), (4, vI s1.1), (5, .ref 3 0 s4.2.length)], [oX true false 5 (.agg [.int .u8 p0.Grain, .int .u8 p0.Count, .int .u8 p0.One, .int .u8 p0.Card, eL true (AV.int .u8) p0.L]), oX true false 4 (.agg [vI 0, vI 0, vI 0, .nils]), oX false false 4 (.agg [vI (IntKind.i64.wrap (1 + (IntKind.i64.wrap (Int.tmod p0.Grain 20)))), vI (IntKind.i64.wrap (1 + (IntKind.i64.wrap (Int.tmod p0.Count 10)))), vI (Int.tmod (IntKind.i64.wrap (p0.One)) (IntKind.i64.wrap ((IntKind.i64.wrap (1 + (IntKind.i64.wrap (Int.tmod p0.Grain 20)))) + 1))), .ref 4 0 s1.2.length]), oR true 1 (AV.int .u8) s4.2, oR false 1 (eL true eI) s1.2], 72⟩ ?_
          refine wp_exit ?_
          cases h
          exact ⟨rfl, rfl⟩
        refine sgz 5 8 (S := ⟨(s18_48 s1 s4) ++ [(32, vI s4.1), (33, vB false), (34, vB false), (35, .tup []), (36, .tup []), (37, .tup []), (38, .tup []), (39, vB false)], [oX true false 5 (.agg [.int .u8 p0.Grain, .int .u8 p0.Count, .int .u8 p0.One, .int .u8 p0.Card, eL true (AV.int .u8) p0.L]), oX true false 4 (.agg [vI 0, vI 0, vI 0, .nils]), oX false false 4 (.agg [vI (IntKind.i64.wrap (1 + (IntKind.i64.wrap (Int.tmod p0.Grain 20)))), vI (IntKind.i64.wrap (1 + (IntKind.i64.wrap (Int.tmod p0.Count 10)))), vI (Int.tmod (IntKind.i64.wrap (p0.One)) (IntKind.i64.wrap ((IntKind.i64.wrap (1 + (IntKind.i64.wrap (Int.tmod p0.Grain 20)))) + 1))), .ref 4 0 s1.2.length]), oR true 1 (AV.int .u8) s4.2, oR false 1 (eL true eI) s1.2], 72⟩) ?_
        refine reg_end rfl ?_
        refine wp_condF rfl ?_
        refine wgc [1, 2, 3, 4, 5] [0, 1, 2, 3, 4] ⟨[(1, .ptr 0 0 0), (2, .ptr 1 0 0), (3, .ptr 2 0 0), (4, vI s1.1), (5, .ref 3 0 s4.2.length)], [oX true false 5 (.agg [.int .u8 p0.Grain, .int .u8 p0.Count, .int .u8 p0.One, .int .u8 p0.Card, eL true (AV.int .u8) p0.L]), oX true false 4 (.agg [vI 0, vI 0, vI 0, .nils]), oX false false 4 (.agg [vI (IntKind.i64.wrap (1 + (IntKind.i64.wrap (Int.tmod p0.Grain 20)))), vI (IntKind.i64.wrap (1 + (IntKind.i64.wrap (Int.tmod p0.Count 10)))), vI (Int.tmod (IntKind.i64.wrap (p0.One)) (IntKind.i64.wrap ((IntKind.i64.wrap (1 + (IntKind.i64.wrap (Int.tmod p0.Grain 20)))) + 1))), .ref 4 0 s1.2.length]), oR true 1 (AV.int .u8) s4.2, oR false 1 (eL true eI) s1.2], 72⟩ ?_
        refine wp_exit ?_
        cases h
        exact ⟨rfl, rfl⟩
      intro x12 h out hx
      subst hx
      refine rga hfol ?_
      refine sgy 10 10 (S := ⟨[(1, .ptr 0 0 0), (2, .ptr 1 0 0), (3, .ptr 2 0 0), (4, vI s1.1), (5, .ref 3 0 x12.length), (57, .ptr 2 0 3), (58, .ref 4 0 s1.2.length), (59, .ptr 0 0 3), (60, .int .u8 p0.Card), (61, .int .u8 (Int.tmod p0.Card 3)), (62, vI (IntKind.i64.wrap (Int.tmod p0.Card 3))), (63, vI (IntKind.i64.wrap (2 + (IntKind.i64.wrap (Int.tmod p0.Card 3))))), (64, .ptr 2 0 0), (65, vI (IntKind.i64.wrap (1 + (IntKind.i64.wrap (Int.tmod p0.Grain 20))))), (66, .ref 3 0 x12.length)], [oX true false 5 (.agg [.int .u8 p0.Grain, .int .u8 p0.Count, .int .u8 p0.One, .int .u8 p0.Card, eL true (AV.int .u8) p0.L]), oX true false 4 (.agg [vI 0, vI 0, vI 0, .nils]), oX false false 4 (.agg [vI (IntKind.i64.wrap (1 + (IntKind.i64.wrap (Int.tmod p0.Grain 20)))), vI (IntKind.i64.wrap (1 + (IntKind.i64.wrap (Int.tmod p0.Count 10)))), vI (Int.tmod (IntKind.i64.wrap (p0.One)) (IntKind.i64.wrap ((IntKind.i64.wrap (1 + (IntKind.i64.wrap (Int.tmod p0.Grain 20)))) + 1))), .ref 4 0 s1.2.length]), oR true 1 (AV.int .u8) x12, oR false 1 (eL true eI) s1.2], 72⟩) ?_
      refine callR (as0 := [vI (IntKind.i64.wrap (2 + (IntKind.i64.wrap (Int.tmod p0.Card 3)))), vI (IntKind.i64.wrap (1 + (IntKind.i64.wrap (Int.tmod p0.Grain 20)))), .ref 3 0 x12.length]) (ids := [3]) (S := fun x13 => ⟨[(1, .ptr 0 0 0), (2, .ptr 1 0 0), (3, .ptr 2 0 0), (4, vI s1.1), (5, .ref 3 0 x12.length), (57, .ptr 2 0 3), (58, .ref 4 0 s1.2.length), (59, .ptr 0 0 3), (60, .int .u8 p0.Card), (61, .int .u8 (Int.tmod p0.Card 3)), (62, vI (IntKind.i64.wrap (Int.tmod p0.Card 3))), (63, vI (IntKind.i64.wrap (2 + (IntKind.i64.wrap (Int.tmod p0.Card 3))))), (64, .ptr 2 0 0), (65, vI (IntKind.i64.wrap (1 + (IntKind.i64.wrap (Int.tmod p0.Grain 20))))), (66, .ref 3 0 x12.length)] ++ [(67, .ref 5 0 x13.length)], [oX true false 5 (.agg [.int .u8 p0.Grain, .int .u8 p0.Count, .int .u8 p0.One, .int .u8 p0.Card, eL true (AV.int .u8) p0.L]), oX true false 4 (.agg [vI 0, vI 0, vI 0, .nils]), oX false false 4 (.agg [vI (IntKind.i64.wrap (1 + (IntKind.i64.wrap (Int.tmod p0.Grain 20)))), vI (IntKind.i64.wrap (1 + (IntKind.i64.wrap (Int.tmod p0.Count 10)))), vI (Int.tmod (IntKind.i64.wrap (p0.One)) (IntKind.i64.wrap ((IntKind.i64.wrap (1 + (IntKind.i64.wrap (Int.tmod p0.Grain 20)))) + 1))), .ref 4 0 s1.2.length]), oR true 1 (AV.int .u8) x12, oR false 1 (eL true eI) s1.2, oR true 1 eI x13], 72⟩) (by kernel_rfl) bodyB_41 (msnap_cons rfl (msnap_cons rfl (msnap_cons (snap_full rfl) msnap_nil (by rfl)) (by rfl)) (by rfl)) (fun x13 q14 => g_ref14_Split_ok (IntKind.i64.wrap (2 + (IntKind.i64.wrap (Int.tmod p0.Card 3)))) (IntKind.i64.wrap (1 + (IntKind.i64.wrap (Int.tmod p0.Grain 20)))) x12 x13 q14) (fun _ => by kernel_rfl) h (fun x13 q14 h => ?_)
      refine bsR (parts := [(0, eL true eI x13)]) (ids := [5]) (es := [(5, .row false true true true 1 (List.map eI x13)), (6, .row false false true (List.all [eL true eI x13] AV.scs) 1 [eL true eI x13])]) (S := ⟨[(1, .ptr 0 0 0), (2, .ptr 1 0 0), (3, .ptr 2 0 0), (4, vI s1.1), (5, .ref 3 0 x12.length), (57, .ptr 2 0 3), (58, .ref 4 0 s1.2.length), (59, .ptr 0 0 3), (60, .int .u8 p0.Card), (61, .int .u8 (Int.tmod p0.Card 3)), (62, vI (IntKind.i64.wrap (Int.tmod p0.Card 3))), (63, vI (IntKind.i64.wrap (2 + (IntKind.i64.wrap (Int.tmod p0.Card 3))))), (64, .ptr 2 0 0), (65, vI (IntKind.i64.wrap (1 + (IntKind.i64.wrap (Int.tmod p0.Grain 20))))), (66, .ref 3 0 x12.length)] ++ [(67, .ref 5 0 x13.length), (68, .ref 6 0 1)], [oX true false 5 (.agg [.int .u8 p0.Grain, .int .u8 p0.Count, .int .u8 p0.One, .int .u8 p0.Card, eL true (AV.int .u8) p0.L]), oX true false 4 (.agg [vI 0, vI 0, vI 0, .nils]), oX false false 4 (.agg [vI (IntKind.i64.wrap (1 + (IntKind.i64.wrap (Int.tmod p0.Grain 20)))), vI (IntKind.i64.wrap (1 + (IntKind.i64.wrap (Int.tmod p0.Count 10)))), vI (Int.tmod (IntKind.i64.wrap (p0.One)) (IntKind.i64.wrap ((IntKind.i64.wrap (1 + (IntKind.i64.wrap (Int.tmod p0.Grain 20)))) + 1))), .ref 4 0 s1.2.length]), oR true 1 (AV.int .u8) x12, oR false 1 (eL true eI) s1.2, .row false true true true 1 (List.map eI x13), .row false false true false 1 [eL true eI x13]], 72⟩) [.lst true] false rfl (sparts_snap rfl (snap_full rfl) sparts_nil (by rfl)) (by kernel_rfl) ?_
      refine appR (enc := (eL true eI)) (l := s1.2) (m := ([x13] : (List (List Int)))) (w := 1) (bytes := 24) (ob := 4) (nr := true) (fl := false) (nr' := true) (fl' := false) (b := .ref 6 0 1) (rds := [6]) (S := ⟨[(1, .ptr 0 0 0), (2, .ptr 1 0 0), (3, .ptr 2 0 0), (4, vI s1.1), (5, .ref 3 0 x12.length), (57, .ptr 2 0 3), (58, .ref 4 0 s1.2.length), (59, .ptr 0 0 3), (60, .int .u8 p0.Card), (61, .int .u8 (Int.tmod p0.Card 3)), (62, vI (IntKind.i64.wrap (Int.tmod p0.Card 3))), (63, vI (IntKind.i64.wrap (2 + (IntKind.i64.wrap (Int.tmod p0.Card 3))))), (64, .ptr 2 0 0), (65, vI (IntKind.i64.wrap (1 + (IntKind.i64.wrap (Int.tmod p0.Grain 20))))), (66, .ref 3 0 x12.length)] ++ [(67, .ref 5 0 x13.length), (68, .ref 6 0 1), (69, .ref 7 0 ((s1.2 ++ ([x13] : (List (List Int)))).length))], [oX true false 5 (.agg [.int .u8 p0.Grain, .int .u8 p0.Count, .int .u8 p0.One, .int .u8 p0.Card, eL true (AV.int .u8) p0.L]), oX true false 4 (.agg [vI 0, vI 0, vI 0, .nils]), oX false false 4 (.agg [vI (IntKind.i64.wrap (1 + (IntKind.i64.wrap (Int.tmod p0.Grain 20)))), vI (IntKind.i64.wrap (1 + (IntKind.i64.wrap (Int.tmod p0.Count 10)))), vI (Int.tmod (IntKind.i64.wrap (p0.One)) (IntKind.i64.wrap ((IntKind.i64.wrap (1 + (IntKind.i64.wrap (Int.tmod p0.Grain 20)))) + 1))), .ref 4 0 s1.2.length]), oR true 1 (AV.int .u8) x12, .dead, .row false true true true 1 (List.map eI x13), .row false false true false 1 [eL true eI x13], oR false 1 (eL true eI) (s1.2 ++ ([x13] : (List (List Int))))], 72⟩) false (by kernel_rfl) rfl (by kernel_rfl) rfl (by kernel_rfl) (by kernel_rfl) h (fun h => ?_)
      refine sy 2 15 ?_
      refine rgd ?_
      refine wg [1, 2, 3, 4] [0, 1, 2, 7] ?_
      refine rgN (S := ⟨[(1, .ptr 0 0 0), (2, .ptr 1 0 0), (3, .ptr 2 0 0), (4, vI (IntKind.i64.wrap (s1.1 + 1))), (30, vI s1.1), (31, vI (IntKind.i64.wrap (s1.1 + 1)))], [oX true false 5 (.agg [.int .u8 p0.Grain, .int .u8 p0.Count, .int .u8 p0.One, .int .u8 p0.Card, eL true (AV.int .u8) p0.L]), oX true false 4 (.agg [vI 0, vI 0, vI 0, .nils]), oX false false 4 (.agg [vI (IntKind.i64.wrap (1 + (IntKind.i64.wrap (Int.tmod p0.Grain 20)))), vI (IntKind.i64.wrap (1 + (IntKind.i64.wrap (Int.tmod p0.Count 10)))), vI (Int.tmod (IntKind.i64.wrap (p0.One)) (IntKind.i64.wrap ((IntKind.i64.wrap (1 + (IntKind.i64.wrap (Int.tmod p0.Grain 20)))) + 1))), .ref 3 0 ((s1.2 ++ ([x13] : (List (List Int)))).length)]), oR false 1 (eL true eI) (s1.2 ++ ([x13] : (List (List Int))))], 72⟩) ?_
      cases h
      exact ⟨_, rfl, (wk_gc (live := [1, 2, 3, 4]) (keep := [0, 1, 2, 3]) (st' := ⟨[(1, .ptr 0 0 0), (2, .ptr 1 0 0), (3, .ptr 2 0 0), (4, vI (IntKind.i64.wrap (s1.1 + 1)))], [oX true false 5 (.agg [.int .u8 p0.Grain, .int .u8 p0.Count, .int .u8 p0.One, .int .u8 p0.Card, eL true (AV.int .u8) p0.L]), oX true false 4 (.agg [vI 0, vI 0, vI 0, .nils]), oX false false 4 (.agg [vI (IntKind.i64.wrap (1 + (IntKind.i64.wrap (Int.tmod p0.Grain 20)))), vI (IntKind.i64.wrap (1 + (IntKind.i64.wrap (Int.tmod p0.Count 10)))), vI (Int.tmod (IntKind.i64.wrap (p0.One)) (IntKind.i64.wrap ((IntKind.i64.wrap (1 + (IntKind.i64.wrap (Int.tmod p0.Grain 20)))) + 1))), .ref 3 0 ((s1.2 ++ ([x13] : (List (List Int)))).length)]), oR false 1 (eL true eI) (s1.2 ++ ([x13] : (List (List Int))))], 72⟩) (by kernel_rfl))⟩
    refine wp_condF rfl ?_
    refine wgc [2, 3] [1, 2, 3] ⟨[(2, .ptr 0 0 0), (3, .ptr 1 0 0)], [oX true false 4 (.agg [vI 0, vI 0, vI 0, .nils]), oX false false 4 (.agg [vI (IntKind.i64.wrap (1 + (IntKind.i64.wrap (Int.tmod p0.Grain 20)))), vI (IntKind.i64.wrap (1 + (IntKind.i64.wrap (Int.tmod p0.Count 10)))), vI (Int.tmod (IntKind.i64.wrap (p0.One)) (IntKind.i64.wrap ((IntKind.i64.wrap (1 + (IntKind.i64.wrap (Int.tmod p0.Grain 20)))) + 1))), .ref 2 0 s1.2.length]), oR false 1 (eL true eI) s1.2], 72⟩ ?_
    refine wp_exit ?_
    cases h
    exact ⟨rfl, rfl⟩
  intro x16 h out hx
  subst hx
  refine sq ?_
  refine wg [2] [0, 2] ?_
  refine wp_ret ?_
  cases h
  show fnOut _ _ _ _ = _
  kernel_rfl
@[reducible] noncomputable def s7_5 (p1 : Tharuspexlaw14_Known) (x5 : Tapi_Lift) (s7 : (Int × (List (List Int)))) (a10 : (List Int)) : List AObj := [oX true true 3 (.agg [vI p1.Zeros, vI p1.Ones, vI p1.Child]), oX false false 4 (.agg [vI x5.Grain, vI x5.Count, vI x5.One, .ref 2 0 ((List.set s7.2 (Int.toNat s7.1) a10).length)]), oR false 1 (eL true eI) (List.set s7.2 (Int.toNat s7.1) a10)]
@[reducible] noncomputable def s7_6 (p1 : Tharuspexlaw14_Known) (x5 : Tapi_Lift) (s7 : (Int × (List (List Int)))) : List AObj := [oX true true 3 (.agg [vI p1.Zeros, vI p1.Ones, vI p1.Child]), oX false false 4 (.agg [vI x5.Grain, vI x5.Count, vI x5.One, .ref 2 0 s7.2.length]), oR false 1 (eL true eI) s7.2]
@[reducible] noncomputable def s7_7 (x5 : Tapi_Lift) (s7 : (Int × (List (List Int)))) : List (Nat × AV) := [(3, .ptr 0 0 0), (5, .ptr 1 0 0), (18, vI (x5.Rows.length : Int)), (19, vI s7.1), (20, vB true), (21, vI s7.1), (6, vI s7.1), (22, .ptr 1 0 3), (23, .ref 2 0 s7.2.length), (24, vI s7.1), (25, .ptr 1 0 3), (26, .ref 2 0 s7.2.length)]
@[reducible] noncomputable def s7_16 (x5 : Tapi_Lift) (x16 : (List (List Int))) (x17 : Tharuspexlaw14_Known) (x19 : (Tapi_Q × Int)) : List AObj := [oX false false 4 (.agg [vI x5.Grain, vI x5.Count, vI x5.One, .ref 3 0 x16.length]), oX true true 3 (.agg [vI x17.Zeros, vI x17.Ones, vI x17.Child]), oX true true 2 (.agg [vI x19.1.N, vI x19.1.D]), oR false 1 (eL true eI) x16]
@[reducible] noncomputable def s7_18 (x5 : Tapi_Lift) (x16 : (List (List Int))) (x19 : (Tapi_Q × Int)) (x25 : ((List Tapi_Q) × Int)) : List AObj := [oX false false 4 (.agg [vI x5.Grain, vI x5.Count, vI x5.One, .ref 3 0 x16.length]), oX true true 2 (.agg [vI x19.1.N, vI x19.1.D]), oR true 2 eTapi_Q x25.1, oR false 1 (eL true eI) x16]
@[reducible] noncomputable def s7_19 (x25 : ((List Tapi_Q) × Int)) (x19 : (Tapi_Q × Int)) (x5 : Tapi_Lift) : List (Nat × AV) := [(5, .ptr 0 0 0), (8, .ptr 1 0 0), (10, .ref 2 0 x25.1.length), (11, vI x25.2), (68, .agg [vI x19.1.N, vI x19.1.D]), (69, .ptr 0 0 2), (70, vI x5.One), (71, .ptr 0 0 0), (72, vI x5.Grain)]
@[reducible] noncomputable def s7_20 (x25 : ((List Tapi_Q) × Int)) (x19 : (Tapi_Q × Int)) (x5 : Tapi_Lift) (x27 : Tapi_Q) (x16 : (List (List Int))) : List (Nat × AV) := (s7_19 x25 x19 x5) ++ [(73, .agg [vI x27.N, vI x27.D]), (74, vB true), (75, vB true), (76, vI x25.2), (77, vB true), (78, vB true), (79, vB true), (80, .ref 2 0 x25.1.length), (81, .ptr 0 0 0), (82, vI x5.Grain), (83, .ptr 0 0 3), (84, .ref 3 0 x16.length)]
theorem g_law14_LiftEqual_ok (p0 : Tharuspexref14_Draft) (p1 : Tharuspexlaw14_Known) (x : Bool) (h : g_law14_LiftEqual p0 p1 = some x) : CallOk Try.prog 7 [.agg [.int .u8 p0.Grain, .int .u8 p0.Count, .int .u8 p0.One, .int .u8 p0.Card, eL true (AV.int .u8) p0.L], .agg [vI p1.Zeros, vI p1.Ones, vI p1.Child]] (.ret (vB x) []) := by
  refine fn_ok [] Try.func7 rfl (by decide +kernel) rfl ?_
  unfold g_law14_LiftEqual at h
  refine wp_eqB (base' := 0) (st' := ⟨[(0, .agg [.int .u8 p0.Grain, .int .u8 p0.Count, .int .u8 p0.One, .int .u8 p0.Card, eL true (AV.int .u8) p0.L]), (1, .agg [vI p1.Zeros, vI p1.Ones, vI p1.Child])], [], 90⟩) rfl (by as_aux_lemma => kernel_rfl) ?_
  refine wp_seq ?_
  refine reg_in ?_
  refine sl false [] [] false rfl ?_
  refine sz 2 3 ?_
  refine reg_end rfl ?_
  refine wp_seq ?_
  refine wp_seq ?_
  refine reg_in ?_
  refine callZ (as0 := []) (ids := []) (by as_aux_lemma => kernel_rfl) bodyB_10 msnap_nil (fun x1 q2 => g_law14_wakes_ok  x1 q2) h (fun x1 q2 h => ?_)
  refine sz 1 2 ?_
  refine reg_end rfl ?_
  refine wbr (S := fun b3 => ⟨[(0, .agg [.int .u8 p0.Grain, .int .u8 p0.Count, .int .u8 p0.One, .int .u8 p0.Card, eL true (AV.int .u8) p0.L]), (1, .agg [vI p1.Zeros, vI p1.Ones, vI p1.Child])] ++ [(2, .ptr 0 0 0), (3, .ptr 1 0 0), (4, vB false), (12, vB x1), (13, vB b3)], [oX true false 5 (.agg [.int .u8 p0.Grain, .int .u8 p0.Count, .int .u8 p0.One, .int .u8 p0.Card, eL true (AV.int .u8) p0.L]), oX true true 3 (.agg [vI p1.Zeros, vI p1.Ones, vI p1.Child])], 90⟩) h (fun q4 h => ?_) (fun q4 h => ?_)
  · refine wp_condT rfl ?_
    refine wp_seq ?_
    refine wg [] [] ?_
    refine rn ?_
    refine wg [4] [] ?_
    refine wp_ret ?_
    cases h
    show fnOut _ _ _ _ = _
    kernel_rfl
  refine wp_condF rfl ?_
  refine wp_skip ?_
  refine wp_seq ?_
  refine wg [2, 3] [0, 1] ?_
  refine reg_in ?_
  refine sz 1 1 ?_
  refine callZ (as0 := [.agg [.int .u8 p0.Grain, .int .u8 p0.Count, .int .u8 p0.One, .int .u8 p0.Card, eL true (AV.int .u8) p0.L]]) (ids := []) (by as_aux_lemma => kernel_rfl) bodyB_18 (msnap_cons (snap_agg (msnap_cons rfl (msnap_cons rfl (msnap_cons rfl (msnap_cons rfl (msnap_cons rfl msnap_nil (by rfl)) (by rfl)) (by rfl)) (by rfl)) (by rfl))) msnap_nil (by rfl)) (fun x5 q6 => g_ref14_Draft_Lift_ok p0 x5 q6) h (fun x5 q6 h => ?_)
  refine sl false [] [] false rfl ?_
  refine sz 1 4 ?_
  refine reg_end rfl ?_
  refine wp_seq ?_
  refine sqN (S := ⟨[(2, .ptr 0 0 0), (3, .ptr 1 0 0), (14, .agg [.int .u8 p0.Grain, .int .u8 p0.Count, .int .u8 p0.One, .int .u8 p0.Card, eL true (AV.int .u8) p0.L]), (15, .agg [vI x5.Grain, vI x5.Count, vI x5.One, .ref 2 0 x5.Rows.length]), (5, .ptr 3 0 0), (16, .ptr 3 0 3), (17, .ref 2 0 x5.Rows.length), (18, vI (x5.Rows.length : Int)), (19, vI 0)], [oX true false 5 (.agg [.int .u8 p0.Grain, .int .u8 p0.Count, .int .u8 p0.One, .int .u8 p0.Card, eL true (AV.int .u8) p0.L]), oX true true 3 (.agg [vI p1.Zeros, vI p1.Ones, vI p1.Child]), oR false 1 (eL true eI) x5.Rows, oX false false 4 (.agg [vI x5.Grain, vI x5.Count, vI x5.One, .ref 2 0 x5.Rows.length])], 90⟩) ?_
  refine wp_block ?_
  refine wp_while (σ := (Int × (List (List Int)))) (ρ := (List (List Int))) (n := fuel) (body := g_law14_LiftEqual_b0 x5) (I := fun s7 => ⟨[(3, .ptr 0 0 0), (5, .ptr 1 0 0), (18, vI (x5.Rows.length : Int)), (19, vI s7.1)], (s7_6 p1 x5 s7), 90⟩) (Ex := fun v out => out = .go (.exit 0) ⟨[(3, .ptr 0 0 0), (5, .ptr 1 0 0)], [oX true true 3 (.agg [vI p1.Zeros, vI p1.Ones, vI p1.Child]), oX false false 4 (.agg [vI x5.Grain, vI x5.Count, vI x5.One, .ref 2 0 v.length]), oR false 1 (eL true eI) v], 90⟩) (0, x5.Rows) (wk_gc (live := [3, 5, 18, 19]) (keep := [1, 3, 2]) (st' := ⟨[(3, .ptr 0 0 0), (5, .ptr 1 0 0), (18, vI (x5.Rows.length : Int)), (19, vI 0)], [oX true true 3 (.agg [vI p1.Zeros, vI p1.Ones, vI p1.Child]), oX false false 4 (.agg [vI x5.Grain, vI x5.Count, vI x5.One, .ref 2 0 x5.Rows.length]), oR false 1 (eL true eI) x5.Rows], 90⟩) (by as_aux_lemma => kernel_rfl)) h ?_ ?_
  · intro s7 o h
    unfold g_law14_LiftEqual_b0 at h
    refine sq ?_
    refine wp_seq ?_
    refine wbr (S := fun b8 => ⟨[(3, .ptr 0 0 0), (5, .ptr 1 0 0), (18, vI (x5.Rows.length : Int)), (19, vI s7.1), (20, vB b8)], (s7_6 p1 x5 s7), 90⟩) h (fun q9 h => ?_) (fun q9 h => ?_)
    · refine wp_condT rfl ?_
      refine wp_skip ?_
      refine wp_seq ?_
      refine wp_block ?_
      refine sq ?_
      refine rga hfol ?_
      refine sgy 5 5 (S := ⟨(s7_7 x5 s7), (s7_6 p1 x5 s7), 90⟩) ?_
      refine bind_elim h (fun a10 q11 h => ?_)
      refine idxR' (enc := (eL true eI)) (l := s7.2) (n := 0) (w := 1) (ob := 2) (a := a10) (S := ⟨(s7_7 x5 s7) ++ [(27, .ptr 2 (Int.toNat 0) 0)], (s7_6 p1 x5 s7), 90⟩) (by as_aux_lemma => kernel_rfl) rfl (by as_aux_lemma => kernel_rfl) q11 ?_
      refine loadR (enc := (eL true eI)) (l := s7.2) (n := 0) (ob := 2) (c := 0) (a := a10) (S := ⟨(s7_7 x5 s7) ++ [(27, .ptr 2 (Int.toNat 0) 0), (28, eL true eI a10)], (s7_6 p1 x5 s7), 90⟩) (by as_aux_lemma => kernel_rfl) rfl q11 (by as_aux_lemma => kernel_rfl) ?_
      refine bind_elim h (fun a12 q13 h => ?_)
      refine idxR' (enc := (eL true eI)) (l := s7.2) (n := s7.1) (w := 1) (ob := 2) (a := a12) (S := ⟨(s7_7 x5 s7) ++ [(27, .ptr 2 (Int.toNat 0) 0), (28, eL true eI a10), (29, .ptr 2 (Int.toNat s7.1) 0)], (s7_6 p1 x5 s7), 90⟩) (by as_aux_lemma => kernel_rfl) rfl (by as_aux_lemma => kernel_rfl) q13 ?_
      refine storeR (enc := (eL true eI)) (l := s7.2) (n := s7.1) (ob := 2) (c := 0) (a := a12) (a' := a10) (v := eL true eI a10) (S := ⟨(s7_7 x5 s7) ++ [(27, .ptr 2 (Int.toNat 0) 0), (28, eL true eI a10), (29, .ptr 2 (Int.toNat s7.1) 0)], [oX true true 3 (.agg [vI p1.Zeros, vI p1.Ones, vI p1.Child]), oX false false 4 (.agg [vI x5.Grain, vI x5.Count, vI x5.One, .ref 2 0 s7.2.length]), oR false 1 (eL true eI) (List.set s7.2 (Int.toNat s7.1) a10)], 90⟩) false (by as_aux_lemma => kernel_rfl) rfl q13 (by as_aux_lemma => kernel_rfl) rfl (by as_aux_lemma => kernel_rfl) (by as_aux_lemma => kernel_rfl) (by as_aux_lemma => kernel_rfl) ?_
      refine rw_knN (n := s7.2.length) (m := (List.set s7.2 (Int.toNat s7.1) a10).length) (S := fun n14 => ⟨[(3, .ptr 0 0 0), (5, .ptr 1 0 0), (18, vI (x5.Rows.length : Int)), (19, vI s7.1), (20, vB true), (21, vI s7.1), (6, vI s7.1), (22, .ptr 1 0 3), (23, .ref 2 0 n14), (24, vI s7.1), (25, .ptr 1 0 3), (26, .ref 2 0 n14), (27, .ptr 2 (Int.toNat 0) 0), (28, eL true eI a10), (29, .ptr 2 (Int.toNat s7.1) 0)], [oX true true 3 (.agg [vI p1.Zeros, vI p1.Ones, vI p1.Child]), oX false false 4 (.agg [vI x5.Grain, vI x5.Count, vI x5.One, .ref 2 0 n14]), oR false 1 (eL true eI) (List.set s7.2 (Int.toNat s7.1) a10)], 90⟩) (by simp only [List.length_set]) ?_
      refine rgd ?_
      refine wg [3, 5, 18, 19] [0, 1, 2] ?_
      refine rgN (S := ⟨[(3, .ptr 0 0 0), (5, .ptr 1 0 0), (18, vI (x5.Rows.length : Int)), (19, vI (IntKind.i64.wrap (s7.1 + 1))), (30, vI (IntKind.i64.wrap (s7.1 + 1)))], (s7_5 p1 x5 s7 a10), 90⟩) ?_
      cases h
      exact ⟨_, rfl, (wk_gc (live := [3, 5, 18, 19]) (keep := [0, 1, 2]) (st' := ⟨[(3, .ptr 0 0 0), (5, .ptr 1 0 0), (18, vI (x5.Rows.length : Int)), (19, vI (IntKind.i64.wrap (s7.1 + 1)))], (s7_5 p1 x5 s7 a10), 90⟩) (by as_aux_lemma => kernel_rfl))⟩
    refine wp_condF rfl ?_
    refine wgc [3, 5] [0, 1, 2] ⟨[(3, .ptr 0 0 0), (5, .ptr 1 0 0)], (s7_6 p1 x5 s7), 90⟩ ?_
    refine wp_exit ?_
    cases h
    exact ⟨rfl, rfl⟩
  intro x16 h out hx
  subst hx
  refine wp_seq ?_
  refine reg_in ?_
  refine sgz 2 2 (S := ⟨[(3, .ptr 0 0 0), (5, .ptr 1 0 0), (31, .agg [vI p1.Zeros, vI p1.Ones, vI p1.Child]), (32, .agg [vI x5.Grain, vI x5.Count, vI x5.One, .ref 2 0 x16.length])], [oX true true 3 (.agg [vI p1.Zeros, vI p1.Ones, vI p1.Child]), oX false false 4 (.agg [vI x5.Grain, vI x5.Count, vI x5.One, .ref 2 0 x16.length]), oR false 1 (eL true eI) x16], 90⟩) ?_
  refine callZ (as0 := [.agg [vI p1.Zeros, vI p1.Ones, vI p1.Child], .agg [vI x5.Grain, vI x5.Count, vI x5.One, .ref 2 0 x16.length]]) (ids := [2]) (by as_aux_lemma => kernel_rfl) bodyB_17 (msnap_cons (snap_agg (msnap_cons rfl (msnap_cons rfl (msnap_cons rfl msnap_nil (by rfl)) (by rfl)) (by rfl))) (msnap_cons (snap_agg (msnap_cons rfl (msnap_cons rfl (msnap_cons rfl (msnap_cons (snap_full rfl) msnap_nil (by rfl)) (by rfl)) (by rfl)) (by rfl))) msnap_nil (by rfl)) (by rfl)) (fun x17 q18 => g_law14_Known_Of_ok p1 (Tapi_Lift.mk x5.Grain x5.Count x5.One x16) x17 q18) h (fun x17 q18 h => ?_)
  refine sz 2 5 ?_
  refine reg_end rfl ?_
  refine wp_seq ?_
  refine reg_in ?_
  refine sgz 7 7 (S := ⟨[(3, .ptr 0 0 0), (5, .ptr 1 0 0), (31, .agg [vI p1.Zeros, vI p1.Ones, vI p1.Child]), (32, .agg [vI x5.Grain, vI x5.Count, vI x5.One, .ref 2 0 x16.length]), (33, .agg [vI x17.Zeros, vI x17.Ones, vI x17.Child]), (7, .ptr 3 0 0), (35, .agg [vI x5.Grain, vI x5.Count, vI x5.One, .ref 2 0 x16.length]), (36, .ptr 3 0 0), (37, vI x17.Zeros), (38, .ptr 3 0 1), (39, vI x17.Ones), (40, .ptr 3 0 2), (41, vI x17.Child)], [oX true true 3 (.agg [vI p1.Zeros, vI p1.Ones, vI p1.Child]), oX false false 4 (.agg [vI x5.Grain, vI x5.Count, vI x5.One, .ref 2 0 x16.length]), oR false 1 (eL true eI) x16, oX true true 3 (.agg [vI x17.Zeros, vI x17.Ones, vI x17.Child])], 90⟩) ?_
  refine callZ (as0 := [.agg [vI x5.Grain, vI x5.Count, vI x5.One, .ref 2 0 x16.length], vI x17.Zeros, vI x17.Ones, vI x17.Child]) (ids := [2]) (by as_aux_lemma => kernel_rfl) bodyB_24 (msnap_cons (snap_agg (msnap_cons rfl (msnap_cons rfl (msnap_cons rfl (msnap_cons (snap_full rfl) msnap_nil (by rfl)) (by rfl)) (by rfl)) (by rfl))) (msnap_cons rfl (msnap_cons rfl (msnap_cons rfl msnap_nil (by rfl)) (by rfl)) (by rfl)) (by rfl)) (fun x19 q20 => g_lift_Next_ok (Tapi_Lift.mk x5.Grain x5.Count x5.One x16) x17.Zeros x17.Ones x17.Child x19 q20) h (fun x19 q20 h => ?_)
  refine sz 6 14 ?_
  refine reg_end rfl ?_
  refine wp_seq ?_
  refine wp_seq ?_
  refine wg [5, 7, 8, 9] [1, 3, 4, 2] ?_
  refine rn ?_
  refine wbr (S := fun b21 => ⟨[(5, .ptr 0 0 0), (7, .ptr 1 0 0), (8, .ptr 2 0 0), (9, vI x19.2), (45, .ptr 1 0 0), (46, vI x17.Zeros), (47, .ptr 1 0 1), (48, vI x17.Ones), (49, vI (IntKind.i64.wrap (x17.Zeros + x17.Ones))), (50, .ptr 0 0 1), (51, vI x5.Count), (52, vB b21)], (s7_16 x5 x16 x17 x19), 90⟩) h (fun q22 h => ?_) (fun q22 h => ?_)
  · refine wp_condT rfl ?_
    refine wp_seq ?_
    refine wg [9] [] ?_
    refine rn ?_
    refine wg [4] [] ?_
    refine wp_ret ?_
    cases h
    show fnOut _ _ _ _ = _
    kernel_rfl
  refine wp_condF rfl ?_
  refine wp_skip ?_
  refine wp_seq ?_
  refine wp_seq ?_
  refine wg [5, 7, 8, 9] [0, 1, 2, 3] ?_
  refine rn ?_
  refine wbr (S := fun b23 => ⟨[(5, .ptr 0 0 0), (7, .ptr 1 0 0), (8, .ptr 2 0 0), (9, vI x19.2), (55, vI x19.2), (56, vB b23)], (s7_16 x5 x16 x17 x19), 90⟩) h (fun q24 h => ?_) (fun q24 h => ?_)
  · refine wp_condT rfl ?_
    refine wp_seq ?_
    refine wg [9] [] ?_
    refine rn ?_
    refine wg [4] [] ?_
    refine wp_ret ?_
    cases h
    show fnOut _ _ _ _ = _
    kernel_rfl
  refine wp_condF rfl ?_
  refine wp_skip ?_
  refine wp_seq ?_
  refine reg_in ?_
  refine sgz 5 5 (S := ⟨[(5, .ptr 0 0 0), (7, .ptr 1 0 0), (8, .ptr 2 0 0), (9, vI x19.2), (55, vI x19.2), (56, vB false), (60, .agg [vI x5.Grain, vI x5.Count, vI x5.One, .ref 3 0 x16.length]), (61, .ptr 1 0 0), (62, vI x17.Zeros), (63, .ptr 1 0 1), (64, vI x17.Ones)], (s7_16 x5 x16 x17 x19), 90⟩) ?_
  refine callZ (as0 := [.agg [vI x5.Grain, vI x5.Count, vI x5.One, .ref 3 0 x16.length], vI x17.Zeros, vI x17.Ones]) (ids := [3]) (by as_aux_lemma => kernel_rfl) bodyB_26 (msnap_cons (snap_agg (msnap_cons rfl (msnap_cons rfl (msnap_cons rfl (msnap_cons (snap_full rfl) msnap_nil (by rfl)) (by rfl)) (by rfl)) (by rfl))) (msnap_cons rfl (msnap_cons rfl msnap_nil (by rfl)) (by rfl)) (by rfl)) (fun x25 q26 => g_lift_Child_ok (Tapi_Lift.mk x5.Grain x5.Count x5.One x16) x17.Zeros x17.Ones x25 q26) h (fun x25 q26 h => ?_)
  refine sz 5 11 ?_
  refine reg_end rfl ?_
  refine wp_seq ?_
  refine wg [5, 8, 10, 11] [0, 2, 4, 3] ?_
  refine rga hfol ?_
  refine sy 5 5 ?_
  refine callZ (as0 := [vI x5.One, vI x5.Grain]) (ids := []) (by as_aux_lemma => kernel_rfl) bodyB_28 (msnap_cons rfl (msnap_cons rfl msnap_nil (by rfl)) (by rfl)) (fun x27 q28 => g_ref01_Of_ok x5.One x5.Grain x27 q28) h (fun x27 q28 h => ?_)
  refine sy 2 8 ?_
  refine rbr (S := fun b29 => ⟨(s7_19 x25 x19 x5) ++ [(73, .agg [vI x27.N, vI x27.D]), (74, vB b29), (75, vB b29)], (s7_18 x5 x16 x19 x25), 90⟩) h (fun q30 h => ?_) (fun q30 h => ?_)
  · refine sy 4 12 ?_
    refine rbr (S := fun b31 => ⟨(s7_19 x25 x19 x5) ++ [(73, .agg [vI x27.N, vI x27.D]), (74, vB true), (75, vB true), (76, vI x25.2), (77, vB b31), (78, vB b31), (79, vB b31)], (s7_18 x5 x16 x19 x25), 90⟩) h (fun q32 h => ?_) (fun q32 h => ?_)
    · refine sgy 5 17 (S := ⟨(s7_20 x25 x19 x5 x27 x16), (s7_18 x5 x16 x19 x25), 90⟩) ?_
      refine bind_elim h (fun a33 q34 h => ?_)
      refine idxR' (enc := (eL true eI)) (l := x16) (n := 0) (w := 1) (ob := 3) (a := a33) (S := ⟨(s7_20 x25 x19 x5 x27 x16) ++ [(85, .ptr 3 (Int.toNat 0) 0)], (s7_18 x5 x16 x19 x25), 90⟩) (by as_aux_lemma => kernel_rfl) rfl (by as_aux_lemma => kernel_rfl) q34 ?_
      refine loadR (enc := (eL true eI)) (l := x16) (n := 0) (ob := 3) (c := 0) (a := a33) (S := ⟨(s7_20 x25 x19 x5 x27 x16) ++ [(85, .ptr 3 (Int.toNat 0) 0), (86, eL true eI a33)], (s7_18 x5 x16 x19 x25), 90⟩) (by as_aux_lemma => kernel_rfl) rfl q34 (by as_aux_lemma => kernel_rfl) ?_
      refine callR (as0 := [vI x5.Grain, eL true eI a33]) (ids := []) (S := fun x35 => ⟨(s7_20 x25 x19 x5 x27 x16) ++ [(85, .ptr 3 (Int.toNat 0) 0), (86, eL true eI a33), (87, .ref 4 0 x35.length)], [oX false false 4 (.agg [vI x5.Grain, vI x5.Count, vI x5.One, .ref 3 0 x16.length]), oX true true 2 (.agg [vI x19.1.N, vI x19.1.D]), oR true 2 eTapi_Q x25.1, oR false 1 (eL true eI) x16, oR true 2 eTapi_Q x35], 90⟩) (by as_aux_lemma => kernel_rfl) bodyB_32 (msnap_cons rfl (msnap_cons rfl msnap_nil (by rfl)) (by rfl)) (fun x35 q36 => g_law14_over_ok x5.Grain a33 x35 q36) (fun _ => by as_aux_lemma => kernel_rfl) h (fun x35 q36 h => ?_)
      refine callZ (as0 := [.ref 2 0 x25.1.length, .ref 4 0 x35.length]) (ids := [2, 4]) (by as_aux_lemma => kernel_rfl) bodyB_23 (msnap_cons (snap_full rfl) (msnap_cons (snap_full rfl) msnap_nil (by rfl)) (by rfl)) (fun x37 q38 => g_slices_Equal_api_Q_api_Q_ok x25.1 x35 x37 q38) h (fun x37 q38 h => ?_)
      refine sy 2 23 ?_
      refine rgd ?_
      refine wg [4] [] ?_
      refine wp_ret ?_
      cases h
      show fnOut _ _ _ _ = _
      kernel_rfl
    refine sy 11 23 ?_
    refine rgd ?_
    refine wg [4] [] ?_
    refine wp_ret ?_
    cases h
    show fnOut _ _ _ _ = _
    kernel_rfl
  refine sy 15 23 ?_
  refine rgd ?_
  refine wg [4] [] ?_
  refine wp_ret ?_
  cases h
  show fnOut _ _ _ _ = _
  kernel_rfl
end Go.Ab
namespace Go.Ab
open Go
set_option linter.unusedVariables false
theorem one5 {cs : List AV} (h : WT (.int .u8) cs) : ∃ a : Int, cs = [(AV.int .u8) a] ∧ (Lit.int .u8 a).wf = true := by
  obtain ⟨n, rfl, w⟩ := h
  exact ⟨n, rfl, w⟩
theorem el5 {x : AV} (h : WT (.int .u8) x.flat ∧ (if false then x = .agg x.flat else x.cell = true)) : ∃ a : Int, x = (AV.int .u8) a ∧ (Lit.int .u8 a).wf = true := by
  obtain ⟨a, h1, h2⟩ := one5 h.1
  rw [flat_cell h.2] at h1
  exact ⟨a, (List.cons.inj h1).1, h2⟩
theorem one22 {cs : List AV} (h : WT (.slice true false 1 (.int .u8)) cs) : ∃ a : (List Int), cs = [(eL true (AV.int .u8)) a] ∧ (a.length ≤ maxLen ∧ ∀ y0 ∈ a, (Lit.int .u8 y0).wf = true) := by
  obtain ⟨xs, rfl, hl, hx⟩ := h
  obtain ⟨l, rfl, hr⟩ := lists_of (enc := (AV.int .u8)) (R := fun a => (Lit.int .u8 a).wf = true) (fun x hm => el5 (hx x hm))
  exact ⟨l, rfl, by simpa using hl, hr⟩
theorem el22 {x : AV} (h : WT (.slice true false 1 (.int .u8)) x.flat ∧ (if false then x = .agg x.flat else x.cell = true)) : ∃ a : (List Int), x = (eL true (AV.int .u8)) a ∧ (a.length ≤ maxLen ∧ ∀ y0 ∈ a, (Lit.int .u8 y0).wf = true) := by
  obtain ⟨a, h1, h2⟩ := one22 h.1
  rw [flat_cell h.2] at h1
  exact ⟨a, (List.cons.inj h1).1, h2⟩
def okTharuspexref14_Draft (x : Tharuspexref14_Draft) : Prop := ((Lit.int .u8 x.Grain).wf = true) ∧ ((Lit.int .u8 x.Count).wf = true) ∧ ((Lit.int .u8 x.One).wf = true) ∧ ((Lit.int .u8 x.Card).wf = true) ∧ ((x.L.length ≤ maxLen ∧ ∀ y0 ∈ x.L, (Lit.int .u8 y0).wf = true))
theorem rdTharuspexref14_Draft {cs : List AV} (h : WT (.cat (.int .u8) (.cat (.int .u8) (.cat (.int .u8) (.cat (.int .u8) (.cat (.slice true false 1 (.int .u8)) .unit))))) cs) : ∃ x : Tharuspexref14_Draft, AV.agg cs = eTharuspexref14_Draft x ∧ okTharuspexref14_Draft x := by
  obtain ⟨_, _, rfl, a0, r0⟩ := h
  obtain ⟨v0, e0, w0⟩ := one5 a0
  cases e0
  obtain ⟨_, _, rfl, a1, r1⟩ := r0
  obtain ⟨v1, e1, w1⟩ := one5 a1
  cases e1
  obtain ⟨_, _, rfl, a2, r2⟩ := r1
  obtain ⟨v2, e2, w2⟩ := one5 a2
  cases e2
  obtain ⟨_, _, rfl, a3, r3⟩ := r2
  obtain ⟨v3, e3, w3⟩ := one5 a3
  cases e3
  obtain ⟨_, _, rfl, a4, r4⟩ := r3
  obtain ⟨v4, e4, w4⟩ := one22 a4
  cases e4
  cases r4
  exact ⟨⟨v0, v1, v2, v3, v4⟩, rfl, ⟨w0, w1, w2, w3, w4⟩⟩
theorem el24 {x : AV} (h : WT (.cat (.int .u8) (.cat (.int .u8) (.cat (.int .u8) (.cat (.int .u8) (.cat (.slice true false 1 (.int .u8)) .unit))))) x.flat ∧ (if true then x = .agg x.flat else x.cell = true)) : ∃ a : Tharuspexref14_Draft, x = eTharuspexref14_Draft a ∧ okTharuspexref14_Draft a := by
  obtain ⟨a, h1, h2⟩ := rdTharuspexref14_Draft h.1
  have h3 : x = .agg x.flat := h.2
  exact ⟨a, h3.trans h1, h2⟩
theorem one3 {cs : List AV} (h : WT (.int .i64) cs) : ∃ a : Int, cs = [eI a] ∧ (Lit.int .i64 a).wf = true := by
  obtain ⟨n, rfl, w⟩ := h
  exact ⟨n, rfl, w⟩
theorem el3 {x : AV} (h : WT (.int .i64) x.flat ∧ (if false then x = .agg x.flat else x.cell = true)) : ∃ a : Int, x = eI a ∧ (Lit.int .i64 a).wf = true := by
  obtain ⟨a, h1, h2⟩ := one3 h.1
  rw [flat_cell h.2] at h1
  exact ⟨a, (List.cons.inj h1).1, h2⟩
def okTharuspexlaw14_Known (x : Tharuspexlaw14_Known) : Prop := ((Lit.int .i64 x.Zeros).wf = true) ∧ ((Lit.int .i64 x.Ones).wf = true) ∧ ((Lit.int .i64 x.Child).wf = true)
theorem rdTharuspexlaw14_Known {cs : List AV} (h : WT (.cat (.int .i64) (.cat (.int .i64) (.cat (.int .i64) .unit))) cs) : ∃ x : Tharuspexlaw14_Known, AV.agg cs = eTharuspexlaw14_Known x ∧ okTharuspexlaw14_Known x := by
  obtain ⟨_, _, rfl, a0, r0⟩ := h
  obtain ⟨v0, e0, w0⟩ := one3 a0
  cases e0
  obtain ⟨_, _, rfl, a1, r1⟩ := r0
  obtain ⟨v1, e1, w1⟩ := one3 a1
  cases e1
  obtain ⟨_, _, rfl, a2, r2⟩ := r1
  obtain ⟨v2, e2, w2⟩ := one3 a2
  cases e2
  cases r2
  exact ⟨⟨v0, v1, v2⟩, rfl, ⟨w0, w1, w2⟩⟩
theorem el45 {x : AV} (h : WT (.cat (.int .i64) (.cat (.int .i64) (.cat (.int .i64) .unit))) x.flat ∧ (if true then x = .agg x.flat else x.cell = true)) : ∃ a : Tharuspexlaw14_Known, x = eTharuspexlaw14_Known a ∧ okTharuspexlaw14_Known a := by
  obtain ⟨a, h1, h2⟩ := rdTharuspexlaw14_Known h.1
  have h3 : x = .agg x.flat := h.2
  exact ⟨a, h3.trans h1, h2⟩
def okTharuspexref14_Bend (x : Tharuspexref14_Bend) : Prop := ((Lit.int .u8 x.What).wf = true) ∧ ((Lit.int .u8 x.J).wf = true) ∧ ((Lit.int .u8 x.At).wf = true) ∧ ((Lit.int .i64 x.N).wf = true)
theorem rdTharuspexref14_Bend {cs : List AV} (h : WT (.cat (.int .u8) (.cat (.int .u8) (.cat (.int .u8) (.cat (.int .i64) .unit)))) cs) : ∃ x : Tharuspexref14_Bend, AV.agg cs = eTharuspexref14_Bend x ∧ okTharuspexref14_Bend x := by
  obtain ⟨_, _, rfl, a0, r0⟩ := h
  obtain ⟨v0, e0, w0⟩ := one5 a0
  cases e0
  obtain ⟨_, _, rfl, a1, r1⟩ := r0
  obtain ⟨v1, e1, w1⟩ := one5 a1
  cases e1
  obtain ⟨_, _, rfl, a2, r2⟩ := r1
  obtain ⟨v2, e2, w2⟩ := one5 a2
  cases e2
  obtain ⟨_, _, rfl, a3, r3⟩ := r2
  obtain ⟨v3, e3, w3⟩ := one3 a3
  cases e3
  cases r3
  exact ⟨⟨v0, v1, v2, v3⟩, rfl, ⟨w0, w1, w2, w3⟩⟩
theorem el26 {x : AV} (h : WT (.cat (.int .u8) (.cat (.int .u8) (.cat (.int .u8) (.cat (.int .i64) .unit)))) x.flat ∧ (if true then x = .agg x.flat else x.cell = true)) : ∃ a : Tharuspexref14_Bend, x = eTharuspexref14_Bend a ∧ okTharuspexref14_Bend a := by
  obtain ⟨a, h1, h2⟩ := rdTharuspexref14_Bend h.1
  have h3 : x = .agg x.flat := h.2
  exact ⟨a, h3.trans h1, h2⟩
theorem one64 {cs : List AV} (h : WT (.slice true false 1 (.int .i64)) cs) : ∃ a : (List Int), cs = [(eL true eI) a] ∧ (a.length ≤ maxLen ∧ ∀ y0 ∈ a, (Lit.int .i64 y0).wf = true) := by
  obtain ⟨xs, rfl, hl, hx⟩ := h
  obtain ⟨l, rfl, hr⟩ := lists_of (enc := eI) (R := fun a => (Lit.int .i64 a).wf = true) (fun x hm => el3 (hx x hm))
  exact ⟨l, rfl, by simpa using hl, hr⟩
theorem el64 {x : AV} (h : WT (.slice true false 1 (.int .i64)) x.flat ∧ (if false then x = .agg x.flat else x.cell = true)) : ∃ a : (List Int), x = (eL true eI) a ∧ (a.length ≤ maxLen ∧ ∀ y0 ∈ a, (Lit.int .i64 y0).wf = true) := by
  obtain ⟨a, h1, h2⟩ := one64 h.1
  rw [flat_cell h.2] at h1
  exact ⟨a, (List.cons.inj h1).1, h2⟩
theorem one27 {cs : List AV} (h : WT (.slice false false 1 (.slice true false 1 (.int .i64))) cs) : ∃ a : (List (List Int)), cs = [(eL false (eL true eI)) a] ∧ (a.length ≤ maxLen ∧ ∀ y0 ∈ a, (y0.length ≤ maxLen ∧ ∀ y1 ∈ y0, (Lit.int .i64 y1).wf = true)) := by
  obtain ⟨xs, rfl, hl, hx⟩ := h
  obtain ⟨l, rfl, hr⟩ := lists_of (enc := (eL true eI)) (R := fun a => (a.length ≤ maxLen ∧ ∀ y0 ∈ a, (Lit.int .i64 y0).wf = true)) (fun x hm => el64 (hx x hm))
  exact ⟨l, rfl, by simpa using hl, hr⟩
theorem el27 {x : AV} (h : WT (.slice false false 1 (.slice true false 1 (.int .i64))) x.flat ∧ (if false then x = .agg x.flat else x.cell = true)) : ∃ a : (List (List Int)), x = (eL false (eL true eI)) a ∧ (a.length ≤ maxLen ∧ ∀ y0 ∈ a, (y0.length ≤ maxLen ∧ ∀ y1 ∈ y0, (Lit.int .i64 y1).wf = true)) := by
  obtain ⟨a, h1, h2⟩ := one27 h.1
  rw [flat_cell h.2] at h1
  exact ⟨a, (List.cons.inj h1).1, h2⟩
def okTapi_Lift (x : Tapi_Lift) : Prop := ((Lit.int .i64 x.Grain).wf = true) ∧ ((Lit.int .i64 x.Count).wf = true) ∧ ((Lit.int .i64 x.One).wf = true) ∧ ((x.Rows.length ≤ maxLen ∧ ∀ y0 ∈ x.Rows, (y0.length ≤ maxLen ∧ ∀ y1 ∈ y0, (Lit.int .i64 y1).wf = true)))
theorem rdTapi_Lift {cs : List AV} (h : WT (.cat (.int .i64) (.cat (.int .i64) (.cat (.int .i64) (.cat (.slice false false 1 (.slice true false 1 (.int .i64))) .unit)))) cs) : ∃ x : Tapi_Lift, AV.agg cs = eTapi_Lift x ∧ okTapi_Lift x := by
  obtain ⟨_, _, rfl, a0, r0⟩ := h
  obtain ⟨v0, e0, w0⟩ := one3 a0
  cases e0
  obtain ⟨_, _, rfl, a1, r1⟩ := r0
  obtain ⟨v1, e1, w1⟩ := one3 a1
  cases e1
  obtain ⟨_, _, rfl, a2, r2⟩ := r1
  obtain ⟨v2, e2, w2⟩ := one3 a2
  cases e2
  obtain ⟨_, _, rfl, a3, r3⟩ := r2
  obtain ⟨v3, e3, w3⟩ := one27 a3
  cases e3
  cases r3
  exact ⟨⟨v0, v1, v2, v3⟩, rfl, ⟨w0, w1, w2, w3⟩⟩
theorem el29 {x : AV} (h : WT (.cat (.int .i64) (.cat (.int .i64) (.cat (.int .i64) (.cat (.slice false false 1 (.slice true false 1 (.int .i64))) .unit)))) x.flat ∧ (if true then x = .agg x.flat else x.cell = true)) : ∃ a : Tapi_Lift, x = eTapi_Lift a ∧ okTapi_Lift a := by
  obtain ⟨a, h1, h2⟩ := rdTapi_Lift h.1
  have h3 : x = .agg x.flat := h.2
  exact ⟨a, h3.trans h1, h2⟩
end Go.Ab
namespace Go.Ab
open Go
set_option linter.unusedVariables false
theorem whileN_spec {σ ρ : Type} {body : σ → Option (Step σ ρ)} (I : σ → Prop) (m : σ → Nat) (Q : ρ → Prop)
    (step : ∀ s, I s → (∃ s', body s = some (.next s') ∧ I s' ∧ m s' < m s) ∨ (∃ r, body s = some (.done r) ∧ Q r)) :
    ∀ (n : Nat) (s : σ), I s → m s < n → ∃ r, whileN n body s = some r ∧ Q r
  | 0, s, _, h => by omega
  | n + 1, s, hI, h => by
    unfold whileN
    rcases step s hI with ⟨s', h1, h2, h3⟩ | ⟨r, h1, h2⟩
    · rw [h1]
      exact whileN_spec I m Q step n s' h2 (by omega)
    · rw [h1]
      exact ⟨r, rfl, h2⟩
theorem whileN_eq {σ ρ : Type} {body : σ → Option (Step σ ρ)} (I : σ → Prop) (m : σ → Nat) (r : ρ)
    (step : ∀ s, I s → (∃ s', body s = some (.next s') ∧ I s' ∧ m s' < m s) ∨ body s = some (.done r)) (s : σ) (hI : I s) (hm : m s < 1152921504606846976) : whileN fuel body s = some r := by
  obtain ⟨r', h1, h2⟩ := whileN_spec I m (fun x => x = r) (fun s hs => (step s hs).imp id fun h => ⟨r, h, rfl⟩) fuel s hI hm
  rw [h1, h2]
theorem whileN_ex {σ ρ : Type} {body : σ → Option (Step σ ρ)} (I : σ → Prop) (m : σ → Nat) (Q : ρ → Prop)
    (step : ∀ s, I s → (∃ s', body s = some (.next s') ∧ I s' ∧ m s' < m s) ∨ (∃ r, body s = some (.done r) ∧ Q r)) (s : σ) (hI : I s) (hm : m s < 1152921504606846976) : ∃ r, whileN fuel body s = some r ∧ Q r :=
  whileN_spec I m Q step fuel s hI hm
theorem whileN_count {σ ρ : Type} {body : σ → Option (Step σ ρ)} (f : Nat → σ) (n : Nat) (r : ρ) (step : ∀ k, k < n → body (f k) = some (.next (f (k + 1)))) (done : body (f n) = some (.done r)) (hn : n < 1152921504606846976) :
    whileN fuel body (f 0) = some r := by
  have key : ∀ (j N k : Nat), k + j = n → j < N → whileN N body (f k) = some r := by
    intro j
    induction j with
    | zero =>
      intro N k hk hN
      obtain ⟨N, rfl⟩ : ∃ M, N = M + 1 := ⟨N - 1, by omega⟩
      have : k = n := by omega
      subst this
      simp [whileN, done]
    | succ j ih =>
      intro N k hk hN
      obtain ⟨N, rfl⟩ : ∃ M, N = M + 1 := ⟨N - 1, by omega⟩
      simp only [whileN, step k (by omega)]
      exact ih N (k + 1) (by omega) (by omega)
  exact key n fuel 0 (by omega) hn
theorem whileN_run {σ ρ : Type} {body : σ → Option (Step σ ρ)} {s0 : σ} (f : Nat → σ) (n : Nat) (r : ρ) (h0 : f 0 = s0) (step : ∀ k, k < n → body (f k) = some (.next (f (k + 1)))) (done : body (f n) = some (.done r)) (hn : n < 1152921504606846976) :
    whileN fuel body s0 = some r := by rw [← h0]; exact whileN_count f n r step done hn
theorem w64 {n : Int} (h : -9223372036854775808 ≤ n ∧ n ≤ 9223372036854775807) : IntKind.i64.wrap n = n := by rw [IntKind.wrap_i64]; omega
theorem lkI_at {α : Type} {l : List α} {n : Int} (h : 0 ≤ n) (h2 : n < l.length) : lkI l n = some (l[n.toNat]'(by omega)) := by
  unfold lkI
  rw [if_neg (by omega), List.getElem?_eq_getElem]
theorem lkI_nat {α : Type} {l : List α} {k : Nat} (h : k < l.length) : lkI l (k : Int) = some l[k] := by
  unfold lkI
  rw [if_neg (by omega), Int.toNat_natCast, List.getElem?_eq_getElem h]
theorem tdiv_pos {a b : Int} (h : 0 ≤ a) : Int.tdiv a b = a / b := Int.tdiv_eq_ediv_of_nonneg h
theorem tmod_pos {a b : Int} (h : 0 ≤ a) : Int.tmod a b = a % b := Int.tmod_eq_emod_of_nonneg h
def dgs (n : Nat) : List Int := if h : n = 0 then [] else ((n % 10000 : Nat) : Int) :: dgs (n / 10000)
termination_by n
decreasing_by omega
def dval : List Int → Nat
  | [] => 0
  | x :: l => x.toNat + 10000 * dval l
def isdg (l : List Int) : Prop := ∀ x ∈ l, 0 ≤ x ∧ x < 10000
theorem dgs_zero : dgs 0 = [] := by rw [dgs]; simp
theorem dgs_pos {n : Nat} (h : n ≠ 0) : dgs n = ((n % 10000 : Nat) : Int) :: dgs (n / 10000) := by rw [dgs]; simp [h]
theorem dval_dgs (n : Nat) : dval (dgs n) = n := by
  induction n using Nat.strongRecOn with
  | _ n ih =>
    by_cases h : n = 0
    · subst h; rw [dgs_zero]; rfl
    · rw [dgs_pos h]
      simp only [dval]
      rw [ih (n / 10000) (by omega)]
      omega
theorem isdg_dgs (n : Nat) : isdg (dgs n) := by
  induction n using Nat.strongRecOn with
  | _ n ih =>
    by_cases h : n = 0
    · subst h; rw [dgs_zero]; intro x hx; cases hx
    · rw [dgs_pos h]
      intro x hx
      rcases List.mem_cons.1 hx with rfl | hx
      · omega
      · exact ih (n / 10000) (by omega) x hx
theorem dgs_eq_nil {n : Nat} : dgs n = [] ↔ n = 0 := by
  constructor
  · intro h
    have := dval_dgs n
    rw [h] at this; exact this.symm
  · intro h; subst h; exact dgs_zero
theorem isdg_cons {x : Int} {l : List Int} : isdg (x :: l) ↔ (0 ≤ x ∧ x < 10000) ∧ isdg l := by simp [isdg]
theorem isdg_nil : isdg [] := fun x h => by cases h
theorem isdg_append {a b : List Int} : isdg (a ++ b) ↔ isdg a ∧ isdg b := by
  constructor
  · exact fun h => ⟨fun x hx => h x (List.mem_append_left _ hx), fun x hx => h x (List.mem_append_right _ hx)⟩
  · rintro ⟨h1, h2⟩ x hx
    rcases List.mem_append.1 hx with h | h
    · exact h1 x h
    · exact h2 x h
theorem dval_append (a b : List Int) : dval (a ++ b) = dval a + 10000 ^ a.length * dval b := by
  induction a with
  | nil => simp [dval]
  | cons x a ih =>
    simp only [List.cons_append, dval, ih, List.length_cons, Nat.pow_succ]
    rw [Nat.mul_add, Nat.add_assoc, ← Nat.mul_assoc, Nat.mul_comm 10000 (10000 ^ a.length)]
theorem dval_lt {l : List Int} (h : isdg l) : dval l < 10000 ^ l.length := by
  induction l with
  | nil => simp [dval]
  | cons x l ih =>
    rw [isdg_cons] at h
    have := ih h.2
    simp only [dval, List.length_cons, Nat.pow_succ]
    omega
def nolz (l : List Int) : Prop := l.getLast? ≠ some 0
theorem dgs_of {l : List Int} (h : isdg l) (hn : nolz l) : dgs (dval l) = l := by
  induction l with
  | nil => exact dgs_zero
  | cons x l ih =>
    rw [isdg_cons] at h
    have hn' : nolz l := by
      unfold nolz at *
      cases l with
      | nil => simp
      | cons y l => simpa [List.getLast?_cons_cons] using hn
    have hne : dval (x :: l) ≠ 0 := by
      simp only [dval]
      intro h0
      have hx : x = 0 := by omega
      have hl : dval l = 0 := by omega
      have := ih h.2 hn'
      rw [hl, dgs_zero] at this
      subst this
      subst hx
      simp [nolz] at hn
    rw [dgs_pos hne]
    simp only [dval] at *
    rw [show (x.toNat + 10000 * dval l) / 10000 = dval l by omega, ih h.2 hn']
    congr 1
    omega
theorem nolz_dgs (n : Nat) : nolz (dgs n) := by
  induction n using Nat.strongRecOn with
  | _ n ih =>
    by_cases h : n = 0
    · subst h; rw [dgs_zero]; simp [nolz]
    · rw [dgs_pos h]
      have := ih (n / 10000) (by omega)
      unfold nolz at *
      cases hd : dgs (n / 10000) with
      | nil =>
        rw [dgs_eq_nil] at hd
        intro h1
        simp only [List.getLast?_singleton, Option.some.injEq] at h1
        omega
      | cons y l =>
        rw [hd] at this
        simpa [List.getLast?_cons_cons] using this
theorem dgs_length_le {n K : Nat} (h : n < 10000 ^ K) : (dgs n).length ≤ K := by
  induction K generalizing n with
  | zero => simp at h; subst h; rw [dgs_zero]; simp
  | succ K ih =>
    by_cases h0 : n = 0
    · subst h0; rw [dgs_zero]; simp
    · rw [dgs_pos h0]
      simp only [List.length_cons]
      have := ih (n := n / 10000) (by rw [Nat.pow_succ] at h; omega)
      omega
theorem lt_dgs (n : Nat) : n < 10000 ^ (dgs n).length := by
  have := dval_lt (isdg_dgs n)
  rwa [dval_dgs] at this
theorem dgs_le {n : Nat} (h : n ≠ 0) : 10000 ^ ((dgs n).length - 1) ≤ n := by
  induction n using Nat.strongRecOn with
  | _ n ih =>
    rw [dgs_pos h]
    simp only [List.length_cons, Nat.add_sub_cancel]
    by_cases h0 : n / 10000 = 0
    · rw [h0, dgs_zero]; simp; omega
    · have h1 := ih (n / 10000) (by omega) h0
      have : (dgs (n / 10000)).length ≠ 0 := by rw [Ne, List.length_eq_zero_iff, dgs_eq_nil]; exact h0
      obtain ⟨k, hk⟩ : ∃ k, (dgs (n / 10000)).length = k + 1 := ⟨(dgs (n / 10000)).length - 1, by omega⟩
      rw [hk] at h1 ⊢
      simp only [Nat.add_sub_cancel] at h1
      rw [Nat.pow_succ]
      omega
theorem isdg_get {l : List Int} (h : isdg l) {k : Nat} (hk : k < l.length) : 0 ≤ l[k] ∧ l[k] < 10000 := h _ (List.getElem_mem hk)
theorem dval_take_succ {l : List Int} {k : Nat} (hk : k < l.length) : dval (l.take (k + 1)) = dval (l.take k) + 10000 ^ k * l[k].toNat := by
  rw [List.take_succ_eq_append_getElem hk, dval_append]
  simp [dval, Nat.min_eq_left (Nat.le_of_lt hk)]
theorem dval_drop {l : List Int} {k : Nat} (hk : k < l.length) : dval (l.drop k) = l[k].toNat + 10000 * dval (l.drop (k + 1)) := by
  rw [List.drop_eq_getElem_cons hk]; rfl
theorem isdg_take {l : List Int} (h : isdg l) (k : Nat) : isdg (l.take k) := fun x hx => h x (List.mem_of_mem_take hx)
theorem isdg_drop {l : List Int} (h : isdg l) (k : Nat) : isdg (l.drop k) := fun x hx => h x (List.mem_of_mem_drop hx)
end Go.Ab
namespace Go.Ab
open Go
set_option linter.unusedVariables false
set_option linter.unusedSimpArgs false
set_option maxRecDepth 100000
theorem dval_split {l : List Int} {k : Nat} (hk : k ≤ l.length) : dval l = dval (l.take k) + 10000 ^ k * dval (l.drop k) := by
  conv => lhs; rw [← List.take_append_drop k l, dval_append]
  rw [List.length_take, Nat.min_eq_left hk]
theorem natAbs_cases (m : Int) : m = (m.natAbs : Int) ∨ m = -(m.natAbs : Int) := by omega
theorem absmod (m : Int) (h : -9223372036854775808 ≤ m ∧ m ≤ 9223372036854775807) : (if IntKind.i64.wrap (0 - Int.tmod m 10000) > Int.tmod m 10000 then IntKind.i64.wrap (0 - Int.tmod m 10000) else Int.tmod m 10000) = ((m.natAbs % 10000 : Nat) : Int) := by
  rcases natAbs_cases m with hm | hm
  · have e : Int.tmod m 10000 = ((m.natAbs % 10000 : Nat) : Int) := by rw [tmod_pos (by omega)]; omega
    rw [e, w64 (by omega), if_neg (by omega)]
  · have e : Int.tmod m 10000 = -((m.natAbs % 10000 : Nat) : Int) := by
      conv => lhs; rw [hm, Int.neg_tmod, tmod_pos (by omega)]
      omega
    rw [e, w64 (by omega)]
    split <;> omega
theorem absdiv (m : Int) (h : -9223372036854775808 ≤ m ∧ m ≤ 9223372036854775807) : IntKind.i64.wrap (Int.tdiv m 10000) = Int.tdiv m 10000 ∧ (Int.tdiv m 10000).natAbs = m.natAbs / 10000 := by
  rcases natAbs_cases m with hm | hm
  · have e : Int.tdiv m 10000 = ((m.natAbs / 10000 : Nat) : Int) := by rw [tdiv_pos (by omega)]; omega
    rw [e, w64 (by omega)]; omega
  · have e : Int.tdiv m 10000 = -((m.natAbs / 10000 : Nat) : Int) := by
      conv => lhs; rw [hm, Int.neg_tdiv, tdiv_pos (by omega)]
      omega
    rw [e, w64 (by omega)]; omega
theorem digits_eq (p : Int) (h : -9223372036854775808 ≤ p ∧ p ≤ 9223372036854775807) : g_ref01_digits p = some (dgs p.natAbs) := by
  unfold g_ref01_digits
  have hlen : (dgs p.natAbs).length ≤ 5 := dgs_length_le (by omega)
  rw [whileN_eq (fun s => s.2 ++ dgs s.1.natAbs = dgs p.natAbs ∧ -9223372036854775808 ≤ s.1 ∧ s.1 ≤ 9223372036854775807) (fun s => (dgs s.1.natAbs).length) (dgs p.natAbs) ?_ (p, []) ⟨by simp, h⟩ (by simp only []; omega)]
  · rfl
  · rintro ⟨m, out⟩ ⟨h1, h2, h3⟩
    simp only at h1 h2 h3
    by_cases hm : m = 0
    · subst hm
      rw [Int.natAbs_zero, dgs_zero, List.append_nil] at h1
      exact .inr (by simp [g_ref01_digits_b0, h1])
    · refine .inl ⟨(Int.tdiv m 10000, out ++ [((m.natAbs % 10000 : Nat) : Int)]), ?_, ?_, ?_⟩
      · unfold g_ref01_digits_b0
        simp only
        rw [if_pos (by simpa using hm), absmod m ⟨h2, h3⟩, (absdiv m ⟨h2, h3⟩).1, if_pos]
        have := congrArg List.length h1
        simp only [List.length_append, List.length_cons, List.length_nil] at this ⊢
        omega
      · simp only
        refine ⟨?_, ?_⟩
        · rw [(absdiv m ⟨h2, h3⟩).2, List.append_assoc, ← h1, dgs_pos (n := m.natAbs) (by omega)]; rfl
        · have := (absdiv m ⟨h2, h3⟩).2; omega
      · simp only
        rw [(absdiv m ⟨h2, h3⟩).2, dgs_pos (n := m.natAbs) (by omega)]; simp
theorem pow_pos' (k : Nat) : 0 < 10000 ^ k := Nat.pow_pos (by omega)
theorem pow_le {i j : Nat} (h : i ≤ j) : 10000 ^ i ≤ 10000 ^ j := Nat.pow_le_pow_right (by omega) h
theorem dval_lt_of {x y : List Int} {j : Nat} (hx : isdg x) (hy : isdg y) (hl : x.length = y.length) (hj : j < x.length) (hd : x.drop (j + 1) = y.drop (j + 1)) (hlt : x[j] < y[j]'(by omega)) : dval x < dval y := by
  rw [dval_split (l := x) (k := j) (by omega), dval_split (l := y) (k := j) (by omega), dval_drop hj, dval_drop (l := y) (k := j) (by omega), hd]
  have h1 := dval_lt (isdg_take hx j)
  rw [List.length_take, Nat.min_eq_left (by omega)] at h1
  have h2 := isdg_get hx hj
  have h3 := isdg_get hy (k := j) (by omega)
  have h4 : x[j].toNat + 1 ≤ (y[j]'(by omega)).toNat := by omega
  have h5 : 10000 ^ j * (x[j].toNat + 10000 * dval (y.drop (j + 1)) + 1) ≤ 10000 ^ j * ((y[j]'(by omega)).toNat + 10000 * dval (y.drop (j + 1))) := Nat.mul_le_mul_left _ (by omega)
  rw [Nat.mul_add (10000 ^ j) _ 1] at h5
  omega
def cmpN (a b : Nat) : Int := if a < b then -1 else if a = b then 0 else 1
theorem dgs_inj {a b : Nat} (h : dgs a = dgs b) : a = b := by
  have := congrArg dval h
  rwa [dval_dgs, dval_dgs] at this
theorem len_lt {a b : Nat} (h : (dgs a).length < (dgs b).length) : a < b := by
  have h1 := lt_dgs a
  have h2 := dgs_le (n := b) (by intro h0; rw [h0, dgs_zero] at h; simp at h)
  have := pow_le (i := (dgs a).length) (j := (dgs b).length - 1) (by omega)
  omega
theorem compare_eq (a b : Nat) (ha : (dgs a).length ≤ 1000000) (hb : (dgs b).length ≤ 1000000) : g_ref01_compare (dgs a) (dgs b) = some (cmpN a b) := by
  unfold g_ref01_compare cmpN
  by_cases hl : (dgs a).length = (dgs b).length
  · rw [if_neg (by simp [hl])]
    have key := whileN_ex (body := g_ref01_compare_b0 (dgs a) (dgs b)) (fun s => ∃ k : Nat, s = (k : Int) - 1 ∧ k ≤ (dgs a).length ∧ (dgs a).drop k = (dgs b).drop k) (fun s => (s + 1).toNat)
      (fun r => (match r with | .inl x => some x | .inr _ => some (0 : Int)) = some (if a < b then (-1 : Int) else if a = b then 0 else 1)) ?_
      (IntKind.i64.wrap (((dgs a).length : Int) - 1)) ⟨(dgs a).length, by rw [w64 (by omega)], Nat.le_refl _, by rw [List.drop_length, hl, List.drop_length]⟩ (by rw [w64 (by omega)]; omega)
    · obtain ⟨r, h1, h2⟩ := key
      rw [h1]
      exact h2
    · rintro s ⟨k, rfl, hk, hd⟩
      cases k with
      | zero =>
        right
        refine ⟨.inr (), by simp [g_ref01_compare_b0], ?_⟩
        simp only [List.drop_zero] at hd
        have := dgs_inj hd
        subst this
        simp
      | succ k =>
        have e : ((k + 1 : Nat) : Int) - 1 = (k : Int) := by omega
        rw [e]
        have hka : k < (dgs a).length := by omega
        have hkb : k < (dgs b).length := by omega
        unfold g_ref01_compare_b0
        rw [if_pos (by simp), lkI_nat hka, lkI_nat hkb]
        simp only [Option.bind_some]
        by_cases hne : (dgs a)[k] = (dgs b)[k]
        · left
          refine ⟨(k : Int) - 1, ?_, ⟨k, rfl, by omega, ?_⟩, by omega⟩
          · rw [if_neg (by simp [hne]), w64 (by omega)]
          · rw [List.drop_eq_getElem_cons hka, List.drop_eq_getElem_cons hkb, hne, hd]
        · right
          rw [if_pos (by simp [hne])]
          by_cases hlt : (dgs a)[k] < (dgs b)[k]
          · refine ⟨.inl (-1), by simp [hlt], ?_⟩
            have := dval_lt_of (isdg_dgs a) (isdg_dgs b) hl hka hd hlt
            rw [dval_dgs, dval_dgs] at this
            simp [this]
          · refine ⟨.inl 1, by simp [hlt], ?_⟩
            have := dval_lt_of (isdg_dgs b) (isdg_dgs a) hl.symm hkb hd.symm (by omega)
            rw [dval_dgs, dval_dgs] at this
            simp only [Option.some.injEq]
            rw [if_neg (by omega), if_neg (by omega)]
  · rw [if_pos (by simp; omega)]
    by_cases hlt : (dgs a).length < (dgs b).length
    · have := len_lt hlt
      simp [hlt, this]
    · have := len_lt (a := b) (b := a) (by omega)
      rw [if_neg (by simp; omega), if_neg (by omega), if_neg (by omega)]
theorem sub_take {l : List Int} {k : Nat} : sub l 0 (k : Int) = l.take k := by simp [sub]
theorem cut_eq (l : List Int) (h : isdg l) (hl : l.length ≤ 1000000) : g_ref01_cut l = some (dgs (dval l)) := by
  unfold g_ref01_cut
  rw [whileN_eq (fun s => isdg s ∧ dval s = dval l ∧ s.length ≤ 1000000) (fun s => s.length) (dgs (dval l)) ?_ l ⟨h, rfl, hl⟩ (by omega)]
  · rfl
  · rintro s ⟨h1, h2, h3⟩
    unfold g_ref01_cut_b0
    by_cases hs : s.length = 0
    · right
      rw [if_neg (by simp [hs])]
      have : s = [] := List.length_eq_zero_iff.1 hs
      subst this
      rw [← h2]; simp [dval, dgs_zero]
    · obtain ⟨k, hk⟩ : ∃ k, s.length = k + 1 := ⟨s.length - 1, by omega⟩
      rw [if_pos (by simp; omega), w64 (by omega), show (s.length : Int) - 1 = (k : Int) by omega, lkI_nat (by omega)]
      simp only [Option.bind_some]
      by_cases h0 : s[k] = 0
      · left
        refine ⟨s.take k, ?_, ⟨isdg_take h1 k, ?_, by simp; omega⟩, by simp; omega⟩
        · rw [if_pos (by simp [h0]), if_pos (by omega), sub_take]
        · rw [← h2, dval_split (l := s) (k := k) (by omega), dval_drop (by omega), h0, List.drop_of_length_le (by omega)]; simp [dval]
      · right
        rw [if_neg (by simp [h0])]
        have hn : nolz s := by
          unfold nolz
          rw [List.getLast?_eq_getElem?, hk, Nat.add_sub_cancel, List.getElem?_eq_getElem (by omega)]
          simpa using h0
        rw [← h2, dgs_of h1 hn]
theorem dval_drop_pos {l : List Int} (h : isdg l) (hn : nolz l) {k : Nat} (hk : k < l.length) : 0 < dval (l.drop k) := by
  have h1 : nolz (l.drop k) := by
    unfold nolz at *
    rwa [List.getLast?_drop, if_neg (by omega)]
  have h2 := dgs_of (isdg_drop h k) h1
  rcases Nat.eq_zero_or_pos (dval (l.drop k)) with h0 | h0
  · rw [h0, dgs_zero] at h2
    have := congrArg List.length h2
    simp at this; omega
  · exact h0
theorem dval_drop_ge {l : List Int} {k : Nat} (hk : l.length ≤ k) : dval (l.drop k) = 0 := by rw [List.drop_of_length_le hk]; rfl
def dat (l : List Int) (k : Nat) : Int := l.getD k 0
theorem dat_lt {l : List Int} {k : Nat} (h : k < l.length) : dat l k = l[k] := by simp [dat, h]
theorem dat_ge {l : List Int} {k : Nat} (h : l.length ≤ k) : dat l k = 0 := by simp [dat, h]
theorem dat_dg {l : List Int} (h : isdg l) (k : Nat) : 0 ≤ dat l k ∧ dat l k < 10000 := by
  rcases Nat.lt_or_ge k l.length with hk | hk
  · rw [dat_lt hk]; exact isdg_get h hk
  · rw [dat_ge hk]; omega
theorem dval_dat (l : List Int) (k : Nat) : dval (l.drop k) = (dat l k).toNat + 10000 * dval (l.drop (k + 1)) := by
  rcases Nat.lt_or_ge k l.length with hk | hk
  · rw [dat_lt hk]; exact dval_drop hk
  · rw [dval_drop_ge hk, dval_drop_ge (by omega), dat_ge hk]; rfl
theorem dval_snoc (l : List Int) (x : Int) : dval (l ++ [x]) = dval l + 10000 ^ l.length * x.toNat := by rw [dval_append]; simp [dval]
theorem plus_eq (a b : Nat) (ha : (dgs a).length ≤ 1000000) (hb : (dgs b).length ≤ 1000000) : g_ref01_plus (dgs a) (dgs b) = some (dgs (a + b)) := by
  unfold g_ref01_plus
  have pa := fun k (hk : k < (dgs a).length) => dval_drop_pos (isdg_dgs a) (nolz_dgs a) hk
  have pb := fun k (hk : k < (dgs b).length) => dval_drop_pos (isdg_dgs b) (nolz_dgs b) hk
  obtain ⟨M, hM⟩ : ∃ M : Nat, M = 2000005 := ⟨_, rfl⟩
  rw [whileN_eq (fun s => ∃ i c : Nat, s.2.1 = (i : Int) ∧ s.1 = (c : Int) ∧ c ≤ 1 ∧ i ≤ 2000001 ∧ s.2.2.length = i ∧ isdg s.2.2 ∧ dval s.2.2 + 10000 ^ i * (c + dval ((dgs a).drop i) + dval ((dgs b).drop i)) = a + b ∧
    (s.2.2.getLast? = some 0 → 0 < c + dval ((dgs a).drop i) + dval ((dgs b).drop i)) ∧ (i ≤ 1000000 ∨ c = 0)) (fun s => M - s.2.1.toNat) (dgs (a + b)) ?_ (0, 0, []) ⟨0, 0, rfl, rfl, by omega, by omega, rfl, isdg_nil, by simp [dval, dval_dgs], by simp, .inl (by omega)⟩ (by simp only; omega)]
  · rfl
  · rintro ⟨c0, i0, out⟩ ⟨i, c, h1, h2, hc, hi, ho, hd, hv, hz, hic⟩
    simp only at h1 h2 ho hd hv hz
    subst h1; subst h2
    have xa := dat_dg (isdg_dgs a) i
    have xb := dat_dg (isdg_dgs b) i
    have va := dval_dat (dgs a) i
    have vb := dval_dat (dgs b) i
    have round : ∀ t : Int, t = c + dat (dgs a) i + dat (dgs b) i → (i < (dgs a).length ∨ i < (dgs b).length ∨ 0 < c) → ∃ j d : Nat, ((i : Int) + 1) = (j : Int) ∧ t / 10000 = (d : Int) ∧ d ≤ 1 ∧ j ≤ 2000001 ∧ (out ++ [t % 10000]).length = j ∧ isdg (out ++ [t % 10000]) ∧
        dval (out ++ [t % 10000]) + 10000 ^ j * (d + dval ((dgs a).drop j) + dval ((dgs b).drop j)) = a + b ∧ ((out ++ [t % 10000]).getLast? = some 0 → 0 < d + dval ((dgs a).drop j) + dval ((dgs b).drop j)) ∧ (j ≤ 1000000 ∨ d = 0) := by
      intro t ht hgo
      refine ⟨i + 1, (t / 10000).toNat, by omega, by omega, by omega, ?_, by simp [ho], ?_, ?_, ?_, ?_⟩
      · rcases hic with h | h
        · omega
        · rcases hgo with h' | h' | h' <;> omega
      · rw [isdg_append]; exact ⟨hd, isdg_cons.2 ⟨by omega, isdg_nil⟩⟩
      · rw [dval_snoc, ho, ← hv, va, vb, Nat.pow_succ, Nat.mul_assoc, Nat.add_assoc, ← Nat.mul_add]
        congr 2
        omega
      · simp only [List.getLast?_append, List.getLast?_singleton, Option.some_or, Option.some.injEq]
        intro h0
        rcases Nat.eq_zero_or_pos ((t / 10000).toNat) with hq | hq
        · have t0 : t = 0 := by omega
          rcases hgo with h' | h' | h'
          · have := pa i h'; omega
          · have := pb i h'; omega
          · omega
        · omega
      · rcases Nat.lt_or_ge i 1000000 with h' | h'
        · left; omega
        · right
          have z1 : dat (dgs a) i = 0 := dat_ge (by omega)
          have z2 : dat (dgs b) i = 0 := dat_ge (by omega)
          omega
    unfold g_ref01_plus_b0
    simp only
    by_cases h1 : i < (dgs a).length
    · left
      rw [if_pos (by simp [h1]), lkI_nat h1]
      simp only [Option.bind_some]
      rw [dat_lt h1] at xa round
      by_cases h2 : i < (dgs b).length
      · rw [if_pos (by simp [h2]), lkI_nat h2]
        simp only [Option.bind_some]
        rw [dat_lt h2] at xb round
        have hw : IntKind.i64.wrap (IntKind.i64.wrap ((c : Int) + (dgs a)[i]) + (dgs b)[i]) = c + (dgs a)[i] + (dgs b)[i] := by rw [w64 (n := (c : Int) + (dgs a)[i]) (by omega), w64 (by omega)]
        rw [hw, tmod_pos (by omega), tdiv_pos (by omega), w64 (n := _ / 10000) (by omega), w64 (n := (i : Int) + 1) (by omega), if_pos (by simp; omega)]
        exact ⟨_, rfl, round _ rfl (.inl h1), by simp only; omega⟩
      · rw [if_neg (by simp; omega)]
        rw [dat_ge (by omega)] at xb round
        have hw : IntKind.i64.wrap ((c : Int) + (dgs a)[i]) = c + (dgs a)[i] + 0 := by rw [w64 (n := (c : Int) + (dgs a)[i]) (by omega)]; omega
        rw [hw, tmod_pos (by omega), tdiv_pos (by omega), w64 (n := _ / 10000) (by omega), w64 (n := (i : Int) + 1) (by omega), if_pos (by simp; omega)]
        exact ⟨_, rfl, round _ rfl (.inl h1), by simp only; omega⟩
    · rw [if_neg (by simp; omega)]
      rw [dat_ge (by omega)] at xa round
      by_cases h2 : i < (dgs b).length
      · left
        rw [if_pos (by simp [h2]), lkI_nat h2]
        simp only [Option.bind_some]
        rw [dat_lt h2] at xb round
        have hw : IntKind.i64.wrap ((c : Int) + (dgs b)[i]) = c + 0 + (dgs b)[i] := by rw [w64 (n := (c : Int) + (dgs b)[i]) (by omega)]; omega
        rw [hw, tmod_pos (by omega), tdiv_pos (by omega), w64 (n := _ / 10000) (by omega), w64 (n := (i : Int) + 1) (by omega), if_pos (by simp; omega)]
        exact ⟨_, rfl, round _ rfl (.inr (.inl h2)), by simp only; omega⟩
      · rw [if_neg (by simp; omega)]
        rw [dat_ge (by omega)] at xb round
        by_cases h3 : 0 < c
        · left
          rw [if_pos (by simp [h3])]
          have hw : (c : Int) = c + 0 + 0 := by omega
          rw [hw, tmod_pos (by omega), tdiv_pos (by omega), w64 (n := _ / 10000) (by omega), w64 (n := (i : Int) + 1) (by omega), if_pos (by simp; omega)]
          exact ⟨_, rfl, round _ rfl (.inr (.inr h3)), by simp only; omega⟩
        · right
          rw [if_neg (by simp; omega)]
          have c0 : c = 0 := by omega
          subst c0
          rw [dval_drop_ge (l := dgs a) (by omega), dval_drop_ge (l := dgs b) (by omega)] at hv hz
          simp only [Nat.add_zero, Nat.mul_zero] at hv
          have hn : nolz out := fun h => by have := hz h; omega
          rw [← hv, dgs_of hd hn]
theorem minus_eq (a b : Nat) (hab : b ≤ a) (ha : (dgs a).length ≤ 1000000) : g_ref01_minus (dgs a) (dgs b) = some (dgs (a - b)) := by
  unfold g_ref01_minus
  have hlb : (dgs b).length ≤ (dgs a).length := by
    rcases Nat.lt_or_ge (dgs a).length (dgs b).length with h | h
    · have := len_lt h; omega
    · exact h
  obtain ⟨M, hM⟩ : ∃ M : Nat, M = 2000005 := ⟨_, rfl⟩
  obtain ⟨out, h1, h2, h3, h4⟩ : ∃ out, whileN fuel (g_ref01_minus_b0 (dgs a) (dgs b)) (0, 0, []) = some out ∧ isdg out ∧ out.length ≤ 1000000 ∧ dval out = a - b := by
    refine whileN_ex (fun s => ∃ i c : Nat, s.2.1 = (i : Int) ∧ s.1 = (c : Int) ∧ c ≤ 1 ∧ i ≤ (dgs a).length ∧ s.2.2.length = i ∧ isdg s.2.2 ∧ dval s.2.2 + dval ((dgs b).take i) = dval ((dgs a).take i) + 10000 ^ i * c) (fun s => M - s.2.1.toNat) _ ?_ (0, 0, [])
      ⟨0, 0, rfl, rfl, by omega, by omega, rfl, isdg_nil, by simp [dval]⟩ (by simp only; omega)
    rintro ⟨c0, i0, out⟩ ⟨i, c, h1, h2, hc, hi, ho, hd, hv⟩
    simp only at h1 h2 ho hd hv
    subst h1; subst h2
    unfold g_ref01_minus_b0
    simp only
    by_cases h1 : i < (dgs a).length
    · left
      have xa := isdg_get (isdg_dgs a) h1
      have xb := dat_dg (isdg_dgs b) i
      have tb : dval ((dgs b).take (i + 1)) = dval ((dgs b).take i) + 10000 ^ i * (dat (dgs b) i).toNat := by
        rcases Nat.lt_or_ge i (dgs b).length with h | h
        · rw [dval_take_succ h, dat_lt h]
        · rw [dat_ge h, List.take_of_length_le (by omega), List.take_of_length_le (by omega)]; simp
      have round : ∀ d : Int, ∀ c' : Nat, d = (dgs a)[i] - c - dat (dgs b) i + 10000 * c' → 0 ≤ d → d < 10000 → c' ≤ 1 → ∃ j e : Nat, ((i : Int) + 1) = (j : Int) ∧ (c' : Int) = (e : Int) ∧ e ≤ 1 ∧ j ≤ (dgs a).length ∧ (out ++ [d]).length = j ∧ isdg (out ++ [d]) ∧
          dval (out ++ [d]) + dval ((dgs b).take j) = dval ((dgs a).take j) + 10000 ^ j * e := by
        intro d c' hd' h0 h9 hc'
        refine ⟨i + 1, c', by omega, rfl, hc', h1, by simp [ho], ?_, ?_⟩
        · rw [isdg_append]; exact ⟨hd, isdg_cons.2 ⟨⟨h0, h9⟩, isdg_nil⟩⟩
        · rw [dval_snoc, ho, tb, dval_take_succ h1, Nat.pow_succ]
          have e1 : d.toNat + (dat (dgs b) i).toNat + c = (dgs a)[i].toNat + 10000 * c' := by omega
          have e2 : 10000 ^ i * (d.toNat + (dat (dgs b) i).toNat + c) = 10000 ^ i * ((dgs a)[i].toNat + 10000 * c') := by rw [e1]
          rw [Nat.mul_add, Nat.mul_add, Nat.mul_add, ← Nat.mul_assoc] at e2
          omega
      rw [if_pos (by simp [h1]), lkI_nat h1]
      simp only [Option.bind_some]
      by_cases h2 : i < (dgs b).length
      · rw [if_pos (by simp [h2]), lkI_nat h2]
        simp only [Option.bind_some]
        rw [dat_lt h2] at xb round
        have hw : IntKind.i64.wrap (IntKind.i64.wrap ((dgs a)[i] - (c : Int)) - (dgs b)[i]) = (dgs a)[i] - c - (dgs b)[i] := by rw [w64 (n := (dgs a)[i] - (c : Int)) (by omega), w64 (by omega)]
        rw [hw, w64 (n := (i : Int) + 1) (by omega)]
        by_cases h3 : (dgs a)[i] - c - (dgs b)[i] < 0
        · rw [if_pos (by simp [h3]), w64 (by omega), if_pos (by simp; omega)]
          exact ⟨_, rfl, round _ 1 (by omega) (by omega) (by omega) (by omega), by simp only; omega⟩
        · rw [if_neg (by simpa using h3), if_pos (by simp; omega)]
          exact ⟨_, rfl, round _ 0 (by omega) (by omega) (by omega) (by omega), by simp only; omega⟩
      · rw [if_neg (by simp; omega)]
        rw [dat_ge (by omega)] at xb round
        rw [w64 (n := (dgs a)[i] - (c : Int)) (by omega), w64 (n := (i : Int) + 1) (by omega)]
        by_cases h3 : (dgs a)[i] - (c : Int) < 0
        · rw [if_pos (by simp [h3]), w64 (by omega), if_pos (by simp; omega)]
          exact ⟨_, rfl, round _ 1 (by omega) (by omega) (by omega) (by omega), by simp only; omega⟩
        · rw [if_neg (by simpa using h3), if_pos (by simp; omega)]
          exact ⟨_, rfl, round _ 0 (by omega) (by omega) (by omega) (by omega), by simp only; omega⟩
    · right
      rw [if_neg (by simp; omega)]
      have : i = (dgs a).length := by omega
      subst this
      rw [List.take_length, List.take_of_length_le hlb, dval_dgs, dval_dgs] at hv
      have h5 := dval_lt hd
      rw [ho] at h5
      refine ⟨out, rfl, hd, by omega, ?_⟩
      rcases Nat.eq_zero_or_pos c with h | h
      · subst h; omega
      · have : c = 1 := by omega
        subst this
        omega
  rw [h1]
  simp only [Option.bind_some]
  rw [cut_eq out h2 h3, h4]
  rfl
theorem dval_set {l : List Int} {k : Nat} (hk : k < l.length) {x : Int} (hx : 0 ≤ x) (h0 : 0 ≤ l[k]) : dval (l.set k x) + 10000 ^ k * l[k].toNat = dval l + 10000 ^ k * x.toNat := by
  induction l generalizing k with
  | nil => simp at hk
  | cons y l ih =>
    cases k with
    | zero => simp only [List.set_cons_zero, dval, List.getElem_cons_zero, Nat.pow_zero]; omega
    | succ k =>
      simp only [List.set_cons_succ, dval, List.getElem_cons_succ, Nat.pow_succ] at *
      have := ih (by simpa using hk) h0
      have e : ∀ z, 10000 ^ k * 10000 * z = 10000 * (10000 ^ k * z) := fun z => by rw [Nat.mul_comm (10000 ^ k), Nat.mul_assoc]
      rw [e, e]
      omega
theorem isdg_set {l : List Int} (h : isdg l) {k : Nat} {x : Int} (hx : 0 ≤ x ∧ x < 10000) : isdg (l.set k x) := by
  intro y hy
  rcases List.mem_or_eq_of_mem_set hy with h1 | h1
  · exact h y h1
  · subst h1; exact hx
theorem isdg_replicate (n : Nat) : isdg (List.replicate n (0 : Int)) := fun x hx => by
  rw [List.mem_replicate] at hx
  omega
theorem dval_replicate (n : Nat) : dval (List.replicate n (0 : Int)) = 0 := by
  induction n with
  | zero => rfl
  | succ n ih => simp [List.replicate_succ, dval, ih]
theorem times_eq (x y : List Int) (hx : isdg x) (hy : ∀ z ∈ y, 0 ≤ z ∧ z ≤ 10000) (hyv : dval y ≤ 10000 ^ y.length) (lx : x.length ≤ 10000) (ly : y.length ≤ 10000) : g_ref01_times x y = some (dgs (dval x * dval y)) := by
  unfold g_ref01_times
  obtain ⟨M, hM⟩ : ∃ M : Nat, M = 2000005 := ⟨_, rfl⟩
  have hw : IntKind.i64.wrap ((x.length : Int) + (y.length : Int)) = ((x.length + y.length : Nat) : Int) := by rw [w64 (by omega)]; omega
  rw [hw, if_pos (by omega), Int.toNat_natCast]
  obtain ⟨out, h1, h2, h3, h4⟩ : ∃ out, whileN fuel (g_ref01_times_b1 x y) (0, List.replicate (x.length + y.length) 0) = some out ∧ isdg out ∧ out.length = x.length + y.length ∧ dval out = dval x * dval y := by
    refine whileN_ex (fun s => ∃ i : Nat, s.1 = (i : Int) ∧ i ≤ x.length ∧ s.2.length = x.length + y.length ∧ isdg s.2 ∧ dval s.2 = dval (x.take i) * dval y) (fun s => M - s.1.toNat) _ ?_ (0, List.replicate (x.length + y.length) 0)
      ⟨0, rfl, by omega, by simp, isdg_replicate _, by simp [dval, dval_replicate]⟩ (by simp only; omega)
    rintro ⟨i0, o⟩ ⟨i, h1, hi, ho, hd, hv⟩
    simp only at h1 ho hd hv
    subst h1
    unfold g_ref01_times_b1
    simp only
    by_cases h1 : i < x.length
    · left
      rw [if_pos (by simp [h1])]
      have xi := isdg_get hx h1
      have tot : dval (x.take (i + 1)) * dval y < 10000 ^ (i + 1 + y.length) := by
        have a1 := dval_lt (isdg_take hx (i + 1))
        rw [List.length_take, Nat.min_eq_left (by omega)] at a1
        have a2 : (dval (x.take (i + 1)) + 1) * dval y ≤ 10000 ^ (i + 1) * 10000 ^ y.length := Nat.mul_le_mul a1 hyv
        rw [← Nat.pow_add, Nat.add_mul] at a2
        rcases Nat.eq_zero_or_pos (dval y) with h | h
        · rw [h, Nat.mul_zero]; exact Nat.pow_pos (by omega)
        · omega
      obtain ⟨o', e1, e2, e3, e4⟩ : ∃ o', whileN fuel (g_ref01_times_b0 y ((i : Int), o) x) (0, 0, o) = some o' ∧ isdg o' ∧ o'.length = x.length + y.length ∧ dval o' = dval (x.take (i + 1)) * dval y := by
        refine whileN_ex (fun s => ∃ k c : Nat, s.2.1 = (k : Int) ∧ s.1 = (c : Int) ∧ c ≤ 10000 ∧ i + k ≤ x.length + y.length ∧ s.2.2.length = x.length + y.length ∧ isdg s.2.2 ∧ dval s.2.2 + 10000 ^ (i + k) * c = dval o + 10000 ^ i * (x[i].toNat * dval (y.take k))) (fun s => M - s.2.1.toNat) _ ?_ (0, 0, o)
          ⟨0, 0, rfl, rfl, by omega, by omega, ho, hd, by simp [dval]⟩ (by simp only; omega)
        rintro ⟨c0, k0, o2⟩ ⟨k, c, g1, g2, gc, gk, go, gd, gv⟩
        simp only at g1 g2 go gd gv
        subst g1; subst g2
        have full : y.length ≤ k → dval o + 10000 ^ i * (x[i].toNat * dval (y.take k)) = dval (x.take (i + 1)) * dval y := fun h => by
          rw [List.take_of_length_le h, hv, dval_take_succ h1, Nat.add_mul, Nat.mul_assoc]
        unfold g_ref01_times_b0
        simp only
        have hik : IntKind.i64.wrap ((i : Int) + (k : Int)) = ((i + k : Nat) : Int) := by rw [w64 (by omega)]; omega
        rw [hik]
        by_cases hk : k < y.length
        · left
          have hj : i + k < o2.length := by omega
          have yk := hy _ (List.getElem_mem hk)
          have oj := isdg_get gd hj
          rw [if_pos (by simp [hk]), lkI_nat hj]
          simp only [Option.bind_some]
          rw [lkI_nat h1]
          simp only [Option.bind_some]
          rw [lkI_nat hk]
          simp only [Option.bind_some]
          have p1 : 0 ≤ x[i] * y[k] := Int.mul_nonneg xi.1 yk.1
          have p2 : x[i] * y[k] ≤ 9999 * 10000 := Int.mul_le_mul (by omega) yk.2 yk.1 (by omega)
          have hc : IntKind.i64.wrap (IntKind.i64.wrap ((c : Int) + o2[i + k]) + IntKind.i64.wrap (x[i] * y[k])) = c + o2[i + k] + x[i] * y[k] := by
            rw [w64 (n := (c : Int) + o2[i + k]) (by omega), w64 (n := x[i] * y[k]) (by omega), w64 (by omega)]
          rw [hc, tdiv_pos (by omega), tmod_pos (by omega), w64 (n := _ / 10000) (by omega), w64 (n := (k : Int) + 1) (by omega), Int.toNat_natCast]
          generalize ht : c + o2[i + k] + x[i] * y[k] = t at *
          refine ⟨_, rfl, ⟨k + 1, (t / 10000).toNat, by simp only; omega, by simp only; omega, by omega, by omega, by simp [go], isdg_set gd (by omega), ?_⟩, by simp only; omega⟩
          simp only
          have s1 := dval_set (l := o2) (k := i + k) hj (x := t % 10000) (by omega) oj.1
          have pt : (x[i] * y[k]).toNat = x[i].toNat * y[k].toNat := Int.toNat_mul xi.1 yk.1
          have e1 : (t % 10000).toNat + 10000 * (t / 10000).toNat = c + o2[i + k].toNat + x[i].toNat * y[k].toNat := by omega
          have e2 : 10000 ^ (i + k) * ((t % 10000).toNat + 10000 * (t / 10000).toNat) = 10000 ^ (i + k) * (c + o2[i + k].toNat + x[i].toNat * y[k].toNat) := by rw [e1]
          rw [Nat.mul_add, Nat.mul_add, Nat.mul_add, ← Nat.mul_assoc] at e2
          rw [dval_take_succ hk, Nat.mul_add, Nat.mul_add, show i + (k + 1) = (i + k) + 1 by omega, Nat.pow_succ]
          have e3 : 10000 ^ i * (x[i].toNat * (10000 ^ k * y[k].toNat)) = 10000 ^ (i + k) * (x[i].toNat * y[k].toNat) := by
            rw [Nat.pow_add, Nat.mul_assoc, Nat.mul_left_comm (10000 ^ k)]
          rw [e3]
          omega
        · rw [if_neg (by simp; omega)]
          by_cases hc : 0 < c
          · left
            have hj : i + k < o2.length := by
              rw [full (by omega)] at gv
              have : 10000 ^ (i + k) * 1 ≤ 10000 ^ (i + k) * c := Nat.mul_le_mul_left _ hc
              have h5 : 10000 ^ (i + k) < 10000 ^ (i + 1 + y.length) := by omega
              have := (Nat.pow_lt_pow_iff_right (by omega)).1 h5
              omega
            have oj := isdg_get gd hj
            rw [if_pos (by simp [hc]), lkI_nat hj]
            simp only [Option.bind_some]
            rw [w64 (n := (c : Int) + o2[i + k]) (by omega), tdiv_pos (by omega), tmod_pos (by omega), w64 (n := _ / 10000) (by omega), w64 (n := (k : Int) + 1) (by omega), Int.toNat_natCast]
            generalize ht : (c : Int) + o2[i + k] = t at *
            refine ⟨_, rfl, ⟨k + 1, (t / 10000).toNat, by simp only; omega, by simp only; omega, by omega, by omega, by simp [go], isdg_set gd (by omega), ?_⟩, by simp only; omega⟩
            simp only
            have s1 := dval_set (l := o2) (k := i + k) hj (x := t % 10000) (by omega) oj.1
            have e1 : (t % 10000).toNat + 10000 * (t / 10000).toNat = c + o2[i + k].toNat := by omega
            have e2 : 10000 ^ (i + k) * ((t % 10000).toNat + 10000 * (t / 10000).toNat) = 10000 ^ (i + k) * (c + o2[i + k].toNat) := by rw [e1]
            rw [Nat.mul_add, Nat.mul_add, ← Nat.mul_assoc] at e2
            rw [List.take_of_length_le (by omega)] at gv ⊢
            rw [show i + (k + 1) = (i + k) + 1 by omega, Nat.pow_succ]
            omega
          · right
            rw [if_neg (by simp; omega)]
            have : c = 0 := by omega
            subst this
            rw [full (by omega)] at gv
            exact ⟨o2, rfl, gd, go, by simpa using gv⟩
      rw [e1]
      simp only [Option.bind_some]
      rw [w64 (n := (i : Int) + 1) (by omega)]
      exact ⟨_, rfl, ⟨i + 1, by simp only; omega, by omega, e3, e2, e4⟩, by simp only; omega⟩
    · right
      rw [if_neg (by simp; omega)]
      rw [List.take_of_length_le (by omega)] at hv
      exact ⟨o, rfl, hd, ho, hv⟩
  rw [h1]
  simp only [Option.bind_some]
  rw [cut_eq out h2 (by omega), h4]
  rfl
end Go.Ab
namespace Go.Ab
open Go
set_option linter.unusedVariables false
set_option linter.unusedSimpArgs false
set_option maxRecDepth 100000
theorem dval_split' (l : List Int) (k : Nat) : dval l = dval (l.take k) + 10000 ^ k * dval (l.drop k) := by
  rcases Nat.lt_or_ge l.length k with h | h
  · rw [List.take_of_length_le (by omega), List.drop_of_length_le (by omega)]; simp [dval]
  · exact dval_split h
theorem dval_take_lt {l : List Int} (h : isdg l) (k : Nat) : dval (l.take k) < 10000 ^ k := by
  have h1 := dval_lt (isdg_take h k)
  have h2 := pow_le (i := (l.take k).length) (j := k) (by simp; omega)
  omega
theorem tops_eq (y x : List Int) (hy : isdg y) (hx : isdg x) (n : Nat) (ly : y.length = n + 1) (lx : x.length ≤ n + 2) (hn : n ≤ 100000) :
    whileN fuel (g_ref01_divide_b0 y x) (0, 0, ((n + 1 : Nat) : Int)) = some (((dval (y.drop (n - 1)) : Nat) : Int), ((dval (x.drop (n - 1)) : Nat) : Int)) := by
  have hb : ∀ t, n - 1 ≤ t → dval (x.drop t) < 1000000000000 ∧ dval (y.drop t) < 100000000 := fun t ht => by
    have h1 := dval_lt (isdg_drop hx t)
    have h2 := pow_le (i := (x.drop t).length) (j := 3) (by simp; omega)
    have h3 := dval_lt (isdg_drop hy t)
    have h4 := pow_le (i := (y.drop t).length) (j := 2) (by simp; omega)
    omega
  refine whileN_eq (fun s => ∃ t : Nat, s.2.2 = (t : Int) - 1 ∧ n - 1 ≤ t ∧ t ≤ n + 2 ∧ s.1 = ((dval (y.drop t) : Nat) : Int) ∧ s.2.1 = ((dval (x.drop t) : Nat) : Int)) (fun s => (s.2.2 + 1).toNat) _ ?_ _
    ⟨n + 2, by simp only; omega, by omega, by omega, by rw [dval_drop_ge (by omega)]; rfl, by rw [dval_drop_ge (by omega)]; rfl⟩ (by simp only; omega)
  rintro ⟨top, first, kk⟩ ⟨t, h1, h2, h3, h4, h5⟩
  simp only at h1 h4 h5
  subst h1; subst h4; subst h5
  unfold g_ref01_divide_b0
  simp only
  have hn1 : IntKind.i64.wrap ((y.length : Int) - 1) = (n : Int) := by rw [w64 (by omega)]; omega
  have hmx : (if IntKind.i64.wrap ((n : Int) - 1) > 0 then IntKind.i64.wrap ((n : Int) - 1) else 0) = ((n - 1 : Nat) : Int) := by
    rw [w64 (by omega)]; split <;> omega
  rw [hn1, hmx]
  by_cases hge : n - 1 < t
  · left
    obtain ⟨u, rfl⟩ : ∃ u, t = u + 1 := ⟨t - 1, by omega⟩
    have e : ((u + 1 : Nat) : Int) - 1 = (u : Int) := by omega
    rw [e]
    have bu := hb u (by omega)
    have bt := hb (u + 1) (by omega)
    have vx := dval_dat x u
    have vy := dval_dat y u
    have dx := dat_dg hx u
    have dy := dat_dg hy u
    rw [if_pos (by simp; omega)]
    by_cases hxu : u < x.length
    · rw [if_pos (by simp [hxu]), lkI_nat hxu]
      simp only [Option.bind_some]
      rw [dat_lt hxu] at vx dx
      rw [w64 (n := ((dval (x.drop (u + 1)) : Nat) : Int) * 10000) (by omega), w64 (n := ((dval (x.drop (u + 1)) : Nat) : Int) * 10000 + x[u]) (by omega), w64 (n := (u : Int) - 1) (by omega)]
      by_cases hyu : u ≤ n
      · have hyl : u < y.length := by omega
        rw [if_pos (by simp [hyu]), lkI_nat hyl]
        simp only [Option.bind_some]
        rw [dat_lt hyl] at vy dy
        rw [w64 (n := ((dval (y.drop (u + 1)) : Nat) : Int) * 10000) (by omega), w64 (n := ((dval (y.drop (u + 1)) : Nat) : Int) * 10000 + y[u]) (by omega)]
        exact ⟨_, rfl, ⟨u, rfl, by omega, by omega, by simp only; omega, by simp only; omega⟩, by simp only; omega⟩
      · rw [if_neg (by simp; omega)]
        rw [dval_drop_ge (l := y) (k := u + 1) (by omega)]
        exact ⟨_, rfl, ⟨u, rfl, by omega, by omega, by simp only [dval_drop_ge (l := y) (k := u) (by omega)], by simp only; omega⟩, by simp only; omega⟩
    · rw [if_neg (by simp; omega)]
      rw [dat_ge (by omega)] at vx dx
      rw [w64 (n := ((dval (x.drop (u + 1)) : Nat) : Int) * 10000) (by omega), w64 (n := (u : Int) - 1) (by omega)]
      by_cases hyu : u ≤ n
      · have hyl : u < y.length := by omega
        rw [if_pos (by simp [hyu]), lkI_nat hyl]
        simp only [Option.bind_some]
        rw [dat_lt hyl] at vy dy
        rw [w64 (n := ((dval (y.drop (u + 1)) : Nat) : Int) * 10000) (by omega), w64 (n := ((dval (y.drop (u + 1)) : Nat) : Int) * 10000 + y[u]) (by omega)]
        exact ⟨_, rfl, ⟨u, rfl, by omega, by omega, by simp only; omega, by simp only; omega⟩, by simp only; omega⟩
      · rw [if_neg (by simp; omega)]
        rw [dval_drop_ge (l := y) (k := u + 1) (by omega)]
        exact ⟨_, rfl, ⟨u, rfl, by omega, by omega, by simp only [dval_drop_ge (l := y) (k := u) (by omega)], by simp only; omega⟩, by simp only; omega⟩
  · right
    have : t = n - 1 := by omega
    subst this
    rw [if_neg (by simp; omega)]
theorem cmpN_le {a b : Nat} : cmpN a b ≤ 0 ↔ a ≤ b := by
  unfold cmpN
  split
  · omega
  · split <;> omega
theorem dgs_single {q : Nat} (h0 : 0 < q) (h : q < 10000) : dgs q = [(q : Int)] := by
  rw [dgs_pos (by omega), show q / 10000 = 0 by omega, dgs_zero, Nat.mod_eq_of_lt h]
theorem halve_eq (b R lo hi : Nat) (hb : 0 < b) (lb : (dgs b).length ≤ 9000) (lR : (dgs R).length ≤ 10000) (h1 : lo ≤ R / b) (h2 : R / b ≤ hi) (h3 : hi ≤ 10000) :
    whileN fuel (g_ref01_divide_b1 (dgs b) (dgs R)) ((lo : Int), (hi : Int)) = some ((R / b : Nat) : Int) := by
  refine whileN_eq (fun s => ∃ l h : Nat, s.1 = (l : Int) ∧ s.2 = (h : Int) ∧ l ≤ R / b ∧ R / b ≤ h ∧ h ≤ 10000) (fun s => (s.2 - s.1).toNat) _ ?_ _ ⟨lo, hi, rfl, rfl, h1, h2, h3⟩ (by simp only; omega)
  rintro ⟨l0, h0⟩ ⟨l, h, e1, e2, g1, g2, g3⟩
  simp only at e1 e2
  subst e1; subst e2
  unfold g_ref01_divide_b1
  simp only
  by_cases hlt : l < h
  · left
    rw [if_pos (by simp [hlt])]
    rw [w64 (n := (l : Int) + h) (by omega), w64 (n := (l : Int) + h + 1) (by omega), tdiv_pos (by omega), w64 (by omega)]
    obtain ⟨mid, hm⟩ : ∃ mid : Nat, ((l : Int) + h + 1) / 2 = (mid : Int) := ⟨(((l : Int) + h + 1) / 2).toNat, by omega⟩
    rw [hm]
    have hv : dval [(mid : Int)] = mid := by simp [dval]
    rw [times_eq (dgs b) [(mid : Int)] (isdg_dgs b) (by intro z hz; rw [List.mem_singleton] at hz; omega) (by rw [hv]; simp; omega) (by omega) (by simp), hv, dval_dgs]
    simp only [Option.bind_some]
    obtain ⟨L, hL⟩ : ∃ L : Nat, L = 10000 := ⟨_, rfl⟩
    have lm : (dgs (b * mid)).length ≤ L := by
      refine dgs_length_le ?_
      have a1 := lt_dgs b
      have a2 : b * mid ≤ b * 10000 := Nat.mul_le_mul_left _ (by omega)
      have a3 : b * 10000 < 10000 ^ ((dgs b).length + 1) := by rw [Nat.pow_succ]; omega
      have a5 := pow_le (i := (dgs b).length + 1) (j := L) (by omega)
      omega
    rw [compare_eq _ _ (by omega) (by omega)]
    simp only [Option.bind_some]
    by_cases hc : b * mid ≤ R
    · have hq : mid ≤ R / b := (Nat.le_div_iff_mul_le hb).2 (by rw [Nat.mul_comm]; exact hc)
      rw [if_pos (by simpa using cmpN_le.2 hc)]
      exact ⟨_, rfl, ⟨mid, h, rfl, rfl, hq, g2, g3⟩, by simp only; omega⟩
    · have hq : R / b < mid := (Nat.div_lt_iff_lt_mul hb).2 (by rw [Nat.mul_comm]; omega)
      rw [if_neg (by simpa using fun h => hc (cmpN_le.1 h)), w64 (by omega)]
      exact ⟨_, rfl, ⟨l, mid - 1, rfl, by simp only; omega, g1, by omega, by omega⟩, by simp only; omega⟩
  · right
    rw [if_neg (by simp; omega)]
    have : l = R / b := by omega
    rw [this]
theorem divide_eq (a b : Nat) (hb : 0 < b) (la : (dgs a).length ≤ 8000) (lb : (dgs b).length ≤ 8000) : g_ref01_divide (dgs a) (dgs b) = some (dgs (a / b), dgs (a % b)) := by
  unfold g_ref01_divide
  obtain ⟨n, hn⟩ : ∃ n, (dgs b).length = n + 1 := by
    have : (dgs b).length ≠ 0 := by rw [Ne, List.length_eq_zero_iff, dgs_eq_nil]; omega
    exact ⟨(dgs b).length - 1, by omega⟩
  have hn1 : IntKind.i64.wrap (((dgs b).length : Int) - 1) = (n : Int) := by rw [w64 (by omega)]; omega
  rw [hn1]
  by_cases hle : (dgs a).length ≤ n
  · rw [if_pos (by simp [hle]), if_pos (by omega)]
    have hab := len_lt (a := a) (b := b) (by omega)
    rw [Nat.div_eq_of_lt hab, Nat.mod_eq_of_lt hab, dgs_zero]
  · obtain ⟨m, hm⟩ : ∃ m, (dgs a).length = n + m ∧ 0 < m := ⟨(dgs a).length - n, by omega, by omega⟩
    have hm1 : IntKind.i64.wrap (((dgs a).length : Int) - (n : Int)) = (m : Int) := by rw [w64 (by omega)]; omega
    rw [if_neg (by simp; omega), hm1, if_pos (by omega), if_pos (by omega)]
    have hsub : sub (dgs a) (m : Int) ((dgs a).length : Int) = (dgs a).drop m := by
      simp only [sub, Int.toNat_natCast]
      rw [List.take_of_length_le (by simp)]
    rw [hsub, if_pos (by simp; omega), Int.toNat_natCast, List.length_replicate, w64 (by omega)]
    obtain ⟨M, hM⟩ : ∃ M : Nat, M = 2000005 := ⟨_, rfl⟩
    have hpb : isdg (dgs b) := isdg_dgs b
    have hnb : nolz (dgs b) := nolz_dgs b
    have bpow : b < 10000 ^ (n + 1) := by have := lt_dgs b; rwa [hn] at this
    obtain ⟨out, h1, R, Q, h2, h3, h4, h5, h6⟩ : ∃ out : List Int × List Int, whileN fuel (g_ref01_divide_b2 (dgs a) (dgs b)) ((dgs a).drop m, (m : Int) - 1, List.replicate m 0) = some out ∧ ∃ R Q : Nat, out.1 = dgs R ∧ R < b ∧ isdg out.2 ∧ out.2.length = m ∧ a = b * dval out.2 + R := by
      refine (whileN_ex (fun (s : List Int × Int × List Int) => ∃ k R : Nat, s.2.1 = (k : Int) - 1 ∧ k ≤ m ∧ s.1 = dgs R ∧ R < b ∧ s.2.2.length = m ∧ isdg s.2.2 ∧ dval ((dgs a).drop k) = b * dval (s.2.2.drop k) + R) (fun s => (s.2.1 + 1).toNat) (fun (out : List Int × List Int) => ∃ R Q : Nat, out.1 = dgs R ∧ R < b ∧ isdg out.2 ∧ out.2.length = m ∧ a = b * dval out.2 + R) ?_ _ ?_ (by simp only; omega))
      · rintro ⟨rest, i0, qs⟩ ⟨k, R, e1, e2, e3, e4, e5, e6, e7⟩
        simp only at e1 e3 e5 e6 e7
        subst e1; subst e3
        unfold g_ref01_divide_b2
        simp only
        cases k with
        | zero =>
          right
          rw [if_neg (by simp)]
          refine ⟨_, rfl, R, 0, rfl, e4, e6, e5, ?_⟩
          rw [List.drop_zero, List.drop_zero, dval_dgs] at e7
          exact e7
        | succ j =>
          left
          have e : ((j + 1 : Nat) : Int) - 1 = (j : Int) := by omega
          rw [e, if_pos (by simp)]
          have hj : j < (dgs a).length := by omega
          have aj := isdg_get (isdg_dgs a) hj
          rw [lkI_nat hj]
          simp only [Option.bind_some]
          have lR : (dgs R).length ≤ n + 1 := dgs_length_le (by omega)
          have hcons : isdg ([(dgs a)[j]] ++ dgs R) := by rw [isdg_append]; exact ⟨isdg_cons.2 ⟨aj, isdg_nil⟩, isdg_dgs R⟩
          rw [if_pos (by simp; omega), cut_eq _ hcons (by simp; omega)]
          have hval : dval ([(dgs a)[j]] ++ dgs R) = (dgs a)[j].toNat + 10000 * R := by simp [dval, dval_dgs]
          rw [hval]
          simp only [Option.bind_some]
          generalize hR' : (dgs a)[j].toNat + 10000 * R = R' at *
          have R'lt : R' < 10000 * b := by omega
          have lR' : (dgs R').length ≤ n + 2 := dgs_length_le (by rw [Nat.pow_succ]; omega)
          rw [hn1, w64 (n := (n : Int) + 1) (by omega), show (n : Int) + 1 = ((n + 1 : Nat) : Int) by omega, tops_eq (dgs b) (dgs R') hpb (isdg_dgs R') n hn lR' (by omega)]
          simp only [Option.bind_some]
          have sb := dval_split' (dgs b) (n - 1)
          have sR := dval_split' (dgs R') (n - 1)
          rw [dval_dgs] at sb sR
          have tb := dval_take_lt hpb (n - 1)
          have tR := dval_take_lt (isdg_dgs R') (n - 1)
          have tpos := dval_drop_pos hpb hnb (k := n - 1) (by omega)
          have tbig : n = 0 ∨ 10000 ≤ dval ((dgs b).drop (n - 1)) := by
            rcases Nat.eq_zero_or_pos n with h | h
            · exact .inl h
            · right
              rw [dval_drop (by omega), show n - 1 + 1 = n by omega]
              have := dval_drop_pos hpb hnb (k := n) (by omega)
              omega
          have tlim : dval ((dgs b).drop (n - 1)) < 100000000 := by
            have h3 := dval_lt (isdg_drop hpb (n - 1))
            have h4 := pow_le (i := ((dgs b).drop (n - 1)).length) (j := 2) (by simp; omega)
            omega
          have flim : dval ((dgs R').drop (n - 1)) < 1000000000000 := by
            have h3 := dval_lt (isdg_drop (isdg_dgs R') (n - 1))
            have h4 := pow_le (i := ((dgs R').drop (n - 1)).length) (j := 3) (by simp; omega)
            omega
          generalize hT : dval ((dgs b).drop (n - 1)) = T at *
          generalize hF : dval ((dgs R').drop (n - 1)) = F at *
          generalize hbl : dval ((dgs b).take (n - 1)) = bl at *
          generalize hRl : dval ((dgs R').take (n - 1)) = Rl at *
          rw [w64 (n := (T : Int) + 1) (by omega), if_pos (by omega), if_pos (by omega), tdiv_pos (by omega), tdiv_pos (by omega)]
          have c1 : (F : Int) / ((T : Int) + 1) = ((F / (T + 1) : Nat) : Int) := by simp
          have c2 : (F : Int) / (T : Int) = ((F / T : Nat) : Int) := by simp
          have b1 : F / (T + 1) ≤ F := Nat.div_le_self _ _
          have b2 : F / T ≤ F := Nat.div_le_self _ _
          rw [c1, c2]
          have q1 : F / (T + 1) ≤ R' / b := by
            rw [Nat.le_div_iff_mul_le hb]
            have x1 : F / (T + 1) * (T + 1) ≤ F := Nat.div_mul_le_self _ _
            have x2 : b ≤ 10000 ^ (n - 1) * (T + 1) := by rw [Nat.mul_add]; omega
            have x3 : F / (T + 1) * b ≤ F / (T + 1) * (10000 ^ (n - 1) * (T + 1)) := Nat.mul_le_mul_left _ x2
            have x4 : F / (T + 1) * (10000 ^ (n - 1) * (T + 1)) = 10000 ^ (n - 1) * (F / (T + 1) * (T + 1)) := by rw [Nat.mul_left_comm]
            have x5 : 10000 ^ (n - 1) * (F / (T + 1) * (T + 1)) ≤ 10000 ^ (n - 1) * F := Nat.mul_le_mul_left _ x1
            omega
          have q2 : R' / b ≤ F / T := by
            rw [Nat.le_div_iff_mul_le tpos]
            have x1 : R' / b * b ≤ R' := Nat.div_mul_le_self _ _
            have x2 : R' / b * (10000 ^ (n - 1) * T) ≤ R' / b * b := Nat.mul_le_mul_left _ (by omega)
            have x3 : R' / b * (10000 ^ (n - 1) * T) = 10000 ^ (n - 1) * (R' / b * T) := by rw [Nat.mul_left_comm]
            have x4 : 10000 ^ (n - 1) * (R' / b * T) < 10000 ^ (n - 1) * (F + 1) := by rw [Nat.mul_add (10000 ^ (n - 1)) F]; omega
            have := Nat.lt_of_mul_lt_mul_left x4
            omega
          have q3 : F / T ≤ 10000 := by
            have x1 : 10000 ^ (n - 1) * F < 10000 ^ (n - 1) * (10000 * (T + 1)) := by
              have : 10000 ^ (n - 1) * (10000 * (T + 1)) = 10000 * (10000 ^ (n - 1) * (T + 1)) := Nat.mul_left_comm _ _ _
              rw [this, Nat.mul_add (10000 ^ (n - 1))]
              omega
            have x2 := Nat.lt_of_mul_lt_mul_left x1
            rcases tbig with h | h
            · subst h
              simp only [Nat.zero_sub, Nat.pow_zero, Nat.one_mul] at sb sR tb tR
              have : F < 10000 * T := by omega
              exact Nat.le_of_lt ((Nat.div_lt_iff_lt_mul tpos).2 this)
            · have : F < 10001 * T := by omega
              have := (Nat.div_lt_iff_lt_mul tpos).2 this
              omega
          have q9 : R' / b < 10000 := (Nat.div_lt_iff_lt_mul hb).2 (by omega)
          have w1 : ∀ x : Nat, x ≤ F → IntKind.i64.wrap (x : Int) = (x : Int) := fun x hx => w64 (by omega)
          rw [w1 _ b1, w1 _ b2, halve_eq b R' _ _ hb (by omega) (by omega) q1 q2 q3]
          simp only [Option.bind_some]
          have hd := Nat.div_add_mod R' b
          have hmod : R' - b * (R' / b) = R' % b := by omega
          have hml := Nat.mul_div_le R' b
          have hmb := Nat.mod_lt R' hb
          generalize R' / b = q at *
          generalize R' % b = r at *
          rw [lkI_nat (l := qs) (k := j) (by omega)]
          simp only [Option.bind_some]
          rw [cut_eq [(q : Int)] (isdg_cons.2 ⟨by omega, isdg_nil⟩) (by simp)]
          simp only [Option.bind_some]
          have hv : dval [(q : Int)] = q := by simp [dval]
          rw [hv]
          have lq : (dgs q).length ≤ 1 := dgs_length_le (by omega)
          rw [times_eq (dgs b) (dgs q) hpb (fun z hz => by have := isdg_dgs q z hz; omega) (by rw [dval_dgs]; exact Nat.le_of_lt (lt_dgs _)) (by omega) (by omega), dval_dgs, dval_dgs]
          simp only [Option.bind_some]
          rw [minus_eq _ _ hml (by omega), hmod]
          simp only [Option.bind_some]
          rw [w64 (n := (j : Int) - 1) (by omega), Int.toNat_natCast]
          refine ⟨_, rfl, ⟨j, r, rfl, by omega, rfl, hmb, by simp [e5], isdg_set e6 (by omega), ?_⟩, by simp only; omega⟩
          simp only
          have hset : (qs.set j (q : Int)).drop j = (q : Int) :: qs.drop (j + 1) := by
            rw [List.drop_eq_getElem_cons (by simp; omega), List.getElem_set_self, List.drop_set_of_lt (by omega)]
          rw [hset, dval_drop hj, e7]
          simp only [dval, Int.toNat_natCast]
          rw [Nat.mul_add, Nat.mul_add, Nat.mul_left_comm b 10000]
          omega
      · refine ⟨m, dval ((dgs a).drop m), rfl, Nat.le_refl _, ?_, ?_, by simp, isdg_replicate _, ?_⟩
        · simp only
          by_cases h0 : n = 0
          · rw [List.drop_of_length_le (by omega)]; simp [dval, dgs_zero]
          · refine (dgs_of (isdg_drop (isdg_dgs a) m) ?_).symm
            have := nolz_dgs a
            unfold nolz at *
            rwa [List.getLast?_drop, if_neg (by omega)]
        · have h1 := dval_lt (isdg_drop (isdg_dgs a) m)
          have h2 := dgs_le (n := b) (by omega)
          rw [List.length_drop] at h1
          have h3 := pow_le (i := (dgs a).length - m) (j := (dgs b).length - 1) (by omega)
          omega
        · simp only
          rw [List.drop_of_length_le (l := List.replicate m (0 : Int)) (by simp)]; simp [dval]
    rw [h1]
    simp only [Option.bind_some]
    rw [cut_eq _ h4 (by omega), h2]
    simp only [Option.bind_some]
    have e1 : a / b = dval out.2 := by
      rw [h6, Nat.mul_add_div hb, Nat.div_eq_of_lt h3, Nat.add_zero]
    have e2 : a % b = R := by
      rw [h6, Nat.mul_add_mod, Nat.mod_eq_of_lt h3]
    rw [e1, e2]
end Go.Ab
namespace Go.Ab
open Go
set_option linter.unusedVariables false
set_option linter.unusedSimpArgs false
set_option maxRecDepth 100000
theorem len_le_of {a b : Nat} (h : a ≤ b) : (dgs a).length ≤ (dgs b).length := by
  rcases Nat.lt_or_ge (dgs b).length (dgs a).length with h1 | h1
  · have := len_lt h1; omega
  · exact h1
theorem log2_half {p q : Nat} (h : 2 * (p + 1) ≤ q + 1) : Nat.log2 (p + 1) < Nat.log2 (q + 1) := by
  have h1 : 2 ^ Nat.log2 (p + 1) ≤ p + 1 := (Nat.le_log2 (by omega)).1 (Nat.le_refl _)
  have h2 : Nat.log2 (p + 1) + 1 ≤ Nat.log2 (q + 1) := (Nat.le_log2 (by omega)).2 (by rw [Nat.pow_succ]; omega)
  omega
theorem log2_lim {x K : Nat} (h : (dgs x).length ≤ K) : Nat.log2 (x + 1) ≤ 14 * K + 1 := by
  have h1 := lt_dgs x
  have h2 := pow_le (i := (dgs x).length) (j := K) h
  have h3 : (10000 : Nat) ^ K ≤ (2 ^ 14) ^ K := Nat.pow_le_pow_left (by omega) K
  rw [← Nat.pow_mul] at h3
  have h4 : x + 1 < 2 ^ (14 * K + 1) := by rw [Nat.pow_succ]; omega
  have := (Nat.log2_lt (by omega)).2 h4
  omega
def gm (x y : Nat) : Nat := if y ≤ x then Nat.log2 (x * y + 1) else Nat.log2 (x * y + 1) + 1
theorem gm_step {x y : Nat} (hy : 0 < y) : gm y (x % y) < gm x y := by
  have hr := Nat.mod_lt x hy
  unfold gm
  rw [if_pos (by omega)]
  by_cases h : y ≤ x
  · rw [if_pos h]
    refine log2_half ?_
    have h1 : y + x % y ≤ x := by
      have := Nat.div_add_mod x y
      have h2 : 1 ≤ x / y := (Nat.one_le_div_iff hy).2 h
      have h3 : y * 1 ≤ y * (x / y) := Nat.mul_le_mul_left _ h2
      omega
    have h4 : (2 * (x % y) + 1) * y ≤ x * y := Nat.mul_le_mul_right _ (by omega)
    rw [Nat.add_mul, Nat.mul_assoc, Nat.mul_comm (x % y) y] at h4
    omega
  · rw [if_neg h, Nat.mod_eq_of_lt (by omega), Nat.mul_comm]
    omega
theorem gcd_step (x y : Nat) : Nat.gcd x y = Nat.gcd y (x % y) := by
  rw [Nat.gcd_comm, Nat.gcd_rec, Nat.gcd_comm]
theorem gm_lim {x y : Nat} (hx : (dgs x).length ≤ 8000) (hy : (dgs y).length ≤ 8000) : gm x y < 1152921504606846976 := by
  have h1 := lt_dgs x
  have h2 := lt_dgs y
  have h3 : (dgs (x * y)).length ≤ 16000 := by
    have : (dgs (x * y)).length ≤ (dgs x).length + (dgs y).length := dgs_length_le (by rw [Nat.pow_add]; exact Nat.mul_lt_mul'' h1 h2)
    omega
  have := log2_lim h3
  unfold gm
  split <;> omega
theorem gcd_eq (a b : Nat) (la : (dgs a).length ≤ 8000) (lb : (dgs b).length ≤ 8000) : g_ref01_gcd (dgs a) (dgs b) = some (dgs (Nat.gcd a b)) := by
  unfold g_ref01_gcd
  rw [whileN_eq (fun s => ∃ x y : Nat, s.1 = dgs x ∧ s.2 = dgs y ∧ (dgs x).length ≤ 8000 ∧ (dgs y).length ≤ 8000 ∧ Nat.gcd x y = Nat.gcd a b) (fun s => gm (dval s.1) (dval s.2)) (dgs (Nat.gcd a b)) ?_ (dgs a, dgs b) ⟨a, b, rfl, rfl, la, lb, rfl⟩ (by simp only [dval_dgs]; exact gm_lim la lb)]
  · rfl
  · rintro ⟨x0, y0⟩ ⟨x, y, h1, h2, h3, h4, h5⟩
    simp only at h1 h2
    subst h1; subst h2
    unfold g_ref01_gcd_b0
    simp only
    by_cases hy : y = 0
    · right
      subst hy
      rw [dgs_zero, if_neg (by simp)]
      rw [Nat.gcd_zero_right] at h5
      rw [h5]
    · left
      have hne : (dgs y).length ≠ 0 := by rw [Ne, List.length_eq_zero_iff, dgs_eq_nil]; exact hy
      rw [if_pos (by simp; omega), divide_eq x y (by omega) h3 h4]
      simp only [Option.bind_some]
      refine ⟨_, rfl, ⟨y, x % y, rfl, rfl, h4, ?_, ?_⟩, ?_⟩
      · have := len_le_of (a := x % y) (b := y) (Nat.le_of_lt (Nat.mod_lt _ (by omega))); omega
      · rw [← h5, gcd_step x y]
      · simp only [dval_dgs]
        exact gm_step (by omega)
def MX : Nat := 4611686018427387903
theorem value_eq (a : Nat) (la : (dgs a).length ≤ 8000) : g_ref01_value (dgs a) = some (if a ≤ MX then ((a : Int), true) else (0, false)) := by
  unfold g_ref01_value
  rw [digits_eq _ (by omega)]
  simp only [Option.bind_some]
  rw [show Int.natAbs 4611686018427387903 = MX from rfl]
  have lm : (dgs MX).length ≤ 5 := dgs_length_le (by decide)
  rw [compare_eq _ _ (by omega) (by omega)]
  simp only [Option.bind_some]
  by_cases h : a ≤ MX
  · rw [if_neg (by simpa using cmpN_le.2 h), if_pos h]
    have hMX : MX = 4611686018427387903 := rfl
    rw [whileN_eq (fun s => ∃ k : Nat, s.2 = (k : Int) - 1 ∧ k ≤ (dgs a).length ∧ s.1 = ((dval ((dgs a).drop k) : Nat) : Int)) (fun s => (s.2 + 1).toNat) (a : Int) ?_ _ ⟨(dgs a).length, by simp only; rw [w64 (by omega)], Nat.le_refl _, by simp [dval]⟩ (by simp only; rw [w64 (by omega)]; omega)]
    · rfl
    · rintro ⟨v, i⟩ ⟨k, h1, h2, h3⟩
      simp only at h1 h3
      subst h1; subst h3
      unfold g_ref01_value_b0
      simp only
      cases k with
      | zero =>
        right
        rw [if_neg (by simp), List.drop_zero, dval_dgs]
      | succ j =>
        left
        have e : ((j + 1 : Nat) : Int) - 1 = (j : Int) := by omega
        rw [e, if_pos (by simp), lkI_nat (by omega)]
        simp only [Option.bind_some]
        have hv := dval_drop (l := dgs a) (k := j) (by omega)
        have hd := isdg_get (isdg_dgs a) (k := j) (by omega)
        have hle : dval ((dgs a).drop j) ≤ a := by
          have h1 := dval_split (l := dgs a) (k := j) (by omega)
          rw [dval_dgs] at h1
          have h2 : 1 * dval ((dgs a).drop j) ≤ 10000 ^ j * dval ((dgs a).drop j) := Nat.mul_le_mul_right _ (pow_pos' j)
          omega
        rw [w64 (n := 10000 * ((dval ((dgs a).drop (j + 1)) : Nat) : Int)) (by omega), w64 (by omega), w64 (by omega)]
        exact ⟨_, rfl, ⟨j, rfl, by omega, by simp only; omega⟩, by simp only; omega⟩
  · rw [if_pos (by simpa using fun h' => h (cmpN_le.1 h')), if_neg h]
def mkQ (neg : Bool) (n d : Nat) : Tapi_Q × Bool :=
  if n / Nat.gcd n d ≤ MX then (if d / Nat.gcd n d ≤ MX then (⟨if neg then -((n / Nat.gcd n d : Nat) : Int) else ((n / Nat.gcd n d : Nat) : Int), ((d / Nat.gcd n d : Nat) : Int)⟩, true) else (⟨0, 0⟩, false)) else (⟨0, 0⟩, false)
theorem made_eq (neg : Bool) (n d : Nat) (hd : 0 < d) (ln : (dgs n).length ≤ 8000) (ld : (dgs d).length ≤ 8000) : g_ref01_made neg (dgs n) (dgs d) = some (mkQ neg n d) := by
  unfold g_ref01_made mkQ
  rw [gcd_eq n d ln ld]
  simp only [Option.bind_some]
  have hg : 0 < Nat.gcd n d := Nat.gcd_pos_of_pos_right _ hd
  have lg := len_le_of (Nat.le_of_dvd hd (Nat.gcd_dvd_right n d))
  have l1 := len_le_of (Nat.div_le_self n (Nat.gcd n d))
  have l2 := len_le_of (Nat.div_le_self d (Nat.gcd n d))
  rw [divide_eq n _ hg ln (by omega), divide_eq d _ hg ld (by omega)]
  simp only [Option.bind_some]
  rw [value_eq _ (by omega), value_eq _ (by omega)]
  simp only [Option.bind_some]
  have hMX : MX = 4611686018427387903 := rfl
  by_cases h1 : n / Nat.gcd n d ≤ MX
  · by_cases h2 : d / Nat.gcd n d ≤ MX
    · generalize n / Nat.gcd n d = x at *
      generalize d / Nat.gcd n d = y at *
      simp only [h1, h2, if_true, Bool.not_true, Bool.false_eq_true, if_false]
      cases neg
      · simp
      · rw [if_pos rfl, w64 (by omega)]; simp
    · simp only [h1, h2, if_true, if_false, Bool.not_true, Bool.not_false, Bool.false_eq_true]
  · simp only [h1, if_false, Bool.not_false, if_true]
theorem dgs64 {p : Int} (h : -9223372036854775808 ≤ p ∧ p ≤ 9223372036854775807) : (dgs p.natAbs).length ≤ 5 := dgs_length_le (by omega)
theorem make_eq (n d : Int) (hn : -9223372036854775808 ≤ n ∧ n ≤ 9223372036854775807) (hd : -9223372036854775808 ≤ d ∧ d ≤ 9223372036854775807) (h0 : d ≠ 0) :
    g_ref01_Make n d = some (mkQ (!((decide (n < 0)) == (decide (d < 0)))) n.natAbs d.natAbs) := by
  unfold g_ref01_Make
  have l1 := dgs64 hn
  have l2 := dgs64 hd
  rw [digits_eq n hn, digits_eq d hd]
  simp only [Option.bind_some]
  rw [made_eq _ _ _ (by omega) (by omega) (by omega)]
  rfl
def qN (n d : Nat) : Tapi_Q := ⟨((n / Nat.gcd n d : Nat) : Int), ((d / Nat.gcd n d : Nat) : Int)⟩
theorem mkQ_fit {n d : Nat} (hn : n ≤ MX) (hd : d ≤ MX) : mkQ false n d = (qN n d, true) := by
  unfold mkQ
  have h1 := Nat.div_le_self n (Nat.gcd n d)
  have h2 := Nat.div_le_self d (Nat.gcd n d)
  rw [if_pos (by omega), if_pos (by omega)]
  rfl
theorem of_eq (n d : Nat) (hn : n ≤ MX) (hd : d ≤ MX) (h0 : 0 < d) : g_ref01_Of (n : Int) (d : Int) = some (qN n d) := by
  have hMX : MX = 4611686018427387903 := rfl
  unfold g_ref01_Of
  rw [make_eq _ _ (by omega) (by omega) (by omega)]
  simp only [Option.bind_some, Int.natAbs_natCast]
  have e1 : decide ((n : Int) < 0) = false := by simp
  have e2 : decide ((d : Int) < 0) = false := by simp
  rw [e1, e2]
  rw [show (!(false == false)) = false from rfl, mkQ_fit hn hd]
theorem ratio_eq (n d : Nat) (hn : n ≤ MX) (hd : d ≤ MX) (h0 : 0 < d) : g_weigh_Ratio (n : Int) (d : Int) = some (qN n d) := by
  have hMX : MX = 4611686018427387903 := rfl
  unfold g_weigh_Ratio
  rw [w64 (by omega), if_neg (by omega)]
  have lim : gm n d < 1152921504606846976 := gm_lim (by have := dgs64 (p := (n : Int)) (by omega); simp at this; omega) (by have := dgs64 (p := (d : Int)) (by omega); simp at this; omega)
  rw [whileN_eq (fun s => ∃ x y : Nat, s.1 = (x : Int) ∧ s.2 = (y : Int) ∧ Nat.gcd x y = Nat.gcd n d) (fun s => gm s.1.toNat s.2.toNat) ((Nat.gcd n d : Nat) : Int) ?_ _ ⟨n, d, rfl, rfl, rfl⟩ (by simpa using lim)]
  · simp only [Option.bind_some]
    have hg : 0 < Nat.gcd n d := Nat.gcd_pos_of_pos_right _ h0
    have hg' : ((Nat.gcd n d : Nat) : Int) ≠ 0 := by omega
    rw [if_pos hg', if_pos hg', tdiv_pos (by omega), tdiv_pos (by omega)]
    have e1 : (n : Int) / ((Nat.gcd n d : Nat) : Int) = ((n / Nat.gcd n d : Nat) : Int) := by simp
    have e2 : (d : Int) / ((Nat.gcd n d : Nat) : Int) = ((d / Nat.gcd n d : Nat) : Int) := by simp
    have h1 := Nat.div_le_self n (Nat.gcd n d)
    have h2 := Nat.div_le_self d (Nat.gcd n d)
    rw [e1, e2]
    unfold qN
    generalize n / Nat.gcd n d = x at *
    generalize d / Nat.gcd n d = y at *
    rw [w64 (by omega), w64 (by omega)]
  · rintro ⟨x0, y0⟩ ⟨x, y, h1, h2, h3⟩
    simp only at h1 h2
    subst h1; subst h2
    unfold g_weigh_Ratio_b0
    simp only
    by_cases hy : y = 0
    · right
      subst hy
      rw [if_neg (by simp)]
      rw [Nat.gcd_zero_right] at h3
      rw [h3]
    · left
      rw [if_pos (by simp; omega), if_pos (by omega), tmod_pos (by omega)]
      refine ⟨_, rfl, ⟨y, x % y, rfl, by simp, ?_⟩, ?_⟩
      · rw [← h3, gcd_step x y]
      · simp only [Int.toNat_natCast]
        rw [show ((x : Int) % (y : Int)).toNat = x % y by rw [← Int.natCast_emod, Int.toNat_natCast]]
        exact gm_step (by omega)
end Go.Ab
