/- What the functions of this program compute, as plain functions, and that the program computes them. No conditions. -/
import Derived.Test.YtapoljjoedcknaaProg
import Derived.Test.YtapoljjoedcknaaW7
import Derived.KernelRfl
import Derived.Test.YtapoljjoedcknaaW9
import Derived.Test.YtapoljjoedcknaaEng6
import Derived.IntWalk
set_option linter.all false
namespace Go.Ab
open Go Go.Proofs
set_option maxRecDepth 100000
set_option maxHeartbeats 4000000
@[reducible] noncomputable def s18_48 (s1 : (Int × (List (List Int)))) (s4 : (Int × (List Int))) : List (Nat × AV) := [(1, .ptr 0 0 0), (2, .ptr 1 0 0), (3, .ptr 2 0 0), (4, vI s1.1), (5, .ref 3 0 s4.2.length), (6, vI s4.1)]
theorem g_ref14_Draft_Lift_ok (p0 : Tharuspexref14_Draft) (x : Tapi_Lift) (h : g_ref14_Draft_Lift p0 = some x) : CallOk Try.prog 18 [.agg [.int .u8 p0.Grain, .int .u8 p0.Count, .int .u8 p0.One, .int .u8 p0.Card, eL true (AV.int .u8) p0.L]] (.ret (.agg [vI x.Grain, vI x.Count, vI x.One, .ref 0 0 x.Rows.length]) [oR false 1 (eL true eI) x.Rows]) := by
  refine fn_ok [] Try.func18 rfl (by decide +kernel) rfl ?_
  unfold g_ref14_Draft_Lift at h
  refine wp_eqB (base' := 0) (st' := ⟨[(0, .agg [.int .u8 p0.Grain, .int .u8 p0.Count, .int .u8 p0.One, .int .u8 p0.Card, eL true (AV.int .u8) p0.L])], [], 72⟩) rfl (by kernel_rfl) ?_
  refine wp_seq (reg_in ?_)
  refine sl false [] [] false rfl ?_
  refine sl false [] [] false rfl ?_
  refine reg_end rfl (wp_seq (reg_in (sz 11 11 ?_)))
  refine sl false [] [] false rfl ?_
  refine sz 1 13 ?_
  refine reg_end rfl (wp_seq (wg [1, 2, 3] [0, 1, 2] ?_))
  refine reg_in ?_
  refine sgz 6 6 (S := ⟨[(1, .ptr 0 0 0), (2, .ptr 1 0 0), (3, .ptr 2 0 0), (18, .ptr 0 0 2), (19, .int .u8 p0.One), (20, vI (IntKind.i64.wrap (p0.One))), (21, .ptr 2 0 0), (22, vI (IntKind.i64.wrap (1 + (IntKind.i64.wrap (Int.tmod p0.Grain 20))))), (23, vI (IntKind.i64.wrap ((IntKind.i64.wrap (1 + (IntKind.i64.wrap (Int.tmod p0.Grain 20)))) + 1)))], [oX true false 5 (.agg [.int .u8 p0.Grain, .int .u8 p0.Count, .int .u8 p0.One, .int .u8 p0.Card, eL true (AV.int .u8) p0.L]), oX true false 4 (.agg [vI 0, vI 0, vI 0, .nils]), oX true false 4 (.agg [vI (IntKind.i64.wrap (1 + (IntKind.i64.wrap (Int.tmod p0.Grain 20)))), vI (IntKind.i64.wrap (1 + (IntKind.i64.wrap (Int.tmod p0.Count 10)))), vI 0, .nils])], 72⟩) ?_
  refine remR (k := .i64) (a := IntKind.i64.wrap (p0.One)) (b := IntKind.i64.wrap ((IntKind.i64.wrap (1 + (IntKind.i64.wrap (Int.tmod p0.Grain 20)))) + 1)) (S := ⟨[(1, .ptr 0 0 0), (2, .ptr 1 0 0), (3, .ptr 2 0 0), (18, .ptr 0 0 2), (19, .int .u8 p0.One), (20, vI (IntKind.i64.wrap (p0.One))), (21, .ptr 2 0 0), (22, vI (IntKind.i64.wrap (1 + (IntKind.i64.wrap (Int.tmod p0.Grain 20))))), (23, vI (IntKind.i64.wrap ((IntKind.i64.wrap (1 + (IntKind.i64.wrap (Int.tmod p0.Grain 20)))) + 1)))] ++ [(24, vI (Int.tmod (IntKind.i64.wrap (p0.One)) (IntKind.i64.wrap ((IntKind.i64.wrap (1 + (IntKind.i64.wrap (Int.tmod p0.Grain 20)))) + 1))))], [oX true false 5 (.agg [.int .u8 p0.Grain, .int .u8 p0.Count, .int .u8 p0.One, .int .u8 p0.Card, eL true (AV.int .u8) p0.L]), oX true false 4 (.agg [vI 0, vI 0, vI 0, .nils]), oX true false 4 (.agg [vI (IntKind.i64.wrap (1 + (IntKind.i64.wrap (Int.tmod p0.Grain 20)))), vI (IntKind.i64.wrap (1 + (IntKind.i64.wrap (Int.tmod p0.Count 10)))), vI 0, .nils])], 72⟩) (by kernel_rfl) (by kernel_rfl) h (fun h => ?_)
  refine sz 2 9 ?_
  refine reg_end rfl (wp_seq (wp_seq (wg [1, 2, 3] [0, 1, 2] ?_)))
  refine rn (wp_block ?_)
  refine wwh h (fun s1 => ⟨[(1, .ptr 0 0 0), (2, .ptr 1 0 0), (3, .ptr 2 0 0), (4, vI s1.1)], [oX true false 5 (.agg [.int .u8 p0.Grain, .int .u8 p0.Count, .int .u8 p0.One, .int .u8 p0.Card, eL true (AV.int .u8) p0.L]), oX true false 4 (.agg [vI 0, vI 0, vI 0, .nils]), oX false false 4 (.agg [vI (IntKind.i64.wrap (1 + (IntKind.i64.wrap (Int.tmod p0.Grain 20)))), vI (IntKind.i64.wrap (1 + (IntKind.i64.wrap (Int.tmod p0.Count 10)))), vI (Int.tmod (IntKind.i64.wrap (p0.One)) (IntKind.i64.wrap ((IntKind.i64.wrap (1 + (IntKind.i64.wrap (Int.tmod p0.Grain 20)))) + 1))), .ref 3 0 s1.2.length]), oR false 1 (eL true eI) s1.2], 72⟩) (fun v out => out = .go (.exit 0) ⟨[(2, .ptr 0 0 0), (3, .ptr 1 0 0)], [oX true false 4 (.agg [vI 0, vI 0, vI 0, .nils]), oX false false 4 (.agg [vI (IntKind.i64.wrap (1 + (IntKind.i64.wrap (Int.tmod p0.Grain 20)))), vI (IntKind.i64.wrap (1 + (IntKind.i64.wrap (Int.tmod p0.Count 10)))), vI (Int.tmod (IntKind.i64.wrap (p0.One)) (IntKind.i64.wrap ((IntKind.i64.wrap (1 + (IntKind.i64.wrap (Int.tmod p0.Grain 20)))) + 1))), .ref 2 0 v.length]), oR false 1 (eL true eI) v], 72⟩) (wk_trans (wk_gc (live := [1, 2, 3, 4]) (keep := [0, 1, 2]) (st' := ⟨[(1, .ptr 0 0 0), (2, .ptr 1 0 0), (3, .ptr 2 0 0), (4, vI 0)], [oX true false 5 (.agg [.int .u8 p0.Grain, .int .u8 p0.Count, .int .u8 p0.One, .int .u8 p0.Card, eL true (AV.int .u8) p0.L]), oX true false 4 (.agg [vI 0, vI 0, vI 0, .nils]), oX true false 4 (.agg [vI (IntKind.i64.wrap (1 + (IntKind.i64.wrap (Int.tmod p0.Grain 20)))), vI (IntKind.i64.wrap (1 + (IntKind.i64.wrap (Int.tmod p0.Count 10)))), vI (Int.tmod (IntKind.i64.wrap (p0.One)) (IntKind.i64.wrap ((IntKind.i64.wrap (1 + (IntKind.i64.wrap (Int.tmod p0.Grain 20)))) + 1))), .nils])], 72⟩) (by kernel_rfl)) (wk_trans (wk_nilO 2 0 3 1 true false (st' := ⟨[(1, .ptr 0 0 0), (2, .ptr 1 0 0), (3, .ptr 2 0 0), (4, vI 0)], [oX true false 5 (.agg [.int .u8 p0.Grain, .int .u8 p0.Count, .int .u8 p0.One, .int .u8 p0.Card, eL true (AV.int .u8) p0.L]), oX true false 4 (.agg [vI 0, vI 0, vI 0, .nils]), oX false false 4 (.agg [vI (IntKind.i64.wrap (1 + (IntKind.i64.wrap (Int.tmod p0.Grain 20)))), vI (IntKind.i64.wrap (1 + (IntKind.i64.wrap (Int.tmod p0.Count 10)))), vI (Int.tmod (IntKind.i64.wrap (p0.One)) (IntKind.i64.wrap ((IntKind.i64.wrap (1 + (IntKind.i64.wrap (Int.tmod p0.Grain 20)))) + 1))), .ref 3 0 0]), .row false false true false 1 []], 72⟩) (by kernel_rfl)) (wk_gc (live := [1, 2, 3, 4]) (keep := [0, 1, 2, 3]) (by kernel_rfl)))) ?_ ?_
  · intro s1 o h
    unfold g_ref14_Draft_Lift_b1 at h
    refine wp_seq (sq ?_)
    refine wbr (S := fun b2 => ⟨[(1, .ptr 0 0 0), (2, .ptr 1 0 0), (3, .ptr 2 0 0), (4, vI s1.1), (26, vI s1.1), (27, .ptr 2 0 1), (28, vI (IntKind.i64.wrap (1 + (IntKind.i64.wrap (Int.tmod p0.Count 10))))), (29, vB b2)], [oX true false 5 (.agg [.int .u8 p0.Grain, .int .u8 p0.Count, .int .u8 p0.One, .int .u8 p0.Card, eL true (AV.int .u8) p0.L]), oX true false 4 (.agg [vI 0, vI 0, vI 0, .nils]), oX false false 4 (.agg [vI (IntKind.i64.wrap (1 + (IntKind.i64.wrap (Int.tmod p0.Grain 20)))), vI (IntKind.i64.wrap (1 + (IntKind.i64.wrap (Int.tmod p0.Count 10)))), vI (Int.tmod (IntKind.i64.wrap (p0.One)) (IntKind.i64.wrap ((IntKind.i64.wrap (1 + (IntKind.i64.wrap (Int.tmod p0.Grain 20)))) + 1))), .ref 3 0 s1.2.length]), oR false 1 (eL true eI) s1.2], 72⟩) h (fun q3 h => ?_) (fun q3 h => ?_)
    · refine wcT (wp_skip (wp_seq (wp_block (sq (wp_seq ?_)))))
      refine sq (wp_block ?_)
      refine wwh h (fun s4 => ⟨(s18_48 s1 s4), [oX true false 5 (.agg [.int .u8 p0.Grain, .int .u8 p0.Count, .int .u8 p0.One, .int .u8 p0.Card, eL true (AV.int .u8) p0.L]), oX true false 4 (.agg [vI 0, vI 0, vI 0, .nils]), oX false false 4 (.agg [vI (IntKind.i64.wrap (1 + (IntKind.i64.wrap (Int.tmod p0.Grain 20)))), vI (IntKind.i64.wrap (1 + (IntKind.i64.wrap (Int.tmod p0.Count 10)))), vI (Int.tmod (IntKind.i64.wrap (p0.One)) (IntKind.i64.wrap ((IntKind.i64.wrap (1 + (IntKind.i64.wrap (Int.tmod p0.Grain 20)))) + 1))), .ref 4 0 s1.2.length]), oR true 1 (AV.int .u8) s4.2, oR false 1 (eL true eI) s1.2], 72⟩) (fun v out => out = .go (.exit 2) ⟨[(1, .ptr 0 0 0), (2, .ptr 1 0 0), (3, .ptr 2 0 0), (4, vI s1.1), (5, .ref 3 0 v.length)], [oX true false 5 (.agg [.int .u8 p0.Grain, .int .u8 p0.Count, .int .u8 p0.One, .int .u8 p0.Card, eL true (AV.int .u8) p0.L]), oX true false 4 (.agg [vI 0, vI 0, vI 0, .nils]), oX false false 4 (.agg [vI (IntKind.i64.wrap (1 + (IntKind.i64.wrap (Int.tmod p0.Grain 20)))), vI (IntKind.i64.wrap (1 + (IntKind.i64.wrap (Int.tmod p0.Count 10)))), vI (Int.tmod (IntKind.i64.wrap (p0.One)) (IntKind.i64.wrap ((IntKind.i64.wrap (1 + (IntKind.i64.wrap (Int.tmod p0.Grain 20)))) + 1))), .ref 4 0 s1.2.length]), oR true 1 (AV.int .u8) v, oR false 1 (eL true eI) s1.2], 72⟩) (wk_trans (wk_gc (live := [1, 2, 3, 4, 5, 6]) (keep := [0, 1, 2, 3]) (st' := ⟨[(1, .ptr 0 0 0), (2, .ptr 1 0 0), (3, .ptr 2 0 0), (4, vI s1.1), (5, .nils), (6, vI 0)], [oX true false 5 (.agg [.int .u8 p0.Grain, .int .u8 p0.Count, .int .u8 p0.One, .int .u8 p0.Card, eL true (AV.int .u8) p0.L]), oX true false 4 (.agg [vI 0, vI 0, vI 0, .nils]), oX false false 4 (.agg [vI (IntKind.i64.wrap (1 + (IntKind.i64.wrap (Int.tmod p0.Grain 20)))), vI (IntKind.i64.wrap (1 + (IntKind.i64.wrap (Int.tmod p0.Count 10)))), vI (Int.tmod (IntKind.i64.wrap (p0.One)) (IntKind.i64.wrap ((IntKind.i64.wrap (1 + (IntKind.i64.wrap (Int.tmod p0.Grain 20)))) + 1))), .ref 3 0 s1.2.length]), oR false 1 (eL true eI) s1.2], 72⟩) (by kernel_rfl)) (wk_trans (wk_nil 5 1 true true (st' := ⟨[(1, .ptr 0 0 0), (2, .ptr 1 0 0), (3, .ptr 2 0 0), (4, vI s1.1), (5, .ref 4 0 0), (6, vI 0)], [oX true false 5 (.agg [.int .u8 p0.Grain, .int .u8 p0.Count, .int .u8 p0.One, .int .u8 p0.Card, eL true (AV.int .u8) p0.L]), oX true false 4 (.agg [vI 0, vI 0, vI 0, .nils]), oX false false 4 (.agg [vI (IntKind.i64.wrap (1 + (IntKind.i64.wrap (Int.tmod p0.Grain 20)))), vI (IntKind.i64.wrap (1 + (IntKind.i64.wrap (Int.tmod p0.Count 10)))), vI (Int.tmod (IntKind.i64.wrap (p0.One)) (IntKind.i64.wrap ((IntKind.i64.wrap (1 + (IntKind.i64.wrap (Int.tmod p0.Grain 20)))) + 1))), .ref 3 0 s1.2.length]), oR false 1 (eL true eI) s1.2, .row false false true true 1 []], 72⟩) (by kernel_rfl)) (wk_gc (live := [1, 2, 3, 4, 5, 6]) (keep := [0, 1, 2, 4, 3]) (by kernel_rfl)))) ?_ ?_
      · intro s4 o h
        unfold g_ref14_Draft_Lift_b0 at h
        refine wp_seq (wp_seq (reg_in (sz 3 3 ?_)))
        refine rbr (S := fun b5 => ⟨(s18_48 s1 s4) ++ [(32, vI s4.1), (33, vB b5), (34, vB b5)], [oX true false 5 (.agg [.int .u8 p0.Grain, .int .u8 p0.Count, .int .u8 p0.One, .int .u8 p0.Card, eL true (AV.int .u8) p0.L]), oX true false 4 (.agg [vI 0, vI 0, vI 0, .nils]), oX false false 4 (.agg [vI (IntKind.i64.wrap (1 + (IntKind.i64.wrap (Int.tmod p0.Grain 20)))), vI (IntKind.i64.wrap (1 + (IntKind.i64.wrap (Int.tmod p0.Count 10)))), vI (Int.tmod (IntKind.i64.wrap (p0.One)) (IntKind.i64.wrap ((IntKind.i64.wrap (1 + (IntKind.i64.wrap (Int.tmod p0.Grain 20)))) + 1))), .ref 4 0 s1.2.length]), oR true 1 (AV.int .u8) s4.2, oR false 1 (eL true eI) s1.2], 72⟩) h (fun q6 h => ?_) (fun q6 h => ?_)
        · refine sz 2 5 ?_
          refine lenZ (enc := (AV.int .u8)) (l := p0.L) (fl := true) (by kernel_rfl) ?_
          refine sz 2 8 ?_
          refine reg_end rfl ?_
          refine wbz h (fun q8 h => ?_) (fun q8 h => ?_)
          · refine wp_skip (wp_seq (wp_block (wg [1, 2, 3, 4, 5, 6] [0, 1, 2, 3, 4] ?_)))
            refine rga hfol ?_
            refine sy 9 9 ?_
            refine lenL (enc := (AV.int .u8)) (l := p0.L) (fl := true) (S := ⟨(s18_48 s1 s4) ++ [(42, .ref 3 0 s4.2.length), (43, .ptr 0 0 4), (44, eL true (AV.int .u8) p0.L), (45, vI s1.1), (46, vI (IntKind.i64.wrap (3 * s1.1))), (47, vI s4.1), (48, vI (IntKind.i64.wrap ((IntKind.i64.wrap (3 * s1.1)) + s4.1))), (49, .ptr 0 0 4), (50, eL true (AV.int .u8) p0.L)] ++ [(51, vI (p0.L.length : Int))], [oX true false 5 (.agg [.int .u8 p0.Grain, .int .u8 p0.Count, .int .u8 p0.One, .int .u8 p0.Card, eL true (AV.int .u8) p0.L]), oX true false 4 (.agg [vI 0, vI 0, vI 0, .nils]), oX false false 4 (.agg [vI (IntKind.i64.wrap (1 + (IntKind.i64.wrap (Int.tmod p0.Grain 20)))), vI (IntKind.i64.wrap (1 + (IntKind.i64.wrap (Int.tmod p0.Count 10)))), vI (Int.tmod (IntKind.i64.wrap (p0.One)) (IntKind.i64.wrap ((IntKind.i64.wrap (1 + (IntKind.i64.wrap (Int.tmod p0.Grain 20)))) + 1))), .ref 4 0 s1.2.length]), oR true 1 (AV.int .u8) s4.2, oR false 1 (eL true eI) s1.2], 72⟩) (by kernel_rfl) (by kernel_rfl) ?_
            refine remR (k := .i64) (a := IntKind.i64.wrap ((IntKind.i64.wrap (3 * s1.1)) + s4.1)) (b := (p0.L.length : Int)) (S := ⟨(s18_48 s1 s4) ++ [(42, .ref 3 0 s4.2.length), (43, .ptr 0 0 4), (44, eL true (AV.int .u8) p0.L), (45, vI s1.1), (46, vI (IntKind.i64.wrap (3 * s1.1))), (47, vI s4.1), (48, vI (IntKind.i64.wrap ((IntKind.i64.wrap (3 * s1.1)) + s4.1))), (49, .ptr 0 0 4), (50, eL true (AV.int .u8) p0.L)] ++ [(51, vI (p0.L.length : Int)), (52, vI (Int.tmod (IntKind.i64.wrap ((IntKind.i64.wrap (3 * s1.1)) + s4.1)) (p0.L.length : Int)))], [oX true false 5 (.agg [.int .u8 p0.Grain, .int .u8 p0.Count, .int .u8 p0.One, .int .u8 p0.Card, eL true (AV.int .u8) p0.L]), oX true false 4 (.agg [vI 0, vI 0, vI 0, .nils]), oX false false 4 (.agg [vI (IntKind.i64.wrap (1 + (IntKind.i64.wrap (Int.tmod p0.Grain 20)))), vI (IntKind.i64.wrap (1 + (IntKind.i64.wrap (Int.tmod p0.Count 10)))), vI (Int.tmod (IntKind.i64.wrap (p0.One)) (IntKind.i64.wrap ((IntKind.i64.wrap (1 + (IntKind.i64.wrap (Int.tmod p0.Grain 20)))) + 1))), .ref 4 0 s1.2.length]), oR true 1 (AV.int .u8) s4.2, oR false 1 (eL true eI) s1.2], 72⟩) (by kernel_rfl) (by kernel_rfl) h (fun h => ?_)
            refine bind_elim h (fun a9 q10 h => ?_)
            refine idxZ (enc := (AV.int .u8)) (l := p0.L) (n := Int.tmod (IntKind.i64.wrap ((IntKind.i64.wrap (3 * s1.1)) + s4.1)) (p0.L.length : Int)) (fl := true) (w := 1) (a := a9) (by kernel_rfl) q10 ?_
            refine sy 1 13 ?_
            refine sgL false [] [] true (S := ⟨(s18_48 s1 s4) ++ [(42, .ref 3 0 s4.2.length), (43, .ptr 0 0 4), (44, eL true (AV.int .u8) p0.L), (45, vI s1.1), (46, vI (IntKind.i64.wrap (3 * s1.1))), (47, vI s4.1), (48, vI (IntKind.i64.wrap ((IntKind.i64.wrap (3 * s1.1)) + s4.1))), (49, .ptr 0 0 4), (50, eL true (AV.int .u8) p0.L)] ++ [(51, vI (p0.L.length : Int)), (52, vI (Int.tmod (IntKind.i64.wrap ((IntKind.i64.wrap (3 * s1.1)) + s4.1)) (p0.L.length : Int))), (53, .fz [.int .u8 a9]), (54, .int .u8 a9), (55, .ref 5 0 1)], [oX true false 5 (.agg [.int .u8 p0.Grain, .int .u8 p0.Count, .int .u8 p0.One, .int .u8 p0.Card, eL true (AV.int .u8) p0.L]), oX true false 4 (.agg [vI 0, vI 0, vI 0, .nils]), oX false false 4 (.agg [vI (IntKind.i64.wrap (1 + (IntKind.i64.wrap (Int.tmod p0.Grain 20)))), vI (IntKind.i64.wrap (1 + (IntKind.i64.wrap (Int.tmod p0.Count 10)))), vI (Int.tmod (IntKind.i64.wrap (p0.One)) (IntKind.i64.wrap ((IntKind.i64.wrap (1 + (IntKind.i64.wrap (Int.tmod p0.Grain 20)))) + 1))), .ref 4 0 s1.2.length]), oR true 1 (AV.int .u8) s4.2, oR false 1 (eL true eI) s1.2, .row false false true true 1 [.int .u8 a9]], 72⟩) (by kernel_rfl) ?_
            refine appR (enc := (AV.int .u8)) (l := s4.2) (m := ([a9] : (List Int))) (w := 1) (bytes := 1) (ob := 3) (nr := true) (fl := true) (nr' := true) (fl' := true) (b := .ref 5 0 1) (rds := [5]) (S := ⟨(s18_48 s1 s4) ++ [(42, .ref 3 0 s4.2.length), (43, .ptr 0 0 4), (44, eL true (AV.int .u8) p0.L), (45, vI s1.1), (46, vI (IntKind.i64.wrap (3 * s1.1))), (47, vI s4.1), (48, vI (IntKind.i64.wrap ((IntKind.i64.wrap (3 * s1.1)) + s4.1))), (49, .ptr 0 0 4), (50, eL true (AV.int .u8) p0.L)] ++ [(51, vI (p0.L.length : Int)), (52, vI (Int.tmod (IntKind.i64.wrap ((IntKind.i64.wrap (3 * s1.1)) + s4.1)) (p0.L.length : Int))), (53, .fz [.int .u8 a9]), (54, .int .u8 a9), (55, .ref 5 0 1), (56, .ref 6 0 ((s4.2 ++ ([a9] : (List Int))).length))], [oX true false 5 (.agg [.int .u8 p0.Grain, .int .u8 p0.Count, .int .u8 p0.One, .int .u8 p0.Card, eL true (AV.int .u8) p0.L]), oX true false 4 (.agg [vI 0, vI 0, vI 0, .nils]), oX false false 4 (.agg [vI (IntKind.i64.wrap (1 + (IntKind.i64.wrap (Int.tmod p0.Grain 20)))), vI (IntKind.i64.wrap (1 + (IntKind.i64.wrap (Int.tmod p0.Count 10)))), vI (Int.tmod (IntKind.i64.wrap (p0.One)) (IntKind.i64.wrap ((IntKind.i64.wrap (1 + (IntKind.i64.wrap (Int.tmod p0.Grain 20)))) + 1))), .ref 4 0 s1.2.length]), .dead, oR false 1 (eL true eI) s1.2, .row false false true true 1 [.int .u8 a9], oR true 1 (AV.int .u8) (s4.2 ++ ([a9] : (List Int)))], 72⟩) false (by kernel_rfl) rfl (by kernel_rfl) rfl (by kernel_rfl) (by kernel_rfl) h (fun h => ?_)
            refine sy 1 16 ?_
            refine rgd ?_
            refine wg [1, 2, 3, 4, 5, 6] [0, 1, 2, 6, 4] ?_
            refine rn ?_
            cases h
            exact ⟨_, rfl, (wk_gc (live := [1, 2, 3, 4, 5, 6]) (keep := [0, 1, 2, 3, 4]) (by kernel_rfl))⟩
          refine wgc [1, 2, 3, 4, 5] [0, 1, 2, 3, 4] ⟨[(1, .ptr 0 0 0), (2, .ptr 1 0 0), (3, .ptr 2 0 0), (4, vI s1.1), (5, .ref 3 0 s4.2.length)], [oX true false 5 (.agg [.int .u8 p0.Grain, .int .u8 p0.Count, .int .u8 p0.One, .int .u8 p0.Card, eL true (AV.int .u8) p0.L]), oX true false 4 (.agg [vI 0, vI 0, vI 0, .nils]), oX false false 4 (.agg [vI (IntKind.i64.wrap (1 + (IntKind.i64.wrap (Int.tmod p0.Grain 20)))), vI (IntKind.i64.wrap (1 + (IntKind.i64.wrap (Int.tmod p0.Count 10)))), vI (Int.tmod (IntKind.i64.wrap (p0.One)) (IntKind.i64.wrap ((IntKind.i64.wrap (1 + (IntKind.i64.wrap (Int.tmod p0.Grain 20)))) + 1))), .ref 4 0 s1.2.length]), oR true 1 (AV.int .u8) s4.2, oR false 1 (eL true eI) s1.2], 72⟩ ?_
          refine wp_exit ?_
          cases h
          exact ⟨rfl, rfl⟩
        refine sz 5 8 ?_
        refine reg_end rfl (wcF ?_)
        refine wgc [1, 2, 3, 4, 5] [0, 1, 2, 3, 4] ⟨[(1, .ptr 0 0 0), (2, .ptr 1 0 0), (3, .ptr 2 0 0), (4, vI s1.1), (5, .ref 3 0 s4.2.length)], [oX true false 5 (.agg [.int .u8 p0.Grain, .int .u8 p0.Count, .int .u8 p0.One, .int .u8 p0.Card, eL true (AV.int .u8) p0.L]), oX true false 4 (.agg [vI 0, vI 0, vI 0, .nils]), oX false false 4 (.agg [vI (IntKind.i64.wrap (1 + (IntKind.i64.wrap (Int.tmod p0.Grain 20)))), vI (IntKind.i64.wrap (1 + (IntKind.i64.wrap (Int.tmod p0.Count 10)))), vI (Int.tmod (IntKind.i64.wrap (p0.One)) (IntKind.i64.wrap ((IntKind.i64.wrap (1 + (IntKind.i64.wrap (Int.tmod p0.Grain 20)))) + 1))), .ref 4 0 s1.2.length]), oR true 1 (AV.int .u8) s4.2, oR false 1 (eL true eI) s1.2], 72⟩ ?_
        refine wp_exit ?_
        cases h
        exact ⟨rfl, rfl⟩
      intro x12 h out hx
      subst hx
      refine rga hfol ?_
      refine sgy 10 10 (S := ⟨[(1, .ptr 0 0 0), (2, .ptr 1 0 0), (3, .ptr 2 0 0), (4, vI s1.1), (5, .ref 3 0 x12.length), (57, .ptr 2 0 3), (58, .ref 4 0 s1.2.length), (59, .ptr 0 0 3), (60, .int .u8 p0.Card), (61, .int .u8 (Int.tmod p0.Card 3)), (62, vI (IntKind.i64.wrap (Int.tmod p0.Card 3))), (63, vI (IntKind.i64.wrap (2 + (IntKind.i64.wrap (Int.tmod p0.Card 3))))), (64, .ptr 2 0 0), (65, vI (IntKind.i64.wrap (1 + (IntKind.i64.wrap (Int.tmod p0.Grain 20))))), (66, .ref 3 0 x12.length)], [oX true false 5 (.agg [.int .u8 p0.Grain, .int .u8 p0.Count, .int .u8 p0.One, .int .u8 p0.Card, eL true (AV.int .u8) p0.L]), oX true false 4 (.agg [vI 0, vI 0, vI 0, .nils]), oX false false 4 (.agg [vI (IntKind.i64.wrap (1 + (IntKind.i64.wrap (Int.tmod p0.Grain 20)))), vI (IntKind.i64.wrap (1 + (IntKind.i64.wrap (Int.tmod p0.Count 10)))), vI (Int.tmod (IntKind.i64.wrap (p0.One)) (IntKind.i64.wrap ((IntKind.i64.wrap (1 + (IntKind.i64.wrap (Int.tmod p0.Grain 20)))) + 1))), .ref 4 0 s1.2.length]), oR true 1 (AV.int .u8) x12, oR false 1 (eL true eI) s1.2], 72⟩) ?_
      refine callR (as0 := [vI (IntKind.i64.wrap (2 + (IntKind.i64.wrap (Int.tmod p0.Card 3)))), vI (IntKind.i64.wrap (1 + (IntKind.i64.wrap (Int.tmod p0.Grain 20)))), .ref 3 0 x12.length]) (ids := [3]) (S := fun x13 => ⟨[(1, .ptr 0 0 0), (2, .ptr 1 0 0), (3, .ptr 2 0 0), (4, vI s1.1), (5, .ref 3 0 x12.length), (57, .ptr 2 0 3), (58, .ref 4 0 s1.2.length), (59, .ptr 0 0 3), (60, .int .u8 p0.Card), (61, .int .u8 (Int.tmod p0.Card 3)), (62, vI (IntKind.i64.wrap (Int.tmod p0.Card 3))), (63, vI (IntKind.i64.wrap (2 + (IntKind.i64.wrap (Int.tmod p0.Card 3))))), (64, .ptr 2 0 0), (65, vI (IntKind.i64.wrap (1 + (IntKind.i64.wrap (Int.tmod p0.Grain 20))))), (66, .ref 3 0 x12.length)] ++ [(67, .ref 5 0 x13.length)], [oX true false 5 (.agg [.int .u8 p0.Grain, .int .u8 p0.Count, .int .u8 p0.One, .int .u8 p0.Card, eL true (AV.int .u8) p0.L]), oX true false 4 (.agg [vI 0, vI 0, vI 0, .nils]), oX false false 4 (.agg [vI (IntKind.i64.wrap (1 + (IntKind.i64.wrap (Int.tmod p0.Grain 20)))), vI (IntKind.i64.wrap (1 + (IntKind.i64.wrap (Int.tmod p0.Count 10)))), vI (Int.tmod (IntKind.i64.wrap (p0.One)) (IntKind.i64.wrap ((IntKind.i64.wrap (1 + (IntKind.i64.wrap (Int.tmod p0.Grain 20)))) + 1))), .ref 4 0 s1.2.length]), oR true 1 (AV.int .u8) x12, oR false 1 (eL true eI) s1.2, oR true 1 eI x13], 72⟩) (by kernel_rfl) bodyB_41 (msnap_cons rfl (msnap_cons rfl (msnap_cons (snap_full rfl) msnap_nil (by rfl)) (by rfl)) (by rfl)) (fun x13 q14 => g_ref14_Split_ok (IntKind.i64.wrap (2 + (IntKind.i64.wrap (Int.tmod p0.Card 3)))) (IntKind.i64.wrap (1 + (IntKind.i64.wrap (Int.tmod p0.Grain 20)))) x12 x13 q14) (fun _ => by kernel_rfl) h (fun x13 q14 h => ?_)
      refine bsR (parts := [(0, eL true eI x13)]) (ids := [5]) (es := [(5, .row false true true true 1 (List.map eI x13)), (6, .row false false true (List.all [eL true eI x13] AV.scs) 1 [eL true eI x13])]) (S := ⟨[(1, .ptr 0 0 0), (2, .ptr 1 0 0), (3, .ptr 2 0 0), (4, vI s1.1), (5, .ref 3 0 x12.length), (57, .ptr 2 0 3), (58, .ref 4 0 s1.2.length), (59, .ptr 0 0 3), (60, .int .u8 p0.Card), (61, .int .u8 (Int.tmod p0.Card 3)), (62, vI (IntKind.i64.wrap (Int.tmod p0.Card 3))), (63, vI (IntKind.i64.wrap (2 + (IntKind.i64.wrap (Int.tmod p0.Card 3))))), (64, .ptr 2 0 0), (65, vI (IntKind.i64.wrap (1 + (IntKind.i64.wrap (Int.tmod p0.Grain 20))))), (66, .ref 3 0 x12.length)] ++ [(67, .ref 5 0 x13.length), (68, .ref 6 0 1)], [oX true false 5 (.agg [.int .u8 p0.Grain, .int .u8 p0.Count, .int .u8 p0.One, .int .u8 p0.Card, eL true (AV.int .u8) p0.L]), oX true false 4 (.agg [vI 0, vI 0, vI 0, .nils]), oX false false 4 (.agg [vI (IntKind.i64.wrap (1 + (IntKind.i64.wrap (Int.tmod p0.Grain 20)))), vI (IntKind.i64.wrap (1 + (IntKind.i64.wrap (Int.tmod p0.Count 10)))), vI (Int.tmod (IntKind.i64.wrap (p0.One)) (IntKind.i64.wrap ((IntKind.i64.wrap (1 + (IntKind.i64.wrap (Int.tmod p0.Grain 20)))) + 1))), .ref 4 0 s1.2.length]), oR true 1 (AV.int .u8) x12, oR false 1 (eL true eI) s1.2, .row false true true true 1 (List.map eI x13), .row false false true false 1 [eL true eI x13]], 72⟩) [.lst true] false rfl (sparts_snap rfl (snap_full rfl) sparts_nil (by rfl)) (by kernel_rfl) ?_
      refine appR (enc := (eL true eI)) (l := s1.2) (m := ([x13] : (List (List Int)))) (w := 1) (bytes := 24) (ob := 4) (nr := true) (fl := false) (nr' := true) (fl' := false) (b := .ref 6 0 1) (rds := [6]) (S := ⟨[(1, .ptr 0 0 0), (2, .ptr 1 0 0), (3, .ptr 2 0 0), (4, vI s1.1), (5, .ref 3 0 x12.length), (57, .ptr 2 0 3), (58, .ref 4 0 s1.2.length), (59, .ptr 0 0 3), (60, .int .u8 p0.Card), (61, .int .u8 (Int.tmod p0.Card 3)), (62, vI (IntKind.i64.wrap (Int.tmod p0.Card 3))), (63, vI (IntKind.i64.wrap (2 + (IntKind.i64.wrap (Int.tmod p0.Card 3))))), (64, .ptr 2 0 0), (65, vI (IntKind.i64.wrap (1 + (IntKind.i64.wrap (Int.tmod p0.Grain 20))))), (66, .ref 3 0 x12.length)] ++ [(67, .ref 5 0 x13.length), (68, .ref 6 0 1), (69, .ref 7 0 ((s1.2 ++ ([x13] : (List (List Int)))).length))], [oX true false 5 (.agg [.int .u8 p0.Grain, .int .u8 p0.Count, .int .u8 p0.One, .int .u8 p0.Card, eL true (AV.int .u8) p0.L]), oX true false 4 (.agg [vI 0, vI 0, vI 0, .nils]), oX false false 4 (.agg [vI (IntKind.i64.wrap (1 + (IntKind.i64.wrap (Int.tmod p0.Grain 20)))), vI (IntKind.i64.wrap (1 + (IntKind.i64.wrap (Int.tmod p0.Count 10)))), vI (Int.tmod (IntKind.i64.wrap (p0.One)) (IntKind.i64.wrap ((IntKind.i64.wrap (1 + (IntKind.i64.wrap (Int.tmod p0.Grain 20)))) + 1))), .ref 4 0 s1.2.length]), oR true 1 (AV.int .u8) x12, .dead, .row false true true true 1 (List.map eI x13), .row false false true false 1 [eL true eI x13], oR false 1 (eL true eI) (s1.2 ++ ([x13] : (List (List Int))))], 72⟩) false (by kernel_rfl) rfl (by kernel_rfl) rfl (by kernel_rfl) (by kernel_rfl) h (fun h => ?_)
      refine sy 2 15 ?_
      refine rgd ?_
      refine wg [1, 2, 3, 4] [0, 1, 2, 7] ?_
      refine rn ?_
      cases h
      exact ⟨_, rfl, (wk_gc (live := [1, 2, 3, 4]) (keep := [0, 1, 2, 3]) (by kernel_rfl))⟩
    refine wcF ?_
    refine wgc [2, 3] [1, 2, 3] ⟨[(2, .ptr 0 0 0), (3, .ptr 1 0 0)], [oX true false 4 (.agg [vI 0, vI 0, vI 0, .nils]), oX false false 4 (.agg [vI (IntKind.i64.wrap (1 + (IntKind.i64.wrap (Int.tmod p0.Grain 20)))), vI (IntKind.i64.wrap (1 + (IntKind.i64.wrap (Int.tmod p0.Count 10)))), vI (Int.tmod (IntKind.i64.wrap (p0.One)) (IntKind.i64.wrap ((IntKind.i64.wrap (1 + (IntKind.i64.wrap (Int.tmod p0.Grain 20)))) + 1))), .ref 2 0 s1.2.length]), oR false 1 (eL true eI) s1.2], 72⟩ ?_
    refine wp_exit ?_
    cases h
    exact ⟨rfl, rfl⟩
  intro x16 h out hx
  subst hx
  refine sq (wg [2] [0, 2] ?_)
  refine wp_ret ?_
  cases h
  show fnOut _ _ _ _ = _
  kernel_rfl
end Go.Ab
namespace Go.Ab
open Go Go.Proofs
set_option maxRecDepth 100000
set_option maxHeartbeats 4000000
end Go.Ab
namespace Go.Ab
open Go Go.Proofs
set_option maxRecDepth 100000
set_option maxHeartbeats 4000000
end Go.Ab
namespace Go.Ab
open Go Go.Proofs
set_option maxRecDepth 100000
set_option maxHeartbeats 4000000
end Go.Ab
namespace Go.Ab
open Go Go.Proofs
set_option maxRecDepth 100000
set_option maxHeartbeats 4000000
end Go.Ab
namespace Go.Ab
open Go Go.Proofs
set_option maxRecDepth 100000
set_option maxHeartbeats 4000000
end Go.Ab
namespace Go.Ab
open Go Go.Proofs
set_option maxRecDepth 100000
set_option maxHeartbeats 4000000
end Go.Ab
namespace Go.Ab
open Go Go.Proofs
set_option maxRecDepth 100000
set_option maxHeartbeats 4000000
end Go.Ab
namespace Go.Ab
open Go Go.Proofs
set_option maxRecDepth 100000
set_option maxHeartbeats 4000000
theorem g_ref01_Right_ok (p0 : Tapi_Q) (x : Bool) (h : g_ref01_Right p0 = some x) : CallOk Try.prog 29 [.agg [vI p0.N, vI p0.D]] (.ret (vB x) []) := by
  refine fn_ok [] Try.func29 rfl (by decide +kernel) rfl ?_
  unfold g_ref01_Right at h
  refine wp_eqB (base' := 0) (st' := ⟨[(0, .agg [vI p0.N, vI p0.D])], [], 31⟩) rfl (by kernel_rfl) ?_
  refine sq (wp_seq (wp_seq (reg_in (sz 4 4 ?_))))
  refine rwg [1, 6] [0] ?_
  refine rbr (S := fun b1 => ⟨[(1, .ptr 0 0 0), (6, vB b1)], [oX true true 2 (.agg [vI p0.N, vI p0.D])], 31⟩) h (fun q2 h => ?_) (fun q2 h => ?_)
  · refine sz 14 18 ?_
    refine reg_end rfl (wcT (wp_seq (wg [] [] ?_)))
    refine rn (wg [2] [] ?_)
    refine wp_ret ?_
    cases h
    show fnOut _ _ _ _ = _
    kernel_rfl
  refine sz 5 9 ?_
  refine rwg [1, 11] [0] ?_
  refine rbr (S := fun b3 => ⟨[(1, .ptr 0 0 0), (11, vB b3)], [oX true true 2 (.agg [vI p0.N, vI p0.D])], 31⟩) h (fun q4 h => ?_) (fun q4 h => ?_)
  · refine sz 9 18 ?_
    refine reg_end rfl (wcT (wp_seq (wg [] [] ?_)))
    refine rn (wg [2] [] ?_)
    refine wp_ret ?_
    cases h
    show fnOut _ _ _ _ = _
    kernel_rfl
  refine sz 5 14 ?_
  refine rwg [1, 16] [0] ?_
  refine rbr (S := fun b5 => ⟨[(1, .ptr 0 0 0), (16, vB b5)], [oX true true 2 (.agg [vI p0.N, vI p0.D])], 31⟩) h (fun q6 h => ?_) (fun q6 h => ?_)
  · refine sz 4 18 ?_
    refine reg_end rfl (wcT (wp_seq (wg [] [] ?_)))
    refine rn (wg [2] [] ?_)
    refine wp_ret ?_
    cases h
    show fnOut _ _ _ _ = _
    kernel_rfl
  refine sz 4 18 ?_
  refine reg_end rfl ?_
  refine wbz h (fun q8 h => ?_) (fun q8 h => ?_)
  · refine wp_seq (wg [] [] ?_)
    refine rn (wg [2] [] ?_)
    refine wp_ret ?_
    cases h
    show fnOut _ _ _ _ = _
    kernel_rfl
  refine wp_skip (wp_seq (wg [1] [0] ?_))
  refine rga hfol ?_
  refine sy 2 2 ?_
  refine callY (f := 58) (as0 := [vI p0.N]) (us := [vI p0.N]) (G := g_ref01_digits p0.N) (rv := fun x9 => .ref 0 0 x9.length) (ro := fun x9 => [oR true 1 eI x9]) bodyB_58 (fun x9 q10 => g_ref01_digits_ok p0.N x9 q10) h (fun x9 q10 h => ?_)
  refine sy 2 5 ?_
  refine callR (as0 := [vI p0.D]) (ids := []) (S := fun x11 => ⟨[(1, .ptr 0 0 0), (21, .ptr 0 0 0), (22, vI p0.N), (23, .ref 1 0 x9.length), (24, .ptr 0 0 1), (25, vI p0.D), (26, .ref 2 0 x11.length)], [oX true true 2 (.agg [vI p0.N, vI p0.D]), oR true 1 eI x9, oR true 1 eI x11], 31⟩) (by kernel_rfl) bodyB_58 (msnap_cons rfl msnap_nil (by rfl)) (fun x11 q12 => g_ref01_digits_ok p0.D x11 q12) (fun _ => by kernel_rfl) h (fun x11 q12 h => ?_)
  refine callZ (as0 := [.ref 1 0 x9.length, .ref 2 0 x11.length]) (ids := [1, 2]) (by kernel_rfl) bodyB_57 (msnap_cons (snap_full rfl) (msnap_cons (snap_full rfl) msnap_nil (by rfl)) (by rfl)) (fun x13 q14 => g_ref01_gcd_ok x9 x11 x13 q14) h (fun x13 q14 h => ?_)
  refine sgL false [] [] true (S := ⟨[(1, .ptr 0 0 0), (21, .ptr 0 0 0), (22, vI p0.N), (23, .ref 1 0 x9.length), (24, .ptr 0 0 1), (25, vI p0.D), (26, .ref 2 0 x11.length), (27, eL true eI x13), (28, .ref 3 0 1)], [oX true true 2 (.agg [vI p0.N, vI p0.D]), .row false true true true 1 (List.map eI x9), .row false true true true 1 (List.map eI x11), .row false false true true 1 [vI 1]], 31⟩) (by kernel_rfl) ?_
  refine callZ (as0 := [eL true eI x13, .ref 3 0 1]) (ids := [3]) (by kernel_rfl) bodyB_56 (msnap_cons rfl (msnap_cons rfl msnap_nil (by rfl)) (by rfl)) (fun x15 q16 => g_ref01_compare_ok x13 [1] x15 q16) h (fun x15 q16 h => ?_)
  refine sy 2 11 ?_
  refine rgd ?_
  refine wg [2] [] ?_
  refine wp_ret ?_
  cases h
  show fnOut _ _ _ _ = _
  kernel_rfl
@[reducible] noncomputable def s30_1 (p0 : Tapi_Q) (p1 : Tapi_Q) : List (Nat × AV) := [(0, .agg [vI p0.N, vI p0.D]), (1, .agg [vI p1.N, vI p1.D]), (2, .ptr 0 0 0), (3, .ptr 1 0 0), (4, .ptr 2 0 0), (5, vB false), (6, .ptr 0 0 0), (7, vI p0.N), (8, vB (decide (p0.N < 0))), (9, .ptr 1 0 0), (10, vI p1.N), (11, vB (decide (p1.N < 0))), (12, vB (!((decide (p0.N < 0)) == (decide (p1.N < 0))))), (13, .ptr 0 0 0), (14, vI p0.N)]
theorem g_ref01_Mul_ok (p0 : Tapi_Q) (p1 : Tapi_Q) (x : (Tapi_Q × Bool)) (h : g_ref01_Mul p0 p1 = some x) : CallOk Try.prog 30 [.agg [vI p0.N, vI p0.D], .agg [vI p1.N, vI p1.D]] (.ret (.tup [.agg [vI x.1.N, vI x.1.D], vB x.2]) []) := by
  refine fn_ok [] Try.func30 rfl (by decide +kernel) rfl ?_
  unfold g_ref01_Mul at h
  refine wp_eqB (base' := 0) (st' := ⟨[(0, .agg [vI p0.N, vI p0.D]), (1, .agg [vI p1.N, vI p1.D])], [], 30⟩) rfl (by kernel_rfl) ?_
  refine sq (wp_seq ?_)
  refine rga hfol ?_
  refine sy 9 9 ?_
  refine callY (f := 58) (as0 := [vI p0.N]) (us := [vI p0.N]) (G := g_ref01_digits p0.N) (rv := fun x1 => .ref 0 0 x1.length) (ro := fun x1 => [oR true 1 eI x1]) bodyB_58 (fun x1 q2 => g_ref01_digits_ok p0.N x1 q2) h (fun x1 q2 h => ?_)
  refine sy 2 12 ?_
  refine callR (as0 := [vI p1.N]) (ids := []) (S := fun x3 => ⟨(s30_1 p0 p1) ++ [(15, .ref 3 0 x1.length), (16, .ptr 1 0 0), (17, vI p1.N), (18, .ref 4 0 x3.length)], [oX true true 2 (.agg [vI p0.N, vI p0.D]), oX true true 2 (.agg [vI p1.N, vI p1.D]), oX true true 2 (.agg [vI 0, vI 0]), oR true 1 eI x1, oR true 1 eI x3], 30⟩) (by kernel_rfl) bodyB_58 (msnap_cons rfl msnap_nil (by rfl)) (fun x3 q4 => g_ref01_digits_ok p1.N x3 q4) (fun _ => by kernel_rfl) h (fun x3 q4 h => ?_)
  refine callZ (as0 := [.ref 3 0 x1.length, .ref 4 0 x3.length]) (ids := [3, 4]) (by kernel_rfl) bodyB_60 (msnap_cons (snap_full rfl) (msnap_cons (snap_full rfl) msnap_nil (by rfl)) (by rfl)) (fun x5 q6 => g_ref01_times_ok x1 x3 x5 q6) h (fun x5 q6 h => ?_)
  refine sy 2 16 ?_
  refine callY (f := 58) (as0 := [vI p0.D]) (us := [vI p0.D]) (G := g_ref01_digits p0.D) (rv := fun x7 => .ref 0 0 x7.length) (ro := fun x7 => [oR true 1 eI x7]) bodyB_58 (fun x7 q8 => g_ref01_digits_ok p0.D x7 q8) h (fun x7 q8 h => ?_)
  refine sy 2 19 ?_
  refine callR (as0 := [vI p1.D]) (ids := []) (S := fun x9 => ⟨(s30_1 p0 p1) ++ [(15, .ref 3 0 x1.length), (16, .ptr 1 0 0), (17, vI p1.N), (18, .ref 4 0 x3.length), (19, eL true eI x5), (20, .ptr 0 0 1), (21, vI p0.D), (22, .ref 5 0 x7.length), (23, .ptr 1 0 1), (24, vI p1.D)] ++ [(25, .ref 6 0 x9.length)], [oX true true 2 (.agg [vI p0.N, vI p0.D]), oX true true 2 (.agg [vI p1.N, vI p1.D]), oX true true 2 (.agg [vI 0, vI 0]), .row false true true true 1 (List.map eI x1), .row false true true true 1 (List.map eI x3), oR true 1 eI x7, oR true 1 eI x9], 30⟩) (by kernel_rfl) bodyB_58 (msnap_cons rfl msnap_nil (by rfl)) (fun x9 q10 => g_ref01_digits_ok p1.D x9 q10) (fun _ => by kernel_rfl) h (fun x9 q10 h => ?_)
  refine callZ (as0 := [.ref 5 0 x7.length, .ref 6 0 x9.length]) (ids := [5, 6]) (by kernel_rfl) bodyB_60 (msnap_cons (snap_full rfl) (msnap_cons (snap_full rfl) msnap_nil (by rfl)) (by rfl)) (fun x11 q12 => g_ref01_times_ok x7 x9 x11 q12) h (fun x11 q12 h => ?_)
  refine callY (f := 59) (as0 := [vB (!((decide (p0.N < 0)) == (decide (p1.N < 0)))), eL true eI x5, eL true eI x11]) (us := [vB (!((decide (p0.N < 0)) == (decide (p1.N < 0)))), eL true eI x5, eL true eI x11]) (G := g_ref01_made (!((decide (p0.N < 0)) == (decide (p1.N < 0)))) x5 x11) (rv := fun x13 => .tup [.agg [vI x13.1.N, vI x13.1.D], vB x13.2]) (ro := fun x13 => []) bodyB_59 (fun x13 q14 => g_ref01_made_ok (!((decide (p0.N < 0)) == (decide (p1.N < 0)))) x5 x11 x13 q14) h (fun x13 q14 h => ?_)
  refine sy 4 26 ?_
  refine rgd ?_
  refine wg [4, 5] [2] ?_
  refine wp_ret ?_
  cases h
  show fnOut _ _ _ _ = _
  kernel_rfl
end Go.Ab
namespace Go.Ab
open Go Go.Proofs
set_option maxRecDepth 100000
set_option maxHeartbeats 4000000
@[reducible] noncomputable def s61_33 (p0 : (List Int)) (p1 : (List Int)) (s1 : (Int × Int × (List Int))) : List (Nat × AV) := [(0, eL true eI p0), (1, eL true eI p1), (5, .ref 0 0 s1.2.2.length), (6, vI s1.1), (7, vI s1.2.1)]
theorem g_ref01_plus_ok (p0 : (List Int)) (p1 : (List Int)) (x : (List Int)) (h : g_ref01_plus p0 p1 = some x) : CallOk Try.prog 61 [eL true eI p0, eL true eI p1] (.ret (.ref 0 0 x.length) [oR true 1 eI x]) := by
  refine fn_ok [] Try.func61 rfl (by decide +kernel) rfl ?_
  unfold g_ref01_plus at h
  refine wp_eqB (base' := 0) (st' := ⟨[(0, eL true eI p0), (1, eL true eI p1)], [], 52⟩) rfl (by kernel_rfl) ?_
  refine sq (sq (sq (wp_seq (sq (wp_block ?_)))))
  refine wwh h (fun s1 => ⟨(s61_33 p0 p1 s1), [oR true 1 eI s1.2.2], 52⟩) (fun v out => out = .go (.exit 0) ⟨[(5, .ref 0 0 v.length)], [oR true 1 eI v], 52⟩) (wk_trans (wk_gc (live := [0, 1, 5, 6, 7]) (keep := []) (st' := ⟨[(0, eL true eI p0), (1, eL true eI p1), (5, .nils), (6, vI 0), (7, vI 0)], [], 52⟩) (by kernel_rfl)) (wk_trans (wk_nil 5 1 true true (st' := ⟨[(0, eL true eI p0), (1, eL true eI p1), (5, .ref 0 0 0), (6, vI 0), (7, vI 0)], [.row false false true true 1 []], 52⟩) (by kernel_rfl)) (wk_gc (live := [0, 1, 5, 6, 7]) (keep := [0]) (by kernel_rfl)))) ?_ ?_
  · intro s1 o h
    unfold g_ref01_plus_b0 at h
    refine wp_seq (wp_seq (reg_in (sz 2 2 ?_)))
    refine lenZ (enc := eI) (l := p0) (fl := true) (by kernel_rfl) ?_
    refine sz 2 5 ?_
    refine rwg [0, 1, 5, 6, 7, 12] [0] ?_
    refine rbr (S := fun b2 => ⟨(s61_33 p0 p1 s1) ++ [(12, vB b2)], [oR true 1 eI s1.2.2], 52⟩) h (fun q3 h => ?_) (fun q3 h => ?_)
    · refine sz 9 14 ?_
      refine reg_end rfl (wcT (wp_skip (wp_seq (wp_block (wp_seq ?_)))))
      refine wp_seq (wg [0, 1, 5, 6, 7] [0] ?_)
      refine reg_in (sz 2 2 ?_)
      refine lenZ (enc := eI) (l := p0) (fl := true) (by kernel_rfl) ?_
      refine sz 1 4 ?_
      refine reg_end rfl ?_
      refine wkn (S := fun b4 => ⟨(s61_33 p0 p1 s1) ++ [(24, vI s1.2.1), (25, eL true eI p0), (26, vI (p0.length : Int)), (27, vB b4)], [oR true 1 eI s1.2.2], 52⟩) q3 ?_
      refine wcT (reg_in (sz 3 3 ?_))
      refine bind_elim h (fun a5 q6 h => ?_)
      refine idxZ (enc := eI) (l := p0) (n := s1.2.1) (fl := true) (w := 1) (a := a5) (by kernel_rfl) q6 ?_
      refine sz 3 7 ?_
      refine reg_end rfl (wp_seq (wp_seq (wg [0, 1, 5, 6, 7] [0] ?_)))
      refine reg_in (sz 2 2 ?_)
      refine lenZ (enc := eI) (l := p1) (fl := true) (by kernel_rfl) ?_
      refine sgz 1 4 (S := ⟨[(0, eL true eI p0), (1, eL true eI p1), (5, .ref 0 0 s1.2.2.length), (6, vI (IntKind.i64.wrap (s1.1 + a5))), (7, vI s1.2.1)] ++ [(34, vI s1.2.1), (35, eL true eI p1), (36, vI (p1.length : Int)), (37, vB (decide (s1.2.1 < (p1.length : Int))))], [oR true 1 eI s1.2.2], 52⟩) ?_
      refine reg_end rfl ?_
      refine wbr (S := fun b7 => ⟨[(0, eL true eI p0), (1, eL true eI p1), (5, .ref 0 0 s1.2.2.length), (6, vI (IntKind.i64.wrap (s1.1 + a5))), (7, vI s1.2.1)] ++ [(34, vI s1.2.1), (35, eL true eI p1), (36, vI (p1.length : Int)), (37, vB b7)], [oR true 1 eI s1.2.2], 52⟩) h (fun q8 h => ?_) (fun q8 h => ?_)
      · refine wcT (reg_in (sz 3 3 ?_))
        refine bind_elim h (fun a9 q10 h => ?_)
        refine idxZ (enc := eI) (l := p1) (n := s1.2.1) (fl := true) (w := 1) (a := a9) (by kernel_rfl) q10 ?_
        refine sz 3 7 ?_
        refine reg_end rfl (wp_seq (wg [0, 1, 5, 6, 7] [0] ?_))
        refine reg_in (sz 3 3 ?_)
        refine sgL false [] [] true (S := ⟨[(0, eL true eI p0), (1, eL true eI p1), (5, .ref 0 0 s1.2.2.length), (6, vI (IntKind.i64.wrap ((IntKind.i64.wrap (s1.1 + a5)) + a9))), (7, vI s1.2.1)] ++ [(44, .ref 0 0 s1.2.2.length), (45, vI (IntKind.i64.wrap ((IntKind.i64.wrap (s1.1 + a5)) + a9))), (46, vI (Int.tmod (IntKind.i64.wrap ((IntKind.i64.wrap (s1.1 + a5)) + a9)) 10000))] ++ [(47, .ref 1 0 1)], [oR true 1 eI s1.2.2, .row false false true true 1 [vI (Int.tmod (IntKind.i64.wrap ((IntKind.i64.wrap (s1.1 + a5)) + a9)) 10000)]], 52⟩) (by kernel_rfl) ?_
        refine appR (enc := eI) (l := s1.2.2) (m := ([Int.tmod (IntKind.i64.wrap ((IntKind.i64.wrap (s1.1 + a5)) + a9)) 10000] : (List Int))) (w := 1) (bytes := 8) (ob := 0) (nr := true) (fl := true) (nr' := true) (fl' := true) (b := .ref 1 0 1) (rds := [1]) (S := ⟨[(0, eL true eI p0), (1, eL true eI p1), (5, .ref 0 0 s1.2.2.length), (6, vI (IntKind.i64.wrap ((IntKind.i64.wrap (s1.1 + a5)) + a9))), (7, vI s1.2.1)] ++ [(44, .ref 0 0 s1.2.2.length), (45, vI (IntKind.i64.wrap ((IntKind.i64.wrap (s1.1 + a5)) + a9))), (46, vI (Int.tmod (IntKind.i64.wrap ((IntKind.i64.wrap (s1.1 + a5)) + a9)) 10000))] ++ [(47, .ref 1 0 1), (48, .ref 2 0 ((s1.2.2 ++ ([Int.tmod (IntKind.i64.wrap ((IntKind.i64.wrap (s1.1 + a5)) + a9)) 10000] : (List Int))).length))], [.dead, .row false false true true 1 [vI (Int.tmod (IntKind.i64.wrap ((IntKind.i64.wrap (s1.1 + a5)) + a9)) 10000)], oR true 1 eI (s1.2.2 ++ ([Int.tmod (IntKind.i64.wrap ((IntKind.i64.wrap (s1.1 + a5)) + a9)) 10000] : (List Int)))], 52⟩) false (by kernel_rfl) rfl (by kernel_rfl) rfl (by kernel_rfl) (by kernel_rfl) h (fun h => ?_)
        refine sz 1 6 ?_
        refine reg_end rfl (wg [0, 1, 5, 6, 7] [2] ?_)
        refine rn (rn ?_)
        cases h
        exact ⟨_, rfl, (wk_gc (live := [0, 1, 5, 6, 7]) (keep := [0]) (by kernel_rfl))⟩
      refine wcF (wp_skip (wp_seq (reg_in (sz 3 3 ?_))))
      refine sgL false [] [] true (S := ⟨[(0, eL true eI p0), (1, eL true eI p1), (5, .ref 0 0 s1.2.2.length), (6, vI (IntKind.i64.wrap (s1.1 + a5))), (7, vI s1.2.1)] ++ [(34, vI s1.2.1), (35, eL true eI p1), (36, vI (p1.length : Int)), (37, vB false), (44, .ref 0 0 s1.2.2.length), (45, vI (IntKind.i64.wrap (s1.1 + a5))), (46, vI (Int.tmod (IntKind.i64.wrap (s1.1 + a5)) 10000))] ++ [(47, .ref 1 0 1)], [oR true 1 eI s1.2.2, .row false false true true 1 [vI (Int.tmod (IntKind.i64.wrap (s1.1 + a5)) 10000)]], 52⟩) (by kernel_rfl) ?_
      refine appR (enc := eI) (l := s1.2.2) (m := ([Int.tmod (IntKind.i64.wrap (s1.1 + a5)) 10000] : (List Int))) (w := 1) (bytes := 8) (ob := 0) (nr := true) (fl := true) (nr' := true) (fl' := true) (b := .ref 1 0 1) (rds := [1]) (S := ⟨[(0, eL true eI p0), (1, eL true eI p1), (5, .ref 0 0 s1.2.2.length), (6, vI (IntKind.i64.wrap (s1.1 + a5))), (7, vI s1.2.1)] ++ [(34, vI s1.2.1), (35, eL true eI p1), (36, vI (p1.length : Int)), (37, vB false), (44, .ref 0 0 s1.2.2.length), (45, vI (IntKind.i64.wrap (s1.1 + a5))), (46, vI (Int.tmod (IntKind.i64.wrap (s1.1 + a5)) 10000))] ++ [(47, .ref 1 0 1), (48, .ref 2 0 ((s1.2.2 ++ ([Int.tmod (IntKind.i64.wrap (s1.1 + a5)) 10000] : (List Int))).length))], [.dead, .row false false true true 1 [vI (Int.tmod (IntKind.i64.wrap (s1.1 + a5)) 10000)], oR true 1 eI (s1.2.2 ++ ([Int.tmod (IntKind.i64.wrap (s1.1 + a5)) 10000] : (List Int)))], 52⟩) false (by kernel_rfl) rfl (by kernel_rfl) rfl (by kernel_rfl) (by kernel_rfl) h (fun h => ?_)
      refine sz 1 6 ?_
      refine reg_end rfl (wg [0, 1, 5, 6, 7] [2] ?_)
      refine rn (rn ?_)
      cases h
      exact ⟨_, rfl, (wk_gc (live := [0, 1, 5, 6, 7]) (keep := [0]) (by kernel_rfl))⟩
    refine sz 2 7 ?_
    refine lenZ (enc := eI) (l := p1) (fl := true) (by kernel_rfl) ?_
    refine sz 3 11 ?_
    refine rwg [0, 1, 5, 6, 7, 18] [0] ?_
    refine rbr (S := fun b11 => ⟨(s61_33 p0 p1 s1) ++ [(18, vB b11)], [oR true 1 eI s1.2.2], 52⟩) h (fun q12 h => ?_) (fun q12 h => ?_)
    · refine sz 3 14 ?_
      refine reg_end rfl (wcT (wp_skip (wp_seq (wp_block (wp_seq ?_)))))
      refine wp_seq (reg_in (sz 2 2 ?_))
      refine lenZ (enc := eI) (l := p0) (fl := true) (by kernel_rfl) ?_
      refine sz 1 4 ?_
      refine reg_end rfl ?_
      refine wkn (S := fun b13 => ⟨(s61_33 p0 p1 s1) ++ [(18, vB true), (19, .tup []), (20, .tup []), (21, vB true), (24, vI s1.2.1), (25, eL true eI p0), (26, vI (p0.length : Int)), (27, vB b13)], [oR true 1 eI s1.2.2], 52⟩) q3 ?_
      refine wcF (wp_skip (wp_seq (wp_seq (wg [0, 1, 5, 6, 7] [0] ?_))))
      refine reg_in (sz 2 2 ?_)
      refine lenZ (enc := eI) (l := p1) (fl := true) (by kernel_rfl) ?_
      refine sz 1 4 ?_
      refine reg_end rfl ?_
      refine wkn (S := fun b14 => ⟨(s61_33 p0 p1 s1) ++ [(34, vI s1.2.1), (35, eL true eI p1), (36, vI (p1.length : Int)), (37, vB b14)], [oR true 1 eI s1.2.2], 52⟩) q12 ?_
      refine wcT (reg_in (sz 3 3 ?_))
      refine bind_elim h (fun a15 q16 h => ?_)
      refine idxZ (enc := eI) (l := p1) (n := s1.2.1) (fl := true) (w := 1) (a := a15) (by kernel_rfl) q16 ?_
      refine sz 3 7 ?_
      refine reg_end rfl (wp_seq (wg [0, 1, 5, 6, 7] [0] ?_))
      refine reg_in (sz 3 3 ?_)
      refine sgL false [] [] true (S := ⟨[(0, eL true eI p0), (1, eL true eI p1), (5, .ref 0 0 s1.2.2.length), (6, vI (IntKind.i64.wrap (s1.1 + a15))), (7, vI s1.2.1)] ++ [(44, .ref 0 0 s1.2.2.length), (45, vI (IntKind.i64.wrap (s1.1 + a15))), (46, vI (Int.tmod (IntKind.i64.wrap (s1.1 + a15)) 10000)), (47, .ref 1 0 1)], [oR true 1 eI s1.2.2, .row false false true true 1 [vI (Int.tmod (IntKind.i64.wrap (s1.1 + a15)) 10000)]], 52⟩) (by kernel_rfl) ?_
      refine appR (enc := eI) (l := s1.2.2) (m := ([Int.tmod (IntKind.i64.wrap (s1.1 + a15)) 10000] : (List Int))) (w := 1) (bytes := 8) (ob := 0) (nr := true) (fl := true) (nr' := true) (fl' := true) (b := .ref 1 0 1) (rds := [1]) (S := ⟨[(0, eL true eI p0), (1, eL true eI p1), (5, .ref 0 0 s1.2.2.length), (6, vI (IntKind.i64.wrap (s1.1 + a15))), (7, vI s1.2.1)] ++ [(44, .ref 0 0 s1.2.2.length), (45, vI (IntKind.i64.wrap (s1.1 + a15))), (46, vI (Int.tmod (IntKind.i64.wrap (s1.1 + a15)) 10000)), (47, .ref 1 0 1), (48, .ref 2 0 ((s1.2.2 ++ ([Int.tmod (IntKind.i64.wrap (s1.1 + a15)) 10000] : (List Int))).length))], [.dead, .row false false true true 1 [vI (Int.tmod (IntKind.i64.wrap (s1.1 + a15)) 10000)], oR true 1 eI (s1.2.2 ++ ([Int.tmod (IntKind.i64.wrap (s1.1 + a15)) 10000] : (List Int)))], 52⟩) false (by kernel_rfl) rfl (by kernel_rfl) rfl (by kernel_rfl) (by kernel_rfl) h (fun h => ?_)
      refine sz 1 6 ?_
      refine reg_end rfl (wg [0, 1, 5, 6, 7] [2] ?_)
      refine rn (rn ?_)
      cases h
      exact ⟨_, rfl, (wk_gc (live := [0, 1, 5, 6, 7]) (keep := [0]) (by kernel_rfl))⟩
    refine sz 3 14 ?_
    refine reg_end rfl ?_
    refine wbr (S := fun b17 => ⟨(s61_33 p0 p1 s1) ++ [(18, vB false), (19, vI s1.1), (20, vB b17), (21, vB b17)], [oR true 1 eI s1.2.2], 52⟩) h (fun q18 h => ?_) (fun q18 h => ?_)
    · refine wcT (wp_skip (wp_seq (wp_block (wp_seq (wp_seq ?_)))))
      refine reg_in (sz 2 2 ?_)
      refine lenZ (enc := eI) (l := p0) (fl := true) (by kernel_rfl) ?_
      refine sz 1 4 ?_
      refine reg_end rfl ?_
      refine wkn (S := fun b19 => ⟨(s61_33 p0 p1 s1) ++ [(18, vB false), (19, vI s1.1), (20, vB true), (21, vB true), (24, vI s1.2.1), (25, eL true eI p0), (26, vI (p0.length : Int)), (27, vB b19)], [oR true 1 eI s1.2.2], 52⟩) q3 ?_
      refine wcF (wp_skip (wp_seq (wp_seq (wg [0, 1, 5, 6, 7] [0] ?_))))
      refine reg_in (sz 2 2 ?_)
      refine lenZ (enc := eI) (l := p1) (fl := true) (by kernel_rfl) ?_
      refine sz 1 4 ?_
      refine reg_end rfl ?_
      refine wkn (S := fun b20 => ⟨(s61_33 p0 p1 s1) ++ [(34, vI s1.2.1), (35, eL true eI p1), (36, vI (p1.length : Int)), (37, vB b20)], [oR true 1 eI s1.2.2], 52⟩) q12 ?_
      refine wcF (wp_skip (wp_seq (reg_in (sz 3 3 ?_))))
      refine sgL false [] [] true (S := ⟨(s61_33 p0 p1 s1) ++ [(34, vI s1.2.1), (35, eL true eI p1), (36, vI (p1.length : Int)), (37, vB false), (44, .ref 0 0 s1.2.2.length), (45, vI s1.1), (46, vI (Int.tmod s1.1 10000)), (47, .ref 1 0 1)], [oR true 1 eI s1.2.2, .row false false true true 1 [vI (Int.tmod s1.1 10000)]], 52⟩) (by kernel_rfl) ?_
      refine appR (enc := eI) (l := s1.2.2) (m := ([Int.tmod s1.1 10000] : (List Int))) (w := 1) (bytes := 8) (ob := 0) (nr := true) (fl := true) (nr' := true) (fl' := true) (b := .ref 1 0 1) (rds := [1]) (S := ⟨(s61_33 p0 p1 s1) ++ [(34, vI s1.2.1), (35, eL true eI p1), (36, vI (p1.length : Int)), (37, vB false), (44, .ref 0 0 s1.2.2.length), (45, vI s1.1), (46, vI (Int.tmod s1.1 10000)), (47, .ref 1 0 1), (48, .ref 2 0 ((s1.2.2 ++ ([Int.tmod s1.1 10000] : (List Int))).length))], [.dead, .row false false true true 1 [vI (Int.tmod s1.1 10000)], oR true 1 eI (s1.2.2 ++ ([Int.tmod s1.1 10000] : (List Int)))], 52⟩) false (by kernel_rfl) rfl (by kernel_rfl) rfl (by kernel_rfl) (by kernel_rfl) h (fun h => ?_)
      refine sz 1 6 ?_
      refine reg_end rfl (wg [0, 1, 5, 6, 7] [2] ?_)
      refine rn (rn ?_)
      cases h
      exact ⟨_, rfl, (wk_gc (live := [0, 1, 5, 6, 7]) (keep := [0]) (by kernel_rfl))⟩
    refine wcF ?_
    refine wgc [5] [0] ⟨[(5, .ref 0 0 s1.2.2.length)], [oR true 1 eI s1.2.2], 52⟩ ?_
    refine wp_exit ?_
    cases h
    exact ⟨rfl, rfl⟩
  intro x22 h out hx
  subst hx
  refine sq (wg [4] [0] ?_)
  refine wp_ret ?_
  cases h
  show fnOut _ _ _ _ = _
  kernel_rfl
@[reducible] noncomputable def s31_2 (p0 : Tapi_Q) (p1 : Tapi_Q) (x1 : (List Int)) : List (Nat × AV) := [(0, .agg [vI p0.N, vI p0.D]), (1, .agg [vI p1.N, vI p1.D]), (2, .ptr 0 0 0), (3, .ptr 1 0 0), (4, .ptr 2 0 0), (5, vB false), (9, .ptr 0 0 0), (10, vI p0.N), (11, .ref 3 0 x1.length), (12, .ptr 1 0 1), (13, vI p1.D)]
theorem g_ref01_Add_ok (p0 : Tapi_Q) (p1 : Tapi_Q) (x : (Tapi_Q × Bool)) (h : g_ref01_Add p0 p1 = some x) : CallOk Try.prog 31 [.agg [vI p0.N, vI p0.D], .agg [vI p1.N, vI p1.D]] (.ret (.tup [.agg [vI x.1.N, vI x.1.D], vB x.2]) []) := by
  refine fn_ok [] Try.func31 rfl (by decide +kernel) rfl ?_
  unfold g_ref01_Add at h
  refine wp_eqB (base' := 0) (st' := ⟨[(0, .agg [vI p0.N, vI p0.D]), (1, .agg [vI p1.N, vI p1.D])], [], 71⟩) rfl (by kernel_rfl) ?_
  refine sq (wp_seq ?_)
  refine rga hfol ?_
  refine sy 2 2 ?_
  refine callY (f := 58) (as0 := [vI p0.N]) (us := [vI p0.N]) (G := g_ref01_digits p0.N) (rv := fun x1 => .ref 0 0 x1.length) (ro := fun x1 => [oR true 1 eI x1]) bodyB_58 (fun x1 q2 => g_ref01_digits_ok p0.N x1 q2) h (fun x1 q2 h => ?_)
  refine sy 2 5 ?_
  refine callR (as0 := [vI p1.D]) (ids := []) (S := fun x3 => ⟨(s31_2 p0 p1 x1) ++ [(14, .ref 4 0 x3.length)], [oX true true 2 (.agg [vI p0.N, vI p0.D]), oX true true 2 (.agg [vI p1.N, vI p1.D]), oX true true 2 (.agg [vI 0, vI 0]), oR true 1 eI x1, oR true 1 eI x3], 71⟩) (by kernel_rfl) bodyB_58 (msnap_cons rfl msnap_nil (by rfl)) (fun x3 q4 => g_ref01_digits_ok p1.D x3 q4) (fun _ => by kernel_rfl) h (fun x3 q4 h => ?_)
  refine callZ (as0 := [.ref 3 0 x1.length, .ref 4 0 x3.length]) (ids := [3, 4]) (by kernel_rfl) bodyB_60 (msnap_cons (snap_full rfl) (msnap_cons (snap_full rfl) msnap_nil (by rfl)) (by rfl)) (fun x5 q6 => g_ref01_times_ok x1 x3 x5 q6) h (fun x5 q6 h => ?_)
  refine sy 2 9 ?_
  refine callY (f := 58) (as0 := [vI p1.N]) (us := [vI p1.N]) (G := g_ref01_digits p1.N) (rv := fun x7 => .ref 0 0 x7.length) (ro := fun x7 => [oR true 1 eI x7]) bodyB_58 (fun x7 q8 => g_ref01_digits_ok p1.N x7 q8) h (fun x7 q8 h => ?_)
  refine sy 2 12 ?_
  refine callR (as0 := [vI p0.D]) (ids := []) (S := fun x9 => ⟨(s31_2 p0 p1 x1) ++ [(14, .ref 4 0 x3.length), (15, eL true eI x5), (16, .ptr 1 0 0), (17, vI p1.N), (18, .ref 5 0 x7.length), (19, .ptr 0 0 1), (20, vI p0.D), (21, .ref 6 0 x9.length)], [oX true true 2 (.agg [vI p0.N, vI p0.D]), oX true true 2 (.agg [vI p1.N, vI p1.D]), oX true true 2 (.agg [vI 0, vI 0]), .row false true true true 1 (List.map eI x1), .row false true true true 1 (List.map eI x3), oR true 1 eI x7, oR true 1 eI x9], 71⟩) (by kernel_rfl) bodyB_58 (msnap_cons rfl msnap_nil (by rfl)) (fun x9 q10 => g_ref01_digits_ok p0.D x9 q10) (fun _ => by kernel_rfl) h (fun x9 q10 h => ?_)
  refine callZ (as0 := [.ref 5 0 x7.length, .ref 6 0 x9.length]) (ids := [5, 6]) (by kernel_rfl) bodyB_60 (msnap_cons (snap_full rfl) (msnap_cons (snap_full rfl) msnap_nil (by rfl)) (by rfl)) (fun x11 q12 => g_ref01_times_ok x7 x9 x11 q12) h (fun x11 q12 h => ?_)
  refine sy 2 16 ?_
  refine rgd ?_
  refine wp_seq (wg [2, 3, 4, 6, 7] [0, 1, 2] ?_)
  refine rga hfol ?_
  refine sy 2 2 ?_
  refine callY (f := 58) (as0 := [vI p0.D]) (us := [vI p0.D]) (G := g_ref01_digits p0.D) (rv := fun x13 => .ref 0 0 x13.length) (ro := fun x13 => [oR true 1 eI x13]) bodyB_58 (fun x13 q14 => g_ref01_digits_ok p0.D x13 q14) h (fun x13 q14 h => ?_)
  refine sy 2 5 ?_
  refine callR (as0 := [vI p1.D]) (ids := []) (S := fun x15 => ⟨[(2, .ptr 0 0 0), (3, .ptr 1 0 0), (4, .ptr 2 0 0), (6, eL true eI x5), (7, eL true eI x11), (23, .ptr 0 0 1), (24, vI p0.D), (25, .ref 3 0 x13.length), (26, .ptr 1 0 1), (27, vI p1.D)] ++ [(28, .ref 4 0 x15.length)], [oX true true 2 (.agg [vI p0.N, vI p0.D]), oX true true 2 (.agg [vI p1.N, vI p1.D]), oX true true 2 (.agg [vI 0, vI 0]), oR true 1 eI x13, oR true 1 eI x15], 71⟩) (by kernel_rfl) bodyB_58 (msnap_cons rfl msnap_nil (by rfl)) (fun x15 q16 => g_ref01_digits_ok p1.D x15 q16) (fun _ => by kernel_rfl) h (fun x15 q16 h => ?_)
  refine callZ (as0 := [.ref 3 0 x13.length, .ref 4 0 x15.length]) (ids := [3, 4]) (by kernel_rfl) bodyB_60 (msnap_cons (snap_full rfl) (msnap_cons (snap_full rfl) msnap_nil (by rfl)) (by rfl)) (fun x17 q18 => g_ref01_times_ok x13 x15 x17 q18) h (fun x17 q18 h => ?_)
  refine sy 1 8 ?_
  refine rgd ?_
  refine wp_seq (wp_seq (wg [2, 3, 4, 6, 7, 8] [0, 1, 2] ?_))
  refine rn ?_
  refine wbz h (fun q20 h => ?_) (fun q20 h => ?_)
  · refine wp_seq (wg [2, 4, 6, 7, 8] [0, 2] ?_)
    refine rga hfol ?_
    refine sy 5 5 ?_
    refine callY (f := 61) (as0 := [eL true eI x5, eL true eI x11]) (us := [eL true eI x5, eL true eI x11]) (G := g_ref01_plus x5 x11) (rv := fun x21 => .ref 0 0 x21.length) (ro := fun x21 => [oR true 1 eI x21]) bodyB_61 (fun x21 q22 => g_ref01_plus_ok x5 x11 x21 q22) h (fun x21 q22 h => ?_)
    refine sgy 1 7 (S := ⟨[(2, .ptr 0 0 0), (4, .ptr 1 0 0), (6, eL true eI x5), (7, eL true eI x11), (8, eL true eI x17)] ++ [(37, .ptr 0 0 0), (38, vI p0.N), (39, vB (decide (p0.N < 0))), (40, eL true eI x5), (41, eL true eI x11), (42, .ref 2 0 x21.length), (43, eL true eI x17)], [oX true true 2 (.agg [vI p0.N, vI p0.D]), oX true true 2 (.agg [vI 0, vI 0]), oR true 1 eI x21], 71⟩) ?_
    refine callZ (as0 := [vB (decide (p0.N < 0)), .ref 2 0 x21.length, eL true eI x17]) (ids := [2]) (by kernel_rfl) bodyB_59 (msnap_cons rfl (msnap_cons (snap_full rfl) (msnap_cons rfl msnap_nil (by rfl)) (by rfl)) (by rfl)) (fun x23 q24 => g_ref01_made_ok (decide (p0.N < 0)) x21 x17 x23 q24) h (fun x23 q24 h => ?_)
    refine sy 4 12 ?_
    refine rgd ?_
    refine wg [4, 5] [1] ?_
    refine wp_ret ?_
    cases h
    show fnOut _ _ _ _ = _
    kernel_rfl
  refine wp_skip (wp_seq (wp_seq (wg [2, 3, 4, 6, 7, 8] [0, 1, 2] ?_)))
  refine reg_in (sz 2 2 ?_)
  refine callY (f := 56) (as0 := [eL true eI x5, eL true eI x11]) (us := [eL true eI x5, eL true eI x11]) (G := g_ref01_compare x5 x11) (rv := fun x25 => vI x25) (ro := fun x25 => []) bodyB_56 (fun x25 q26 => g_ref01_compare_ok x5 x11 x25 q26) h (fun x25 q26 h => ?_)
  refine sz 1 4 ?_
  refine reg_end rfl ?_
  refine wbz h (fun q28 h => ?_) (fun q28 h => ?_)
  · refine wp_seq (wg [2, 4, 6, 7, 8] [0, 2] ?_)
    refine rga hfol ?_
    refine sy 5 5 ?_
    refine callY (f := 62) (as0 := [eL true eI x5, eL true eI x11]) (us := [eL true eI x5, eL true eI x11]) (G := g_ref01_minus x5 x11) (rv := fun x29 => eL true eI x29) (ro := fun x29 => []) bodyB_62 (fun x29 q30 => g_ref01_minus_ok x5 x11 x29 q30) h (fun x29 q30 h => ?_)
    refine sy 1 7 ?_
    refine callY (f := 59) (as0 := [vB (decide (p0.N < 0)), eL true eI x29, eL true eI x17]) (us := [vB (decide (p0.N < 0)), eL true eI x29, eL true eI x17]) (G := g_ref01_made (decide (p0.N < 0)) x29 x17) (rv := fun x31 => .tup [.agg [vI x31.1.N, vI x31.1.D], vB x31.2]) (ro := fun x31 => []) bodyB_59 (fun x31 q32 => g_ref01_made_ok (decide (p0.N < 0)) x29 x17 x31 q32) h (fun x31 q32 h => ?_)
    refine sy 4 12 ?_
    refine rgd ?_
    refine wgc [4, 5] [1] ⟨[(4, .ptr 0 0 0), (5, vB x31.2)], [oX true true 2 (.agg [vI x31.1.N, vI x31.1.D])], 71⟩ ?_
    refine wp_ret ?_
    cases h
    show fnOut _ _ _ _ = _
    kernel_rfl
  refine wp_skip (wp_seq (wg [3, 4, 6, 7, 8] [1, 2] ?_))
  refine rga hfol ?_
  refine sy 5 5 ?_
  refine callY (f := 62) (as0 := [eL true eI x11, eL true eI x5]) (us := [eL true eI x11, eL true eI x5]) (G := g_ref01_minus x11 x5) (rv := fun x33 => eL true eI x33) (ro := fun x33 => []) bodyB_62 (fun x33 q34 => g_ref01_minus_ok x11 x5 x33 q34) h (fun x33 q34 h => ?_)
  refine sy 1 7 ?_
  refine callY (f := 59) (as0 := [vB (decide (p1.N < 0)), eL true eI x33, eL true eI x17]) (us := [vB (decide (p1.N < 0)), eL true eI x33, eL true eI x17]) (G := g_ref01_made (decide (p1.N < 0)) x33 x17) (rv := fun x35 => .tup [.agg [vI x35.1.N, vI x35.1.D], vB x35.2]) (ro := fun x35 => []) bodyB_59 (fun x35 q36 => g_ref01_made_ok (decide (p1.N < 0)) x33 x17 x35 q36) h (fun x35 q36 h => ?_)
  refine sy 4 12 ?_
  refine rgd ?_
  refine wgc [4, 5] [1] ⟨[(4, .ptr 0 0 0), (5, vB x35.2)], [oX true true 2 (.agg [vI x35.1.N, vI x35.1.D])], 71⟩ ?_
  refine wp_ret ?_
  cases h
  show fnOut _ _ _ _ = _
  kernel_rfl
end Go.Ab
namespace Go.Ab
open Go Go.Proofs
set_option maxRecDepth 100000
set_option maxHeartbeats 4000000
@[reducible] noncomputable def s6_10 (x5 : Tapi_Lift) (x7 : Tharuspexlaw14_Known) (x9 : ((List Tapi_Q) × Int)) (x11 : (Tapi_Q × Int)) : List AObj := [oX false false 4 (.agg [vI x5.Grain, vI x5.Count, vI x5.One, .ref 4 0 x5.Rows.length]), oX true true 3 (.agg [vI x7.Zeros, vI x7.Ones, vI x7.Child]), oR true 2 eTapi_Q x9.1, oX true true 2 (.agg [vI x11.1.N, vI x11.1.D]), oR false 1 (eL true eI) x5.Rows]
@[reducible] noncomputable def s6_57 (x5 : Tapi_Lift) (x7 : Tharuspexlaw14_Known) (x11 : (Tapi_Q × Int)) (s35 : (Int × Int × Int × Int × Int)) (x9 : ((List Tapi_Q) × Int)) (a38 : Tapi_Q) : List AObj := [oX false false 4 (.agg [vI x5.Grain, vI x5.Count, vI x5.One, .ref 7 0 x5.Rows.length]), oX true true 3 (.agg [vI x7.Zeros, vI x7.Ones, vI x7.Child]), oX true true 2 (.agg [vI x11.1.N, vI x11.1.D]), oX true true 2 (.agg [vI s35.2.1, vI s35.2.2.1]), oX true true 2 (.agg [vI s35.2.2.2.1, vI s35.2.2.2.2]), oR true 2 eTapi_Q x9.1, oX true true 2 (.agg [vI a38.N, vI a38.D]), oR false 1 (eL true eI) x5.Rows]
@[reducible] noncomputable def s6_66 (x5 : Tapi_Lift) (x7 : Tharuspexlaw14_Known) (x11 : (Tapi_Q × Int)) (s35 : (Int × Int × Int × Int × Int)) (x9 : ((List Tapi_Q) × Int)) (x56 : (Tapi_Q × Bool)) (x58 : (Tapi_Q × Bool)) : List AObj := [oX false false 4 (.agg [vI x5.Grain, vI x5.Count, vI x5.One, .ref 8 0 x5.Rows.length]), oX true true 3 (.agg [vI x7.Zeros, vI x7.Ones, vI x7.Child]), oX true true 2 (.agg [vI x11.1.N, vI x11.1.D]), oX true true 2 (.agg [vI s35.2.1, vI s35.2.2.1]), oX true true 2 (.agg [vI s35.2.2.2.1, vI s35.2.2.2.2]), oR true 2 eTapi_Q x9.1, oX true true 2 (.agg [vI x56.1.N, vI x56.1.D]), oX true true 2 (.agg [vI x58.1.N, vI x58.1.D]), oR false 1 (eL true eI) x5.Rows]
@[reducible] noncomputable def s6_74 (x5 : Tapi_Lift) (x7 : Tharuspexlaw14_Known) (x11 : (Tapi_Q × Int)) (s35 : (Int × Int × Int × Int × Int)) (x9 : ((List Tapi_Q) × Int)) (x70 : (Tapi_Q × Bool)) (x72 : (Tapi_Q × Bool)) : List AObj := [oX false false 4 (.agg [vI x5.Grain, vI x5.Count, vI x5.One, .ref 8 0 x5.Rows.length]), oX true true 3 (.agg [vI x7.Zeros, vI x7.Ones, vI x7.Child]), oX true true 2 (.agg [vI x11.1.N, vI x11.1.D]), oX true true 2 (.agg [vI s35.2.1, vI s35.2.2.1]), oX true true 2 (.agg [vI s35.2.2.2.1, vI s35.2.2.2.2]), oR true 2 eTapi_Q x9.1, oX true true 2 (.agg [vI x70.1.N, vI x70.1.D]), oX true true 2 (.agg [vI x72.1.N, vI x72.1.D]), oR false 1 (eL true eI) x5.Rows]
@[reducible] noncomputable def s6_79 (x5 : Tapi_Lift) (x7 : Tharuspexlaw14_Known) (x11 : (Tapi_Q × Int)) (s35 : (Int × Int × Int × Int × Int)) (x9 : ((List Tapi_Q) × Int)) : List AObj := [oX false false 4 (.agg [vI x5.Grain, vI x5.Count, vI x5.One, .ref 6 0 x5.Rows.length]), oX true true 3 (.agg [vI x7.Zeros, vI x7.Ones, vI x7.Child]), oX true true 2 (.agg [vI x11.1.N, vI x11.1.D]), oX true true 2 (.agg [vI s35.2.1, vI s35.2.2.1]), oX true true 2 (.agg [vI s35.2.2.2.1, vI s35.2.2.2.2]), oR true 2 eTapi_Q x9.1, oR false 1 (eL true eI) x5.Rows]
@[reducible] noncomputable def s6_138 (x5 : Tapi_Lift) (x7 : Tharuspexlaw14_Known) (x11 : (Tapi_Q × Int)) (s94 : (Int × Int × Int × Int × Int)) (x9 : ((List Tapi_Q) × Int)) (a97 : Tapi_Q) : List AObj := [oX false false 4 (.agg [vI x5.Grain, vI x5.Count, vI x5.One, .ref 7 0 x5.Rows.length]), oX true true 3 (.agg [vI x7.Zeros, vI x7.Ones, vI x7.Child]), oX true true 2 (.agg [vI x11.1.N, vI x11.1.D]), oX true true 2 (.agg [vI s94.2.1, vI s94.2.2.1]), oX true true 2 (.agg [vI s94.2.2.2.1, vI s94.2.2.2.2]), oR true 2 eTapi_Q x9.1, oX true true 2 (.agg [vI a97.N, vI a97.D]), oR false 1 (eL true eI) x5.Rows]
@[reducible] noncomputable def s6_147 (x5 : Tapi_Lift) (x7 : Tharuspexlaw14_Known) (x11 : (Tapi_Q × Int)) (s94 : (Int × Int × Int × Int × Int)) (x9 : ((List Tapi_Q) × Int)) (x115 : (Tapi_Q × Bool)) (x117 : (Tapi_Q × Bool)) : List AObj := [oX false false 4 (.agg [vI x5.Grain, vI x5.Count, vI x5.One, .ref 8 0 x5.Rows.length]), oX true true 3 (.agg [vI x7.Zeros, vI x7.Ones, vI x7.Child]), oX true true 2 (.agg [vI x11.1.N, vI x11.1.D]), oX true true 2 (.agg [vI s94.2.1, vI s94.2.2.1]), oX true true 2 (.agg [vI s94.2.2.2.1, vI s94.2.2.2.2]), oR true 2 eTapi_Q x9.1, oX true true 2 (.agg [vI x115.1.N, vI x115.1.D]), oX true true 2 (.agg [vI x117.1.N, vI x117.1.D]), oR false 1 (eL true eI) x5.Rows]
@[reducible] noncomputable def s6_155 (x5 : Tapi_Lift) (x7 : Tharuspexlaw14_Known) (x11 : (Tapi_Q × Int)) (s94 : (Int × Int × Int × Int × Int)) (x9 : ((List Tapi_Q) × Int)) (x129 : (Tapi_Q × Bool)) (x131 : (Tapi_Q × Bool)) : List AObj := [oX false false 4 (.agg [vI x5.Grain, vI x5.Count, vI x5.One, .ref 8 0 x5.Rows.length]), oX true true 3 (.agg [vI x7.Zeros, vI x7.Ones, vI x7.Child]), oX true true 2 (.agg [vI x11.1.N, vI x11.1.D]), oX true true 2 (.agg [vI s94.2.1, vI s94.2.2.1]), oX true true 2 (.agg [vI s94.2.2.2.1, vI s94.2.2.2.2]), oR true 2 eTapi_Q x9.1, oX true true 2 (.agg [vI x129.1.N, vI x129.1.D]), oX true true 2 (.agg [vI x131.1.N, vI x131.1.D]), oR false 1 (eL true eI) x5.Rows]
@[reducible] noncomputable def s6_160 (x5 : Tapi_Lift) (x7 : Tharuspexlaw14_Known) (x11 : (Tapi_Q × Int)) (s94 : (Int × Int × Int × Int × Int)) (x9 : ((List Tapi_Q) × Int)) : List AObj := [oX false false 4 (.agg [vI x5.Grain, vI x5.Count, vI x5.One, .ref 6 0 x5.Rows.length]), oX true true 3 (.agg [vI x7.Zeros, vI x7.Ones, vI x7.Child]), oX true true 2 (.agg [vI x11.1.N, vI x11.1.D]), oX true true 2 (.agg [vI s94.2.1, vI s94.2.2.1]), oX true true 2 (.agg [vI s94.2.2.2.1, vI s94.2.2.2.2]), oR true 2 eTapi_Q x9.1, oR false 1 (eL true eI) x5.Rows]
theorem g_law14_LiftMeans_ok (p0 : Tharuspexref14_Draft) (p1 : Tharuspexlaw14_Known) (x : Bool) (h : g_law14_LiftMeans p0 p1 = some x) : CallOk Try.prog 6 [.agg [.int .u8 p0.Grain, .int .u8 p0.Count, .int .u8 p0.One, .int .u8 p0.Card, eL true (AV.int .u8) p0.L], .agg [vI p1.Zeros, vI p1.Ones, vI p1.Child]] (.ret (vB x) []) := by
  refine fn_ok [] Try.func6 rfl (by decide +kernel) rfl ?_
  unfold g_law14_LiftMeans at h
  refine wp_eqB (base' := 0) (st' := ⟨[(0, .agg [.int .u8 p0.Grain, .int .u8 p0.Count, .int .u8 p0.One, .int .u8 p0.Card, eL true (AV.int .u8) p0.L]), (1, .agg [vI p1.Zeros, vI p1.Ones, vI p1.Child])], [], 208⟩) rfl (by as_aux_lemma => kernel_rfl) ?_
  refine wp_seq (reg_in ?_)
  refine sl false [] [] false rfl ?_
  refine sz 2 3 ?_
  refine reg_end rfl (wp_seq (wp_seq (reg_in ?_)))
  refine callZ (as0 := []) (ids := []) (by as_aux_lemma => kernel_rfl) bodyB_10 msnap_nil (fun x1 q2 => g_law14_wakes_ok  x1 q2) h (fun x1 q2 h => ?_)
  refine sz 1 2 ?_
  refine reg_end rfl ?_
  refine wbz h (fun q4 h => ?_) (fun q4 h => ?_)
  · refine wp_seq (wg [] [] ?_)
    refine rn (wg [4] [] ?_)
    refine wp_ret ?_
    cases h
    show fnOut _ _ _ _ = _
    kernel_rfl
  refine wp_skip (wp_seq (wg [2, 3] [0, 1] ?_))
  refine reg_in (sz 1 1 ?_)
  refine callZ (as0 := [.agg [.int .u8 p0.Grain, .int .u8 p0.Count, .int .u8 p0.One, .int .u8 p0.Card, eL true (AV.int .u8) p0.L]]) (ids := []) (by as_aux_lemma => kernel_rfl) bodyB_18 (msnap_cons (snap_agg (msnap_cons rfl (msnap_cons rfl (msnap_cons rfl (msnap_cons rfl (msnap_cons rfl msnap_nil (by rfl)) (by rfl)) (by rfl)) (by rfl)) (by rfl))) msnap_nil (by rfl)) (fun x5 q6 => g_ref14_Draft_Lift_ok p0 x5 q6) h (fun x5 q6 h => ?_)
  refine sl false [] [] false rfl ?_
  refine sz 1 4 ?_
  refine reg_end rfl (wp_seq (reg_in ?_))
  refine sgz 2 2 (S := ⟨[(2, .ptr 0 0 0), (3, .ptr 1 0 0), (29, .agg [.int .u8 p0.Grain, .int .u8 p0.Count, .int .u8 p0.One, .int .u8 p0.Card, eL true (AV.int .u8) p0.L]), (30, .agg [vI x5.Grain, vI x5.Count, vI x5.One, .ref 2 0 x5.Rows.length]), (5, .ptr 3 0 0), (31, .agg [vI p1.Zeros, vI p1.Ones, vI p1.Child]), (32, .agg [vI x5.Grain, vI x5.Count, vI x5.One, .ref 2 0 x5.Rows.length])], [oX true false 5 (.agg [.int .u8 p0.Grain, .int .u8 p0.Count, .int .u8 p0.One, .int .u8 p0.Card, eL true (AV.int .u8) p0.L]), oX true true 3 (.agg [vI p1.Zeros, vI p1.Ones, vI p1.Child]), oR false 1 (eL true eI) x5.Rows, oX false false 4 (.agg [vI x5.Grain, vI x5.Count, vI x5.One, .ref 2 0 x5.Rows.length])], 208⟩) ?_
  refine callZ (as0 := [.agg [vI p1.Zeros, vI p1.Ones, vI p1.Child], .agg [vI x5.Grain, vI x5.Count, vI x5.One, .ref 2 0 x5.Rows.length]]) (ids := [2]) (by as_aux_lemma => kernel_rfl) bodyB_17 (msnap_cons (snap_agg (msnap_cons rfl (msnap_cons rfl (msnap_cons rfl msnap_nil (by rfl)) (by rfl)) (by rfl))) (msnap_cons (snap_agg (msnap_cons rfl (msnap_cons rfl (msnap_cons rfl (msnap_cons (snap_full rfl) msnap_nil (by rfl)) (by rfl)) (by rfl)) (by rfl))) msnap_nil (by rfl)) (by rfl)) (fun x7 q8 => g_law14_Known_Of_ok p1 x5 x7 q8) h (fun x7 q8 h => ?_)
  refine sz 2 5 ?_
  refine reg_end rfl (wp_seq (wg [5, 6] [3, 4, 2] ?_))
  refine reg_in ?_
  refine sgz 7 7 (S := ⟨[(5, .ptr 0 0 0), (6, .ptr 1 0 0), (35, .agg [vI x5.Grain, vI x5.Count, vI x5.One, .ref 2 0 x5.Rows.length]), (36, .ptr 1 0 0), (37, vI x7.Zeros), (38, .ptr 1 0 1), (39, vI x7.Ones), (40, .ptr 1 0 2), (41, vI x7.Child)], [oX false false 4 (.agg [vI x5.Grain, vI x5.Count, vI x5.One, .ref 2 0 x5.Rows.length]), oX true true 3 (.agg [vI x7.Zeros, vI x7.Ones, vI x7.Child]), oR false 1 (eL true eI) x5.Rows], 208⟩) ?_
  refine callZ (as0 := [.agg [vI x5.Grain, vI x5.Count, vI x5.One, .ref 2 0 x5.Rows.length], vI x7.Zeros, vI x7.Ones, vI x7.Child]) (ids := [2]) (by as_aux_lemma => kernel_rfl) bodyB_21 (msnap_cons (snap_agg (msnap_cons rfl (msnap_cons rfl (msnap_cons rfl (msnap_cons (snap_full rfl) msnap_nil (by rfl)) (by rfl)) (by rfl)) (by rfl))) (msnap_cons rfl (msnap_cons rfl (msnap_cons rfl msnap_nil (by rfl)) (by rfl)) (by rfl)) (by rfl)) (fun x9 q10 => g_lift_Ones_ok x5 x7.Zeros x7.Ones x7.Child x9 q10) h (fun x9 q10 h => ?_)
  refine sz 5 13 ?_
  refine reg_end rfl (wp_seq (wg [5, 6, 7, 8] [0, 1, 3, 2] ?_))
  refine reg_in ?_
  refine sgz 7 7 (S := ⟨[(5, .ptr 0 0 0), (6, .ptr 1 0 0), (7, .ref 2 0 x9.1.length), (8, vI x9.2), (46, .agg [vI x5.Grain, vI x5.Count, vI x5.One, .ref 3 0 x5.Rows.length]), (47, .ptr 1 0 0), (48, vI x7.Zeros), (49, .ptr 1 0 1), (50, vI x7.Ones), (51, .ptr 1 0 2), (52, vI x7.Child)], [oX false false 4 (.agg [vI x5.Grain, vI x5.Count, vI x5.One, .ref 3 0 x5.Rows.length]), oX true true 3 (.agg [vI x7.Zeros, vI x7.Ones, vI x7.Child]), oR true 2 eTapi_Q x9.1, oR false 1 (eL true eI) x5.Rows], 208⟩) ?_
  refine callZ (as0 := [.agg [vI x5.Grain, vI x5.Count, vI x5.One, .ref 3 0 x5.Rows.length], vI x7.Zeros, vI x7.Ones, vI x7.Child]) (ids := [3]) (by as_aux_lemma => kernel_rfl) bodyB_24 (msnap_cons (snap_agg (msnap_cons rfl (msnap_cons rfl (msnap_cons rfl (msnap_cons (snap_full rfl) msnap_nil (by rfl)) (by rfl)) (by rfl)) (by rfl))) (msnap_cons rfl (msnap_cons rfl (msnap_cons rfl msnap_nil (by rfl)) (by rfl)) (by rfl)) (by rfl)) (fun x11 q12 => g_lift_Next_ok x5 x7.Zeros x7.Ones x7.Child x11 q12) h (fun x11 q12 h => ?_)
  refine sz 6 14 ?_
  refine reg_end rfl (wp_seq (wg [5, 6, 7, 8, 9, 10] [0, 1, 2, 4, 3] ?_))
  refine rn (wp_seq (wp_seq (wg [5, 6, 7, 8, 9, 10, 11] [0, 1, 2, 3, 4] ?_)))
  refine rn ?_
  refine wbr (S := fun b13 => ⟨[(5, .ptr 0 0 0), (6, .ptr 1 0 0), (7, .ref 2 0 x9.1.length), (8, vI x9.2), (9, .ptr 3 0 0), (10, vI x11.2), (11, vI (IntKind.i64.wrap ((IntKind.i64.wrap (x5.Count - x7.Zeros)) - x7.Ones)))] ++ [(64, vI x9.2), (65, vB b13)], (s6_10 x5 x7 x9 x11), 208⟩) h (fun q14 h => ?_) (fun q14 h => ?_)
  · refine wcT (wp_seq (wg [7, 8, 10, 11] [2] ?_))
    refine reg_in (sz 3 3 ?_)
    refine rbr (S := fun b15 => ⟨[(7, .ref 0 0 x9.1.length), (8, vI x9.2), (10, vI x11.2), (11, vI (IntKind.i64.wrap ((IntKind.i64.wrap (x5.Count - x7.Zeros)) - x7.Ones)))] ++ [(66, vI x9.2), (67, vB b15), (68, vB b15)], [oR true 2 eTapi_Q x9.1], 208⟩) h (fun q16 h => ?_) (fun q16 h => ?_)
    · refine sz 5 8 ?_
      refine rwg [10, 11, 73] [] ?_
      refine rbr (S := fun b17 => ⟨[(10, vI x11.2), (11, vI (IntKind.i64.wrap ((IntKind.i64.wrap (x5.Count - x7.Zeros)) - x7.Ones))), (73, vB b17)], [], 208⟩) h (fun q18 h => ?_) (fun q18 h => ?_)
      · refine sz 3 11 ?_
        refine rbr (S := fun b19 => ⟨[(10, vI x11.2), (11, vI (IntKind.i64.wrap ((IntKind.i64.wrap (x5.Count - x7.Zeros)) - x7.Ones))), (73, vB true), (74, vI x11.2), (75, vB b19), (76, vB b19)], [], 208⟩) h (fun q20 h => ?_) (fun q20 h => ?_)
        · refine sz 9 20 ?_
          refine reg_end rfl (wg [4] [] ?_)
          refine wp_ret ?_
          cases h
          show fnOut _ _ _ _ = _
          kernel_rfl
        refine sz 3 14 ?_
        refine rwg [10, 73, 76, 79] [] ?_
        refine rbr (S := fun b21 => ⟨[(10, vI x11.2), (73, vB true), (76, vB false), (79, vB b21)], [], 208⟩) h (fun q22 h => ?_) (fun q22 h => ?_)
        · refine sz 6 20 ?_
          refine reg_end rfl (wg [4] [] ?_)
          refine wp_ret ?_
          cases h
          show fnOut _ _ _ _ = _
          kernel_rfl
        refine sz 6 20 ?_
        refine reg_end rfl (wg [4] [] ?_)
        refine wp_ret ?_
        cases h
        show fnOut _ _ _ _ = _
        kernel_rfl
      refine sz 12 20 ?_
      refine reg_end rfl (wg [4] [] ?_)
      refine wp_ret ?_
      cases h
      show fnOut _ _ _ _ = _
      kernel_rfl
    refine sz 17 20 ?_
    refine reg_end rfl (wg [4] [] ?_)
    refine wp_ret ?_
    cases h
    show fnOut _ _ _ _ = _
    kernel_rfl
  refine wcF (wp_skip (wp_seq (wp_seq (reg_in (sz 7 7 ?_)))))
  refine rwg [5, 6, 7, 9, 10, 11, 91] [0, 1, 2, 3, 4] ?_
  refine rbr (S := fun b23 => ⟨[(5, .ptr 0 0 0), (6, .ptr 1 0 0), (7, .ref 2 0 x9.1.length), (9, .ptr 3 0 0), (10, vI x11.2), (11, vI (IntKind.i64.wrap ((IntKind.i64.wrap (x5.Count - x7.Zeros)) - x7.Ones))), (91, vB b23)], (s6_10 x5 x7 x9 x11), 208⟩) h (fun q24 h => ?_) (fun q24 h => ?_)
  · refine sz 11 18 ?_
    refine reg_end rfl (wcT (wp_seq (wg [] [] ?_)))
    refine rn (wg [4] [] ?_)
    refine wp_ret ?_
    cases h
    show fnOut _ _ _ _ = _
    kernel_rfl
  refine sz 3 10 ?_
  refine rbr (S := fun b25 => ⟨[(5, .ptr 0 0 0), (6, .ptr 1 0 0), (7, .ref 2 0 x9.1.length), (9, .ptr 3 0 0), (10, vI x11.2), (11, vI (IntKind.i64.wrap ((IntKind.i64.wrap (x5.Count - x7.Zeros)) - x7.Ones))), (91, vB false), (92, vI x11.2), (93, vB b25), (94, vB b25)], (s6_10 x5 x7 x9 x11), 208⟩) h (fun q26 h => ?_) (fun q26 h => ?_)
  · refine sz 3 13 ?_
    refine rwg [5, 6, 7, 9, 11, 91, 94, 97] [0, 1, 2, 3, 4] ?_
    refine rbr (S := fun b27 => ⟨[(5, .ptr 0 0 0), (6, .ptr 1 0 0), (7, .ref 2 0 x9.1.length), (9, .ptr 3 0 0), (11, vI (IntKind.i64.wrap ((IntKind.i64.wrap (x5.Count - x7.Zeros)) - x7.Ones)))] ++ [(91, vB false), (94, vB true), (97, vB b27)], (s6_10 x5 x7 x9 x11), 208⟩) h (fun q28 h => ?_) (fun q28 h => ?_)
    · refine sz 5 18 ?_
      refine reg_end rfl (wcT (wp_seq (wg [] [] ?_)))
      refine rn (wg [4] [] ?_)
      refine wp_ret ?_
      cases h
      show fnOut _ _ _ _ = _
      kernel_rfl
    refine sz 5 18 ?_
    refine reg_end rfl ?_
    refine wbz h (fun q30 h => ?_) (fun q30 h => ?_)
    · refine wp_seq (wg [] [] ?_)
      refine rn (wg [4] [] ?_)
      refine wp_ret ?_
      cases h
      show fnOut _ _ _ _ = _
      kernel_rfl
    refine wp_skip (wp_seq (wg [5, 6, 7, 9, 11] [0, 1, 2, 3, 4] ?_))
    refine reg_in ?_
    refine callY (f := 28) (as0 := [vI 0, vI 1]) (us := [vI 0, vI 1]) (G := g_ref01_Of 0 1) (rv := fun x31 => .agg [vI x31.N, vI x31.D]) (ro := fun x31 => []) bodyB_28 (fun x31 q32 => g_ref01_Of_ok 0 1 x31 q32) h (fun x31 q32 h => ?_)
    refine callY (f := 28) (as0 := [vI 0, vI 1]) (us := [vI 0, vI 1]) (G := g_ref01_Of 0 1) (rv := fun x33 => .agg [vI x33.N, vI x33.D]) (ro := fun x33 => []) bodyB_28 (fun x33 q34 => g_ref01_Of_ok 0 1 x33 q34) h (fun x33 q34 h => ?_)
    refine sz 4 6 ?_
    refine reg_end rfl (wp_seq (sq (wp_block ?_)))
    refine wwh h (fun s35 => ⟨[(5, .ptr 0 0 0), (6, .ptr 1 0 0), (9, .ptr 2 0 0), (11, vI (IntKind.i64.wrap ((IntKind.i64.wrap (x5.Count - x7.Zeros)) - x7.Ones))), (12, .ptr 3 0 0), (13, .ptr 4 0 0), (105, .ref 5 0 x9.1.length), (106, vI (x9.1.length : Int)), (107, vI s35.1)], (s6_79 x5 x7 x11 s35 x9), 208⟩) (fun x out => out = match x with | .inl v => .go (.ret) ⟨[(4, vB false)], [], 208⟩ | .inr v => .go (.exit 0) ⟨[(6, .ptr 0 0 0), (9, .ptr 1 0 0), (11, vI (IntKind.i64.wrap ((IntKind.i64.wrap (x5.Count - x7.Zeros)) - x7.Ones))), (12, .ptr 2 0 0), (13, .ptr 3 0 0)], [oX true true 3 (.agg [vI x7.Zeros, vI x7.Ones, vI x7.Child]), oX true true 2 (.agg [vI x11.1.N, vI x11.1.D]), oX true true 2 (.agg [vI v.1, vI v.2.1]), oX true true 2 (.agg [vI v.2.2.1, vI v.2.2.2])], 208⟩) (wk_gc (live := [5, 6, 9, 11, 12, 13, 105, 106, 107]) (keep := [0, 1, 3, 5, 6, 2, 4]) (by as_aux_lemma => kernel_rfl)) ?_ ?_
    · intro s35 o h
      unfold g_law14_LiftMeans_b0 at h
      refine sq (wp_seq ?_)
      refine wbr (S := fun b36 => ⟨[(5, .ptr 0 0 0), (6, .ptr 1 0 0), (9, .ptr 2 0 0), (11, vI (IntKind.i64.wrap ((IntKind.i64.wrap (x5.Count - x7.Zeros)) - x7.Ones))), (12, .ptr 3 0 0), (13, .ptr 4 0 0), (105, .ref 5 0 x9.1.length), (106, vI (x9.1.length : Int)), (107, vI s35.1)] ++ [(108, vB b36)], (s6_79 x5 x7 x11 s35 x9), 208⟩) h (fun q37 h => ?_) (fun q37 h => ?_)
      · refine wcT (wp_skip (wp_seq (wp_block (wp_seq (reg_in (sz 1 1 ?_))))))
        refine bind_elim h (fun a38 q39 h => ?_)
        refine idxY (enc := eTapi_Q) (l := x9.1) (n := s35.1) (w := 2) (ob := 5) (ro := false) (nr := true) (fl := true) q39 ?_
        refine loadY (enc := eTapi_Q) (l := x9.1) (n := s35.1) (w := 2) (ob := 5) (c := 0) (bx := false) (ro := false) (nr := true) (fl := true) q39 ?_
        refine sz 3 6 ?_
        refine reg_end rfl (wp_seq (wp_seq (reg_in (sz 1 1 ?_))))
        refine callZ (as0 := [.agg [vI a38.N, vI a38.D]]) (ids := []) (by as_aux_lemma => kernel_rfl) bodyB_29 (msnap_cons (snap_agg (msnap_cons rfl (msnap_cons rfl msnap_nil (by rfl)) (by rfl))) msnap_nil (by rfl)) (fun x40 q41 => g_ref01_Right_ok a38 x40 q41) h (fun x40 q41 h => ?_)
        refine sgz 2 4 (S := ⟨[(5, .ptr 0 0 0), (6, .ptr 1 0 0), (9, .ptr 2 0 0), (11, vI (IntKind.i64.wrap ((IntKind.i64.wrap (x5.Count - x7.Zeros)) - x7.Ones))), (12, .ptr 3 0 0), (13, .ptr 4 0 0), (105, .ref 5 0 x9.1.length), (106, vI (x9.1.length : Int)), (107, vI s35.1)] ++ [(108, vB true), (109, vI s35.1), (110, .ptr 5 (Int.toNat s35.1) 0), (111, .agg [vI a38.N, vI a38.D]), (15, .ptr 7 0 0), (14, vI s35.1), (112, .agg [vI a38.N, vI a38.D]), (113, vB x40), (114, vB (!x40)), (115, vB (!x40))], [oX false false 4 (.agg [vI x5.Grain, vI x5.Count, vI x5.One, .ref 6 0 x5.Rows.length]), oX true true 3 (.agg [vI x7.Zeros, vI x7.Ones, vI x7.Child]), oX true true 2 (.agg [vI x11.1.N, vI x11.1.D]), oX true true 2 (.agg [vI s35.2.1, vI s35.2.2.1]), oX true true 2 (.agg [vI s35.2.2.2.1, vI s35.2.2.2.2]), oR true 2 eTapi_Q x9.1, oR false 1 (eL true eI) x5.Rows, oX true true 2 (.agg [vI a38.N, vI a38.D])], 208⟩) ?_
        refine rwg [5, 6, 9, 11, 12, 13, 105, 106, 107, 15, 14, 115] [0, 1, 2, 3, 4, 5, 7, 6] ?_
        refine rbr (S := fun b42 => ⟨[(5, .ptr 0 0 0), (6, .ptr 1 0 0), (9, .ptr 2 0 0), (11, vI (IntKind.i64.wrap ((IntKind.i64.wrap (x5.Count - x7.Zeros)) - x7.Ones))), (12, .ptr 3 0 0), (13, .ptr 4 0 0), (105, .ref 5 0 x9.1.length), (106, vI (x9.1.length : Int)), (107, vI s35.1), (15, .ptr 6 0 0), (14, vI s35.1)] ++ [(115, vB b42)], (s6_57 x5 x7 x11 s35 x9 a38), 208⟩) h (fun q43 h => ?_) (fun q43 h => ?_)
        · refine sz 24 28 ?_
          refine reg_end rfl (wcT (wp_seq (wg [] [] ?_)))
          refine rn ?_
          refine wgc [4] [] ⟨[(4, vB false)], [], 208⟩ ?_
          refine wp_ret ?_
          cases h
          exact ⟨rfl, rfl⟩
        refine sz 5 9 ?_
        refine rwg [5, 6, 9, 11, 12, 13, 105, 106, 107, 15, 14, 120] [0, 1, 2, 3, 4, 5, 6, 7] ?_
        refine rbr (S := fun b44 => ⟨[(5, .ptr 0 0 0), (6, .ptr 1 0 0), (9, .ptr 2 0 0), (11, vI (IntKind.i64.wrap ((IntKind.i64.wrap (x5.Count - x7.Zeros)) - x7.Ones))), (12, .ptr 3 0 0), (13, .ptr 4 0 0), (105, .ref 5 0 x9.1.length), (106, vI (x9.1.length : Int)), (107, vI s35.1), (15, .ptr 6 0 0), (14, vI s35.1)] ++ [(120, vB b44)], (s6_57 x5 x7 x11 s35 x9 a38), 208⟩) h (fun q45 h => ?_) (fun q45 h => ?_)
        · refine sz 19 28 ?_
          refine reg_end rfl (wcT (wp_seq (wg [] [] ?_)))
          refine rn ?_
          refine wgc [4] [] ⟨[(4, vB false)], [], 208⟩ ?_
          refine wp_ret ?_
          cases h
          exact ⟨rfl, rfl⟩
        refine sz 4 13 ?_
        refine rbr (S := fun b46 => ⟨[(5, .ptr 0 0 0), (6, .ptr 1 0 0), (9, .ptr 2 0 0), (11, vI (IntKind.i64.wrap ((IntKind.i64.wrap (x5.Count - x7.Zeros)) - x7.Ones))), (12, .ptr 3 0 0), (13, .ptr 4 0 0), (105, .ref 5 0 x9.1.length), (106, vI (x9.1.length : Int)), (107, vI s35.1), (15, .ptr 6 0 0), (14, vI s35.1)] ++ [(120, vB false), (121, .ptr 6 0 0), (122, vI a38.N), (123, vB b46), (124, vB b46)], (s6_57 x5 x7 x11 s35 x9 a38), 208⟩) h (fun q47 h => ?_) (fun q47 h => ?_)
        · refine sz 5 18 ?_
          refine rwg [5, 6, 9, 11, 12, 13, 105, 106, 107, 15, 14, 120, 124, 129] [0, 1, 2, 3, 4, 5, 6, 7] ?_
          refine rbr (S := fun b48 => ⟨[(5, .ptr 0 0 0), (6, .ptr 1 0 0), (9, .ptr 2 0 0), (11, vI (IntKind.i64.wrap ((IntKind.i64.wrap (x5.Count - x7.Zeros)) - x7.Ones))), (12, .ptr 3 0 0), (13, .ptr 4 0 0), (105, .ref 5 0 x9.1.length), (106, vI (x9.1.length : Int)), (107, vI s35.1), (15, .ptr 6 0 0), (14, vI s35.1)] ++ [(120, vB false), (124, vB true), (129, vB b48)], (s6_57 x5 x7 x11 s35 x9 a38), 208⟩) h (fun q49 h => ?_) (fun q49 h => ?_)
          · refine sz 10 28 ?_
            refine reg_end rfl (wcT (wp_seq (wg [] [] ?_)))
            refine rn ?_
            refine wgc [4] [] ⟨[(4, vB false)], [], 208⟩ ?_
            refine wp_ret ?_
            cases h
            exact ⟨rfl, rfl⟩
          refine sz 10 28 ?_
          refine reg_end rfl ?_
          refine wbz h (fun q51 h => ?_) (fun q51 h => ?_)
          · refine wp_seq (wg [] [] ?_)
            refine rn ?_
            refine wgc [4] [] ⟨[(4, vB false)], [], 208⟩ ?_
            refine wp_ret ?_
            cases h
            exact ⟨rfl, rfl⟩
          refine wp_skip (wp_seq (wg [5, 6, 9, 11, 12, 13, 105, 106, 107, 15, 14] [0, 1, 2, 3, 4, 5, 6, 7] ?_))
          refine rga hfol ?_
          refine sy 2 2 ?_
          refine callY (f := 28) (as0 := [vI s35.1, vI 1]) (us := [vI s35.1, vI 1]) (G := g_ref01_Of s35.1 1) (rv := fun x52 => .agg [vI x52.N, vI x52.D]) (ro := fun x52 => []) bodyB_28 (fun x52 q53 => g_ref01_Of_ok s35.1 1 x52 q53) h (fun x52 q53 h => ?_)
          refine callZ (as0 := [.agg [vI a38.N, vI a38.D], .agg [vI x52.N, vI x52.D]]) (ids := []) (by as_aux_lemma => kernel_rfl) bodyB_30 (msnap_cons (snap_agg (msnap_cons rfl (msnap_cons rfl msnap_nil (by rfl)) (by rfl))) (msnap_cons (snap_agg (msnap_cons rfl (msnap_cons rfl msnap_nil (by rfl)) (by rfl))) msnap_nil (by rfl)) (by rfl)) (fun x54 q55 => g_ref01_Mul_ok a38 x52 x54 q55) h (fun x54 q55 h => ?_)
          refine sy 6 10 ?_
          refine rgd ?_
          refine wp_seq (wg [5, 6, 9, 11, 12, 13, 105, 106, 107, 15, 16, 17] [0, 1, 2, 3, 4, 5, 6, 8, 7] ?_)
          refine reg_in ?_
          refine sgz 2 2 (S := ⟨[(5, .ptr 0 0 0), (6, .ptr 1 0 0), (9, .ptr 2 0 0), (11, vI (IntKind.i64.wrap ((IntKind.i64.wrap (x5.Count - x7.Zeros)) - x7.Ones))), (12, .ptr 3 0 0), (13, .ptr 4 0 0), (105, .ref 5 0 x9.1.length), (106, vI (x9.1.length : Int)), (107, vI s35.1), (15, .ptr 6 0 0), (16, .ptr 7 0 0), (17, vB x54.2)] ++ [(148, .agg [vI s35.2.2.2.1, vI s35.2.2.2.2]), (149, .agg [vI x54.1.N, vI x54.1.D])], [oX false false 4 (.agg [vI x5.Grain, vI x5.Count, vI x5.One, .ref 8 0 x5.Rows.length]), oX true true 3 (.agg [vI x7.Zeros, vI x7.Ones, vI x7.Child]), oX true true 2 (.agg [vI x11.1.N, vI x11.1.D]), oX true true 2 (.agg [vI s35.2.1, vI s35.2.2.1]), oX true true 2 (.agg [vI s35.2.2.2.1, vI s35.2.2.2.2]), oR true 2 eTapi_Q x9.1, oX true true 2 (.agg [vI a38.N, vI a38.D]), oX true true 2 (.agg [vI x54.1.N, vI x54.1.D]), oR false 1 (eL true eI) x5.Rows], 208⟩) ?_
          refine callZ (as0 := [.agg [vI s35.2.2.2.1, vI s35.2.2.2.2], .agg [vI x54.1.N, vI x54.1.D]]) (ids := []) (by as_aux_lemma => kernel_rfl) bodyB_31 (msnap_cons (snap_agg (msnap_cons rfl (msnap_cons rfl msnap_nil (by rfl)) (by rfl))) (msnap_cons (snap_agg (msnap_cons rfl (msnap_cons rfl msnap_nil (by rfl)) (by rfl))) msnap_nil (by rfl)) (by rfl)) (fun x56 q57 => g_ref01_Add_ok (Tapi_Q.mk s35.2.2.2.1 s35.2.2.2.2) x54.1 x56 q57) h (fun x56 q57 h => ?_)
          refine sz 6 9 ?_
          refine reg_end rfl (wp_seq (wg [5, 6, 9, 11, 12, 13, 105, 106, 107, 15, 17, 18, 19] [0, 1, 2, 3, 4, 5, 6, 9, 8] ?_))
          refine reg_in (sz 2 2 ?_)
          refine callZ (as0 := [.agg [vI s35.2.1, vI s35.2.2.1], .agg [vI a38.N, vI a38.D]]) (ids := []) (by as_aux_lemma => kernel_rfl) bodyB_31 (msnap_cons (snap_agg (msnap_cons rfl (msnap_cons rfl msnap_nil (by rfl)) (by rfl))) (msnap_cons (snap_agg (msnap_cons rfl (msnap_cons rfl msnap_nil (by rfl)) (by rfl))) msnap_nil (by rfl)) (by rfl)) (fun x58 q59 => g_ref01_Add_ok (Tapi_Q.mk s35.2.1 s35.2.2.1) a38 x58 q59) h (fun x58 q59 h => ?_)
          refine sz 6 9 ?_
          refine reg_end rfl (wp_seq (wp_seq ?_))
          refine wgc [5, 6, 9, 11, 12, 13, 105, 106, 107, 17, 18, 19, 20, 21] [0, 1, 2, 3, 4, 5, 7, 9, 8] ⟨[(5, .ptr 0 0 0), (6, .ptr 1 0 0), (9, .ptr 2 0 0), (11, vI (IntKind.i64.wrap ((IntKind.i64.wrap (x5.Count - x7.Zeros)) - x7.Ones))), (12, .ptr 3 0 0), (13, .ptr 4 0 0), (105, .ref 5 0 x9.1.length), (106, vI (x9.1.length : Int)), (107, vI s35.1), (17, vB x54.2), (18, .ptr 6 0 0), (19, vB x56.2), (20, .ptr 7 0 0), (21, vB x58.2)], (s6_66 x5 x7 x11 s35 x9 x56 x58), 208⟩ ?_
          refine reg_in (sz 3 3 ?_)
          refine rbr (S := fun b60 => ⟨[(5, .ptr 0 0 0), (6, .ptr 1 0 0), (9, .ptr 2 0 0), (11, vI (IntKind.i64.wrap ((IntKind.i64.wrap (x5.Count - x7.Zeros)) - x7.Ones))), (12, .ptr 3 0 0), (13, .ptr 4 0 0), (105, .ref 5 0 x9.1.length), (106, vI (x9.1.length : Int)), (107, vI s35.1), (17, vB x54.2), (18, .ptr 6 0 0), (19, vB x56.2), (20, .ptr 7 0 0), (21, vB x58.2)] ++ [(159, vB x54.2), (160, vB b60), (161, vB b60)], (s6_66 x5 x7 x11 s35 x9 x56 x58), 208⟩) h (fun q61 h => ?_) (fun q61 h => ?_)
          · refine sz 7 10 ?_
            refine reg_end rfl (wcT (wp_seq (wg [] [] ?_)))
            refine rn ?_
            refine wgc [4] [] ⟨[(4, vB false)], [], 208⟩ ?_
            refine wp_ret ?_
            cases h
            exact ⟨rfl, rfl⟩
          refine sz 4 7 ?_
          refine rwg [5, 6, 9, 11, 12, 13, 105, 106, 107, 18, 20, 21, 165] [0, 1, 2, 3, 4, 5, 6, 7, 8] ?_
          refine rbr (S := fun b62 => ⟨[(5, .ptr 0 0 0), (6, .ptr 1 0 0), (9, .ptr 2 0 0), (11, vI (IntKind.i64.wrap ((IntKind.i64.wrap (x5.Count - x7.Zeros)) - x7.Ones))), (12, .ptr 3 0 0), (13, .ptr 4 0 0), (105, .ref 5 0 x9.1.length), (106, vI (x9.1.length : Int)), (107, vI s35.1), (18, .ptr 6 0 0), (20, .ptr 7 0 0)] ++ [(21, vB x58.2), (165, vB b62)], (s6_66 x5 x7 x11 s35 x9 x56 x58), 208⟩) h (fun q63 h => ?_) (fun q63 h => ?_)
          · refine sz 3 10 ?_
            refine reg_end rfl (wcT (wp_seq (wg [] [] ?_)))
            refine rn ?_
            refine wgc [4] [] ⟨[(4, vB false)], [], 208⟩ ?_
            refine wp_ret ?_
            cases h
            exact ⟨rfl, rfl⟩
          refine sz 3 10 ?_
          refine reg_end rfl ?_
          refine wbz h (fun q65 h => ?_) (fun q65 h => ?_)
          · refine wp_seq (wg [] [] ?_)
            refine rn ?_
            refine wgc [4] [] ⟨[(4, vB false)], [], 208⟩ ?_
            refine wp_ret ?_
            cases h
            exact ⟨rfl, rfl⟩
          refine wp_skip (wg [5, 6, 9, 11, 12, 13, 105, 106, 107, 18, 20] [0, 1, 2, 3, 4, 5, 6, 7, 8] ?_)
          refine rga hfol ?_
          refine sy 4 4 ?_
          refine rgd ?_
          refine rn ?_
          cases h
          exact ⟨_, rfl, (wk_gc (live := [5, 6, 9, 11, 12, 13, 105, 106, 107]) (keep := [0, 1, 2, 3, 4, 5, 8]) (by as_aux_lemma => kernel_rfl))⟩
        refine sz 15 28 ?_
        refine reg_end rfl (wcF (wp_skip (wp_seq (wg [5, 6, 9, 11, 12, 13, 105, 106, 107, 15, 14] [0, 1, 2, 3, 4, 5, 6, 7] ?_))))
        refine rga hfol ?_
        refine sy 2 2 ?_
        refine callY (f := 28) (as0 := [vI s35.1, vI 1]) (us := [vI s35.1, vI 1]) (G := g_ref01_Of s35.1 1) (rv := fun x66 => .agg [vI x66.N, vI x66.D]) (ro := fun x66 => []) bodyB_28 (fun x66 q67 => g_ref01_Of_ok s35.1 1 x66 q67) h (fun x66 q67 h => ?_)
        refine callZ (as0 := [.agg [vI a38.N, vI a38.D], .agg [vI x66.N, vI x66.D]]) (ids := []) (by as_aux_lemma => kernel_rfl) bodyB_30 (msnap_cons (snap_agg (msnap_cons rfl (msnap_cons rfl msnap_nil (by rfl)) (by rfl))) (msnap_cons (snap_agg (msnap_cons rfl (msnap_cons rfl msnap_nil (by rfl)) (by rfl))) msnap_nil (by rfl)) (by rfl)) (fun x68 q69 => g_ref01_Mul_ok a38 x66 x68 q69) h (fun x68 q69 h => ?_)
        refine sy 6 10 ?_
        refine rgd ?_
        refine wp_seq (wg [5, 6, 9, 11, 12, 13, 105, 106, 107, 15, 16, 17] [0, 1, 2, 3, 4, 5, 6, 8, 7] ?_)
        refine reg_in ?_
        refine sgz 2 2 (S := ⟨[(5, .ptr 0 0 0), (6, .ptr 1 0 0), (9, .ptr 2 0 0), (11, vI (IntKind.i64.wrap ((IntKind.i64.wrap (x5.Count - x7.Zeros)) - x7.Ones))), (12, .ptr 3 0 0), (13, .ptr 4 0 0), (105, .ref 5 0 x9.1.length), (106, vI (x9.1.length : Int)), (107, vI s35.1), (15, .ptr 6 0 0), (16, .ptr 7 0 0), (17, vB x68.2)] ++ [(148, .agg [vI s35.2.2.2.1, vI s35.2.2.2.2]), (149, .agg [vI x68.1.N, vI x68.1.D])], [oX false false 4 (.agg [vI x5.Grain, vI x5.Count, vI x5.One, .ref 8 0 x5.Rows.length]), oX true true 3 (.agg [vI x7.Zeros, vI x7.Ones, vI x7.Child]), oX true true 2 (.agg [vI x11.1.N, vI x11.1.D]), oX true true 2 (.agg [vI s35.2.1, vI s35.2.2.1]), oX true true 2 (.agg [vI s35.2.2.2.1, vI s35.2.2.2.2]), oR true 2 eTapi_Q x9.1, oX true true 2 (.agg [vI a38.N, vI a38.D]), oX true true 2 (.agg [vI x68.1.N, vI x68.1.D]), oR false 1 (eL true eI) x5.Rows], 208⟩) ?_
        refine callZ (as0 := [.agg [vI s35.2.2.2.1, vI s35.2.2.2.2], .agg [vI x68.1.N, vI x68.1.D]]) (ids := []) (by as_aux_lemma => kernel_rfl) bodyB_31 (msnap_cons (snap_agg (msnap_cons rfl (msnap_cons rfl msnap_nil (by rfl)) (by rfl))) (msnap_cons (snap_agg (msnap_cons rfl (msnap_cons rfl msnap_nil (by rfl)) (by rfl))) msnap_nil (by rfl)) (by rfl)) (fun x70 q71 => g_ref01_Add_ok (Tapi_Q.mk s35.2.2.2.1 s35.2.2.2.2) x68.1 x70 q71) h (fun x70 q71 h => ?_)
        refine sz 6 9 ?_
        refine reg_end rfl (wp_seq (wg [5, 6, 9, 11, 12, 13, 105, 106, 107, 15, 17, 18, 19] [0, 1, 2, 3, 4, 5, 6, 9, 8] ?_))
        refine reg_in (sz 2 2 ?_)
        refine callZ (as0 := [.agg [vI s35.2.1, vI s35.2.2.1], .agg [vI a38.N, vI a38.D]]) (ids := []) (by as_aux_lemma => kernel_rfl) bodyB_31 (msnap_cons (snap_agg (msnap_cons rfl (msnap_cons rfl msnap_nil (by rfl)) (by rfl))) (msnap_cons (snap_agg (msnap_cons rfl (msnap_cons rfl msnap_nil (by rfl)) (by rfl))) msnap_nil (by rfl)) (by rfl)) (fun x72 q73 => g_ref01_Add_ok (Tapi_Q.mk s35.2.1 s35.2.2.1) a38 x72 q73) h (fun x72 q73 h => ?_)
        refine sz 6 9 ?_
        refine reg_end rfl (wp_seq (wp_seq ?_))
        refine wgc [5, 6, 9, 11, 12, 13, 105, 106, 107, 17, 18, 19, 20, 21] [0, 1, 2, 3, 4, 5, 7, 9, 8] ⟨[(5, .ptr 0 0 0), (6, .ptr 1 0 0), (9, .ptr 2 0 0), (11, vI (IntKind.i64.wrap ((IntKind.i64.wrap (x5.Count - x7.Zeros)) - x7.Ones))), (12, .ptr 3 0 0), (13, .ptr 4 0 0), (105, .ref 5 0 x9.1.length), (106, vI (x9.1.length : Int)), (107, vI s35.1), (17, vB x68.2), (18, .ptr 6 0 0), (19, vB x70.2), (20, .ptr 7 0 0), (21, vB x72.2)], (s6_74 x5 x7 x11 s35 x9 x70 x72), 208⟩ ?_
        refine reg_in (sz 3 3 ?_)
        refine rbr (S := fun b74 => ⟨[(5, .ptr 0 0 0), (6, .ptr 1 0 0), (9, .ptr 2 0 0), (11, vI (IntKind.i64.wrap ((IntKind.i64.wrap (x5.Count - x7.Zeros)) - x7.Ones))), (12, .ptr 3 0 0), (13, .ptr 4 0 0), (105, .ref 5 0 x9.1.length), (106, vI (x9.1.length : Int)), (107, vI s35.1), (17, vB x68.2), (18, .ptr 6 0 0), (19, vB x70.2), (20, .ptr 7 0 0), (21, vB x72.2)] ++ [(159, vB x68.2), (160, vB b74), (161, vB b74)], (s6_74 x5 x7 x11 s35 x9 x70 x72), 208⟩) h (fun q75 h => ?_) (fun q75 h => ?_)
        · refine sz 7 10 ?_
          refine reg_end rfl (wcT (wp_seq (wg [] [] ?_)))
          refine rn ?_
          refine wgc [4] [] ⟨[(4, vB false)], [], 208⟩ ?_
          refine wp_ret ?_
          cases h
          exact ⟨rfl, rfl⟩
        refine sz 4 7 ?_
        refine rwg [5, 6, 9, 11, 12, 13, 105, 106, 107, 18, 20, 21, 165] [0, 1, 2, 3, 4, 5, 6, 7, 8] ?_
        refine rbr (S := fun b76 => ⟨[(5, .ptr 0 0 0), (6, .ptr 1 0 0), (9, .ptr 2 0 0), (11, vI (IntKind.i64.wrap ((IntKind.i64.wrap (x5.Count - x7.Zeros)) - x7.Ones))), (12, .ptr 3 0 0), (13, .ptr 4 0 0), (105, .ref 5 0 x9.1.length), (106, vI (x9.1.length : Int)), (107, vI s35.1), (18, .ptr 6 0 0), (20, .ptr 7 0 0)] ++ [(21, vB x72.2), (165, vB b76)], (s6_74 x5 x7 x11 s35 x9 x70 x72), 208⟩) h (fun q77 h => ?_) (fun q77 h => ?_)
        · refine sz 3 10 ?_
          refine reg_end rfl (wcT (wp_seq (wg [] [] ?_)))
          refine rn ?_
          refine wgc [4] [] ⟨[(4, vB false)], [], 208⟩ ?_
          refine wp_ret ?_
          cases h
          exact ⟨rfl, rfl⟩
        refine sz 3 10 ?_
        refine reg_end rfl ?_
        refine wbz h (fun q79 h => ?_) (fun q79 h => ?_)
        · refine wp_seq (wg [] [] ?_)
          refine rn ?_
          refine wgc [4] [] ⟨[(4, vB false)], [], 208⟩ ?_
          refine wp_ret ?_
          cases h
          exact ⟨rfl, rfl⟩
        refine wp_skip (wg [5, 6, 9, 11, 12, 13, 105, 106, 107, 18, 20] [0, 1, 2, 3, 4, 5, 6, 7, 8] ?_)
        refine rga hfol ?_
        refine sy 4 4 ?_
        refine rgd ?_
        refine rn ?_
        cases h
        exact ⟨_, rfl, (wk_gc (live := [5, 6, 9, 11, 12, 13, 105, 106, 107]) (keep := [0, 1, 2, 3, 4, 5, 8]) (by as_aux_lemma => kernel_rfl))⟩
      refine wcF ?_
      refine wgc [6, 9, 11, 12, 13] [1, 2, 3, 4] ⟨[(6, .ptr 0 0 0), (9, .ptr 1 0 0), (11, vI (IntKind.i64.wrap ((IntKind.i64.wrap (x5.Count - x7.Zeros)) - x7.Ones))), (12, .ptr 2 0 0), (13, .ptr 3 0 0)], [oX true true 3 (.agg [vI x7.Zeros, vI x7.Ones, vI x7.Child]), oX true true 2 (.agg [vI x11.1.N, vI x11.1.D]), oX true true 2 (.agg [vI s35.2.1, vI s35.2.2.1]), oX true true 2 (.agg [vI s35.2.2.2.1, vI s35.2.2.2.2])], 208⟩ ?_
      refine wp_exit ?_
      cases h
      exact ⟨rfl, rfl⟩
    intro x80 h out hx
    subst hx
    rcases x80 with x81 | x82
    · dsimp only at h ⊢
      cases h
      show fnOut _ _ _ _ = _
      kernel_rfl
    · dsimp only at h ⊢
      refine wp_seq (reg_in (sz 2 2 ?_))
      refine callY (f := 28) (as0 := [vI x7.Ones, vI 1]) (us := [vI x7.Ones, vI 1]) (G := g_ref01_Of x7.Ones 1) (rv := fun x83 => .agg [vI x83.N, vI x83.D]) (ro := fun x83 => []) bodyB_28 (fun x83 q84 => g_ref01_Of_ok x7.Ones 1 x83 q84) h (fun x83 q84 h => ?_)
      refine sz 2 5 ?_
      refine reg_end rfl (wp_seq (sq ?_))
      refine wkn (S := fun b85 => ⟨[(6, .ptr 0 0 0), (9, .ptr 1 0 0), (11, vI (IntKind.i64.wrap ((IntKind.i64.wrap (x5.Count - x7.Zeros)) - x7.Ones))), (12, .ptr 2 0 0), (13, .ptr 3 0 0)] ++ [(172, .ptr 0 0 1), (173, vI x7.Ones), (174, .agg [vI x83.N, vI x83.D]), (22, .ptr 4 0 0), (175, vI (IntKind.i64.wrap ((IntKind.i64.wrap (x5.Count - x7.Zeros)) - x7.Ones))), (176, vB b85)], [oX true true 3 (.agg [vI x7.Zeros, vI x7.Ones, vI x7.Child]), oX true true 2 (.agg [vI x11.1.N, vI x11.1.D]), oX true true 2 (.agg [vI x82.1, vI x82.2.1]), oX true true 2 (.agg [vI x82.2.2.1, vI x82.2.2.2]), oX true true 2 (.agg [vI x83.N, vI x83.D])], 208⟩) q30 ?_
      refine wcF (wp_skip (wp_seq (wg [12, 13, 22] [2, 3, 4] ?_)))
      refine rga hfol ?_
      refine sy 1 1 ?_
      refine callY (f := 28) (as0 := [vI 1, vI 1]) (us := [vI 1, vI 1]) (G := g_ref01_Of 1 1) (rv := fun x86 => .agg [vI x86.N, vI x86.D]) (ro := fun x86 => []) bodyB_28 (fun x86 q87 => g_ref01_Of_ok 1 1 x86 q87) h (fun x86 q87 h => ?_)
      refine sy 2 4 ?_
      refine rbr (S := fun b88 => ⟨[(12, .ptr 0 0 0), (13, .ptr 1 0 0), (22, .ptr 2 0 0), (200, .agg [vI x82.1, vI x82.2.1]), (201, .agg [vI x86.N, vI x86.D]), (202, vB b88), (203, vB b88)], [oX true true 2 (.agg [vI x82.1, vI x82.2.1]), oX true true 2 (.agg [vI x82.2.2.1, vI x82.2.2.2]), oX true true 2 (.agg [vI x83.N, vI x83.D])], 208⟩) h (fun q89 h => ?_) (fun q89 h => ?_)
      · refine sy 5 9 ?_
        refine rgd ?_
        refine wg [4] [] ?_
        refine wp_ret ?_
        cases h
        show fnOut _ _ _ _ = _
        kernel_rfl
      refine sy 5 9 ?_
      refine rgd ?_
      refine wg [4] [] ?_
      refine wp_ret ?_
      cases h
      show fnOut _ _ _ _ = _
      kernel_rfl
  refine sz 8 18 ?_
  refine reg_end rfl (wcF (wp_skip (wp_seq (wg [5, 6, 7, 9, 11] [0, 1, 2, 3, 4] ?_))))
  refine reg_in ?_
  refine callY (f := 28) (as0 := [vI 0, vI 1]) (us := [vI 0, vI 1]) (G := g_ref01_Of 0 1) (rv := fun x90 => .agg [vI x90.N, vI x90.D]) (ro := fun x90 => []) bodyB_28 (fun x90 q91 => g_ref01_Of_ok 0 1 x90 q91) h (fun x90 q91 h => ?_)
  refine callY (f := 28) (as0 := [vI 0, vI 1]) (us := [vI 0, vI 1]) (G := g_ref01_Of 0 1) (rv := fun x92 => .agg [vI x92.N, vI x92.D]) (ro := fun x92 => []) bodyB_28 (fun x92 q93 => g_ref01_Of_ok 0 1 x92 q93) h (fun x92 q93 h => ?_)
  refine sz 4 6 ?_
  refine reg_end rfl (wp_seq (sq (wp_block ?_)))
  refine wwh h (fun s94 => ⟨[(5, .ptr 0 0 0), (6, .ptr 1 0 0), (9, .ptr 2 0 0), (11, vI (IntKind.i64.wrap ((IntKind.i64.wrap (x5.Count - x7.Zeros)) - x7.Ones))), (12, .ptr 3 0 0), (13, .ptr 4 0 0), (105, .ref 5 0 x9.1.length), (106, vI (x9.1.length : Int)), (107, vI s94.1)], (s6_160 x5 x7 x11 s94 x9), 208⟩) (fun x out => out = match x with | .inl v => .go (.ret) ⟨[(4, vB false)], [], 208⟩ | .inr v => .go (.exit 0) ⟨[(6, .ptr 0 0 0), (9, .ptr 1 0 0), (11, vI (IntKind.i64.wrap ((IntKind.i64.wrap (x5.Count - x7.Zeros)) - x7.Ones))), (12, .ptr 2 0 0), (13, .ptr 3 0 0)], [oX true true 3 (.agg [vI x7.Zeros, vI x7.Ones, vI x7.Child]), oX true true 2 (.agg [vI x11.1.N, vI x11.1.D]), oX true true 2 (.agg [vI v.1, vI v.2.1]), oX true true 2 (.agg [vI v.2.2.1, vI v.2.2.2])], 208⟩) (wk_gc (live := [5, 6, 9, 11, 12, 13, 105, 106, 107]) (keep := [0, 1, 3, 5, 6, 2, 4]) (by as_aux_lemma => kernel_rfl)) ?_ ?_
  · intro s94 o h
    unfold g_law14_LiftMeans_b1 at h
    refine sq (wp_seq ?_)
    refine wbr (S := fun b95 => ⟨[(5, .ptr 0 0 0), (6, .ptr 1 0 0), (9, .ptr 2 0 0), (11, vI (IntKind.i64.wrap ((IntKind.i64.wrap (x5.Count - x7.Zeros)) - x7.Ones))), (12, .ptr 3 0 0), (13, .ptr 4 0 0), (105, .ref 5 0 x9.1.length), (106, vI (x9.1.length : Int)), (107, vI s94.1)] ++ [(108, vB b95)], (s6_160 x5 x7 x11 s94 x9), 208⟩) h (fun q96 h => ?_) (fun q96 h => ?_)
    · refine wcT (wp_skip (wp_seq (wp_block (wp_seq (reg_in (sz 1 1 ?_))))))
      refine bind_elim h (fun a97 q98 h => ?_)
      refine idxY (enc := eTapi_Q) (l := x9.1) (n := s94.1) (w := 2) (ob := 5) (ro := false) (nr := true) (fl := true) q98 ?_
      refine loadY (enc := eTapi_Q) (l := x9.1) (n := s94.1) (w := 2) (ob := 5) (c := 0) (bx := false) (ro := false) (nr := true) (fl := true) q98 ?_
      refine sz 3 6 ?_
      refine reg_end rfl (wp_seq (wp_seq (reg_in (sz 1 1 ?_))))
      refine callZ (as0 := [.agg [vI a97.N, vI a97.D]]) (ids := []) (by as_aux_lemma => kernel_rfl) bodyB_29 (msnap_cons (snap_agg (msnap_cons rfl (msnap_cons rfl msnap_nil (by rfl)) (by rfl))) msnap_nil (by rfl)) (fun x99 q100 => g_ref01_Right_ok a97 x99 q100) h (fun x99 q100 h => ?_)
      refine sgz 2 4 (S := ⟨[(5, .ptr 0 0 0), (6, .ptr 1 0 0), (9, .ptr 2 0 0), (11, vI (IntKind.i64.wrap ((IntKind.i64.wrap (x5.Count - x7.Zeros)) - x7.Ones))), (12, .ptr 3 0 0), (13, .ptr 4 0 0), (105, .ref 5 0 x9.1.length), (106, vI (x9.1.length : Int)), (107, vI s94.1)] ++ [(108, vB true), (109, vI s94.1), (110, .ptr 5 (Int.toNat s94.1) 0), (111, .agg [vI a97.N, vI a97.D]), (15, .ptr 7 0 0), (14, vI s94.1), (112, .agg [vI a97.N, vI a97.D]), (113, vB x99), (114, vB (!x99)), (115, vB (!x99))], [oX false false 4 (.agg [vI x5.Grain, vI x5.Count, vI x5.One, .ref 6 0 x5.Rows.length]), oX true true 3 (.agg [vI x7.Zeros, vI x7.Ones, vI x7.Child]), oX true true 2 (.agg [vI x11.1.N, vI x11.1.D]), oX true true 2 (.agg [vI s94.2.1, vI s94.2.2.1]), oX true true 2 (.agg [vI s94.2.2.2.1, vI s94.2.2.2.2]), oR true 2 eTapi_Q x9.1, oR false 1 (eL true eI) x5.Rows, oX true true 2 (.agg [vI a97.N, vI a97.D])], 208⟩) ?_
      refine rwg [5, 6, 9, 11, 12, 13, 105, 106, 107, 15, 14, 115] [0, 1, 2, 3, 4, 5, 7, 6] ?_
      refine rbr (S := fun b101 => ⟨[(5, .ptr 0 0 0), (6, .ptr 1 0 0), (9, .ptr 2 0 0), (11, vI (IntKind.i64.wrap ((IntKind.i64.wrap (x5.Count - x7.Zeros)) - x7.Ones))), (12, .ptr 3 0 0), (13, .ptr 4 0 0), (105, .ref 5 0 x9.1.length), (106, vI (x9.1.length : Int)), (107, vI s94.1), (15, .ptr 6 0 0), (14, vI s94.1)] ++ [(115, vB b101)], (s6_138 x5 x7 x11 s94 x9 a97), 208⟩) h (fun q102 h => ?_) (fun q102 h => ?_)
      · refine sz 24 28 ?_
        refine reg_end rfl (wcT (wp_seq (wg [] [] ?_)))
        refine rn ?_
        refine wgc [4] [] ⟨[(4, vB false)], [], 208⟩ ?_
        refine wp_ret ?_
        cases h
        exact ⟨rfl, rfl⟩
      refine sz 5 9 ?_
      refine rwg [5, 6, 9, 11, 12, 13, 105, 106, 107, 15, 14, 120] [0, 1, 2, 3, 4, 5, 6, 7] ?_
      refine rbr (S := fun b103 => ⟨[(5, .ptr 0 0 0), (6, .ptr 1 0 0), (9, .ptr 2 0 0), (11, vI (IntKind.i64.wrap ((IntKind.i64.wrap (x5.Count - x7.Zeros)) - x7.Ones))), (12, .ptr 3 0 0), (13, .ptr 4 0 0), (105, .ref 5 0 x9.1.length), (106, vI (x9.1.length : Int)), (107, vI s94.1), (15, .ptr 6 0 0), (14, vI s94.1)] ++ [(120, vB b103)], (s6_138 x5 x7 x11 s94 x9 a97), 208⟩) h (fun q104 h => ?_) (fun q104 h => ?_)
      · refine sz 19 28 ?_
        refine reg_end rfl (wcT (wp_seq (wg [] [] ?_)))
        refine rn ?_
        refine wgc [4] [] ⟨[(4, vB false)], [], 208⟩ ?_
        refine wp_ret ?_
        cases h
        exact ⟨rfl, rfl⟩
      refine sz 4 13 ?_
      refine rbr (S := fun b105 => ⟨[(5, .ptr 0 0 0), (6, .ptr 1 0 0), (9, .ptr 2 0 0), (11, vI (IntKind.i64.wrap ((IntKind.i64.wrap (x5.Count - x7.Zeros)) - x7.Ones))), (12, .ptr 3 0 0), (13, .ptr 4 0 0), (105, .ref 5 0 x9.1.length), (106, vI (x9.1.length : Int)), (107, vI s94.1), (15, .ptr 6 0 0), (14, vI s94.1)] ++ [(120, vB false), (121, .ptr 6 0 0), (122, vI a97.N), (123, vB b105), (124, vB b105)], (s6_138 x5 x7 x11 s94 x9 a97), 208⟩) h (fun q106 h => ?_) (fun q106 h => ?_)
      · refine sz 5 18 ?_
        refine rwg [5, 6, 9, 11, 12, 13, 105, 106, 107, 15, 14, 120, 124, 129] [0, 1, 2, 3, 4, 5, 6, 7] ?_
        refine rbr (S := fun b107 => ⟨[(5, .ptr 0 0 0), (6, .ptr 1 0 0), (9, .ptr 2 0 0), (11, vI (IntKind.i64.wrap ((IntKind.i64.wrap (x5.Count - x7.Zeros)) - x7.Ones))), (12, .ptr 3 0 0), (13, .ptr 4 0 0), (105, .ref 5 0 x9.1.length), (106, vI (x9.1.length : Int)), (107, vI s94.1), (15, .ptr 6 0 0), (14, vI s94.1)] ++ [(120, vB false), (124, vB true), (129, vB b107)], (s6_138 x5 x7 x11 s94 x9 a97), 208⟩) h (fun q108 h => ?_) (fun q108 h => ?_)
        · refine sz 10 28 ?_
          refine reg_end rfl (wcT (wp_seq (wg [] [] ?_)))
          refine rn ?_
          refine wgc [4] [] ⟨[(4, vB false)], [], 208⟩ ?_
          refine wp_ret ?_
          cases h
          exact ⟨rfl, rfl⟩
        refine sz 10 28 ?_
        refine reg_end rfl ?_
        refine wbz h (fun q110 h => ?_) (fun q110 h => ?_)
        · refine wp_seq (wg [] [] ?_)
          refine rn ?_
          refine wgc [4] [] ⟨[(4, vB false)], [], 208⟩ ?_
          refine wp_ret ?_
          cases h
          exact ⟨rfl, rfl⟩
        refine wp_skip (wp_seq (wg [5, 6, 9, 11, 12, 13, 105, 106, 107, 15, 14] [0, 1, 2, 3, 4, 5, 6, 7] ?_))
        refine rga hfol ?_
        refine sy 2 2 ?_
        refine callY (f := 28) (as0 := [vI s94.1, vI 1]) (us := [vI s94.1, vI 1]) (G := g_ref01_Of s94.1 1) (rv := fun x111 => .agg [vI x111.N, vI x111.D]) (ro := fun x111 => []) bodyB_28 (fun x111 q112 => g_ref01_Of_ok s94.1 1 x111 q112) h (fun x111 q112 h => ?_)
        refine callZ (as0 := [.agg [vI a97.N, vI a97.D], .agg [vI x111.N, vI x111.D]]) (ids := []) (by as_aux_lemma => kernel_rfl) bodyB_30 (msnap_cons (snap_agg (msnap_cons rfl (msnap_cons rfl msnap_nil (by rfl)) (by rfl))) (msnap_cons (snap_agg (msnap_cons rfl (msnap_cons rfl msnap_nil (by rfl)) (by rfl))) msnap_nil (by rfl)) (by rfl)) (fun x113 q114 => g_ref01_Mul_ok a97 x111 x113 q114) h (fun x113 q114 h => ?_)
        refine sy 6 10 ?_
        refine rgd ?_
        refine wp_seq (wg [5, 6, 9, 11, 12, 13, 105, 106, 107, 15, 16, 17] [0, 1, 2, 3, 4, 5, 6, 8, 7] ?_)
        refine reg_in ?_
        refine sgz 2 2 (S := ⟨[(5, .ptr 0 0 0), (6, .ptr 1 0 0), (9, .ptr 2 0 0), (11, vI (IntKind.i64.wrap ((IntKind.i64.wrap (x5.Count - x7.Zeros)) - x7.Ones))), (12, .ptr 3 0 0), (13, .ptr 4 0 0), (105, .ref 5 0 x9.1.length), (106, vI (x9.1.length : Int)), (107, vI s94.1), (15, .ptr 6 0 0), (16, .ptr 7 0 0), (17, vB x113.2)] ++ [(148, .agg [vI s94.2.2.2.1, vI s94.2.2.2.2]), (149, .agg [vI x113.1.N, vI x113.1.D])], [oX false false 4 (.agg [vI x5.Grain, vI x5.Count, vI x5.One, .ref 8 0 x5.Rows.length]), oX true true 3 (.agg [vI x7.Zeros, vI x7.Ones, vI x7.Child]), oX true true 2 (.agg [vI x11.1.N, vI x11.1.D]), oX true true 2 (.agg [vI s94.2.1, vI s94.2.2.1]), oX true true 2 (.agg [vI s94.2.2.2.1, vI s94.2.2.2.2]), oR true 2 eTapi_Q x9.1, oX true true 2 (.agg [vI a97.N, vI a97.D]), oX true true 2 (.agg [vI x113.1.N, vI x113.1.D]), oR false 1 (eL true eI) x5.Rows], 208⟩) ?_
        refine callZ (as0 := [.agg [vI s94.2.2.2.1, vI s94.2.2.2.2], .agg [vI x113.1.N, vI x113.1.D]]) (ids := []) (by as_aux_lemma => kernel_rfl) bodyB_31 (msnap_cons (snap_agg (msnap_cons rfl (msnap_cons rfl msnap_nil (by rfl)) (by rfl))) (msnap_cons (snap_agg (msnap_cons rfl (msnap_cons rfl msnap_nil (by rfl)) (by rfl))) msnap_nil (by rfl)) (by rfl)) (fun x115 q116 => g_ref01_Add_ok (Tapi_Q.mk s94.2.2.2.1 s94.2.2.2.2) x113.1 x115 q116) h (fun x115 q116 h => ?_)
        refine sz 6 9 ?_
        refine reg_end rfl (wp_seq (wg [5, 6, 9, 11, 12, 13, 105, 106, 107, 15, 17, 18, 19] [0, 1, 2, 3, 4, 5, 6, 9, 8] ?_))
        refine reg_in (sz 2 2 ?_)
        refine callZ (as0 := [.agg [vI s94.2.1, vI s94.2.2.1], .agg [vI a97.N, vI a97.D]]) (ids := []) (by as_aux_lemma => kernel_rfl) bodyB_31 (msnap_cons (snap_agg (msnap_cons rfl (msnap_cons rfl msnap_nil (by rfl)) (by rfl))) (msnap_cons (snap_agg (msnap_cons rfl (msnap_cons rfl msnap_nil (by rfl)) (by rfl))) msnap_nil (by rfl)) (by rfl)) (fun x117 q118 => g_ref01_Add_ok (Tapi_Q.mk s94.2.1 s94.2.2.1) a97 x117 q118) h (fun x117 q118 h => ?_)
        refine sz 6 9 ?_
        refine reg_end rfl (wp_seq (wp_seq ?_))
        refine wgc [5, 6, 9, 11, 12, 13, 105, 106, 107, 17, 18, 19, 20, 21] [0, 1, 2, 3, 4, 5, 7, 9, 8] ⟨[(5, .ptr 0 0 0), (6, .ptr 1 0 0), (9, .ptr 2 0 0), (11, vI (IntKind.i64.wrap ((IntKind.i64.wrap (x5.Count - x7.Zeros)) - x7.Ones))), (12, .ptr 3 0 0), (13, .ptr 4 0 0), (105, .ref 5 0 x9.1.length), (106, vI (x9.1.length : Int)), (107, vI s94.1), (17, vB x113.2), (18, .ptr 6 0 0), (19, vB x115.2), (20, .ptr 7 0 0), (21, vB x117.2)], (s6_147 x5 x7 x11 s94 x9 x115 x117), 208⟩ ?_
        refine reg_in (sz 3 3 ?_)
        refine rbr (S := fun b119 => ⟨[(5, .ptr 0 0 0), (6, .ptr 1 0 0), (9, .ptr 2 0 0), (11, vI (IntKind.i64.wrap ((IntKind.i64.wrap (x5.Count - x7.Zeros)) - x7.Ones))), (12, .ptr 3 0 0), (13, .ptr 4 0 0), (105, .ref 5 0 x9.1.length), (106, vI (x9.1.length : Int)), (107, vI s94.1), (17, vB x113.2), (18, .ptr 6 0 0), (19, vB x115.2), (20, .ptr 7 0 0), (21, vB x117.2)] ++ [(159, vB x113.2), (160, vB b119), (161, vB b119)], (s6_147 x5 x7 x11 s94 x9 x115 x117), 208⟩) h (fun q120 h => ?_) (fun q120 h => ?_)
        · refine sz 7 10 ?_
          refine reg_end rfl (wcT (wp_seq (wg [] [] ?_)))
          refine rn ?_
          refine wgc [4] [] ⟨[(4, vB false)], [], 208⟩ ?_
          refine wp_ret ?_
          cases h
          exact ⟨rfl, rfl⟩
        refine sz 4 7 ?_
        refine rwg [5, 6, 9, 11, 12, 13, 105, 106, 107, 18, 20, 21, 165] [0, 1, 2, 3, 4, 5, 6, 7, 8] ?_
        refine rbr (S := fun b121 => ⟨[(5, .ptr 0 0 0), (6, .ptr 1 0 0), (9, .ptr 2 0 0), (11, vI (IntKind.i64.wrap ((IntKind.i64.wrap (x5.Count - x7.Zeros)) - x7.Ones))), (12, .ptr 3 0 0), (13, .ptr 4 0 0), (105, .ref 5 0 x9.1.length), (106, vI (x9.1.length : Int)), (107, vI s94.1), (18, .ptr 6 0 0), (20, .ptr 7 0 0)] ++ [(21, vB x117.2), (165, vB b121)], (s6_147 x5 x7 x11 s94 x9 x115 x117), 208⟩) h (fun q122 h => ?_) (fun q122 h => ?_)
        · refine sz 3 10 ?_
          refine reg_end rfl (wcT (wp_seq (wg [] [] ?_)))
          refine rn ?_
          refine wgc [4] [] ⟨[(4, vB false)], [], 208⟩ ?_
          refine wp_ret ?_
          cases h
          exact ⟨rfl, rfl⟩
        refine sz 3 10 ?_
        refine reg_end rfl ?_
        refine wbz h (fun q124 h => ?_) (fun q124 h => ?_)
        · refine wp_seq (wg [] [] ?_)
          refine rn ?_
          refine wgc [4] [] ⟨[(4, vB false)], [], 208⟩ ?_
          refine wp_ret ?_
          cases h
          exact ⟨rfl, rfl⟩
        refine wp_skip (wg [5, 6, 9, 11, 12, 13, 105, 106, 107, 18, 20] [0, 1, 2, 3, 4, 5, 6, 7, 8] ?_)
        refine rga hfol ?_
        refine sy 4 4 ?_
        refine rgd ?_
        refine rn ?_
        cases h
        exact ⟨_, rfl, (wk_gc (live := [5, 6, 9, 11, 12, 13, 105, 106, 107]) (keep := [0, 1, 2, 3, 4, 5, 8]) (by as_aux_lemma => kernel_rfl))⟩
      refine sz 15 28 ?_
      refine reg_end rfl (wcF (wp_skip (wp_seq (wg [5, 6, 9, 11, 12, 13, 105, 106, 107, 15, 14] [0, 1, 2, 3, 4, 5, 6, 7] ?_))))
      refine rga hfol ?_
      refine sy 2 2 ?_
      refine callY (f := 28) (as0 := [vI s94.1, vI 1]) (us := [vI s94.1, vI 1]) (G := g_ref01_Of s94.1 1) (rv := fun x125 => .agg [vI x125.N, vI x125.D]) (ro := fun x125 => []) bodyB_28 (fun x125 q126 => g_ref01_Of_ok s94.1 1 x125 q126) h (fun x125 q126 h => ?_)
      refine callZ (as0 := [.agg [vI a97.N, vI a97.D], .agg [vI x125.N, vI x125.D]]) (ids := []) (by as_aux_lemma => kernel_rfl) bodyB_30 (msnap_cons (snap_agg (msnap_cons rfl (msnap_cons rfl msnap_nil (by rfl)) (by rfl))) (msnap_cons (snap_agg (msnap_cons rfl (msnap_cons rfl msnap_nil (by rfl)) (by rfl))) msnap_nil (by rfl)) (by rfl)) (fun x127 q128 => g_ref01_Mul_ok a97 x125 x127 q128) h (fun x127 q128 h => ?_)
      refine sy 6 10 ?_
      refine rgd ?_
      refine wp_seq (wg [5, 6, 9, 11, 12, 13, 105, 106, 107, 15, 16, 17] [0, 1, 2, 3, 4, 5, 6, 8, 7] ?_)
      refine reg_in ?_
      refine sgz 2 2 (S := ⟨[(5, .ptr 0 0 0), (6, .ptr 1 0 0), (9, .ptr 2 0 0), (11, vI (IntKind.i64.wrap ((IntKind.i64.wrap (x5.Count - x7.Zeros)) - x7.Ones))), (12, .ptr 3 0 0), (13, .ptr 4 0 0), (105, .ref 5 0 x9.1.length), (106, vI (x9.1.length : Int)), (107, vI s94.1), (15, .ptr 6 0 0), (16, .ptr 7 0 0), (17, vB x127.2)] ++ [(148, .agg [vI s94.2.2.2.1, vI s94.2.2.2.2]), (149, .agg [vI x127.1.N, vI x127.1.D])], [oX false false 4 (.agg [vI x5.Grain, vI x5.Count, vI x5.One, .ref 8 0 x5.Rows.length]), oX true true 3 (.agg [vI x7.Zeros, vI x7.Ones, vI x7.Child]), oX true true 2 (.agg [vI x11.1.N, vI x11.1.D]), oX true true 2 (.agg [vI s94.2.1, vI s94.2.2.1]), oX true true 2 (.agg [vI s94.2.2.2.1, vI s94.2.2.2.2]), oR true 2 eTapi_Q x9.1, oX true true 2 (.agg [vI a97.N, vI a97.D]), oX true true 2 (.agg [vI x127.1.N, vI x127.1.D]), oR false 1 (eL true eI) x5.Rows], 208⟩) ?_
      refine callZ (as0 := [.agg [vI s94.2.2.2.1, vI s94.2.2.2.2], .agg [vI x127.1.N, vI x127.1.D]]) (ids := []) (by as_aux_lemma => kernel_rfl) bodyB_31 (msnap_cons (snap_agg (msnap_cons rfl (msnap_cons rfl msnap_nil (by rfl)) (by rfl))) (msnap_cons (snap_agg (msnap_cons rfl (msnap_cons rfl msnap_nil (by rfl)) (by rfl))) msnap_nil (by rfl)) (by rfl)) (fun x129 q130 => g_ref01_Add_ok (Tapi_Q.mk s94.2.2.2.1 s94.2.2.2.2) x127.1 x129 q130) h (fun x129 q130 h => ?_)
      refine sz 6 9 ?_
      refine reg_end rfl (wp_seq (wg [5, 6, 9, 11, 12, 13, 105, 106, 107, 15, 17, 18, 19] [0, 1, 2, 3, 4, 5, 6, 9, 8] ?_))
      refine reg_in (sz 2 2 ?_)
      refine callZ (as0 := [.agg [vI s94.2.1, vI s94.2.2.1], .agg [vI a97.N, vI a97.D]]) (ids := []) (by as_aux_lemma => kernel_rfl) bodyB_31 (msnap_cons (snap_agg (msnap_cons rfl (msnap_cons rfl msnap_nil (by rfl)) (by rfl))) (msnap_cons (snap_agg (msnap_cons rfl (msnap_cons rfl msnap_nil (by rfl)) (by rfl))) msnap_nil (by rfl)) (by rfl)) (fun x131 q132 => g_ref01_Add_ok (Tapi_Q.mk s94.2.1 s94.2.2.1) a97 x131 q132) h (fun x131 q132 h => ?_)
      refine sz 6 9 ?_
      refine reg_end rfl (wp_seq (wp_seq ?_))
      refine wgc [5, 6, 9, 11, 12, 13, 105, 106, 107, 17, 18, 19, 20, 21] [0, 1, 2, 3, 4, 5, 7, 9, 8] ⟨[(5, .ptr 0 0 0), (6, .ptr 1 0 0), (9, .ptr 2 0 0), (11, vI (IntKind.i64.wrap ((IntKind.i64.wrap (x5.Count - x7.Zeros)) - x7.Ones))), (12, .ptr 3 0 0), (13, .ptr 4 0 0), (105, .ref 5 0 x9.1.length), (106, vI (x9.1.length : Int)), (107, vI s94.1), (17, vB x127.2), (18, .ptr 6 0 0), (19, vB x129.2), (20, .ptr 7 0 0), (21, vB x131.2)], (s6_155 x5 x7 x11 s94 x9 x129 x131), 208⟩ ?_
      refine reg_in (sz 3 3 ?_)
      refine rbr (S := fun b133 => ⟨[(5, .ptr 0 0 0), (6, .ptr 1 0 0), (9, .ptr 2 0 0), (11, vI (IntKind.i64.wrap ((IntKind.i64.wrap (x5.Count - x7.Zeros)) - x7.Ones))), (12, .ptr 3 0 0), (13, .ptr 4 0 0), (105, .ref 5 0 x9.1.length), (106, vI (x9.1.length : Int)), (107, vI s94.1), (17, vB x127.2), (18, .ptr 6 0 0), (19, vB x129.2), (20, .ptr 7 0 0), (21, vB x131.2)] ++ [(159, vB x127.2), (160, vB b133), (161, vB b133)], (s6_155 x5 x7 x11 s94 x9 x129 x131), 208⟩) h (fun q134 h => ?_) (fun q134 h => ?_)
      · refine sz 7 10 ?_
        refine reg_end rfl (wcT (wp_seq (wg [] [] ?_)))
        refine rn ?_
        refine wgc [4] [] ⟨[(4, vB false)], [], 208⟩ ?_
        refine wp_ret ?_
        cases h
        exact ⟨rfl, rfl⟩
      refine sz 4 7 ?_
      refine rwg [5, 6, 9, 11, 12, 13, 105, 106, 107, 18, 20, 21, 165] [0, 1, 2, 3, 4, 5, 6, 7, 8] ?_
      refine rbr (S := fun b135 => ⟨[(5, .ptr 0 0 0), (6, .ptr 1 0 0), (9, .ptr 2 0 0), (11, vI (IntKind.i64.wrap ((IntKind.i64.wrap (x5.Count - x7.Zeros)) - x7.Ones))), (12, .ptr 3 0 0), (13, .ptr 4 0 0), (105, .ref 5 0 x9.1.length), (106, vI (x9.1.length : Int)), (107, vI s94.1), (18, .ptr 6 0 0), (20, .ptr 7 0 0)] ++ [(21, vB x131.2), (165, vB b135)], (s6_155 x5 x7 x11 s94 x9 x129 x131), 208⟩) h (fun q136 h => ?_) (fun q136 h => ?_)
      · refine sz 3 10 ?_
        refine reg_end rfl (wcT (wp_seq (wg [] [] ?_)))
        refine rn ?_
        refine wgc [4] [] ⟨[(4, vB false)], [], 208⟩ ?_
        refine wp_ret ?_
        cases h
        exact ⟨rfl, rfl⟩
      refine sz 3 10 ?_
      refine reg_end rfl ?_
      refine wbz h (fun q138 h => ?_) (fun q138 h => ?_)
      · refine wp_seq (wg [] [] ?_)
        refine rn ?_
        refine wgc [4] [] ⟨[(4, vB false)], [], 208⟩ ?_
        refine wp_ret ?_
        cases h
        exact ⟨rfl, rfl⟩
      refine wp_skip (wg [5, 6, 9, 11, 12, 13, 105, 106, 107, 18, 20] [0, 1, 2, 3, 4, 5, 6, 7, 8] ?_)
      refine rga hfol ?_
      refine sy 4 4 ?_
      refine rgd ?_
      refine rn ?_
      cases h
      exact ⟨_, rfl, (wk_gc (live := [5, 6, 9, 11, 12, 13, 105, 106, 107]) (keep := [0, 1, 2, 3, 4, 5, 8]) (by as_aux_lemma => kernel_rfl))⟩
    refine wcF ?_
    refine wgc [6, 9, 11, 12, 13] [1, 2, 3, 4] ⟨[(6, .ptr 0 0 0), (9, .ptr 1 0 0), (11, vI (IntKind.i64.wrap ((IntKind.i64.wrap (x5.Count - x7.Zeros)) - x7.Ones))), (12, .ptr 2 0 0), (13, .ptr 3 0 0)], [oX true true 3 (.agg [vI x7.Zeros, vI x7.Ones, vI x7.Child]), oX true true 2 (.agg [vI x11.1.N, vI x11.1.D]), oX true true 2 (.agg [vI s94.2.1, vI s94.2.2.1]), oX true true 2 (.agg [vI s94.2.2.2.1, vI s94.2.2.2.2])], 208⟩ ?_
    refine wp_exit ?_
    cases h
    exact ⟨rfl, rfl⟩
  intro x139 h out hx
  subst hx
  rcases x139 with x140 | x141
  · dsimp only at h ⊢
    cases h
    show fnOut _ _ _ _ = _
    kernel_rfl
  · dsimp only at h ⊢
    refine wp_seq (reg_in (sz 2 2 ?_))
    refine callY (f := 28) (as0 := [vI x7.Ones, vI 1]) (us := [vI x7.Ones, vI 1]) (G := g_ref01_Of x7.Ones 1) (rv := fun x142 => .agg [vI x142.N, vI x142.D]) (ro := fun x142 => []) bodyB_28 (fun x142 q143 => g_ref01_Of_ok x7.Ones 1 x142 q143) h (fun x142 q143 h => ?_)
    refine sz 2 5 ?_
    refine reg_end rfl (wp_seq (sq ?_))
    refine wbz h (fun q145 h => ?_) (fun q145 h => ?_)
    · refine wp_seq (wp_seq (wg [9, 11, 12, 13, 22] [1, 2, 3, 4] ?_))
      refine reg_in (sz 1 1 ?_)
      refine callZ (as0 := [.agg [vI x11.1.N, vI x11.1.D]]) (ids := []) (by as_aux_lemma => kernel_rfl) bodyB_29 (msnap_cons (snap_agg (msnap_cons rfl (msnap_cons rfl msnap_nil (by rfl)) (by rfl))) msnap_nil (by rfl)) (fun x146 q147 => g_ref01_Right_ok x11.1 x146 q147) h (fun x146 q147 h => ?_)
      refine sz 1 3 ?_
      refine reg_end rfl ?_
      refine wbr (S := fun b148 => ⟨[(9, .ptr 0 0 0), (11, vI (IntKind.i64.wrap ((IntKind.i64.wrap (x5.Count - x7.Zeros)) - x7.Ones))), (12, .ptr 1 0 0), (13, .ptr 2 0 0), (22, .ptr 3 0 0)] ++ [(177, .agg [vI x11.1.N, vI x11.1.D]), (178, vB x146), (179, vB b148)], [oX true true 2 (.agg [vI x11.1.N, vI x11.1.D]), oX true true 2 (.agg [vI x141.1, vI x141.2.1]), oX true true 2 (.agg [vI x141.2.2.1, vI x141.2.2.2]), oX true true 2 (.agg [vI x142.N, vI x142.D])], 208⟩) h (fun q149 h => ?_) (fun q149 h => ?_)
      · refine wcT (wp_seq (wg [] [] ?_))
        refine rn (wg [4] [] ?_)
        refine wp_ret ?_
        cases h
        show fnOut _ _ _ _ = _
        kernel_rfl
      refine wcF (wp_skip (wp_seq ?_))
      refine rga hfol ?_
      refine sy 2 2 ?_
      refine callY (f := 28) (as0 := [vI (IntKind.i64.wrap ((IntKind.i64.wrap (x5.Count - x7.Zeros)) - x7.Ones)), vI 1]) (us := [vI (IntKind.i64.wrap ((IntKind.i64.wrap (x5.Count - x7.Zeros)) - x7.Ones)), vI 1]) (G := g_ref01_Of (IntKind.i64.wrap ((IntKind.i64.wrap (x5.Count - x7.Zeros)) - x7.Ones)) 1) (rv := fun x150 => .agg [vI x150.N, vI x150.D]) (ro := fun x150 => []) bodyB_28 (fun x150 q151 => g_ref01_Of_ok (IntKind.i64.wrap ((IntKind.i64.wrap (x5.Count - x7.Zeros)) - x7.Ones)) 1 x150 q151) h (fun x150 q151 h => ?_)
      refine callZ (as0 := [.agg [vI x11.1.N, vI x11.1.D], .agg [vI x150.N, vI x150.D]]) (ids := []) (by as_aux_lemma => kernel_rfl) bodyB_30 (msnap_cons (snap_agg (msnap_cons rfl (msnap_cons rfl msnap_nil (by rfl)) (by rfl))) (msnap_cons (snap_agg (msnap_cons rfl (msnap_cons rfl msnap_nil (by rfl)) (by rfl))) msnap_nil (by rfl)) (by rfl)) (fun x152 q153 => g_ref01_Mul_ok x11.1 x150 x152 q153) h (fun x152 q153 h => ?_)
      refine sy 6 10 ?_
      refine rgd ?_
      refine wp_seq (wg [12, 13, 22, 23, 24] [1, 2, 3, 4] ?_)
      refine reg_in (sz 2 2 ?_)
      refine callR (as0 := [.agg [vI x142.N, vI x142.D], .agg [vI x152.1.N, vI x152.1.D]]) (ids := []) (S := fun x154 => ⟨[(12, .ptr 0 0 0), (13, .ptr 1 0 0), (22, .ptr 2 0 0), (23, .ptr 3 0 0), (24, vB x152.2), (188, .agg [vI x142.N, vI x142.D]), (189, .agg [vI x152.1.N, vI x152.1.D]), (190, .tup [.agg [vI x154.1.N, vI x154.1.D], vB x154.2])], [oX true true 2 (.agg [vI x141.1, vI x141.2.1]), oX true true 2 (.agg [vI x141.2.2.1, vI x141.2.2.2]), oX true true 2 (.agg [vI x142.N, vI x142.D]), oX true true 2 (.agg [vI x152.1.N, vI x152.1.D])], 208⟩) (by as_aux_lemma => kernel_rfl) bodyB_31 (msnap_cons (snap_agg (msnap_cons rfl (msnap_cons rfl msnap_nil (by rfl)) (by rfl))) (msnap_cons (snap_agg (msnap_cons rfl (msnap_cons rfl msnap_nil (by rfl)) (by rfl))) msnap_nil (by rfl)) (by rfl)) (fun x154 q155 => g_ref01_Add_ok x142 x152.1 x154 q155) (fun _ => by as_aux_lemma => kernel_rfl) h (fun x154 q155 h => ?_)
      refine sz 6 9 ?_
      refine reg_end rfl (wp_seq (wp_seq (wg [12, 13, 22, 24, 25, 26] [0, 1, 2, 4] ?_)))
      refine reg_in (sz 3 3 ?_)
      refine rbr (S := fun b156 => ⟨[(12, .ptr 0 0 0), (13, .ptr 1 0 0), (22, .ptr 2 0 0), (24, vB x152.2), (25, .ptr 3 0 0), (26, vB x154.2)] ++ [(193, vB x152.2), (194, vB b156), (195, vB b156)], [oX true true 2 (.agg [vI x141.1, vI x141.2.1]), oX true true 2 (.agg [vI x141.2.2.1, vI x141.2.2.2]), oX true true 2 (.agg [vI x142.N, vI x142.D]), oX true true 2 (.agg [vI x154.1.N, vI x154.1.D])], 208⟩) h (fun q157 h => ?_) (fun q157 h => ?_)
      · refine sz 3 6 ?_
        refine reg_end rfl (wcT (wp_seq (wg [] [] ?_)))
        refine rn (wg [4] [] ?_)
        refine wp_ret ?_
        cases h
        show fnOut _ _ _ _ = _
        kernel_rfl
      refine sz 3 6 ?_
      refine reg_end rfl ?_
      refine wbz h (fun q159 h => ?_) (fun q159 h => ?_)
      · refine wp_seq (wg [] [] ?_)
        refine rn (wg [4] [] ?_)
        refine wp_ret ?_
        cases h
        show fnOut _ _ _ _ = _
        kernel_rfl
      refine wp_skip (wg [12, 13, 22, 25] [0, 1, 2, 3] ?_)
      refine rn (wp_seq ?_)
      refine rga hfol ?_
      refine sy 1 1 ?_
      refine callY (f := 28) (as0 := [vI 1, vI 1]) (us := [vI 1, vI 1]) (G := g_ref01_Of 1 1) (rv := fun x160 => .agg [vI x160.N, vI x160.D]) (ro := fun x160 => []) bodyB_28 (fun x160 q161 => g_ref01_Of_ok 1 1 x160 q161) h (fun x160 q161 h => ?_)
      refine sy 2 4 ?_
      refine rbr (S := fun b162 => ⟨[(12, .ptr 0 0 0), (13, .ptr 1 0 0), (22, .ptr 2 0 0), (25, .ptr 3 0 0), (199, .agg [vI x154.1.N, vI x154.1.D]), (200, .agg [vI x141.1, vI x141.2.1]), (201, .agg [vI x160.N, vI x160.D]), (202, vB b162), (203, vB b162)], [oX true true 2 (.agg [vI x141.1, vI x141.2.1]), oX true true 2 (.agg [vI x141.2.2.1, vI x141.2.2.2]), oX true true 2 (.agg [vI x154.1.N, vI x154.1.D]), oX true true 2 (.agg [vI x154.1.N, vI x154.1.D])], 208⟩) h (fun q163 h => ?_) (fun q163 h => ?_)
      · refine sy 5 9 ?_
        refine rgd ?_
        refine wg [4] [] ?_
        refine wp_ret ?_
        cases h
        show fnOut _ _ _ _ = _
        kernel_rfl
      refine sy 5 9 ?_
      refine rgd ?_
      refine wg [4] [] ?_
      refine wp_ret ?_
      cases h
      show fnOut _ _ _ _ = _
      kernel_rfl
    refine wp_skip (wp_seq (wg [12, 13, 22] [2, 3, 4] ?_))
    refine rga hfol ?_
    refine sy 1 1 ?_
    refine callY (f := 28) (as0 := [vI 1, vI 1]) (us := [vI 1, vI 1]) (G := g_ref01_Of 1 1) (rv := fun x164 => .agg [vI x164.N, vI x164.D]) (ro := fun x164 => []) bodyB_28 (fun x164 q165 => g_ref01_Of_ok 1 1 x164 q165) h (fun x164 q165 h => ?_)
    refine sy 2 4 ?_
    refine rbr (S := fun b166 => ⟨[(12, .ptr 0 0 0), (13, .ptr 1 0 0), (22, .ptr 2 0 0), (200, .agg [vI x141.1, vI x141.2.1]), (201, .agg [vI x164.N, vI x164.D]), (202, vB b166), (203, vB b166)], [oX true true 2 (.agg [vI x141.1, vI x141.2.1]), oX true true 2 (.agg [vI x141.2.2.1, vI x141.2.2.2]), oX true true 2 (.agg [vI x142.N, vI x142.D])], 208⟩) h (fun q167 h => ?_) (fun q167 h => ?_)
    · refine sy 5 9 ?_
      refine rgd ?_
      refine wg [4] [] ?_
      refine wp_ret ?_
      cases h
      show fnOut _ _ _ _ = _
      kernel_rfl
    refine sy 5 9 ?_
    refine rgd ?_
    refine wg [4] [] ?_
    refine wp_ret ?_
    cases h
    show fnOut _ _ _ _ = _
    kernel_rfl
end Go.Ab
namespace Go.Ab
open Go
theorem one5 {cs : List AV} (h : WT (.int .u8) cs) : ∃ a : Int, cs = [(AV.int .u8) a] ∧ (Lit.int .u8 a).wf = true := by
  obtain ⟨n, rfl, w⟩ := h
  exact ⟨n, rfl, w⟩
theorem el5 {x : AV} (h : WT (.int .u8) x.flat ∧ (if false then x = .agg x.flat else x.cell = true)) : ∃ a : Int, x = (AV.int .u8) a ∧ (Lit.int .u8 a).wf = true := by
  obtain ⟨a, h1, h2⟩ := one5 h.1
  rw [flat_cell h.2] at h1
  exact ⟨a, (List.cons.inj h1).1, h2⟩
theorem one22 {cs : List AV} (h : WT (.slice true false 1 (.int .u8)) cs) : ∃ a : (List Int), cs = [(eL true (AV.int .u8)) a] ∧ (a.length ≤ maxLen ∧ ∀ y0 ∈ a, (Lit.int .u8 y0).wf = true) := by
  obtain ⟨xs, rfl, hl, hx⟩ := h
  obtain ⟨l, rfl, hr⟩ := lists_of (enc := (AV.int .u8)) (R := fun a => (Lit.int .u8 a).wf = true) (fun x hm => el5 (hx x hm))
  exact ⟨l, rfl, by simpa using hl, hr⟩
def okTharuspexref14_Draft (x : Tharuspexref14_Draft) : Prop := ((Lit.int .u8 x.Grain).wf = true) ∧ ((Lit.int .u8 x.Count).wf = true) ∧ ((Lit.int .u8 x.One).wf = true) ∧ ((Lit.int .u8 x.Card).wf = true) ∧ ((x.L.length ≤ maxLen ∧ ∀ y0 ∈ x.L, (Lit.int .u8 y0).wf = true))
theorem rdTharuspexref14_Draft {cs : List AV} (h : WT (.cat (.int .u8) (.cat (.int .u8) (.cat (.int .u8) (.cat (.int .u8) (.cat (.slice true false 1 (.int .u8)) .unit))))) cs) : ∃ x : Tharuspexref14_Draft, AV.agg cs = eTharuspexref14_Draft x ∧ okTharuspexref14_Draft x := by
  obtain ⟨_, _, rfl, a0, r0⟩ := h
  obtain ⟨v0, e0, w0⟩ := one5 a0
  cases e0
  obtain ⟨_, _, rfl, a1, r1⟩ := r0
  obtain ⟨v1, e1, w1⟩ := one5 a1
  cases e1
  obtain ⟨_, _, rfl, a2, r2⟩ := r1
  obtain ⟨v2, e2, w2⟩ := one5 a2
  cases e2
  obtain ⟨_, _, rfl, a3, r3⟩ := r2
  obtain ⟨v3, e3, w3⟩ := one5 a3
  cases e3
  obtain ⟨_, _, rfl, a4, r4⟩ := r3
  obtain ⟨v4, e4, w4⟩ := one22 a4
  cases e4
  cases r4
  exact ⟨⟨v0, v1, v2, v3, v4⟩, rfl, ⟨w0, w1, w2, w3, w4⟩⟩
theorem one3 {cs : List AV} (h : WT (.int .i64) cs) : ∃ a : Int, cs = [eI a] ∧ (Lit.int .i64 a).wf = true := by
  obtain ⟨n, rfl, w⟩ := h
  exact ⟨n, rfl, w⟩
def okTharuspexlaw14_Known (x : Tharuspexlaw14_Known) : Prop := ((Lit.int .i64 x.Zeros).wf = true) ∧ ((Lit.int .i64 x.Ones).wf = true) ∧ ((Lit.int .i64 x.Child).wf = true)
theorem rdTharuspexlaw14_Known {cs : List AV} (h : WT (.cat (.int .i64) (.cat (.int .i64) (.cat (.int .i64) .unit))) cs) : ∃ x : Tharuspexlaw14_Known, AV.agg cs = eTharuspexlaw14_Known x ∧ okTharuspexlaw14_Known x := by
  obtain ⟨_, _, rfl, a0, r0⟩ := h
  obtain ⟨v0, e0, w0⟩ := one3 a0
  cases e0
  obtain ⟨_, _, rfl, a1, r1⟩ := r0
  obtain ⟨v1, e1, w1⟩ := one3 a1
  cases e1
  obtain ⟨_, _, rfl, a2, r2⟩ := r1
  obtain ⟨v2, e2, w2⟩ := one3 a2
  cases e2
  cases r2
  exact ⟨⟨v0, v1, v2⟩, rfl, ⟨w0, w1, w2⟩⟩
end Go.Ab
namespace Go.Ab
open Go
theorem whileN_spec {σ ρ : Type} {body : σ → Option (Step σ ρ)} (I : σ → Prop) (m : σ → Nat) (Q : ρ → Prop)
    (step : ∀ s, I s → (∃ s', body s = some (.next s') ∧ I s' ∧ m s' < m s) ∨ (∃ r, body s = some (.done r) ∧ Q r)) :
    ∀ (n : Nat) (s : σ), I s → m s < n → ∃ r, whileN n body s = some r ∧ Q r
  | 0, s, _, h => by omega
  | n + 1, s, hI, h => by
    unfold whileN
    rcases step s hI with ⟨s', h1, h2, h3⟩ | ⟨r, h1, h2⟩
    · rw [h1]
      exact whileN_spec I m Q step n s' h2 (by omega)
    · rw [h1]
      exact ⟨r, rfl, h2⟩
theorem whileN_eq {σ ρ : Type} {body : σ → Option (Step σ ρ)} (I : σ → Prop) (m : σ → Nat) (r : ρ)
    (step : ∀ s, I s → (∃ s', body s = some (.next s') ∧ I s' ∧ m s' < m s) ∨ body s = some (.done r)) (s : σ) (hI : I s) (hm : m s < 1152921504606846976) : whileN fuel body s = some r := by
  obtain ⟨r', h1, h2⟩ := whileN_spec I m (fun x => x = r) (fun s hs => (step s hs).imp id fun h => ⟨r, h, rfl⟩) fuel s hI hm
  rw [h1, h2]
theorem whileN_ex {σ ρ : Type} {body : σ → Option (Step σ ρ)} (I : σ → Prop) (m : σ → Nat) (Q : ρ → Prop)
    (step : ∀ s, I s → (∃ s', body s = some (.next s') ∧ I s' ∧ m s' < m s) ∨ (∃ r, body s = some (.done r) ∧ Q r)) (s : σ) (hI : I s) (hm : m s < 1152921504606846976) : ∃ r, whileN fuel body s = some r ∧ Q r :=
  whileN_spec I m Q step fuel s hI hm
theorem whileN_count {σ ρ : Type} {body : σ → Option (Step σ ρ)} (f : Nat → σ) (n : Nat) (r : ρ) (step : ∀ k, k < n → body (f k) = some (.next (f (k + 1)))) (done : body (f n) = some (.done r)) (hn : n < 1152921504606846976) :
    whileN fuel body (f 0) = some r := by
  have key : ∀ (j N k : Nat), k + j = n → j < N → whileN N body (f k) = some r := by
    intro j
    induction j with
    | zero =>
      intro N k hk hN
      obtain ⟨N, rfl⟩ : ∃ M, N = M + 1 := ⟨N - 1, by omega⟩
      have : k = n := by omega
      subst this
      simp [whileN, done]
    | succ j ih =>
      intro N k hk hN
      obtain ⟨N, rfl⟩ : ∃ M, N = M + 1 := ⟨N - 1, by omega⟩
      simp only [whileN, step k (by omega)]
      exact ih N (k + 1) (by omega) (by omega)
  exact key n fuel 0 (by omega) hn
theorem whileN_run {σ ρ : Type} {body : σ → Option (Step σ ρ)} {s0 : σ} (f : Nat → σ) (n : Nat) (r : ρ) (h0 : f 0 = s0) (step : ∀ k, k < n → body (f k) = some (.next (f (k + 1)))) (done : body (f n) = some (.done r)) (hn : n < 1152921504606846976) :
    whileN fuel body s0 = some r := by rw [← h0]; exact whileN_count f n r step done hn
theorem w64 {n : Int} (h : -9223372036854775808 ≤ n ∧ n ≤ 9223372036854775807) : IntKind.i64.wrap n = n := by rw [IntKind.wrap_i64]; omega
theorem lkI_at {α : Type} {l : List α} {n : Int} (h : 0 ≤ n) (h2 : n < l.length) : lkI l n = some (l[n.toNat]'(by omega)) := by
  unfold lkI
  rw [if_neg (by omega), List.getElem?_eq_getElem]
theorem lkI_nat {α : Type} {l : List α} {k : Nat} (h : k < l.length) : lkI l (k : Int) = some l[k] := by
  unfold lkI
  rw [if_neg (by omega), Int.toNat_natCast, List.getElem?_eq_getElem h]
theorem tdiv_pos {a b : Int} (h : 0 ≤ a) : Int.tdiv a b = a / b := Int.tdiv_eq_ediv_of_nonneg h
theorem tmod_pos {a b : Int} (h : 0 ≤ a) : Int.tmod a b = a % b := Int.tmod_eq_emod_of_nonneg h
def dgs (n : Nat) : List Int := if h : n = 0 then [] else ((n % 10000 : Nat) : Int) :: dgs (n / 10000)
termination_by n
decreasing_by omega
def dval : List Int → Nat
  | [] => 0
  | x :: l => x.toNat + 10000 * dval l
def isdg (l : List Int) : Prop := ∀ x ∈ l, 0 ≤ x ∧ x < 10000
theorem dgs_zero : dgs 0 = [] := by rw [dgs]; simp
theorem dgs_pos {n : Nat} (h : n ≠ 0) : dgs n = ((n % 10000 : Nat) : Int) :: dgs (n / 10000) := by rw [dgs]; simp [h]
theorem dval_dgs (n : Nat) : dval (dgs n) = n := by
  induction n using Nat.strongRecOn with
  | _ n ih =>
    by_cases h : n = 0
    · subst h; rw [dgs_zero]; rfl
    · rw [dgs_pos h]
      simp only [dval]
      rw [ih (n / 10000) (by omega)]
      omega
theorem isdg_dgs (n : Nat) : isdg (dgs n) := by
  induction n using Nat.strongRecOn with
  | _ n ih =>
    by_cases h : n = 0
    · subst h; rw [dgs_zero]; intro x hx; cases hx
    · rw [dgs_pos h]
      intro x hx
      rcases List.mem_cons.1 hx with rfl | hx
      · omega
      · exact ih (n / 10000) (by omega) x hx
theorem dgs_eq_nil {n : Nat} : dgs n = [] ↔ n = 0 := by
  constructor
  · intro h
    have := dval_dgs n
    rw [h] at this; exact this.symm
  · intro h; subst h; exact dgs_zero
theorem isdg_cons {x : Int} {l : List Int} : isdg (x :: l) ↔ (0 ≤ x ∧ x < 10000) ∧ isdg l := by simp [isdg]
theorem isdg_nil : isdg [] := fun x h => by cases h
theorem isdg_append {a b : List Int} : isdg (a ++ b) ↔ isdg a ∧ isdg b := by
  constructor
  · exact fun h => ⟨fun x hx => h x (List.mem_append_left _ hx), fun x hx => h x (List.mem_append_right _ hx)⟩
  · rintro ⟨h1, h2⟩ x hx
    rcases List.mem_append.1 hx with h | h
    · exact h1 x h
    · exact h2 x h
theorem dval_append (a b : List Int) : dval (a ++ b) = dval a + 10000 ^ a.length * dval b := by
  induction a with
  | nil => simp [dval]
  | cons x a ih =>
    simp only [List.cons_append, dval, ih, List.length_cons, Nat.pow_succ]
    rw [Nat.mul_add, Nat.add_assoc, ← Nat.mul_assoc, Nat.mul_comm 10000 (10000 ^ a.length)]
theorem dval_lt {l : List Int} (h : isdg l) : dval l < 10000 ^ l.length := by
  induction l with
  | nil => simp [dval]
  | cons x l ih =>
    rw [isdg_cons] at h
    have := ih h.2
    simp only [dval, List.length_cons, Nat.pow_succ]
    omega
def nolz (l : List Int) : Prop := l.getLast? ≠ some 0
theorem dgs_of {l : List Int} (h : isdg l) (hn : nolz l) : dgs (dval l) = l := by
  induction l with
  | nil => exact dgs_zero
  | cons x l ih =>
    rw [isdg_cons] at h
    have hn' : nolz l := by
      unfold nolz at *
      cases l with
      | nil => simp
      | cons y l => simpa [List.getLast?_cons_cons] using hn
    have hne : dval (x :: l) ≠ 0 := by
      simp only [dval]
      intro h0
      have hx : x = 0 := by omega
      have hl : dval l = 0 := by omega
      have := ih h.2 hn'
      rw [hl, dgs_zero] at this
      subst this
      subst hx
      simp [nolz] at hn
    rw [dgs_pos hne]
    simp only [dval] at *
    rw [show (x.toNat + 10000 * dval l) / 10000 = dval l by omega, ih h.2 hn']
    congr 1
    omega
theorem nolz_dgs (n : Nat) : nolz (dgs n) := by
  induction n using Nat.strongRecOn with
  | _ n ih =>
    by_cases h : n = 0
    · subst h; rw [dgs_zero]; simp [nolz]
    · rw [dgs_pos h]
      have := ih (n / 10000) (by omega)
      unfold nolz at *
      cases hd : dgs (n / 10000) with
      | nil =>
        rw [dgs_eq_nil] at hd
        intro h1
        simp only [List.getLast?_singleton, Option.some.injEq] at h1
        omega
      | cons y l =>
        rw [hd] at this
        simpa [List.getLast?_cons_cons] using this
theorem dgs_length_le {n K : Nat} (h : n < 10000 ^ K) : (dgs n).length ≤ K := by
  induction K generalizing n with
  | zero => simp at h; subst h; rw [dgs_zero]; simp
  | succ K ih =>
    by_cases h0 : n = 0
    · subst h0; rw [dgs_zero]; simp
    · rw [dgs_pos h0]
      simp only [List.length_cons]
      have := ih (n := n / 10000) (by rw [Nat.pow_succ] at h; omega)
      omega
theorem lt_dgs (n : Nat) : n < 10000 ^ (dgs n).length := by
  have := dval_lt (isdg_dgs n)
  rwa [dval_dgs] at this
theorem dgs_le {n : Nat} (h : n ≠ 0) : 10000 ^ ((dgs n).length - 1) ≤ n := by
  induction n using Nat.strongRecOn with
  | _ n ih =>
    rw [dgs_pos h]
    simp only [List.length_cons, Nat.add_sub_cancel]
    by_cases h0 : n / 10000 = 0
    · rw [h0, dgs_zero]; simp; omega
    · have h1 := ih (n / 10000) (by omega) h0
      have : (dgs (n / 10000)).length ≠ 0 := by rw [Ne, List.length_eq_zero_iff, dgs_eq_nil]; exact h0
      obtain ⟨k, hk⟩ : ∃ k, (dgs (n / 10000)).length = k + 1 := ⟨(dgs (n / 10000)).length - 1, by omega⟩
      rw [hk] at h1 ⊢
      simp only [Nat.add_sub_cancel] at h1
      rw [Nat.pow_succ]
      omega
theorem isdg_get {l : List Int} (h : isdg l) {k : Nat} (hk : k < l.length) : 0 ≤ l[k] ∧ l[k] < 10000 := h _ (List.getElem_mem hk)
theorem dval_take_succ {l : List Int} {k : Nat} (hk : k < l.length) : dval (l.take (k + 1)) = dval (l.take k) + 10000 ^ k * l[k].toNat := by
  rw [List.take_succ_eq_append_getElem hk, dval_append]
  simp [dval, Nat.min_eq_left (Nat.le_of_lt hk)]
theorem dval_drop {l : List Int} {k : Nat} (hk : k < l.length) : dval (l.drop k) = l[k].toNat + 10000 * dval (l.drop (k + 1)) := by
  rw [List.drop_eq_getElem_cons hk]; rfl
theorem isdg_take {l : List Int} (h : isdg l) (k : Nat) : isdg (l.take k) := fun x hx => h x (List.mem_of_mem_take hx)
theorem isdg_drop {l : List Int} (h : isdg l) (k : Nat) : isdg (l.drop k) := fun x hx => h x (List.mem_of_mem_drop hx)
end Go.Ab
