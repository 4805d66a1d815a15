/- What functions compute. No conditions. -/
import Derived.Test.YtiadakgfblkelaaProg
import Derived.Test.YtiadakgfblkelaaW8
import Derived.KernelRfl
import Derived.Test.YtiadakgfblkelaaW10
import Derived.Test.YtiadakgfblkelaaW9
set_option linter.all false
namespace Go.Ab
open Go Go.Proofs
set_option maxRecDepth 100000
set_option maxHeartbeats 4000000
noncomputable abbrev s38_2 (p0 : Tapi_Hidden) : List AObj := [oX true false 4 (.agg [vI p0.Grain, eL true eI p0.First, eL false (eL true eI) p0.Step, eL false (eL true eI) p0.Show]), oX true false 2 (.agg [vI 0, .nils])]
noncomputable abbrev s38_26 (p0 : Tapi_Hidden) (a7 : (List Int)) (p1 : Int) (s15 : (Int × (List Tapi_Node))) : List (Nat × AV) := [(2, .ptr 0 0 0), (4, .ptr 1 0 0), (7, vI (p0.First.length : Int)), (8, vI (a7.length : Int)), (9, .ptr 2 0 0), (44, vI p1), (45, vI s15.1), (11, .ptr 3 0 0), (12, .ptr 4 0 0)]
theorem g_hidden_Net_ok (p0 : Tapi_Hidden) (p1 : Int) (x : (Tapi_Net × Int)) (h : g_hidden_Net p0 p1 = some x) : CallOk Try.prog 38 [.agg [vI p0.Grain, eL true eI p0.First, eL false (eL true eI) p0.Step, eL false (eL true eI) p0.Show], vI p1] (.ret (.tup [.agg [vI x.1.Grain, .ref 0 0 x.1.Nodes.length], vI x.2]) [oR false 3 eTapi_Node x.1.Nodes]) := by
 refine fn_ok [] Try.func38 rfl (by decide +kernel) rfl ?_
 unfold g_hidden_Net at h
 refine wp_eqB (base' := 0) (st' := ⟨[(0, .agg [vI p0.Grain, eL true eI p0.First, eL false (eL true eI) p0.Step, eL false (eL true eI) p0.Show]), (1, vI p1)], [], 82⟩) kr kr ?_
 refine wp_seq (reg_in ?_)
 refine sgL false [] [] false gE ?_
 refine sgL false [] [] false gE ?_
 refine sz 1 3 (reg_end rfl (wp_seq (wp_seq (reg_in (sz 1 1 ?_)))))
 refine callW bodyB_13 (g_hidden_Check_ok p0) h (fun x1 _ h => ?_)
 refine sz 1 3 (reg_end rfl (sq ?_))
 refine wbz h (fun q4 h => ?_) (fun q4 h => ?_)
 ·refine wp_seq ?_
  refine wgc [4, 6] [1] ⟨[(4, .ptr 0 0 0), (6, vI x1)], [oX true false 2 (.agg [vI 0, .nils])], 82⟩ ?_
  refine rn (wg [4, 5] [0] ?_)
  refine wp_wk (wk_nilO 0 0 1 3 true false gE) ?_
  cases h
  exact wp_ret (show fnOut _ _ _ _ = _ from by kernel_rfl)
 refine wp_skip (wp_seq (wp_seq ?_))
 refine wgc [1, 2, 4] [0, 1] ⟨[(1, vI p1), (2, .ptr 0 0 0), (4, .ptr 1 0 0)], (s38_2 p0), 82⟩ ?_
 refine rn ?_
 refine wb [20] h (fun q6 h => ?_) (fun q6 h => ?_)
 ·refine wcT (sq (wg [4, 5] [1] ?_))
  refine wp_wk (wk_nilO 0 0 1 3 true false gE) ?_
  cases h
  exact wp_ret (show fnOut _ _ _ _ = _ from by kernel_rfl)
 refine wcF (wp_skip (wp_seq (rga hfol (sy 2 2 ?_))))
 refine lenL (enc := eI) (l := p0.First) (fl := true) kr gE ?_
 refine sy 2 5 ?_
 refine bind_elim h (fun a7 q8 h => ?_)
 refine idxL' (enc := (eL true eI)) (l := p0.Show) (n := 0) (fl := false) (w := 1) (a := a7) kr rfl gE q8 ?_
 refine sy 1 7 ?_
 refine lenL (enc := eI) (l := a7) (fl := true) kr gE ?_
 refine sy 2 10 (rgd (wp_seq (wp_seq ?_)))
 refine wgc [1, 2, 4, 7, 8] [0, 1] ⟨[(1, vI p1), (2, .ptr 0 0 0), (4, .ptr 1 0 0), (7, vI (p0.First.length : Int)), (8, vI (a7.length : Int))], (s38_2 p0), 82⟩ ?_
 refine reg_in (sz 3 3 ?_)
 refine rb [31, 32] h (fun q10 h => ?_) (fun q10 h => ?_)
 ·refine sz 7 10 (reg_end rfl (wcT (wp_seq (wg [4] [1] (rn ?_)))))
  refine wgc [4, 5] [0] ⟨[(4, .ptr 0 0 0), (5, vI 6)], [oX true false 2 (.agg [vI 0, .nils])], 82⟩ ?_
  refine wp_wk (wk_nilO 0 0 1 3 true false gE) ?_
  cases h
  exact wp_ret (show fnOut _ _ _ _ = _ from by kernel_rfl)
 refine sz 4 7 ?_
 refine callW bodyB_80 (g_weigh_Whole_ok (IntKind.i64.wrap ((p0.First.length : Int) * (a7.length : Int))) p1) h (fun x11 _ h => ?_)
 refine sz 2 10 (reg_end rfl ?_)
 refine wbz h (fun q14 h => ?_) (fun q14 h => ?_)
 ·refine wp_seq (wg [4] [1] (rn ?_))
  refine wgc [4, 5] [0] ⟨[(4, .ptr 0 0 0), (5, vI 6)], [oX true false 2 (.agg [vI 0, .nils])], 82⟩ ?_
  refine wp_wk (wk_nilO 0 0 1 3 true false gE) ?_
  cases h
  exact wp_ret (show fnOut _ _ _ _ = _ from by kernel_rfl)
 refine wp_skip (wp_seq (wg [1, 2, 4, 7, 8] [0, 1] (reg_in (sz 3 3 ?_))))
 refine sgL false [] [] false gE ?_
 refine sz 1 5 (reg_end rfl (wp_seq (sq (wp_block ?_))))
 refine wwh h (fun s15 => ⟨[(2, .ptr 0 0 0), (4, .ptr 1 0 0), (7, vI (p0.First.length : Int)), (8, vI (a7.length : Int)), (9, .ptr 2 0 0), (44, vI p1), (45, vI s15.1)], [oX true false 4 (.agg [vI p0.Grain, eL true eI p0.First, eL false (eL true eI) p0.Step, eL false (eL true eI) p0.Show]), oX true false 2 (.agg [vI 0, .nils]), oX false false 2 (.agg [vI p0.Grain, .ref 3 0 s15.2.length]), oR false 3 eTapi_Node s15.2], 82⟩) (fun v out => out = .go (.exit 0) ⟨[(4, .ptr 0 0 0), (9, .ptr 1 0 0)], [oX true false 2 (.agg [vI 0, .nils]), oX false false 2 (.agg [vI p0.Grain, .ref 2 0 v.length]), oR false 3 eTapi_Node v], 82⟩) (wk_trans (wk_gc (live := [2, 4, 7, 8, 9, 44, 45]) (keep := [0, 1, 2]) (st' := ⟨[(2, .ptr 0 0 0), (4, .ptr 1 0 0), (7, vI (p0.First.length : Int)), (8, vI (a7.length : Int)), (9, .ptr 2 0 0), (44, vI p1), (45, vI 0)], [oX true false 4 (.agg [vI p0.Grain, eL true eI p0.First, eL false (eL true eI) p0.Step, eL false (eL true eI) p0.Show]), oX true false 2 (.agg [vI 0, .nils]), oX true false 2 (.agg [vI p0.Grain, .nils])], 82⟩) kr) (wk_trans (wk_nilO 2 0 1 3 true false (st' := ⟨[(2, .ptr 0 0 0), (4, .ptr 1 0 0), (7, vI (p0.First.length : Int)), (8, vI (a7.length : Int)), (9, .ptr 2 0 0), (44, vI p1), (45, vI 0)], [oX true false 4 (.agg [vI p0.Grain, eL true eI p0.First, eL false (eL true eI) p0.Step, eL false (eL true eI) p0.Show]), oX true false 2 (.agg [vI 0, .nils]), oX false false 2 (.agg [vI p0.Grain, .ref 3 0 0]), .row false false true false 3 []], 82⟩) kr) (wk_gc (live := [2, 4, 7, 8, 9, 44, 45]) (keep := [0, 1, 2, 3]) kr))) ?_ ?_
 ·intro s15 o h
  unfold g_hidden_Net_b0 at h
  refine sq (wp_seq ?_)
  refine wb [46] h (fun q17 h => ?_) (fun q17 h => ?_)
  ·refine wcT (wp_skip (wp_seq (wp_block (sq (wp_seq (reg_in (sz 3 3 ?_)))))))
   refine sgL false [] [.lst true] false gE ?_
   refine callR (as0 := [.ref 4 0 1]) (ids := [4]) kr bodyB_84 (msnap_cons (show snap _ _ _ = some (_, [4]) from kr) msnap_nil (by rfl)) (fun x18 q19 => g_hidden_copied_ok [p0.First] x18 q19) gF h (fun x18 q19 h => ?_)
   refine sz 1 6 ?_
   refine sgL false [] [] false gE ?_
   refine sz 1 8 (reg_end rfl (wp_seq (wp_seq ?_)))
   refine wgc [2, 4, 7, 8, 9, 44, 45, 10, 11] [0, 1, 2, 6, 3, 5] ⟨[(2, .ptr 0 0 0), (4, .ptr 1 0 0), (7, vI (p0.First.length : Int)), (8, vI (a7.length : Int)), (9, .ptr 2 0 0), (44, vI p1), (45, vI s15.1), (10, vI s15.1), (11, .ptr 3 0 0)], [oX true false 4 (.agg [vI p0.Grain, eL true eI p0.First, eL false (eL true eI) p0.Step, eL false (eL true eI) p0.Show]), oX true false 2 (.agg [vI 0, .nils]), oX false false 2 (.agg [vI p0.Grain, .ref 4 0 s15.2.length]), oX false false 3 (.agg [vI (p0.First.length : Int), .nils, .ref 5 0 x18.length]), oR false 3 eTapi_Node s15.2, oR false 1 (eL true eI) x18], 82⟩ ?_
   refine rn ?_
   refine wb [55] h (fun q21 h => ?_) (fun q21 h => ?_)
   ·refine wcT (reg_in (sz 4 4 ?_))
    refine sgL false [] [] true gE ?_
    refine sz 2 7 ?_
    refine callW bodyB_84 (g_hidden_copied_ok p0.Step) h (fun x22 _ h => ?_)
    refine sz 2 10 (reg_end rfl (wp_seq ?_))
    refine wgc [2, 4, 7, 8, 9, 44, 45, 10, 11] [0, 1, 2, 3, 4, 6, 7] ⟨[(2, .ptr 0 0 0), (4, .ptr 1 0 0), (7, vI (p0.First.length : Int)), (8, vI (a7.length : Int)), (9, .ptr 2 0 0), (44, vI p1), (45, vI s15.1), (10, vI s15.1), (11, .ptr 3 0 0)], [oX true false 4 (.agg [vI p0.Grain, eL true eI p0.First, eL false (eL true eI) p0.Step, eL false (eL true eI) p0.Show]), oX true false 2 (.agg [vI 0, .nils]), oX false false 2 (.agg [vI p0.Grain, .ref 4 0 s15.2.length]), oX false false 3 (.agg [vI (p0.First.length : Int), .ref 5 0 1, .ref 6 0 x22.length]), oR false 3 eTapi_Node s15.2, .row false false true true 1 [vI (IntKind.i64.wrap ((IntKind.i64.wrap (2 * s15.1)) - 2))], oR false 1 (eL true eI) x22], 82⟩ ?_
    refine reg_in (sz 3 3 ?_)
    refine sgL false [] [] true gE ?_
    refine sz 2 6 ?_
    refine callW bodyB_84 (g_hidden_copied_ok p0.Show) h (fun x24 _ h => ?_)
    refine sz 1 8 ?_
    refine sgL false [] [] false gE ?_
    refine sz 1 10 (reg_end rfl (wg [2, 4, 7, 8, 9, 44, 45, 11, 12] [0, 1, 2, 3, 9, 4, 5, 6, 7, 8] (reg_in ?_)))
    refine sgz 4 4 (S := ⟨(s38_26 p0 a7 p1 s15) ++ [(73, .ptr 2 0 1), (74, .ref 5 0 s15.2.length), (75, .agg [vI (p0.First.length : Int), .ref 6 0 1, .ref 7 0 x22.length]), (76, .agg [vI (a7.length : Int), .ref 8 0 1, .ref 9 0 x24.length])], [oX true false 4 (.agg [vI p0.Grain, eL true eI p0.First, eL false (eL true eI) p0.Step, eL false (eL true eI) p0.Show]), oX true false 2 (.agg [vI 0, .nils]), oX false false 2 (.agg [vI p0.Grain, .ref 5 0 s15.2.length]), oX false false 3 (.agg [vI (p0.First.length : Int), .ref 6 0 1, .ref 7 0 x22.length]), oX false false 3 (.agg [vI (a7.length : Int), .ref 8 0 1, .ref 9 0 x24.length]), oR false 3 eTapi_Node s15.2, .row false false true true 1 [vI (IntKind.i64.wrap ((IntKind.i64.wrap (2 * s15.1)) - 2))], oR false 1 (eL true eI) x22, .row false false true true 1 [vI (IntKind.i64.wrap (2 * s15.1))], oR false 1 (eL true eI) x24], 82⟩) ?_
    refine bsR (parts := [(0, .agg [vI (p0.First.length : Int), .lst true [vI (IntKind.i64.wrap ((IntKind.i64.wrap (2 * s15.1)) - 2))], eL false (eL true eI) x22]), (1, .agg [vI (a7.length : Int), .lst true [vI (IntKind.i64.wrap (2 * s15.1))], eL false (eL true eI) x24])]) (ids := [6, 7, 8, 9]) (es := [(6, .row false true true true 1 [vI (IntKind.i64.wrap ((IntKind.i64.wrap (2 * s15.1)) - 2))]), (7, .row false true true false 1 (List.map (eL true eI) x22)), (8, .row false true true true 1 [vI (IntKind.i64.wrap (2 * s15.1))]), (9, .row false true true false 1 (List.map (eL true eI) x24)), (10, .row false false true (List.all [.agg [vI (p0.First.length : Int), .lst true [vI (IntKind.i64.wrap ((IntKind.i64.wrap (2 * s15.1)) - 2))], eL false (eL true eI) x22], .agg [vI (a7.length : Int), .lst true [vI (IntKind.i64.wrap (2 * s15.1))], eL false (eL true eI) x24]] AV.scs) 3 [.agg [vI (p0.First.length : Int), .lst true [vI (IntKind.i64.wrap ((IntKind.i64.wrap (2 * s15.1)) - 2))], eL false (eL true eI) x22], .agg [vI (a7.length : Int), .lst true [vI (IntKind.i64.wrap (2 * s15.1))], eL false (eL true eI) x24]])]) (S := ⟨(s38_26 p0 a7 p1 s15) ++ [(73, .ptr 2 0 1), (74, .ref 5 0 s15.2.length), (75, .agg [vI (p0.First.length : Int), .ref 6 0 1, .ref 7 0 x22.length]), (76, .agg [vI (a7.length : Int), .ref 8 0 1, .ref 9 0 x24.length])] ++ [(77, .ref 10 0 2)], [oX true false 4 (.agg [vI p0.Grain, eL true eI p0.First, eL false (eL true eI) p0.Step, eL false (eL true eI) p0.Show]), oX true false 2 (.agg [vI 0, .nils]), oX false false 2 (.agg [vI p0.Grain, .ref 5 0 s15.2.length]), oX false false 3 (.agg [vI (p0.First.length : Int), .ref 6 0 1, .ref 7 0 x22.length]), oX false false 3 (.agg [vI (a7.length : Int), .ref 8 0 1, .ref 9 0 x24.length]), oR false 3 eTapi_Node s15.2, .row false true true true 1 [vI (IntKind.i64.wrap ((IntKind.i64.wrap (2 * s15.1)) - 2))], .row false true true false 1 (List.map (eL true eI) x22), .row false true true true 1 [vI (IntKind.i64.wrap (2 * s15.1))], .row false true true false 1 (List.map (eL true eI) x24), .row false false true false 3 [.agg [vI (p0.First.length : Int), .lst true [vI (IntKind.i64.wrap ((IntKind.i64.wrap (2 * s15.1)) - 2))], eL false (eL true eI) x22], .agg [vI (a7.length : Int), .lst true [vI (IntKind.i64.wrap (2 * s15.1))], eL false (eL true eI) x24]]], 82⟩) [.keep, .lst true, .lst false] false rfl (sparts_snap rfl (snap_agg (msnap_cons rfl (msnap_cons (show snap _ _ _ = some (_, [6]) from kr) (msnap_cons (snap_full (w := 1) (bx := false) (ro := false) kr) msnap_nil (by rfl)) (by rfl)) (by rfl))) (sparts_snap rfl (snap_agg (msnap_cons rfl (msnap_cons (show snap _ _ _ = some (_, [8]) from kr) (msnap_cons (snap_full (w := 1) (bx := false) (ro := false) kr) msnap_nil (by rfl)) (by rfl)) (by rfl))) sparts_nil (by rfl)) (by rfl)) kr ?_
    refine appR (enc := eTapi_Node) (l := s15.2) (m := ([(Tapi_Node.mk (p0.First.length : Int) [IntKind.i64.wrap ((IntKind.i64.wrap (2 * s15.1)) - 2)] x22), (Tapi_Node.mk (a7.length : Int) [IntKind.i64.wrap (2 * s15.1)] x24)] : (List Tapi_Node))) (w := 3) (bytes := 56) (ob := 5) (nr := true) (fl := false) (nr' := true) (fl' := false) (b := .ref 10 0 2) (rds := [10]) false kr kr kr rfl gE kr h (fun h => ?_)
    refine sz 2 8 (reg_end rfl (wg [2, 4, 7, 8, 9, 44, 45] [0, 1, 2, 11] (rn ?_)))
    cases h
    exact ⟨_, rfl, (wk_gc (live := [2, 4, 7, 8, 9, 44, 45]) (keep := [0, 1, 2, 3]) kr)⟩
   refine wcF (wp_skip (wp_seq (reg_in (sz 3 3 ?_))))
   refine sgL false [] [] true gE ?_
   refine sz 2 6 ?_
   refine callW bodyB_84 (g_hidden_copied_ok p0.Show) h (fun x26 _ h => ?_)
   refine sz 1 8 ?_
   refine sgL false [] [] false gE ?_
   refine sz 1 10 (reg_end rfl ?_)
   refine wgc [2, 4, 7, 8, 9, 44, 45, 11, 12] [0, 1, 2, 3, 8, 4, 5, 6, 7] ⟨(s38_26 p0 a7 p1 s15), [oX true false 4 (.agg [vI p0.Grain, eL true eI p0.First, eL false (eL true eI) p0.Step, eL false (eL true eI) p0.Show]), oX true false 2 (.agg [vI 0, .nils]), oX false false 2 (.agg [vI p0.Grain, .ref 5 0 s15.2.length]), oX false false 3 (.agg [vI (p0.First.length : Int), .nils, .ref 6 0 x18.length]), oX false false 3 (.agg [vI (a7.length : Int), .ref 7 0 1, .ref 8 0 x26.length]), oR false 3 eTapi_Node s15.2, oR false 1 (eL true eI) x18, .row false false true true 1 [vI (IntKind.i64.wrap (2 * s15.1))], oR false 1 (eL true eI) x26], 82⟩ ?_
   refine reg_in ?_
   refine sgz 4 4 (S := ⟨(s38_26 p0 a7 p1 s15) ++ [(73, .ptr 2 0 1), (74, .ref 5 0 s15.2.length), (75, .agg [vI (p0.First.length : Int), .nils, .ref 6 0 x18.length]), (76, .agg [vI (a7.length : Int), .ref 7 0 1, .ref 8 0 x26.length])], [oX true false 4 (.agg [vI p0.Grain, eL true eI p0.First, eL false (eL true eI) p0.Step, eL false (eL true eI) p0.Show]), oX true false 2 (.agg [vI 0, .nils]), oX false false 2 (.agg [vI p0.Grain, .ref 5 0 s15.2.length]), oX false false 3 (.agg [vI (p0.First.length : Int), .nils, .ref 6 0 x18.length]), oX false false 3 (.agg [vI (a7.length : Int), .ref 7 0 1, .ref 8 0 x26.length]), oR false 3 eTapi_Node s15.2, oR false 1 (eL true eI) x18, .row false false true true 1 [vI (IntKind.i64.wrap (2 * s15.1))], oR false 1 (eL true eI) x26], 82⟩) ?_
   refine bsR (parts := [(0, .agg [vI (p0.First.length : Int), .nils, eL false (eL true eI) x18]), (1, .agg [vI (a7.length : Int), .lst true [vI (IntKind.i64.wrap (2 * s15.1))], eL false (eL true eI) x26])]) (ids := [6, 7, 8]) (es := [(6, .row false true true false 1 (List.map (eL true eI) x18)), (7, .row false true true true 1 [vI (IntKind.i64.wrap (2 * s15.1))]), (8, .row false true true false 1 (List.map (eL true eI) x26)), (9, .row false false true (List.all [.agg [vI (p0.First.length : Int), .nils, eL false (eL true eI) x18], .agg [vI (a7.length : Int), .lst true [vI (IntKind.i64.wrap (2 * s15.1))], eL false (eL true eI) x26]] AV.scs) 3 [.agg [vI (p0.First.length : Int), .nils, eL false (eL true eI) x18], .agg [vI (a7.length : Int), .lst true [vI (IntKind.i64.wrap (2 * s15.1))], eL false (eL true eI) x26]])]) (S := ⟨(s38_26 p0 a7 p1 s15) ++ [(73, .ptr 2 0 1), (74, .ref 5 0 s15.2.length), (75, .agg [vI (p0.First.length : Int), .nils, .ref 6 0 x18.length]), (76, .agg [vI (a7.length : Int), .ref 7 0 1, .ref 8 0 x26.length])] ++ [(77, .ref 9 0 2)], [oX true false 4 (.agg [vI p0.Grain, eL true eI p0.First, eL false (eL true eI) p0.Step, eL false (eL true eI) p0.Show]), oX true false 2 (.agg [vI 0, .nils]), oX false false 2 (.agg [vI p0.Grain, .ref 5 0 s15.2.length]), oX false false 3 (.agg [vI (p0.First.length : Int), .nils, .ref 6 0 x18.length]), oX false false 3 (.agg [vI (a7.length : Int), .ref 7 0 1, .ref 8 0 x26.length]), oR false 3 eTapi_Node s15.2, .row false true true false 1 (List.map (eL true eI) x18), .row false true true true 1 [vI (IntKind.i64.wrap (2 * s15.1))], .row false true true false 1 (List.map (eL true eI) x26), .row false false true false 3 [.agg [vI (p0.First.length : Int), .lst true [], eL false (eL true eI) x18], .agg [vI (a7.length : Int), .lst true [vI (IntKind.i64.wrap (2 * s15.1))], eL false (eL true eI) x26]]], 82⟩) [.keep, .lst true, .lst false] false rfl (sparts_snap rfl (snap_agg (msnap_cons rfl (msnap_cons rfl (msnap_cons (snap_full (w := 1) (bx := false) (ro := false) kr) msnap_nil (by rfl)) (by rfl)) (by rfl))) (sparts_snap rfl (snap_agg (msnap_cons rfl (msnap_cons (show snap _ _ _ = some (_, [7]) from kr) (msnap_cons (snap_full (w := 1) (bx := false) (ro := false) kr) msnap_nil (by rfl)) (by rfl)) (by rfl))) sparts_nil (by rfl)) (by rfl)) kr ?_
   refine appR (enc := eTapi_Node) (l := s15.2) (m := ([(Tapi_Node.mk (p0.First.length : Int) [] x18), (Tapi_Node.mk (a7.length : Int) [IntKind.i64.wrap (2 * s15.1)] x26)] : (List Tapi_Node))) (w := 3) (bytes := 56) (ob := 5) (nr := true) (fl := false) (nr' := true) (fl' := false) (b := .ref 9 0 2) (rds := [9]) false kr kr kr rfl gE kr h (fun h => ?_)
   refine sz 2 8 (reg_end rfl (wg [2, 4, 7, 8, 9, 44, 45] [0, 1, 2, 10] (rn ?_)))
   cases h
   exact ⟨_, rfl, (wk_gc (live := [2, 4, 7, 8, 9, 44, 45]) (keep := [0, 1, 2, 3]) kr)⟩
  refine wcF (wg [4, 9] [1, 2, 3] ?_)
  refine wp_exit ?_
  cases h
  exact ⟨kr, rfl⟩
 intro x29 h out hx
 subst hx
 refine sq (wg [4, 5] [0, 2] ?_)
 cases h
 exact wp_ret (show fnOut _ _ _ _ = _ from by kernel_rfl)
theorem g_slices_Equal_int_int_ok (p0 : (List Int)) (p1 : (List Int)) (x : Bool) (h : g_slices_Equal_int_int p0 p1 = some x) : CallOk Try.prog 40 [eL true eI p0, eL true eI p1] (.ret (vB x) []) := by
 refine fn_ok [] Try.func40 rfl (by decide +kernel) rfl ?_
 unfold g_slices_Equal_int_int at h
 refine wp_eqB (base' := 0) (st' := ⟨[(0, eL true eI p0), (1, eL true eI p1)], [], 26⟩) kr kr ?_
 refine sq (wp_seq (wp_seq (reg_in (sz 1 1 ?_))))
 refine lenL (enc := eI) (l := p0) (fl := true) kr gE ?_
 refine sz 1 3 ?_
 refine lenL (enc := eI) (l := p1) (fl := true) kr gE ?_
 refine sz 1 5 (reg_end rfl ?_)
 refine wbz h (fun q2 h => ?_) (fun q2 h => ?_)
 ·refine wp_seq (wg [] [] (rn ?_))
  refine wgc [4] [] ⟨[(4, vB false)], [], 26⟩ ?_
  cases h
  exact wp_ret (show fnOut _ _ _ _ = _ from by kernel_rfl)
 refine wp_skip (wp_seq (wp_seq (wg [0, 1] [] (reg_in (sz 1 1 ?_)))))
 refine lenL (enc := eI) (l := p0) (fl := true) kr gE ?_
 refine sz 1 3 (reg_end rfl (wp_block ?_))
 refine wwh h (fun s3 => ⟨[(0, eL true eI p0), (1, eL true eI p1), (12, vI (p0.length : Int)), (13, vI s3)], [], 26⟩) (fun x out => out = match x with | .inl v => .go (.ret) ⟨[(4, vB false)], [], 26⟩ | .inr v => .go (.exit 0) ⟨[], [], 26⟩) (wk_gc (live := [0, 1, 12, 13]) (keep := []) kr) ?_ ?_
 ·intro s3 o h
  unfold g_slices_Equal_int_int_b0 at h
  refine sq (wp_seq ?_)
  refine wb [14] h (fun q5 h => ?_) (fun q5 h => ?_)
  ·refine wcT (wp_skip (wp_seq (wp_block (sq (wp_seq (rga hfol (sy 2 2 ?_)))))))
   refine bind_elim h (fun a6 q7 h => ?_)
   refine idxL' (enc := eI) (l := p0) (n := s3) (fl := true) (w := 1) (a := a6) kr rfl gE q7 ?_
   refine sy 3 6 ?_
   refine bind_elim h (fun a8 q9 h => ?_)
   refine idxL' (enc := eI) (l := p1) (n := s3) (fl := true) (w := 1) (a := a8) kr rfl gE q9 ?_
   refine sy 2 9 (rgd ?_)
   refine wbz h (fun q11 h => ?_) (fun q11 h => ?_)
   ·refine wp_seq ?_
    refine wgc [] [] ⟨[], [], 26⟩ ?_
    refine rn (wg [4] [] ?_)
    refine wp_ret ?_
    cases h
    exact ⟨kr, rfl⟩
   refine wp_skip ?_
   refine wgc [0, 1, 12, 13] [] ⟨[(0, eL true eI p0), (1, eL true eI p1), (12, vI (p0.length : Int)), (13, vI s3)], [], 26⟩ ?_
   refine rn ?_
   cases h
   exact ⟨_, rfl, (wk_gc (live := [0, 1, 12, 13]) (keep := []) kr)⟩
  refine wcF (wg [] [] ?_)
  refine wp_exit ?_
  cases h
  exact ⟨kr, rfl⟩
 intro x12 h out hx
 subst hx
 rcases x12 with x13 | x14
 ·dsimp only at h ⊢
  cases h
  show fnOut _ _ _ _ = _
  kernel_rfl
 ·dsimp only at h ⊢
  refine sq (wg [4] [] ?_)
  cases h
  exact wp_ret (show fnOut _ _ _ _ = _ from by kernel_rfl)
end Go.Ab
