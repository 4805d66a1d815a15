/- What functions compute. No conditions. -/
import Derived.Test.YtapoljjoedcknaaProg
import Derived.Test.YtapoljjoedcknaaW8
import Derived.KernelRfl
import Derived.Test.YtapoljjoedcknaaW11
set_option linter.all false
namespace Go.Ab
open Go Go.Proofs
set_option maxRecDepth 100000
set_option maxHeartbeats 4000000
noncomputable abbrev s38_1 (p0 : Tapi_Lift) : List (Nat × AV) := [(0, .agg [vI p0.Grain, vI p0.Count, vI p0.One, eL false (eL true eI) p0.Rows]), (1, .ptr 0 0 0), (2, .ptr 1 0 0), (3, .nils), (6, .ptr 0 0 3), (7, eL false (eL true eI) p0.Rows), (8, .ptr 0 0 3), (9, eL false (eL true eI) p0.Rows)]
noncomputable abbrev s38_2 (p0 : Tapi_Lift) : List AObj := [oX true false 4 (.agg [vI p0.Grain, vI p0.Count, vI p0.One, eL false (eL true eI) p0.Rows]), oX true false 4 (.agg [vI 0, vI 0, vI 0, .nils])]
noncomputable abbrev s38_16 (p0 : Tapi_Lift) (s1 : (Int × (List (List Int)))) : List AObj := [oX true false 4 (.agg [vI p0.Grain, vI p0.Count, vI p0.One, eL false (eL true eI) p0.Rows]), oX true false 4 (.agg [vI 0, vI 0, vI 0, .nils]), oR false 1 (eL true eI) s1.2]
noncomputable abbrev s38_18 (s1 : (Int × (List (List Int)))) (p0 : Tapi_Lift) : List (Nat × AV) := [(1, .ptr 0 0 0), (2, .ptr 1 0 0), (3, .ref 2 0 s1.2.length), (12, eL false (eL true eI) (sub p0.Rows 0 (if 12 < (p0.Rows.length : Int) then 12 else (p0.Rows.length : Int)))), (13, vI ((sub p0.Rows 0 (if 12 < (p0.Rows.length : Int) then 12 else (p0.Rows.length : Int))).length : Int)), (14, vI s1.1)]
noncomputable abbrev s38_19 (s1 : (Int × (List (List Int)))) (p0 : Tapi_Lift) (a4 : (List Int)) : List (Nat × AV) := (s38_18 s1 p0) ++ [(15, vB true), (16, .fz [eL true eI a4]), (17, eL true eI a4), (5, eL true eI a4), (18, .ref 2 0 s1.2.length), (19, eL true eI a4), (20, eL true eI a4), (21, vI (a4.length : Int)), (22, vI (if 6 < (a4.length : Int) then 6 else (a4.length : Int)))]
theorem g_law14_few_ok (p0 : Tapi_Lift) (x : Tapi_Lift) (h : g_law14_few p0 = some x) : CallOk Try.prog 38 [.agg [vI p0.Grain, vI p0.Count, vI p0.One, eL false (eL true eI) p0.Rows]] (.ret (.agg [vI x.Grain, vI x.Count, vI x.One, .ref 0 0 x.Rows.length]) [oR false 1 (eL true eI) x.Rows]) := by
  refine fn_ok [] Try.func38 rfl (by decide +kernel) rfl ?_
  unfold g_law14_few at h
  refine wp_eqB (base' := 0) (st' := ⟨[(0, .agg [vI p0.Grain, vI p0.Count, vI p0.One, eL false (eL true eI) p0.Rows])], [], 30⟩) rfl (by kernel_rfl) ?_
  refine wp_seq (reg_in ?_)
  refine sl false [] [] false rfl ?_
  refine sl false [] [] false rfl ?_
  refine reg_end rfl (sq (wp_seq (wp_seq (reg_in (sz 4 4 ?_)))))
  refine lenZ (enc := (eL true eI)) (l := p0.Rows) (fl := false) (by kernel_rfl) ?_
  refine sgz 1 6 (S := ⟨(s38_1 p0) ++ [(10, vI (p0.Rows.length : Int)), (11, vI (if 12 < (p0.Rows.length : Int) then 12 else (p0.Rows.length : Int)))], (s38_2 p0), 30⟩) ?_
  refine sliceL (enc := (eL true eI)) (l := p0.Rows) (fl := false) (lo := none) (hi := (some (vI (if 12 < (p0.Rows.length : Int) then 12 else (p0.Rows.length : Int))))) (a := 0) (b := (if 12 < (p0.Rows.length : Int) then 12 else (p0.Rows.length : Int))) (w := 1) (S := ⟨(s38_1 p0) ++ [(10, vI (p0.Rows.length : Int)), (11, vI (if 12 < (p0.Rows.length : Int) then 12 else (p0.Rows.length : Int))), (12, eL false (eL true eI) (sub p0.Rows 0 (if 12 < (p0.Rows.length : Int) then 12 else (p0.Rows.length : Int))))], (s38_2 p0), 30⟩) (by kernel_rfl) (fun _ => rfl) rfl rfl (by kernel_rfl) h (fun h => ?_)
  refine lenZ (enc := (eL true eI)) (l := (sub p0.Rows 0 (if 12 < (p0.Rows.length : Int) then 12 else (p0.Rows.length : Int)))) (fl := false) (by kernel_rfl) ?_
  refine sz 1 9 (reg_end rfl (wp_block ?_))
  refine wwh h (fun s1 => ⟨(s38_18 s1 p0), (s38_16 p0 s1), 30⟩) (fun v out => out = .go (.exit 0) ⟨[(1, .ptr 0 0 0), (2, .ptr 1 0 0), (3, .ref 2 0 v.length)], [oX true false 4 (.agg [vI p0.Grain, vI p0.Count, vI p0.One, eL false (eL true eI) p0.Rows]), oX true false 4 (.agg [vI 0, vI 0, vI 0, .nils]), oR false 1 (eL true eI) v], 30⟩) (wk_trans (wk_gc (live := [1, 2, 3, 12, 13, 14]) (keep := [0, 1]) (st' := ⟨[(1, .ptr 0 0 0), (2, .ptr 1 0 0), (3, .nils), (12, eL false (eL true eI) (sub p0.Rows 0 (if 12 < (p0.Rows.length : Int) then 12 else (p0.Rows.length : Int)))), (13, vI ((sub p0.Rows 0 (if 12 < (p0.Rows.length : Int) then 12 else (p0.Rows.length : Int))).length : Int)), (14, vI 0)], (s38_2 p0), 30⟩) (by kernel_rfl)) (wk_trans (wk_nil 3 1 true false (st' := ⟨[(1, .ptr 0 0 0), (2, .ptr 1 0 0), (3, .ref 2 0 0), (12, eL false (eL true eI) (sub p0.Rows 0 (if 12 < (p0.Rows.length : Int) then 12 else (p0.Rows.length : Int)))), (13, vI ((sub p0.Rows 0 (if 12 < (p0.Rows.length : Int) then 12 else (p0.Rows.length : Int))).length : Int)), (14, vI 0)], [oX true false 4 (.agg [vI p0.Grain, vI p0.Count, vI p0.One, eL false (eL true eI) p0.Rows]), oX true false 4 (.agg [vI 0, vI 0, vI 0, .nils]), .row false false true false 1 []], 30⟩) (by kernel_rfl)) (wk_gc (live := [1, 2, 3, 12, 13, 14]) (keep := [0, 1, 2]) (by kernel_rfl)))) ?_ ?_
  · intro s1 o h
    unfold g_law14_few_b0 at h
    refine sq (wp_seq ?_)
    refine wbr (S := fun b2 => ⟨(s38_18 s1 p0) ++ [(15, vB b2)], (s38_16 p0 s1), 30⟩) h (fun q3 h => ?_) (fun q3 h => ?_)
    · refine wcT (wp_skip (wp_seq (wp_block (wp_seq (reg_in ?_)))))
      refine bind_elim h (fun a4 q5 h => ?_)
      refine idxZ (enc := (eL true eI)) (l := (sub p0.Rows 0 (if 12 < (p0.Rows.length : Int) then 12 else (p0.Rows.length : Int)))) (n := s1.1) (fl := false) (w := 1) (a := a4) (by kernel_rfl) q5 ?_
      refine sz 2 3 (reg_end rfl (reg_in (sz 3 3 ?_)))
      refine lenZ (enc := eI) (l := a4) (fl := true) (by kernel_rfl) ?_
      refine sgz 1 5 (S := ⟨(s38_19 s1 p0 a4), (s38_16 p0 s1), 30⟩) ?_
      refine sliceL (enc := eI) (l := a4) (fl := true) (lo := none) (hi := (some (vI (if 6 < (a4.length : Int) then 6 else (a4.length : Int))))) (a := 0) (b := (if 6 < (a4.length : Int) then 6 else (a4.length : Int))) (w := 1) (S := ⟨(s38_19 s1 p0 a4) ++ [(23, eL true eI (sub a4 0 (if 6 < (a4.length : Int) then 6 else (a4.length : Int))))], (s38_16 p0 s1), 30⟩) (by kernel_rfl) (fun _ => rfl) rfl rfl (by kernel_rfl) h (fun h => ?_)
      refine sgL false [] [.lst true] false (S := ⟨(s38_19 s1 p0 a4) ++ [(23, eL true eI (sub a4 0 (if 6 < (a4.length : Int) then 6 else (a4.length : Int)))), (24, .ref 3 0 1)], [oX true false 4 (.agg [vI p0.Grain, vI p0.Count, vI p0.One, eL false (eL true eI) p0.Rows]), oX true false 4 (.agg [vI 0, vI 0, vI 0, .nils]), oR false 1 (eL true eI) s1.2, .row false false true false 1 [eL true eI (sub a4 0 (if 6 < (a4.length : Int) then 6 else (a4.length : Int)))]], 30⟩) (by kernel_rfl) ?_
      refine appR (enc := (eL true eI)) (l := s1.2) (m := ([(sub a4 0 (if 6 < (a4.length : Int) then 6 else (a4.length : Int)))] : (List (List Int)))) (w := 1) (bytes := 24) (ob := 2) (nr := true) (fl := false) (nr' := true) (fl' := false) (b := .ref 3 0 1) (rds := [3]) (S := ⟨(s38_19 s1 p0 a4) ++ [(23, eL true eI (sub a4 0 (if 6 < (a4.length : Int) then 6 else (a4.length : Int)))), (24, .ref 3 0 1), (25, .ref 4 0 ((s1.2 ++ ([(sub a4 0 (if 6 < (a4.length : Int) then 6 else (a4.length : Int)))] : (List (List Int)))).length))], [oX true false 4 (.agg [vI p0.Grain, vI p0.Count, vI p0.One, eL false (eL true eI) p0.Rows]), oX true false 4 (.agg [vI 0, vI 0, vI 0, .nils]), .dead, .row false false true false 1 [eL true eI (sub a4 0 (if 6 < (a4.length : Int) then 6 else (a4.length : Int)))], oR false 1 (eL true eI) (s1.2 ++ ([(sub a4 0 (if 6 < (a4.length : Int) then 6 else (a4.length : Int)))] : (List (List Int))))], 30⟩) false (by kernel_rfl) rfl (by kernel_rfl) rfl (by kernel_rfl) (by kernel_rfl) h (fun h => ?_)
      refine sz 1 9 (reg_end rfl (wg [1, 2, 3, 12, 13, 14] [0, 1, 4] (rn ?_)))
      cases h
      exact ⟨_, rfl, (wk_gc (live := [1, 2, 3, 12, 13, 14]) (keep := [0, 1, 2]) (by kernel_rfl))⟩
    refine wcF ?_
    refine wgc [1, 2, 3] [0, 1, 2] ⟨[(1, .ptr 0 0 0), (2, .ptr 1 0 0), (3, .ref 2 0 s1.2.length)], (s38_16 p0 s1), 30⟩ ?_
    refine wp_exit ?_
    cases h
    exact ⟨rfl, rfl⟩
  intro x7 h out hx
  subst hx
  refine sq (sq (wg [2] [1, 2] ?_))
  cases h
  exact wp_ret (show fnOut _ _ _ _ = _ from by kernel_rfl)
theorem g_law14_models_ok (p0 : Tharuspexref14_Draft) (p1 : Tharuspexref14_Bend) (p2 : Tapi_Lift) (x : (Tapi_Lift × Tapi_Lift × Tapi_Lift)) (h : g_law14_models p0 p1 p2 = some x) : CallOk Try.prog 11 [.agg [.int .u8 p0.Grain, .int .u8 p0.Count, .int .u8 p0.One, .int .u8 p0.Card, eL true (AV.int .u8) p0.L], .agg [.int .u8 p1.What, .int .u8 p1.J, .int .u8 p1.At, vI p1.N], .agg [vI p2.Grain, vI p2.Count, vI p2.One, eL false (eL true eI) p2.Rows]] (.ret (.agg [vI x.1.Grain, vI x.1.Count, vI x.1.One, eL false (eL true eI) x.1.Rows, vI x.2.1.Grain, vI x.2.1.Count, vI x.2.1.One, eL false (eL true eI) x.2.1.Rows, vI x.2.2.Grain, vI x.2.2.Count, vI x.2.2.One, eL false (eL true eI) x.2.2.Rows]) []) := by
  refine fn_ok [[.keep, .keep, .keep, .lst false, .keep, .keep, .keep, .lst false, .keep, .keep, .keep, .lst false]] Try.func11 rfl (by decide +kernel) rfl ?_
  unfold g_law14_models at h
  refine wp_eqB (base' := 0) (st' := ⟨[(0, .agg [.int .u8 p0.Grain, .int .u8 p0.Count, .int .u8 p0.One, .int .u8 p0.Card, eL true (AV.int .u8) p0.L]), (1, .agg [.int .u8 p1.What, .int .u8 p1.J, .int .u8 p1.At, vI p1.N]), (2, .agg [vI p2.Grain, vI p2.Count, vI p2.One, eL false (eL true eI) p2.Rows])], [], 17⟩) rfl (by kernel_rfl) ?_
  refine wp_seq (reg_in ?_)
  refine sl false [] [] false rfl ?_
  refine sz 1 2 ?_
  refine sl false [] [] false rfl ?_
  refine sl false [] [] false rfl ?_
  refine reg_end rfl (wp_seq (reg_in (sz 1 1 ?_)))
  refine callZ (as0 := [.agg [.int .u8 p0.Grain, .int .u8 p0.Count, .int .u8 p0.One, .int .u8 p0.Card, eL true (AV.int .u8) p0.L]]) (ids := []) (by kernel_rfl) bodyB_18 (msnap_cons (snap_agg (msnap_cons rfl (msnap_cons rfl (msnap_cons rfl (msnap_cons rfl (msnap_cons rfl msnap_nil)))))) msnap_nil) (fun x1 q2 => g_ref14_Draft_Lift_ok p0 x1 q2) h (fun x1 q2 h => ?_)
  refine sgL false [] [] false (S := ⟨[(0, .agg [.int .u8 p0.Grain, .int .u8 p0.Count, .int .u8 p0.One, .int .u8 p0.Card, eL true (AV.int .u8) p0.L]), (1, .agg [.int .u8 p1.What, .int .u8 p1.J, .int .u8 p1.At, vI p1.N]), (2, .agg [vI p2.Grain, vI p2.Count, vI p2.One, eL false (eL true eI) p2.Rows])] ++ [(3, .ptr 0 0 0), (4, .ptr 1 0 0), (5, .ptr 2 0 0), (6, .ptr 3 0 0), (8, .agg [.int .u8 p0.Grain, .int .u8 p0.Count, .int .u8 p0.One, .int .u8 p0.Card, eL true (AV.int .u8) p0.L]), (9, .agg [vI x1.Grain, vI x1.Count, vI x1.One, .ref 4 0 x1.Rows.length]), (7, .ptr 5 0 0)], [oX true false 5 (.agg [.int .u8 p0.Grain, .int .u8 p0.Count, .int .u8 p0.One, .int .u8 p0.Card, eL true (AV.int .u8) p0.L]), oX true true 4 (.agg [.int .u8 p1.What, .int .u8 p1.J, .int .u8 p1.At, vI p1.N]), oX true false 4 (.agg [vI p2.Grain, vI p2.Count, vI p2.One, eL false (eL true eI) p2.Rows]), oX true false 12 (.agg [vI 0, vI 0, vI 0, .nils, vI 0, vI 0, vI 0, .nils, vI 0, vI 0, vI 0, .nils]), oR false 1 (eL true eI) x1.Rows, oX true false 4 (.agg [vI 0, vI 0, vI 0, .nils])], 17⟩) (by kernel_rfl) ?_
  refine sz 1 4 (reg_end rfl (wp_seq (wg [4, 5, 6, 7] [1, 2, 3, 5, 4] (rga hfol ?_))))
  refine sgy 3 3 (S := ⟨[(4, .ptr 0 0 0), (5, .ptr 1 0 0), (6, .ptr 2 0 0), (7, .ptr 3 0 0), (10, .agg [vI x1.Grain, vI x1.Count, vI x1.One, .ref 4 0 x1.Rows.length]), (11, .agg [.int .u8 p1.What, .int .u8 p1.J, .int .u8 p1.At, vI p1.N]), (12, .agg [vI x1.Grain, vI x1.Count, vI x1.One, .ref 4 0 x1.Rows.length])], [oX true true 4 (.agg [.int .u8 p1.What, .int .u8 p1.J, .int .u8 p1.At, vI p1.N]), oX true false 4 (.agg [vI p2.Grain, vI p2.Count, vI p2.One, eL false (eL true eI) p2.Rows]), oX true false 12 (.agg [vI 0, vI 0, vI 0, .nils, vI 0, vI 0, vI 0, .nils, vI 0, vI 0, vI 0, .nils]), oX false false 4 (.agg [vI x1.Grain, vI x1.Count, vI x1.One, .ref 4 0 x1.Rows.length]), oR false 1 (eL true eI) x1.Rows], 17⟩) ?_
  refine callZ (as0 := [.agg [.int .u8 p1.What, .int .u8 p1.J, .int .u8 p1.At, vI p1.N], .agg [vI x1.Grain, vI x1.Count, vI x1.One, .ref 4 0 x1.Rows.length]]) (ids := [4]) (by kernel_rfl) bodyB_34 (msnap_cons (snap_agg (msnap_cons rfl (msnap_cons rfl (msnap_cons rfl (msnap_cons rfl msnap_nil (by rfl)) (by rfl)) (by rfl)) (by rfl))) (msnap_cons (snap_agg (msnap_cons rfl (msnap_cons rfl (msnap_cons rfl (msnap_cons (snap_full rfl) msnap_nil (by rfl)) (by rfl)) (by rfl)) (by rfl))) msnap_nil (by rfl)) (by rfl)) (fun x3 q4 => g_ref14_Bend_Of_ok p1 x1 x3 q4) h (fun x3 q4 h => ?_)
  refine sy 1 5 ?_
  refine callZ (as0 := [.agg [vI p2.Grain, vI p2.Count, vI p2.One, eL false (eL true eI) p2.Rows]]) (ids := []) (by kernel_rfl) bodyB_38 (msnap_cons (snap_agg (msnap_cons rfl (msnap_cons rfl (msnap_cons rfl (msnap_cons rfl msnap_nil))))) msnap_nil) (fun x5 q6 => g_law14_few_ok p2 x5 q6) h (fun x5 q6 h => ?_)
  refine sy 2 8 (rgd ?_)
  refine wgc [6] [2, 4, 5] ⟨[(6, .ptr 0 0 0)], [oX false false 12 (.agg [vI x1.Grain, vI x1.Count, vI x1.One, .ref 1 0 x1.Rows.length, vI x3.Grain, vI x3.Count, vI x3.One, eL false (eL true eI) x3.Rows, vI x5.Grain, vI x5.Count, vI x5.One, .ref 2 0 x5.Rows.length]), .row false true true false 1 (List.map (eL true eI) x1.Rows), oR false 1 (eL true eI) x5.Rows], 17⟩ ?_
  refine wp_wk (wk_snapO 0 0 (st' := ⟨[(6, .ptr 0 0 0)], [oX false false 12 (.agg [vI x1.Grain, vI x1.Count, vI x1.One, eL false (eL true eI) x1.Rows, vI x3.Grain, vI x3.Count, vI x3.One, eL false (eL true eI) x3.Rows, vI x5.Grain, vI x5.Count, vI x5.One, eL false (eL true eI) x5.Rows]), .row false true true false 1 (List.map (eL true eI) x1.Rows), .row false true true false 1 (List.map (eL true eI) x5.Rows)], 17⟩) (y := .agg [vI x1.Grain, vI x1.Count, vI x1.One, eL false (eL true eI) x1.Rows, vI x3.Grain, vI x3.Count, vI x3.One, eL false (eL true eI) x3.Rows, vI x5.Grain, vI x5.Count, vI x5.One, eL false (eL true eI) x5.Rows]) (ids := [1, 2]) rfl rfl rfl (snap_agg (msnap_cons rfl (msnap_cons rfl (msnap_cons rfl (msnap_cons (snap_full rfl) (msnap_cons rfl (msnap_cons rfl (msnap_cons rfl (msnap_cons rfl (msnap_cons rfl (msnap_cons rfl (msnap_cons rfl (msnap_cons (snap_full rfl) msnap_nil (by rfl)) (by rfl)) (by rfl)) (by rfl)) (by rfl)) (by rfl)) (by rfl)) (by rfl)) (by rfl)) (by rfl)) (by rfl)) (by rfl))) (by kernel_rfl)) ?_
  cases h
  exact wp_ret (show fnOut _ _ _ _ = _ from by kernel_rfl)
noncomputable abbrev s12_2 (p0 : Tapi_Lift) : List AObj := [oX true false 4 (.agg [vI p0.Grain, vI p0.Count, vI p0.One, eL false (eL true eI) p0.Rows])]
theorem g_ref14_Right_ok (p0 : Tapi_Lift) (x : Bool) (h : g_ref14_Right p0 = some x) : CallOk Try.prog 12 [.agg [vI p0.Grain, vI p0.Count, vI p0.One, eL false (eL true eI) p0.Rows]] (.ret (vB x) []) := by
  refine fn_ok [] Try.func12 rfl (by decide +kernel) rfl ?_
  unfold g_ref14_Right at h
  refine wp_eqB (base' := 0) (st' := ⟨[(0, .agg [vI p0.Grain, vI p0.Count, vI p0.One, eL false (eL true eI) p0.Rows])], [], 127⟩) rfl (by kernel_rfl) ?_
  refine wp_seq (reg_in ?_)
  refine sl false [] [] false rfl ?_
  refine sz 1 2 (reg_end rfl (wp_seq (wp_seq (reg_in (sz 4 4 (rwg [1, 9] [0] ?_))))))
  refine rbr (S := fun b1 => ⟨[(1, .ptr 0 0 0), (9, vB b1)], (s12_2 p0), 127⟩) h (fun q2 h => ?_) (fun q2 h => ?_)
  · refine sz 35 39 (reg_end rfl (wcT (wp_seq (wg [] [] (rn (wg [2] [] ?_))))))
    cases h
    exact wp_ret (show fnOut _ _ _ _ = _ from by kernel_rfl)
  refine sz 5 9 (rwg [1, 14] [0] ?_)
  refine rbr (S := fun b3 => ⟨[(1, .ptr 0 0 0), (14, vB b3)], (s12_2 p0), 127⟩) h (fun q4 h => ?_) (fun q4 h => ?_)
  · refine sz 30 39 (reg_end rfl (wcT (wp_seq (wg [] [] (rn (wg [2] [] ?_))))))
    cases h
    exact wp_ret (show fnOut _ _ _ _ = _ from by kernel_rfl)
  refine sz 5 14 (rwg [1, 19] [0] ?_)
  refine rbr (S := fun b5 => ⟨[(1, .ptr 0 0 0), (19, vB b5)], (s12_2 p0), 127⟩) h (fun q6 h => ?_) (fun q6 h => ?_)
  · refine sz 25 39 (reg_end rfl (wcT (wp_seq (wg [] [] (rn (wg [2] [] ?_))))))
    cases h
    exact wp_ret (show fnOut _ _ _ _ = _ from by kernel_rfl)
  refine sz 5 19 (rwg [1, 24] [0] ?_)
  refine rbr (S := fun b7 => ⟨[(1, .ptr 0 0 0), (24, vB b7)], (s12_2 p0), 127⟩) h (fun q8 h => ?_) (fun q8 h => ?_)
  · refine sz 20 39 (reg_end rfl (wcT (wp_seq (wg [] [] (rn (wg [2] [] ?_))))))
    cases h
    exact wp_ret (show fnOut _ _ _ _ = _ from by kernel_rfl)
  refine sz 5 24 (rwg [1, 29] [0] ?_)
  refine rbr (S := fun b9 => ⟨[(1, .ptr 0 0 0), (29, vB b9)], (s12_2 p0), 127⟩) h (fun q10 h => ?_) (fun q10 h => ?_)
  · refine sz 15 39 (reg_end rfl (wcT (wp_seq (wg [] [] (rn (wg [2] [] ?_))))))
    cases h
    exact wp_ret (show fnOut _ _ _ _ = _ from by kernel_rfl)
  refine sz 7 31 (rwg [1, 36] [0] ?_)
  refine rbr (S := fun b11 => ⟨[(1, .ptr 0 0 0), (36, vB b11)], (s12_2 p0), 127⟩) h (fun q12 h => ?_) (fun q12 h => ?_)
  · refine sz 8 39 (reg_end rfl (wcT (wp_seq (wg [] [] (rn (wg [2] [] ?_))))))
    cases h
    exact wp_ret (show fnOut _ _ _ _ = _ from by kernel_rfl)
  refine sz 2 33 ?_
  refine lenZ (enc := (eL true eI)) (l := p0.Rows) (fl := false) (by kernel_rfl) ?_
  refine sz 5 39 (reg_end rfl ?_)
  refine wbz h (fun q14 h => ?_) (fun q14 h => ?_)
  · refine wp_seq (wg [] [] (rn (wg [2] [] ?_)))
    cases h
    exact wp_ret (show fnOut _ _ _ _ = _ from by kernel_rfl)
  refine wp_skip (wp_seq (wp_seq (wg [1] [0] (rn (wp_block ?_)))))
  refine wwh h (fun s15 => ⟨[(1, .ptr 0 0 0), (3, vI s15)], (s12_2 p0), 127⟩) (fun x out => out = match x with | .inl v => .go (.ret) ⟨[(2, vB false)], [], 127⟩ | .inr v => .go (.exit 0) ⟨[], [], 127⟩) (wk_gc (live := [1, 3]) (keep := [0]) (by kernel_rfl)) ?_ ?_
  · intro s15 o h
    unfold g_ref14_Right_b1 at h
    refine wp_seq (wp_seq (reg_in (sz 3 3 ?_)))
    refine lenZ (enc := (eL true eI)) (l := p0.Rows) (fl := false) (by kernel_rfl) ?_
    refine sz 1 5 (reg_end rfl ?_)
    refine wbz h (fun q17 h => ?_) (fun q17 h => ?_)
    · refine wp_skip (wp_seq (wp_block (wp_seq (wp_seq (wg [1, 3] [0] (rga hfol (sy 3 3 ?_)))))))
      refine bind_elim h (fun a18 q19 h => ?_)
      refine idxZ (enc := (eL true eI)) (l := p0.Rows) (n := s15) (fl := false) (w := 1) (a := a18) (by kernel_rfl) q19 ?_
      refine sy 1 5 ?_
      refine lenZ (enc := eI) (l := a18) (fl := true) (by kernel_rfl) ?_
      refine sy 2 8 ?_
      refine rbr (S := fun b20 => ⟨[(1, .ptr 0 0 0), (3, vI s15), (52, .ptr 0 0 3), (53, eL false (eL true eI) p0.Rows), (54, vI s15), (55, .fz [eL true eI a18]), (56, eL true eI a18), (57, vI (a18.length : Int)), (58, vB b20), (59, vB b20)], (s12_2 p0), 127⟩) h (fun q21 h => ?_) (fun q21 h => ?_)
      · refine sy 22 30 (rgd (wcT (wp_seq (wg [] [] (rn ?_)))))
        refine wgc [2] [] ⟨[(2, vB false)], [], 127⟩ ?_
        refine wp_ret ?_
        cases h
        exact ⟨rfl, rfl⟩
      refine sy 3 11 ?_
      refine idxZ (enc := (eL true eI)) (l := p0.Rows) (n := s15) (fl := false) (w := 1) (a := a18) (by kernel_rfl) q19 ?_
      refine sy 1 13 ?_
      refine lenZ (enc := eI) (l := a18) (fl := true) (by kernel_rfl) ?_
      refine sy 3 17 ?_
      refine rbr (S := fun b22 => ⟨[(1, .ptr 0 0 0), (3, vI s15), (52, .ptr 0 0 3), (53, eL false (eL true eI) p0.Rows), (54, vI s15), (55, .fz [eL true eI a18]), (56, eL true eI a18), (57, vI (a18.length : Int)), (58, vB false), (59, vB false), (60, .ptr 0 0 3), (61, eL false (eL true eI) p0.Rows), (62, vI s15)] ++ [(63, .fz [eL true eI a18]), (64, eL true eI a18), (65, vI (a18.length : Int)), (66, vB b22), (67, vB b22), (68, vB b22)], (s12_2 p0), 127⟩) h (fun q23 h => ?_) (fun q23 h => ?_)
      · refine sy 13 30 (rgd (wcT (wp_seq (wg [] [] (rn ?_)))))
        refine wgc [2] [] ⟨[(2, vB false)], [], 127⟩ ?_
        refine wp_ret ?_
        cases h
        exact ⟨rfl, rfl⟩
      refine sy 3 20 ?_
      refine idxZ (enc := (eL true eI)) (l := p0.Rows) (n := s15) (fl := false) (w := 1) (a := a18) (by kernel_rfl) q19 ?_
      refine sy 1 22 ?_
      refine lenZ (enc := eI) (l := a18) (fl := true) (by kernel_rfl) ?_
      refine sy 2 25 ?_
      refine bind_elim h (fun a24 q25 h => ?_)
      refine idxZ (enc := (eL true eI)) (l := p0.Rows) (n := 0) (fl := false) (w := 1) (a := a24) (by kernel_rfl) q25 ?_
      refine sgy 1 27 (S := ⟨[(1, .ptr 0 0 0), (3, vI s15), (52, .ptr 0 0 3), (53, eL false (eL true eI) p0.Rows), (54, vI s15), (55, .fz [eL true eI a18]), (56, eL true eI a18), (57, vI (a18.length : Int)), (58, vB false), (59, vB false), (60, .ptr 0 0 3), (61, eL false (eL true eI) p0.Rows), (62, vI s15), (63, .fz [eL true eI a18]), (64, eL true eI a18), (65, vI (a18.length : Int)), (66, vB false), (67, vB false), (68, vB false), (69, .ptr 0 0 3), (70, eL false (eL true eI) p0.Rows), (71, vI s15), (72, .fz [eL true eI a18]), (73, eL true eI a18), (74, vI (a18.length : Int)), (75, .ptr 0 0 3), (76, eL false (eL true eI) p0.Rows), (77, .fz [eL true eI a24]), (78, eL true eI a24)], (s12_2 p0), 127⟩) ?_
      refine lenZ (enc := eI) (l := a24) (fl := true) (by kernel_rfl) ?_
      refine sy 2 30 (rgd ?_)
      refine wbz h (fun q27 h => ?_) (fun q27 h => ?_)
      · refine wp_seq (wg [] [] (rn ?_))
        refine wgc [2] [] ⟨[(2, vB false)], [], 127⟩ ?_
        refine wp_ret ?_
        cases h
        exact ⟨rfl, rfl⟩
      refine wp_skip (wp_seq (wg [1, 3] [0] (rn (wp_seq (sq (wp_block ?_))))))
      refine wwh h (fun s28 => ⟨[(1, .ptr 0 0 0), (3, vI s15), (4, vI s28.1), (5, vI s28.2)], (s12_2 p0), 127⟩) (fun x out => out = match x with | .inl v => .go (.ret) ⟨[(2, vB false)], [], 127⟩ | .inr v => .go (.exit 2) ⟨[(1, .ptr 0 0 0), (3, vI s15), (4, vI v)], (s12_2 p0), 127⟩) (wk_gc (live := [1, 3, 4, 5]) (keep := [0]) (by kernel_rfl)) ?_ ?_
      · intro s28 o h
        unfold g_ref14_Right_b0 at h
        refine wp_seq (wp_seq (reg_in (sz 4 4 ?_)))
        refine idxZ (enc := (eL true eI)) (l := p0.Rows) (n := s15) (fl := false) (w := 1) (a := a18) (by kernel_rfl) q19 ?_
        refine sz 1 6 ?_
        refine lenZ (enc := eI) (l := a18) (fl := true) (by kernel_rfl) ?_
        refine sz 1 8 (reg_end rfl ?_)
        refine wbz h (fun q30 h => ?_) (fun q30 h => ?_)
        · refine wp_skip (wp_seq (wp_block (wp_seq (wp_seq (wg [1, 3, 4, 5] [0] (reg_in (sz 3 3 ?_)))))))
          refine idxZ (enc := (eL true eI)) (l := p0.Rows) (n := s15) (fl := false) (w := 1) (a := a18) (by kernel_rfl) q19 ?_
          refine sz 2 6 ?_
          refine bind_elim h (fun a31 q32 h => ?_)
          refine idxZ (enc := eI) (l := a18) (n := s28.2) (fl := true) (w := 1) (a := a31) (by kernel_rfl) q32 ?_
          refine sz 3 10 ?_
          refine rw_wk (wk_gc (live := [1, 3, 4, 5, 103]) (keep := [0]) (st' := ⟨[(1, .ptr 0 0 0), (3, vI s15), (4, vI s28.1), (5, vI s28.2), (103, vB (decide (a31 < 0)))], (s12_2 p0), 127⟩) (by kernel_rfl)) ?_
          refine rbr (S := fun b33 => ⟨[(1, .ptr 0 0 0), (3, vI s15), (4, vI s28.1), (5, vI s28.2), (103, vB b33)], (s12_2 p0), 127⟩) h (fun q34 h => ?_) (fun q34 h => ?_)
          · refine sz 11 21 (reg_end rfl (wcT (wp_seq (wg [] [] (rn ?_)))))
            refine wgc [2] [] ⟨[(2, vB false)], [], 127⟩ ?_
            refine wp_ret ?_
            cases h
            exact ⟨rfl, rfl⟩
          refine sz 3 13 ?_
          refine idxZ (enc := (eL true eI)) (l := p0.Rows) (n := s15) (fl := false) (w := 1) (a := a18) (by kernel_rfl) q19 ?_
          refine sz 2 16 ?_
          refine idxZ (enc := eI) (l := a18) (n := s28.2) (fl := true) (w := 1) (a := a31) (by kernel_rfl) q32 ?_
          refine sz 4 21 (reg_end rfl ?_)
          refine wbz h (fun q36 h => ?_) (fun q36 h => ?_)
          · refine wp_seq (wg [] [] (rn ?_))
            refine wgc [2] [] ⟨[(2, vB false)], [], 127⟩ ?_
            refine wp_ret ?_
            cases h
            exact ⟨rfl, rfl⟩
          refine wp_skip (wg [1, 3, 4, 5] [0] (reg_in (sz 4 4 ?_)))
          refine idxZ (enc := (eL true eI)) (l := p0.Rows) (n := s15) (fl := false) (w := 1) (a := a18) (by kernel_rfl) q19 ?_
          refine sz 2 7 ?_
          refine idxZ (enc := eI) (l := a18) (n := s28.2) (fl := true) (w := 1) (a := a31) (by kernel_rfl) q32 ?_
          refine sz 3 11 (reg_end rfl ?_)
          refine wgc [1, 3, 4, 5] [0] ⟨[(1, .ptr 0 0 0), (3, vI s15), (4, vI (IntKind.i64.wrap (s28.1 - a31))), (5, vI s28.2)], (s12_2 p0), 127⟩ ?_
          refine rn ?_
          cases h
          exact ⟨_, rfl, (wk_gc (live := [1, 3, 4, 5]) (keep := [0]) (by kernel_rfl))⟩
        refine wgc [1, 3, 4] [0] ⟨[(1, .ptr 0 0 0), (3, vI s15), (4, vI s28.1)], (s12_2 p0), 127⟩ ?_
        refine wp_exit ?_
        cases h
        exact ⟨rfl, rfl⟩
      intro x37 h out hx
      subst hx
      rcases x37 with x38 | x39
      · dsimp only at h ⊢
        cases h
        exact ⟨rfl, rfl⟩
      · dsimp only at h ⊢
        refine sq ?_
        refine wbr (S := fun b40 => ⟨[(1, .ptr 0 0 0), (3, vI s15), (4, vI x39), (125, vI x39), (126, vB b40)], (s12_2 p0), 127⟩) h (fun q41 h => ?_) (fun q41 h => ?_)
        · refine wcT (wp_seq (wg [] [] (rn ?_)))
          refine wgc [2] [] ⟨[(2, vB false)], [], 127⟩ ?_
          refine wp_ret ?_
          cases h
          exact ⟨rfl, rfl⟩
        refine wcF (wp_skip (rn ?_))
        cases h
        exact ⟨_, rfl, (wk_gc (live := [1, 3]) (keep := [0]) (by kernel_rfl))⟩
    refine wgc [] [] ⟨[], [], 127⟩ ?_
    refine wp_exit ?_
    cases h
    exact ⟨rfl, rfl⟩
  intro x42 h out hx
  subst hx
  rcases x42 with x43 | x44
  · dsimp only at h ⊢
    cases h
    show fnOut _ _ _ _ = _
    kernel_rfl
  · dsimp only at h ⊢
    refine sq (wg [2] [] ?_)
    cases h
    exact wp_ret (show fnOut _ _ _ _ = _ from by kernel_rfl)
noncomputable abbrev s46_2 (p0 : Tapi_Lift) : List AObj := [oX true false 4 (.agg [vI p0.Grain, vI p0.Count, vI p0.One, eL false (eL true eI) p0.Rows])]
theorem g_ref14_Errors_ok (p0 : Tapi_Lift) (p1 : Int) (p2 : Int) (p3 : Int) (x : Int) (h : g_ref14_Errors p0 p1 p2 p3 = some x) : CallOk Try.prog 46 [.agg [vI p0.Grain, vI p0.Count, vI p0.One, eL false (eL true eI) p0.Rows], vI p1, vI p2, vI p3] (.ret (vI x) []) := by
  refine fn_ok [] Try.func46 rfl (by decide +kernel) rfl ?_
  unfold g_ref14_Errors at h
  refine wp_eqB (base' := 0) (st' := ⟨[(0, .agg [vI p0.Grain, vI p0.Count, vI p0.One, eL false (eL true eI) p0.Rows]), (1, vI p1), (2, vI p2), (3, vI p3)], [], 45⟩) rfl (by kernel_rfl) ?_
  refine wp_seq (reg_in ?_)
  refine sl false [] [] false rfl ?_
  refine sz 1 2 (reg_end rfl (wp_seq (wp_seq (reg_in (sz 1 1 ?_)))))
  refine callZ (as0 := [.agg [vI p0.Grain, vI p0.Count, vI p0.One, eL false (eL true eI) p0.Rows]]) (ids := []) (by kernel_rfl) bodyB_12 (msnap_cons (snap_agg (msnap_cons rfl (msnap_cons rfl (msnap_cons rfl (msnap_cons rfl msnap_nil))))) msnap_nil) (fun x1 q2 => g_ref14_Right_ok p0 x1 q2) h (fun x1 q2 h => ?_)
  refine sz 1 3 (reg_end rfl ?_)
  refine wbz h (fun q4 h => ?_) (fun q4 h => ?_)
  · refine wp_seq (wg [] [] (rn (wg [8] [] ?_)))
    cases h
    exact wp_ret (show fnOut _ _ _ _ = _ from by kernel_rfl)
  refine wp_skip (wp_seq (wp_seq (wg [1, 2, 3, 4] [0] (reg_in (sz 3 3 ?_)))))
  refine rbr (S := fun b5 => ⟨[(1, vI p1), (2, vI p2), (3, vI p3), (4, .ptr 0 0 0), (12, vI p1), (13, vB b5), (14, vB b5)], (s46_2 p0), 45⟩) h (fun q6 h => ?_) (fun q6 h => ?_)
  · refine sz 30 33 (reg_end rfl (wcT (wp_seq (wg [] [] (rn (wg [8] [] ?_))))))
    cases h
    exact wp_ret (show fnOut _ _ _ _ = _ from by kernel_rfl)
  refine sz 6 9 (rwg [1, 2, 3, 4, 20] [0] ?_)
  refine rbr (S := fun b7 => ⟨[(1, vI p1), (2, vI p2), (3, vI p3), (4, .ptr 0 0 0), (20, vB b7)], (s46_2 p0), 45⟩) h (fun q8 h => ?_) (fun q8 h => ?_)
  · refine sz 24 33 (reg_end rfl (wcT (wp_seq (wg [] [] (rn (wg [8] [] ?_))))))
    cases h
    exact wp_ret (show fnOut _ _ _ _ = _ from by kernel_rfl)
  refine sz 4 13 (rwg [1, 2, 3, 4, 24] [0] ?_)
  refine rbr (S := fun b9 => ⟨[(1, vI p1), (2, vI p2), (3, vI p3), (4, .ptr 0 0 0), (24, vB b9)], (s46_2 p0), 45⟩) h (fun q10 h => ?_) (fun q10 h => ?_)
  · refine sz 20 33 (reg_end rfl (wcT (wp_seq (wg [] [] (rn (wg [8] [] ?_))))))
    cases h
    exact wp_ret (show fnOut _ _ _ _ = _ from by kernel_rfl)
  refine sz 8 21 (rwg [3, 4, 32] [0] ?_)
  refine rbr (S := fun b11 => ⟨[(3, vI p3), (4, .ptr 0 0 0), (32, vB b11)], (s46_2 p0), 45⟩) h (fun q12 h => ?_) (fun q12 h => ?_)
  · refine sz 12 33 (reg_end rfl (wcT (wp_seq (wg [] [] (rn (wg [8] [] ?_))))))
    cases h
    exact wp_ret (show fnOut _ _ _ _ = _ from by kernel_rfl)
  refine sz 4 25 (rwg [3, 4, 36] [0] ?_)
  refine rbr (S := fun b13 => ⟨[(3, vI p3), (4, .ptr 0 0 0), (36, vB b13)], (s46_2 p0), 45⟩) h (fun q14 h => ?_) (fun q14 h => ?_)
  · refine sz 8 33 (reg_end rfl (wcT (wp_seq (wg [] [] (rn (wg [8] [] ?_))))))
    cases h
    exact wp_ret (show fnOut _ _ _ _ = _ from by kernel_rfl)
  refine sz 3 28 ?_
  refine bind_elim h (fun a15 q16 h => ?_)
  refine idxZ (enc := (eL true eI)) (l := p0.Rows) (n := 0) (fl := false) (w := 1) (a := a15) (by kernel_rfl) q16 ?_
  refine sz 1 30 ?_
  refine lenZ (enc := eI) (l := a15) (fl := true) (by kernel_rfl) ?_
  refine sz 2 33 (reg_end rfl ?_)
  refine wbz h (fun q18 h => ?_) (fun q18 h => ?_)
  · refine wp_seq (wg [] [] (rn (wg [8] [] ?_)))
    cases h
    exact wp_ret (show fnOut _ _ _ _ = _ from by kernel_rfl)
  refine wp_skip (wp_seq (wg [] [] (rn (wg [8] [] ?_))))
  cases h
  exact wp_ret (show fnOut _ _ _ _ = _ from by kernel_rfl)
theorem g_ref14_Total_ok (p0 : (List Int)) (x : Int) (h : g_ref14_Total p0 = some x) : CallOk Try.prog 47 [eL true eI p0] (.ret (vI x) []) := by
  refine fn_ok [] Try.func47 rfl (by decide +kernel) rfl ?_
  unfold g_ref14_Total at h
  refine wp_eqB (base' := 0) (st' := ⟨[(0, eL true eI p0)], [], 18⟩) rfl (by kernel_rfl) ?_
  refine sq (sq (wp_seq (sq (wp_block ?_))))
  refine wwh h (fun s1 => ⟨[(0, eL true eI p0), (3, vI s1.1), (4, vI s1.2)], [], 18⟩) (fun v out => out = .go (.exit 0) ⟨[(3, vI v)], [], 18⟩) (wk_gc (live := [0, 3, 4]) (keep := []) (by kernel_rfl)) ?_ ?_
  · intro s1 o h
    unfold g_ref14_Total_b0 at h
    refine wp_seq (wp_seq (reg_in (sz 2 2 ?_)))
    refine lenZ (enc := eI) (l := p0) (fl := true) (by kernel_rfl) ?_
    refine sz 1 4 (reg_end rfl ?_)
    refine wbr (S := fun b2 => ⟨[(0, eL true eI p0), (3, vI s1.1), (4, vI s1.2), (5, vI s1.2), (6, eL true eI p0), (7, vI (p0.length : Int)), (8, vB b2)], [], 18⟩) h (fun q3 h => ?_) (fun q3 h => ?_)
    · refine wcT (wp_skip (wp_seq (wp_block (reg_in (sz 3 3 ?_)))))
      refine bind_elim h (fun a4 q5 h => ?_)
      refine idxZ (enc := eI) (l := p0) (n := s1.2) (fl := true) (w := 1) (a := a4) (by kernel_rfl) q5 ?_
      refine sz 3 7 (reg_end rfl (wg [0, 3, 4] [] (rn ?_)))
      cases h
      exact ⟨_, rfl, (wk_gc (live := [0, 3, 4]) (keep := []) (by kernel_rfl))⟩
    refine wcF ?_
    refine wgc [3] [] ⟨[(3, vI s1.1)], [], 18⟩ ?_
    refine wp_exit ?_
    cases h
    exact ⟨rfl, rfl⟩
  intro x7 h out hx
  subst hx
  refine sq (wg [2] [] ?_)
  cases h
  exact wp_ret (show fnOut _ _ _ _ = _ from by kernel_rfl)
noncomputable abbrev s48_1 (p0 : Tapi_Lift) (p1 : Int) (p2 : Int) (p3 : Int) : List (Nat × AV) := [(0, .agg [vI p0.Grain, vI p0.Count, vI p0.One, eL false (eL true eI) p0.Rows]), (1, vI p1), (2, vI p2), (3, vI p3)]
noncomputable abbrev s48_33 (p0 : Tapi_Lift) (s1 : (Int × (List Int))) : List AObj := [oX true false 4 (.agg [vI p0.Grain, vI p0.Count, vI p0.One, eL false (eL true eI) p0.Rows]), oR true 1 eI s1.2]
noncomputable abbrev s48_42 (p1 : Int) (p2 : Int) (p3 : Int) (s1 : (Int × (List Int))) (s4 : (Int × Int × Bool × Int)) : List (Nat × AV) := [(1, vI p1), (2, vI p2), (3, vI p3), (4, .ptr 0 0 0), (9, .ref 1 0 s1.2.length), (10, vI s1.1), (11, vI s4.1), (12, vI s4.2.1), (13, vB s4.2.2.1), (14, vI s4.2.2.2)]
theorem g_ref14_Weights_ok (p0 : Tapi_Lift) (p1 : Int) (p2 : Int) (p3 : Int) (x : (List Int)) (h : g_ref14_Weights p0 p1 p2 p3 = some x) : CallOk Try.prog 48 [.agg [vI p0.Grain, vI p0.Count, vI p0.One, eL false (eL true eI) p0.Rows], vI p1, vI p2, vI p3] (.ret (.ref 0 0 x.length) [oR true 1 eI x]) := by
  refine fn_ok [] Try.func48 rfl (by decide +kernel) rfl ?_
  unfold g_ref14_Weights at h
  refine wp_eqB (base' := 0) (st' := ⟨(s48_1 p0 p1 p2 p3), [], 99⟩) rfl (by kernel_rfl) ?_
  refine wp_seq (reg_in ?_)
  refine sl false [] [] false rfl ?_
  refine sz 1 2 (reg_end rfl (wp_seq (reg_in ?_)))
  refine sgz 3 3 (S := ⟨(s48_1 p0 p1 p2 p3) ++ [(4, .ptr 0 0 0), (8, .nils), (15, .ptr 0 0 1), (16, vI p0.Count), (17, vI (IntKind.i64.wrap (p0.Count + 1)))], [oX true false 4 (.agg [vI p0.Grain, vI p0.Count, vI p0.One, eL false (eL true eI) p0.Rows])], 99⟩) ?_
  refine mkL (enc := eI) (z := (0 : Int)) (z0 := vI 0) (n := IntKind.i64.wrap (p0.Count + 1)) (m := IntKind.i64.wrap (p0.Count + 1)) (w := 1) (bytes := 8) (S := ⟨(s48_1 p0 p1 p2 p3) ++ [(4, .ptr 0 0 0), (8, .nils), (15, .ptr 0 0 1), (16, vI p0.Count), (17, vI (IntKind.i64.wrap (p0.Count + 1))), (18, .ref 1 0 ((List.replicate (Int.toNat (IntKind.i64.wrap (p0.Count + 1))) (0 : Int)).length))], [oX true false 4 (.agg [vI p0.Grain, vI p0.Count, vI p0.One, eL false (eL true eI) p0.Rows]), oR true 1 eI (List.replicate (Int.toNat (IntKind.i64.wrap (p0.Count + 1))) (0 : Int))], 99⟩) [] true (by kernel_rfl) rfl (by kernel_rfl) (by kernel_rfl) h (fun h => ?_)
  refine sz 1 5 (reg_end rfl (wp_seq (wp_seq (wg [1, 2, 3, 4, 9] [0, 1] (rn (wp_block ?_))))))
  refine wwh h (fun s1 => ⟨[(1, vI p1), (2, vI p2), (3, vI p3), (4, .ptr 0 0 0), (9, .ref 1 0 s1.2.length), (10, vI s1.1)], (s48_33 p0 s1), 99⟩) (fun v out => out = .go (.exit 0) ⟨[(9, .ref 0 0 v.length)], [oR true 1 eI v], 99⟩) (wk_gc (live := [1, 2, 3, 4, 9, 10]) (keep := [0, 1]) (by kernel_rfl)) ?_ ?_
  · intro s1 o h
    unfold g_ref14_Weights_b1 at h
    refine wp_seq (wp_seq (reg_in ?_))
    refine sgz 4 4 (S := ⟨[(1, vI p1), (2, vI p2), (3, vI p3), (4, .ptr 0 0 0), (9, .ref 1 0 s1.2.length), (10, vI s1.1), (19, vI s1.1), (20, .ptr 0 0 1), (21, vI p0.Count), (22, .int .u64 (IntKind.u64.wrap (p0.Count)))], (s48_33 p0 s1), 99⟩) ?_
    refine shlR (k := .i64) (k' := .u64) (a := 1) (b := IntKind.u64.wrap (p0.Count)) (S := ⟨[(1, vI p1), (2, vI p2), (3, vI p3), (4, .ptr 0 0 0), (9, .ref 1 0 s1.2.length), (10, vI s1.1), (19, vI s1.1), (20, .ptr 0 0 1), (21, vI p0.Count), (22, .int .u64 (IntKind.u64.wrap (p0.Count)))] ++ [(23, vI (IntKind.i64.wrap (1 * 2 ^ min (Int.toNat (IntKind.u64.wrap (p0.Count))) (IntKind.bits .i64))))], (s48_33 p0 s1), 99⟩) (by kernel_rfl) (by kernel_rfl) h (fun h => ?_)
    refine sz 1 6 (reg_end rfl ?_)
    refine wbz h (fun q3 h => ?_) (fun q3 h => ?_)
    · refine wp_skip (wp_seq (wp_block (wp_seq (wg [1, 2, 3, 4, 9, 10] [0, 1] (rn (wp_seq (sq (wp_block ?_))))))))
      refine wwh h (fun s4 => ⟨(s48_42 p1 p2 p3 s1 s4), (s48_33 p0 s1), 99⟩) (fun v out => out = .go (.exit 2) ⟨[(1, vI p1), (2, vI p2), (3, vI p3), (4, .ptr 0 0 0), (9, .ref 1 0 s1.2.length), (10, vI s1.1), (11, vI v.1), (12, vI v.2.1), (13, vB v.2.2)], (s48_33 p0 s1), 99⟩) (wk_gc (live := [1, 2, 3, 4, 9, 10, 11, 12, 13, 14]) (keep := [0, 1]) (by kernel_rfl)) ?_ ?_
      · intro s4 o h
        unfold g_ref14_Weights_b0 at h
        refine wp_seq (sq ?_)
        refine wbr (S := fun b5 => ⟨(s48_42 p1 p2 p3 s1 s4) ++ [(27, vI s4.2.2.2), (28, .ptr 0 0 1), (29, vI p0.Count), (30, vB b5)], (s48_33 p0 s1), 99⟩) h (fun q6 h => ?_) (fun q6 h => ?_)
        · refine wcT (wp_skip (wp_seq (wp_block (wp_seq (reg_in ?_)))))
          refine sgz 3 3 (S := ⟨(s48_42 p1 p2 p3 s1 s4) ++ [(27, vI s4.2.2.2), (28, .ptr 0 0 1), (29, vI p0.Count), (30, vB true), (33, vI s1.1), (34, vI s4.2.2.2), (35, .int .u64 (IntKind.u64.wrap (s4.2.2.2)))], (s48_33 p0 s1), 99⟩) ?_
          refine shrR (k := .i64) (k' := .u64) (a := s1.1) (b := IntKind.u64.wrap (s4.2.2.2)) (S := ⟨(s48_42 p1 p2 p3 s1 s4) ++ [(27, vI s4.2.2.2), (28, .ptr 0 0 1), (29, vI p0.Count), (30, vB true), (33, vI s1.1), (34, vI s4.2.2.2), (35, .int .u64 (IntKind.u64.wrap (s4.2.2.2))), (36, vI (Int.fdiv s1.1 (2 ^ min (Int.toNat (IntKind.u64.wrap (s4.2.2.2))) (IntKind.bits .i64))))], (s48_33 p0 s1), 99⟩) (by kernel_rfl) (by kernel_rfl) h (fun h => ?_)
          refine sz 2 6 (reg_end rfl ?_)
          refine wbz h (fun q8 h => ?_) (fun q8 h => ?_)
          · refine wp_seq (wg [1, 2, 3, 4, 9, 10, 11, 12, 13, 14] [0, 1] (rn (sq (wg [1, 2, 3, 4, 9, 10, 11, 12, 13, 14] [0, 1] (reg_in (sz 2 2 ?_))))))
            refine rbr (S := fun b9 => ⟨[(1, vI p1), (2, vI p2), (3, vI p3), (4, .ptr 0 0 0), (9, .ref 1 0 s1.2.length), (10, vI s1.1), (11, vI (IntKind.i64.wrap (s4.1 + 1))), (12, vI (IntKind.i64.wrap (s4.2.1 * p0.One))), (13, vB b9), (14, vI s4.2.2.2), (45, vB b9), (46, vB b9)], (s48_33 p0 s1), 99⟩) h (fun q10 h => ?_) (fun q10 h => ?_)
            · refine sz 5 7 (reg_end rfl (wg [1, 2, 3, 4, 9, 10, 11, 12, 13, 14] [0, 1] (rn ?_)))
              cases h
              exact ⟨_, rfl, (wk_gc (live := [1, 2, 3, 4, 9, 10, 11, 12, 13, 14]) (keep := [0, 1]) (by kernel_rfl))⟩
            refine sz 5 7 (reg_end rfl (wg [1, 2, 3, 4, 9, 10, 11, 12, 13, 14] [0, 1] (rn ?_)))
            cases h
            exact ⟨_, rfl, (wk_gc (live := [1, 2, 3, 4, 9, 10, 11, 12, 13, 14]) (keep := [0, 1]) (by kernel_rfl))⟩
          refine wp_seq (wg [1, 2, 3, 4, 9, 10, 11, 12, 13, 14] [0, 1] (rn (wg [1, 2, 3, 4, 9, 10, 11, 12, 13, 14] [0, 1] (reg_in (sz 2 2 ?_)))))
          refine rbr (S := fun b11 => ⟨[(1, vI p1), (2, vI p2), (3, vI p3), (4, .ptr 0 0 0), (9, .ref 1 0 s1.2.length), (10, vI s1.1), (11, vI s4.1), (12, vI (IntKind.i64.wrap (s4.2.1 * (IntKind.i64.wrap (p0.Grain - p0.One))))), (13, vB b11), (14, vI s4.2.2.2), (58, vB b11), (59, vB b11)], (s48_33 p0 s1), 99⟩) h (fun q12 h => ?_) (fun q12 h => ?_)
          · refine sz 4 6 (rwg [1, 2, 3, 4, 9, 10, 11, 12, 14, 59, 63] [0, 1] ?_)
            refine rbr (S := fun b13 => ⟨[(1, vI p1), (2, vI p2), (3, vI p3), (4, .ptr 0 0 0), (9, .ref 1 0 s1.2.length), (10, vI s1.1), (11, vI s4.1), (12, vI (IntKind.i64.wrap (s4.2.1 * (IntKind.i64.wrap (p0.Grain - p0.One))))), (14, vI s4.2.2.2), (59, vB true), (63, vB b13)], (s48_33 p0 s1), 99⟩) h (fun q14 h => ?_) (fun q14 h => ?_)
            · refine sz 8 14 (reg_end rfl (wg [1, 2, 3, 4, 9, 10, 11, 12, 14, 13] [0, 1] (rn ?_)))
              cases h
              exact ⟨_, rfl, (wk_gc (live := [1, 2, 3, 4, 9, 10, 11, 12, 13, 14]) (keep := [0, 1]) (by kernel_rfl))⟩
            refine sz 8 14 (reg_end rfl (wg [1, 2, 3, 4, 9, 10, 11, 12, 14, 13] [0, 1] (rn ?_)))
            cases h
            exact ⟨_, rfl, (wk_gc (live := [1, 2, 3, 4, 9, 10, 11, 12, 13, 14]) (keep := [0, 1]) (by kernel_rfl))⟩
          refine sz 12 14 (reg_end rfl (wg [1, 2, 3, 4, 9, 10, 11, 12, 13, 14] [0, 1] (rn ?_)))
          cases h
          exact ⟨_, rfl, (wk_gc (live := [1, 2, 3, 4, 9, 10, 11, 12, 13, 14]) (keep := [0, 1]) (by kernel_rfl))⟩
        refine wcF ?_
        refine wgc [1, 2, 3, 4, 9, 10, 11, 12, 13] [0, 1] ⟨[(1, vI p1), (2, vI p2), (3, vI p3), (4, .ptr 0 0 0), (9, .ref 1 0 s1.2.length), (10, vI s1.1), (11, vI s4.1), (12, vI s4.2.1), (13, vB s4.2.2.1)], (s48_33 p0 s1), 99⟩ ?_
        refine wp_exit ?_
        cases h
        exact ⟨rfl, rfl⟩
      intro x16 h out hx
      subst hx
      refine wp_seq (sq ?_)
      refine wbr (S := fun b17 => ⟨[(1, vI p1), (2, vI p2), (3, vI p3), (4, .ptr 0 0 0), (9, .ref 1 0 s1.2.length), (10, vI s1.1), (11, vI x16.1), (12, vI x16.2.1), (13, vB x16.2.2)] ++ [(71, vB x16.2.2), (72, vB b17)], (s48_33 p0 s1), 99⟩) h (fun q18 h => ?_) (fun q18 h => ?_)
      · refine wcT ?_
        refine wgc [1, 2, 3, 4, 9, 10] [0, 1] ⟨[(1, vI p1), (2, vI p2), (3, vI p3), (4, .ptr 0 0 0), (9, .ref 1 0 s1.2.length), (10, vI s1.1)], (s48_33 p0 s1), 99⟩ ?_
        refine wp_exit ?_
        refine rn ?_
        cases h
        exact ⟨_, rfl, (wk_gc (live := [1, 2, 3, 4, 9, 10]) (keep := [0, 1]) (by kernel_rfl))⟩
      refine wcF (wp_skip (wp_seq (sq ?_)))
      refine wbz h (fun q20 h => ?_) (fun q20 h => ?_)
      · refine wg [1, 2, 3, 4, 9, 10, 11, 12] [0, 1] (rn (reg_in (sz 4 4 ?_)))
        refine bind_elim h (fun a21 q22 h => ?_)
        refine idxY (enc := eI) (l := s1.2) (n := x16.1) (w := 1) (ob := 1) (ro := false) (nr := true) (fl := true) q22 ?_
        refine loadY (enc := eI) (l := s1.2) (n := x16.1) (w := 1) (ob := 1) (c := 0) (bx := false) (ro := false) (nr := true) (fl := true) q22 ?_
        refine sz 2 8 ?_
        refine idxR' (enc := eI) (l := s1.2) (n := x16.1) (w := 1) (ob := 1) (ro := false) (nr := true) (fl := true) (a := a21) (S := ⟨[(1, vI p1), (2, vI p2), (3, vI p3), (4, .ptr 0 0 0), (9, .ref 1 0 s1.2.length), (10, vI s1.1), (11, vI x16.1), (12, vI (IntKind.i64.wrap (x16.2.1 * p0.Grain))), (75, vI x16.2.1), (76, .ptr 0 0 0), (77, vI p0.Grain), (78, vI (IntKind.i64.wrap (x16.2.1 * p0.Grain))), (89, .ref 1 0 s1.2.length), (90, vI x16.1), (91, .ref 1 0 s1.2.length), (92, vI x16.1)] ++ [(93, .ptr 1 (Int.toNat x16.1) 0), (94, vI a21), (95, vI (IntKind.i64.wrap (x16.2.1 * p0.Grain))), (96, vI (IntKind.i64.wrap (a21 + (IntKind.i64.wrap (x16.2.1 * p0.Grain))))), (97, .ptr 1 (Int.toNat x16.1) 0)], (s48_33 p0 s1), 99⟩) (by kernel_rfl) (by kernel_rfl) (by kernel_rfl) q22 ?_
        refine storeR (enc := eI) (l := s1.2) (n := x16.1) (ob := 1) (c := 0) (a := a21) (a' := IntKind.i64.wrap (a21 + (IntKind.i64.wrap (x16.2.1 * p0.Grain)))) (v := vI (IntKind.i64.wrap (a21 + (IntKind.i64.wrap (x16.2.1 * p0.Grain))))) (S := ⟨[(1, vI p1), (2, vI p2), (3, vI p3), (4, .ptr 0 0 0), (9, .ref 1 0 s1.2.length), (10, vI s1.1), (11, vI x16.1), (12, vI (IntKind.i64.wrap (x16.2.1 * p0.Grain))), (75, vI x16.2.1), (76, .ptr 0 0 0), (77, vI p0.Grain), (78, vI (IntKind.i64.wrap (x16.2.1 * p0.Grain))), (89, .ref 1 0 s1.2.length), (90, vI x16.1), (91, .ref 1 0 s1.2.length), (92, vI x16.1)] ++ [(93, .ptr 1 (Int.toNat x16.1) 0), (94, vI a21), (95, vI (IntKind.i64.wrap (x16.2.1 * p0.Grain))), (96, vI (IntKind.i64.wrap (a21 + (IntKind.i64.wrap (x16.2.1 * p0.Grain))))), (97, .ptr 1 (Int.toNat x16.1) 0)], [oX true false 4 (.agg [vI p0.Grain, vI p0.Count, vI p0.One, eL false (eL true eI) p0.Rows]), oR true 1 eI (List.set s1.2 (Int.toNat x16.1) (IntKind.i64.wrap (a21 + (IntKind.i64.wrap (x16.2.1 * p0.Grain)))))], 99⟩) false (by kernel_rfl) rfl q22 (by kernel_rfl) rfl (by kernel_rfl) (by kernel_rfl) (by kernel_rfl) ?_
        refine rw_knN (n := s1.2.length) (m := (List.set s1.2 (Int.toNat x16.1) (IntKind.i64.wrap (a21 + (IntKind.i64.wrap (x16.2.1 * p0.Grain))))).length) (S := fun n23 => ⟨[(1, vI p1), (2, vI p2), (3, vI p3), (4, .ptr 0 0 0), (9, .ref 1 0 n23), (10, vI s1.1), (11, vI x16.1), (12, vI (IntKind.i64.wrap (x16.2.1 * p0.Grain))), (75, vI x16.2.1), (76, .ptr 0 0 0), (77, vI p0.Grain), (78, vI (IntKind.i64.wrap (x16.2.1 * p0.Grain))), (89, .ref 1 0 n23), (90, vI x16.1), (91, .ref 1 0 n23), (92, vI x16.1), (93, .ptr 1 (Int.toNat x16.1) 0), (94, vI a21), (95, vI (IntKind.i64.wrap (x16.2.1 * p0.Grain))), (96, vI (IntKind.i64.wrap (a21 + (IntKind.i64.wrap (x16.2.1 * p0.Grain))))), (97, .ptr 1 (Int.toNat x16.1) 0)], [oX true false 4 (.agg [vI p0.Grain, vI p0.Count, vI p0.One, eL false (eL true eI) p0.Rows]), oR true 1 eI (List.set s1.2 (Int.toNat x16.1) (IntKind.i64.wrap (a21 + (IntKind.i64.wrap (x16.2.1 * p0.Grain)))))], 99⟩) (by simp only [List.length_set]) ?_
        refine reg_end rfl (wg [1, 2, 3, 4, 9, 10] [0, 1] (rn ?_))
        cases h
        exact ⟨_, rfl, (wk_gc (live := [1, 2, 3, 4, 9, 10]) (keep := [0, 1]) (by kernel_rfl))⟩
      refine wg [1, 2, 3, 4, 9, 10, 11, 12] [0, 1] (reg_in (sz 4 4 ?_))
      refine bind_elim h (fun a24 q25 h => ?_)
      refine idxZ (enc := (eL true eI)) (l := p0.Rows) (n := x16.1) (fl := false) (w := 1) (a := a24) (by kernel_rfl) q25 ?_
      refine sz 2 7 ?_
      refine bind_elim h (fun a26 q27 h => ?_)
      refine idxZ (enc := eI) (l := a24) (n := p3) (fl := true) (w := 1) (a := a26) (by kernel_rfl) q27 ?_
      refine sz 3 11 (reg_end rfl ?_)
      refine wgc [1, 2, 3, 4, 9, 10, 11, 12] [0, 1] ⟨[(1, vI p1), (2, vI p2), (3, vI p3), (4, .ptr 0 0 0), (9, .ref 1 0 s1.2.length), (10, vI s1.1), (11, vI x16.1), (12, vI (IntKind.i64.wrap (x16.2.1 * a26)))], (s48_33 p0 s1), 99⟩ ?_
      refine reg_in (sz 4 4 ?_)
      refine bind_elim h (fun a28 q29 h => ?_)
      refine idxY (enc := eI) (l := s1.2) (n := x16.1) (w := 1) (ob := 1) (ro := false) (nr := true) (fl := true) q29 ?_
      refine loadY (enc := eI) (l := s1.2) (n := x16.1) (w := 1) (ob := 1) (c := 0) (bx := false) (ro := false) (nr := true) (fl := true) q29 ?_
      refine sz 2 8 ?_
      refine idxR' (enc := eI) (l := s1.2) (n := x16.1) (w := 1) (ob := 1) (ro := false) (nr := true) (fl := true) (a := a28) (S := ⟨[(1, vI p1), (2, vI p2), (3, vI p3), (4, .ptr 0 0 0), (9, .ref 1 0 s1.2.length), (10, vI s1.1), (11, vI x16.1), (12, vI (IntKind.i64.wrap (x16.2.1 * a26)))] ++ [(89, .ref 1 0 s1.2.length), (90, vI x16.1), (91, .ref 1 0 s1.2.length), (92, vI x16.1), (93, .ptr 1 (Int.toNat x16.1) 0), (94, vI a28), (95, vI (IntKind.i64.wrap (x16.2.1 * a26))), (96, vI (IntKind.i64.wrap (a28 + (IntKind.i64.wrap (x16.2.1 * a26)))))] ++ [(97, .ptr 1 (Int.toNat x16.1) 0)], (s48_33 p0 s1), 99⟩) (by kernel_rfl) (by kernel_rfl) (by kernel_rfl) q29 ?_
      refine storeR (enc := eI) (l := s1.2) (n := x16.1) (ob := 1) (c := 0) (a := a28) (a' := IntKind.i64.wrap (a28 + (IntKind.i64.wrap (x16.2.1 * a26)))) (v := vI (IntKind.i64.wrap (a28 + (IntKind.i64.wrap (x16.2.1 * a26))))) (S := ⟨[(1, vI p1), (2, vI p2), (3, vI p3), (4, .ptr 0 0 0), (9, .ref 1 0 s1.2.length), (10, vI s1.1), (11, vI x16.1), (12, vI (IntKind.i64.wrap (x16.2.1 * a26)))] ++ [(89, .ref 1 0 s1.2.length), (90, vI x16.1), (91, .ref 1 0 s1.2.length), (92, vI x16.1), (93, .ptr 1 (Int.toNat x16.1) 0), (94, vI a28), (95, vI (IntKind.i64.wrap (x16.2.1 * a26))), (96, vI (IntKind.i64.wrap (a28 + (IntKind.i64.wrap (x16.2.1 * a26)))))] ++ [(97, .ptr 1 (Int.toNat x16.1) 0)], [oX true false 4 (.agg [vI p0.Grain, vI p0.Count, vI p0.One, eL false (eL true eI) p0.Rows]), oR true 1 eI (List.set s1.2 (Int.toNat x16.1) (IntKind.i64.wrap (a28 + (IntKind.i64.wrap (x16.2.1 * a26)))))], 99⟩) false (by kernel_rfl) rfl q29 (by kernel_rfl) rfl (by kernel_rfl) (by kernel_rfl) (by kernel_rfl) ?_
      refine rw_knN (n := s1.2.length) (m := (List.set s1.2 (Int.toNat x16.1) (IntKind.i64.wrap (a28 + (IntKind.i64.wrap (x16.2.1 * a26))))).length) (S := fun n30 => ⟨[(1, vI p1), (2, vI p2), (3, vI p3), (4, .ptr 0 0 0), (9, .ref 1 0 n30), (10, vI s1.1), (11, vI x16.1), (12, vI (IntKind.i64.wrap (x16.2.1 * a26))), (89, .ref 1 0 n30), (90, vI x16.1), (91, .ref 1 0 n30), (92, vI x16.1), (93, .ptr 1 (Int.toNat x16.1) 0), (94, vI a28), (95, vI (IntKind.i64.wrap (x16.2.1 * a26))), (96, vI (IntKind.i64.wrap (a28 + (IntKind.i64.wrap (x16.2.1 * a26))))), (97, .ptr 1 (Int.toNat x16.1) 0)], [oX true false 4 (.agg [vI p0.Grain, vI p0.Count, vI p0.One, eL false (eL true eI) p0.Rows]), oR true 1 eI (List.set s1.2 (Int.toNat x16.1) (IntKind.i64.wrap (a28 + (IntKind.i64.wrap (x16.2.1 * a26)))))], 99⟩) (by simp only [List.length_set]) ?_
      refine reg_end rfl (wg [1, 2, 3, 4, 9, 10] [0, 1] (rn ?_))
      cases h
      exact ⟨_, rfl, (wk_gc (live := [1, 2, 3, 4, 9, 10]) (keep := [0, 1]) (by kernel_rfl))⟩
    refine wgc [9] [1] ⟨[(9, .ref 0 0 s1.2.length)], [oR true 1 eI s1.2], 99⟩ ?_
    refine wp_exit ?_
    cases h
    exact ⟨rfl, rfl⟩
  intro x32 h out hx
  subst hx
  refine sq (wg [8] [0] ?_)
  cases h
  exact wp_ret (show fnOut _ _ _ _ = _ from by kernel_rfl)
noncomputable abbrev s53_3 (p0 : (List Int)) (s1 : (Int × (List Tapi_Q))) : List (Nat × AV) := [(0, eL true eI p0), (3, .ref 0 0 s1.2.length), (4, vI s1.1), (5, vI s1.1), (6, eL true eI p0), (7, vI (p0.length : Int)), (8, vB true), (11, .ref 0 0 s1.2.length), (12, eL true eI p0), (13, vI s1.1)]
theorem g_ref14_Shared_ok (p0 : (List Int)) (x : (List Tapi_Q)) (h : g_ref14_Shared p0 = some x) : CallOk Try.prog 53 [eL true eI p0] (.ret (.ref 0 0 x.length) [oR true 2 eTapi_Q x]) := by
  refine fn_ok [] Try.func53 rfl (by decide +kernel) rfl ?_
  unfold g_ref14_Shared at h
  refine wp_eqB (base' := 0) (st' := ⟨[(0, eL true eI p0)], [], 22⟩) rfl (by kernel_rfl) ?_
  refine sq (sq (wp_seq (sq (wp_block ?_))))
  refine wwh h (fun s1 => ⟨[(0, eL true eI p0), (3, .ref 0 0 s1.2.length), (4, vI s1.1)], [oR true 2 eTapi_Q s1.2], 22⟩) (fun v out => out = .go (.exit 0) ⟨[(3, .ref 0 0 v.length)], [oR true 2 eTapi_Q v], 22⟩) (wk_trans (wk_gc (live := [0, 3, 4]) (keep := []) (st' := ⟨[(0, eL true eI p0), (3, .nils), (4, vI 0)], [], 22⟩) (by kernel_rfl)) (wk_trans (wk_nil 3 2 true true (st' := ⟨[(0, eL true eI p0), (3, .ref 0 0 0), (4, vI 0)], [.row false false true true 2 []], 22⟩) (by kernel_rfl)) (wk_gc (live := [0, 3, 4]) (keep := [0]) (by kernel_rfl)))) ?_ ?_
  · intro s1 o h
    unfold g_ref14_Shared_b0 at h
    refine wp_seq (wp_seq (reg_in (sz 2 2 ?_)))
    refine lenZ (enc := eI) (l := p0) (fl := true) (by kernel_rfl) ?_
    refine sz 1 4 (reg_end rfl ?_)
    refine wbr (S := fun b2 => ⟨[(0, eL true eI p0), (3, .ref 0 0 s1.2.length), (4, vI s1.1), (5, vI s1.1), (6, eL true eI p0), (7, vI (p0.length : Int)), (8, vB b2)], [oR true 2 eTapi_Q s1.2], 22⟩) h (fun q3 h => ?_) (fun q3 h => ?_)
    · refine wcT (wp_skip (wp_seq (wp_block (rga hfol (sy 3 3 ?_)))))
      refine bind_elim h (fun a4 q5 h => ?_)
      refine idxZ (enc := eI) (l := p0) (n := s1.1) (fl := true) (w := 1) (a := a4) (by kernel_rfl) q5 ?_
      refine sy 2 6 ?_
      refine callY (f := 47) (as0 := [eL true eI p0]) (us := [eL true eI p0]) (G := g_ref14_Total p0) (rv := fun x6 => vI x6) (ro := fun x6 => []) bodyB_47 (fun x6 q7 => g_ref14_Total_ok p0 x6 q7) h (fun x6 q7 h => ?_)
      refine callY (f := 28) (as0 := [vI a4, vI x6]) (us := [vI a4, vI x6]) (G := g_ref01_Of a4 x6) (rv := fun x8 => .agg [vI x8.N, vI x8.D]) (ro := fun x8 => []) bodyB_28 (fun x8 q9 => g_ref01_Of_ok a4 x6 x8 q9) h (fun x8 q9 h => ?_)
      refine sgL false [] [] true (S := ⟨(s53_3 p0 s1) ++ [(14, .fz [vI a4]), (15, vI a4), (16, eL true eI p0), (17, vI x6), (18, .agg [vI x8.N, vI x8.D]), (19, .ref 1 0 1)], [oR true 2 eTapi_Q s1.2, .row false false true true 2 [.agg [vI x8.N, vI x8.D]]], 22⟩) (by kernel_rfl) ?_
      refine appR (enc := eTapi_Q) (l := s1.2) (m := ([x8] : (List Tapi_Q))) (w := 2) (bytes := 16) (ob := 0) (nr := true) (fl := true) (nr' := true) (fl' := true) (b := .ref 1 0 1) (rds := [1]) (S := ⟨(s53_3 p0 s1) ++ [(14, .fz [vI a4]), (15, vI a4), (16, eL true eI p0), (17, vI x6), (18, .agg [vI x8.N, vI x8.D]), (19, .ref 1 0 1), (20, .ref 2 0 ((s1.2 ++ ([x8] : (List Tapi_Q))).length))], [.dead, .row false false true true 2 [.agg [vI x8.N, vI x8.D]], oR true 2 eTapi_Q (s1.2 ++ ([x8] : (List Tapi_Q)))], 22⟩) false (by kernel_rfl) rfl (by kernel_rfl) rfl (by kernel_rfl) (by kernel_rfl) h (fun h => ?_)
      refine sy 1 11 (rgd (wg [0, 3, 4] [2] (rn ?_)))
      cases h
      exact ⟨_, rfl, (wk_gc (live := [0, 3, 4]) (keep := [0]) (by kernel_rfl))⟩
    refine wcF ?_
    refine wgc [3] [0] ⟨[(3, .ref 0 0 s1.2.length)], [oR true 2 eTapi_Q s1.2], 22⟩ ?_
    refine wp_exit ?_
    cases h
    exact ⟨rfl, rfl⟩
  intro x11 h out hx
  subst hx
  refine sq (wg [2] [0] ?_)
  cases h
  exact wp_ret (show fnOut _ _ _ _ = _ from by kernel_rfl)
noncomputable abbrev s49_1 (p0 : Tapi_Lift) : List AObj := [oX true false 4 (.agg [vI p0.Grain, vI p0.Count, vI p0.One, eL false (eL true eI) p0.Rows])]
theorem g_ref14_Whole_ok (p0 : Tapi_Lift) (x : Int) (h : g_ref14_Whole p0 = some x) : CallOk Try.prog 49 [.agg [vI p0.Grain, vI p0.Count, vI p0.One, eL false (eL true eI) p0.Rows]] (.ret (vI x) []) := by
  refine fn_ok [] Try.func49 rfl (by decide +kernel) rfl ?_
  unfold g_ref14_Whole at h
  refine wp_eqB (base' := 0) (st' := ⟨[(0, .agg [vI p0.Grain, vI p0.Count, vI p0.One, eL false (eL true eI) p0.Rows])], [], 18⟩) rfl (by kernel_rfl) ?_
  refine wp_seq (reg_in ?_)
  refine sl false [] [] false rfl ?_
  refine sz 1 2 (reg_end rfl (sq (wp_seq (sq (wp_block ?_)))))
  refine wwh h (fun s1 => ⟨[(1, .ptr 0 0 0), (3, vI s1.1), (4, vI s1.2)], (s49_1 p0), 18⟩) (fun v out => out = .go (.exit 0) ⟨[(3, vI v)], [], 18⟩) (wk_gc (live := [1, 3, 4]) (keep := [0]) (by kernel_rfl)) ?_ ?_
  · intro s1 o h
    unfold g_ref14_Whole_b0 at h
    refine wp_seq (sq ?_)
    refine wbr (S := fun b2 => ⟨[(1, .ptr 0 0 0), (3, vI s1.1), (4, vI s1.2), (7, vI s1.2), (8, .ptr 0 0 1), (9, vI p0.Count), (10, vB b2)], (s49_1 p0), 18⟩) h (fun q3 h => ?_) (fun q3 h => ?_)
    · refine wcT (wp_skip (wp_seq (wp_block (rn (wg [1, 3, 4] [0] (rn ?_))))))
      cases h
      exact ⟨_, rfl, (wk_gc (live := [1, 3, 4]) (keep := [0]) (by kernel_rfl))⟩
    refine wcF ?_
    refine wgc [3] [] ⟨[(3, vI s1.1)], [], 18⟩ ?_
    refine wp_exit ?_
    cases h
    exact ⟨rfl, rfl⟩
  intro x5 h out hx
  subst hx
  refine sq (wg [2] [] ?_)
  cases h
  exact wp_ret (show fnOut _ _ _ _ = _ from by kernel_rfl)
noncomputable abbrev s20_2 (p0 : Tapi_Lift) : List AObj := [oX true false 4 (.agg [vI p0.Grain, vI p0.Count, vI p0.One, eL false (eL true eI) p0.Rows]), oX true true 2 (.agg [vI 0, vI 0])]
theorem g_ref14_Prob_ok (p0 : Tapi_Lift) (p1 : Int) (p2 : Int) (p3 : Int) (x : (Tapi_Q × Int)) (h : g_ref14_Prob p0 p1 p2 p3 = some x) : CallOk Try.prog 20 [.agg [vI p0.Grain, vI p0.Count, vI p0.One, eL false (eL true eI) p0.Rows], vI p1, vI p2, vI p3] (.ret (.tup [.agg [vI x.1.N, vI x.1.D], vI x.2]) []) := by
  refine fn_ok [] Try.func20 rfl (by decide +kernel) rfl ?_
  unfold g_ref14_Prob at h
  refine wp_eqB (base' := 0) (st' := ⟨[(0, .agg [vI p0.Grain, vI p0.Count, vI p0.One, eL false (eL true eI) p0.Rows]), (1, vI p1), (2, vI p2), (3, vI p3)], [], 29⟩) rfl (by kernel_rfl) ?_
  refine wp_seq (reg_in ?_)
  refine sl false [] [] false rfl ?_
  refine sz 2 3 (reg_end rfl (wp_seq (wp_seq (reg_in (sz 4 4 ?_)))))
  refine callZ (as0 := [.agg [vI p0.Grain, vI p0.Count, vI p0.One, eL false (eL true eI) p0.Rows], vI p1, vI p2, vI p3]) (ids := []) (by kernel_rfl) bodyB_46 (msnap_cons (snap_agg (msnap_cons rfl (msnap_cons rfl (msnap_cons rfl (msnap_cons rfl msnap_nil))))) (msnap_cons rfl (msnap_cons rfl (msnap_cons rfl msnap_nil)))) (fun x1 q2 => g_ref14_Errors_ok p0 p1 p2 p3 x1 q2) h (fun x1 q2 h => ?_)
  refine sz 1 6 (reg_end rfl (wp_seq (wg [1, 2, 3, 4, 8, 10] [0, 1] ?_)))
  refine rgN (S := ⟨[(1, vI p1), (2, vI p2), (3, vI p3), (4, .ptr 0 0 0), (8, .ptr 1 0 0), (10, vI x1), (16, vI x1), (17, vB (x1 != 0))], (s20_2 p0), 29⟩) ?_
  refine wbr (S := fun b3 => ⟨[(1, vI p1), (2, vI p2), (3, vI p3), (4, .ptr 0 0 0), (8, .ptr 1 0 0), (10, vI x1), (16, vI x1), (17, vB b3)], (s20_2 p0), 29⟩) h (fun q4 h => ?_) (fun q4 h => ?_)
  · refine wcT (wp_seq (wg [8, 10] [1] (rn (wg [8, 9] [0] ?_))))
    cases h
    exact wp_ret (show fnOut _ _ _ _ = _ from by kernel_rfl)
  refine wcF (wp_skip (wp_seq (rga hfol (sy 4 4 ?_))))
  refine callR (as0 := [.agg [vI p0.Grain, vI p0.Count, vI p0.One, eL false (eL true eI) p0.Rows], vI p1, vI p2, vI p3]) (ids := []) (S := fun x5 => ⟨[(1, vI p1), (2, vI p2), (3, vI p3), (4, .ptr 0 0 0), (8, .ptr 1 0 0), (10, vI x1), (16, vI x1), (17, vB false), (20, .agg [vI p0.Grain, vI p0.Count, vI p0.One, eL false (eL true eI) p0.Rows]), (21, vI p1), (22, vI p2), (23, vI p3)] ++ [(24, .ref 2 0 x5.length)], [oX true false 4 (.agg [vI p0.Grain, vI p0.Count, vI p0.One, eL false (eL true eI) p0.Rows]), oX true true 2 (.agg [vI 0, vI 0]), oR true 1 eI x5], 29⟩) (by kernel_rfl) bodyB_48 (msnap_cons (snap_agg (msnap_cons rfl (msnap_cons rfl (msnap_cons rfl (msnap_cons rfl msnap_nil))))) (msnap_cons rfl (msnap_cons rfl (msnap_cons rfl msnap_nil)))) (fun x5 q6 => g_ref14_Weights_ok p0 p1 p2 p3 x5 q6) (fun _ => by kernel_rfl) h (fun x5 q6 h => ?_)
  refine callZ (as0 := [.ref 2 0 x5.length]) (ids := [2]) (by kernel_rfl) bodyB_47 (msnap_cons (snap_full rfl) msnap_nil (by rfl)) (fun x7 q8 => g_ref14_Total_ok x5 x7 q8) h (fun x7 q8 h => ?_)
  refine sy 1 7 ?_
  refine callZ (as0 := [.agg [vI p0.Grain, vI p0.Count, vI p0.One, eL false (eL true eI) p0.Rows]]) (ids := []) (by kernel_rfl) bodyB_49 (msnap_cons (snap_agg (msnap_cons rfl (msnap_cons rfl (msnap_cons rfl (msnap_cons rfl msnap_nil))))) msnap_nil) (fun x9 q10 => g_ref14_Whole_ok p0 x9 q10) h (fun x9 q10 h => ?_)
  refine callY (f := 28) (as0 := [vI x7, vI x9]) (us := [vI x7, vI x9]) (G := g_ref01_Of x7 x9) (rv := fun x11 => .agg [vI x11.N, vI x11.D]) (ro := fun x11 => []) bodyB_28 (fun x11 q12 => g_ref01_Of_ok x7 x9 x11 q12) h (fun x11 q12 h => ?_)
  refine sy 2 11 (rgd (wg [8, 9] [1] ?_))
  cases h
  exact wp_ret (show fnOut _ _ _ _ = _ from by kernel_rfl)
noncomputable abbrev s22_2 (p0 : Tapi_Lift) : List AObj := [oX true false 4 (.agg [vI p0.Grain, vI p0.Count, vI p0.One, eL false (eL true eI) p0.Rows])]
theorem g_ref14_Ones_ok (p0 : Tapi_Lift) (p1 : Int) (p2 : Int) (p3 : Int) (x : ((List Tapi_Q) × Int)) (h : g_ref14_Ones p0 p1 p2 p3 = some x) : CallOk Try.prog 22 [.agg [vI p0.Grain, vI p0.Count, vI p0.One, eL false (eL true eI) p0.Rows], vI p1, vI p2, vI p3] (.ret (.tup [.ref 0 0 x.1.length, vI x.2]) [oR true 2 eTapi_Q x.1]) := by
  refine fn_ok [] Try.func22 rfl (by decide +kernel) rfl ?_
  unfold g_ref14_Ones at h
  refine wp_eqB (base' := 0) (st' := ⟨[(0, .agg [vI p0.Grain, vI p0.Count, vI p0.One, eL false (eL true eI) p0.Rows]), (1, vI p1), (2, vI p2), (3, vI p3)], [], 30⟩) rfl (by kernel_rfl) ?_
  refine wp_seq (reg_in ?_)
  refine sl false [] [] false rfl ?_
  refine sz 2 3 (reg_end rfl (wp_seq (wp_seq (reg_in (sz 4 4 ?_)))))
  refine callZ (as0 := [.agg [vI p0.Grain, vI p0.Count, vI p0.One, eL false (eL true eI) p0.Rows], vI p1, vI p2, vI p3]) (ids := []) (by kernel_rfl) bodyB_46 (msnap_cons (snap_agg (msnap_cons rfl (msnap_cons rfl (msnap_cons rfl (msnap_cons rfl msnap_nil))))) (msnap_cons rfl (msnap_cons rfl (msnap_cons rfl msnap_nil)))) (fun x1 q2 => g_ref14_Errors_ok p0 p1 p2 p3 x1 q2) h (fun x1 q2 h => ?_)
  refine sz 1 6 (reg_end rfl (wp_seq (wg [1, 2, 3, 4, 10] [0] ?_)))
  refine rgN (S := ⟨[(1, vI p1), (2, vI p2), (3, vI p3), (4, .ptr 0 0 0), (10, vI x1), (17, vI x1), (18, vB (x1 != 0))], (s22_2 p0), 30⟩) ?_
  refine wbr (S := fun b3 => ⟨[(1, vI p1), (2, vI p2), (3, vI p3), (4, .ptr 0 0 0), (10, vI x1), (17, vI x1), (18, vB b3)], (s22_2 p0), 30⟩) h (fun q4 h => ?_) (fun q4 h => ?_)
  · refine wcT (wp_seq (wg [10] [] (rn ?_)))
    refine wgc [8, 9] [] ⟨[(8, .nils), (9, vI x1)], [], 30⟩ ?_
    refine wp_wk (wk_nil 8 2 true true (st' := ⟨[(8, .ref 0 0 0), (9, vI x1)], [.row false false true true 2 []], 30⟩) (by kernel_rfl)) ?_
    cases h
    exact wp_ret (show fnOut _ _ _ _ = _ from by kernel_rfl)
  refine wcF (wp_skip (wp_seq (reg_in (sz 4 4 ?_))))
  refine callZ (as0 := [.agg [vI p0.Grain, vI p0.Count, vI p0.One, eL false (eL true eI) p0.Rows], vI p1, vI p2, vI p3]) (ids := []) (by kernel_rfl) bodyB_48 (msnap_cons (snap_agg (msnap_cons rfl (msnap_cons rfl (msnap_cons rfl (msnap_cons rfl msnap_nil))))) (msnap_cons rfl (msnap_cons rfl (msnap_cons rfl msnap_nil)))) (fun x5 q6 => g_ref14_Weights_ok p0 p1 p2 p3 x5 q6) h (fun x5 q6 h => ?_)
  refine sz 1 6 (reg_end rfl (wp_seq (wp_seq (wg [11] [1] (reg_in ?_)))))
  refine sgz 1 1 (S := ⟨[(11, .ref 0 0 x5.length), (25, .ref 0 0 x5.length)], [oR true 1 eI x5], 30⟩) ?_
  refine callZ (as0 := [.ref 0 0 x5.length]) (ids := [0]) (by kernel_rfl) bodyB_47 (msnap_cons (snap_full rfl) msnap_nil (by rfl)) (fun x7 q8 => g_ref14_Total_ok x5 x7 q8) h (fun x7 q8 h => ?_)
  refine sz 1 3 (reg_end rfl ?_)
  refine wbr (S := fun b9 => ⟨[(11, .ref 0 0 x5.length), (25, .ref 0 0 x5.length), (26, vI x7), (27, vB b9)], [oR true 1 eI x5], 30⟩) h (fun q10 h => ?_) (fun q10 h => ?_)
  · refine wcT (sq ?_)
    refine wgc [8, 9] [] ⟨[(8, .nils), (9, vI 7)], [], 30⟩ ?_
    refine wp_wk (wk_nil 8 2 true true (st' := ⟨[(8, .ref 0 0 0), (9, vI 7)], [.row false false true true 2 []], 30⟩) (by kernel_rfl)) ?_
    cases h
    exact wp_ret (show fnOut _ _ _ _ = _ from by kernel_rfl)
  refine wcF (wp_skip (wp_seq (reg_in ?_)))
  refine sgz 1 1 (S := ⟨[(11, .ref 0 0 x5.length), (25, .ref 0 0 x5.length), (26, vI x7), (27, vB false), (28, .ref 0 0 x5.length)], [oR true 1 eI x5], 30⟩) ?_
  refine callZ (as0 := [.ref 0 0 x5.length]) (ids := [0]) (by kernel_rfl) bodyB_53 (msnap_cons (snap_full rfl) msnap_nil (by rfl)) (fun x11 q12 => g_ref14_Shared_ok x5 x11 q12) h (fun x11 q12 h => ?_)
  refine sz 2 4 (reg_end rfl (wg [8, 9] [1] ?_))
  cases h
  exact wp_ret (show fnOut _ _ _ _ = _ from by kernel_rfl)
end Go.Ab
