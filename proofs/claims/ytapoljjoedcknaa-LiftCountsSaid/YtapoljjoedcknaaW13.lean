/- What functions compute. No conditions. -/
import Derived.Test.YtapoljjoedcknaaProg
import Derived.Test.YtapoljjoedcknaaW8
import Derived.KernelRfl
import Derived.Test.YtapoljjoedcknaaW12
import Derived.Test.YtapoljjoedcknaaEng7
import Derived.IntWalk
set_option linter.all false
namespace Go.Ab
open Go Go.Proofs
set_option maxRecDepth 100000
set_option maxHeartbeats 4000000
noncomputable abbrev s4_5 (x5 : (Tapi_Lift × Tapi_Lift × Tapi_Lift)) : List (Nat × AV) := [(4, .ptr 0 0 0), (7, .ptr 1 0 0), (26, .agg [vI x5.1.Grain, vI x5.1.Count, vI x5.1.One, eL false (eL true eI) x5.1.Rows, vI x5.2.1.Grain, vI x5.2.1.Count, vI x5.2.1.One, eL false (eL true eI) x5.2.1.Rows, vI x5.2.2.Grain, vI x5.2.2.Count, vI x5.2.2.One, eL false (eL true eI) x5.2.2.Rows]), (27, vI 0)]
noncomputable abbrev s4_47 (x5 : (Tapi_Lift × Tapi_Lift × Tapi_Lift)) : List (Nat × AV) := [(4, .ptr 0 0 0), (7, .ptr 1 0 0), (26, .agg [vI x5.1.Grain, vI x5.1.Count, vI x5.1.One, eL false (eL true eI) x5.1.Rows, vI x5.2.1.Grain, vI x5.2.1.Count, vI x5.2.1.One, eL false (eL true eI) x5.2.1.Rows, vI x5.2.2.Grain, vI x5.2.2.Count, vI x5.2.2.One, eL false (eL true eI) x5.2.2.Rows]), (27, vI 1)]
noncomputable abbrev s4_55 (x5 : (Tapi_Lift × Tapi_Lift × Tapi_Lift)) (p3 : Tharuspexlaw14_Known) (x13 : Tharuspexlaw14_Known) : List (Nat × AV) := [(4, .ptr 0 0 0), (7, .ptr 1 0 0), (10, .ptr 2 0 0), (26, .agg [vI x5.1.Grain, vI x5.1.Count, vI x5.1.One, eL false (eL true eI) x5.1.Rows, vI x5.2.1.Grain, vI x5.2.1.Count, vI x5.2.1.One, eL false (eL true eI) x5.2.1.Rows, vI x5.2.2.Grain, vI x5.2.2.Count, vI x5.2.2.One, eL false (eL true eI) x5.2.2.Rows]), (27, vI 0), (35, .agg [vI p3.Zeros, vI p3.Ones, vI p3.Child, vI x13.Zeros, vI x13.Ones, vI x13.Child]), (36, vI 0)]
noncomputable abbrev s4_80 (x5 : (Tapi_Lift × Tapi_Lift × Tapi_Lift)) (p3 : Tharuspexlaw14_Known) (x13 : Tharuspexlaw14_Known) : List (Nat × AV) := [(4, .ptr 0 0 0), (7, .ptr 1 0 0), (10, .ptr 2 0 0), (26, .agg [vI x5.1.Grain, vI x5.1.Count, vI x5.1.One, eL false (eL true eI) x5.1.Rows, vI x5.2.1.Grain, vI x5.2.1.Count, vI x5.2.1.One, eL false (eL true eI) x5.2.1.Rows, vI x5.2.2.Grain, vI x5.2.2.Count, vI x5.2.2.One, eL false (eL true eI) x5.2.2.Rows]), (27, vI 0), (35, .agg [vI p3.Zeros, vI p3.Ones, vI p3.Child, vI x13.Zeros, vI x13.Ones, vI x13.Child]), (36, vI 1)]
noncomputable abbrev s4_81 (x5 : (Tapi_Lift × Tapi_Lift × Tapi_Lift)) (p3 : Tharuspexlaw14_Known) (x13 : Tharuspexlaw14_Known) (s15 : Int) : List (Nat × AV) := [(4, .ptr 0 0 0), (7, .ptr 1 0 0), (10, .ptr 2 0 0), (26, .agg [vI x5.1.Grain, vI x5.1.Count, vI x5.1.One, eL false (eL true eI) x5.1.Rows, vI x5.2.1.Grain, vI x5.2.1.Count, vI x5.2.1.One, eL false (eL true eI) x5.2.1.Rows, vI x5.2.2.Grain, vI x5.2.2.Count, vI x5.2.2.One, eL false (eL true eI) x5.2.2.Rows]), (27, vI 0), (35, .agg [vI p3.Zeros, vI p3.Ones, vI p3.Child, vI x13.Zeros, vI x13.Ones, vI x13.Child]), (36, vI s15)]
noncomputable abbrev s4_94 (x5 : (Tapi_Lift × Tapi_Lift × Tapi_Lift)) (p3 : Tharuspexlaw14_Known) (x62 : Tharuspexlaw14_Known) : List (Nat × AV) := [(4, .ptr 0 0 0), (7, .ptr 1 0 0), (10, .ptr 2 0 0), (26, .agg [vI x5.1.Grain, vI x5.1.Count, vI x5.1.One, eL false (eL true eI) x5.1.Rows, vI x5.2.1.Grain, vI x5.2.1.Count, vI x5.2.1.One, eL false (eL true eI) x5.2.1.Rows, vI x5.2.2.Grain, vI x5.2.2.Count, vI x5.2.2.One, eL false (eL true eI) x5.2.2.Rows]), (27, vI 1), (35, .agg [vI p3.Zeros, vI p3.Ones, vI p3.Child, vI x62.Zeros, vI x62.Ones, vI x62.Child]), (36, vI 0)]
noncomputable abbrev s4_120 (x5 : (Tapi_Lift × Tapi_Lift × Tapi_Lift)) (p3 : Tharuspexlaw14_Known) (x62 : Tharuspexlaw14_Known) : List (Nat × AV) := [(4, .ptr 0 0 0), (7, .ptr 1 0 0), (10, .ptr 2 0 0), (26, .agg [vI x5.1.Grain, vI x5.1.Count, vI x5.1.One, eL false (eL true eI) x5.1.Rows, vI x5.2.1.Grain, vI x5.2.1.Count, vI x5.2.1.One, eL false (eL true eI) x5.2.1.Rows, vI x5.2.2.Grain, vI x5.2.2.Count, vI x5.2.2.One, eL false (eL true eI) x5.2.2.Rows]), (27, vI 1), (35, .agg [vI p3.Zeros, vI p3.Ones, vI p3.Child, vI x62.Zeros, vI x62.Ones, vI x62.Child]), (36, vI 1)]
noncomputable abbrev s4_121 (x5 : (Tapi_Lift × Tapi_Lift × Tapi_Lift)) (p3 : Tharuspexlaw14_Known) (x62 : Tharuspexlaw14_Known) (s64 : Int) : List (Nat × AV) := [(4, .ptr 0 0 0), (7, .ptr 1 0 0), (10, .ptr 2 0 0), (26, .agg [vI x5.1.Grain, vI x5.1.Count, vI x5.1.One, eL false (eL true eI) x5.1.Rows, vI x5.2.1.Grain, vI x5.2.1.Count, vI x5.2.1.One, eL false (eL true eI) x5.2.1.Rows, vI x5.2.2.Grain, vI x5.2.2.Count, vI x5.2.2.One, eL false (eL true eI) x5.2.2.Rows]), (27, vI 1), (35, .agg [vI p3.Zeros, vI p3.Ones, vI p3.Child, vI x62.Zeros, vI x62.Ones, vI x62.Child]), (36, vI s64)]
noncomputable abbrev s4_134 (x5 : (Tapi_Lift × Tapi_Lift × Tapi_Lift)) (p3 : Tharuspexlaw14_Known) (x111 : Tharuspexlaw14_Known) : List (Nat × AV) := [(4, .ptr 0 0 0), (7, .ptr 1 0 0), (10, .ptr 2 0 0), (26, .agg [vI x5.1.Grain, vI x5.1.Count, vI x5.1.One, eL false (eL true eI) x5.1.Rows, vI x5.2.1.Grain, vI x5.2.1.Count, vI x5.2.1.One, eL false (eL true eI) x5.2.1.Rows, vI x5.2.2.Grain, vI x5.2.2.Count, vI x5.2.2.One, eL false (eL true eI) x5.2.2.Rows]), (27, vI 2), (35, .agg [vI p3.Zeros, vI p3.Ones, vI p3.Child, vI x111.Zeros, vI x111.Ones, vI x111.Child]), (36, vI 0)]
noncomputable abbrev s4_160 (x5 : (Tapi_Lift × Tapi_Lift × Tapi_Lift)) (p3 : Tharuspexlaw14_Known) (x111 : Tharuspexlaw14_Known) : List (Nat × AV) := [(4, .ptr 0 0 0), (7, .ptr 1 0 0), (10, .ptr 2 0 0), (26, .agg [vI x5.1.Grain, vI x5.1.Count, vI x5.1.One, eL false (eL true eI) x5.1.Rows, vI x5.2.1.Grain, vI x5.2.1.Count, vI x5.2.1.One, eL false (eL true eI) x5.2.1.Rows, vI x5.2.2.Grain, vI x5.2.2.Count, vI x5.2.2.One, eL false (eL true eI) x5.2.2.Rows]), (27, vI 2), (35, .agg [vI p3.Zeros, vI p3.Ones, vI p3.Child, vI x111.Zeros, vI x111.Ones, vI x111.Child]), (36, vI 1)]
noncomputable abbrev s4_161 (x5 : (Tapi_Lift × Tapi_Lift × Tapi_Lift)) : List (Nat × AV) := [(4, .ptr 0 0 0), (7, .ptr 1 0 0), (26, .agg [vI x5.1.Grain, vI x5.1.Count, vI x5.1.One, eL false (eL true eI) x5.1.Rows, vI x5.2.1.Grain, vI x5.2.1.Count, vI x5.2.1.One, eL false (eL true eI) x5.2.1.Rows, vI x5.2.2.Grain, vI x5.2.2.Count, vI x5.2.2.One, eL false (eL true eI) x5.2.2.Rows]), (27, vI 2)]
noncomputable abbrev s4_162 (x5 : (Tapi_Lift × Tapi_Lift × Tapi_Lift)) (p3 : Tharuspexlaw14_Known) (x111 : Tharuspexlaw14_Known) (s113 : Int) : List (Nat × AV) := [(4, .ptr 0 0 0), (7, .ptr 1 0 0), (10, .ptr 2 0 0), (26, .agg [vI x5.1.Grain, vI x5.1.Count, vI x5.1.One, eL false (eL true eI) x5.1.Rows, vI x5.2.1.Grain, vI x5.2.1.Count, vI x5.2.1.One, eL false (eL true eI) x5.2.1.Rows, vI x5.2.2.Grain, vI x5.2.2.Count, vI x5.2.2.One, eL false (eL true eI) x5.2.2.Rows]), (27, vI 2), (35, .agg [vI p3.Zeros, vI p3.Ones, vI p3.Child, vI x111.Zeros, vI x111.Ones, vI x111.Child]), (36, vI s113)]
noncomputable abbrev s4_164 (x5 : (Tapi_Lift × Tapi_Lift × Tapi_Lift)) (s7 : Int) : List (Nat × AV) := [(4, .ptr 0 0 0), (7, .ptr 1 0 0), (26, .agg [vI x5.1.Grain, vI x5.1.Count, vI x5.1.One, eL false (eL true eI) x5.1.Rows, vI x5.2.1.Grain, vI x5.2.1.Count, vI x5.2.1.One, eL false (eL true eI) x5.2.1.Rows, vI x5.2.2.Grain, vI x5.2.2.Count, vI x5.2.2.One, eL false (eL true eI) x5.2.2.Rows]), (27, vI s7)]
theorem g_law14_LiftCounts_ok (p0 : Tharuspexref14_Draft) (p1 : Tharuspexref14_Bend) (p2 : Tapi_Lift) (p3 : Tharuspexlaw14_Known) (x : Bool) (h : g_law14_LiftCounts p0 p1 p2 p3 = some x) : CallOk Try.prog 4 [.agg [.int .u8 p0.Grain, .int .u8 p0.Count, .int .u8 p0.One, .int .u8 p0.Card, eL true (AV.int .u8) p0.L], .agg [.int .u8 p1.What, .int .u8 p1.J, .int .u8 p1.At, vI p1.N], .agg [vI p2.Grain, vI p2.Count, vI p2.One, eL false (eL true eI) p2.Rows], .agg [vI p3.Zeros, vI p3.Ones, vI p3.Child]] (.ret (vB x) []) := by
  refine fn_ok [] Try.func4 rfl (by decide +kernel) rfl ?_
  unfold g_law14_LiftCounts at h
  refine wp_eqB (base' := 0) (st' := ⟨[(0, .agg [.int .u8 p0.Grain, .int .u8 p0.Count, .int .u8 p0.One, .int .u8 p0.Card, eL true (AV.int .u8) p0.L]), (1, .agg [.int .u8 p1.What, .int .u8 p1.J, .int .u8 p1.At, vI p1.N]), (2, .agg [vI p2.Grain, vI p2.Count, vI p2.One, eL false (eL true eI) p2.Rows]), (3, .agg [vI p3.Zeros, vI p3.Ones, vI p3.Child])], [], 104⟩) rfl (by as_aux_lemma => kernel_rfl) ?_
  refine wp_seq (reg_in ?_)
  refine sl false [] [] false rfl ?_
  refine sz 1 2 ?_
  refine sl false [] [] false rfl ?_
  refine sz 2 5 (reg_end rfl (wp_seq (wp_seq (wg [4, 5, 6, 7] [0, 1, 2, 3] (reg_in ?_)))))
  refine callZ (as0 := []) (ids := []) (by as_aux_lemma => kernel_rfl) bodyB_10 msnap_nil (fun x1 q2 => g_law14_wakes_ok  x1 q2) h (fun x1 q2 h => ?_)
  refine sgz 1 2 (S := ⟨[(4, .ptr 0 0 0), (5, .ptr 1 0 0), (6, .ptr 2 0 0), (7, .ptr 3 0 0), (21, vB x1), (22, vB (!x1))], [oX true false 5 (.agg [.int .u8 p0.Grain, .int .u8 p0.Count, .int .u8 p0.One, .int .u8 p0.Card, eL true (AV.int .u8) p0.L]), oX true true 4 (.agg [.int .u8 p1.What, .int .u8 p1.J, .int .u8 p1.At, vI p1.N]), oX true false 4 (.agg [vI p2.Grain, vI p2.Count, vI p2.One, eL false (eL true eI) p2.Rows]), oX true true 3 (.agg [vI p3.Zeros, vI p3.Ones, vI p3.Child])], 104⟩) ?_
  refine reg_end rfl ?_
  refine wbr (S := fun b3 => ⟨[(4, .ptr 0 0 0), (5, .ptr 1 0 0), (6, .ptr 2 0 0), (7, .ptr 3 0 0), (21, vB x1), (22, vB b3)], [oX true false 5 (.agg [.int .u8 p0.Grain, .int .u8 p0.Count, .int .u8 p0.One, .int .u8 p0.Card, eL true (AV.int .u8) p0.L]), oX true true 4 (.agg [.int .u8 p1.What, .int .u8 p1.J, .int .u8 p1.At, vI p1.N]), oX true false 4 (.agg [vI p2.Grain, vI p2.Count, vI p2.One, eL false (eL true eI) p2.Rows]), oX true true 3 (.agg [vI p3.Zeros, vI p3.Ones, vI p3.Child])], 104⟩) h (fun q4 h => ?_) (fun q4 h => ?_)
  · refine wcT (wp_seq (wg [] [] (rn (wg [8] [] ?_))))
    cases h
    exact wp_ret (show fnOut _ _ _ _ = _ from by kernel_rfl)
  refine wcF (wp_skip (wp_seq (wp_seq (reg_in (sz 3 3 ?_)))))
  refine callZ (as0 := [.agg [.int .u8 p0.Grain, .int .u8 p0.Count, .int .u8 p0.One, .int .u8 p0.Card, eL true (AV.int .u8) p0.L], .agg [.int .u8 p1.What, .int .u8 p1.J, .int .u8 p1.At, vI p1.N], .agg [vI p2.Grain, vI p2.Count, vI p2.One, eL false (eL true eI) p2.Rows]]) (ids := []) (by as_aux_lemma => kernel_rfl) bodyB_11 (msnap_cons (snap_agg (msnap_cons rfl (msnap_cons rfl (msnap_cons rfl (msnap_cons rfl (msnap_cons rfl msnap_nil)))))) (msnap_cons (snap_agg (msnap_cons rfl (msnap_cons rfl (msnap_cons rfl (msnap_cons rfl msnap_nil))))) (msnap_cons (snap_agg (msnap_cons rfl (msnap_cons rfl (msnap_cons rfl (msnap_cons rfl msnap_nil))))) msnap_nil))) (fun x5 q6 => g_law14_models_ok p0 p1 p2 x5 q6) h (fun x5 q6 h => ?_)
  refine sz 1 5 (reg_end rfl (wp_block ?_))
  refine wwh h (fun s7 => ⟨(s4_164 x5 s7), [oX true false 5 (.agg [.int .u8 p0.Grain, .int .u8 p0.Count, .int .u8 p0.One, .int .u8 p0.Card, eL true (AV.int .u8) p0.L]), oX true true 3 (.agg [vI p3.Zeros, vI p3.Ones, vI p3.Child])], 104⟩) (fun x out => out = match x with | .inl v => .go (.ret) ⟨[(8, vB false)], [], 104⟩ | .inr v => .go (.exit 0) ⟨[], [], 104⟩) (wk_gc (live := [4, 7, 26, 27]) (keep := [0, 3]) (by as_aux_lemma => kernel_rfl)) ?_ ?_
  · intro s7 o h
    unfold g_law14_LiftCounts_b3 at h
    refine sq (wp_seq ?_)
    refine wbr (S := fun b8 => ⟨(s4_164 x5 s7) ++ [(28, vB b8)], [oX true false 5 (.agg [.int .u8 p0.Grain, .int .u8 p0.Count, .int .u8 p0.One, .int .u8 p0.Card, eL true (AV.int .u8) p0.L]), oX true true 3 (.agg [vI p3.Zeros, vI p3.Ones, vI p3.Child])], 104⟩) h (fun q9 h => ?_) (fun q9 h => ?_)
    · refine wcT (wp_skip (wp_seq (wp_block (wp_seq (reg_in ?_)))))
      refine rw_eqI (n := s7) (m := 0) (S := fun n10 => ⟨[(4, .ptr 0 0 0), (7, .ptr 1 0 0), (26, .agg [vI x5.1.Grain, vI x5.1.Count, vI x5.1.One, eL false (eL true eI) x5.1.Rows, vI x5.2.1.Grain, vI x5.2.1.Count, vI x5.2.1.One, eL false (eL true eI) x5.2.1.Rows, vI x5.2.2.Grain, vI x5.2.2.Count, vI x5.2.2.One, eL false (eL true eI) x5.2.2.Rows]), (27, vI n10), (28, vB true)], [oX true false 5 (.agg [.int .u8 p0.Grain, .int .u8 p0.Count, .int .u8 p0.One, .int .u8 p0.Card, eL true (AV.int .u8) p0.L]), oX true true 3 (.agg [vI p3.Zeros, vI p3.Ones, vI p3.Child])], 104⟩) h (fun _ h => ?_) (fun _ h => ?_)
      · refine sz 1 1 ?_
        refine sl false [] [] false rfl ?_
        refine sz 1 3 (reg_end rfl (wp_seq (rga hfol (sy 3 3 ?_))))
        refine callR (as0 := [.agg [.int .u8 p0.Grain, .int .u8 p0.Count, .int .u8 p0.One, .int .u8 p0.Card, eL true (AV.int .u8) p0.L]]) (ids := []) (S := fun x11 => ⟨(s4_5 x5) ++ [(28, vB true), (29, .agg [vI x5.1.Grain, vI x5.1.Count, vI x5.1.One, eL false (eL true eI) x5.1.Rows]), (10, .ptr 2 0 0), (30, .agg [vI p3.Zeros, vI p3.Ones, vI p3.Child]), (31, .agg [vI p3.Zeros, vI p3.Ones, vI p3.Child]), (32, .agg [.int .u8 p0.Grain, .int .u8 p0.Count, .int .u8 p0.One, .int .u8 p0.Card, eL true (AV.int .u8) p0.L])] ++ [(33, .agg [vI x11.Grain, vI x11.Count, vI x11.One, .ref 3 0 x11.Rows.length])], [oX true false 5 (.agg [.int .u8 p0.Grain, .int .u8 p0.Count, .int .u8 p0.One, .int .u8 p0.Card, eL true (AV.int .u8) p0.L]), oX true true 3 (.agg [vI p3.Zeros, vI p3.Ones, vI p3.Child]), oX true false 4 (.agg [vI x5.1.Grain, vI x5.1.Count, vI x5.1.One, eL false (eL true eI) x5.1.Rows]), oR false 1 (eL true eI) x11.Rows], 104⟩) (by as_aux_lemma => kernel_rfl) bodyB_18 (msnap_cons (snap_agg (msnap_cons rfl (msnap_cons rfl (msnap_cons rfl (msnap_cons rfl (msnap_cons rfl msnap_nil)))))) msnap_nil) (fun x11 q12 => g_ref14_Draft_Lift_ok p0 x11 q12) (fun _ => by as_aux_lemma => kernel_rfl) h (fun x11 q12 h => ?_)
        refine callZ (as0 := [.agg [vI p3.Zeros, vI p3.Ones, vI p3.Child], .agg [vI x11.Grain, vI x11.Count, vI x11.One, .ref 3 0 x11.Rows.length]]) (ids := [3]) (by as_aux_lemma => kernel_rfl) bodyB_17 (msnap_cons (snap_agg (msnap_cons rfl (msnap_cons rfl (msnap_cons rfl msnap_nil (by rfl)) (by rfl)) (by rfl))) (msnap_cons (snap_agg (msnap_cons rfl (msnap_cons rfl (msnap_cons rfl (msnap_cons (snap_full rfl) msnap_nil (by rfl)) (by rfl)) (by rfl)) (by rfl))) msnap_nil (by rfl)) (by rfl)) (fun x13 q14 => g_law14_Known_Of_ok p3 x11 x13 q14) h (fun x13 q14 h => ?_)
        refine sy 2 7 (rgd (wp_block ?_))
        refine wwh h (fun s15 => ⟨(s4_81 x5 p3 x13 s15), [oX true false 5 (.agg [.int .u8 p0.Grain, .int .u8 p0.Count, .int .u8 p0.One, .int .u8 p0.Card, eL true (AV.int .u8) p0.L]), oX true true 3 (.agg [vI p3.Zeros, vI p3.Ones, vI p3.Child]), oX true false 4 (.agg [vI x5.1.Grain, vI x5.1.Count, vI x5.1.One, eL false (eL true eI) x5.1.Rows])], 104⟩) (fun x out => out = match x with | .inl v => .go (.ret) ⟨[(8, vB false)], [], 104⟩ | .inr v => .go (.exit 2) ⟨(s4_5 x5), [oX true false 5 (.agg [.int .u8 p0.Grain, .int .u8 p0.Count, .int .u8 p0.One, .int .u8 p0.Card, eL true (AV.int .u8) p0.L]), oX true true 3 (.agg [vI p3.Zeros, vI p3.Ones, vI p3.Child])], 104⟩) (wk_gc (live := [4, 7, 10, 26, 27, 35, 36]) (keep := [0, 1, 2]) (by as_aux_lemma => kernel_rfl)) ?_ ?_
        · intro s15 o h
          unfold g_law14_LiftCounts_b0 at h
          refine sq (wp_seq ?_)
          refine wbr (S := fun b16 => ⟨(s4_81 x5 p3 x13 s15) ++ [(37, vB b16)], [oX true false 5 (.agg [.int .u8 p0.Grain, .int .u8 p0.Count, .int .u8 p0.One, .int .u8 p0.Card, eL true (AV.int .u8) p0.L]), oX true true 3 (.agg [vI p3.Zeros, vI p3.Ones, vI p3.Child]), oX true false 4 (.agg [vI x5.1.Grain, vI x5.1.Count, vI x5.1.One, eL false (eL true eI) x5.1.Rows])], 104⟩) h (fun q17 h => ?_) (fun q17 h => ?_)
          · refine wcT (wp_skip (wp_seq (wp_block (wp_seq (reg_in ?_)))))
            refine rw_eqI (n := s15) (m := 0) (S := fun n18 => ⟨[(4, .ptr 0 0 0), (7, .ptr 1 0 0), (10, .ptr 2 0 0), (26, .agg [vI x5.1.Grain, vI x5.1.Count, vI x5.1.One, eL false (eL true eI) x5.1.Rows, vI x5.2.1.Grain, vI x5.2.1.Count, vI x5.2.1.One, eL false (eL true eI) x5.2.1.Rows, vI x5.2.2.Grain, vI x5.2.2.Count, vI x5.2.2.One, eL false (eL true eI) x5.2.2.Rows]), (27, vI 0), (35, .agg [vI p3.Zeros, vI p3.Ones, vI p3.Child, vI x13.Zeros, vI x13.Ones, vI x13.Child]), (36, vI n18), (37, vB true)], [oX true false 5 (.agg [.int .u8 p0.Grain, .int .u8 p0.Count, .int .u8 p0.One, .int .u8 p0.Card, eL true (AV.int .u8) p0.L]), oX true true 3 (.agg [vI p3.Zeros, vI p3.Ones, vI p3.Child]), oX true false 4 (.agg [vI x5.1.Grain, vI x5.1.Count, vI x5.1.One, eL false (eL true eI) x5.1.Rows])], 104⟩) h (fun _ h => ?_) (fun _ h => ?_)
            · refine sz 3 3 (reg_end rfl (wp_seq (reg_in (sz 7 7 ?_))))
              refine callZ (as0 := [.agg [vI x5.1.Grain, vI x5.1.Count, vI x5.1.One, eL false (eL true eI) x5.1.Rows], vI p3.Zeros, vI p3.Ones, vI p3.Child]) (ids := []) (by as_aux_lemma => kernel_rfl) bodyB_19 (msnap_cons (snap_agg (msnap_cons rfl (msnap_cons rfl (msnap_cons rfl (msnap_cons rfl msnap_nil))))) (msnap_cons rfl (msnap_cons rfl (msnap_cons rfl msnap_nil)))) (fun x19 q20 => g_lift_Prob_ok x5.1 p3.Zeros p3.Ones p3.Child x19 q20) h (fun x19 q20 h => ?_)
              refine sz 6 14 (reg_end rfl (wp_seq (wg [4, 7, 10, 26, 27, 35, 36, 12, 13, 14] [0, 1, 2, 3, 4] (reg_in (sz 7 7 ?_)))))
              refine callR (as0 := [.agg [vI x5.1.Grain, vI x5.1.Count, vI x5.1.One, eL false (eL true eI) x5.1.Rows], vI p3.Zeros, vI p3.Ones, vI p3.Child]) (ids := []) (S := fun x21 => ⟨[(4, .ptr 0 0 0), (7, .ptr 1 0 0), (10, .ptr 2 0 0), (26, .agg [vI x5.1.Grain, vI x5.1.Count, vI x5.1.One, eL false (eL true eI) x5.1.Rows, vI x5.2.1.Grain, vI x5.2.1.Count, vI x5.2.1.One, eL false (eL true eI) x5.2.1.Rows, vI x5.2.2.Grain, vI x5.2.2.Count, vI x5.2.2.One, eL false (eL true eI) x5.2.2.Rows]), (27, vI 0), (35, .agg [vI p3.Zeros, vI p3.Ones, vI p3.Child, vI x13.Zeros, vI x13.Ones, vI x13.Child]), (36, vI 0), (12, .ptr 3 0 0), (13, .ptr 4 0 0), (14, vI x19.2)] ++ [(51, .agg [vI x5.1.Grain, vI x5.1.Count, vI x5.1.One, eL false (eL true eI) x5.1.Rows]), (52, .ptr 3 0 0), (53, vI p3.Zeros), (54, .ptr 3 0 1), (55, vI p3.Ones), (56, .ptr 3 0 2), (57, vI p3.Child)] ++ [(58, .tup [.agg [vI x21.1.N, vI x21.1.D], vI x21.2])], [oX true false 5 (.agg [.int .u8 p0.Grain, .int .u8 p0.Count, .int .u8 p0.One, .int .u8 p0.Card, eL true (AV.int .u8) p0.L]), oX true true 3 (.agg [vI p3.Zeros, vI p3.Ones, vI p3.Child]), oX true false 4 (.agg [vI x5.1.Grain, vI x5.1.Count, vI x5.1.One, eL false (eL true eI) x5.1.Rows]), oX true true 3 (.agg [vI p3.Zeros, vI p3.Ones, vI p3.Child]), oX true true 2 (.agg [vI x19.1.N, vI x19.1.D])], 104⟩) (by as_aux_lemma => kernel_rfl) bodyB_20 (msnap_cons (snap_agg (msnap_cons rfl (msnap_cons rfl (msnap_cons rfl (msnap_cons rfl msnap_nil))))) (msnap_cons rfl (msnap_cons rfl (msnap_cons rfl msnap_nil)))) (fun x21 q22 => g_ref14_Prob_ok x5.1 p3.Zeros p3.Ones p3.Child x21 q22) (fun _ => by as_aux_lemma => kernel_rfl) h (fun x21 q22 h => ?_)
              refine sz 6 14 (reg_end rfl (wp_seq (wg [4, 7, 10, 26, 27, 35, 36, 12, 13, 14, 15, 16] [0, 1, 2, 3, 4, 5] (reg_in (sz 7 7 ?_)))))
              refine callZ (as0 := [.agg [vI x5.1.Grain, vI x5.1.Count, vI x5.1.One, eL false (eL true eI) x5.1.Rows], vI p3.Zeros, vI p3.Ones, vI p3.Child]) (ids := []) (by as_aux_lemma => kernel_rfl) bodyB_21 (msnap_cons (snap_agg (msnap_cons rfl (msnap_cons rfl (msnap_cons rfl (msnap_cons rfl msnap_nil))))) (msnap_cons rfl (msnap_cons rfl (msnap_cons rfl msnap_nil)))) (fun x23 q24 => g_lift_Ones_ok x5.1 p3.Zeros p3.Ones p3.Child x23 q24) h (fun x23 q24 h => ?_)
              refine sz 5 13 (reg_end rfl (wp_seq (wg [4, 7, 10, 26, 27, 35, 36, 12, 13, 14, 15, 16, 17, 18] [0, 1, 2, 3, 4, 5, 6] (reg_in ?_))))
              refine sgz 7 7 (S := ⟨[(4, .ptr 0 0 0), (7, .ptr 1 0 0), (10, .ptr 2 0 0), (26, .agg [vI x5.1.Grain, vI x5.1.Count, vI x5.1.One, eL false (eL true eI) x5.1.Rows, vI x5.2.1.Grain, vI x5.2.1.Count, vI x5.2.1.One, eL false (eL true eI) x5.2.1.Rows, vI x5.2.2.Grain, vI x5.2.2.Count, vI x5.2.2.One, eL false (eL true eI) x5.2.2.Rows]), (27, vI 0), (35, .agg [vI p3.Zeros, vI p3.Ones, vI p3.Child, vI x13.Zeros, vI x13.Ones, vI x13.Child]), (36, vI 0), (12, .ptr 3 0 0), (13, .ptr 4 0 0), (14, vI x19.2), (15, .ptr 5 0 0), (16, vI x21.2), (17, .ref 6 0 x23.1.length), (18, vI x23.2)] ++ [(73, .agg [vI x5.1.Grain, vI x5.1.Count, vI x5.1.One, eL false (eL true eI) x5.1.Rows]), (74, .ptr 3 0 0), (75, vI p3.Zeros), (76, .ptr 3 0 1), (77, vI p3.Ones), (78, .ptr 3 0 2), (79, vI p3.Child)], [oX true false 5 (.agg [.int .u8 p0.Grain, .int .u8 p0.Count, .int .u8 p0.One, .int .u8 p0.Card, eL true (AV.int .u8) p0.L]), oX true true 3 (.agg [vI p3.Zeros, vI p3.Ones, vI p3.Child]), oX true false 4 (.agg [vI x5.1.Grain, vI x5.1.Count, vI x5.1.One, eL false (eL true eI) x5.1.Rows]), oX true true 3 (.agg [vI p3.Zeros, vI p3.Ones, vI p3.Child]), oX true true 2 (.agg [vI x19.1.N, vI x19.1.D]), oX true true 2 (.agg [vI x21.1.N, vI x21.1.D]), oR true 2 eTapi_Q x23.1], 104⟩) ?_
              refine callZ (as0 := [.agg [vI x5.1.Grain, vI x5.1.Count, vI x5.1.One, eL false (eL true eI) x5.1.Rows], vI p3.Zeros, vI p3.Ones, vI p3.Child]) (ids := []) (by as_aux_lemma => kernel_rfl) bodyB_22 (msnap_cons (snap_agg (msnap_cons rfl (msnap_cons rfl (msnap_cons rfl (msnap_cons rfl msnap_nil))))) (msnap_cons rfl (msnap_cons rfl (msnap_cons rfl msnap_nil)))) (fun x25 q26 => g_ref14_Ones_ok x5.1 p3.Zeros p3.Ones p3.Child x25 q26) h (fun x25 q26 h => ?_)
              refine sz 5 13 (reg_end rfl (wp_seq (wg [4, 7, 10, 26, 27, 35, 36, 13, 14, 15, 16, 17, 18, 19, 20] [0, 1, 2, 4, 5, 6, 7] (reg_in (sz 4 4 (rwg [4, 7, 10, 26, 27, 35, 36, 14, 16, 17, 18, 19, 20, 86] [0, 1, 2, 5, 6] ?_))))))
              refine rbr (S := fun b27 => ⟨(s4_55 x5 p3 x13) ++ [(14, vI x19.2), (16, vI x21.2), (17, .ref 3 0 x23.1.length), (18, vI x23.2), (19, .ref 4 0 x25.1.length), (20, vI x25.2), (86, vB b27)], [oX true false 5 (.agg [.int .u8 p0.Grain, .int .u8 p0.Count, .int .u8 p0.One, .int .u8 p0.Card, eL true (AV.int .u8) p0.L]), oX true true 3 (.agg [vI p3.Zeros, vI p3.Ones, vI p3.Child]), oX true false 4 (.agg [vI x5.1.Grain, vI x5.1.Count, vI x5.1.One, eL false (eL true eI) x5.1.Rows]), oR true 2 eTapi_Q x23.1, oR true 2 eTapi_Q x25.1], 104⟩) h (fun q28 h => ?_) (fun q28 h => ?_)
              · refine sz 15 19 (reg_end rfl (wcT (wp_seq (wg [] [] (rn ?_)))))
                refine wgc [8] [] ⟨[(8, vB false)], [], 104⟩ ?_
                refine wp_ret ?_
                cases h
                exact ⟨rfl, rfl⟩
              refine sz 5 9 (rwg [4, 7, 10, 26, 27, 35, 36, 17, 18, 19, 20, 91] [0, 1, 2, 3, 4] ?_)
              refine rbr (S := fun b29 => ⟨(s4_55 x5 p3 x13) ++ [(17, .ref 3 0 x23.1.length), (18, vI x23.2), (19, .ref 4 0 x25.1.length), (20, vI x25.2), (91, vB b29)], [oX true false 5 (.agg [.int .u8 p0.Grain, .int .u8 p0.Count, .int .u8 p0.One, .int .u8 p0.Card, eL true (AV.int .u8) p0.L]), oX true true 3 (.agg [vI p3.Zeros, vI p3.Ones, vI p3.Child]), oX true false 4 (.agg [vI x5.1.Grain, vI x5.1.Count, vI x5.1.One, eL false (eL true eI) x5.1.Rows]), oR true 2 eTapi_Q x23.1, oR true 2 eTapi_Q x25.1], 104⟩) h (fun q30 h => ?_) (fun q30 h => ?_)
              · refine sz 10 19 (reg_end rfl (wcT (wp_seq (wg [] [] (rn ?_)))))
                refine wgc [8] [] ⟨[(8, vB false)], [], 104⟩ ?_
                refine wp_ret ?_
                cases h
                exact ⟨rfl, rfl⟩
              refine sz 5 14 (rwg [4, 7, 10, 26, 27, 35, 36, 17, 19, 96] [0, 1, 2, 3, 4] ?_)
              refine rbr (S := fun b31 => ⟨(s4_55 x5 p3 x13) ++ [(17, .ref 3 0 x23.1.length), (19, .ref 4 0 x25.1.length), (96, vB b31)], [oX true false 5 (.agg [.int .u8 p0.Grain, .int .u8 p0.Count, .int .u8 p0.One, .int .u8 p0.Card, eL true (AV.int .u8) p0.L]), oX true true 3 (.agg [vI p3.Zeros, vI p3.Ones, vI p3.Child]), oX true false 4 (.agg [vI x5.1.Grain, vI x5.1.Count, vI x5.1.One, eL false (eL true eI) x5.1.Rows]), oR true 2 eTapi_Q x23.1, oR true 2 eTapi_Q x25.1], 104⟩) h (fun q32 h => ?_) (fun q32 h => ?_)
              · refine sz 5 19 (reg_end rfl (wcT (wp_seq (wg [] [] (rn ?_)))))
                refine wgc [8] [] ⟨[(8, vB false)], [], 104⟩ ?_
                refine wp_ret ?_
                cases h
                exact ⟨rfl, rfl⟩
              refine sgz 2 16 (S := ⟨(s4_55 x5 p3 x13) ++ [(17, .ref 3 0 x23.1.length), (19, .ref 4 0 x25.1.length), (96, vB false), (97, .ref 3 0 x23.1.length), (98, .ref 4 0 x25.1.length)], [oX true false 5 (.agg [.int .u8 p0.Grain, .int .u8 p0.Count, .int .u8 p0.One, .int .u8 p0.Card, eL true (AV.int .u8) p0.L]), oX true true 3 (.agg [vI p3.Zeros, vI p3.Ones, vI p3.Child]), oX true false 4 (.agg [vI x5.1.Grain, vI x5.1.Count, vI x5.1.One, eL false (eL true eI) x5.1.Rows]), oR true 2 eTapi_Q x23.1, oR true 2 eTapi_Q x25.1], 104⟩) ?_
              refine callZ (as0 := [.ref 3 0 x23.1.length, .ref 4 0 x25.1.length]) (ids := [3, 4]) (by as_aux_lemma => kernel_rfl) bodyB_23 (msnap_cons (snap_full rfl) (msnap_cons (snap_full rfl) msnap_nil (by rfl)) (by rfl)) (fun x33 q34 => g_slices_Equal_api_Q_api_Q_ok x23.1 x25.1 x33 q34) h (fun x33 q34 h => ?_)
              refine sz 2 19 (reg_end rfl ?_)
              refine wbz h (fun q36 h => ?_) (fun q36 h => ?_)
              · refine wp_seq (wg [] [] (rn ?_))
                refine wgc [8] [] ⟨[(8, vB false)], [], 104⟩ ?_
                refine wp_ret ?_
                cases h
                exact ⟨rfl, rfl⟩
              refine wp_skip (wg [4, 7, 10, 26, 27, 35, 36] [0, 1, 2] (rn ?_))
              cases h
              exact ⟨_, rfl, (wk_gc (live := [4, 7, 10, 26, 27, 35, 36]) (keep := [0, 1, 2]) (by as_aux_lemma => kernel_rfl))⟩
            refine rw_eqI (n := s15) (m := 1) (S := fun n37 => ⟨[(4, .ptr 0 0 0), (7, .ptr 1 0 0), (10, .ptr 2 0 0), (26, .agg [vI x5.1.Grain, vI x5.1.Count, vI x5.1.One, eL false (eL true eI) x5.1.Rows, vI x5.2.1.Grain, vI x5.2.1.Count, vI x5.2.1.One, eL false (eL true eI) x5.2.1.Rows, vI x5.2.2.Grain, vI x5.2.2.Count, vI x5.2.2.One, eL false (eL true eI) x5.2.2.Rows]), (27, vI 0), (35, .agg [vI p3.Zeros, vI p3.Ones, vI p3.Child, vI x13.Zeros, vI x13.Ones, vI x13.Child]), (36, vI n37), (37, vB true)], [oX true false 5 (.agg [.int .u8 p0.Grain, .int .u8 p0.Count, .int .u8 p0.One, .int .u8 p0.Card, eL true (AV.int .u8) p0.L]), oX true true 3 (.agg [vI p3.Zeros, vI p3.Ones, vI p3.Child]), oX true false 4 (.agg [vI x5.1.Grain, vI x5.1.Count, vI x5.1.One, eL false (eL true eI) x5.1.Rows])], 104⟩) h (fun _ h => ?_) (fun _ h => ?_)
            · refine sz 3 3 (reg_end rfl (wp_seq (reg_in (sz 7 7 ?_))))
              refine callZ (as0 := [.agg [vI x5.1.Grain, vI x5.1.Count, vI x5.1.One, eL false (eL true eI) x5.1.Rows], vI x13.Zeros, vI x13.Ones, vI x13.Child]) (ids := []) (by as_aux_lemma => kernel_rfl) bodyB_19 (msnap_cons (snap_agg (msnap_cons rfl (msnap_cons rfl (msnap_cons rfl (msnap_cons rfl msnap_nil))))) (msnap_cons rfl (msnap_cons rfl (msnap_cons rfl msnap_nil)))) (fun x38 q39 => g_lift_Prob_ok x5.1 x13.Zeros x13.Ones x13.Child x38 q39) h (fun x38 q39 h => ?_)
              refine sz 6 14 (reg_end rfl (wp_seq (wg [4, 7, 10, 26, 27, 35, 36, 12, 13, 14] [0, 1, 2, 3, 4] (reg_in (sz 7 7 ?_)))))
              refine callR (as0 := [.agg [vI x5.1.Grain, vI x5.1.Count, vI x5.1.One, eL false (eL true eI) x5.1.Rows], vI x13.Zeros, vI x13.Ones, vI x13.Child]) (ids := []) (S := fun x40 => ⟨[(4, .ptr 0 0 0), (7, .ptr 1 0 0), (10, .ptr 2 0 0), (26, .agg [vI x5.1.Grain, vI x5.1.Count, vI x5.1.One, eL false (eL true eI) x5.1.Rows, vI x5.2.1.Grain, vI x5.2.1.Count, vI x5.2.1.One, eL false (eL true eI) x5.2.1.Rows, vI x5.2.2.Grain, vI x5.2.2.Count, vI x5.2.2.One, eL false (eL true eI) x5.2.2.Rows]), (27, vI 0), (35, .agg [vI p3.Zeros, vI p3.Ones, vI p3.Child, vI x13.Zeros, vI x13.Ones, vI x13.Child]), (36, vI 1), (12, .ptr 3 0 0), (13, .ptr 4 0 0), (14, vI x38.2)] ++ [(51, .agg [vI x5.1.Grain, vI x5.1.Count, vI x5.1.One, eL false (eL true eI) x5.1.Rows]), (52, .ptr 3 0 0), (53, vI x13.Zeros), (54, .ptr 3 0 1), (55, vI x13.Ones), (56, .ptr 3 0 2), (57, vI x13.Child)] ++ [(58, .tup [.agg [vI x40.1.N, vI x40.1.D], vI x40.2])], [oX true false 5 (.agg [.int .u8 p0.Grain, .int .u8 p0.Count, .int .u8 p0.One, .int .u8 p0.Card, eL true (AV.int .u8) p0.L]), oX true true 3 (.agg [vI p3.Zeros, vI p3.Ones, vI p3.Child]), oX true false 4 (.agg [vI x5.1.Grain, vI x5.1.Count, vI x5.1.One, eL false (eL true eI) x5.1.Rows]), oX true true 3 (.agg [vI x13.Zeros, vI x13.Ones, vI x13.Child]), oX true true 2 (.agg [vI x38.1.N, vI x38.1.D])], 104⟩) (by as_aux_lemma => kernel_rfl) bodyB_20 (msnap_cons (snap_agg (msnap_cons rfl (msnap_cons rfl (msnap_cons rfl (msnap_cons rfl msnap_nil))))) (msnap_cons rfl (msnap_cons rfl (msnap_cons rfl msnap_nil)))) (fun x40 q41 => g_ref14_Prob_ok x5.1 x13.Zeros x13.Ones x13.Child x40 q41) (fun _ => by as_aux_lemma => kernel_rfl) h (fun x40 q41 h => ?_)
              refine sz 6 14 (reg_end rfl (wp_seq (wg [4, 7, 10, 26, 27, 35, 36, 12, 13, 14, 15, 16] [0, 1, 2, 3, 4, 5] (reg_in (sz 7 7 ?_)))))
              refine callZ (as0 := [.agg [vI x5.1.Grain, vI x5.1.Count, vI x5.1.One, eL false (eL true eI) x5.1.Rows], vI x13.Zeros, vI x13.Ones, vI x13.Child]) (ids := []) (by as_aux_lemma => kernel_rfl) bodyB_21 (msnap_cons (snap_agg (msnap_cons rfl (msnap_cons rfl (msnap_cons rfl (msnap_cons rfl msnap_nil))))) (msnap_cons rfl (msnap_cons rfl (msnap_cons rfl msnap_nil)))) (fun x42 q43 => g_lift_Ones_ok x5.1 x13.Zeros x13.Ones x13.Child x42 q43) h (fun x42 q43 h => ?_)
              refine sz 5 13 (reg_end rfl (wp_seq (wg [4, 7, 10, 26, 27, 35, 36, 12, 13, 14, 15, 16, 17, 18] [0, 1, 2, 3, 4, 5, 6] (reg_in ?_))))
              refine sgz 7 7 (S := ⟨[(4, .ptr 0 0 0), (7, .ptr 1 0 0), (10, .ptr 2 0 0), (26, .agg [vI x5.1.Grain, vI x5.1.Count, vI x5.1.One, eL false (eL true eI) x5.1.Rows, vI x5.2.1.Grain, vI x5.2.1.Count, vI x5.2.1.One, eL false (eL true eI) x5.2.1.Rows, vI x5.2.2.Grain, vI x5.2.2.Count, vI x5.2.2.One, eL false (eL true eI) x5.2.2.Rows]), (27, vI 0), (35, .agg [vI p3.Zeros, vI p3.Ones, vI p3.Child, vI x13.Zeros, vI x13.Ones, vI x13.Child]), (36, vI 1), (12, .ptr 3 0 0), (13, .ptr 4 0 0), (14, vI x38.2), (15, .ptr 5 0 0), (16, vI x40.2), (17, .ref 6 0 x42.1.length), (18, vI x42.2)] ++ [(73, .agg [vI x5.1.Grain, vI x5.1.Count, vI x5.1.One, eL false (eL true eI) x5.1.Rows]), (74, .ptr 3 0 0), (75, vI x13.Zeros), (76, .ptr 3 0 1), (77, vI x13.Ones), (78, .ptr 3 0 2), (79, vI x13.Child)], [oX true false 5 (.agg [.int .u8 p0.Grain, .int .u8 p0.Count, .int .u8 p0.One, .int .u8 p0.Card, eL true (AV.int .u8) p0.L]), oX true true 3 (.agg [vI p3.Zeros, vI p3.Ones, vI p3.Child]), oX true false 4 (.agg [vI x5.1.Grain, vI x5.1.Count, vI x5.1.One, eL false (eL true eI) x5.1.Rows]), oX true true 3 (.agg [vI x13.Zeros, vI x13.Ones, vI x13.Child]), oX true true 2 (.agg [vI x38.1.N, vI x38.1.D]), oX true true 2 (.agg [vI x40.1.N, vI x40.1.D]), oR true 2 eTapi_Q x42.1], 104⟩) ?_
              refine callZ (as0 := [.agg [vI x5.1.Grain, vI x5.1.Count, vI x5.1.One, eL false (eL true eI) x5.1.Rows], vI x13.Zeros, vI x13.Ones, vI x13.Child]) (ids := []) (by as_aux_lemma => kernel_rfl) bodyB_22 (msnap_cons (snap_agg (msnap_cons rfl (msnap_cons rfl (msnap_cons rfl (msnap_cons rfl msnap_nil))))) (msnap_cons rfl (msnap_cons rfl (msnap_cons rfl msnap_nil)))) (fun x44 q45 => g_ref14_Ones_ok x5.1 x13.Zeros x13.Ones x13.Child x44 q45) h (fun x44 q45 h => ?_)
              refine sz 5 13 (reg_end rfl (wp_seq (wg [4, 7, 10, 26, 27, 35, 36, 13, 14, 15, 16, 17, 18, 19, 20] [0, 1, 2, 4, 5, 6, 7] (reg_in (sz 4 4 (rwg [4, 7, 10, 26, 27, 35, 36, 14, 16, 17, 18, 19, 20, 86] [0, 1, 2, 5, 6] ?_))))))
              refine rbr (S := fun b46 => ⟨(s4_80 x5 p3 x13) ++ [(14, vI x38.2), (16, vI x40.2), (17, .ref 3 0 x42.1.length), (18, vI x42.2), (19, .ref 4 0 x44.1.length), (20, vI x44.2), (86, vB b46)], [oX true false 5 (.agg [.int .u8 p0.Grain, .int .u8 p0.Count, .int .u8 p0.One, .int .u8 p0.Card, eL true (AV.int .u8) p0.L]), oX true true 3 (.agg [vI p3.Zeros, vI p3.Ones, vI p3.Child]), oX true false 4 (.agg [vI x5.1.Grain, vI x5.1.Count, vI x5.1.One, eL false (eL true eI) x5.1.Rows]), oR true 2 eTapi_Q x42.1, oR true 2 eTapi_Q x44.1], 104⟩) h (fun q47 h => ?_) (fun q47 h => ?_)
              · refine sz 15 19 (reg_end rfl (wcT (wp_seq (wg [] [] (rn ?_)))))
                refine wgc [8] [] ⟨[(8, vB false)], [], 104⟩ ?_
                refine wp_ret ?_
                cases h
                exact ⟨rfl, rfl⟩
              refine sz 5 9 (rwg [4, 7, 10, 26, 27, 35, 36, 17, 18, 19, 20, 91] [0, 1, 2, 3, 4] ?_)
              refine rbr (S := fun b48 => ⟨(s4_80 x5 p3 x13) ++ [(17, .ref 3 0 x42.1.length), (18, vI x42.2), (19, .ref 4 0 x44.1.length), (20, vI x44.2), (91, vB b48)], [oX true false 5 (.agg [.int .u8 p0.Grain, .int .u8 p0.Count, .int .u8 p0.One, .int .u8 p0.Card, eL true (AV.int .u8) p0.L]), oX true true 3 (.agg [vI p3.Zeros, vI p3.Ones, vI p3.Child]), oX true false 4 (.agg [vI x5.1.Grain, vI x5.1.Count, vI x5.1.One, eL false (eL true eI) x5.1.Rows]), oR true 2 eTapi_Q x42.1, oR true 2 eTapi_Q x44.1], 104⟩) h (fun q49 h => ?_) (fun q49 h => ?_)
              · refine sz 10 19 (reg_end rfl (wcT (wp_seq (wg [] [] (rn ?_)))))
                refine wgc [8] [] ⟨[(8, vB false)], [], 104⟩ ?_
                refine wp_ret ?_
                cases h
                exact ⟨rfl, rfl⟩
              refine sz 5 14 (rwg [4, 7, 10, 26, 27, 35, 36, 17, 19, 96] [0, 1, 2, 3, 4] ?_)
              refine rbr (S := fun b50 => ⟨(s4_80 x5 p3 x13) ++ [(17, .ref 3 0 x42.1.length), (19, .ref 4 0 x44.1.length), (96, vB b50)], [oX true false 5 (.agg [.int .u8 p0.Grain, .int .u8 p0.Count, .int .u8 p0.One, .int .u8 p0.Card, eL true (AV.int .u8) p0.L]), oX true true 3 (.agg [vI p3.Zeros, vI p3.Ones, vI p3.Child]), oX true false 4 (.agg [vI x5.1.Grain, vI x5.1.Count, vI x5.1.One, eL false (eL true eI) x5.1.Rows]), oR true 2 eTapi_Q x42.1, oR true 2 eTapi_Q x44.1], 104⟩) h (fun q51 h => ?_) (fun q51 h => ?_)
              · refine sz 5 19 (reg_end rfl (wcT (wp_seq (wg [] [] (rn ?_)))))
                refine wgc [8] [] ⟨[(8, vB false)], [], 104⟩ ?_
                refine wp_ret ?_
                cases h
                exact ⟨rfl, rfl⟩
              refine sgz 2 16 (S := ⟨(s4_80 x5 p3 x13) ++ [(17, .ref 3 0 x42.1.length), (19, .ref 4 0 x44.1.length), (96, vB false), (97, .ref 3 0 x42.1.length), (98, .ref 4 0 x44.1.length)], [oX true false 5 (.agg [.int .u8 p0.Grain, .int .u8 p0.Count, .int .u8 p0.One, .int .u8 p0.Card, eL true (AV.int .u8) p0.L]), oX true true 3 (.agg [vI p3.Zeros, vI p3.Ones, vI p3.Child]), oX true false 4 (.agg [vI x5.1.Grain, vI x5.1.Count, vI x5.1.One, eL false (eL true eI) x5.1.Rows]), oR true 2 eTapi_Q x42.1, oR true 2 eTapi_Q x44.1], 104⟩) ?_
              refine callZ (as0 := [.ref 3 0 x42.1.length, .ref 4 0 x44.1.length]) (ids := [3, 4]) (by as_aux_lemma => kernel_rfl) bodyB_23 (msnap_cons (snap_full rfl) (msnap_cons (snap_full rfl) msnap_nil (by rfl)) (by rfl)) (fun x52 q53 => g_slices_Equal_api_Q_api_Q_ok x42.1 x44.1 x52 q53) h (fun x52 q53 h => ?_)
              refine sz 2 19 (reg_end rfl ?_)
              refine wbz h (fun q55 h => ?_) (fun q55 h => ?_)
              · refine wp_seq (wg [] [] (rn ?_))
                refine wgc [8] [] ⟨[(8, vB false)], [], 104⟩ ?_
                refine wp_ret ?_
                cases h
                exact ⟨rfl, rfl⟩
              refine wp_skip (wg [4, 7, 10, 26, 27, 35, 36] [0, 1, 2] (rn ?_))
              cases h
              exact ⟨_, rfl, (wk_gc (live := [4, 7, 10, 26, 27, 35, 36]) (keep := [0, 1, 2]) (by as_aux_lemma => kernel_rfl))⟩
            cases h
          refine wcF ?_
          refine wgc [4, 7, 26, 27] [0, 1] ⟨(s4_5 x5), [oX true false 5 (.agg [.int .u8 p0.Grain, .int .u8 p0.Count, .int .u8 p0.One, .int .u8 p0.Card, eL true (AV.int .u8) p0.L]), oX true true 3 (.agg [vI p3.Zeros, vI p3.Ones, vI p3.Child])], 104⟩ ?_
          refine wp_exit ?_
          cases h
          exact ⟨rfl, rfl⟩
        intro x56 h out hx
        subst hx
        rcases x56 with x57 | x58
        · dsimp only at h ⊢
          cases h
          exact ⟨rfl, rfl⟩
        · dsimp only at h ⊢
          refine rn ?_
          cases h
          exact ⟨_, rfl, (wk_gc (live := [4, 7, 26, 27]) (keep := [0, 1]) (by as_aux_lemma => kernel_rfl))⟩
      refine rw_eqI (n := s7) (m := 1) (S := fun n59 => ⟨[(4, .ptr 0 0 0), (7, .ptr 1 0 0), (26, .agg [vI x5.1.Grain, vI x5.1.Count, vI x5.1.One, eL false (eL true eI) x5.1.Rows, vI x5.2.1.Grain, vI x5.2.1.Count, vI x5.2.1.One, eL false (eL true eI) x5.2.1.Rows, vI x5.2.2.Grain, vI x5.2.2.Count, vI x5.2.2.One, eL false (eL true eI) x5.2.2.Rows]), (27, vI n59), (28, vB true)], [oX true false 5 (.agg [.int .u8 p0.Grain, .int .u8 p0.Count, .int .u8 p0.One, .int .u8 p0.Card, eL true (AV.int .u8) p0.L]), oX true true 3 (.agg [vI p3.Zeros, vI p3.Ones, vI p3.Child])], 104⟩) h (fun _ h => ?_) (fun _ h => ?_)
      · refine sz 1 1 ?_
        refine sl false [] [] false rfl ?_
        refine sz 1 3 (reg_end rfl (wp_seq (rga hfol (sy 3 3 ?_))))
        refine callR (as0 := [.agg [.int .u8 p0.Grain, .int .u8 p0.Count, .int .u8 p0.One, .int .u8 p0.Card, eL true (AV.int .u8) p0.L]]) (ids := []) (S := fun x60 => ⟨(s4_47 x5) ++ [(28, vB true), (29, .agg [vI x5.2.1.Grain, vI x5.2.1.Count, vI x5.2.1.One, eL false (eL true eI) x5.2.1.Rows]), (10, .ptr 2 0 0), (30, .agg [vI p3.Zeros, vI p3.Ones, vI p3.Child]), (31, .agg [vI p3.Zeros, vI p3.Ones, vI p3.Child]), (32, .agg [.int .u8 p0.Grain, .int .u8 p0.Count, .int .u8 p0.One, .int .u8 p0.Card, eL true (AV.int .u8) p0.L])] ++ [(33, .agg [vI x60.Grain, vI x60.Count, vI x60.One, .ref 3 0 x60.Rows.length])], [oX true false 5 (.agg [.int .u8 p0.Grain, .int .u8 p0.Count, .int .u8 p0.One, .int .u8 p0.Card, eL true (AV.int .u8) p0.L]), oX true true 3 (.agg [vI p3.Zeros, vI p3.Ones, vI p3.Child]), oX true false 4 (.agg [vI x5.2.1.Grain, vI x5.2.1.Count, vI x5.2.1.One, eL false (eL true eI) x5.2.1.Rows]), oR false 1 (eL true eI) x60.Rows], 104⟩) (by as_aux_lemma => kernel_rfl) bodyB_18 (msnap_cons (snap_agg (msnap_cons rfl (msnap_cons rfl (msnap_cons rfl (msnap_cons rfl (msnap_cons rfl msnap_nil)))))) msnap_nil) (fun x60 q61 => g_ref14_Draft_Lift_ok p0 x60 q61) (fun _ => by as_aux_lemma => kernel_rfl) h (fun x60 q61 h => ?_)
        refine callZ (as0 := [.agg [vI p3.Zeros, vI p3.Ones, vI p3.Child], .agg [vI x60.Grain, vI x60.Count, vI x60.One, .ref 3 0 x60.Rows.length]]) (ids := [3]) (by as_aux_lemma => kernel_rfl) bodyB_17 (msnap_cons (snap_agg (msnap_cons rfl (msnap_cons rfl (msnap_cons rfl msnap_nil (by rfl)) (by rfl)) (by rfl))) (msnap_cons (snap_agg (msnap_cons rfl (msnap_cons rfl (msnap_cons rfl (msnap_cons (snap_full rfl) msnap_nil (by rfl)) (by rfl)) (by rfl)) (by rfl))) msnap_nil (by rfl)) (by rfl)) (fun x62 q63 => g_law14_Known_Of_ok p3 x60 x62 q63) h (fun x62 q63 h => ?_)
        refine sy 2 7 (rgd (wp_block ?_))
        refine wwh h (fun s64 => ⟨(s4_121 x5 p3 x62 s64), [oX true false 5 (.agg [.int .u8 p0.Grain, .int .u8 p0.Count, .int .u8 p0.One, .int .u8 p0.Card, eL true (AV.int .u8) p0.L]), oX true true 3 (.agg [vI p3.Zeros, vI p3.Ones, vI p3.Child]), oX true false 4 (.agg [vI x5.2.1.Grain, vI x5.2.1.Count, vI x5.2.1.One, eL false (eL true eI) x5.2.1.Rows])], 104⟩) (fun x out => out = match x with | .inl v => .go (.ret) ⟨[(8, vB false)], [], 104⟩ | .inr v => .go (.exit 2) ⟨(s4_47 x5), [oX true false 5 (.agg [.int .u8 p0.Grain, .int .u8 p0.Count, .int .u8 p0.One, .int .u8 p0.Card, eL true (AV.int .u8) p0.L]), oX true true 3 (.agg [vI p3.Zeros, vI p3.Ones, vI p3.Child])], 104⟩) (wk_gc (live := [4, 7, 10, 26, 27, 35, 36]) (keep := [0, 1, 2]) (by as_aux_lemma => kernel_rfl)) ?_ ?_
        · intro s64 o h
          unfold g_law14_LiftCounts_b1 at h
          refine sq (wp_seq ?_)
          refine wbr (S := fun b65 => ⟨(s4_121 x5 p3 x62 s64) ++ [(37, vB b65)], [oX true false 5 (.agg [.int .u8 p0.Grain, .int .u8 p0.Count, .int .u8 p0.One, .int .u8 p0.Card, eL true (AV.int .u8) p0.L]), oX true true 3 (.agg [vI p3.Zeros, vI p3.Ones, vI p3.Child]), oX true false 4 (.agg [vI x5.2.1.Grain, vI x5.2.1.Count, vI x5.2.1.One, eL false (eL true eI) x5.2.1.Rows])], 104⟩) h (fun q66 h => ?_) (fun q66 h => ?_)
          · refine wcT (wp_skip (wp_seq (wp_block (wp_seq (reg_in ?_)))))
            refine rw_eqI (n := s64) (m := 0) (S := fun n67 => ⟨[(4, .ptr 0 0 0), (7, .ptr 1 0 0), (10, .ptr 2 0 0), (26, .agg [vI x5.1.Grain, vI x5.1.Count, vI x5.1.One, eL false (eL true eI) x5.1.Rows, vI x5.2.1.Grain, vI x5.2.1.Count, vI x5.2.1.One, eL false (eL true eI) x5.2.1.Rows, vI x5.2.2.Grain, vI x5.2.2.Count, vI x5.2.2.One, eL false (eL true eI) x5.2.2.Rows]), (27, vI 1), (35, .agg [vI p3.Zeros, vI p3.Ones, vI p3.Child, vI x62.Zeros, vI x62.Ones, vI x62.Child]), (36, vI n67), (37, vB true)], [oX true false 5 (.agg [.int .u8 p0.Grain, .int .u8 p0.Count, .int .u8 p0.One, .int .u8 p0.Card, eL true (AV.int .u8) p0.L]), oX true true 3 (.agg [vI p3.Zeros, vI p3.Ones, vI p3.Child]), oX true false 4 (.agg [vI x5.2.1.Grain, vI x5.2.1.Count, vI x5.2.1.One, eL false (eL true eI) x5.2.1.Rows])], 104⟩) h (fun _ h => ?_) (fun _ h => ?_)
            · refine sz 3 3 (reg_end rfl (wp_seq (reg_in (sz 7 7 ?_))))
              refine callZ (as0 := [.agg [vI x5.2.1.Grain, vI x5.2.1.Count, vI x5.2.1.One, eL false (eL true eI) x5.2.1.Rows], vI p3.Zeros, vI p3.Ones, vI p3.Child]) (ids := []) (by as_aux_lemma => kernel_rfl) bodyB_19 (msnap_cons (snap_agg (msnap_cons rfl (msnap_cons rfl (msnap_cons rfl (msnap_cons rfl msnap_nil))))) (msnap_cons rfl (msnap_cons rfl (msnap_cons rfl msnap_nil)))) (fun x68 q69 => g_lift_Prob_ok x5.2.1 p3.Zeros p3.Ones p3.Child x68 q69) h (fun x68 q69 h => ?_)
              refine sz 6 14 (reg_end rfl (wp_seq (wg [4, 7, 10, 26, 27, 35, 36, 12, 13, 14] [0, 1, 2, 3, 4] (reg_in (sz 7 7 ?_)))))
              refine callR (as0 := [.agg [vI x5.2.1.Grain, vI x5.2.1.Count, vI x5.2.1.One, eL false (eL true eI) x5.2.1.Rows], vI p3.Zeros, vI p3.Ones, vI p3.Child]) (ids := []) (S := fun x70 => ⟨[(4, .ptr 0 0 0), (7, .ptr 1 0 0), (10, .ptr 2 0 0), (26, .agg [vI x5.1.Grain, vI x5.1.Count, vI x5.1.One, eL false (eL true eI) x5.1.Rows, vI x5.2.1.Grain, vI x5.2.1.Count, vI x5.2.1.One, eL false (eL true eI) x5.2.1.Rows, vI x5.2.2.Grain, vI x5.2.2.Count, vI x5.2.2.One, eL false (eL true eI) x5.2.2.Rows]), (27, vI 1), (35, .agg [vI p3.Zeros, vI p3.Ones, vI p3.Child, vI x62.Zeros, vI x62.Ones, vI x62.Child]), (36, vI 0), (12, .ptr 3 0 0), (13, .ptr 4 0 0), (14, vI x68.2)] ++ [(51, .agg [vI x5.2.1.Grain, vI x5.2.1.Count, vI x5.2.1.One, eL false (eL true eI) x5.2.1.Rows]), (52, .ptr 3 0 0), (53, vI p3.Zeros), (54, .ptr 3 0 1), (55, vI p3.Ones), (56, .ptr 3 0 2), (57, vI p3.Child)] ++ [(58, .tup [.agg [vI x70.1.N, vI x70.1.D], vI x70.2])], [oX true false 5 (.agg [.int .u8 p0.Grain, .int .u8 p0.Count, .int .u8 p0.One, .int .u8 p0.Card, eL true (AV.int .u8) p0.L]), oX true true 3 (.agg [vI p3.Zeros, vI p3.Ones, vI p3.Child]), oX true false 4 (.agg [vI x5.2.1.Grain, vI x5.2.1.Count, vI x5.2.1.One, eL false (eL true eI) x5.2.1.Rows]), oX true true 3 (.agg [vI p3.Zeros, vI p3.Ones, vI p3.Child]), oX true true 2 (.agg [vI x68.1.N, vI x68.1.D])], 104⟩) (by as_aux_lemma => kernel_rfl) bodyB_20 (msnap_cons (snap_agg (msnap_cons rfl (msnap_cons rfl (msnap_cons rfl (msnap_cons rfl msnap_nil))))) (msnap_cons rfl (msnap_cons rfl (msnap_cons rfl msnap_nil)))) (fun x70 q71 => g_ref14_Prob_ok x5.2.1 p3.Zeros p3.Ones p3.Child x70 q71) (fun _ => by as_aux_lemma => kernel_rfl) h (fun x70 q71 h => ?_)
              refine sz 6 14 (reg_end rfl (wp_seq (wg [4, 7, 10, 26, 27, 35, 36, 12, 13, 14, 15, 16] [0, 1, 2, 3, 4, 5] (reg_in (sz 7 7 ?_)))))
              refine callZ (as0 := [.agg [vI x5.2.1.Grain, vI x5.2.1.Count, vI x5.2.1.One, eL false (eL true eI) x5.2.1.Rows], vI p3.Zeros, vI p3.Ones, vI p3.Child]) (ids := []) (by as_aux_lemma => kernel_rfl) bodyB_21 (msnap_cons (snap_agg (msnap_cons rfl (msnap_cons rfl (msnap_cons rfl (msnap_cons rfl msnap_nil))))) (msnap_cons rfl (msnap_cons rfl (msnap_cons rfl msnap_nil)))) (fun x72 q73 => g_lift_Ones_ok x5.2.1 p3.Zeros p3.Ones p3.Child x72 q73) h (fun x72 q73 h => ?_)
              refine sz 5 13 (reg_end rfl (wp_seq (wg [4, 7, 10, 26, 27, 35, 36, 12, 13, 14, 15, 16, 17, 18] [0, 1, 2, 3, 4, 5, 6] (reg_in ?_))))
              refine sgz 7 7 (S := ⟨[(4, .ptr 0 0 0), (7, .ptr 1 0 0), (10, .ptr 2 0 0), (26, .agg [vI x5.1.Grain, vI x5.1.Count, vI x5.1.One, eL false (eL true eI) x5.1.Rows, vI x5.2.1.Grain, vI x5.2.1.Count, vI x5.2.1.One, eL false (eL true eI) x5.2.1.Rows, vI x5.2.2.Grain, vI x5.2.2.Count, vI x5.2.2.One, eL false (eL true eI) x5.2.2.Rows]), (27, vI 1), (35, .agg [vI p3.Zeros, vI p3.Ones, vI p3.Child, vI x62.Zeros, vI x62.Ones, vI x62.Child]), (36, vI 0), (12, .ptr 3 0 0), (13, .ptr 4 0 0), (14, vI x68.2), (15, .ptr 5 0 0), (16, vI x70.2), (17, .ref 6 0 x72.1.length), (18, vI x72.2)] ++ [(73, .agg [vI x5.2.1.Grain, vI x5.2.1.Count, vI x5.2.1.One, eL false (eL true eI) x5.2.1.Rows]), (74, .ptr 3 0 0), (75, vI p3.Zeros), (76, .ptr 3 0 1), (77, vI p3.Ones), (78, .ptr 3 0 2), (79, vI p3.Child)], [oX true false 5 (.agg [.int .u8 p0.Grain, .int .u8 p0.Count, .int .u8 p0.One, .int .u8 p0.Card, eL true (AV.int .u8) p0.L]), oX true true 3 (.agg [vI p3.Zeros, vI p3.Ones, vI p3.Child]), oX true false 4 (.agg [vI x5.2.1.Grain, vI x5.2.1.Count, vI x5.2.1.One, eL false (eL true eI) x5.2.1.Rows]), oX true true 3 (.agg [vI p3.Zeros, vI p3.Ones, vI p3.Child]), oX true true 2 (.agg [vI x68.1.N, vI x68.1.D]), oX true true 2 (.agg [vI x70.1.N, vI x70.1.D]), oR true 2 eTapi_Q x72.1], 104⟩) ?_
              refine callZ (as0 := [.agg [vI x5.2.1.Grain, vI x5.2.1.Count, vI x5.2.1.One, eL false (eL true eI) x5.2.1.Rows], vI p3.Zeros, vI p3.Ones, vI p3.Child]) (ids := []) (by as_aux_lemma => kernel_rfl) bodyB_22 (msnap_cons (snap_agg (msnap_cons rfl (msnap_cons rfl (msnap_cons rfl (msnap_cons rfl msnap_nil))))) (msnap_cons rfl (msnap_cons rfl (msnap_cons rfl msnap_nil)))) (fun x74 q75 => g_ref14_Ones_ok x5.2.1 p3.Zeros p3.Ones p3.Child x74 q75) h (fun x74 q75 h => ?_)
              refine sz 5 13 (reg_end rfl (wp_seq (wg [4, 7, 10, 26, 27, 35, 36, 13, 14, 15, 16, 17, 18, 19, 20] [0, 1, 2, 4, 5, 6, 7] (reg_in (sz 4 4 (rwg [4, 7, 10, 26, 27, 35, 36, 14, 16, 17, 18, 19, 20, 86] [0, 1, 2, 5, 6] ?_))))))
              refine rbr (S := fun b76 => ⟨(s4_94 x5 p3 x62) ++ [(14, vI x68.2), (16, vI x70.2), (17, .ref 3 0 x72.1.length), (18, vI x72.2), (19, .ref 4 0 x74.1.length), (20, vI x74.2), (86, vB b76)], [oX true false 5 (.agg [.int .u8 p0.Grain, .int .u8 p0.Count, .int .u8 p0.One, .int .u8 p0.Card, eL true (AV.int .u8) p0.L]), oX true true 3 (.agg [vI p3.Zeros, vI p3.Ones, vI p3.Child]), oX true false 4 (.agg [vI x5.2.1.Grain, vI x5.2.1.Count, vI x5.2.1.One, eL false (eL true eI) x5.2.1.Rows]), oR true 2 eTapi_Q x72.1, oR true 2 eTapi_Q x74.1], 104⟩) h (fun q77 h => ?_) (fun q77 h => ?_)
              · refine sz 15 19 (reg_end rfl (wcT (wp_seq (wg [] [] (rn ?_)))))
                refine wgc [8] [] ⟨[(8, vB false)], [], 104⟩ ?_
                refine wp_ret ?_
                cases h
                exact ⟨rfl, rfl⟩
              refine sz 5 9 (rwg [4, 7, 10, 26, 27, 35, 36, 17, 18, 19, 20, 91] [0, 1, 2, 3, 4] ?_)
              refine rbr (S := fun b78 => ⟨(s4_94 x5 p3 x62) ++ [(17, .ref 3 0 x72.1.length), (18, vI x72.2), (19, .ref 4 0 x74.1.length), (20, vI x74.2), (91, vB b78)], [oX true false 5 (.agg [.int .u8 p0.Grain, .int .u8 p0.Count, .int .u8 p0.One, .int .u8 p0.Card, eL true (AV.int .u8) p0.L]), oX true true 3 (.agg [vI p3.Zeros, vI p3.Ones, vI p3.Child]), oX true false 4 (.agg [vI x5.2.1.Grain, vI x5.2.1.Count, vI x5.2.1.One, eL false (eL true eI) x5.2.1.Rows]), oR true 2 eTapi_Q x72.1, oR true 2 eTapi_Q x74.1], 104⟩) h (fun q79 h => ?_) (fun q79 h => ?_)
              · refine sz 10 19 (reg_end rfl (wcT (wp_seq (wg [] [] (rn ?_)))))
                refine wgc [8] [] ⟨[(8, vB false)], [], 104⟩ ?_
                refine wp_ret ?_
                cases h
                exact ⟨rfl, rfl⟩
              refine sz 5 14 (rwg [4, 7, 10, 26, 27, 35, 36, 17, 19, 96] [0, 1, 2, 3, 4] ?_)
              refine rbr (S := fun b80 => ⟨(s4_94 x5 p3 x62) ++ [(17, .ref 3 0 x72.1.length), (19, .ref 4 0 x74.1.length), (96, vB b80)], [oX true false 5 (.agg [.int .u8 p0.Grain, .int .u8 p0.Count, .int .u8 p0.One, .int .u8 p0.Card, eL true (AV.int .u8) p0.L]), oX true true 3 (.agg [vI p3.Zeros, vI p3.Ones, vI p3.Child]), oX true false 4 (.agg [vI x5.2.1.Grain, vI x5.2.1.Count, vI x5.2.1.One, eL false (eL true eI) x5.2.1.Rows]), oR true 2 eTapi_Q x72.1, oR true 2 eTapi_Q x74.1], 104⟩) h (fun q81 h => ?_) (fun q81 h => ?_)
              · refine sz 5 19 (reg_end rfl (wcT (wp_seq (wg [] [] (rn ?_)))))
                refine wgc [8] [] ⟨[(8, vB false)], [], 104⟩ ?_
                refine wp_ret ?_
                cases h
                exact ⟨rfl, rfl⟩
              refine sgz 2 16 (S := ⟨(s4_94 x5 p3 x62) ++ [(17, .ref 3 0 x72.1.length), (19, .ref 4 0 x74.1.length), (96, vB false), (97, .ref 3 0 x72.1.length), (98, .ref 4 0 x74.1.length)], [oX true false 5 (.agg [.int .u8 p0.Grain, .int .u8 p0.Count, .int .u8 p0.One, .int .u8 p0.Card, eL true (AV.int .u8) p0.L]), oX true true 3 (.agg [vI p3.Zeros, vI p3.Ones, vI p3.Child]), oX true false 4 (.agg [vI x5.2.1.Grain, vI x5.2.1.Count, vI x5.2.1.One, eL false (eL true eI) x5.2.1.Rows]), oR true 2 eTapi_Q x72.1, oR true 2 eTapi_Q x74.1], 104⟩) ?_
              refine callZ (as0 := [.ref 3 0 x72.1.length, .ref 4 0 x74.1.length]) (ids := [3, 4]) (by as_aux_lemma => kernel_rfl) bodyB_23 (msnap_cons (snap_full rfl) (msnap_cons (snap_full rfl) msnap_nil (by rfl)) (by rfl)) (fun x82 q83 => g_slices_Equal_api_Q_api_Q_ok x72.1 x74.1 x82 q83) h (fun x82 q83 h => ?_)
              refine sz 2 19 (reg_end rfl ?_)
              refine wbz h (fun q85 h => ?_) (fun q85 h => ?_)
              · refine wp_seq (wg [] [] (rn ?_))
                refine wgc [8] [] ⟨[(8, vB false)], [], 104⟩ ?_
                refine wp_ret ?_
                cases h
                exact ⟨rfl, rfl⟩
              refine wp_skip (wg [4, 7, 10, 26, 27, 35, 36] [0, 1, 2] (rn ?_))
              cases h
              exact ⟨_, rfl, (wk_gc (live := [4, 7, 10, 26, 27, 35, 36]) (keep := [0, 1, 2]) (by as_aux_lemma => kernel_rfl))⟩
            refine rw_eqI (n := s64) (m := 1) (S := fun n86 => ⟨[(4, .ptr 0 0 0), (7, .ptr 1 0 0), (10, .ptr 2 0 0), (26, .agg [vI x5.1.Grain, vI x5.1.Count, vI x5.1.One, eL false (eL true eI) x5.1.Rows, vI x5.2.1.Grain, vI x5.2.1.Count, vI x5.2.1.One, eL false (eL true eI) x5.2.1.Rows, vI x5.2.2.Grain, vI x5.2.2.Count, vI x5.2.2.One, eL false (eL true eI) x5.2.2.Rows]), (27, vI 1), (35, .agg [vI p3.Zeros, vI p3.Ones, vI p3.Child, vI x62.Zeros, vI x62.Ones, vI x62.Child]), (36, vI n86), (37, vB true)], [oX true false 5 (.agg [.int .u8 p0.Grain, .int .u8 p0.Count, .int .u8 p0.One, .int .u8 p0.Card, eL true (AV.int .u8) p0.L]), oX true true 3 (.agg [vI p3.Zeros, vI p3.Ones, vI p3.Child]), oX true false 4 (.agg [vI x5.2.1.Grain, vI x5.2.1.Count, vI x5.2.1.One, eL false (eL true eI) x5.2.1.Rows])], 104⟩) h (fun _ h => ?_) (fun _ h => ?_)
            · refine sz 3 3 (reg_end rfl (wp_seq (reg_in (sz 7 7 ?_))))
              refine callZ (as0 := [.agg [vI x5.2.1.Grain, vI x5.2.1.Count, vI x5.2.1.One, eL false (eL true eI) x5.2.1.Rows], vI x62.Zeros, vI x62.Ones, vI x62.Child]) (ids := []) (by as_aux_lemma => kernel_rfl) bodyB_19 (msnap_cons (snap_agg (msnap_cons rfl (msnap_cons rfl (msnap_cons rfl (msnap_cons rfl msnap_nil))))) (msnap_cons rfl (msnap_cons rfl (msnap_cons rfl msnap_nil)))) (fun x87 q88 => g_lift_Prob_ok x5.2.1 x62.Zeros x62.Ones x62.Child x87 q88) h (fun x87 q88 h => ?_)
              refine sz 6 14 (reg_end rfl (wp_seq (wg [4, 7, 10, 26, 27, 35, 36, 12, 13, 14] [0, 1, 2, 3, 4] (reg_in (sz 7 7 ?_)))))
              refine callR (as0 := [.agg [vI x5.2.1.Grain, vI x5.2.1.Count, vI x5.2.1.One, eL false (eL true eI) x5.2.1.Rows], vI x62.Zeros, vI x62.Ones, vI x62.Child]) (ids := []) (S := fun x89 => ⟨[(4, .ptr 0 0 0), (7, .ptr 1 0 0), (10, .ptr 2 0 0), (26, .agg [vI x5.1.Grain, vI x5.1.Count, vI x5.1.One, eL false (eL true eI) x5.1.Rows, vI x5.2.1.Grain, vI x5.2.1.Count, vI x5.2.1.One, eL false (eL true eI) x5.2.1.Rows, vI x5.2.2.Grain, vI x5.2.2.Count, vI x5.2.2.One, eL false (eL true eI) x5.2.2.Rows]), (27, vI 1), (35, .agg [vI p3.Zeros, vI p3.Ones, vI p3.Child, vI x62.Zeros, vI x62.Ones, vI x62.Child]), (36, vI 1), (12, .ptr 3 0 0), (13, .ptr 4 0 0), (14, vI x87.2)] ++ [(51, .agg [vI x5.2.1.Grain, vI x5.2.1.Count, vI x5.2.1.One, eL false (eL true eI) x5.2.1.Rows]), (52, .ptr 3 0 0), (53, vI x62.Zeros), (54, .ptr 3 0 1), (55, vI x62.Ones), (56, .ptr 3 0 2), (57, vI x62.Child)] ++ [(58, .tup [.agg [vI x89.1.N, vI x89.1.D], vI x89.2])], [oX true false 5 (.agg [.int .u8 p0.Grain, .int .u8 p0.Count, .int .u8 p0.One, .int .u8 p0.Card, eL true (AV.int .u8) p0.L]), oX true true 3 (.agg [vI p3.Zeros, vI p3.Ones, vI p3.Child]), oX true false 4 (.agg [vI x5.2.1.Grain, vI x5.2.1.Count, vI x5.2.1.One, eL false (eL true eI) x5.2.1.Rows]), oX true true 3 (.agg [vI x62.Zeros, vI x62.Ones, vI x62.Child]), oX true true 2 (.agg [vI x87.1.N, vI x87.1.D])], 104⟩) (by as_aux_lemma => kernel_rfl) bodyB_20 (msnap_cons (snap_agg (msnap_cons rfl (msnap_cons rfl (msnap_cons rfl (msnap_cons rfl msnap_nil))))) (msnap_cons rfl (msnap_cons rfl (msnap_cons rfl msnap_nil)))) (fun x89 q90 => g_ref14_Prob_ok x5.2.1 x62.Zeros x62.Ones x62.Child x89 q90) (fun _ => by as_aux_lemma => kernel_rfl) h (fun x89 q90 h => ?_)
              refine sz 6 14 (reg_end rfl (wp_seq (wg [4, 7, 10, 26, 27, 35, 36, 12, 13, 14, 15, 16] [0, 1, 2, 3, 4, 5] (reg_in (sz 7 7 ?_)))))
              refine callZ (as0 := [.agg [vI x5.2.1.Grain, vI x5.2.1.Count, vI x5.2.1.One, eL false (eL true eI) x5.2.1.Rows], vI x62.Zeros, vI x62.Ones, vI x62.Child]) (ids := []) (by as_aux_lemma => kernel_rfl) bodyB_21 (msnap_cons (snap_agg (msnap_cons rfl (msnap_cons rfl (msnap_cons rfl (msnap_cons rfl msnap_nil))))) (msnap_cons rfl (msnap_cons rfl (msnap_cons rfl msnap_nil)))) (fun x91 q92 => g_lift_Ones_ok x5.2.1 x62.Zeros x62.Ones x62.Child x91 q92) h (fun x91 q92 h => ?_)
              refine sz 5 13 (reg_end rfl (wp_seq (wg [4, 7, 10, 26, 27, 35, 36, 12, 13, 14, 15, 16, 17, 18] [0, 1, 2, 3, 4, 5, 6] (reg_in ?_))))
              refine sgz 7 7 (S := ⟨[(4, .ptr 0 0 0), (7, .ptr 1 0 0), (10, .ptr 2 0 0), (26, .agg [vI x5.1.Grain, vI x5.1.Count, vI x5.1.One, eL false (eL true eI) x5.1.Rows, vI x5.2.1.Grain, vI x5.2.1.Count, vI x5.2.1.One, eL false (eL true eI) x5.2.1.Rows, vI x5.2.2.Grain, vI x5.2.2.Count, vI x5.2.2.One, eL false (eL true eI) x5.2.2.Rows]), (27, vI 1), (35, .agg [vI p3.Zeros, vI p3.Ones, vI p3.Child, vI x62.Zeros, vI x62.Ones, vI x62.Child]), (36, vI 1), (12, .ptr 3 0 0), (13, .ptr 4 0 0), (14, vI x87.2), (15, .ptr 5 0 0), (16, vI x89.2), (17, .ref 6 0 x91.1.length), (18, vI x91.2)] ++ [(73, .agg [vI x5.2.1.Grain, vI x5.2.1.Count, vI x5.2.1.One, eL false (eL true eI) x5.2.1.Rows]), (74, .ptr 3 0 0), (75, vI x62.Zeros), (76, .ptr 3 0 1), (77, vI x62.Ones), (78, .ptr 3 0 2), (79, vI x62.Child)], [oX true false 5 (.agg [.int .u8 p0.Grain, .int .u8 p0.Count, .int .u8 p0.One, .int .u8 p0.Card, eL true (AV.int .u8) p0.L]), oX true true 3 (.agg [vI p3.Zeros, vI p3.Ones, vI p3.Child]), oX true false 4 (.agg [vI x5.2.1.Grain, vI x5.2.1.Count, vI x5.2.1.One, eL false (eL true eI) x5.2.1.Rows]), oX true true 3 (.agg [vI x62.Zeros, vI x62.Ones, vI x62.Child]), oX true true 2 (.agg [vI x87.1.N, vI x87.1.D]), oX true true 2 (.agg [vI x89.1.N, vI x89.1.D]), oR true 2 eTapi_Q x91.1], 104⟩) ?_
              refine callZ (as0 := [.agg [vI x5.2.1.Grain, vI x5.2.1.Count, vI x5.2.1.One, eL false (eL true eI) x5.2.1.Rows], vI x62.Zeros, vI x62.Ones, vI x62.Child]) (ids := []) (by as_aux_lemma => kernel_rfl) bodyB_22 (msnap_cons (snap_agg (msnap_cons rfl (msnap_cons rfl (msnap_cons rfl (msnap_cons rfl msnap_nil))))) (msnap_cons rfl (msnap_cons rfl (msnap_cons rfl msnap_nil)))) (fun x93 q94 => g_ref14_Ones_ok x5.2.1 x62.Zeros x62.Ones x62.Child x93 q94) h (fun x93 q94 h => ?_)
              refine sz 5 13 (reg_end rfl (wp_seq (wg [4, 7, 10, 26, 27, 35, 36, 13, 14, 15, 16, 17, 18, 19, 20] [0, 1, 2, 4, 5, 6, 7] (reg_in (sz 4 4 (rwg [4, 7, 10, 26, 27, 35, 36, 14, 16, 17, 18, 19, 20, 86] [0, 1, 2, 5, 6] ?_))))))
              refine rbr (S := fun b95 => ⟨(s4_120 x5 p3 x62) ++ [(14, vI x87.2), (16, vI x89.2), (17, .ref 3 0 x91.1.length), (18, vI x91.2), (19, .ref 4 0 x93.1.length), (20, vI x93.2), (86, vB b95)], [oX true false 5 (.agg [.int .u8 p0.Grain, .int .u8 p0.Count, .int .u8 p0.One, .int .u8 p0.Card, eL true (AV.int .u8) p0.L]), oX true true 3 (.agg [vI p3.Zeros, vI p3.Ones, vI p3.Child]), oX true false 4 (.agg [vI x5.2.1.Grain, vI x5.2.1.Count, vI x5.2.1.One, eL false (eL true eI) x5.2.1.Rows]), oR true 2 eTapi_Q x91.1, oR true 2 eTapi_Q x93.1], 104⟩) h (fun q96 h => ?_) (fun q96 h => ?_)
              · refine sz 15 19 (reg_end rfl (wcT (wp_seq (wg [] [] (rn ?_)))))
                refine wgc [8] [] ⟨[(8, vB false)], [], 104⟩ ?_
                refine wp_ret ?_
                cases h
                exact ⟨rfl, rfl⟩
              refine sz 5 9 (rwg [4, 7, 10, 26, 27, 35, 36, 17, 18, 19, 20, 91] [0, 1, 2, 3, 4] ?_)
              refine rbr (S := fun b97 => ⟨(s4_120 x5 p3 x62) ++ [(17, .ref 3 0 x91.1.length), (18, vI x91.2), (19, .ref 4 0 x93.1.length), (20, vI x93.2), (91, vB b97)], [oX true false 5 (.agg [.int .u8 p0.Grain, .int .u8 p0.Count, .int .u8 p0.One, .int .u8 p0.Card, eL true (AV.int .u8) p0.L]), oX true true 3 (.agg [vI p3.Zeros, vI p3.Ones, vI p3.Child]), oX true false 4 (.agg [vI x5.2.1.Grain, vI x5.2.1.Count, vI x5.2.1.One, eL false (eL true eI) x5.2.1.Rows]), oR true 2 eTapi_Q x91.1, oR true 2 eTapi_Q x93.1], 104⟩) h (fun q98 h => ?_) (fun q98 h => ?_)
              · refine sz 10 19 (reg_end rfl (wcT (wp_seq (wg [] [] (rn ?_)))))
                refine wgc [8] [] ⟨[(8, vB false)], [], 104⟩ ?_
                refine wp_ret ?_
                cases h
                exact ⟨rfl, rfl⟩
              refine sz 5 14 (rwg [4, 7, 10, 26, 27, 35, 36, 17, 19, 96] [0, 1, 2, 3, 4] ?_)
              refine rbr (S := fun b99 => ⟨(s4_120 x5 p3 x62) ++ [(17, .ref 3 0 x91.1.length), (19, .ref 4 0 x93.1.length), (96, vB b99)], [oX true false 5 (.agg [.int .u8 p0.Grain, .int .u8 p0.Count, .int .u8 p0.One, .int .u8 p0.Card, eL true (AV.int .u8) p0.L]), oX true true 3 (.agg [vI p3.Zeros, vI p3.Ones, vI p3.Child]), oX true false 4 (.agg [vI x5.2.1.Grain, vI x5.2.1.Count, vI x5.2.1.One, eL false (eL true eI) x5.2.1.Rows]), oR true 2 eTapi_Q x91.1, oR true 2 eTapi_Q x93.1], 104⟩) h (fun q100 h => ?_) (fun q100 h => ?_)
              · refine sz 5 19 (reg_end rfl (wcT (wp_seq (wg [] [] (rn ?_)))))
                refine wgc [8] [] ⟨[(8, vB false)], [], 104⟩ ?_
                refine wp_ret ?_
                cases h
                exact ⟨rfl, rfl⟩
              refine sgz 2 16 (S := ⟨(s4_120 x5 p3 x62) ++ [(17, .ref 3 0 x91.1.length), (19, .ref 4 0 x93.1.length), (96, vB false), (97, .ref 3 0 x91.1.length), (98, .ref 4 0 x93.1.length)], [oX true false 5 (.agg [.int .u8 p0.Grain, .int .u8 p0.Count, .int .u8 p0.One, .int .u8 p0.Card, eL true (AV.int .u8) p0.L]), oX true true 3 (.agg [vI p3.Zeros, vI p3.Ones, vI p3.Child]), oX true false 4 (.agg [vI x5.2.1.Grain, vI x5.2.1.Count, vI x5.2.1.One, eL false (eL true eI) x5.2.1.Rows]), oR true 2 eTapi_Q x91.1, oR true 2 eTapi_Q x93.1], 104⟩) ?_
              refine callZ (as0 := [.ref 3 0 x91.1.length, .ref 4 0 x93.1.length]) (ids := [3, 4]) (by as_aux_lemma => kernel_rfl) bodyB_23 (msnap_cons (snap_full rfl) (msnap_cons (snap_full rfl) msnap_nil (by rfl)) (by rfl)) (fun x101 q102 => g_slices_Equal_api_Q_api_Q_ok x91.1 x93.1 x101 q102) h (fun x101 q102 h => ?_)
              refine sz 2 19 (reg_end rfl ?_)
              refine wbz h (fun q104 h => ?_) (fun q104 h => ?_)
              · refine wp_seq (wg [] [] (rn ?_))
                refine wgc [8] [] ⟨[(8, vB false)], [], 104⟩ ?_
                refine wp_ret ?_
                cases h
                exact ⟨rfl, rfl⟩
              refine wp_skip (wg [4, 7, 10, 26, 27, 35, 36] [0, 1, 2] (rn ?_))
              cases h
              exact ⟨_, rfl, (wk_gc (live := [4, 7, 10, 26, 27, 35, 36]) (keep := [0, 1, 2]) (by as_aux_lemma => kernel_rfl))⟩
            cases h
          refine wcF ?_
          refine wgc [4, 7, 26, 27] [0, 1] ⟨(s4_47 x5), [oX true false 5 (.agg [.int .u8 p0.Grain, .int .u8 p0.Count, .int .u8 p0.One, .int .u8 p0.Card, eL true (AV.int .u8) p0.L]), oX true true 3 (.agg [vI p3.Zeros, vI p3.Ones, vI p3.Child])], 104⟩ ?_
          refine wp_exit ?_
          cases h
          exact ⟨rfl, rfl⟩
        intro x105 h out hx
        subst hx
        rcases x105 with x106 | x107
        · dsimp only at h ⊢
          cases h
          exact ⟨rfl, rfl⟩
        · dsimp only at h ⊢
          refine rn ?_
          cases h
          exact ⟨_, rfl, (wk_gc (live := [4, 7, 26, 27]) (keep := [0, 1]) (by as_aux_lemma => kernel_rfl))⟩
      refine rw_eqI (n := s7) (m := 2) (S := fun n108 => ⟨[(4, .ptr 0 0 0), (7, .ptr 1 0 0), (26, .agg [vI x5.1.Grain, vI x5.1.Count, vI x5.1.One, eL false (eL true eI) x5.1.Rows, vI x5.2.1.Grain, vI x5.2.1.Count, vI x5.2.1.One, eL false (eL true eI) x5.2.1.Rows, vI x5.2.2.Grain, vI x5.2.2.Count, vI x5.2.2.One, eL false (eL true eI) x5.2.2.Rows]), (27, vI n108), (28, vB true)], [oX true false 5 (.agg [.int .u8 p0.Grain, .int .u8 p0.Count, .int .u8 p0.One, .int .u8 p0.Card, eL true (AV.int .u8) p0.L]), oX true true 3 (.agg [vI p3.Zeros, vI p3.Ones, vI p3.Child])], 104⟩) h (fun _ h => ?_) (fun _ h => ?_)
      · refine sz 1 1 ?_
        refine sl false [] [] false rfl ?_
        refine sz 1 3 (reg_end rfl (wp_seq (rga hfol (sy 3 3 ?_))))
        refine callR (as0 := [.agg [.int .u8 p0.Grain, .int .u8 p0.Count, .int .u8 p0.One, .int .u8 p0.Card, eL true (AV.int .u8) p0.L]]) (ids := []) (S := fun x109 => ⟨(s4_161 x5) ++ [(28, vB true), (29, .agg [vI x5.2.2.Grain, vI x5.2.2.Count, vI x5.2.2.One, eL false (eL true eI) x5.2.2.Rows]), (10, .ptr 2 0 0), (30, .agg [vI p3.Zeros, vI p3.Ones, vI p3.Child]), (31, .agg [vI p3.Zeros, vI p3.Ones, vI p3.Child]), (32, .agg [.int .u8 p0.Grain, .int .u8 p0.Count, .int .u8 p0.One, .int .u8 p0.Card, eL true (AV.int .u8) p0.L])] ++ [(33, .agg [vI x109.Grain, vI x109.Count, vI x109.One, .ref 3 0 x109.Rows.length])], [oX true false 5 (.agg [.int .u8 p0.Grain, .int .u8 p0.Count, .int .u8 p0.One, .int .u8 p0.Card, eL true (AV.int .u8) p0.L]), oX true true 3 (.agg [vI p3.Zeros, vI p3.Ones, vI p3.Child]), oX true false 4 (.agg [vI x5.2.2.Grain, vI x5.2.2.Count, vI x5.2.2.One, eL false (eL true eI) x5.2.2.Rows]), oR false 1 (eL true eI) x109.Rows], 104⟩) (by as_aux_lemma => kernel_rfl) bodyB_18 (msnap_cons (snap_agg (msnap_cons rfl (msnap_cons rfl (msnap_cons rfl (msnap_cons rfl (msnap_cons rfl msnap_nil)))))) msnap_nil) (fun x109 q110 => g_ref14_Draft_Lift_ok p0 x109 q110) (fun _ => by as_aux_lemma => kernel_rfl) h (fun x109 q110 h => ?_)
        refine callZ (as0 := [.agg [vI p3.Zeros, vI p3.Ones, vI p3.Child], .agg [vI x109.Grain, vI x109.Count, vI x109.One, .ref 3 0 x109.Rows.length]]) (ids := [3]) (by as_aux_lemma => kernel_rfl) bodyB_17 (msnap_cons (snap_agg (msnap_cons rfl (msnap_cons rfl (msnap_cons rfl msnap_nil (by rfl)) (by rfl)) (by rfl))) (msnap_cons (snap_agg (msnap_cons rfl (msnap_cons rfl (msnap_cons rfl (msnap_cons (snap_full rfl) msnap_nil (by rfl)) (by rfl)) (by rfl)) (by rfl))) msnap_nil (by rfl)) (by rfl)) (fun x111 q112 => g_law14_Known_Of_ok p3 x109 x111 q112) h (fun x111 q112 h => ?_)
        refine sy 2 7 (rgd (wp_block ?_))
        refine wwh h (fun s113 => ⟨(s4_162 x5 p3 x111 s113), [oX true false 5 (.agg [.int .u8 p0.Grain, .int .u8 p0.Count, .int .u8 p0.One, .int .u8 p0.Card, eL true (AV.int .u8) p0.L]), oX true true 3 (.agg [vI p3.Zeros, vI p3.Ones, vI p3.Child]), oX true false 4 (.agg [vI x5.2.2.Grain, vI x5.2.2.Count, vI x5.2.2.One, eL false (eL true eI) x5.2.2.Rows])], 104⟩) (fun x out => out = match x with | .inl v => .go (.ret) ⟨[(8, vB false)], [], 104⟩ | .inr v => .go (.exit 2) ⟨(s4_161 x5), [oX true false 5 (.agg [.int .u8 p0.Grain, .int .u8 p0.Count, .int .u8 p0.One, .int .u8 p0.Card, eL true (AV.int .u8) p0.L]), oX true true 3 (.agg [vI p3.Zeros, vI p3.Ones, vI p3.Child])], 104⟩) (wk_gc (live := [4, 7, 10, 26, 27, 35, 36]) (keep := [0, 1, 2]) (by as_aux_lemma => kernel_rfl)) ?_ ?_
        · intro s113 o h
          unfold g_law14_LiftCounts_b2 at h
          refine sq (wp_seq ?_)
          refine wbr (S := fun b114 => ⟨(s4_162 x5 p3 x111 s113) ++ [(37, vB b114)], [oX true false 5 (.agg [.int .u8 p0.Grain, .int .u8 p0.Count, .int .u8 p0.One, .int .u8 p0.Card, eL true (AV.int .u8) p0.L]), oX true true 3 (.agg [vI p3.Zeros, vI p3.Ones, vI p3.Child]), oX true false 4 (.agg [vI x5.2.2.Grain, vI x5.2.2.Count, vI x5.2.2.One, eL false (eL true eI) x5.2.2.Rows])], 104⟩) h (fun q115 h => ?_) (fun q115 h => ?_)
          · refine wcT (wp_skip (wp_seq (wp_block (wp_seq (reg_in ?_)))))
            refine rw_eqI (n := s113) (m := 0) (S := fun n116 => ⟨[(4, .ptr 0 0 0), (7, .ptr 1 0 0), (10, .ptr 2 0 0), (26, .agg [vI x5.1.Grain, vI x5.1.Count, vI x5.1.One, eL false (eL true eI) x5.1.Rows, vI x5.2.1.Grain, vI x5.2.1.Count, vI x5.2.1.One, eL false (eL true eI) x5.2.1.Rows, vI x5.2.2.Grain, vI x5.2.2.Count, vI x5.2.2.One, eL false (eL true eI) x5.2.2.Rows]), (27, vI 2), (35, .agg [vI p3.Zeros, vI p3.Ones, vI p3.Child, vI x111.Zeros, vI x111.Ones, vI x111.Child]), (36, vI n116), (37, vB true)], [oX true false 5 (.agg [.int .u8 p0.Grain, .int .u8 p0.Count, .int .u8 p0.One, .int .u8 p0.Card, eL true (AV.int .u8) p0.L]), oX true true 3 (.agg [vI p3.Zeros, vI p3.Ones, vI p3.Child]), oX true false 4 (.agg [vI x5.2.2.Grain, vI x5.2.2.Count, vI x5.2.2.One, eL false (eL true eI) x5.2.2.Rows])], 104⟩) h (fun _ h => ?_) (fun _ h => ?_)
            · refine sz 3 3 (reg_end rfl (wp_seq (reg_in (sz 7 7 ?_))))
              refine callZ (as0 := [.agg [vI x5.2.2.Grain, vI x5.2.2.Count, vI x5.2.2.One, eL false (eL true eI) x5.2.2.Rows], vI p3.Zeros, vI p3.Ones, vI p3.Child]) (ids := []) (by as_aux_lemma => kernel_rfl) bodyB_19 (msnap_cons (snap_agg (msnap_cons rfl (msnap_cons rfl (msnap_cons rfl (msnap_cons rfl msnap_nil))))) (msnap_cons rfl (msnap_cons rfl (msnap_cons rfl msnap_nil)))) (fun x117 q118 => g_lift_Prob_ok x5.2.2 p3.Zeros p3.Ones p3.Child x117 q118) h (fun x117 q118 h => ?_)
              refine sz 6 14 (reg_end rfl (wp_seq (wg [4, 7, 10, 26, 27, 35, 36, 12, 13, 14] [0, 1, 2, 3, 4] (reg_in (sz 7 7 ?_)))))
              refine callR (as0 := [.agg [vI x5.2.2.Grain, vI x5.2.2.Count, vI x5.2.2.One, eL false (eL true eI) x5.2.2.Rows], vI p3.Zeros, vI p3.Ones, vI p3.Child]) (ids := []) (S := fun x119 => ⟨[(4, .ptr 0 0 0), (7, .ptr 1 0 0), (10, .ptr 2 0 0), (26, .agg [vI x5.1.Grain, vI x5.1.Count, vI x5.1.One, eL false (eL true eI) x5.1.Rows, vI x5.2.1.Grain, vI x5.2.1.Count, vI x5.2.1.One, eL false (eL true eI) x5.2.1.Rows, vI x5.2.2.Grain, vI x5.2.2.Count, vI x5.2.2.One, eL false (eL true eI) x5.2.2.Rows]), (27, vI 2), (35, .agg [vI p3.Zeros, vI p3.Ones, vI p3.Child, vI x111.Zeros, vI x111.Ones, vI x111.Child]), (36, vI 0), (12, .ptr 3 0 0), (13, .ptr 4 0 0), (14, vI x117.2)] ++ [(51, .agg [vI x5.2.2.Grain, vI x5.2.2.Count, vI x5.2.2.One, eL false (eL true eI) x5.2.2.Rows]), (52, .ptr 3 0 0), (53, vI p3.Zeros), (54, .ptr 3 0 1), (55, vI p3.Ones), (56, .ptr 3 0 2), (57, vI p3.Child)] ++ [(58, .tup [.agg [vI x119.1.N, vI x119.1.D], vI x119.2])], [oX true false 5 (.agg [.int .u8 p0.Grain, .int .u8 p0.Count, .int .u8 p0.One, .int .u8 p0.Card, eL true (AV.int .u8) p0.L]), oX true true 3 (.agg [vI p3.Zeros, vI p3.Ones, vI p3.Child]), oX true false 4 (.agg [vI x5.2.2.Grain, vI x5.2.2.Count, vI x5.2.2.One, eL false (eL true eI) x5.2.2.Rows]), oX true true 3 (.agg [vI p3.Zeros, vI p3.Ones, vI p3.Child]), oX true true 2 (.agg [vI x117.1.N, vI x117.1.D])], 104⟩) (by as_aux_lemma => kernel_rfl) bodyB_20 (msnap_cons (snap_agg (msnap_cons rfl (msnap_cons rfl (msnap_cons rfl (msnap_cons rfl msnap_nil))))) (msnap_cons rfl (msnap_cons rfl (msnap_cons rfl msnap_nil)))) (fun x119 q120 => g_ref14_Prob_ok x5.2.2 p3.Zeros p3.Ones p3.Child x119 q120) (fun _ => by as_aux_lemma => kernel_rfl) h (fun x119 q120 h => ?_)
              refine sz 6 14 (reg_end rfl (wp_seq (wg [4, 7, 10, 26, 27, 35, 36, 12, 13, 14, 15, 16] [0, 1, 2, 3, 4, 5] (reg_in (sz 7 7 ?_)))))
              refine callZ (as0 := [.agg [vI x5.2.2.Grain, vI x5.2.2.Count, vI x5.2.2.One, eL false (eL true eI) x5.2.2.Rows], vI p3.Zeros, vI p3.Ones, vI p3.Child]) (ids := []) (by as_aux_lemma => kernel_rfl) bodyB_21 (msnap_cons (snap_agg (msnap_cons rfl (msnap_cons rfl (msnap_cons rfl (msnap_cons rfl msnap_nil))))) (msnap_cons rfl (msnap_cons rfl (msnap_cons rfl msnap_nil)))) (fun x121 q122 => g_lift_Ones_ok x5.2.2 p3.Zeros p3.Ones p3.Child x121 q122) h (fun x121 q122 h => ?_)
              refine sz 5 13 (reg_end rfl (wp_seq (wg [4, 7, 10, 26, 27, 35, 36, 12, 13, 14, 15, 16, 17, 18] [0, 1, 2, 3, 4, 5, 6] (reg_in ?_))))
              refine sgz 7 7 (S := ⟨[(4, .ptr 0 0 0), (7, .ptr 1 0 0), (10, .ptr 2 0 0), (26, .agg [vI x5.1.Grain, vI x5.1.Count, vI x5.1.One, eL false (eL true eI) x5.1.Rows, vI x5.2.1.Grain, vI x5.2.1.Count, vI x5.2.1.One, eL false (eL true eI) x5.2.1.Rows, vI x5.2.2.Grain, vI x5.2.2.Count, vI x5.2.2.One, eL false (eL true eI) x5.2.2.Rows]), (27, vI 2), (35, .agg [vI p3.Zeros, vI p3.Ones, vI p3.Child, vI x111.Zeros, vI x111.Ones, vI x111.Child]), (36, vI 0), (12, .ptr 3 0 0), (13, .ptr 4 0 0), (14, vI x117.2), (15, .ptr 5 0 0), (16, vI x119.2), (17, .ref 6 0 x121.1.length), (18, vI x121.2)] ++ [(73, .agg [vI x5.2.2.Grain, vI x5.2.2.Count, vI x5.2.2.One, eL false (eL true eI) x5.2.2.Rows]), (74, .ptr 3 0 0), (75, vI p3.Zeros), (76, .ptr 3 0 1), (77, vI p3.Ones), (78, .ptr 3 0 2), (79, vI p3.Child)], [oX true false 5 (.agg [.int .u8 p0.Grain, .int .u8 p0.Count, .int .u8 p0.One, .int .u8 p0.Card, eL true (AV.int .u8) p0.L]), oX true true 3 (.agg [vI p3.Zeros, vI p3.Ones, vI p3.Child]), oX true false 4 (.agg [vI x5.2.2.Grain, vI x5.2.2.Count, vI x5.2.2.One, eL false (eL true eI) x5.2.2.Rows]), oX true true 3 (.agg [vI p3.Zeros, vI p3.Ones, vI p3.Child]), oX true true 2 (.agg [vI x117.1.N, vI x117.1.D]), oX true true 2 (.agg [vI x119.1.N, vI x119.1.D]), oR true 2 eTapi_Q x121.1], 104⟩) ?_
              refine callZ (as0 := [.agg [vI x5.2.2.Grain, vI x5.2.2.Count, vI x5.2.2.One, eL false (eL true eI) x5.2.2.Rows], vI p3.Zeros, vI p3.Ones, vI p3.Child]) (ids := []) (by as_aux_lemma => kernel_rfl) bodyB_22 (msnap_cons (snap_agg (msnap_cons rfl (msnap_cons rfl (msnap_cons rfl (msnap_cons rfl msnap_nil))))) (msnap_cons rfl (msnap_cons rfl (msnap_cons rfl msnap_nil)))) (fun x123 q124 => g_ref14_Ones_ok x5.2.2 p3.Zeros p3.Ones p3.Child x123 q124) h (fun x123 q124 h => ?_)
              refine sz 5 13 (reg_end rfl (wp_seq (wg [4, 7, 10, 26, 27, 35, 36, 13, 14, 15, 16, 17, 18, 19, 20] [0, 1, 2, 4, 5, 6, 7] (reg_in (sz 4 4 (rwg [4, 7, 10, 26, 27, 35, 36, 14, 16, 17, 18, 19, 20, 86] [0, 1, 2, 5, 6] ?_))))))
              refine rbr (S := fun b125 => ⟨(s4_134 x5 p3 x111) ++ [(14, vI x117.2), (16, vI x119.2), (17, .ref 3 0 x121.1.length), (18, vI x121.2), (19, .ref 4 0 x123.1.length), (20, vI x123.2), (86, vB b125)], [oX true false 5 (.agg [.int .u8 p0.Grain, .int .u8 p0.Count, .int .u8 p0.One, .int .u8 p0.Card, eL true (AV.int .u8) p0.L]), oX true true 3 (.agg [vI p3.Zeros, vI p3.Ones, vI p3.Child]), oX true false 4 (.agg [vI x5.2.2.Grain, vI x5.2.2.Count, vI x5.2.2.One, eL false (eL true eI) x5.2.2.Rows]), oR true 2 eTapi_Q x121.1, oR true 2 eTapi_Q x123.1], 104⟩) h (fun q126 h => ?_) (fun q126 h => ?_)
              · refine sz 15 19 (reg_end rfl (wcT (wp_seq (wg [] [] (rn ?_)))))
                refine wgc [8] [] ⟨[(8, vB false)], [], 104⟩ ?_
                refine wp_ret ?_
                cases h
                exact ⟨rfl, rfl⟩
              refine sz 5 9 (rwg [4, 7, 10, 26, 27, 35, 36, 17, 18, 19, 20, 91] [0, 1, 2, 3, 4] ?_)
              refine rbr (S := fun b127 => ⟨(s4_134 x5 p3 x111) ++ [(17, .ref 3 0 x121.1.length), (18, vI x121.2), (19, .ref 4 0 x123.1.length), (20, vI x123.2), (91, vB b127)], [oX true false 5 (.agg [.int .u8 p0.Grain, .int .u8 p0.Count, .int .u8 p0.One, .int .u8 p0.Card, eL true (AV.int .u8) p0.L]), oX true true 3 (.agg [vI p3.Zeros, vI p3.Ones, vI p3.Child]), oX true false 4 (.agg [vI x5.2.2.Grain, vI x5.2.2.Count, vI x5.2.2.One, eL false (eL true eI) x5.2.2.Rows]), oR true 2 eTapi_Q x121.1, oR true 2 eTapi_Q x123.1], 104⟩) h (fun q128 h => ?_) (fun q128 h => ?_)
              · refine sz 10 19 (reg_end rfl (wcT (wp_seq (wg [] [] (rn ?_)))))
                refine wgc [8] [] ⟨[(8, vB false)], [], 104⟩ ?_
                refine wp_ret ?_
                cases h
                exact ⟨rfl, rfl⟩
              refine sz 5 14 (rwg [4, 7, 10, 26, 27, 35, 36, 17, 19, 96] [0, 1, 2, 3, 4] ?_)
              refine rbr (S := fun b129 => ⟨(s4_134 x5 p3 x111) ++ [(17, .ref 3 0 x121.1.length), (19, .ref 4 0 x123.1.length), (96, vB b129)], [oX true false 5 (.agg [.int .u8 p0.Grain, .int .u8 p0.Count, .int .u8 p0.One, .int .u8 p0.Card, eL true (AV.int .u8) p0.L]), oX true true 3 (.agg [vI p3.Zeros, vI p3.Ones, vI p3.Child]), oX true false 4 (.agg [vI x5.2.2.Grain, vI x5.2.2.Count, vI x5.2.2.One, eL false (eL true eI) x5.2.2.Rows]), oR true 2 eTapi_Q x121.1, oR true 2 eTapi_Q x123.1], 104⟩) h (fun q130 h => ?_) (fun q130 h => ?_)
              · refine sz 5 19 (reg_end rfl (wcT (wp_seq (wg [] [] (rn ?_)))))
                refine wgc [8] [] ⟨[(8, vB false)], [], 104⟩ ?_
                refine wp_ret ?_
                cases h
                exact ⟨rfl, rfl⟩
              refine sgz 2 16 (S := ⟨(s4_134 x5 p3 x111) ++ [(17, .ref 3 0 x121.1.length), (19, .ref 4 0 x123.1.length), (96, vB false), (97, .ref 3 0 x121.1.length), (98, .ref 4 0 x123.1.length)], [oX true false 5 (.agg [.int .u8 p0.Grain, .int .u8 p0.Count, .int .u8 p0.One, .int .u8 p0.Card, eL true (AV.int .u8) p0.L]), oX true true 3 (.agg [vI p3.Zeros, vI p3.Ones, vI p3.Child]), oX true false 4 (.agg [vI x5.2.2.Grain, vI x5.2.2.Count, vI x5.2.2.One, eL false (eL true eI) x5.2.2.Rows]), oR true 2 eTapi_Q x121.1, oR true 2 eTapi_Q x123.1], 104⟩) ?_
              refine callZ (as0 := [.ref 3 0 x121.1.length, .ref 4 0 x123.1.length]) (ids := [3, 4]) (by as_aux_lemma => kernel_rfl) bodyB_23 (msnap_cons (snap_full rfl) (msnap_cons (snap_full rfl) msnap_nil (by rfl)) (by rfl)) (fun x131 q132 => g_slices_Equal_api_Q_api_Q_ok x121.1 x123.1 x131 q132) h (fun x131 q132 h => ?_)
              refine sz 2 19 (reg_end rfl ?_)
              refine wbz h (fun q134 h => ?_) (fun q134 h => ?_)
              · refine wp_seq (wg [] [] (rn ?_))
                refine wgc [8] [] ⟨[(8, vB false)], [], 104⟩ ?_
                refine wp_ret ?_
                cases h
                exact ⟨rfl, rfl⟩
              refine wp_skip (wg [4, 7, 10, 26, 27, 35, 36] [0, 1, 2] (rn ?_))
              cases h
              exact ⟨_, rfl, (wk_gc (live := [4, 7, 10, 26, 27, 35, 36]) (keep := [0, 1, 2]) (by as_aux_lemma => kernel_rfl))⟩
            refine rw_eqI (n := s113) (m := 1) (S := fun n135 => ⟨[(4, .ptr 0 0 0), (7, .ptr 1 0 0), (10, .ptr 2 0 0), (26, .agg [vI x5.1.Grain, vI x5.1.Count, vI x5.1.One, eL false (eL true eI) x5.1.Rows, vI x5.2.1.Grain, vI x5.2.1.Count, vI x5.2.1.One, eL false (eL true eI) x5.2.1.Rows, vI x5.2.2.Grain, vI x5.2.2.Count, vI x5.2.2.One, eL false (eL true eI) x5.2.2.Rows]), (27, vI 2), (35, .agg [vI p3.Zeros, vI p3.Ones, vI p3.Child, vI x111.Zeros, vI x111.Ones, vI x111.Child]), (36, vI n135), (37, vB true)], [oX true false 5 (.agg [.int .u8 p0.Grain, .int .u8 p0.Count, .int .u8 p0.One, .int .u8 p0.Card, eL true (AV.int .u8) p0.L]), oX true true 3 (.agg [vI p3.Zeros, vI p3.Ones, vI p3.Child]), oX true false 4 (.agg [vI x5.2.2.Grain, vI x5.2.2.Count, vI x5.2.2.One, eL false (eL true eI) x5.2.2.Rows])], 104⟩) h (fun _ h => ?_) (fun _ h => ?_)
            · refine sz 3 3 (reg_end rfl (wp_seq (reg_in (sz 7 7 ?_))))
              refine callZ (as0 := [.agg [vI x5.2.2.Grain, vI x5.2.2.Count, vI x5.2.2.One, eL false (eL true eI) x5.2.2.Rows], vI x111.Zeros, vI x111.Ones, vI x111.Child]) (ids := []) (by as_aux_lemma => kernel_rfl) bodyB_19 (msnap_cons (snap_agg (msnap_cons rfl (msnap_cons rfl (msnap_cons rfl (msnap_cons rfl msnap_nil))))) (msnap_cons rfl (msnap_cons rfl (msnap_cons rfl msnap_nil)))) (fun x136 q137 => g_lift_Prob_ok x5.2.2 x111.Zeros x111.Ones x111.Child x136 q137) h (fun x136 q137 h => ?_)
              refine sz 6 14 (reg_end rfl (wp_seq (wg [4, 7, 10, 26, 27, 35, 36, 12, 13, 14] [0, 1, 2, 3, 4] (reg_in (sz 7 7 ?_)))))
              refine callR (as0 := [.agg [vI x5.2.2.Grain, vI x5.2.2.Count, vI x5.2.2.One, eL false (eL true eI) x5.2.2.Rows], vI x111.Zeros, vI x111.Ones, vI x111.Child]) (ids := []) (S := fun x138 => ⟨[(4, .ptr 0 0 0), (7, .ptr 1 0 0), (10, .ptr 2 0 0), (26, .agg [vI x5.1.Grain, vI x5.1.Count, vI x5.1.One, eL false (eL true eI) x5.1.Rows, vI x5.2.1.Grain, vI x5.2.1.Count, vI x5.2.1.One, eL false (eL true eI) x5.2.1.Rows, vI x5.2.2.Grain, vI x5.2.2.Count, vI x5.2.2.One, eL false (eL true eI) x5.2.2.Rows]), (27, vI 2), (35, .agg [vI p3.Zeros, vI p3.Ones, vI p3.Child, vI x111.Zeros, vI x111.Ones, vI x111.Child]), (36, vI 1), (12, .ptr 3 0 0), (13, .ptr 4 0 0), (14, vI x136.2)] ++ [(51, .agg [vI x5.2.2.Grain, vI x5.2.2.Count, vI x5.2.2.One, eL false (eL true eI) x5.2.2.Rows]), (52, .ptr 3 0 0), (53, vI x111.Zeros), (54, .ptr 3 0 1), (55, vI x111.Ones), (56, .ptr 3 0 2), (57, vI x111.Child)] ++ [(58, .tup [.agg [vI x138.1.N, vI x138.1.D], vI x138.2])], [oX true false 5 (.agg [.int .u8 p0.Grain, .int .u8 p0.Count, .int .u8 p0.One, .int .u8 p0.Card, eL true (AV.int .u8) p0.L]), oX true true 3 (.agg [vI p3.Zeros, vI p3.Ones, vI p3.Child]), oX true false 4 (.agg [vI x5.2.2.Grain, vI x5.2.2.Count, vI x5.2.2.One, eL false (eL true eI) x5.2.2.Rows]), oX true true 3 (.agg [vI x111.Zeros, vI x111.Ones, vI x111.Child]), oX true true 2 (.agg [vI x136.1.N, vI x136.1.D])], 104⟩) (by as_aux_lemma => kernel_rfl) bodyB_20 (msnap_cons (snap_agg (msnap_cons rfl (msnap_cons rfl (msnap_cons rfl (msnap_cons rfl msnap_nil))))) (msnap_cons rfl (msnap_cons rfl (msnap_cons rfl msnap_nil)))) (fun x138 q139 => g_ref14_Prob_ok x5.2.2 x111.Zeros x111.Ones x111.Child x138 q139) (fun _ => by as_aux_lemma => kernel_rfl) h (fun x138 q139 h => ?_)
              refine sz 6 14 (reg_end rfl (wp_seq (wg [4, 7, 10, 26, 27, 35, 36, 12, 13, 14, 15, 16] [0, 1, 2, 3, 4, 5] (reg_in (sz 7 7 ?_)))))
              refine callZ (as0 := [.agg [vI x5.2.2.Grain, vI x5.2.2.Count, vI x5.2.2.One, eL false (eL true eI) x5.2.2.Rows], vI x111.Zeros, vI x111.Ones, vI x111.Child]) (ids := []) (by as_aux_lemma => kernel_rfl) bodyB_21 (msnap_cons (snap_agg (msnap_cons rfl (msnap_cons rfl (msnap_cons rfl (msnap_cons rfl msnap_nil))))) (msnap_cons rfl (msnap_cons rfl (msnap_cons rfl msnap_nil)))) (fun x140 q141 => g_lift_Ones_ok x5.2.2 x111.Zeros x111.Ones x111.Child x140 q141) h (fun x140 q141 h => ?_)
              refine sz 5 13 (reg_end rfl (wp_seq (wg [4, 7, 10, 26, 27, 35, 36, 12, 13, 14, 15, 16, 17, 18] [0, 1, 2, 3, 4, 5, 6] (reg_in ?_))))
              refine sgz 7 7 (S := ⟨[(4, .ptr 0 0 0), (7, .ptr 1 0 0), (10, .ptr 2 0 0), (26, .agg [vI x5.1.Grain, vI x5.1.Count, vI x5.1.One, eL false (eL true eI) x5.1.Rows, vI x5.2.1.Grain, vI x5.2.1.Count, vI x5.2.1.One, eL false (eL true eI) x5.2.1.Rows, vI x5.2.2.Grain, vI x5.2.2.Count, vI x5.2.2.One, eL false (eL true eI) x5.2.2.Rows]), (27, vI 2), (35, .agg [vI p3.Zeros, vI p3.Ones, vI p3.Child, vI x111.Zeros, vI x111.Ones, vI x111.Child]), (36, vI 1), (12, .ptr 3 0 0), (13, .ptr 4 0 0), (14, vI x136.2), (15, .ptr 5 0 0), (16, vI x138.2), (17, .ref 6 0 x140.1.length), (18, vI x140.2)] ++ [(73, .agg [vI x5.2.2.Grain, vI x5.2.2.Count, vI x5.2.2.One, eL false (eL true eI) x5.2.2.Rows]), (74, .ptr 3 0 0), (75, vI x111.Zeros), (76, .ptr 3 0 1), (77, vI x111.Ones), (78, .ptr 3 0 2), (79, vI x111.Child)], [oX true false 5 (.agg [.int .u8 p0.Grain, .int .u8 p0.Count, .int .u8 p0.One, .int .u8 p0.Card, eL true (AV.int .u8) p0.L]), oX true true 3 (.agg [vI p3.Zeros, vI p3.Ones, vI p3.Child]), oX true false 4 (.agg [vI x5.2.2.Grain, vI x5.2.2.Count, vI x5.2.2.One, eL false (eL true eI) x5.2.2.Rows]), oX true true 3 (.agg [vI x111.Zeros, vI x111.Ones, vI x111.Child]), oX true true 2 (.agg [vI x136.1.N, vI x136.1.D]), oX true true 2 (.agg [vI x138.1.N, vI x138.1.D]), oR true 2 eTapi_Q x140.1], 104⟩) ?_
              refine callZ (as0 := [.agg [vI x5.2.2.Grain, vI x5.2.2.Count, vI x5.2.2.One, eL false (eL true eI) x5.2.2.Rows], vI x111.Zeros, vI x111.Ones, vI x111.Child]) (ids := []) (by as_aux_lemma => kernel_rfl) bodyB_22 (msnap_cons (snap_agg (msnap_cons rfl (msnap_cons rfl (msnap_cons rfl (msnap_cons rfl msnap_nil))))) (msnap_cons rfl (msnap_cons rfl (msnap_cons rfl msnap_nil)))) (fun x142 q143 => g_ref14_Ones_ok x5.2.2 x111.Zeros x111.Ones x111.Child x142 q143) h (fun x142 q143 h => ?_)
              refine sz 5 13 (reg_end rfl (wp_seq (wg [4, 7, 10, 26, 27, 35, 36, 13, 14, 15, 16, 17, 18, 19, 20] [0, 1, 2, 4, 5, 6, 7] (reg_in (sz 4 4 (rwg [4, 7, 10, 26, 27, 35, 36, 14, 16, 17, 18, 19, 20, 86] [0, 1, 2, 5, 6] ?_))))))
              refine rbr (S := fun b144 => ⟨(s4_160 x5 p3 x111) ++ [(14, vI x136.2), (16, vI x138.2), (17, .ref 3 0 x140.1.length), (18, vI x140.2), (19, .ref 4 0 x142.1.length), (20, vI x142.2), (86, vB b144)], [oX true false 5 (.agg [.int .u8 p0.Grain, .int .u8 p0.Count, .int .u8 p0.One, .int .u8 p0.Card, eL true (AV.int .u8) p0.L]), oX true true 3 (.agg [vI p3.Zeros, vI p3.Ones, vI p3.Child]), oX true false 4 (.agg [vI x5.2.2.Grain, vI x5.2.2.Count, vI x5.2.2.One, eL false (eL true eI) x5.2.2.Rows]), oR true 2 eTapi_Q x140.1, oR true 2 eTapi_Q x142.1], 104⟩) h (fun q145 h => ?_) (fun q145 h => ?_)
              · refine sz 15 19 (reg_end rfl (wcT (wp_seq (wg [] [] (rn ?_)))))
                refine wgc [8] [] ⟨[(8, vB false)], [], 104⟩ ?_
                refine wp_ret ?_
                cases h
                exact ⟨rfl, rfl⟩
              refine sz 5 9 (rwg [4, 7, 10, 26, 27, 35, 36, 17, 18, 19, 20, 91] [0, 1, 2, 3, 4] ?_)
              refine rbr (S := fun b146 => ⟨(s4_160 x5 p3 x111) ++ [(17, .ref 3 0 x140.1.length), (18, vI x140.2), (19, .ref 4 0 x142.1.length), (20, vI x142.2), (91, vB b146)], [oX true false 5 (.agg [.int .u8 p0.Grain, .int .u8 p0.Count, .int .u8 p0.One, .int .u8 p0.Card, eL true (AV.int .u8) p0.L]), oX true true 3 (.agg [vI p3.Zeros, vI p3.Ones, vI p3.Child]), oX true false 4 (.agg [vI x5.2.2.Grain, vI x5.2.2.Count, vI x5.2.2.One, eL false (eL true eI) x5.2.2.Rows]), oR true 2 eTapi_Q x140.1, oR true 2 eTapi_Q x142.1], 104⟩) h (fun q147 h => ?_) (fun q147 h => ?_)
              · refine sz 10 19 (reg_end rfl (wcT (wp_seq (wg [] [] (rn ?_)))))
                refine wgc [8] [] ⟨[(8, vB false)], [], 104⟩ ?_
                refine wp_ret ?_
                cases h
                exact ⟨rfl, rfl⟩
              refine sz 5 14 (rwg [4, 7, 10, 26, 27, 35, 36, 17, 19, 96] [0, 1, 2, 3, 4] ?_)
              refine rbr (S := fun b148 => ⟨(s4_160 x5 p3 x111) ++ [(17, .ref 3 0 x140.1.length), (19, .ref 4 0 x142.1.length), (96, vB b148)], [oX true false 5 (.agg [.int .u8 p0.Grain, .int .u8 p0.Count, .int .u8 p0.One, .int .u8 p0.Card, eL true (AV.int .u8) p0.L]), oX true true 3 (.agg [vI p3.Zeros, vI p3.Ones, vI p3.Child]), oX true false 4 (.agg [vI x5.2.2.Grain, vI x5.2.2.Count, vI x5.2.2.One, eL false (eL true eI) x5.2.2.Rows]), oR true 2 eTapi_Q x140.1, oR true 2 eTapi_Q x142.1], 104⟩) h (fun q149 h => ?_) (fun q149 h => ?_)
              · refine sz 5 19 (reg_end rfl (wcT (wp_seq (wg [] [] (rn ?_)))))
                refine wgc [8] [] ⟨[(8, vB false)], [], 104⟩ ?_
                refine wp_ret ?_
                cases h
                exact ⟨rfl, rfl⟩
              refine sgz 2 16 (S := ⟨(s4_160 x5 p3 x111) ++ [(17, .ref 3 0 x140.1.length), (19, .ref 4 0 x142.1.length), (96, vB false), (97, .ref 3 0 x140.1.length), (98, .ref 4 0 x142.1.length)], [oX true false 5 (.agg [.int .u8 p0.Grain, .int .u8 p0.Count, .int .u8 p0.One, .int .u8 p0.Card, eL true (AV.int .u8) p0.L]), oX true true 3 (.agg [vI p3.Zeros, vI p3.Ones, vI p3.Child]), oX true false 4 (.agg [vI x5.2.2.Grain, vI x5.2.2.Count, vI x5.2.2.One, eL false (eL true eI) x5.2.2.Rows]), oR true 2 eTapi_Q x140.1, oR true 2 eTapi_Q x142.1], 104⟩) ?_
              refine callZ (as0 := [.ref 3 0 x140.1.length, .ref 4 0 x142.1.length]) (ids := [3, 4]) (by as_aux_lemma => kernel_rfl) bodyB_23 (msnap_cons (snap_full rfl) (msnap_cons (snap_full rfl) msnap_nil (by rfl)) (by rfl)) (fun x150 q151 => g_slices_Equal_api_Q_api_Q_ok x140.1 x142.1 x150 q151) h (fun x150 q151 h => ?_)
              refine sz 2 19 (reg_end rfl ?_)
              refine wbz h (fun q153 h => ?_) (fun q153 h => ?_)
              · refine wp_seq (wg [] [] (rn ?_))
                refine wgc [8] [] ⟨[(8, vB false)], [], 104⟩ ?_
                refine wp_ret ?_
                cases h
                exact ⟨rfl, rfl⟩
              refine wp_skip (wg [4, 7, 10, 26, 27, 35, 36] [0, 1, 2] (rn ?_))
              cases h
              exact ⟨_, rfl, (wk_gc (live := [4, 7, 10, 26, 27, 35, 36]) (keep := [0, 1, 2]) (by as_aux_lemma => kernel_rfl))⟩
            cases h
          refine wcF ?_
          refine wgc [4, 7, 26, 27] [0, 1] ⟨(s4_161 x5), [oX true false 5 (.agg [.int .u8 p0.Grain, .int .u8 p0.Count, .int .u8 p0.One, .int .u8 p0.Card, eL true (AV.int .u8) p0.L]), oX true true 3 (.agg [vI p3.Zeros, vI p3.Ones, vI p3.Child])], 104⟩ ?_
          refine wp_exit ?_
          cases h
          exact ⟨rfl, rfl⟩
        intro x154 h out hx
        subst hx
        rcases x154 with x155 | x156
        · dsimp only at h ⊢
          cases h
          exact ⟨rfl, rfl⟩
        · dsimp only at h ⊢
          refine rn ?_
          cases h
          exact ⟨_, rfl, (wk_gc (live := [4, 7, 26, 27]) (keep := [0, 1]) (by as_aux_lemma => kernel_rfl))⟩
      cases h
    refine wcF ?_
    refine wgc [] [] ⟨[], [], 104⟩ ?_
    refine wp_exit ?_
    cases h
    exact ⟨rfl, rfl⟩
  intro x157 h out hx
  subst hx
  rcases x157 with x158 | x159
  · dsimp only at h ⊢
    cases h
    show fnOut _ _ _ _ = _
    kernel_rfl
  · dsimp only at h ⊢
    refine sq (wg [8] [] ?_)
    cases h
    exact wp_ret (show fnOut _ _ _ _ = _ from by kernel_rfl)
end Go.Ab
namespace Go.Ab
open Go
theorem one5 {cs : List AV} (h : WT (.int .u8) cs) : ∃ a : Int, cs = [(AV.int .u8) a] ∧ (Lit.int .u8 a).wf = true := by
  obtain ⟨n, rfl, w⟩ := h
  exact ⟨n, rfl, w⟩
theorem el5 {x : AV} (h : WT (.int .u8) x.flat ∧ (if false then x = .agg x.flat else x.cell = true)) : ∃ a : Int, x = (AV.int .u8) a ∧ (Lit.int .u8 a).wf = true := by
  obtain ⟨a, h1, h2⟩ := one5 h.1
  rw [flat_cell h.2] at h1
  exact ⟨a, (List.cons.inj h1).1, h2⟩
theorem one22 {cs : List AV} (h : WT (.slice true false 1 (.int .u8)) cs) : ∃ a : (List Int), cs = [(eL true (AV.int .u8)) a] ∧ (a.length ≤ maxLen ∧ ∀ y0 ∈ a, (Lit.int .u8 y0).wf = true) := by
  obtain ⟨xs, rfl, hl, hx⟩ := h
  obtain ⟨l, rfl, hr⟩ := lists_of (enc := (AV.int .u8)) (R := fun a => (Lit.int .u8 a).wf = true) (fun x hm => el5 (hx x hm))
  exact ⟨l, rfl, by simpa using hl, hr⟩
def okTharuspexref14_Draft (x : Tharuspexref14_Draft) : Prop := ((Lit.int .u8 x.Grain).wf = true) ∧ ((Lit.int .u8 x.Count).wf = true) ∧ ((Lit.int .u8 x.One).wf = true) ∧ ((Lit.int .u8 x.Card).wf = true) ∧ ((x.L.length ≤ maxLen ∧ ∀ y0 ∈ x.L, (Lit.int .u8 y0).wf = true))
theorem rdTharuspexref14_Draft {cs : List AV} (h : WT (.cat (.int .u8) (.cat (.int .u8) (.cat (.int .u8) (.cat (.int .u8) (.cat (.slice true false 1 (.int .u8)) .unit))))) cs) : ∃ x : Tharuspexref14_Draft, AV.agg cs = eTharuspexref14_Draft x ∧ okTharuspexref14_Draft x := by
  obtain ⟨_, _, rfl, a0, r0⟩ := h
  obtain ⟨v0, e0, w0⟩ := one5 a0
  cases e0
  obtain ⟨_, _, rfl, a1, r1⟩ := r0
  obtain ⟨v1, e1, w1⟩ := one5 a1
  cases e1
  obtain ⟨_, _, rfl, a2, r2⟩ := r1
  obtain ⟨v2, e2, w2⟩ := one5 a2
  cases e2
  obtain ⟨_, _, rfl, a3, r3⟩ := r2
  obtain ⟨v3, e3, w3⟩ := one5 a3
  cases e3
  obtain ⟨_, _, rfl, a4, r4⟩ := r3
  obtain ⟨v4, e4, w4⟩ := one22 a4
  cases e4
  cases r4
  exact ⟨⟨v0, v1, v2, v3, v4⟩, rfl, ⟨w0, w1, w2, w3, w4⟩⟩
theorem one3 {cs : List AV} (h : WT (.int .i64) cs) : ∃ a : Int, cs = [eI a] ∧ (Lit.int .i64 a).wf = true := by
  obtain ⟨n, rfl, w⟩ := h
  exact ⟨n, rfl, w⟩
theorem el3 {x : AV} (h : WT (.int .i64) x.flat ∧ (if false then x = .agg x.flat else x.cell = true)) : ∃ a : Int, x = eI a ∧ (Lit.int .i64 a).wf = true := by
  obtain ⟨a, h1, h2⟩ := one3 h.1
  rw [flat_cell h.2] at h1
  exact ⟨a, (List.cons.inj h1).1, h2⟩
def okTharuspexlaw14_Known (x : Tharuspexlaw14_Known) : Prop := ((Lit.int .i64 x.Zeros).wf = true) ∧ ((Lit.int .i64 x.Ones).wf = true) ∧ ((Lit.int .i64 x.Child).wf = true)
theorem rdTharuspexlaw14_Known {cs : List AV} (h : WT (.cat (.int .i64) (.cat (.int .i64) (.cat (.int .i64) .unit))) cs) : ∃ x : Tharuspexlaw14_Known, AV.agg cs = eTharuspexlaw14_Known x ∧ okTharuspexlaw14_Known x := by
  obtain ⟨_, _, rfl, a0, r0⟩ := h
  obtain ⟨v0, e0, w0⟩ := one3 a0
  cases e0
  obtain ⟨_, _, rfl, a1, r1⟩ := r0
  obtain ⟨v1, e1, w1⟩ := one3 a1
  cases e1
  obtain ⟨_, _, rfl, a2, r2⟩ := r1
  obtain ⟨v2, e2, w2⟩ := one3 a2
  cases e2
  cases r2
  exact ⟨⟨v0, v1, v2⟩, rfl, ⟨w0, w1, w2⟩⟩
def okTharuspexref14_Bend (x : Tharuspexref14_Bend) : Prop := ((Lit.int .u8 x.What).wf = true) ∧ ((Lit.int .u8 x.J).wf = true) ∧ ((Lit.int .u8 x.At).wf = true) ∧ ((Lit.int .i64 x.N).wf = true)
theorem rdTharuspexref14_Bend {cs : List AV} (h : WT (.cat (.int .u8) (.cat (.int .u8) (.cat (.int .u8) (.cat (.int .i64) .unit)))) cs) : ∃ x : Tharuspexref14_Bend, AV.agg cs = eTharuspexref14_Bend x ∧ okTharuspexref14_Bend x := by
  obtain ⟨_, _, rfl, a0, r0⟩ := h
  obtain ⟨v0, e0, w0⟩ := one5 a0
  cases e0
  obtain ⟨_, _, rfl, a1, r1⟩ := r0
  obtain ⟨v1, e1, w1⟩ := one5 a1
  cases e1
  obtain ⟨_, _, rfl, a2, r2⟩ := r1
  obtain ⟨v2, e2, w2⟩ := one5 a2
  cases e2
  obtain ⟨_, _, rfl, a3, r3⟩ := r2
  obtain ⟨v3, e3, w3⟩ := one3 a3
  cases e3
  cases r3
  exact ⟨⟨v0, v1, v2, v3⟩, rfl, ⟨w0, w1, w2, w3⟩⟩
theorem one64 {cs : List AV} (h : WT (.slice true false 1 (.int .i64)) cs) : ∃ a : (List Int), cs = [(eL true eI) a] ∧ (a.length ≤ maxLen ∧ ∀ y0 ∈ a, (Lit.int .i64 y0).wf = true) := by
  obtain ⟨xs, rfl, hl, hx⟩ := h
  obtain ⟨l, rfl, hr⟩ := lists_of (enc := eI) (R := fun a => (Lit.int .i64 a).wf = true) (fun x hm => el3 (hx x hm))
  exact ⟨l, rfl, by simpa using hl, hr⟩
theorem el64 {x : AV} (h : WT (.slice true false 1 (.int .i64)) x.flat ∧ (if false then x = .agg x.flat else x.cell = true)) : ∃ a : (List Int), x = (eL true eI) a ∧ (a.length ≤ maxLen ∧ ∀ y0 ∈ a, (Lit.int .i64 y0).wf = true) := by
  obtain ⟨a, h1, h2⟩ := one64 h.1
  rw [flat_cell h.2] at h1
  exact ⟨a, (List.cons.inj h1).1, h2⟩
theorem one27 {cs : List AV} (h : WT (.slice false false 1 (.slice true false 1 (.int .i64))) cs) : ∃ a : (List (List Int)), cs = [(eL false (eL true eI)) a] ∧ (a.length ≤ maxLen ∧ ∀ y0 ∈ a, (y0.length ≤ maxLen ∧ ∀ y1 ∈ y0, (Lit.int .i64 y1).wf = true)) := by
  obtain ⟨xs, rfl, hl, hx⟩ := h
  obtain ⟨l, rfl, hr⟩ := lists_of (enc := (eL true eI)) (R := fun a => (a.length ≤ maxLen ∧ ∀ y0 ∈ a, (Lit.int .i64 y0).wf = true)) (fun x hm => el64 (hx x hm))
  exact ⟨l, rfl, by simpa using hl, hr⟩
def okTapi_Lift (x : Tapi_Lift) : Prop := ((Lit.int .i64 x.Grain).wf = true) ∧ ((Lit.int .i64 x.Count).wf = true) ∧ ((Lit.int .i64 x.One).wf = true) ∧ ((x.Rows.length ≤ maxLen ∧ ∀ y0 ∈ x.Rows, (y0.length ≤ maxLen ∧ ∀ y1 ∈ y0, (Lit.int .i64 y1).wf = true)))
theorem rdTapi_Lift {cs : List AV} (h : WT (.cat (.int .i64) (.cat (.int .i64) (.cat (.int .i64) (.cat (.slice false false 1 (.slice true false 1 (.int .i64))) .unit)))) cs) : ∃ x : Tapi_Lift, AV.agg cs = eTapi_Lift x ∧ okTapi_Lift x := by
  obtain ⟨_, _, rfl, a0, r0⟩ := h
  obtain ⟨v0, e0, w0⟩ := one3 a0
  cases e0
  obtain ⟨_, _, rfl, a1, r1⟩ := r0
  obtain ⟨v1, e1, w1⟩ := one3 a1
  cases e1
  obtain ⟨_, _, rfl, a2, r2⟩ := r1
  obtain ⟨v2, e2, w2⟩ := one3 a2
  cases e2
  obtain ⟨_, _, rfl, a3, r3⟩ := r2
  obtain ⟨v3, e3, w3⟩ := one27 a3
  cases e3
  cases r3
  exact ⟨⟨v0, v1, v2, v3⟩, rfl, ⟨w0, w1, w2, w3⟩⟩
end Go.Ab
namespace Go.Ab
open Go
theorem whileN_spec {σ ρ : Type} {body : σ → Option (Step σ ρ)} (I : σ → Prop) (m : σ → Nat) (Q : ρ → Prop)
    (step : ∀ s, I s → (∃ s', body s = some (.next s') ∧ I s' ∧ m s' < m s) ∨ (∃ r, body s = some (.done r) ∧ Q r)) :
    ∀ (n : Nat) (s : σ), I s → m s < n → ∃ r, whileN n body s = some r ∧ Q r
  | 0, s, _, h => by omega
  | n + 1, s, hI, h => by
    unfold whileN
    rcases step s hI with ⟨s', h1, h2, h3⟩ | ⟨r, h1, h2⟩
    · rw [h1]
      exact whileN_spec I m Q step n s' h2 (by omega)
    · rw [h1]
      exact ⟨r, rfl, h2⟩
theorem whileN_eq {σ ρ : Type} {body : σ → Option (Step σ ρ)} (I : σ → Prop) (m : σ → Nat) (r : ρ)
    (step : ∀ s, I s → (∃ s', body s = some (.next s') ∧ I s' ∧ m s' < m s) ∨ body s = some (.done r)) (s : σ) (hI : I s) (hm : m s < 1152921504606846976) : whileN fuel body s = some r := by
  obtain ⟨r', h1, h2⟩ := whileN_spec I m (fun x => x = r) (fun s hs => (step s hs).imp id fun h => ⟨r, h, rfl⟩) fuel s hI hm
  rw [h1, h2]
theorem whileN_ex {σ ρ : Type} {body : σ → Option (Step σ ρ)} (I : σ → Prop) (m : σ → Nat) (Q : ρ → Prop)
    (step : ∀ s, I s → (∃ s', body s = some (.next s') ∧ I s' ∧ m s' < m s) ∨ (∃ r, body s = some (.done r) ∧ Q r)) (s : σ) (hI : I s) (hm : m s < 1152921504606846976) : ∃ r, whileN fuel body s = some r ∧ Q r :=
  whileN_spec I m Q step fuel s hI hm
theorem whileN_count {σ ρ : Type} {body : σ → Option (Step σ ρ)} (f : Nat → σ) (n : Nat) (r : ρ) (step : ∀ k, k < n → body (f k) = some (.next (f (k + 1)))) (done : body (f n) = some (.done r)) (hn : n < 1152921504606846976) :
    whileN fuel body (f 0) = some r := by
  have key : ∀ (j N k : Nat), k + j = n → j < N → whileN N body (f k) = some r := by
    intro j
    induction j with
    | zero =>
      intro N k hk hN
      obtain ⟨N, rfl⟩ : ∃ M, N = M + 1 := ⟨N - 1, by omega⟩
      have : k = n := by omega
      subst this
      simp [whileN, done]
    | succ j ih =>
      intro N k hk hN
      obtain ⟨N, rfl⟩ : ∃ M, N = M + 1 := ⟨N - 1, by omega⟩
      simp only [whileN, step k (by omega)]
      exact ih N (k + 1) (by omega) (by omega)
  exact key n fuel 0 (by omega) hn
theorem whileN_run {σ ρ : Type} {body : σ → Option (Step σ ρ)} {s0 : σ} (f : Nat → σ) (n : Nat) (r : ρ) (h0 : f 0 = s0) (step : ∀ k, k < n → body (f k) = some (.next (f (k + 1)))) (done : body (f n) = some (.done r)) (hn : n < 1152921504606846976) :
    whileN fuel body s0 = some r := by rw [← h0]; exact whileN_count f n r step done hn
theorem w64 {n : Int} (h : -9223372036854775808 ≤ n ∧ n ≤ 9223372036854775807) : IntKind.i64.wrap n = n := by rw [IntKind.wrap_i64]; omega
theorem lkI_at {α : Type} {l : List α} {n : Int} (h : 0 ≤ n) (h2 : n < l.length) : lkI l n = some (l[n.toNat]'(by omega)) := by
  unfold lkI
  rw [if_neg (by omega), List.getElem?_eq_getElem]
theorem lkI_nat {α : Type} {l : List α} {k : Nat} (h : k < l.length) : lkI l (k : Int) = some l[k] := by
  unfold lkI
  rw [if_neg (by omega), Int.toNat_natCast, List.getElem?_eq_getElem h]
theorem tdiv_pos {a b : Int} (h : 0 ≤ a) : Int.tdiv a b = a / b := Int.tdiv_eq_ediv_of_nonneg h
theorem tmod_pos {a b : Int} (h : 0 ≤ a) : Int.tmod a b = a % b := Int.tmod_eq_emod_of_nonneg h
def dgs (n : Nat) : List Int := if h : n = 0 then [] else ((n % 10000 : Nat) : Int) :: dgs (n / 10000)
termination_by n
decreasing_by omega
def dval : List Int → Nat
  | [] => 0
  | x :: l => x.toNat + 10000 * dval l
def isdg (l : List Int) : Prop := ∀ x ∈ l, 0 ≤ x ∧ x < 10000
theorem dgs_zero : dgs 0 = [] := by rw [dgs]; simp
theorem dgs_pos {n : Nat} (h : n ≠ 0) : dgs n = ((n % 10000 : Nat) : Int) :: dgs (n / 10000) := by rw [dgs]; simp [h]
theorem dval_dgs (n : Nat) : dval (dgs n) = n := by
  induction n using Nat.strongRecOn with
  | _ n ih =>
    by_cases h : n = 0
    · subst h; rw [dgs_zero]; rfl
    · rw [dgs_pos h]
      simp only [dval]
      rw [ih (n / 10000) (by omega)]
      omega
theorem isdg_dgs (n : Nat) : isdg (dgs n) := by
  induction n using Nat.strongRecOn with
  | _ n ih =>
    by_cases h : n = 0
    · subst h; rw [dgs_zero]; intro x hx; cases hx
    · rw [dgs_pos h]
      intro x hx
      rcases List.mem_cons.1 hx with rfl | hx
      · omega
      · exact ih (n / 10000) (by omega) x hx
theorem dgs_eq_nil {n : Nat} : dgs n = [] ↔ n = 0 := by
  constructor
  · intro h
    have := dval_dgs n
    rw [h] at this; exact this.symm
  · intro h; subst h; exact dgs_zero
theorem isdg_cons {x : Int} {l : List Int} : isdg (x :: l) ↔ (0 ≤ x ∧ x < 10000) ∧ isdg l := by simp [isdg]
theorem isdg_nil : isdg [] := fun x h => by cases h
theorem isdg_append {a b : List Int} : isdg (a ++ b) ↔ isdg a ∧ isdg b := by
  constructor
  · exact fun h => ⟨fun x hx => h x (List.mem_append_left _ hx), fun x hx => h x (List.mem_append_right _ hx)⟩
  · rintro ⟨h1, h2⟩ x hx
    rcases List.mem_append.1 hx with h | h
    · exact h1 x h
    · exact h2 x h
theorem dval_append (a b : List Int) : dval (a ++ b) = dval a + 10000 ^ a.length * dval b := by
  induction a with
  | nil => simp [dval]
  | cons x a ih =>
    simp only [List.cons_append, dval, ih, List.length_cons, Nat.pow_succ]
    rw [Nat.mul_add, Nat.add_assoc, ← Nat.mul_assoc, Nat.mul_comm 10000 (10000 ^ a.length)]
theorem dval_lt {l : List Int} (h : isdg l) : dval l < 10000 ^ l.length := by
  induction l with
  | nil => simp [dval]
  | cons x l ih =>
    rw [isdg_cons] at h
    have := ih h.2
    simp only [dval, List.length_cons, Nat.pow_succ]
    omega
def nolz (l : List Int) : Prop := l.getLast? ≠ some 0
theorem dgs_of {l : List Int} (h : isdg l) (hn : nolz l) : dgs (dval l) = l := by
  induction l with
  | nil => exact dgs_zero
  | cons x l ih =>
    rw [isdg_cons] at h
    have hn' : nolz l := by
      unfold nolz at *
      cases l with
      | nil => simp
      | cons y l => simpa [List.getLast?_cons_cons] using hn
    have hne : dval (x :: l) ≠ 0 := by
      simp only [dval]
      intro h0
      have hx : x = 0 := by omega
      have hl : dval l = 0 := by omega
      have := ih h.2 hn'
      rw [hl, dgs_zero] at this
      subst this
      subst hx
      simp [nolz] at hn
    rw [dgs_pos hne]
    simp only [dval] at *
    rw [show (x.toNat + 10000 * dval l) / 10000 = dval l by omega, ih h.2 hn']
    congr 1
    omega
theorem nolz_dgs (n : Nat) : nolz (dgs n) := by
  induction n using Nat.strongRecOn with
  | _ n ih =>
    by_cases h : n = 0
    · subst h; rw [dgs_zero]; simp [nolz]
    · rw [dgs_pos h]
      have := ih (n / 10000) (by omega)
      unfold nolz at *
      cases hd : dgs (n / 10000) with
      | nil =>
        rw [dgs_eq_nil] at hd
        intro h1
        simp only [List.getLast?_singleton, Option.some.injEq] at h1
        omega
      | cons y l =>
        rw [hd] at this
        simpa [List.getLast?_cons_cons] using this
theorem dgs_length_le {n K : Nat} (h : n < 10000 ^ K) : (dgs n).length ≤ K := by
  induction K generalizing n with
  | zero => simp at h; subst h; rw [dgs_zero]; simp
  | succ K ih =>
    by_cases h0 : n = 0
    · subst h0; rw [dgs_zero]; simp
    · rw [dgs_pos h0]
      simp only [List.length_cons]
      have := ih (n := n / 10000) (by rw [Nat.pow_succ] at h; omega)
      omega
theorem lt_dgs (n : Nat) : n < 10000 ^ (dgs n).length := by
  have := dval_lt (isdg_dgs n)
  rwa [dval_dgs] at this
theorem dgs_le {n : Nat} (h : n ≠ 0) : 10000 ^ ((dgs n).length - 1) ≤ n := by
  induction n using Nat.strongRecOn with
  | _ n ih =>
    rw [dgs_pos h]
    simp only [List.length_cons, Nat.add_sub_cancel]
    by_cases h0 : n / 10000 = 0
    · rw [h0, dgs_zero]; simp; omega
    · have h1 := ih (n / 10000) (by omega) h0
      have : (dgs (n / 10000)).length ≠ 0 := by rw [Ne, List.length_eq_zero_iff, dgs_eq_nil]; exact h0
      obtain ⟨k, hk⟩ : ∃ k, (dgs (n / 10000)).length = k + 1 := ⟨(dgs (n / 10000)).length - 1, by omega⟩
      rw [hk] at h1 ⊢
      simp only [Nat.add_sub_cancel] at h1
      rw [Nat.pow_succ]
      omega
theorem isdg_get {l : List Int} (h : isdg l) {k : Nat} (hk : k < l.length) : 0 ≤ l[k] ∧ l[k] < 10000 := h _ (List.getElem_mem hk)
theorem dval_take_succ {l : List Int} {k : Nat} (hk : k < l.length) : dval (l.take (k + 1)) = dval (l.take k) + 10000 ^ k * l[k].toNat := by
  rw [List.take_succ_eq_append_getElem hk, dval_append]
  simp [dval, Nat.min_eq_left (Nat.le_of_lt hk)]
theorem dval_drop {l : List Int} {k : Nat} (hk : k < l.length) : dval (l.drop k) = l[k].toNat + 10000 * dval (l.drop (k + 1)) := by
  rw [List.drop_eq_getElem_cons hk]; rfl
theorem isdg_take {l : List Int} (h : isdg l) (k : Nat) : isdg (l.take k) := fun x hx => h x (List.mem_of_mem_take hx)
theorem isdg_drop {l : List Int} (h : isdg l) (k : Nat) : isdg (l.drop k) := fun x hx => h x (List.mem_of_mem_drop hx)
end Go.Ab
namespace Go.Ab
open Go
set_option maxRecDepth 100000
theorem dval_split {l : List Int} {k : Nat} (hk : k ≤ l.length) : dval l = dval (l.take k) + 10000 ^ k * dval (l.drop k) := by
  conv => lhs; rw [← List.take_append_drop k l, dval_append]
  rw [List.length_take, Nat.min_eq_left hk]
theorem natAbs_cases (m : Int) : m = (m.natAbs : Int) ∨ m = -(m.natAbs : Int) := by omega
theorem absmod (m : Int) (h : -9223372036854775808 ≤ m ∧ m ≤ 9223372036854775807) : (if IntKind.i64.wrap (0 - Int.tmod m 10000) > Int.tmod m 10000 then IntKind.i64.wrap (0 - Int.tmod m 10000) else Int.tmod m 10000) = ((m.natAbs % 10000 : Nat) : Int) := by
  rcases natAbs_cases m with hm | hm
  · have e : Int.tmod m 10000 = ((m.natAbs % 10000 : Nat) : Int) := by rw [tmod_pos (by omega)]; omega
    rw [e, w64 (by omega), if_neg (by omega)]
  · have e : Int.tmod m 10000 = -((m.natAbs % 10000 : Nat) : Int) := by
      conv => lhs; rw [hm, Int.neg_tmod, tmod_pos (by omega)]
      omega
    rw [e, w64 (by omega)]
    split <;> omega
theorem absdiv (m : Int) (h : -9223372036854775808 ≤ m ∧ m ≤ 9223372036854775807) : IntKind.i64.wrap (Int.tdiv m 10000) = Int.tdiv m 10000 ∧ (Int.tdiv m 10000).natAbs = m.natAbs / 10000 := by
  rcases natAbs_cases m with hm | hm
  · have e : Int.tdiv m 10000 = ((m.natAbs / 10000 : Nat) : Int) := by rw [tdiv_pos (by omega)]; omega
    rw [e, w64 (by omega)]; omega
  · have e : Int.tdiv m 10000 = -((m.natAbs / 10000 : Nat) : Int) := by
      conv => lhs; rw [hm, Int.neg_tdiv, tdiv_pos (by omega)]
      omega
    rw [e, w64 (by omega)]; omega
theorem digits_eq (p : Int) (h : -9223372036854775808 ≤ p ∧ p ≤ 9223372036854775807) : g_ref01_digits p = some (dgs p.natAbs) := by
  unfold g_ref01_digits
  have hlen : (dgs p.natAbs).length ≤ 5 := dgs_length_le (by omega)
  rw [whileN_eq (fun s => s.2 ++ dgs s.1.natAbs = dgs p.natAbs ∧ -9223372036854775808 ≤ s.1 ∧ s.1 ≤ 9223372036854775807) (fun s => (dgs s.1.natAbs).length) (dgs p.natAbs) ?_ (p, []) ⟨by simp, h⟩ (by simp only []; omega)]
  · rfl
  · rintro ⟨m, out⟩ ⟨h1, h2, h3⟩
    simp only at h1 h2 h3
    by_cases hm : m = 0
    · subst hm
      rw [Int.natAbs_zero, dgs_zero, List.append_nil] at h1
      exact .inr (by simp [g_ref01_digits_b0, h1])
    · refine .inl ⟨(Int.tdiv m 10000, out ++ [((m.natAbs % 10000 : Nat) : Int)]), ?_, ?_, ?_⟩
      · unfold g_ref01_digits_b0
        simp only
        rw [if_pos (by simpa using hm), absmod m ⟨h2, h3⟩, (absdiv m ⟨h2, h3⟩).1, if_pos]
        have := congrArg List.length h1
        simp only [List.length_append, List.length_cons, List.length_nil] at this ⊢
        omega
      · simp only
        refine ⟨?_, ?_⟩
        · rw [(absdiv m ⟨h2, h3⟩).2, List.append_assoc, ← h1, dgs_pos (n := m.natAbs) (by omega)]; rfl
        · have := (absdiv m ⟨h2, h3⟩).2; omega
      · simp only
        rw [(absdiv m ⟨h2, h3⟩).2, dgs_pos (n := m.natAbs) (by omega)]; simp
theorem pow_pos' (k : Nat) : 0 < 10000 ^ k := Nat.pow_pos (by omega)
theorem pow_le {i j : Nat} (h : i ≤ j) : 10000 ^ i ≤ 10000 ^ j := Nat.pow_le_pow_right (by omega) h
theorem dval_lt_of {x y : List Int} {j : Nat} (hx : isdg x) (hy : isdg y) (hl : x.length = y.length) (hj : j < x.length) (hd : x.drop (j + 1) = y.drop (j + 1)) (hlt : x[j] < y[j]'(by omega)) : dval x < dval y := by
  rw [dval_split (l := x) (k := j) (by omega), dval_split (l := y) (k := j) (by omega), dval_drop hj, dval_drop (l := y) (k := j) (by omega), hd]
  have h1 := dval_lt (isdg_take hx j)
  rw [List.length_take, Nat.min_eq_left (by omega)] at h1
  have h2 := isdg_get hx hj
  have h3 := isdg_get hy (k := j) (by omega)
  have h4 : x[j].toNat + 1 ≤ (y[j]'(by omega)).toNat := by omega
  have h5 : 10000 ^ j * (x[j].toNat + 10000 * dval (y.drop (j + 1)) + 1) ≤ 10000 ^ j * ((y[j]'(by omega)).toNat + 10000 * dval (y.drop (j + 1))) := Nat.mul_le_mul_left _ (by omega)
  rw [Nat.mul_add (10000 ^ j) _ 1] at h5
  omega
def cmpN (a b : Nat) : Int := if a < b then -1 else if a = b then 0 else 1
theorem dgs_inj {a b : Nat} (h : dgs a = dgs b) : a = b := by
  have := congrArg dval h
  rwa [dval_dgs, dval_dgs] at this
theorem len_lt {a b : Nat} (h : (dgs a).length < (dgs b).length) : a < b := by
  have h1 := lt_dgs a
  have h2 := dgs_le (n := b) (by intro h0; rw [h0, dgs_zero] at h; simp at h)
  have := pow_le (i := (dgs a).length) (j := (dgs b).length - 1) (by omega)
  omega
theorem compare_eq (a b : Nat) (ha : (dgs a).length ≤ 1000000) (hb : (dgs b).length ≤ 1000000) : g_ref01_compare (dgs a) (dgs b) = some (cmpN a b) := by
  unfold g_ref01_compare cmpN
  by_cases hl : (dgs a).length = (dgs b).length
  · rw [if_neg (by simp [hl])]
    have key := whileN_ex (body := g_ref01_compare_b0 (dgs a) (dgs b)) (fun s => ∃ k : Nat, s = (k : Int) - 1 ∧ k ≤ (dgs a).length ∧ (dgs a).drop k = (dgs b).drop k) (fun s => (s + 1).toNat)
      (fun r => (match r with | .inl x => some x | .inr _ => some (0 : Int)) = some (if a < b then (-1 : Int) else if a = b then 0 else 1)) ?_
      (IntKind.i64.wrap (((dgs a).length : Int) - 1)) ⟨(dgs a).length, by rw [w64 (by omega)], Nat.le_refl _, by rw [List.drop_length, hl, List.drop_length]⟩ (by rw [w64 (by omega)]; omega)
    · obtain ⟨r, h1, h2⟩ := key
      rw [h1]
      exact h2
    · rintro s ⟨k, rfl, hk, hd⟩
      cases k with
      | zero =>
        right
        refine ⟨.inr (), by simp [g_ref01_compare_b0], ?_⟩
        simp only [List.drop_zero] at hd
        have := dgs_inj hd
        subst this
        simp
      | succ k =>
        have e : ((k + 1 : Nat) : Int) - 1 = (k : Int) := by omega
        rw [e]
        have hka : k < (dgs a).length := by omega
        have hkb : k < (dgs b).length := by omega
        unfold g_ref01_compare_b0
        rw [if_pos (by simp), lkI_nat hka, lkI_nat hkb]
        simp only [Option.bind_some]
        by_cases hne : (dgs a)[k] = (dgs b)[k]
        · left
          refine ⟨(k : Int) - 1, ?_, ⟨k, rfl, by omega, ?_⟩, by omega⟩
          · rw [if_neg (by simp [hne]), w64 (by omega)]
          · rw [List.drop_eq_getElem_cons hka, List.drop_eq_getElem_cons hkb, hne, hd]
        · right
          rw [if_pos (by simp [hne])]
          by_cases hlt : (dgs a)[k] < (dgs b)[k]
          · refine ⟨.inl (-1), by simp [hlt], ?_⟩
            have := dval_lt_of (isdg_dgs a) (isdg_dgs b) hl hka hd hlt
            rw [dval_dgs, dval_dgs] at this
            simp [this]
          · refine ⟨.inl 1, by simp [hlt], ?_⟩
            have := dval_lt_of (isdg_dgs b) (isdg_dgs a) hl.symm hkb hd.symm (by omega)
            rw [dval_dgs, dval_dgs] at this
            simp only [Option.some.injEq]
            rw [if_neg (by omega), if_neg (by omega)]
  · rw [if_pos (by simp; omega)]
    by_cases hlt : (dgs a).length < (dgs b).length
    · have := len_lt hlt
      simp [hlt, this]
    · have := len_lt (a := b) (b := a) (by omega)
      rw [if_neg (by simp; omega), if_neg (by omega), if_neg (by omega)]
theorem sub_take {l : List Int} {k : Nat} : sub l 0 (k : Int) = l.take k := by simp [sub]
theorem cut_eq (l : List Int) (h : isdg l) (hl : l.length ≤ 1000000) : g_ref01_cut l = some (dgs (dval l)) := by
  unfold g_ref01_cut
  rw [whileN_eq (fun s => isdg s ∧ dval s = dval l ∧ s.length ≤ 1000000) (fun s => s.length) (dgs (dval l)) ?_ l ⟨h, rfl, hl⟩ (by omega)]
  · rfl
  · rintro s ⟨h1, h2, h3⟩
    unfold g_ref01_cut_b0
    by_cases hs : s.length = 0
    · right
      rw [if_neg (by simp [hs])]
      have : s = [] := List.length_eq_zero_iff.1 hs
      subst this
      rw [← h2]; simp [dval, dgs_zero]
    · obtain ⟨k, hk⟩ : ∃ k, s.length = k + 1 := ⟨s.length - 1, by omega⟩
      rw [if_pos (by simp; omega), w64 (by omega), show (s.length : Int) - 1 = (k : Int) by omega, lkI_nat (by omega)]
      simp only [Option.bind_some]
      by_cases h0 : s[k] = 0
      · left
        refine ⟨s.take k, ?_, ⟨isdg_take h1 k, ?_, by simp; omega⟩, by simp; omega⟩
        · rw [if_pos (by simp [h0]), if_pos (by omega), sub_take]
        · rw [← h2, dval_split (l := s) (k := k) (by omega), dval_drop (by omega), h0, List.drop_of_length_le (by omega)]; simp [dval]
      · right
        rw [if_neg (by simp [h0])]
        have hn : nolz s := by
          unfold nolz
          rw [List.getLast?_eq_getElem?, hk, Nat.add_sub_cancel, List.getElem?_eq_getElem (by omega)]
          simpa using h0
        rw [← h2, dgs_of h1 hn]
theorem dval_drop_pos {l : List Int} (h : isdg l) (hn : nolz l) {k : Nat} (hk : k < l.length) : 0 < dval (l.drop k) := by
  have h1 : nolz (l.drop k) := by
    unfold nolz at *
    rwa [List.getLast?_drop, if_neg (by omega)]
  have h2 := dgs_of (isdg_drop h k) h1
  rcases Nat.eq_zero_or_pos (dval (l.drop k)) with h0 | h0
  · rw [h0, dgs_zero] at h2
    have := congrArg List.length h2
    simp at this; omega
  · exact h0
theorem dval_drop_ge {l : List Int} {k : Nat} (hk : l.length ≤ k) : dval (l.drop k) = 0 := by rw [List.drop_of_length_le hk]; rfl
def dat (l : List Int) (k : Nat) : Int := l.getD k 0
theorem dat_lt {l : List Int} {k : Nat} (h : k < l.length) : dat l k = l[k] := by simp [dat, h]
theorem dat_ge {l : List Int} {k : Nat} (h : l.length ≤ k) : dat l k = 0 := by simp [dat, h]
theorem dat_dg {l : List Int} (h : isdg l) (k : Nat) : 0 ≤ dat l k ∧ dat l k < 10000 := by
  rcases Nat.lt_or_ge k l.length with hk | hk
  · rw [dat_lt hk]; exact isdg_get h hk
  · rw [dat_ge hk]; omega
theorem dval_dat (l : List Int) (k : Nat) : dval (l.drop k) = (dat l k).toNat + 10000 * dval (l.drop (k + 1)) := by
  rcases Nat.lt_or_ge k l.length with hk | hk
  · rw [dat_lt hk]; exact dval_drop hk
  · rw [dval_drop_ge hk, dval_drop_ge (by omega), dat_ge hk]; rfl
theorem dval_snoc (l : List Int) (x : Int) : dval (l ++ [x]) = dval l + 10000 ^ l.length * x.toNat := by rw [dval_append]; simp [dval]
theorem plus_eq (a b : Nat) (ha : (dgs a).length ≤ 1000000) (hb : (dgs b).length ≤ 1000000) : g_ref01_plus (dgs a) (dgs b) = some (dgs (a + b)) := by
  unfold g_ref01_plus
  have pa := fun k (hk : k < (dgs a).length) => dval_drop_pos (isdg_dgs a) (nolz_dgs a) hk
  have pb := fun k (hk : k < (dgs b).length) => dval_drop_pos (isdg_dgs b) (nolz_dgs b) hk
  obtain ⟨M, hM⟩ : ∃ M : Nat, M = 2000005 := ⟨_, rfl⟩
  rw [whileN_eq (fun s => ∃ i c : Nat, s.2.1 = (i : Int) ∧ s.1 = (c : Int) ∧ c ≤ 1 ∧ i ≤ 2000001 ∧ s.2.2.length = i ∧ isdg s.2.2 ∧ dval s.2.2 + 10000 ^ i * (c + dval ((dgs a).drop i) + dval ((dgs b).drop i)) = a + b ∧
    (s.2.2.getLast? = some 0 → 0 < c + dval ((dgs a).drop i) + dval ((dgs b).drop i)) ∧ (i ≤ 1000000 ∨ c = 0)) (fun s => M - s.2.1.toNat) (dgs (a + b)) ?_ (0, 0, []) ⟨0, 0, rfl, rfl, by omega, by omega, rfl, isdg_nil, by simp [dval, dval_dgs], by simp, .inl (by omega)⟩ (by simp only; omega)]
  · rfl
  · rintro ⟨c0, i0, out⟩ ⟨i, c, h1, h2, hc, hi, ho, hd, hv, hz, hic⟩
    simp only at h1 h2 ho hd hv hz
    subst h1; subst h2
    have xa := dat_dg (isdg_dgs a) i
    have xb := dat_dg (isdg_dgs b) i
    have va := dval_dat (dgs a) i
    have vb := dval_dat (dgs b) i
    have round : ∀ t : Int, t = c + dat (dgs a) i + dat (dgs b) i → (i < (dgs a).length ∨ i < (dgs b).length ∨ 0 < c) → ∃ j d : Nat, ((i : Int) + 1) = (j : Int) ∧ t / 10000 = (d : Int) ∧ d ≤ 1 ∧ j ≤ 2000001 ∧ (out ++ [t % 10000]).length = j ∧ isdg (out ++ [t % 10000]) ∧
        dval (out ++ [t % 10000]) + 10000 ^ j * (d + dval ((dgs a).drop j) + dval ((dgs b).drop j)) = a + b ∧ ((out ++ [t % 10000]).getLast? = some 0 → 0 < d + dval ((dgs a).drop j) + dval ((dgs b).drop j)) ∧ (j ≤ 1000000 ∨ d = 0) := by
      intro t ht hgo
      refine ⟨i + 1, (t / 10000).toNat, by omega, by omega, by omega, ?_, by simp [ho], ?_, ?_, ?_, ?_⟩
      · rcases hic with h | h
        · omega
        · rcases hgo with h' | h' | h' <;> omega
      · rw [isdg_append]; exact ⟨hd, isdg_cons.2 ⟨by omega, isdg_nil⟩⟩
      · rw [dval_snoc, ho, ← hv, va, vb, Nat.pow_succ, Nat.mul_assoc, Nat.add_assoc, ← Nat.mul_add]
        congr 2
        omega
      · simp only [List.getLast?_append, List.getLast?_singleton, Option.some_or, Option.some.injEq]
        intro h0
        rcases Nat.eq_zero_or_pos ((t / 10000).toNat) with hq | hq
        · have t0 : t = 0 := by omega
          rcases hgo with h' | h' | h'
          · have := pa i h'; omega
          · have := pb i h'; omega
          · omega
        · omega
      · rcases Nat.lt_or_ge i 1000000 with h' | h'
        · left; omega
        · right
          have z1 : dat (dgs a) i = 0 := dat_ge (by omega)
          have z2 : dat (dgs b) i = 0 := dat_ge (by omega)
          omega
    unfold g_ref01_plus_b0
    simp only
    by_cases h1 : i < (dgs a).length
    · left
      rw [if_pos (by simp [h1]), lkI_nat h1]
      simp only [Option.bind_some]
      rw [dat_lt h1] at xa round
      by_cases h2 : i < (dgs b).length
      · rw [if_pos (by simp [h2]), lkI_nat h2]
        simp only [Option.bind_some]
        rw [dat_lt h2] at xb round
        have hw : IntKind.i64.wrap (IntKind.i64.wrap ((c : Int) + (dgs a)[i]) + (dgs b)[i]) = c + (dgs a)[i] + (dgs b)[i] := by rw [w64 (n := (c : Int) + (dgs a)[i]) (by omega), w64 (by omega)]
        rw [hw, tmod_pos (by omega), tdiv_pos (by omega), w64 (n := _ / 10000) (by omega), w64 (n := (i : Int) + 1) (by omega), if_pos (by simp; omega)]
        exact ⟨_, rfl, round _ rfl (.inl h1), by simp only; omega⟩
      · rw [if_neg (by simp; omega)]
        rw [dat_ge (by omega)] at xb round
        have hw : IntKind.i64.wrap ((c : Int) + (dgs a)[i]) = c + (dgs a)[i] + 0 := by rw [w64 (n := (c : Int) + (dgs a)[i]) (by omega)]; omega
        rw [hw, tmod_pos (by omega), tdiv_pos (by omega), w64 (n := _ / 10000) (by omega), w64 (n := (i : Int) + 1) (by omega), if_pos (by simp; omega)]
        exact ⟨_, rfl, round _ rfl (.inl h1), by simp only; omega⟩
    · rw [if_neg (by simp; omega)]
      rw [dat_ge (by omega)] at xa round
      by_cases h2 : i < (dgs b).length
      · left
        rw [if_pos (by simp [h2]), lkI_nat h2]
        simp only [Option.bind_some]
        rw [dat_lt h2] at xb round
        have hw : IntKind.i64.wrap ((c : Int) + (dgs b)[i]) = c + 0 + (dgs b)[i] := by rw [w64 (n := (c : Int) + (dgs b)[i]) (by omega)]; omega
        rw [hw, tmod_pos (by omega), tdiv_pos (by omega), w64 (n := _ / 10000) (by omega), w64 (n := (i : Int) + 1) (by omega), if_pos (by simp; omega)]
        exact ⟨_, rfl, round _ rfl (.inr (.inl h2)), by simp only; omega⟩
      · rw [if_neg (by simp; omega)]
        rw [dat_ge (by omega)] at xb round
        by_cases h3 : 0 < c
        · left
          rw [if_pos (by simp [h3])]
          have hw : (c : Int) = c + 0 + 0 := by omega
          rw [hw, tmod_pos (by omega), tdiv_pos (by omega), w64 (n := _ / 10000) (by omega), w64 (n := (i : Int) + 1) (by omega), if_pos (by simp; omega)]
          exact ⟨_, rfl, round _ rfl (.inr (.inr h3)), by simp only; omega⟩
        · right
          rw [if_neg (by simp; omega)]
          have c0 : c = 0 := by omega
          subst c0
          rw [dval_drop_ge (l := dgs a) (by omega), dval_drop_ge (l := dgs b) (by omega)] at hv hz
          simp only [Nat.add_zero, Nat.mul_zero] at hv
          have hn : nolz out := fun h => by have := hz h; omega
          rw [← hv, dgs_of hd hn]
theorem minus_eq (a b : Nat) (hab : b ≤ a) (ha : (dgs a).length ≤ 1000000) : g_ref01_minus (dgs a) (dgs b) = some (dgs (a - b)) := by
  unfold g_ref01_minus
  have hlb : (dgs b).length ≤ (dgs a).length := by
    rcases Nat.lt_or_ge (dgs a).length (dgs b).length with h | h
    · have := len_lt h; omega
    · exact h
  obtain ⟨M, hM⟩ : ∃ M : Nat, M = 2000005 := ⟨_, rfl⟩
  obtain ⟨out, h1, h2, h3, h4⟩ : ∃ out, whileN fuel (g_ref01_minus_b0 (dgs a) (dgs b)) (0, 0, []) = some out ∧ isdg out ∧ out.length ≤ 1000000 ∧ dval out = a - b := by
    refine whileN_ex (fun s => ∃ i c : Nat, s.2.1 = (i : Int) ∧ s.1 = (c : Int) ∧ c ≤ 1 ∧ i ≤ (dgs a).length ∧ s.2.2.length = i ∧ isdg s.2.2 ∧ dval s.2.2 + dval ((dgs b).take i) = dval ((dgs a).take i) + 10000 ^ i * c) (fun s => M - s.2.1.toNat) _ ?_ (0, 0, [])
      ⟨0, 0, rfl, rfl, by omega, by omega, rfl, isdg_nil, by simp [dval]⟩ (by simp only; omega)
    rintro ⟨c0, i0, out⟩ ⟨i, c, h1, h2, hc, hi, ho, hd, hv⟩
    simp only at h1 h2 ho hd hv
    subst h1; subst h2
    unfold g_ref01_minus_b0
    simp only
    by_cases h1 : i < (dgs a).length
    · left
      have xa := isdg_get (isdg_dgs a) h1
      have xb := dat_dg (isdg_dgs b) i
      have tb : dval ((dgs b).take (i + 1)) = dval ((dgs b).take i) + 10000 ^ i * (dat (dgs b) i).toNat := by
        rcases Nat.lt_or_ge i (dgs b).length with h | h
        · rw [dval_take_succ h, dat_lt h]
        · rw [dat_ge h, List.take_of_length_le (by omega), List.take_of_length_le (by omega)]; simp
      have round : ∀ d : Int, ∀ c' : Nat, d = (dgs a)[i] - c - dat (dgs b) i + 10000 * c' → 0 ≤ d → d < 10000 → c' ≤ 1 → ∃ j e : Nat, ((i : Int) + 1) = (j : Int) ∧ (c' : Int) = (e : Int) ∧ e ≤ 1 ∧ j ≤ (dgs a).length ∧ (out ++ [d]).length = j ∧ isdg (out ++ [d]) ∧
          dval (out ++ [d]) + dval ((dgs b).take j) = dval ((dgs a).take j) + 10000 ^ j * e := by
        intro d c' hd' h0 h9 hc'
        refine ⟨i + 1, c', by omega, rfl, hc', h1, by simp [ho], ?_, ?_⟩
        · rw [isdg_append]; exact ⟨hd, isdg_cons.2 ⟨⟨h0, h9⟩, isdg_nil⟩⟩
        · rw [dval_snoc, ho, tb, dval_take_succ h1, Nat.pow_succ]
          have e1 : d.toNat + (dat (dgs b) i).toNat + c = (dgs a)[i].toNat + 10000 * c' := by omega
          have e2 : 10000 ^ i * (d.toNat + (dat (dgs b) i).toNat + c) = 10000 ^ i * ((dgs a)[i].toNat + 10000 * c') := by rw [e1]
          rw [Nat.mul_add, Nat.mul_add, Nat.mul_add, ← Nat.mul_assoc] at e2
          omega
      rw [if_pos (by simp [h1]), lkI_nat h1]
      simp only [Option.bind_some]
      by_cases h2 : i < (dgs b).length
      · rw [if_pos (by simp [h2]), lkI_nat h2]
        simp only [Option.bind_some]
        rw [dat_lt h2] at xb round
        have hw : IntKind.i64.wrap (IntKind.i64.wrap ((dgs a)[i] - (c : Int)) - (dgs b)[i]) = (dgs a)[i] - c - (dgs b)[i] := by rw [w64 (n := (dgs a)[i] - (c : Int)) (by omega), w64 (by omega)]
        rw [hw, w64 (n := (i : Int) + 1) (by omega)]
        by_cases h3 : (dgs a)[i] - c - (dgs b)[i] < 0
        · rw [if_pos (by simp [h3]), w64 (by omega), if_pos (by simp; omega)]
          exact ⟨_, rfl, round _ 1 (by omega) (by omega) (by omega) (by omega), by simp only; omega⟩
        · rw [if_neg (by simpa using h3), if_pos (by simp; omega)]
          exact ⟨_, rfl, round _ 0 (by omega) (by omega) (by omega) (by omega), by simp only; omega⟩
      · rw [if_neg (by simp; omega)]
        rw [dat_ge (by omega)] at xb round
        rw [w64 (n := (dgs a)[i] - (c : Int)) (by omega), w64 (n := (i : Int) + 1) (by omega)]
        by_cases h3 : (dgs a)[i] - (c : Int) < 0
        · rw [if_pos (by simp [h3]), w64 (by omega), if_pos (by simp; omega)]
          exact ⟨_, rfl, round _ 1 (by omega) (by omega) (by omega) (by omega), by simp only; omega⟩
        · rw [if_neg (by simpa using h3), if_pos (by simp; omega)]
          exact ⟨_, rfl, round _ 0 (by omega) (by omega) (by omega) (by omega), by simp only; omega⟩
    · right
      rw [if_neg (by simp; omega)]
      have : i = (dgs a).length := by omega
      subst this
      rw [List.take_length, List.take_of_length_le hlb, dval_dgs, dval_dgs] at hv
      have h5 := dval_lt hd
      rw [ho] at h5
      refine ⟨out, rfl, hd, by omega, ?_⟩
      rcases Nat.eq_zero_or_pos c with h | h
      · subst h; omega
      · have : c = 1 := by omega
        subst this
        omega
  rw [h1]
  simp only [Option.bind_some]
  rw [cut_eq out h2 h3, h4]
  rfl
theorem dval_set {l : List Int} {k : Nat} (hk : k < l.length) {x : Int} (hx : 0 ≤ x) (h0 : 0 ≤ l[k]) : dval (l.set k x) + 10000 ^ k * l[k].toNat = dval l + 10000 ^ k * x.toNat := by
  induction l generalizing k with
  | nil => simp at hk
  | cons y l ih =>
    cases k with
    | zero => simp only [List.set_cons_zero, dval, List.getElem_cons_zero, Nat.pow_zero]; omega
    | succ k =>
      simp only [List.set_cons_succ, dval, List.getElem_cons_succ, Nat.pow_succ] at *
      have := ih (by simpa using hk) h0
      have e : ∀ z, 10000 ^ k * 10000 * z = 10000 * (10000 ^ k * z) := fun z => by rw [Nat.mul_comm (10000 ^ k), Nat.mul_assoc]
      rw [e, e]
      omega
theorem isdg_set {l : List Int} (h : isdg l) {k : Nat} {x : Int} (hx : 0 ≤ x ∧ x < 10000) : isdg (l.set k x) := by
  intro y hy
  rcases List.mem_or_eq_of_mem_set hy with h1 | h1
  · exact h y h1
  · subst h1; exact hx
theorem isdg_replicate (n : Nat) : isdg (List.replicate n (0 : Int)) := fun x hx => by
  rw [List.mem_replicate] at hx
  omega
theorem dval_replicate (n : Nat) : dval (List.replicate n (0 : Int)) = 0 := by
  induction n with
  | zero => rfl
  | succ n ih => simp [List.replicate_succ, dval, ih]
theorem times_eq (x y : List Int) (hx : isdg x) (hy : ∀ z ∈ y, 0 ≤ z ∧ z ≤ 10000) (hyv : dval y ≤ 10000 ^ y.length) (lx : x.length ≤ 10000) (ly : y.length ≤ 10000) : g_ref01_times x y = some (dgs (dval x * dval y)) := by
  unfold g_ref01_times
  obtain ⟨M, hM⟩ : ∃ M : Nat, M = 2000005 := ⟨_, rfl⟩
  have hw : IntKind.i64.wrap ((x.length : Int) + (y.length : Int)) = ((x.length + y.length : Nat) : Int) := by rw [w64 (by omega)]; omega
  rw [hw, if_pos (by omega), Int.toNat_natCast]
  obtain ⟨out, h1, h2, h3, h4⟩ : ∃ out, whileN fuel (g_ref01_times_b1 x y) (0, List.replicate (x.length + y.length) 0) = some out ∧ isdg out ∧ out.length = x.length + y.length ∧ dval out = dval x * dval y := by
    refine whileN_ex (fun s => ∃ i : Nat, s.1 = (i : Int) ∧ i ≤ x.length ∧ s.2.length = x.length + y.length ∧ isdg s.2 ∧ dval s.2 = dval (x.take i) * dval y) (fun s => M - s.1.toNat) _ ?_ (0, List.replicate (x.length + y.length) 0)
      ⟨0, rfl, by omega, by simp, isdg_replicate _, by simp [dval, dval_replicate]⟩ (by simp only; omega)
    rintro ⟨i0, o⟩ ⟨i, h1, hi, ho, hd, hv⟩
    simp only at h1 ho hd hv
    subst h1
    unfold g_ref01_times_b1
    simp only
    by_cases h1 : i < x.length
    · left
      rw [if_pos (by simp [h1])]
      have xi := isdg_get hx h1
      have tot : dval (x.take (i + 1)) * dval y < 10000 ^ (i + 1 + y.length) := by
        have a1 := dval_lt (isdg_take hx (i + 1))
        rw [List.length_take, Nat.min_eq_left (by omega)] at a1
        have a2 : (dval (x.take (i + 1)) + 1) * dval y ≤ 10000 ^ (i + 1) * 10000 ^ y.length := Nat.mul_le_mul a1 hyv
        rw [← Nat.pow_add, Nat.add_mul] at a2
        rcases Nat.eq_zero_or_pos (dval y) with h | h
        · rw [h, Nat.mul_zero]; exact Nat.pow_pos (by omega)
        · omega
      obtain ⟨o', e1, e2, e3, e4⟩ : ∃ o', whileN fuel (g_ref01_times_b0 y ((i : Int), o) x) (0, 0, o) = some o' ∧ isdg o' ∧ o'.length = x.length + y.length ∧ dval o' = dval (x.take (i + 1)) * dval y := by
        refine whileN_ex (fun s => ∃ k c : Nat, s.2.1 = (k : Int) ∧ s.1 = (c : Int) ∧ c ≤ 10000 ∧ i + k ≤ x.length + y.length ∧ s.2.2.length = x.length + y.length ∧ isdg s.2.2 ∧ dval s.2.2 + 10000 ^ (i + k) * c = dval o + 10000 ^ i * (x[i].toNat * dval (y.take k))) (fun s => M - s.2.1.toNat) _ ?_ (0, 0, o)
          ⟨0, 0, rfl, rfl, by omega, by omega, ho, hd, by simp [dval]⟩ (by simp only; omega)
        rintro ⟨c0, k0, o2⟩ ⟨k, c, g1, g2, gc, gk, go, gd, gv⟩
        simp only at g1 g2 go gd gv
        subst g1; subst g2
        have full : y.length ≤ k → dval o + 10000 ^ i * (x[i].toNat * dval (y.take k)) = dval (x.take (i + 1)) * dval y := fun h => by
          rw [List.take_of_length_le h, hv, dval_take_succ h1, Nat.add_mul, Nat.mul_assoc]
        unfold g_ref01_times_b0
        simp only
        have hik : IntKind.i64.wrap ((i : Int) + (k : Int)) = ((i + k : Nat) : Int) := by rw [w64 (by omega)]; omega
        rw [hik]
        by_cases hk : k < y.length
        · left
          have hj : i + k < o2.length := by omega
          have yk := hy _ (List.getElem_mem hk)
          have oj := isdg_get gd hj
          rw [if_pos (by simp [hk]), lkI_nat hj]
          simp only [Option.bind_some]
          rw [lkI_nat h1]
          simp only [Option.bind_some]
          rw [lkI_nat hk]
          simp only [Option.bind_some]
          have p1 : 0 ≤ x[i] * y[k] := Int.mul_nonneg xi.1 yk.1
          have p2 : x[i] * y[k] ≤ 9999 * 10000 := Int.mul_le_mul (by omega) yk.2 yk.1 (by omega)
          have hc : IntKind.i64.wrap (IntKind.i64.wrap ((c : Int) + o2[i + k]) + IntKind.i64.wrap (x[i] * y[k])) = c + o2[i + k] + x[i] * y[k] := by
            rw [w64 (n := (c : Int) + o2[i + k]) (by omega), w64 (n := x[i] * y[k]) (by omega), w64 (by omega)]
          rw [hc, tdiv_pos (by omega), tmod_pos (by omega), w64 (n := _ / 10000) (by omega), w64 (n := (k : Int) + 1) (by omega), Int.toNat_natCast]
          generalize ht : c + o2[i + k] + x[i] * y[k] = t at *
          refine ⟨_, rfl, ⟨k + 1, (t / 10000).toNat, by simp only; omega, by simp only; omega, by omega, by omega, by simp [go], isdg_set gd (by omega), ?_⟩, by simp only; omega⟩
          simp only
          have s1 := dval_set (l := o2) (k := i + k) hj (x := t % 10000) (by omega) oj.1
          have pt : (x[i] * y[k]).toNat = x[i].toNat * y[k].toNat := Int.toNat_mul xi.1 yk.1
          have e1 : (t % 10000).toNat + 10000 * (t / 10000).toNat = c + o2[i + k].toNat + x[i].toNat * y[k].toNat := by omega
          have e2 : 10000 ^ (i + k) * ((t % 10000).toNat + 10000 * (t / 10000).toNat) = 10000 ^ (i + k) * (c + o2[i + k].toNat + x[i].toNat * y[k].toNat) := by rw [e1]
          rw [Nat.mul_add, Nat.mul_add, Nat.mul_add, ← Nat.mul_assoc] at e2
          rw [dval_take_succ hk, Nat.mul_add, Nat.mul_add, show i + (k + 1) = (i + k) + 1 by omega, Nat.pow_succ]
          have e3 : 10000 ^ i * (x[i].toNat * (10000 ^ k * y[k].toNat)) = 10000 ^ (i + k) * (x[i].toNat * y[k].toNat) := by
            rw [Nat.pow_add, Nat.mul_assoc, Nat.mul_left_comm (10000 ^ k)]
          rw [e3]
          omega
        · rw [if_neg (by simp; omega)]
          by_cases hc : 0 < c
          · left
            have hj : i + k < o2.length := by
              rw [full (by omega)] at gv
              have : 10000 ^ (i + k) * 1 ≤ 10000 ^ (i + k) * c := Nat.mul_le_mul_left _ hc
              have h5 : 10000 ^ (i + k) < 10000 ^ (i + 1 + y.length) := by omega
              have := (Nat.pow_lt_pow_iff_right (by omega)).1 h5
              omega
            have oj := isdg_get gd hj
            rw [if_pos (by simp [hc]), lkI_nat hj]
            simp only [Option.bind_some]
            rw [w64 (n := (c : Int) + o2[i + k]) (by omega), tdiv_pos (by omega), tmod_pos (by omega), w64 (n := _ / 10000) (by omega), w64 (n := (k : Int) + 1) (by omega), Int.toNat_natCast]
            generalize ht : (c : Int) + o2[i + k] = t at *
            refine ⟨_, rfl, ⟨k + 1, (t / 10000).toNat, by simp only; omega, by simp only; omega, by omega, by omega, by simp [go], isdg_set gd (by omega), ?_⟩, by simp only; omega⟩
            simp only
            have s1 := dval_set (l := o2) (k := i + k) hj (x := t % 10000) (by omega) oj.1
            have e1 : (t % 10000).toNat + 10000 * (t / 10000).toNat = c + o2[i + k].toNat := by omega
            have e2 : 10000 ^ (i + k) * ((t % 10000).toNat + 10000 * (t / 10000).toNat) = 10000 ^ (i + k) * (c + o2[i + k].toNat) := by rw [e1]
            rw [Nat.mul_add, Nat.mul_add, ← Nat.mul_assoc] at e2
            rw [List.take_of_length_le (by omega)] at gv ⊢
            rw [show i + (k + 1) = (i + k) + 1 by omega, Nat.pow_succ]
            omega
          · right
            rw [if_neg (by simp; omega)]
            have : c = 0 := by omega
            subst this
            rw [full (by omega)] at gv
            exact ⟨o2, rfl, gd, go, by simpa using gv⟩
      rw [e1]
      simp only [Option.bind_some]
      rw [w64 (n := (i : Int) + 1) (by omega)]
      exact ⟨_, rfl, ⟨i + 1, by simp only; omega, by omega, e3, e2, e4⟩, by simp only; omega⟩
    · right
      rw [if_neg (by simp; omega)]
      rw [List.take_of_length_le (by omega)] at hv
      exact ⟨o, rfl, hd, ho, hv⟩
  rw [h1]
  simp only [Option.bind_some]
  rw [cut_eq out h2 (by omega), h4]
  rfl
end Go.Ab
