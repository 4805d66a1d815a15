/- What the functions of this program compute, as plain functions, and that the program computes them. No conditions. -/
import Derived.Test.YtapoljjoedcknaaProg
import Derived.Test.YtapoljjoedcknaaW8
import Derived.KernelRfl
import Derived.Test.YtapoljjoedcknaaW11
import Derived.Test.YtapoljjoedcknaaEng7
import Derived.IntWalk
set_option linter.all false
namespace Go.Ab
open Go Go.Proofs
set_option maxRecDepth 100000
set_option maxHeartbeats 4000000
theorem g_ref02_Same_ok (p0 : (List Int)) (p1 : (List Int)) (x : Bool) (h : g_ref02_Same p0 p1 = some x) : CallOk Try.prog 40 [eL true eI p0, eL true eI p1] (.ret (vB x) []) := by
  refine fn_ok [] Try.func40 rfl (by decide +kernel) rfl ?_
  unfold g_ref02_Same at h
  refine wp_eqB (base' := 0) (st' := ⟨[(0, eL true eI p0), (1, eL true eI p1)], [], 26⟩) rfl (by kernel_rfl) ?_
  refine sq (wp_seq (wp_seq (reg_in (sz 1 1 ?_))))
  refine lenZ (enc := eI) (l := p0) (fl := true) (by kernel_rfl) ?_
  refine sz 1 3 ?_
  refine lenZ (enc := eI) (l := p1) (fl := true) (by kernel_rfl) ?_
  refine sz 1 5 ?_
  refine reg_end rfl ?_
  refine wbz h (fun q2 h => ?_) (fun q2 h => ?_)
  · refine wp_seq (wg [] [] ?_)
    refine rn (wg [4] [] ?_)
    refine wp_ret ?_
    cases h
    show fnOut _ _ _ _ = _
    kernel_rfl
  refine wp_skip (wp_seq (wp_seq (wg [0, 1] [] ?_)))
  refine rn (wp_block ?_)
  refine wwh h (fun s3 => ⟨[(0, eL true eI p0), (1, eL true eI p1), (5, vI s3)], [], 26⟩) (fun x out => out = match x with | .inl v => .go (.ret) ⟨[(4, vB false)], [], 26⟩ | .inr v => .go (.exit 0) ⟨[], [], 26⟩) (wk_gc (live := [0, 1, 5]) (keep := []) (by kernel_rfl)) ?_ ?_
  · intro s3 o h
    unfold g_ref02_Same_b0 at h
    refine wp_seq (wp_seq (reg_in (sz 2 2 ?_)))
    refine lenZ (enc := eI) (l := p0) (fl := true) (by kernel_rfl) ?_
    refine sz 1 4 ?_
    refine reg_end rfl ?_
    refine wbr (S := fun b4 => ⟨[(0, eL true eI p0), (1, eL true eI p1), (5, vI s3), (11, vI s3), (12, eL true eI p0), (13, vI (p0.length : Int)), (14, vB b4)], [], 26⟩) h (fun q5 h => ?_) (fun q5 h => ?_)
    · refine wcT (wp_skip (wp_seq (wp_block (wp_seq ?_))))
      refine rga hfol ?_
      refine sy 2 2 ?_
      refine bind_elim h (fun a6 q7 h => ?_)
      refine idxZ (enc := eI) (l := p0) (n := s3) (fl := true) (w := 1) (a := a6) (by kernel_rfl) q7 ?_
      refine sy 3 6 ?_
      refine bind_elim h (fun a8 q9 h => ?_)
      refine idxZ (enc := eI) (l := p1) (n := s3) (fl := true) (w := 1) (a := a8) (by kernel_rfl) q9 ?_
      refine sy 2 9 ?_
      refine rgd ?_
      refine wbz h (fun q11 h => ?_) (fun q11 h => ?_)
      · refine wp_seq (wg [] [] ?_)
        refine rn ?_
        refine wgc [4] [] ⟨[(4, vB false)], [], 26⟩ ?_
        refine wp_ret ?_
        cases h
        exact ⟨rfl, rfl⟩
      refine wp_skip (wg [0, 1, 5] [] ?_)
      refine rn ?_
      cases h
      exact ⟨_, rfl, (wk_gc (live := [0, 1, 5]) (keep := []) (by kernel_rfl))⟩
    refine wcF ?_
    refine wgc [] [] ⟨[], [], 26⟩ ?_
    refine wp_exit ?_
    cases h
    exact ⟨rfl, rfl⟩
  intro x12 h out hx
  subst hx
  rcases x12 with x13 | x14
  · dsimp only at h ⊢
    cases h
    show fnOut _ _ _ _ = _
    kernel_rfl
  · dsimp only at h ⊢
    refine sq (wg [4] [] ?_)
    refine wp_ret ?_
    cases h
    show fnOut _ _ _ _ = _
    kernel_rfl
@[reducible] noncomputable def s15_3 (p0 : Tapi_Net) (p1 : Tapi_Net) : List AObj := [oX true false 2 (.agg [vI p0.Grain, eL false eTapi_Node p0.Nodes]), oX true false 2 (.agg [vI p1.Grain, eL false eTapi_Node p1.Nodes])]
@[reducible] noncomputable def s15_5 (p0 : Tapi_Net) (p1 : Tapi_Net) (a8 : Tapi_Node) (a10 : Tapi_Node) : List AObj := [oX true false 2 (.agg [vI p0.Grain, eL false eTapi_Node p0.Nodes]), oX true false 2 (.agg [vI p1.Grain, eL false eTapi_Node p1.Nodes]), oX true false 3 (.agg [vI a8.Card, eL true eI a8.Parents, eL false (eL true eI) a8.Rows]), oX true false 3 (.agg [vI a10.Card, eL true eI a10.Parents, eL false (eL true eI) a10.Rows])]
theorem g_ref05_Same_ok (p0 : Tapi_Net) (p1 : Tapi_Net) (x : Bool) (h : g_ref05_Same p0 p1 = some x) : CallOk Try.prog 15 [.agg [vI p0.Grain, eL false eTapi_Node p0.Nodes], .agg [vI p1.Grain, eL false eTapi_Node p1.Nodes]] (.ret (vB x) []) := by
  refine fn_ok [] Try.func15 rfl (by decide +kernel) rfl ?_
  unfold g_ref05_Same at h
  refine wp_eqB (base' := 0) (st' := ⟨[(0, .agg [vI p0.Grain, eL false eTapi_Node p0.Nodes]), (1, .agg [vI p1.Grain, eL false eTapi_Node p1.Nodes])], [], 81⟩) rfl (by kernel_rfl) ?_
  refine wp_seq (reg_in ?_)
  refine sl false [] [] false rfl ?_
  refine sl false [] [] false rfl ?_
  refine sz 1 3 ?_
  refine reg_end rfl (wp_seq (wp_seq (reg_in (sz 6 6 ?_))))
  refine rwg [2, 3, 14] [0, 1] ?_
  refine rbr (S := fun b1 => ⟨[(2, .ptr 0 0 0), (3, .ptr 1 0 0), (14, vB b1)], (s15_3 p0 p1), 81⟩) h (fun q2 h => ?_) (fun q2 h => ?_)
  · refine sz 8 14 ?_
    refine reg_end rfl (wcT (wp_seq (wg [] [] ?_)))
    refine rn (wg [4] [] ?_)
    refine wp_ret ?_
    cases h
    show fnOut _ _ _ _ = _
    kernel_rfl
  refine sz 2 8 ?_
  refine lenZ (enc := eTapi_Node) (l := p0.Nodes) (fl := false) (by kernel_rfl) ?_
  refine sz 2 11 ?_
  refine lenZ (enc := eTapi_Node) (l := p1.Nodes) (fl := false) (by kernel_rfl) ?_
  refine sz 2 14 ?_
  refine reg_end rfl ?_
  refine wbz h (fun q4 h => ?_) (fun q4 h => ?_)
  · refine wp_seq (wg [] [] ?_)
    refine rn (wg [4] [] ?_)
    refine wp_ret ?_
    cases h
    show fnOut _ _ _ _ = _
    kernel_rfl
  refine wp_skip (wp_seq (wp_seq (wg [2, 3] [0, 1] ?_)))
  refine rn (wp_block ?_)
  refine wwh h (fun s5 => ⟨[(2, .ptr 0 0 0), (3, .ptr 1 0 0), (5, vI s5)], (s15_3 p0 p1), 81⟩) (fun x out => out = match x with | .inl v => .go (.ret) ⟨[(4, vB false)], [], 81⟩ | .inr v => .go (.exit 0) ⟨[], [], 81⟩) (wk_gc (live := [2, 3, 5]) (keep := [0, 1]) (by kernel_rfl)) ?_ ?_
  · intro s5 o h
    unfold g_ref05_Same_b1 at h
    refine wp_seq (wp_seq (reg_in (sz 3 3 ?_)))
    refine lenZ (enc := eTapi_Node) (l := p0.Nodes) (fl := false) (by kernel_rfl) ?_
    refine sz 1 5 ?_
    refine reg_end rfl ?_
    refine wbz h (fun q7 h => ?_) (fun q7 h => ?_)
    · refine wp_skip (wp_seq (wp_block (wp_seq (wg [2, 3, 5] [0, 1] ?_))))
      refine rga hfol ?_
      refine sy 3 3 ?_
      refine bind_elim h (fun a8 q9 h => ?_)
      refine idxZ (enc := eTapi_Node) (l := p0.Nodes) (n := s5) (fl := false) (w := 3) (a := a8) (by kernel_rfl) q9 ?_
      refine sy 4 8 ?_
      refine bind_elim h (fun a10 q11 h => ?_)
      refine idxZ (enc := eTapi_Node) (l := p1.Nodes) (n := s5) (fl := false) (w := 3) (a := a10) (by kernel_rfl) q11 ?_
      refine sy 1 10 ?_
      refine sgL false [] [] false (S := ⟨[(2, .ptr 0 0 0), (3, .ptr 1 0 0), (5, vI s5), (30, .ptr 0 0 1), (31, eL false eTapi_Node p0.Nodes), (32, vI s5), (33, .fz [vI a8.Card, eL true eI a8.Parents, eL false (eL true eI) a8.Rows]), (34, .agg [vI a8.Card, eL true eI a8.Parents, eL false (eL true eI) a8.Rows]), (35, .ptr 1 0 1), (36, eL false eTapi_Node p1.Nodes), (37, vI s5)] ++ [(38, .fz [vI a10.Card, eL true eI a10.Parents, eL false (eL true eI) a10.Rows]), (39, .agg [vI a10.Card, eL true eI a10.Parents, eL false (eL true eI) a10.Rows]), (6, .ptr 2 0 0)], [oX true false 2 (.agg [vI p0.Grain, eL false eTapi_Node p0.Nodes]), oX true false 2 (.agg [vI p1.Grain, eL false eTapi_Node p1.Nodes]), oX true false 3 (.agg [vI 0, .nils, .nils])], 81⟩) (by kernel_rfl) ?_
      refine sl false [] [] false rfl ?_
      refine sy 2 14 ?_
      refine rgd ?_
      refine wp_seq (wp_seq (wg [2, 3, 5, 6, 7] [0, 1, 2, 3] ?_))
      refine reg_in (sz 6 6 ?_)
      refine rwg [2, 3, 5, 6, 7, 45] [0, 1, 2, 3] ?_
      refine rbr (S := fun b12 => ⟨[(2, .ptr 0 0 0), (3, .ptr 1 0 0), (5, vI s5), (6, .ptr 2 0 0), (7, .ptr 3 0 0), (45, vB b12)], (s15_5 p0 p1 a8 a10), 81⟩) h (fun q13 h => ?_) (fun q13 h => ?_)
      · refine sz 16 22 ?_
        refine reg_end rfl (wcT (wp_seq (wg [] [] ?_)))
        refine rn ?_
        refine wgc [4] [] ⟨[(4, vB false)], [], 81⟩ ?_
        refine wp_ret ?_
        cases h
        exact ⟨rfl, rfl⟩
      refine sz 4 10 ?_
      refine callY (f := 40) (as0 := [eL true eI a8.Parents, eL true eI a10.Parents]) (us := [eL true eI a8.Parents, eL true eI a10.Parents]) (G := g_ref02_Same a8.Parents a10.Parents) (rv := fun x14 => vB x14) (ro := fun x14 => []) bodyB_40 (fun x14 q15 => g_ref02_Same_ok a8.Parents a10.Parents x14 q15) h (fun x14 q15 h => ?_)
      refine sz 3 14 ?_
      refine rwg [2, 3, 5, 6, 7, 53] [0, 1, 2, 3] ?_
      refine rbr (S := fun b16 => ⟨[(2, .ptr 0 0 0), (3, .ptr 1 0 0), (5, vI s5), (6, .ptr 2 0 0), (7, .ptr 3 0 0), (53, vB b16)], (s15_5 p0 p1 a8 a10), 81⟩) h (fun q17 h => ?_) (fun q17 h => ?_)
      · refine sz 8 22 ?_
        refine reg_end rfl (wcT (wp_seq (wg [] [] ?_)))
        refine rn ?_
        refine wgc [4] [] ⟨[(4, vB false)], [], 81⟩ ?_
        refine wp_ret ?_
        cases h
        exact ⟨rfl, rfl⟩
      refine sz 2 16 ?_
      refine lenZ (enc := (eL true eI)) (l := a8.Rows) (fl := false) (by kernel_rfl) ?_
      refine sz 2 19 ?_
      refine lenZ (enc := (eL true eI)) (l := a10.Rows) (fl := false) (by kernel_rfl) ?_
      refine sz 2 22 ?_
      refine reg_end rfl ?_
      refine wbz h (fun q19 h => ?_) (fun q19 h => ?_)
      · refine wp_seq (wg [] [] ?_)
        refine rn ?_
        refine wgc [4] [] ⟨[(4, vB false)], [], 81⟩ ?_
        refine wp_ret ?_
        cases h
        exact ⟨rfl, rfl⟩
      refine wp_skip (wp_seq (wg [2, 3, 5, 6, 7] [0, 1, 2, 3] ?_))
      refine rn (wp_block ?_)
      refine wwh h (fun s20 => ⟨[(2, .ptr 0 0 0), (3, .ptr 1 0 0), (5, vI s5), (6, .ptr 2 0 0), (7, .ptr 3 0 0), (8, vI s20)], (s15_5 p0 p1 a8 a10), 81⟩) (fun x out => out = match x with | .inl v => .go (.ret) ⟨[(4, vB false)], [], 81⟩ | .inr v => .go (.exit 2) ⟨[(2, .ptr 0 0 0), (3, .ptr 1 0 0), (5, vI s5)], (s15_3 p0 p1), 81⟩) (wk_gc (live := [2, 3, 5, 6, 7, 8]) (keep := [0, 1, 2, 3]) (by kernel_rfl)) ?_ ?_
      · intro s20 o h
        unfold g_ref05_Same_b0 at h
        refine wp_seq (wp_seq (reg_in (sz 3 3 ?_)))
        refine lenZ (enc := (eL true eI)) (l := a8.Rows) (fl := false) (by kernel_rfl) ?_
        refine sz 1 5 ?_
        refine reg_end rfl ?_
        refine wbz h (fun q22 h => ?_) (fun q22 h => ?_)
        · refine wp_skip (wp_seq (wp_block (wp_seq (wg [2, 3, 5, 6, 7, 8] [0, 1, 2, 3] ?_))))
          refine rga hfol ?_
          refine sy 3 3 ?_
          refine bind_elim h (fun a23 q24 h => ?_)
          refine idxZ (enc := (eL true eI)) (l := a8.Rows) (n := s20) (fl := false) (w := 1) (a := a23) (by kernel_rfl) q24 ?_
          refine sy 4 8 ?_
          refine bind_elim h (fun a25 q26 h => ?_)
          refine idxZ (enc := (eL true eI)) (l := a10.Rows) (n := s20) (fl := false) (w := 1) (a := a25) (by kernel_rfl) q26 ?_
          refine sy 1 10 ?_
          refine callR (as0 := [eL true eI a23, eL true eI a25]) (ids := []) (S := fun x27 => ⟨[(2, .ptr 0 0 0), (3, .ptr 1 0 0), (5, vI s5), (6, .ptr 2 0 0), (7, .ptr 3 0 0), (8, vI s20), (69, .ptr 2 0 2), (70, eL false (eL true eI) a8.Rows), (71, vI s20), (72, .fz [eL true eI a23]), (73, eL true eI a23), (74, .ptr 3 0 2), (75, eL false (eL true eI) a10.Rows), (76, vI s20)] ++ [(77, .fz [eL true eI a25]), (78, eL true eI a25), (79, vB x27)], (s15_5 p0 p1 a8 a10), 81⟩) (by kernel_rfl) bodyB_40 (msnap_cons rfl (msnap_cons rfl msnap_nil (by rfl)) (by rfl)) (fun x27 q28 => g_ref02_Same_ok a23 a25 x27 q28) (fun _ => by as_aux_lemma => kernel_rfl) h (fun x27 q28 h => ?_)
          refine sy 1 12 ?_
          refine rgd ?_
          refine wbz h (fun q30 h => ?_) (fun q30 h => ?_)
          · refine wp_seq (wg [] [] ?_)
            refine rn ?_
            refine wgc [4] [] ⟨[(4, vB false)], [], 81⟩ ?_
            refine wp_ret ?_
            cases h
            exact ⟨rfl, rfl⟩
          refine wp_skip (wg [2, 3, 5, 6, 7, 8] [0, 1, 2, 3] ?_)
          refine rn ?_
          cases h
          exact ⟨_, rfl, (wk_gc (live := [2, 3, 5, 6, 7, 8]) (keep := [0, 1, 2, 3]) (by kernel_rfl))⟩
        refine wgc [2, 3, 5] [0, 1] ⟨[(2, .ptr 0 0 0), (3, .ptr 1 0 0), (5, vI s5)], (s15_3 p0 p1), 81⟩ ?_
        refine wp_exit ?_
        cases h
        exact ⟨rfl, rfl⟩
      intro x31 h out hx
      subst hx
      rcases x31 with x32 | x33
      · dsimp only at h ⊢
        cases h
        exact ⟨rfl, rfl⟩
      · dsimp only at h ⊢
        refine rn ?_
        cases h
        exact ⟨_, rfl, (wk_gc (live := [2, 3, 5]) (keep := [0, 1]) (by kernel_rfl))⟩
    refine wgc [] [] ⟨[], [], 81⟩ ?_
    refine wp_exit ?_
    cases h
    exact ⟨rfl, rfl⟩
  intro x34 h out hx
  subst hx
  rcases x34 with x35 | x36
  · dsimp only at h ⊢
    cases h
    show fnOut _ _ _ _ = _
    kernel_rfl
  · dsimp only at h ⊢
    refine sq (wg [4] [] ?_)
    refine wp_ret ?_
    cases h
    show fnOut _ _ _ _ = _
    kernel_rfl
@[reducible] noncomputable def s16_5 (p0 : Tapi_Lift) (a1 : (List Int)) : List AObj := [oX true false 4 (.agg [vI p0.Grain, vI p0.Count, vI p0.One, eL false (eL true eI) p0.Rows]), oX true false 2 (.agg [vI 0, .nils]), oX true false 2 (.agg [vI p0.Grain, .nils]), oX true false 3 (.agg [vI (a1.length : Int), .nils, .nils])]
@[reducible] noncomputable def s16_16 (p0 : Tapi_Lift) (s3 : (Int × (List Tapi_Node) × (List Int))) (a1 : (List Int)) : List AObj := [oX true false 4 (.agg [vI p0.Grain, vI p0.Count, vI p0.One, eL false (eL true eI) p0.Rows]), oX true false 2 (.agg [vI 0, .nils]), oX false false 2 (.agg [vI p0.Grain, .ref 4 0 s3.2.1.length]), oX false false 3 (.agg [vI (a1.length : Int), .ref 5 0 s3.2.2.length, .nils]), oR false 3 eTapi_Node s3.2.1, oR true 1 eI s3.2.2]
@[reducible] noncomputable def s16_42 (p0 : Tapi_Lift) (x7 : ((List Tapi_Node) × (List Int))) (a1 : (List Int)) (s8 : (Int × (List (List Int)))) : List AObj := [oX true false 4 (.agg [vI p0.Grain, vI p0.Count, vI p0.One, eL false (eL true eI) p0.Rows]), oX true false 2 (.agg [vI 0, .nils]), oX false false 2 (.agg [vI p0.Grain, .ref 4 0 x7.1.length]), oX false false 3 (.agg [vI (a1.length : Int), .ref 5 0 x7.2.length, .ref 6 0 s8.2.length]), oR false 3 eTapi_Node x7.1, oR true 1 eI x7.2, oR false 1 (eL true eI) s8.2]
@[reducible] noncomputable def s16_46 (s8 : (Int × (List (List Int)))) (s11 : (Int × Int)) : List (Nat × AV) := [(1, .ptr 0 0 0), (2, .ptr 1 0 0), (3, .ptr 2 0 0), (4, .ptr 3 0 0), (6, vI s8.1), (7, vI s11.1), (8, vI s11.2)]
theorem g_ref14_Ground_ok (p0 : Tapi_Lift) (x : Tapi_Net) (h : g_ref14_Ground p0 = some x) : CallOk Try.prog 16 [.agg [vI p0.Grain, vI p0.Count, vI p0.One, eL false (eL true eI) p0.Rows]] (.ret (.agg [vI x.Grain, .ref 0 0 x.Nodes.length]) [oR false 3 eTapi_Node x.Nodes]) := by
  refine fn_ok [] Try.func16 rfl (by decide +kernel) rfl ?_
  unfold g_ref14_Ground at h
  refine wp_eqB (base' := 0) (st' := ⟨[(0, .agg [vI p0.Grain, vI p0.Count, vI p0.One, eL false (eL true eI) p0.Rows])], [], 83⟩) rfl (by kernel_rfl) ?_
  refine wp_seq (reg_in ?_)
  refine sl false [] [] false rfl ?_
  refine sl false [] [] false rfl ?_
  refine reg_end rfl (wp_seq (reg_in (sz 3 3 ?_)))
  refine sl false [] [] false rfl ?_
  refine sz 1 5 ?_
  refine reg_end rfl (wp_seq (reg_in (sz 2 2 ?_)))
  refine bind_elim h (fun a1 q2 h => ?_)
  refine idxL' (enc := (eL true eI)) (l := p0.Rows) (n := 0) (fl := false) (w := 1) (a := a1) (S := ⟨[(0, .agg [vI p0.Grain, vI p0.Count, vI p0.One, eL false (eL true eI) p0.Rows]), (1, .ptr 0 0 0), (2, .ptr 1 0 0), (9, .ptr 0 0 0), (10, vI p0.Grain), (11, .agg [vI p0.Grain, .nils])] ++ [(3, .ptr 2 0 0), (12, .ptr 0 0 3), (13, eL false (eL true eI) p0.Rows), (14, .fz [eL true eI a1])], [oX true false 4 (.agg [vI p0.Grain, vI p0.Count, vI p0.One, eL false (eL true eI) p0.Rows]), oX true false 2 (.agg [vI 0, .nils]), oX true false 2 (.agg [vI p0.Grain, .nils])], 83⟩) (by kernel_rfl) rfl (by kernel_rfl) q2 ?_
  refine sz 1 4 ?_
  refine lenZ (enc := eI) (l := a1) (fl := true) (by kernel_rfl) ?_
  refine sz 1 6 ?_
  refine sl false [] [] false rfl ?_
  refine sz 1 8 ?_
  refine reg_end rfl (wp_seq (wp_seq (wg [1, 2, 3, 4] [0, 1, 2, 3] ?_)))
  refine rgN (S := ⟨[(1, .ptr 0 0 0), (2, .ptr 1 0 0), (3, .ptr 2 0 0), (4, .ptr 3 0 0), (5, vI 0)], (s16_5 p0 a1), 83⟩) ?_
  refine wp_block ?_
  refine wwh h (fun s3 => ⟨[(1, .ptr 0 0 0), (2, .ptr 1 0 0), (3, .ptr 2 0 0), (4, .ptr 3 0 0), (5, vI s3.1)], (s16_16 p0 s3 a1), 83⟩) (fun v out => out = .go (.exit 0) ⟨[(1, .ptr 0 0 0), (2, .ptr 1 0 0), (3, .ptr 2 0 0), (4, .ptr 3 0 0)], [oX true false 4 (.agg [vI p0.Grain, vI p0.Count, vI p0.One, eL false (eL true eI) p0.Rows]), oX true false 2 (.agg [vI 0, .nils]), oX false false 2 (.agg [vI p0.Grain, .ref 4 0 v.1.length]), oX false false 3 (.agg [vI (a1.length : Int), .ref 5 0 v.2.length, .nils]), oR false 3 eTapi_Node v.1, oR true 1 eI v.2], 83⟩) (wk_trans (wk_gc (live := [1, 2, 3, 4, 5]) (keep := [0, 1, 2, 3]) (st' := ⟨[(1, .ptr 0 0 0), (2, .ptr 1 0 0), (3, .ptr 2 0 0), (4, .ptr 3 0 0), (5, vI 0)], (s16_5 p0 a1), 83⟩) (by kernel_rfl)) (wk_trans (wk_nilO 2 0 1 3 true false (st' := ⟨[(1, .ptr 0 0 0), (2, .ptr 1 0 0), (3, .ptr 2 0 0), (4, .ptr 3 0 0), (5, vI 0)], [oX true false 4 (.agg [vI p0.Grain, vI p0.Count, vI p0.One, eL false (eL true eI) p0.Rows]), oX true false 2 (.agg [vI 0, .nils]), oX false false 2 (.agg [vI p0.Grain, .ref 4 0 0]), oX true false 3 (.agg [vI (a1.length : Int), .nils, .nils]), .row false false true false 3 []], 83⟩) (by kernel_rfl)) (wk_trans (wk_nilO 3 0 1 1 true true (st' := ⟨[(1, .ptr 0 0 0), (2, .ptr 1 0 0), (3, .ptr 2 0 0), (4, .ptr 3 0 0), (5, vI 0)], [oX true false 4 (.agg [vI p0.Grain, vI p0.Count, vI p0.One, eL false (eL true eI) p0.Rows]), oX true false 2 (.agg [vI 0, .nils]), oX false false 2 (.agg [vI p0.Grain, .ref 4 0 0]), oX false false 3 (.agg [vI (a1.length : Int), .ref 5 0 0, .nils]), .row false false true false 3 [], .row false false true true 1 []], 83⟩) (by kernel_rfl)) (wk_gc (live := [1, 2, 3, 4, 5]) (keep := [0, 1, 2, 3, 4, 5]) (by kernel_rfl))))) ?_ ?_
  · intro s3 o h
    unfold g_ref14_Ground_b0 at h
    refine wp_seq (sq ?_)
    refine wbr (S := fun b4 => ⟨[(1, .ptr 0 0 0), (2, .ptr 1 0 0), (3, .ptr 2 0 0), (4, .ptr 3 0 0), (5, vI s3.1), (18, vI s3.1), (19, .ptr 0 0 1), (20, vI p0.Count), (21, vB b4)], (s16_16 p0 s3 a1), 83⟩) h (fun q5 h => ?_) (fun q5 h => ?_)
    · refine wcT (wp_skip (wp_seq (wp_block (wp_seq (reg_in (sz 9 9 ?_))))))
      refine sgL false [] [] true (S := ⟨[(1, .ptr 0 0 0), (2, .ptr 1 0 0), (3, .ptr 2 0 0), (4, .ptr 3 0 0), (5, vI s3.1), (18, vI s3.1), (19, .ptr 0 0 1), (20, vI p0.Count), (21, vB true), (24, .ptr 2 0 1), (25, .ref 4 0 s3.2.1.length), (26, .ptr 0 0 0), (27, vI p0.Grain), (28, .ptr 0 0 2), (29, vI p0.One), (30, vI (IntKind.i64.wrap (p0.Grain - p0.One))), (31, .ptr 0 0 2), (32, vI p0.One)] ++ [(33, .ref 6 0 2)], [oX true false 4 (.agg [vI p0.Grain, vI p0.Count, vI p0.One, eL false (eL true eI) p0.Rows]), oX true false 2 (.agg [vI 0, .nils]), oX false false 2 (.agg [vI p0.Grain, .ref 4 0 s3.2.1.length]), oX false false 3 (.agg [vI (a1.length : Int), .ref 5 0 s3.2.2.length, .nils]), oR false 3 eTapi_Node s3.2.1, oR true 1 eI s3.2.2, .row false false true true 1 [vI (IntKind.i64.wrap (p0.Grain - p0.One)), vI p0.One]], 83⟩) (by kernel_rfl) ?_
      refine bsR (parts := [(0, .lst true [vI (IntKind.i64.wrap (p0.Grain - p0.One)), vI p0.One])]) (ids := [6]) (es := [(6, .row false true true true 1 [vI (IntKind.i64.wrap (p0.Grain - p0.One)), vI p0.One]), (7, .row false false true (List.all [.lst true [vI (IntKind.i64.wrap (p0.Grain - p0.One)), vI p0.One]] AV.scs) 1 [.lst true [vI (IntKind.i64.wrap (p0.Grain - p0.One)), vI p0.One]])]) (S := ⟨[(1, .ptr 0 0 0), (2, .ptr 1 0 0), (3, .ptr 2 0 0), (4, .ptr 3 0 0), (5, vI s3.1), (18, vI s3.1), (19, .ptr 0 0 1), (20, vI p0.Count), (21, vB true), (24, .ptr 2 0 1), (25, .ref 4 0 s3.2.1.length), (26, .ptr 0 0 0), (27, vI p0.Grain), (28, .ptr 0 0 2), (29, vI p0.One), (30, vI (IntKind.i64.wrap (p0.Grain - p0.One))), (31, .ptr 0 0 2), (32, vI p0.One)] ++ [(33, .ref 6 0 2), (34, .ref 7 0 1)], [oX true false 4 (.agg [vI p0.Grain, vI p0.Count, vI p0.One, eL false (eL true eI) p0.Rows]), oX true false 2 (.agg [vI 0, .nils]), oX false false 2 (.agg [vI p0.Grain, .ref 4 0 s3.2.1.length]), oX false false 3 (.agg [vI (a1.length : Int), .ref 5 0 s3.2.2.length, .nils]), oR false 3 eTapi_Node s3.2.1, oR true 1 eI s3.2.2, .row false true true true 1 [vI (IntKind.i64.wrap (p0.Grain - p0.One)), vI p0.One], .row false false true false 1 [.lst true [vI (IntKind.i64.wrap (p0.Grain - p0.One)), vI p0.One]]], 83⟩) [.lst true] false rfl (sparts_snap rfl rfl sparts_nil (by rfl)) (by kernel_rfl) ?_
      refine sgz 1 12 (S := ⟨[(1, .ptr 0 0 0), (2, .ptr 1 0 0), (3, .ptr 2 0 0), (4, .ptr 3 0 0), (5, vI s3.1), (18, vI s3.1), (19, .ptr 0 0 1), (20, vI p0.Count), (21, vB true), (24, .ptr 2 0 1), (25, .ref 4 0 s3.2.1.length), (26, .ptr 0 0 0), (27, vI p0.Grain), (28, .ptr 0 0 2), (29, vI p0.One), (30, vI (IntKind.i64.wrap (p0.Grain - p0.One))), (31, .ptr 0 0 2), (32, vI p0.One)] ++ [(33, .ref 6 0 2), (34, .ref 7 0 1), (35, .agg [vI 2, .nils, .ref 7 0 1])], [oX true false 4 (.agg [vI p0.Grain, vI p0.Count, vI p0.One, eL false (eL true eI) p0.Rows]), oX true false 2 (.agg [vI 0, .nils]), oX false false 2 (.agg [vI p0.Grain, .ref 4 0 s3.2.1.length]), oX false false 3 (.agg [vI (a1.length : Int), .ref 5 0 s3.2.2.length, .nils]), oR false 3 eTapi_Node s3.2.1, oR true 1 eI s3.2.2, .row false true true true 1 [vI (IntKind.i64.wrap (p0.Grain - p0.One)), vI p0.One], .row false false true false 1 [.lst true [vI (IntKind.i64.wrap (p0.Grain - p0.One)), vI p0.One]]], 83⟩) ?_
      refine bsR (parts := [(0, .agg [vI 2, .nils, .lst false [.lst true [vI (IntKind.i64.wrap (p0.Grain - p0.One)), vI p0.One]]])]) (ids := [7]) (es := [(7, .row false true true false 1 [.lst true [vI (IntKind.i64.wrap (p0.Grain - p0.One)), vI p0.One]]), (8, .row false false true (List.all [.agg [vI 2, .nils, .lst false [.lst true [vI (IntKind.i64.wrap (p0.Grain - p0.One)), vI p0.One]]]] AV.scs) 3 [.agg [vI 2, .nils, .lst false [.lst true [vI (IntKind.i64.wrap (p0.Grain - p0.One)), vI p0.One]]]])]) (S := ⟨[(1, .ptr 0 0 0), (2, .ptr 1 0 0), (3, .ptr 2 0 0), (4, .ptr 3 0 0), (5, vI s3.1), (18, vI s3.1), (19, .ptr 0 0 1), (20, vI p0.Count), (21, vB true), (24, .ptr 2 0 1), (25, .ref 4 0 s3.2.1.length), (26, .ptr 0 0 0), (27, vI p0.Grain), (28, .ptr 0 0 2), (29, vI p0.One), (30, vI (IntKind.i64.wrap (p0.Grain - p0.One))), (31, .ptr 0 0 2), (32, vI p0.One)] ++ [(33, .ref 6 0 2), (34, .ref 7 0 1), (35, .agg [vI 2, .nils, .ref 7 0 1]), (36, .ref 8 0 1)], [oX true false 4 (.agg [vI p0.Grain, vI p0.Count, vI p0.One, eL false (eL true eI) p0.Rows]), oX true false 2 (.agg [vI 0, .nils]), oX false false 2 (.agg [vI p0.Grain, .ref 4 0 s3.2.1.length]), oX false false 3 (.agg [vI (a1.length : Int), .ref 5 0 s3.2.2.length, .nils]), oR false 3 eTapi_Node s3.2.1, oR true 1 eI s3.2.2, .row false true true true 1 [vI (IntKind.i64.wrap (p0.Grain - p0.One)), vI p0.One], .row false true true false 1 [.lst true [vI (IntKind.i64.wrap (p0.Grain - p0.One)), vI p0.One]], .row false false true false 3 [.agg [vI 2, .lst true [], .lst false [.lst true [vI (IntKind.i64.wrap (p0.Grain - p0.One)), vI p0.One]]]]], 83⟩) [.keep, .lst true, .lst false] false rfl (sparts_snap rfl (snap_agg (msnap_cons rfl (msnap_cons rfl (msnap_cons rfl msnap_nil (by rfl)) (by rfl)) (by rfl))) sparts_nil (by rfl)) (by kernel_rfl) ?_
      refine appR (enc := eTapi_Node) (l := s3.2.1) (m := ([(Tapi_Node.mk 2 [] [[IntKind.i64.wrap (p0.Grain - p0.One), p0.One]])] : (List Tapi_Node))) (w := 3) (bytes := 56) (ob := 4) (nr := true) (fl := false) (nr' := true) (fl' := false) (b := .ref 8 0 1) (rds := [8]) (S := ⟨[(1, .ptr 0 0 0), (2, .ptr 1 0 0), (3, .ptr 2 0 0), (4, .ptr 3 0 0), (5, vI s3.1), (18, vI s3.1), (19, .ptr 0 0 1), (20, vI p0.Count), (21, vB true), (24, .ptr 2 0 1), (25, .ref 4 0 s3.2.1.length), (26, .ptr 0 0 0), (27, vI p0.Grain), (28, .ptr 0 0 2), (29, vI p0.One), (30, vI (IntKind.i64.wrap (p0.Grain - p0.One))), (31, .ptr 0 0 2), (32, vI p0.One)] ++ [(33, .ref 6 0 2), (34, .ref 7 0 1), (35, .agg [vI 2, .nils, .ref 7 0 1]), (36, .ref 8 0 1), (37, .ref 9 0 ((s3.2.1 ++ ([(Tapi_Node.mk 2 [] [[IntKind.i64.wrap (p0.Grain - p0.One), p0.One]])] : (List Tapi_Node))).length))], [oX true false 4 (.agg [vI p0.Grain, vI p0.Count, vI p0.One, eL false (eL true eI) p0.Rows]), oX true false 2 (.agg [vI 0, .nils]), oX false false 2 (.agg [vI p0.Grain, .ref 4 0 s3.2.1.length]), oX false false 3 (.agg [vI (a1.length : Int), .ref 5 0 s3.2.2.length, .nils]), .dead, oR true 1 eI s3.2.2, .row false true true true 1 [vI (IntKind.i64.wrap (p0.Grain - p0.One)), vI p0.One], .row false true true false 1 [.lst true [vI (IntKind.i64.wrap (p0.Grain - p0.One)), vI p0.One]], .row false false true false 3 [.agg [vI 2, .lst true [], .lst false [.lst true [vI (IntKind.i64.wrap (p0.Grain - p0.One)), vI p0.One]]]], oR false 3 eTapi_Node (s3.2.1 ++ ([(Tapi_Node.mk 2 [] [[IntKind.i64.wrap (p0.Grain - p0.One), p0.One]])] : (List Tapi_Node)))], 83⟩) false (by kernel_rfl) rfl (by kernel_rfl) rfl (by kernel_rfl) (by kernel_rfl) h (fun h => ?_)
      refine sz 2 16 ?_
      refine reg_end rfl (wg [1, 2, 3, 4, 5] [0, 1, 2, 3, 9, 5] ?_)
      refine reg_in (sz 3 3 ?_)
      refine sgL false [] [] true (S := ⟨[(1, .ptr 0 0 0), (2, .ptr 1 0 0), (3, .ptr 2 0 0), (4, .ptr 3 0 0), (5, vI s3.1), (39, .ptr 3 0 1), (40, .ref 5 0 s3.2.2.length), (41, vI s3.1), (42, .ref 6 0 1)], [oX true false 4 (.agg [vI p0.Grain, vI p0.Count, vI p0.One, eL false (eL true eI) p0.Rows]), oX true false 2 (.agg [vI 0, .nils]), oX false false 2 (.agg [vI p0.Grain, .ref 4 0 ((s3.2.1 ++ ([(Tapi_Node.mk 2 [] [[IntKind.i64.wrap (p0.Grain - p0.One), p0.One]])] : (List Tapi_Node))).length)]), oX false false 3 (.agg [vI (a1.length : Int), .ref 5 0 s3.2.2.length, .nils]), oR false 3 eTapi_Node (s3.2.1 ++ ([(Tapi_Node.mk 2 [] [[IntKind.i64.wrap (p0.Grain - p0.One), p0.One]])] : (List Tapi_Node))), oR true 1 eI s3.2.2, .row false false true true 1 [vI s3.1]], 83⟩) (by kernel_rfl) ?_
      refine appR (enc := eI) (l := s3.2.2) (m := ([s3.1] : (List Int))) (w := 1) (bytes := 8) (ob := 5) (nr := true) (fl := true) (nr' := true) (fl' := true) (b := .ref 6 0 1) (rds := [6]) (S := ⟨[(1, .ptr 0 0 0), (2, .ptr 1 0 0), (3, .ptr 2 0 0), (4, .ptr 3 0 0), (5, vI s3.1), (39, .ptr 3 0 1), (40, .ref 5 0 s3.2.2.length), (41, vI s3.1), (42, .ref 6 0 1), (43, .ref 7 0 ((s3.2.2 ++ ([s3.1] : (List Int))).length))], [oX true false 4 (.agg [vI p0.Grain, vI p0.Count, vI p0.One, eL false (eL true eI) p0.Rows]), oX true false 2 (.agg [vI 0, .nils]), oX false false 2 (.agg [vI p0.Grain, .ref 4 0 ((s3.2.1 ++ ([(Tapi_Node.mk 2 [] [[IntKind.i64.wrap (p0.Grain - p0.One), p0.One]])] : (List Tapi_Node))).length)]), oX false false 3 (.agg [vI (a1.length : Int), .ref 5 0 s3.2.2.length, .nils]), oR false 3 eTapi_Node (s3.2.1 ++ ([(Tapi_Node.mk 2 [] [[IntKind.i64.wrap (p0.Grain - p0.One), p0.One]])] : (List Tapi_Node))), .dead, .row false false true true 1 [vI s3.1], oR true 1 eI (s3.2.2 ++ ([s3.1] : (List Int)))], 83⟩) false (by kernel_rfl) rfl (by kernel_rfl) rfl (by kernel_rfl) (by kernel_rfl) h (fun h => ?_)
      refine sz 2 7 ?_
      refine reg_end rfl (wg [1, 2, 3, 4, 5] [0, 1, 2, 3, 4, 7] ?_)
      refine rn ?_
      cases h
      exact ⟨_, rfl, (wk_gc (live := [1, 2, 3, 4, 5]) (keep := [0, 1, 2, 3, 4, 5]) (by kernel_rfl))⟩
    refine wcF ?_
    refine wgc [1, 2, 3, 4] [0, 1, 2, 3, 4, 5] ⟨[(1, .ptr 0 0 0), (2, .ptr 1 0 0), (3, .ptr 2 0 0), (4, .ptr 3 0 0)], (s16_16 p0 s3 a1), 83⟩ ?_
    refine wp_exit ?_
    cases h
    exact ⟨rfl, rfl⟩
  intro x7 h out hx
  subst hx
  refine wp_seq (sq (wp_block ?_))
  refine wwh h (fun s8 => ⟨[(1, .ptr 0 0 0), (2, .ptr 1 0 0), (3, .ptr 2 0 0), (4, .ptr 3 0 0), (6, vI s8.1)], (s16_42 p0 x7 a1 s8), 83⟩) (fun v out => out = .go (.exit 2) ⟨[(2, .ptr 0 0 0), (3, .ptr 1 0 0), (4, .ptr 2 0 0)], [oX true false 2 (.agg [vI 0, .nils]), oX false false 2 (.agg [vI p0.Grain, .ref 3 0 x7.1.length]), oX false false 3 (.agg [vI (a1.length : Int), .ref 4 0 x7.2.length, .ref 5 0 v.length]), oR false 3 eTapi_Node x7.1, oR true 1 eI x7.2, oR false 1 (eL true eI) v], 83⟩) (wk_trans (wk_gc (live := [1, 2, 3, 4, 6]) (keep := [0, 1, 2, 3, 4, 5]) (st' := ⟨[(1, .ptr 0 0 0), (2, .ptr 1 0 0), (3, .ptr 2 0 0), (4, .ptr 3 0 0), (6, vI 0)], [oX true false 4 (.agg [vI p0.Grain, vI p0.Count, vI p0.One, eL false (eL true eI) p0.Rows]), oX true false 2 (.agg [vI 0, .nils]), oX false false 2 (.agg [vI p0.Grain, .ref 4 0 x7.1.length]), oX false false 3 (.agg [vI (a1.length : Int), .ref 5 0 x7.2.length, .nils]), oR false 3 eTapi_Node x7.1, oR true 1 eI x7.2], 83⟩) (by kernel_rfl)) (wk_trans (wk_nilO 3 0 2 1 true false (st' := ⟨[(1, .ptr 0 0 0), (2, .ptr 1 0 0), (3, .ptr 2 0 0), (4, .ptr 3 0 0), (6, vI 0)], [oX true false 4 (.agg [vI p0.Grain, vI p0.Count, vI p0.One, eL false (eL true eI) p0.Rows]), oX true false 2 (.agg [vI 0, .nils]), oX false false 2 (.agg [vI p0.Grain, .ref 4 0 x7.1.length]), oX false false 3 (.agg [vI (a1.length : Int), .ref 5 0 x7.2.length, .ref 6 0 0]), oR false 3 eTapi_Node x7.1, oR true 1 eI x7.2, .row false false true false 1 []], 83⟩) (by kernel_rfl)) (wk_gc (live := [1, 2, 3, 4, 6]) (keep := [0, 1, 2, 3, 4, 5, 6]) (by kernel_rfl)))) ?_ ?_
  · intro s8 o h
    unfold g_ref14_Ground_b2 at h
    refine wp_seq (wp_seq (reg_in ?_))
    refine sgz 4 4 (S := ⟨[(1, .ptr 0 0 0), (2, .ptr 1 0 0), (3, .ptr 2 0 0), (4, .ptr 3 0 0), (6, vI s8.1), (45, vI s8.1), (46, .ptr 0 0 1), (47, vI p0.Count), (48, .int .u64 (IntKind.u64.wrap (p0.Count)))], (s16_42 p0 x7 a1 s8), 83⟩) ?_
    refine shlR (k := .i64) (k' := .u64) (a := 1) (b := IntKind.u64.wrap (p0.Count)) (S := ⟨[(1, .ptr 0 0 0), (2, .ptr 1 0 0), (3, .ptr 2 0 0), (4, .ptr 3 0 0), (6, vI s8.1), (45, vI s8.1), (46, .ptr 0 0 1), (47, vI p0.Count), (48, .int .u64 (IntKind.u64.wrap (p0.Count)))] ++ [(49, vI (IntKind.i64.wrap (1 * 2 ^ min (Int.toNat (IntKind.u64.wrap (p0.Count))) (IntKind.bits .i64))))], (s16_42 p0 x7 a1 s8), 83⟩) (by kernel_rfl) (by kernel_rfl) h (fun h => ?_)
    refine sz 1 6 ?_
    refine reg_end rfl ?_
    refine wbz h (fun q10 h => ?_) (fun q10 h => ?_)
    · refine wp_skip (wp_seq (wp_block (wp_seq (wg [1, 2, 3, 4, 6] [0, 1, 2, 3, 4, 5, 6] ?_))))
      refine rn (wp_seq (sq (wp_block ?_)))
      refine wwh h (fun s11 => ⟨(s16_46 s8 s11), (s16_42 p0 x7 a1 s8), 83⟩) (fun v out => out = .go (.exit 4) ⟨[(1, .ptr 0 0 0), (2, .ptr 1 0 0), (3, .ptr 2 0 0), (4, .ptr 3 0 0), (6, vI s8.1), (7, vI v)], (s16_42 p0 x7 a1 s8), 83⟩) (wk_gc (live := [1, 2, 3, 4, 6, 7, 8]) (keep := [0, 1, 2, 3, 4, 5, 6]) (by kernel_rfl)) ?_ ?_
      · intro s11 o h
        unfold g_ref14_Ground_b1 at h
        refine wp_seq (sq ?_)
        refine wbr (S := fun b12 => ⟨(s16_46 s8 s11) ++ [(53, vI s11.2), (54, .ptr 0 0 1), (55, vI p0.Count), (56, vB b12)], (s16_42 p0 x7 a1 s8), 83⟩) h (fun q13 h => ?_) (fun q13 h => ?_)
        · refine wcT (wp_skip (wp_seq (wp_block (reg_in ?_))))
          refine sgz 4 4 (S := ⟨(s16_46 s8 s11) ++ [(53, vI s11.2), (54, .ptr 0 0 1), (55, vI p0.Count), (56, vB true), (59, vI s11.1), (60, vI s8.1), (61, vI s11.2), (62, .int .u64 (IntKind.u64.wrap (s11.2)))], (s16_42 p0 x7 a1 s8), 83⟩) ?_
          refine shrR (k := .i64) (k' := .u64) (a := s8.1) (b := IntKind.u64.wrap (s11.2)) (S := ⟨(s16_46 s8 s11) ++ [(53, vI s11.2), (54, .ptr 0 0 1), (55, vI p0.Count), (56, vB true), (59, vI s11.1), (60, vI s8.1), (61, vI s11.2), (62, .int .u64 (IntKind.u64.wrap (s11.2))), (63, vI (Int.fdiv s8.1 (2 ^ min (Int.toNat (IntKind.u64.wrap (s11.2))) (IntKind.bits .i64))))], (s16_42 p0 x7 a1 s8), 83⟩) (by kernel_rfl) (by kernel_rfl) h (fun h => ?_)
          refine sz 3 8 ?_
          refine reg_end rfl (wg [1, 2, 3, 4, 6, 7, 8] [0, 1, 2, 3, 4, 5, 6] ?_)
          refine rn ?_
          cases h
          exact ⟨_, rfl, (wk_gc (live := [1, 2, 3, 4, 6, 7, 8]) (keep := [0, 1, 2, 3, 4, 5, 6]) (by kernel_rfl))⟩
        refine wcF ?_
        refine wgc [1, 2, 3, 4, 6, 7] [0, 1, 2, 3, 4, 5, 6] ⟨[(1, .ptr 0 0 0), (2, .ptr 1 0 0), (3, .ptr 2 0 0), (4, .ptr 3 0 0), (6, vI s8.1), (7, vI s11.1)], (s16_42 p0 x7 a1 s8), 83⟩ ?_
        refine wp_exit ?_
        cases h
        exact ⟨rfl, rfl⟩
      intro x15 h out hx
      subst hx
      refine rga hfol ?_
      refine sy 5 5 ?_
      refine bind_elim h (fun a16 q17 h => ?_)
      refine idxZ (enc := (eL true eI)) (l := p0.Rows) (n := x15) (fl := false) (w := 1) (a := a16) (by kernel_rfl) q17 ?_
      refine sy 1 7 ?_
      refine sgL false [] [.lst true] false (S := ⟨[(1, .ptr 0 0 0), (2, .ptr 1 0 0), (3, .ptr 2 0 0), (4, .ptr 3 0 0), (6, vI s8.1), (7, vI x15)] ++ [(66, .ptr 3 0 2), (67, .ref 6 0 s8.2.length), (68, .ptr 0 0 3), (69, eL false (eL true eI) p0.Rows), (70, vI x15), (71, .fz [eL true eI a16]), (72, eL true eI a16), (73, .ref 7 0 1)], [oX true false 4 (.agg [vI p0.Grain, vI p0.Count, vI p0.One, eL false (eL true eI) p0.Rows]), oX true false 2 (.agg [vI 0, .nils]), oX false false 2 (.agg [vI p0.Grain, .ref 4 0 x7.1.length]), oX false false 3 (.agg [vI (a1.length : Int), .ref 5 0 x7.2.length, .ref 6 0 s8.2.length]), oR false 3 eTapi_Node x7.1, oR true 1 eI x7.2, oR false 1 (eL true eI) s8.2, .row false false true false 1 [eL true eI a16]], 83⟩) (by kernel_rfl) ?_
      refine appR (enc := (eL true eI)) (l := s8.2) (m := ([a16] : (List (List Int)))) (w := 1) (bytes := 24) (ob := 6) (nr := true) (fl := false) (nr' := true) (fl' := false) (b := .ref 7 0 1) (rds := [7]) (S := ⟨[(1, .ptr 0 0 0), (2, .ptr 1 0 0), (3, .ptr 2 0 0), (4, .ptr 3 0 0), (6, vI s8.1), (7, vI x15)] ++ [(66, .ptr 3 0 2), (67, .ref 6 0 s8.2.length), (68, .ptr 0 0 3), (69, eL false (eL true eI) p0.Rows), (70, vI x15), (71, .fz [eL true eI a16]), (72, eL true eI a16), (73, .ref 7 0 1), (74, .ref 8 0 ((s8.2 ++ ([a16] : (List (List Int)))).length))], [oX true false 4 (.agg [vI p0.Grain, vI p0.Count, vI p0.One, eL false (eL true eI) p0.Rows]), oX true false 2 (.agg [vI 0, .nils]), oX false false 2 (.agg [vI p0.Grain, .ref 4 0 x7.1.length]), oX false false 3 (.agg [vI (a1.length : Int), .ref 5 0 x7.2.length, .ref 6 0 s8.2.length]), oR false 3 eTapi_Node x7.1, oR true 1 eI x7.2, .dead, .row false false true false 1 [eL true eI a16], oR false 1 (eL true eI) (s8.2 ++ ([a16] : (List (List Int))))], 83⟩) false (by kernel_rfl) rfl (by kernel_rfl) rfl (by kernel_rfl) (by kernel_rfl) h (fun h => ?_)
      refine sy 2 11 ?_
      refine rgd ?_
      refine wg [1, 2, 3, 4, 6] [0, 1, 2, 3, 4, 5, 8] ?_
      refine rn ?_
      cases h
      exact ⟨_, rfl, (wk_gc (live := [1, 2, 3, 4, 6]) (keep := [0, 1, 2, 3, 4, 5, 6]) (by kernel_rfl))⟩
    refine wgc [2, 3, 4] [1, 2, 3, 4, 5, 6] ⟨[(2, .ptr 0 0 0), (3, .ptr 1 0 0), (4, .ptr 2 0 0)], [oX true false 2 (.agg [vI 0, .nils]), oX false false 2 (.agg [vI p0.Grain, .ref 3 0 x7.1.length]), oX false false 3 (.agg [vI (a1.length : Int), .ref 4 0 x7.2.length, .ref 5 0 s8.2.length]), oR false 3 eTapi_Node x7.1, oR true 1 eI x7.2, oR false 1 (eL true eI) s8.2], 83⟩ ?_
    refine wp_exit ?_
    cases h
    exact ⟨rfl, rfl⟩
  intro x19 h out hx
  subst hx
  refine wp_seq (reg_in ?_)
  refine sgz 3 3 (S := ⟨[(2, .ptr 0 0 0), (3, .ptr 1 0 0), (4, .ptr 2 0 0), (76, .ptr 1 0 1), (77, .ref 3 0 x7.1.length), (78, .agg [vI (a1.length : Int), .ref 4 0 x7.2.length, .ref 5 0 x19.length])], [oX true false 2 (.agg [vI 0, .nils]), oX false false 2 (.agg [vI p0.Grain, .ref 3 0 x7.1.length]), oX false false 3 (.agg [vI (a1.length : Int), .ref 4 0 x7.2.length, .ref 5 0 x19.length]), oR false 3 eTapi_Node x7.1, oR true 1 eI x7.2, oR false 1 (eL true eI) x19], 83⟩) ?_
  refine bsR (parts := [(0, .agg [vI (a1.length : Int), eL true eI x7.2, eL false (eL true eI) x19])]) (ids := [4, 5]) (es := [(4, .row false true true true 1 (List.map eI x7.2)), (5, .row false true true false 1 (List.map (eL true eI) x19)), (6, .row false false true (List.all [.agg [vI (a1.length : Int), eL true eI x7.2, eL false (eL true eI) x19]] AV.scs) 3 [.agg [vI (a1.length : Int), eL true eI x7.2, eL false (eL true eI) x19]])]) (S := ⟨[(2, .ptr 0 0 0), (3, .ptr 1 0 0), (4, .ptr 2 0 0), (76, .ptr 1 0 1), (77, .ref 3 0 x7.1.length), (78, .agg [vI (a1.length : Int), .ref 4 0 x7.2.length, .ref 5 0 x19.length]), (79, .ref 6 0 1)], [oX true false 2 (.agg [vI 0, .nils]), oX false false 2 (.agg [vI p0.Grain, .ref 3 0 x7.1.length]), oX false false 3 (.agg [vI (a1.length : Int), .ref 4 0 x7.2.length, .ref 5 0 x19.length]), oR false 3 eTapi_Node x7.1, .row false true true true 1 (List.map eI x7.2), .row false true true false 1 (List.map (eL true eI) x19), .row false false true false 3 [.agg [vI (a1.length : Int), eL true eI x7.2, eL false (eL true eI) x19]]], 83⟩) [.keep, .lst true, .lst false] false rfl (sparts_snap rfl (snap_agg (msnap_cons rfl (msnap_cons (snap_full rfl) (msnap_cons (snap_full rfl) msnap_nil (by rfl)) (by rfl)) (by rfl))) sparts_nil (by rfl)) (by kernel_rfl) ?_
  refine appR (enc := eTapi_Node) (l := x7.1) (m := ([(Tapi_Node.mk (a1.length : Int) x7.2 x19)] : (List Tapi_Node))) (w := 3) (bytes := 56) (ob := 3) (nr := true) (fl := false) (nr' := true) (fl' := false) (b := .ref 6 0 1) (rds := [6]) (S := ⟨[(2, .ptr 0 0 0), (3, .ptr 1 0 0), (4, .ptr 2 0 0), (76, .ptr 1 0 1), (77, .ref 3 0 x7.1.length), (78, .agg [vI (a1.length : Int), .ref 4 0 x7.2.length, .ref 5 0 x19.length]), (79, .ref 6 0 1), (80, .ref 7 0 ((x7.1 ++ ([(Tapi_Node.mk (a1.length : Int) x7.2 x19)] : (List Tapi_Node))).length))], [oX true false 2 (.agg [vI 0, .nils]), oX false false 2 (.agg [vI p0.Grain, .ref 3 0 x7.1.length]), oX false false 3 (.agg [vI (a1.length : Int), .ref 4 0 x7.2.length, .ref 5 0 x19.length]), .dead, .row false true true true 1 (List.map eI x7.2), .row false true true false 1 (List.map (eL true eI) x19), .row false false true false 3 [.agg [vI (a1.length : Int), eL true eI x7.2, eL false (eL true eI) x19]], oR false 3 eTapi_Node (x7.1 ++ ([(Tapi_Node.mk (a1.length : Int) x7.2 x19)] : (List Tapi_Node)))], 83⟩) false (by kernel_rfl) rfl (by kernel_rfl) rfl (by kernel_rfl) (by kernel_rfl) h (fun h => ?_)
  refine sz 2 7 ?_
  refine reg_end rfl (wp_seq (wg [2, 3] [0, 1, 7] ?_))
  refine rn (wg [2] [0, 2] ?_)
  refine wp_ret ?_
  cases h
  show fnOut _ _ _ _ = _
  kernel_rfl
end Go.Ab
namespace Go.Ab
open Go Go.Proofs
set_option maxRecDepth 100000
set_option maxHeartbeats 4000000
@[reducible] noncomputable def s3_13 (x5 : (Tapi_Lift × Tapi_Lift × Tapi_Lift)) (x11 : Bool) (x13 : (Tapi_Net × Int)) : List (Nat × AV) := [(17, .agg [vI x5.1.Grain, vI x5.1.Count, vI x5.1.One, eL false (eL true eI) x5.1.Rows, vI x5.2.1.Grain, vI x5.2.1.Count, vI x5.2.1.One, eL false (eL true eI) x5.2.1.Rows, vI x5.2.2.Grain, vI x5.2.2.Count, vI x5.2.2.One, eL false (eL true eI) x5.2.2.Rows]), (18, vI 0), (8, .ptr 0 0 0), (9, vB x11), (10, .ptr 1 0 0), (11, vI x13.2)]
@[reducible] noncomputable def s3_14 (x5 : (Tapi_Lift × Tapi_Lift × Tapi_Lift)) (x13 : (Tapi_Net × Int)) : List AObj := [oX true false 4 (.agg [vI x5.1.Grain, vI x5.1.Count, vI x5.1.One, eL false (eL true eI) x5.1.Rows]), oX false false 2 (.agg [vI x13.1.Grain, .ref 2 0 x13.1.Nodes.length]), oR false 3 eTapi_Node x13.1.Nodes]
@[reducible] noncomputable def s3_16 (x5 : (Tapi_Lift × Tapi_Lift × Tapi_Lift)) (x13 : (Tapi_Net × Int)) : List (Nat × AV) := [(17, .agg [vI x5.1.Grain, vI x5.1.Count, vI x5.1.One, eL false (eL true eI) x5.1.Rows, vI x5.2.1.Grain, vI x5.2.1.Count, vI x5.2.1.One, eL false (eL true eI) x5.2.1.Rows, vI x5.2.2.Grain, vI x5.2.2.Count, vI x5.2.2.One, eL false (eL true eI) x5.2.2.Rows]), (18, vI 0), (10, .ptr 0 0 0), (11, vI x13.2)]
@[reducible] noncomputable def s3_17 (x13 : (Tapi_Net × Int)) : List AObj := [oX false false 2 (.agg [vI x13.1.Grain, .ref 1 0 x13.1.Nodes.length]), oR false 3 eTapi_Node x13.1.Nodes]
@[reducible] noncomputable def s3_18 (x5 : (Tapi_Lift × Tapi_Lift × Tapi_Lift)) (x13 : (Tapi_Net × Int)) : List (Nat × AV) := [(17, .agg [vI x5.1.Grain, vI x5.1.Count, vI x5.1.One, eL false (eL true eI) x5.1.Rows, vI x5.2.1.Grain, vI x5.2.1.Count, vI x5.2.1.One, eL false (eL true eI) x5.2.1.Rows, vI x5.2.2.Grain, vI x5.2.2.Count, vI x5.2.2.One, eL false (eL true eI) x5.2.2.Rows]), (18, vI 0), (8, .ptr 0 0 0), (10, .ptr 1 0 0), (11, vI x13.2)]
@[reducible] noncomputable def s3_19 (x5 : (Tapi_Lift × Tapi_Lift × Tapi_Lift)) (x46 : Bool) (x48 : (Tapi_Net × Int)) : List (Nat × AV) := [(17, .agg [vI x5.1.Grain, vI x5.1.Count, vI x5.1.One, eL false (eL true eI) x5.1.Rows, vI x5.2.1.Grain, vI x5.2.1.Count, vI x5.2.1.One, eL false (eL true eI) x5.2.1.Rows, vI x5.2.2.Grain, vI x5.2.2.Count, vI x5.2.2.One, eL false (eL true eI) x5.2.2.Rows]), (18, vI 1), (8, .ptr 0 0 0), (9, vB x46), (10, .ptr 1 0 0), (11, vI x48.2)]
@[reducible] noncomputable def s3_20 (x5 : (Tapi_Lift × Tapi_Lift × Tapi_Lift)) (x48 : (Tapi_Net × Int)) : List AObj := [oX true false 4 (.agg [vI x5.2.1.Grain, vI x5.2.1.Count, vI x5.2.1.One, eL false (eL true eI) x5.2.1.Rows]), oX false false 2 (.agg [vI x48.1.Grain, .ref 2 0 x48.1.Nodes.length]), oR false 3 eTapi_Node x48.1.Nodes]
@[reducible] noncomputable def s3_22 (x5 : (Tapi_Lift × Tapi_Lift × Tapi_Lift)) (x48 : (Tapi_Net × Int)) : List (Nat × AV) := [(17, .agg [vI x5.1.Grain, vI x5.1.Count, vI x5.1.One, eL false (eL true eI) x5.1.Rows, vI x5.2.1.Grain, vI x5.2.1.Count, vI x5.2.1.One, eL false (eL true eI) x5.2.1.Rows, vI x5.2.2.Grain, vI x5.2.2.Count, vI x5.2.2.One, eL false (eL true eI) x5.2.2.Rows]), (18, vI 1), (10, .ptr 0 0 0), (11, vI x48.2)]
@[reducible] noncomputable def s3_23 (x48 : (Tapi_Net × Int)) : List AObj := [oX false false 2 (.agg [vI x48.1.Grain, .ref 1 0 x48.1.Nodes.length]), oR false 3 eTapi_Node x48.1.Nodes]
@[reducible] noncomputable def s3_24 (x5 : (Tapi_Lift × Tapi_Lift × Tapi_Lift)) (x48 : (Tapi_Net × Int)) : List (Nat × AV) := [(17, .agg [vI x5.1.Grain, vI x5.1.Count, vI x5.1.One, eL false (eL true eI) x5.1.Rows, vI x5.2.1.Grain, vI x5.2.1.Count, vI x5.2.1.One, eL false (eL true eI) x5.2.1.Rows, vI x5.2.2.Grain, vI x5.2.2.Count, vI x5.2.2.One, eL false (eL true eI) x5.2.2.Rows]), (18, vI 1), (8, .ptr 0 0 0), (10, .ptr 1 0 0), (11, vI x48.2)]
@[reducible] noncomputable def s3_25 (x5 : (Tapi_Lift × Tapi_Lift × Tapi_Lift)) (x81 : Bool) (x83 : (Tapi_Net × Int)) : List (Nat × AV) := [(17, .agg [vI x5.1.Grain, vI x5.1.Count, vI x5.1.One, eL false (eL true eI) x5.1.Rows, vI x5.2.1.Grain, vI x5.2.1.Count, vI x5.2.1.One, eL false (eL true eI) x5.2.1.Rows, vI x5.2.2.Grain, vI x5.2.2.Count, vI x5.2.2.One, eL false (eL true eI) x5.2.2.Rows]), (18, vI 2), (8, .ptr 0 0 0), (9, vB x81), (10, .ptr 1 0 0), (11, vI x83.2)]
@[reducible] noncomputable def s3_26 (x5 : (Tapi_Lift × Tapi_Lift × Tapi_Lift)) (x83 : (Tapi_Net × Int)) : List AObj := [oX true false 4 (.agg [vI x5.2.2.Grain, vI x5.2.2.Count, vI x5.2.2.One, eL false (eL true eI) x5.2.2.Rows]), oX false false 2 (.agg [vI x83.1.Grain, .ref 2 0 x83.1.Nodes.length]), oR false 3 eTapi_Node x83.1.Nodes]
@[reducible] noncomputable def s3_28 (x5 : (Tapi_Lift × Tapi_Lift × Tapi_Lift)) (x83 : (Tapi_Net × Int)) : List (Nat × AV) := [(17, .agg [vI x5.1.Grain, vI x5.1.Count, vI x5.1.One, eL false (eL true eI) x5.1.Rows, vI x5.2.1.Grain, vI x5.2.1.Count, vI x5.2.1.One, eL false (eL true eI) x5.2.1.Rows, vI x5.2.2.Grain, vI x5.2.2.Count, vI x5.2.2.One, eL false (eL true eI) x5.2.2.Rows]), (18, vI 2), (10, .ptr 0 0 0), (11, vI x83.2)]
@[reducible] noncomputable def s3_29 (x83 : (Tapi_Net × Int)) : List AObj := [oX false false 2 (.agg [vI x83.1.Grain, .ref 1 0 x83.1.Nodes.length]), oR false 3 eTapi_Node x83.1.Nodes]
@[reducible] noncomputable def s3_31 (x5 : (Tapi_Lift × Tapi_Lift × Tapi_Lift)) (x83 : (Tapi_Net × Int)) : List (Nat × AV) := [(17, .agg [vI x5.1.Grain, vI x5.1.Count, vI x5.1.One, eL false (eL true eI) x5.1.Rows, vI x5.2.1.Grain, vI x5.2.1.Count, vI x5.2.1.One, eL false (eL true eI) x5.2.1.Rows, vI x5.2.2.Grain, vI x5.2.2.Count, vI x5.2.2.One, eL false (eL true eI) x5.2.2.Rows]), (18, vI 2), (8, .ptr 0 0 0), (10, .ptr 1 0 0), (11, vI x83.2)]
@[reducible] noncomputable def s3_33 (x5 : (Tapi_Lift × Tapi_Lift × Tapi_Lift)) (s7 : Int) : List (Nat × AV) := [(17, .agg [vI x5.1.Grain, vI x5.1.Count, vI x5.1.One, eL false (eL true eI) x5.1.Rows, vI x5.2.1.Grain, vI x5.2.1.Count, vI x5.2.1.One, eL false (eL true eI) x5.2.1.Rows, vI x5.2.2.Grain, vI x5.2.2.Count, vI x5.2.2.One, eL false (eL true eI) x5.2.2.Rows]), (18, vI s7)]
theorem g_law14_LiftChecks_ok (p0 : Tharuspexref14_Draft) (p1 : Tharuspexref14_Bend) (p2 : Tapi_Lift) (x : Bool) (h : g_law14_LiftChecks p0 p1 p2 = some x) : CallOk Try.prog 3 [.agg [.int .u8 p0.Grain, .int .u8 p0.Count, .int .u8 p0.One, .int .u8 p0.Card, eL true (AV.int .u8) p0.L], .agg [.int .u8 p1.What, .int .u8 p1.J, .int .u8 p1.At, vI p1.N], .agg [vI p2.Grain, vI p2.Count, vI p2.One, eL false (eL true eI) p2.Rows]] (.ret (vB x) []) := by
  refine fn_ok [] Try.func3 rfl (by decide +kernel) rfl ?_
  unfold g_law14_LiftChecks at h
  refine wp_eqB (base' := 0) (st' := ⟨[(0, .agg [.int .u8 p0.Grain, .int .u8 p0.Count, .int .u8 p0.One, .int .u8 p0.Card, eL true (AV.int .u8) p0.L]), (1, .agg [.int .u8 p1.What, .int .u8 p1.J, .int .u8 p1.At, vI p1.N]), (2, .agg [vI p2.Grain, vI p2.Count, vI p2.One, eL false (eL true eI) p2.Rows])], [], 77⟩) rfl (by as_aux_lemma => kernel_rfl) ?_
  refine wp_seq (reg_in ?_)
  refine sl false [] [] false rfl ?_
  refine sz 1 2 ?_
  refine sl false [] [] false rfl ?_
  refine sz 1 4 ?_
  refine reg_end rfl (wp_seq (wp_seq (reg_in ?_)))
  refine callZ (as0 := []) (ids := []) (by as_aux_lemma => kernel_rfl) bodyB_10 msnap_nil (fun x1 q2 => g_law14_wakes_ok  x1 q2) h (fun x1 q2 h => ?_)
  refine sz 1 2 ?_
  refine reg_end rfl ?_
  refine wbz h (fun q4 h => ?_) (fun q4 h => ?_)
  · refine wp_seq (wg [] [] ?_)
    refine rn (wg [6] [] ?_)
    refine wp_ret ?_
    cases h
    show fnOut _ _ _ _ = _
    kernel_rfl
  refine wp_skip (wp_seq (wp_seq (wg [3, 4, 5] [0, 1, 2] ?_)))
  refine reg_in (sz 3 3 ?_)
  refine callZ (as0 := [.agg [.int .u8 p0.Grain, .int .u8 p0.Count, .int .u8 p0.One, .int .u8 p0.Card, eL true (AV.int .u8) p0.L], .agg [.int .u8 p1.What, .int .u8 p1.J, .int .u8 p1.At, vI p1.N], .agg [vI p2.Grain, vI p2.Count, vI p2.One, eL false (eL true eI) p2.Rows]]) (ids := []) (by as_aux_lemma => kernel_rfl) bodyB_11 (msnap_cons (snap_agg (msnap_cons rfl (msnap_cons rfl (msnap_cons rfl (msnap_cons rfl (msnap_cons rfl msnap_nil (by rfl)) (by rfl)) (by rfl)) (by rfl)) (by rfl))) (msnap_cons (snap_agg (msnap_cons rfl (msnap_cons rfl (msnap_cons rfl (msnap_cons rfl msnap_nil (by rfl)) (by rfl)) (by rfl)) (by rfl))) (msnap_cons (snap_agg (msnap_cons rfl (msnap_cons rfl (msnap_cons rfl (msnap_cons rfl msnap_nil (by rfl)) (by rfl)) (by rfl)) (by rfl))) msnap_nil (by rfl)) (by rfl)) (by rfl)) (fun x5 q6 => g_law14_models_ok p0 p1 p2 x5 q6) h (fun x5 q6 h => ?_)
  refine sz 1 5 ?_
  refine reg_end rfl (wp_block ?_)
  refine wwh h (fun s7 => ⟨(s3_33 x5 s7), [], 77⟩) (fun x out => out = match x with | .inl v => .go (.ret) ⟨[(6, vB false)], [], 77⟩ | .inr v => .go (.exit 0) ⟨[], [], 77⟩) (wk_gc (live := [17, 18]) (keep := []) (by as_aux_lemma => kernel_rfl)) ?_ ?_
  · intro s7 o h
    unfold g_law14_LiftChecks_b0 at h
    refine sq (wp_seq ?_)
    refine wbr (S := fun b8 => ⟨(s3_33 x5 s7) ++ [(19, vB b8)], [], 77⟩) h (fun q9 h => ?_) (fun q9 h => ?_)
    · refine wcT (wp_skip (wp_seq (wp_block (wp_seq (reg_in ?_)))))
      refine rw_eqI (n := s7) (m := 0) (S := fun n10 => ⟨[(17, .agg [vI x5.1.Grain, vI x5.1.Count, vI x5.1.One, eL false (eL true eI) x5.1.Rows, vI x5.2.1.Grain, vI x5.2.1.Count, vI x5.2.1.One, eL false (eL true eI) x5.2.1.Rows, vI x5.2.2.Grain, vI x5.2.2.Count, vI x5.2.2.One, eL false (eL true eI) x5.2.2.Rows]), (18, vI n10), (19, vB true)], [], 77⟩) h (fun _ h => ?_) (fun _ h => ?_)
      · refine sz 1 1 ?_
        refine sl false [] [] false rfl ?_
        refine sz 1 3 ?_
        refine reg_end rfl (wp_seq (reg_in (sz 1 1 ?_)))
        refine callZ (as0 := [.agg [vI x5.1.Grain, vI x5.1.Count, vI x5.1.One, eL false (eL true eI) x5.1.Rows]]) (ids := []) (by as_aux_lemma => kernel_rfl) bodyB_12 (msnap_cons (snap_agg (msnap_cons rfl (msnap_cons rfl (msnap_cons rfl (msnap_cons rfl msnap_nil (by rfl)) (by rfl)) (by rfl)) (by rfl))) msnap_nil (by rfl)) (fun x11 q12 => g_ref14_Right_ok x5.1 x11 q12) h (fun x11 q12 h => ?_)
        refine sz 1 3 ?_
        refine reg_end rfl (wp_seq (reg_in ?_))
        refine sgz 1 1 (S := ⟨[(17, .agg [vI x5.1.Grain, vI x5.1.Count, vI x5.1.One, eL false (eL true eI) x5.1.Rows, vI x5.2.1.Grain, vI x5.2.1.Count, vI x5.2.1.One, eL false (eL true eI) x5.2.1.Rows, vI x5.2.2.Grain, vI x5.2.2.Count, vI x5.2.2.One, eL false (eL true eI) x5.2.2.Rows]), (18, vI 0)] ++ [(19, vB true), (20, .agg [vI x5.1.Grain, vI x5.1.Count, vI x5.1.One, eL false (eL true eI) x5.1.Rows]), (8, .ptr 0 0 0), (21, .agg [vI x5.1.Grain, vI x5.1.Count, vI x5.1.One, eL false (eL true eI) x5.1.Rows])] ++ [(22, vB x11), (9, vB x11), (24, .agg [vI x5.1.Grain, vI x5.1.Count, vI x5.1.One, eL false (eL true eI) x5.1.Rows])], [oX true false 4 (.agg [vI x5.1.Grain, vI x5.1.Count, vI x5.1.One, eL false (eL true eI) x5.1.Rows])], 77⟩) ?_
        refine callZ (as0 := [.agg [vI x5.1.Grain, vI x5.1.Count, vI x5.1.One, eL false (eL true eI) x5.1.Rows]]) (ids := []) (by as_aux_lemma => kernel_rfl) bodyB_13 (msnap_cons (snap_agg (msnap_cons rfl (msnap_cons rfl (msnap_cons rfl (msnap_cons rfl msnap_nil (by rfl)) (by rfl)) (by rfl)) (by rfl))) msnap_nil (by rfl)) (fun x13 q14 => g_lift_Ground_ok x5.1 x13 q14) h (fun x13 q14 h => ?_)
        refine sz 3 5 ?_
        refine sl false [] [] false rfl ?_
        refine sz 2 8 ?_
        refine reg_end rfl (wp_block (wp_seq (wg [17, 18, 8, 9, 10, 11] [0, 2, 1] ?_)))
        refine reg_in (sz 1 1 ?_)
        refine callR (as0 := [.agg [vI x5.1.Grain, vI x5.1.Count, vI x5.1.One, eL false (eL true eI) x5.1.Rows]]) (ids := []) (S := fun x15 => ⟨(s3_13 x5 x11 x13) ++ [(29, .agg [vI x5.1.Grain, vI x5.1.Count, vI x5.1.One, eL false (eL true eI) x5.1.Rows]), (30, vI x15)], (s3_14 x5 x13), 77⟩) (by as_aux_lemma => kernel_rfl) bodyB_14 (msnap_cons (snap_agg (msnap_cons rfl (msnap_cons rfl (msnap_cons rfl (msnap_cons rfl msnap_nil (by rfl)) (by rfl)) (by rfl)) (by rfl))) msnap_nil (by rfl)) (fun x15 q16 => g_lift_Check_ok x5.1 x15 q16) (fun _ => by as_aux_lemma => kernel_rfl) h (fun x15 q16 h => ?_)
        refine sz 4 6 ?_
        refine rwg [17, 18, 8, 9, 10, 11, 34] [0, 1, 2] ?_
        refine rbr (S := fun b17 => ⟨(s3_13 x5 x11 x13) ++ [(34, vB b17)], (s3_14 x5 x13), 77⟩) h (fun q18 h => ?_) (fun q18 h => ?_)
        · refine sz 9 15 ?_
          refine reg_end rfl (wcT (wp_seq (wg [] [] ?_)))
          refine rn ?_
          refine wgc [6] [] ⟨[(6, vB false)], [], 77⟩ ?_
          refine wp_ret ?_
          cases h
          exact ⟨rfl, rfl⟩
        refine sz 3 9 ?_
        refine rbr (S := fun b19 => ⟨(s3_13 x5 x11 x13) ++ [(34, vB false), (35, vB x11), (36, vB b19), (37, vB b19)], (s3_14 x5 x13), 77⟩) h (fun q20 h => ?_) (fun q20 h => ?_)
        · refine sz 1 10 ?_
          refine callZ (as0 := [.agg [vI x5.1.Grain, vI x5.1.Count, vI x5.1.One, eL false (eL true eI) x5.1.Rows]]) (ids := []) (by as_aux_lemma => kernel_rfl) bodyB_14 (msnap_cons (snap_agg (msnap_cons rfl (msnap_cons rfl (msnap_cons rfl (msnap_cons rfl msnap_nil (by rfl)) (by rfl)) (by rfl)) (by rfl))) msnap_nil (by rfl)) (fun x21 q22 => g_lift_Check_ok x5.1 x21 q22) h (fun x21 q22 h => ?_)
          refine sz 4 15 ?_
          refine reg_end rfl ?_
          refine wbz h (fun q24 h => ?_) (fun q24 h => ?_)
          · refine wp_seq (wg [] [] ?_)
            refine rn ?_
            refine wgc [6] [] ⟨[(6, vB false)], [], 77⟩ ?_
            refine wp_ret ?_
            cases h
            exact ⟨rfl, rfl⟩
          refine wp_seq (wg [17, 18, 8, 9, 10, 11] [0, 1, 2] ?_)
          refine rn ?_
          refine wkn (S := fun b25 => ⟨(s3_13 x5 x11 x13) ++ [(44, vB x11), (45, vB b25), (43, vB b25)], (s3_14 x5 x13), 77⟩) q20 ?_
          refine wcT (wp_seq (wg [17, 18, 10, 11] [1, 2] ?_))
          refine reg_in (sz 3 3 ?_)
          refine rbr (S := fun b26 => ⟨(s3_16 x5 x13) ++ [(46, vI x13.2), (47, vB b26), (48, vB b26)], (s3_17 x13), 77⟩) h (fun q27 h => ?_) (fun q27 h => ?_)
          · refine sz 5 8 ?_
            refine reg_end rfl (wcT (wp_seq (wg [] [] ?_)))
            refine rn ?_
            refine wgc [6] [] ⟨[(6, vB false)], [], 77⟩ ?_
            refine wp_ret ?_
            cases h
            exact ⟨rfl, rfl⟩
          refine sz 5 8 ?_
          refine reg_end rfl ?_
          refine wbz h (fun q29 h => ?_) (fun q29 h => ?_)
          · refine wp_seq (wg [] [] ?_)
            refine rn ?_
            refine wgc [6] [] ⟨[(6, vB false)], [], 77⟩ ?_
            refine wp_ret ?_
            cases h
            exact ⟨rfl, rfl⟩
          refine wp_skip (wg [17, 18] [] ?_)
          refine rn ?_
          cases h
          exact ⟨_, rfl, (wk_gc (live := [17, 18]) (keep := []) (by as_aux_lemma => kernel_rfl))⟩
        refine sz 6 15 ?_
        refine reg_end rfl (wcF (wp_seq (wg [17, 18, 8, 9, 10, 11] [0, 1, 2] ?_)))
        refine rn ?_
        refine wkn (S := fun b30 => ⟨(s3_13 x5 x11 x13) ++ [(44, vB x11), (45, vB b30), (43, vB b30)], (s3_14 x5 x13), 77⟩) q20 ?_
        refine wcF (sq ?_)
        refine wbz h (fun q32 h => ?_) (fun q32 h => ?_)
        · refine wp_seq (wg [17, 18, 10, 11] [1, 2] ?_)
          refine reg_in (sz 3 3 ?_)
          refine rbr (S := fun b33 => ⟨(s3_16 x5 x13) ++ [(58, vI x13.2), (59, vB b33), (60, vB b33)], (s3_17 x13), 77⟩) h (fun q34 h => ?_) (fun q34 h => ?_)
          · refine sz 5 8 ?_
            refine reg_end rfl (wcT (wp_seq (wg [] [] ?_)))
            refine rn ?_
            refine wgc [6] [] ⟨[(6, vB false)], [], 77⟩ ?_
            refine wp_ret ?_
            cases h
            exact ⟨rfl, rfl⟩
          refine sz 5 8 ?_
          refine reg_end rfl ?_
          refine wbz h (fun q36 h => ?_) (fun q36 h => ?_)
          · refine wp_seq (wg [] [] ?_)
            refine rn ?_
            refine wgc [6] [] ⟨[(6, vB false)], [], 77⟩ ?_
            refine wp_ret ?_
            cases h
            exact ⟨rfl, rfl⟩
          refine wp_skip (wg [17, 18] [] ?_)
          refine rn ?_
          cases h
          exact ⟨_, rfl, (wk_gc (live := [17, 18]) (keep := []) (by as_aux_lemma => kernel_rfl))⟩
        refine wp_seq (wg [17, 18, 8, 10, 11] [0, 1, 2] ?_)
        refine rga hfol ?_
        refine sy 3 3 ?_
        refine rbr (S := fun b37 => ⟨(s3_18 x5 x13) ++ [(67, vI x13.2), (68, vB b37), (69, vB b37)], (s3_14 x5 x13), 77⟩) h (fun q38 h => ?_) (fun q38 h => ?_)
        · refine sy 7 10 ?_
          refine rgd ?_
          refine wcT (wp_seq (wg [] [] ?_))
          refine rn ?_
          refine wgc [6] [] ⟨[(6, vB false)], [], 77⟩ ?_
          refine wp_ret ?_
          cases h
          exact ⟨rfl, rfl⟩
        refine sy 2 5 ?_
        refine callR (as0 := [.agg [vI x5.1.Grain, vI x5.1.Count, vI x5.1.One, eL false (eL true eI) x5.1.Rows]]) (ids := []) (S := fun x39 => ⟨(s3_18 x5 x13) ++ [(67, vI x13.2), (68, vB false), (69, vB false), (70, .agg [vI x13.1.Grain, .ref 2 0 x13.1.Nodes.length]), (71, .agg [vI x5.1.Grain, vI x5.1.Count, vI x5.1.One, eL false (eL true eI) x5.1.Rows])] ++ [(72, .agg [vI x39.Grain, .ref 3 0 x39.Nodes.length])], [oX true false 4 (.agg [vI x5.1.Grain, vI x5.1.Count, vI x5.1.One, eL false (eL true eI) x5.1.Rows]), oX false false 2 (.agg [vI x13.1.Grain, .ref 2 0 x13.1.Nodes.length]), oR false 3 eTapi_Node x13.1.Nodes, oR false 3 eTapi_Node x39.Nodes], 77⟩) (by as_aux_lemma => kernel_rfl) bodyB_16 (msnap_cons (snap_agg (msnap_cons rfl (msnap_cons rfl (msnap_cons rfl (msnap_cons rfl msnap_nil (by rfl)) (by rfl)) (by rfl)) (by rfl))) msnap_nil (by rfl)) (fun x39 q40 => g_ref14_Ground_ok x5.1 x39 q40) (fun _ => by as_aux_lemma => kernel_rfl) h (fun x39 q40 h => ?_)
        refine callZ (as0 := [.agg [vI x13.1.Grain, .ref 2 0 x13.1.Nodes.length], .agg [vI x39.Grain, .ref 3 0 x39.Nodes.length]]) (ids := [2, 3]) (by as_aux_lemma => kernel_rfl) bodyB_15 (msnap_cons (snap_agg (msnap_cons rfl (msnap_cons (snap_full rfl) msnap_nil (by rfl)) (by rfl))) (msnap_cons (snap_agg (msnap_cons rfl (msnap_cons (snap_full rfl) msnap_nil (by rfl)) (by rfl))) msnap_nil (by rfl)) (by rfl)) (fun x41 q42 => g_ref05_Same_ok x13.1 x39 x41 q42) h (fun x41 q42 h => ?_)
        refine sy 3 10 ?_
        refine rgd ?_
        refine wbz h (fun q44 h => ?_) (fun q44 h => ?_)
        · refine wp_seq (wg [] [] ?_)
          refine rn ?_
          refine wgc [6] [] ⟨[(6, vB false)], [], 77⟩ ?_
          refine wp_ret ?_
          cases h
          exact ⟨rfl, rfl⟩
        refine wp_skip (wg [17, 18] [] ?_)
        refine rn ?_
        cases h
        exact ⟨_, rfl, (wk_gc (live := [17, 18]) (keep := []) (by as_aux_lemma => kernel_rfl))⟩
      refine rw_eqI (n := s7) (m := 1) (S := fun n45 => ⟨[(17, .agg [vI x5.1.Grain, vI x5.1.Count, vI x5.1.One, eL false (eL true eI) x5.1.Rows, vI x5.2.1.Grain, vI x5.2.1.Count, vI x5.2.1.One, eL false (eL true eI) x5.2.1.Rows, vI x5.2.2.Grain, vI x5.2.2.Count, vI x5.2.2.One, eL false (eL true eI) x5.2.2.Rows]), (18, vI n45), (19, vB true)], [], 77⟩) h (fun _ h => ?_) (fun _ h => ?_)
      · refine sz 1 1 ?_
        refine sl false [] [] false rfl ?_
        refine sz 1 3 ?_
        refine reg_end rfl (wp_seq (reg_in (sz 1 1 ?_)))
        refine callZ (as0 := [.agg [vI x5.2.1.Grain, vI x5.2.1.Count, vI x5.2.1.One, eL false (eL true eI) x5.2.1.Rows]]) (ids := []) (by as_aux_lemma => kernel_rfl) bodyB_12 (msnap_cons (snap_agg (msnap_cons rfl (msnap_cons rfl (msnap_cons rfl (msnap_cons rfl msnap_nil (by rfl)) (by rfl)) (by rfl)) (by rfl))) msnap_nil (by rfl)) (fun x46 q47 => g_ref14_Right_ok x5.2.1 x46 q47) h (fun x46 q47 h => ?_)
        refine sz 1 3 ?_
        refine reg_end rfl (wp_seq (reg_in ?_))
        refine sgz 1 1 (S := ⟨[(17, .agg [vI x5.1.Grain, vI x5.1.Count, vI x5.1.One, eL false (eL true eI) x5.1.Rows, vI x5.2.1.Grain, vI x5.2.1.Count, vI x5.2.1.One, eL false (eL true eI) x5.2.1.Rows, vI x5.2.2.Grain, vI x5.2.2.Count, vI x5.2.2.One, eL false (eL true eI) x5.2.2.Rows]), (18, vI 1)] ++ [(19, vB true), (20, .agg [vI x5.2.1.Grain, vI x5.2.1.Count, vI x5.2.1.One, eL false (eL true eI) x5.2.1.Rows]), (8, .ptr 0 0 0), (21, .agg [vI x5.2.1.Grain, vI x5.2.1.Count, vI x5.2.1.One, eL false (eL true eI) x5.2.1.Rows])] ++ [(22, vB x46), (9, vB x46), (24, .agg [vI x5.2.1.Grain, vI x5.2.1.Count, vI x5.2.1.One, eL false (eL true eI) x5.2.1.Rows])], [oX true false 4 (.agg [vI x5.2.1.Grain, vI x5.2.1.Count, vI x5.2.1.One, eL false (eL true eI) x5.2.1.Rows])], 77⟩) ?_
        refine callZ (as0 := [.agg [vI x5.2.1.Grain, vI x5.2.1.Count, vI x5.2.1.One, eL false (eL true eI) x5.2.1.Rows]]) (ids := []) (by as_aux_lemma => kernel_rfl) bodyB_13 (msnap_cons (snap_agg (msnap_cons rfl (msnap_cons rfl (msnap_cons rfl (msnap_cons rfl msnap_nil (by rfl)) (by rfl)) (by rfl)) (by rfl))) msnap_nil (by rfl)) (fun x48 q49 => g_lift_Ground_ok x5.2.1 x48 q49) h (fun x48 q49 h => ?_)
        refine sz 3 5 ?_
        refine sl false [] [] false rfl ?_
        refine sz 2 8 ?_
        refine reg_end rfl (wp_block (wp_seq (wg [17, 18, 8, 9, 10, 11] [0, 2, 1] ?_)))
        refine reg_in (sz 1 1 ?_)
        refine callR (as0 := [.agg [vI x5.2.1.Grain, vI x5.2.1.Count, vI x5.2.1.One, eL false (eL true eI) x5.2.1.Rows]]) (ids := []) (S := fun x50 => ⟨(s3_19 x5 x46 x48) ++ [(29, .agg [vI x5.2.1.Grain, vI x5.2.1.Count, vI x5.2.1.One, eL false (eL true eI) x5.2.1.Rows]), (30, vI x50)], (s3_20 x5 x48), 77⟩) (by as_aux_lemma => kernel_rfl) bodyB_14 (msnap_cons (snap_agg (msnap_cons rfl (msnap_cons rfl (msnap_cons rfl (msnap_cons rfl msnap_nil (by rfl)) (by rfl)) (by rfl)) (by rfl))) msnap_nil (by rfl)) (fun x50 q51 => g_lift_Check_ok x5.2.1 x50 q51) (fun _ => by as_aux_lemma => kernel_rfl) h (fun x50 q51 h => ?_)
        refine sz 4 6 ?_
        refine rwg [17, 18, 8, 9, 10, 11, 34] [0, 1, 2] ?_
        refine rbr (S := fun b52 => ⟨(s3_19 x5 x46 x48) ++ [(34, vB b52)], (s3_20 x5 x48), 77⟩) h (fun q53 h => ?_) (fun q53 h => ?_)
        · refine sz 9 15 ?_
          refine reg_end rfl (wcT (wp_seq (wg [] [] ?_)))
          refine rn ?_
          refine wgc [6] [] ⟨[(6, vB false)], [], 77⟩ ?_
          refine wp_ret ?_
          cases h
          exact ⟨rfl, rfl⟩
        refine sz 3 9 ?_
        refine rbr (S := fun b54 => ⟨(s3_19 x5 x46 x48) ++ [(34, vB false), (35, vB x46), (36, vB b54), (37, vB b54)], (s3_20 x5 x48), 77⟩) h (fun q55 h => ?_) (fun q55 h => ?_)
        · refine sz 1 10 ?_
          refine callZ (as0 := [.agg [vI x5.2.1.Grain, vI x5.2.1.Count, vI x5.2.1.One, eL false (eL true eI) x5.2.1.Rows]]) (ids := []) (by as_aux_lemma => kernel_rfl) bodyB_14 (msnap_cons (snap_agg (msnap_cons rfl (msnap_cons rfl (msnap_cons rfl (msnap_cons rfl msnap_nil (by rfl)) (by rfl)) (by rfl)) (by rfl))) msnap_nil (by rfl)) (fun x56 q57 => g_lift_Check_ok x5.2.1 x56 q57) h (fun x56 q57 h => ?_)
          refine sz 4 15 ?_
          refine reg_end rfl ?_
          refine wbz h (fun q59 h => ?_) (fun q59 h => ?_)
          · refine wp_seq (wg [] [] ?_)
            refine rn ?_
            refine wgc [6] [] ⟨[(6, vB false)], [], 77⟩ ?_
            refine wp_ret ?_
            cases h
            exact ⟨rfl, rfl⟩
          refine wp_seq (wg [17, 18, 8, 9, 10, 11] [0, 1, 2] ?_)
          refine rn ?_
          refine wkn (S := fun b60 => ⟨(s3_19 x5 x46 x48) ++ [(44, vB x46), (45, vB b60), (43, vB b60)], (s3_20 x5 x48), 77⟩) q55 ?_
          refine wcT (wp_seq (wg [17, 18, 10, 11] [1, 2] ?_))
          refine reg_in (sz 3 3 ?_)
          refine rbr (S := fun b61 => ⟨(s3_22 x5 x48) ++ [(46, vI x48.2), (47, vB b61), (48, vB b61)], (s3_23 x48), 77⟩) h (fun q62 h => ?_) (fun q62 h => ?_)
          · refine sz 5 8 ?_
            refine reg_end rfl (wcT (wp_seq (wg [] [] ?_)))
            refine rn ?_
            refine wgc [6] [] ⟨[(6, vB false)], [], 77⟩ ?_
            refine wp_ret ?_
            cases h
            exact ⟨rfl, rfl⟩
          refine sz 5 8 ?_
          refine reg_end rfl ?_
          refine wbz h (fun q64 h => ?_) (fun q64 h => ?_)
          · refine wp_seq (wg [] [] ?_)
            refine rn ?_
            refine wgc [6] [] ⟨[(6, vB false)], [], 77⟩ ?_
            refine wp_ret ?_
            cases h
            exact ⟨rfl, rfl⟩
          refine wp_skip (wg [17, 18] [] ?_)
          refine rn ?_
          cases h
          exact ⟨_, rfl, (wk_gc (live := [17, 18]) (keep := []) (by as_aux_lemma => kernel_rfl))⟩
        refine sz 6 15 ?_
        refine reg_end rfl (wcF (wp_seq (wg [17, 18, 8, 9, 10, 11] [0, 1, 2] ?_)))
        refine rn ?_
        refine wkn (S := fun b65 => ⟨(s3_19 x5 x46 x48) ++ [(44, vB x46), (45, vB b65), (43, vB b65)], (s3_20 x5 x48), 77⟩) q55 ?_
        refine wcF (sq ?_)
        refine wbz h (fun q67 h => ?_) (fun q67 h => ?_)
        · refine wp_seq (wg [17, 18, 10, 11] [1, 2] ?_)
          refine reg_in (sz 3 3 ?_)
          refine rbr (S := fun b68 => ⟨(s3_22 x5 x48) ++ [(58, vI x48.2), (59, vB b68), (60, vB b68)], (s3_23 x48), 77⟩) h (fun q69 h => ?_) (fun q69 h => ?_)
          · refine sz 5 8 ?_
            refine reg_end rfl (wcT (wp_seq (wg [] [] ?_)))
            refine rn ?_
            refine wgc [6] [] ⟨[(6, vB false)], [], 77⟩ ?_
            refine wp_ret ?_
            cases h
            exact ⟨rfl, rfl⟩
          refine sz 5 8 ?_
          refine reg_end rfl ?_
          refine wbz h (fun q71 h => ?_) (fun q71 h => ?_)
          · refine wp_seq (wg [] [] ?_)
            refine rn ?_
            refine wgc [6] [] ⟨[(6, vB false)], [], 77⟩ ?_
            refine wp_ret ?_
            cases h
            exact ⟨rfl, rfl⟩
          refine wp_skip (wg [17, 18] [] ?_)
          refine rn ?_
          cases h
          exact ⟨_, rfl, (wk_gc (live := [17, 18]) (keep := []) (by as_aux_lemma => kernel_rfl))⟩
        refine wp_seq (wg [17, 18, 8, 10, 11] [0, 1, 2] ?_)
        refine rga hfol ?_
        refine sy 3 3 ?_
        refine rbr (S := fun b72 => ⟨(s3_24 x5 x48) ++ [(67, vI x48.2), (68, vB b72), (69, vB b72)], (s3_20 x5 x48), 77⟩) h (fun q73 h => ?_) (fun q73 h => ?_)
        · refine sy 7 10 ?_
          refine rgd ?_
          refine wcT (wp_seq (wg [] [] ?_))
          refine rn ?_
          refine wgc [6] [] ⟨[(6, vB false)], [], 77⟩ ?_
          refine wp_ret ?_
          cases h
          exact ⟨rfl, rfl⟩
        refine sy 2 5 ?_
        refine callR (as0 := [.agg [vI x5.2.1.Grain, vI x5.2.1.Count, vI x5.2.1.One, eL false (eL true eI) x5.2.1.Rows]]) (ids := []) (S := fun x74 => ⟨(s3_24 x5 x48) ++ [(67, vI x48.2), (68, vB false), (69, vB false), (70, .agg [vI x48.1.Grain, .ref 2 0 x48.1.Nodes.length]), (71, .agg [vI x5.2.1.Grain, vI x5.2.1.Count, vI x5.2.1.One, eL false (eL true eI) x5.2.1.Rows])] ++ [(72, .agg [vI x74.Grain, .ref 3 0 x74.Nodes.length])], [oX true false 4 (.agg [vI x5.2.1.Grain, vI x5.2.1.Count, vI x5.2.1.One, eL false (eL true eI) x5.2.1.Rows]), oX false false 2 (.agg [vI x48.1.Grain, .ref 2 0 x48.1.Nodes.length]), oR false 3 eTapi_Node x48.1.Nodes, oR false 3 eTapi_Node x74.Nodes], 77⟩) (by as_aux_lemma => kernel_rfl) bodyB_16 (msnap_cons (snap_agg (msnap_cons rfl (msnap_cons rfl (msnap_cons rfl (msnap_cons rfl msnap_nil (by rfl)) (by rfl)) (by rfl)) (by rfl))) msnap_nil (by rfl)) (fun x74 q75 => g_ref14_Ground_ok x5.2.1 x74 q75) (fun _ => by as_aux_lemma => kernel_rfl) h (fun x74 q75 h => ?_)
        refine callZ (as0 := [.agg [vI x48.1.Grain, .ref 2 0 x48.1.Nodes.length], .agg [vI x74.Grain, .ref 3 0 x74.Nodes.length]]) (ids := [2, 3]) (by as_aux_lemma => kernel_rfl) bodyB_15 (msnap_cons (snap_agg (msnap_cons rfl (msnap_cons (snap_full rfl) msnap_nil (by rfl)) (by rfl))) (msnap_cons (snap_agg (msnap_cons rfl (msnap_cons (snap_full rfl) msnap_nil (by rfl)) (by rfl))) msnap_nil (by rfl)) (by rfl)) (fun x76 q77 => g_ref05_Same_ok x48.1 x74 x76 q77) h (fun x76 q77 h => ?_)
        refine sy 3 10 ?_
        refine rgd ?_
        refine wbz h (fun q79 h => ?_) (fun q79 h => ?_)
        · refine wp_seq (wg [] [] ?_)
          refine rn ?_
          refine wgc [6] [] ⟨[(6, vB false)], [], 77⟩ ?_
          refine wp_ret ?_
          cases h
          exact ⟨rfl, rfl⟩
        refine wp_skip (wg [17, 18] [] ?_)
        refine rn ?_
        cases h
        exact ⟨_, rfl, (wk_gc (live := [17, 18]) (keep := []) (by as_aux_lemma => kernel_rfl))⟩
      refine rw_eqI (n := s7) (m := 2) (S := fun n80 => ⟨[(17, .agg [vI x5.1.Grain, vI x5.1.Count, vI x5.1.One, eL false (eL true eI) x5.1.Rows, vI x5.2.1.Grain, vI x5.2.1.Count, vI x5.2.1.One, eL false (eL true eI) x5.2.1.Rows, vI x5.2.2.Grain, vI x5.2.2.Count, vI x5.2.2.One, eL false (eL true eI) x5.2.2.Rows]), (18, vI n80), (19, vB true)], [], 77⟩) h (fun _ h => ?_) (fun _ h => ?_)
      · refine sz 1 1 ?_
        refine sl false [] [] false rfl ?_
        refine sz 1 3 ?_
        refine reg_end rfl (wp_seq (reg_in (sz 1 1 ?_)))
        refine callZ (as0 := [.agg [vI x5.2.2.Grain, vI x5.2.2.Count, vI x5.2.2.One, eL false (eL true eI) x5.2.2.Rows]]) (ids := []) (by as_aux_lemma => kernel_rfl) bodyB_12 (msnap_cons (snap_agg (msnap_cons rfl (msnap_cons rfl (msnap_cons rfl (msnap_cons rfl msnap_nil (by rfl)) (by rfl)) (by rfl)) (by rfl))) msnap_nil (by rfl)) (fun x81 q82 => g_ref14_Right_ok x5.2.2 x81 q82) h (fun x81 q82 h => ?_)
        refine sz 1 3 ?_
        refine reg_end rfl (wp_seq (reg_in ?_))
        refine sgz 1 1 (S := ⟨[(17, .agg [vI x5.1.Grain, vI x5.1.Count, vI x5.1.One, eL false (eL true eI) x5.1.Rows, vI x5.2.1.Grain, vI x5.2.1.Count, vI x5.2.1.One, eL false (eL true eI) x5.2.1.Rows, vI x5.2.2.Grain, vI x5.2.2.Count, vI x5.2.2.One, eL false (eL true eI) x5.2.2.Rows]), (18, vI 2)] ++ [(19, vB true), (20, .agg [vI x5.2.2.Grain, vI x5.2.2.Count, vI x5.2.2.One, eL false (eL true eI) x5.2.2.Rows]), (8, .ptr 0 0 0), (21, .agg [vI x5.2.2.Grain, vI x5.2.2.Count, vI x5.2.2.One, eL false (eL true eI) x5.2.2.Rows])] ++ [(22, vB x81), (9, vB x81), (24, .agg [vI x5.2.2.Grain, vI x5.2.2.Count, vI x5.2.2.One, eL false (eL true eI) x5.2.2.Rows])], [oX true false 4 (.agg [vI x5.2.2.Grain, vI x5.2.2.Count, vI x5.2.2.One, eL false (eL true eI) x5.2.2.Rows])], 77⟩) ?_
        refine callZ (as0 := [.agg [vI x5.2.2.Grain, vI x5.2.2.Count, vI x5.2.2.One, eL false (eL true eI) x5.2.2.Rows]]) (ids := []) (by as_aux_lemma => kernel_rfl) bodyB_13 (msnap_cons (snap_agg (msnap_cons rfl (msnap_cons rfl (msnap_cons rfl (msnap_cons rfl msnap_nil (by rfl)) (by rfl)) (by rfl)) (by rfl))) msnap_nil (by rfl)) (fun x83 q84 => g_lift_Ground_ok x5.2.2 x83 q84) h (fun x83 q84 h => ?_)
        refine sz 3 5 ?_
        refine sl false [] [] false rfl ?_
        refine sz 2 8 ?_
        refine reg_end rfl (wp_block (wp_seq (wg [17, 18, 8, 9, 10, 11] [0, 2, 1] ?_)))
        refine reg_in (sz 1 1 ?_)
        refine callR (as0 := [.agg [vI x5.2.2.Grain, vI x5.2.2.Count, vI x5.2.2.One, eL false (eL true eI) x5.2.2.Rows]]) (ids := []) (S := fun x85 => ⟨(s3_25 x5 x81 x83) ++ [(29, .agg [vI x5.2.2.Grain, vI x5.2.2.Count, vI x5.2.2.One, eL false (eL true eI) x5.2.2.Rows]), (30, vI x85)], (s3_26 x5 x83), 77⟩) (by as_aux_lemma => kernel_rfl) bodyB_14 (msnap_cons (snap_agg (msnap_cons rfl (msnap_cons rfl (msnap_cons rfl (msnap_cons rfl msnap_nil (by rfl)) (by rfl)) (by rfl)) (by rfl))) msnap_nil (by rfl)) (fun x85 q86 => g_lift_Check_ok x5.2.2 x85 q86) (fun _ => by as_aux_lemma => kernel_rfl) h (fun x85 q86 h => ?_)
        refine sz 4 6 ?_
        refine rwg [17, 18, 8, 9, 10, 11, 34] [0, 1, 2] ?_
        refine rbr (S := fun b87 => ⟨(s3_25 x5 x81 x83) ++ [(34, vB b87)], (s3_26 x5 x83), 77⟩) h (fun q88 h => ?_) (fun q88 h => ?_)
        · refine sz 9 15 ?_
          refine reg_end rfl (wcT (wp_seq (wg [] [] ?_)))
          refine rn ?_
          refine wgc [6] [] ⟨[(6, vB false)], [], 77⟩ ?_
          refine wp_ret ?_
          cases h
          exact ⟨rfl, rfl⟩
        refine sz 3 9 ?_
        refine rbr (S := fun b89 => ⟨(s3_25 x5 x81 x83) ++ [(34, vB false), (35, vB x81), (36, vB b89), (37, vB b89)], (s3_26 x5 x83), 77⟩) h (fun q90 h => ?_) (fun q90 h => ?_)
        · refine sz 1 10 ?_
          refine callZ (as0 := [.agg [vI x5.2.2.Grain, vI x5.2.2.Count, vI x5.2.2.One, eL false (eL true eI) x5.2.2.Rows]]) (ids := []) (by as_aux_lemma => kernel_rfl) bodyB_14 (msnap_cons (snap_agg (msnap_cons rfl (msnap_cons rfl (msnap_cons rfl (msnap_cons rfl msnap_nil (by rfl)) (by rfl)) (by rfl)) (by rfl))) msnap_nil (by rfl)) (fun x91 q92 => g_lift_Check_ok x5.2.2 x91 q92) h (fun x91 q92 h => ?_)
          refine sz 4 15 ?_
          refine reg_end rfl ?_
          refine wbz h (fun q94 h => ?_) (fun q94 h => ?_)
          · refine wp_seq (wg [] [] ?_)
            refine rn ?_
            refine wgc [6] [] ⟨[(6, vB false)], [], 77⟩ ?_
            refine wp_ret ?_
            cases h
            exact ⟨rfl, rfl⟩
          refine wp_seq (wg [17, 18, 8, 9, 10, 11] [0, 1, 2] ?_)
          refine rn ?_
          refine wkn (S := fun b95 => ⟨(s3_25 x5 x81 x83) ++ [(44, vB x81), (45, vB b95), (43, vB b95)], (s3_26 x5 x83), 77⟩) q90 ?_
          refine wcT (wp_seq (wg [17, 18, 10, 11] [1, 2] ?_))
          refine reg_in (sz 3 3 ?_)
          refine rbr (S := fun b96 => ⟨(s3_28 x5 x83) ++ [(46, vI x83.2), (47, vB b96), (48, vB b96)], (s3_29 x83), 77⟩) h (fun q97 h => ?_) (fun q97 h => ?_)
          · refine sz 5 8 ?_
            refine reg_end rfl (wcT (wp_seq (wg [] [] ?_)))
            refine rn ?_
            refine wgc [6] [] ⟨[(6, vB false)], [], 77⟩ ?_
            refine wp_ret ?_
            cases h
            exact ⟨rfl, rfl⟩
          refine sz 5 8 ?_
          refine reg_end rfl ?_
          refine wbz h (fun q99 h => ?_) (fun q99 h => ?_)
          · refine wp_seq (wg [] [] ?_)
            refine rn ?_
            refine wgc [6] [] ⟨[(6, vB false)], [], 77⟩ ?_
            refine wp_ret ?_
            cases h
            exact ⟨rfl, rfl⟩
          refine wp_skip (wg [17, 18] [] ?_)
          refine rn ?_
          cases h
          exact ⟨_, rfl, (wk_gc (live := [17, 18]) (keep := []) (by as_aux_lemma => kernel_rfl))⟩
        refine sz 6 15 ?_
        refine reg_end rfl (wcF (wp_seq (wg [17, 18, 8, 9, 10, 11] [0, 1, 2] ?_)))
        refine rn ?_
        refine wkn (S := fun b100 => ⟨(s3_25 x5 x81 x83) ++ [(44, vB x81), (45, vB b100), (43, vB b100)], (s3_26 x5 x83), 77⟩) q90 ?_
        refine wcF (sq ?_)
        refine wbz h (fun q102 h => ?_) (fun q102 h => ?_)
        · refine wp_seq (wg [17, 18, 10, 11] [1, 2] ?_)
          refine reg_in (sz 3 3 ?_)
          refine rbr (S := fun b103 => ⟨(s3_28 x5 x83) ++ [(58, vI x83.2), (59, vB b103), (60, vB b103)], (s3_29 x83), 77⟩) h (fun q104 h => ?_) (fun q104 h => ?_)
          · refine sz 5 8 ?_
            refine reg_end rfl (wcT (wp_seq (wg [] [] ?_)))
            refine rn ?_
            refine wgc [6] [] ⟨[(6, vB false)], [], 77⟩ ?_
            refine wp_ret ?_
            cases h
            exact ⟨rfl, rfl⟩
          refine sz 5 8 ?_
          refine reg_end rfl ?_
          refine wbz h (fun q106 h => ?_) (fun q106 h => ?_)
          · refine wp_seq (wg [] [] ?_)
            refine rn ?_
            refine wgc [6] [] ⟨[(6, vB false)], [], 77⟩ ?_
            refine wp_ret ?_
            cases h
            exact ⟨rfl, rfl⟩
          refine wp_skip (wg [17, 18] [] ?_)
          refine rn ?_
          cases h
          exact ⟨_, rfl, (wk_gc (live := [17, 18]) (keep := []) (by as_aux_lemma => kernel_rfl))⟩
        refine wp_seq (wg [17, 18, 8, 10, 11] [0, 1, 2] ?_)
        refine rga hfol ?_
        refine sy 3 3 ?_
        refine rbr (S := fun b107 => ⟨(s3_31 x5 x83) ++ [(67, vI x83.2), (68, vB b107), (69, vB b107)], (s3_26 x5 x83), 77⟩) h (fun q108 h => ?_) (fun q108 h => ?_)
        · refine sy 7 10 ?_
          refine rgd ?_
          refine wcT (wp_seq (wg [] [] ?_))
          refine rn ?_
          refine wgc [6] [] ⟨[(6, vB false)], [], 77⟩ ?_
          refine wp_ret ?_
          cases h
          exact ⟨rfl, rfl⟩
        refine sy 2 5 ?_
        refine callR (as0 := [.agg [vI x5.2.2.Grain, vI x5.2.2.Count, vI x5.2.2.One, eL false (eL true eI) x5.2.2.Rows]]) (ids := []) (S := fun x109 => ⟨(s3_31 x5 x83) ++ [(67, vI x83.2), (68, vB false), (69, vB false), (70, .agg [vI x83.1.Grain, .ref 2 0 x83.1.Nodes.length]), (71, .agg [vI x5.2.2.Grain, vI x5.2.2.Count, vI x5.2.2.One, eL false (eL true eI) x5.2.2.Rows])] ++ [(72, .agg [vI x109.Grain, .ref 3 0 x109.Nodes.length])], [oX true false 4 (.agg [vI x5.2.2.Grain, vI x5.2.2.Count, vI x5.2.2.One, eL false (eL true eI) x5.2.2.Rows]), oX false false 2 (.agg [vI x83.1.Grain, .ref 2 0 x83.1.Nodes.length]), oR false 3 eTapi_Node x83.1.Nodes, oR false 3 eTapi_Node x109.Nodes], 77⟩) (by as_aux_lemma => kernel_rfl) bodyB_16 (msnap_cons (snap_agg (msnap_cons rfl (msnap_cons rfl (msnap_cons rfl (msnap_cons rfl msnap_nil (by rfl)) (by rfl)) (by rfl)) (by rfl))) msnap_nil (by rfl)) (fun x109 q110 => g_ref14_Ground_ok x5.2.2 x109 q110) (fun _ => by as_aux_lemma => kernel_rfl) h (fun x109 q110 h => ?_)
        refine callZ (as0 := [.agg [vI x83.1.Grain, .ref 2 0 x83.1.Nodes.length], .agg [vI x109.Grain, .ref 3 0 x109.Nodes.length]]) (ids := [2, 3]) (by as_aux_lemma => kernel_rfl) bodyB_15 (msnap_cons (snap_agg (msnap_cons rfl (msnap_cons (snap_full rfl) msnap_nil (by rfl)) (by rfl))) (msnap_cons (snap_agg (msnap_cons rfl (msnap_cons (snap_full rfl) msnap_nil (by rfl)) (by rfl))) msnap_nil (by rfl)) (by rfl)) (fun x111 q112 => g_ref05_Same_ok x83.1 x109 x111 q112) h (fun x111 q112 h => ?_)
        refine sy 3 10 ?_
        refine rgd ?_
        refine wbz h (fun q114 h => ?_) (fun q114 h => ?_)
        · refine wp_seq (wg [] [] ?_)
          refine rn ?_
          refine wgc [6] [] ⟨[(6, vB false)], [], 77⟩ ?_
          refine wp_ret ?_
          cases h
          exact ⟨rfl, rfl⟩
        refine wp_skip (wg [17, 18] [] ?_)
        refine rn ?_
        cases h
        exact ⟨_, rfl, (wk_gc (live := [17, 18]) (keep := []) (by as_aux_lemma => kernel_rfl))⟩
      cases h
    refine wcF ?_
    refine wgc [] [] ⟨[], [], 77⟩ ?_
    refine wp_exit ?_
    cases h
    exact ⟨rfl, rfl⟩
  intro x115 h out hx
  subst hx
  rcases x115 with x116 | x117
  · dsimp only at h ⊢
    cases h
    show fnOut _ _ _ _ = _
    kernel_rfl
  · dsimp only at h ⊢
    refine sq (wg [6] [] ?_)
    refine wp_ret ?_
    cases h
    show fnOut _ _ _ _ = _
    kernel_rfl
end Go.Ab
namespace Go.Ab
open Go
theorem one5 {cs : List AV} (h : WT (.int .u8) cs) : ∃ a : Int, cs = [(AV.int .u8) a] ∧ (Lit.int .u8 a).wf = true := by
  obtain ⟨n, rfl, w⟩ := h
  exact ⟨n, rfl, w⟩
theorem el5 {x : AV} (h : WT (.int .u8) x.flat ∧ (if false then x = .agg x.flat else x.cell = true)) : ∃ a : Int, x = (AV.int .u8) a ∧ (Lit.int .u8 a).wf = true := by
  obtain ⟨a, h1, h2⟩ := one5 h.1
  rw [flat_cell h.2] at h1
  exact ⟨a, (List.cons.inj h1).1, h2⟩
theorem one22 {cs : List AV} (h : WT (.slice true false 1 (.int .u8)) cs) : ∃ a : (List Int), cs = [(eL true (AV.int .u8)) a] ∧ (a.length ≤ maxLen ∧ ∀ y0 ∈ a, (Lit.int .u8 y0).wf = true) := by
  obtain ⟨xs, rfl, hl, hx⟩ := h
  obtain ⟨l, rfl, hr⟩ := lists_of (enc := (AV.int .u8)) (R := fun a => (Lit.int .u8 a).wf = true) (fun x hm => el5 (hx x hm))
  exact ⟨l, rfl, by simpa using hl, hr⟩
def okTharuspexref14_Draft (x : Tharuspexref14_Draft) : Prop := ((Lit.int .u8 x.Grain).wf = true) ∧ ((Lit.int .u8 x.Count).wf = true) ∧ ((Lit.int .u8 x.One).wf = true) ∧ ((Lit.int .u8 x.Card).wf = true) ∧ ((x.L.length ≤ maxLen ∧ ∀ y0 ∈ x.L, (Lit.int .u8 y0).wf = true))
theorem rdTharuspexref14_Draft {cs : List AV} (h : WT (.cat (.int .u8) (.cat (.int .u8) (.cat (.int .u8) (.cat (.int .u8) (.cat (.slice true false 1 (.int .u8)) .unit))))) cs) : ∃ x : Tharuspexref14_Draft, AV.agg cs = eTharuspexref14_Draft x ∧ okTharuspexref14_Draft x := by
  obtain ⟨_, _, rfl, a0, r0⟩ := h
  obtain ⟨v0, e0, w0⟩ := one5 a0
  cases e0
  obtain ⟨_, _, rfl, a1, r1⟩ := r0
  obtain ⟨v1, e1, w1⟩ := one5 a1
  cases e1
  obtain ⟨_, _, rfl, a2, r2⟩ := r1
  obtain ⟨v2, e2, w2⟩ := one5 a2
  cases e2
  obtain ⟨_, _, rfl, a3, r3⟩ := r2
  obtain ⟨v3, e3, w3⟩ := one5 a3
  cases e3
  obtain ⟨_, _, rfl, a4, r4⟩ := r3
  obtain ⟨v4, e4, w4⟩ := one22 a4
  cases e4
  cases r4
  exact ⟨⟨v0, v1, v2, v3, v4⟩, rfl, ⟨w0, w1, w2, w3, w4⟩⟩
theorem one3 {cs : List AV} (h : WT (.int .i64) cs) : ∃ a : Int, cs = [eI a] ∧ (Lit.int .i64 a).wf = true := by
  obtain ⟨n, rfl, w⟩ := h
  exact ⟨n, rfl, w⟩
theorem el3 {x : AV} (h : WT (.int .i64) x.flat ∧ (if false then x = .agg x.flat else x.cell = true)) : ∃ a : Int, x = eI a ∧ (Lit.int .i64 a).wf = true := by
  obtain ⟨a, h1, h2⟩ := one3 h.1
  rw [flat_cell h.2] at h1
  exact ⟨a, (List.cons.inj h1).1, h2⟩
def okTharuspexref14_Bend (x : Tharuspexref14_Bend) : Prop := ((Lit.int .u8 x.What).wf = true) ∧ ((Lit.int .u8 x.J).wf = true) ∧ ((Lit.int .u8 x.At).wf = true) ∧ ((Lit.int .i64 x.N).wf = true)
theorem rdTharuspexref14_Bend {cs : List AV} (h : WT (.cat (.int .u8) (.cat (.int .u8) (.cat (.int .u8) (.cat (.int .i64) .unit)))) cs) : ∃ x : Tharuspexref14_Bend, AV.agg cs = eTharuspexref14_Bend x ∧ okTharuspexref14_Bend x := by
  obtain ⟨_, _, rfl, a0, r0⟩ := h
  obtain ⟨v0, e0, w0⟩ := one5 a0
  cases e0
  obtain ⟨_, _, rfl, a1, r1⟩ := r0
  obtain ⟨v1, e1, w1⟩ := one5 a1
  cases e1
  obtain ⟨_, _, rfl, a2, r2⟩ := r1
  obtain ⟨v2, e2, w2⟩ := one5 a2
  cases e2
  obtain ⟨_, _, rfl, a3, r3⟩ := r2
  obtain ⟨v3, e3, w3⟩ := one3 a3
  cases e3
  cases r3
  exact ⟨⟨v0, v1, v2, v3⟩, rfl, ⟨w0, w1, w2, w3⟩⟩
theorem one64 {cs : List AV} (h : WT (.slice true false 1 (.int .i64)) cs) : ∃ a : (List Int), cs = [(eL true eI) a] ∧ (a.length ≤ maxLen ∧ ∀ y0 ∈ a, (Lit.int .i64 y0).wf = true) := by
  obtain ⟨xs, rfl, hl, hx⟩ := h
  obtain ⟨l, rfl, hr⟩ := lists_of (enc := eI) (R := fun a => (Lit.int .i64 a).wf = true) (fun x hm => el3 (hx x hm))
  exact ⟨l, rfl, by simpa using hl, hr⟩
theorem el64 {x : AV} (h : WT (.slice true false 1 (.int .i64)) x.flat ∧ (if false then x = .agg x.flat else x.cell = true)) : ∃ a : (List Int), x = (eL true eI) a ∧ (a.length ≤ maxLen ∧ ∀ y0 ∈ a, (Lit.int .i64 y0).wf = true) := by
  obtain ⟨a, h1, h2⟩ := one64 h.1
  rw [flat_cell h.2] at h1
  exact ⟨a, (List.cons.inj h1).1, h2⟩
theorem one27 {cs : List AV} (h : WT (.slice false false 1 (.slice true false 1 (.int .i64))) cs) : ∃ a : (List (List Int)), cs = [(eL false (eL true eI)) a] ∧ (a.length ≤ maxLen ∧ ∀ y0 ∈ a, (y0.length ≤ maxLen ∧ ∀ y1 ∈ y0, (Lit.int .i64 y1).wf = true)) := by
  obtain ⟨xs, rfl, hl, hx⟩ := h
  obtain ⟨l, rfl, hr⟩ := lists_of (enc := (eL true eI)) (R := fun a => (a.length ≤ maxLen ∧ ∀ y0 ∈ a, (Lit.int .i64 y0).wf = true)) (fun x hm => el64 (hx x hm))
  exact ⟨l, rfl, by simpa using hl, hr⟩
def okTapi_Lift (x : Tapi_Lift) : Prop := ((Lit.int .i64 x.Grain).wf = true) ∧ ((Lit.int .i64 x.Count).wf = true) ∧ ((Lit.int .i64 x.One).wf = true) ∧ ((x.Rows.length ≤ maxLen ∧ ∀ y0 ∈ x.Rows, (y0.length ≤ maxLen ∧ ∀ y1 ∈ y0, (Lit.int .i64 y1).wf = true)))
theorem rdTapi_Lift {cs : List AV} (h : WT (.cat (.int .i64) (.cat (.int .i64) (.cat (.int .i64) (.cat (.slice false false 1 (.slice true false 1 (.int .i64))) .unit)))) cs) : ∃ x : Tapi_Lift, AV.agg cs = eTapi_Lift x ∧ okTapi_Lift x := by
  obtain ⟨_, _, rfl, a0, r0⟩ := h
  obtain ⟨v0, e0, w0⟩ := one3 a0
  cases e0
  obtain ⟨_, _, rfl, a1, r1⟩ := r0
  obtain ⟨v1, e1, w1⟩ := one3 a1
  cases e1
  obtain ⟨_, _, rfl, a2, r2⟩ := r1
  obtain ⟨v2, e2, w2⟩ := one3 a2
  cases e2
  obtain ⟨_, _, rfl, a3, r3⟩ := r2
  obtain ⟨v3, e3, w3⟩ := one27 a3
  cases e3
  cases r3
  exact ⟨⟨v0, v1, v2, v3⟩, rfl, ⟨w0, w1, w2, w3⟩⟩
end Go.Ab
namespace Go.Ab
open Go
theorem whileN_spec {σ ρ : Type} {body : σ → Option (Step σ ρ)} (I : σ → Prop) (m : σ → Nat) (Q : ρ → Prop)
    (step : ∀ s, I s → (∃ s', body s = some (.next s') ∧ I s' ∧ m s' < m s) ∨ (∃ r, body s = some (.done r) ∧ Q r)) :
    ∀ (n : Nat) (s : σ), I s → m s < n → ∃ r, whileN n body s = some r ∧ Q r
  | 0, s, _, h => by omega
  | n + 1, s, hI, h => by
    unfold whileN
    rcases step s hI with ⟨s', h1, h2, h3⟩ | ⟨r, h1, h2⟩
    · rw [h1]
      exact whileN_spec I m Q step n s' h2 (by omega)
    · rw [h1]
      exact ⟨r, rfl, h2⟩
theorem whileN_ex {σ ρ : Type} {body : σ → Option (Step σ ρ)} (I : σ → Prop) (m : σ → Nat) (Q : ρ → Prop)
    (step : ∀ s, I s → (∃ s', body s = some (.next s') ∧ I s' ∧ m s' < m s) ∨ (∃ r, body s = some (.done r) ∧ Q r)) (s : σ) (hI : I s) (hm : m s < 1152921504606846976) : ∃ r, whileN fuel body s = some r ∧ Q r :=
  whileN_spec I m Q step fuel s hI hm
theorem whileN_count {σ ρ : Type} {body : σ → Option (Step σ ρ)} (f : Nat → σ) (n : Nat) (r : ρ) (step : ∀ k, k < n → body (f k) = some (.next (f (k + 1)))) (done : body (f n) = some (.done r)) (hn : n < 1152921504606846976) :
    whileN fuel body (f 0) = some r := by
  have key : ∀ (j N k : Nat), k + j = n → j < N → whileN N body (f k) = some r := by
    intro j
    induction j with
    | zero =>
      intro N k hk hN
      obtain ⟨N, rfl⟩ : ∃ M, N = M + 1 := ⟨N - 1, by omega⟩
      have : k = n := by omega
      subst this
      simp [whileN, done]
    | succ j ih =>
      intro N k hk hN
      obtain ⟨N, rfl⟩ : ∃ M, N = M + 1 := ⟨N - 1, by omega⟩
      simp only [whileN, step k (by omega)]
      exact ih N (k + 1) (by omega) (by omega)
  exact key n fuel 0 (by omega) hn
theorem whileN_run {σ ρ : Type} {body : σ → Option (Step σ ρ)} {s0 : σ} (f : Nat → σ) (n : Nat) (r : ρ) (h0 : f 0 = s0) (step : ∀ k, k < n → body (f k) = some (.next (f (k + 1)))) (done : body (f n) = some (.done r)) (hn : n < 1152921504606846976) :
    whileN fuel body s0 = some r := by rw [← h0]; exact whileN_count f n r step done hn
theorem w64 {n : Int} (h : -9223372036854775808 ≤ n ∧ n ≤ 9223372036854775807) : IntKind.i64.wrap n = n := by rw [IntKind.wrap_i64]; omega
theorem lkI_at {α : Type} {l : List α} {n : Int} (h : 0 ≤ n) (h2 : n < l.length) : lkI l n = some (l[n.toNat]'(by omega)) := by
  unfold lkI
  rw [if_neg (by omega), List.getElem?_eq_getElem]
theorem lkI_nat {α : Type} {l : List α} {k : Nat} (h : k < l.length) : lkI l (k : Int) = some l[k] := by
  unfold lkI
  rw [if_neg (by omega), Int.toNat_natCast, List.getElem?_eq_getElem h]
theorem tmod_pos {a b : Int} (h : 0 ≤ a) : Int.tmod a b = a % b := Int.tmod_eq_emod_of_nonneg h
end Go.Ab
namespace Go.Ab
open Go
set_option maxRecDepth 100000
end Go.Ab
namespace Go.Ab
open Go
set_option maxRecDepth 100000
end Go.Ab
namespace Go.Ab
open Go
set_option maxRecDepth 100000
end Go.Ab
namespace Go.Ab
open Go
set_option maxRecDepth 100000
def sumTo (n : Nat) (f : Nat → Nat) : Nat := match n with | 0 => 0 | n + 1 => sumTo n f + f n
def choose : Nat → Nat → Nat
  | _, 0 => 1
  | 0, _ + 1 => 0
  | n + 1, k + 1 => choose n k + choose n (k + 1)
def tm (z o u a b : Nat) (s : Nat → Nat) (j : Nat) : Nat := if j < o then 0 else if o + u < j then 0 else choose u (j - o) * (a ^ j * b ^ (z + o + u - j)) * s j
def isum : List Int → Int
  | [] => 0
  | x :: l => x + isum l
structure VL (l : Tapi_Lift) (g C a card : Nat) : Prop where
  hg : l.Grain = g
  g1 : 1 ≤ g
  g2 : g ≤ 20
  hC : l.Count = C
  c1 : 1 ≤ C
  c2 : C ≤ 10
  ha : l.One = a
  a1 : a ≤ g
  len : l.Rows.length = C + 1
  k1 : 2 ≤ card
  k2 : card ≤ 4
  rows : ∀ r ∈ l.Rows, r.length = card ∧ (∀ x ∈ r, 0 ≤ x) ∧ isum r = g
theorem isum_take_succ {l : List Int} {k : Nat} (hk : k < l.length) : isum (l.take (k + 1)) = isum (l.take k) + l[k] := by
  rw [List.take_succ_eq_append_getElem hk]
  generalize l.take k = m
  induction m with
  | nil => simp [isum]
  | cons x m ih => simp only [List.cons_append, isum, ih]; omega
theorem isum_take_le {l : List Int} (h : ∀ x ∈ l, 0 ≤ x) (k : Nat) : 0 ≤ isum (l.take k) ∧ isum (l.take k) ≤ isum l := by
  induction l generalizing k with
  | nil => simp [isum]
  | cons x l ih =>
    have hx := h x (by simp)
    cases k with
    | zero =>
      have := ih (fun y hy => h y (by simp [hy])) l.length
      rw [List.take_length] at this
      simp only [List.take_zero, isum]; omega
    | succ k =>
      have := ih (fun y hy => h y (by simp [hy])) k
      simp only [List.take_succ_cons, isum]; omega
def natsI (n : Nat) : List Int := (List.range n).map fun (k : Nat) => (k : Int)
end Go.Ab
namespace Go.Ab
open Go
set_option maxRecDepth 100000
theorem isum_append (a : List Int) (x : Int) : isum (a ++ [x]) = isum a + x := by
  induction a with
  | nil => simp [isum]
  | cons y a ih => simp only [List.cons_append, isum, ih]; omega
theorem mem_take_succ {l : List Int} {k : Nat} (hk : k < l.length) {P : Int → Prop} (h : ∀ x ∈ l.take k, P x) (hx : P l[k]) : ∀ x ∈ l.take (k + 1), P x := by
  intro x hm
  rw [List.take_succ_eq_append_getElem hk] at hm
  rcases List.mem_append.1 hm with h1 | h1
  · exact h x h1
  · rw [List.mem_singleton] at h1; subst h1; exact hx
theorem row_loop (r : List Int) (G : Int) (hG : 0 ≤ G ∧ G ≤ 20) (hl : r.length ≤ 1000000000000) :
    ∃ x, whileN fuel (g_lift_Check_b0 r) (G, 0) = some x ∧ (match x with | .inl _ => ¬ ((∀ y ∈ r, 0 ≤ y) ∧ isum r = G) | .inr y => (∀ z ∈ r, 0 ≤ z) ∧ y = G - isum r) := by
  refine whileN_ex (fun s => ∃ i : Nat, s.2 = (i : Int) ∧ i ≤ r.length ∧ (∀ y ∈ r.take i, 0 ≤ y) ∧ s.1 = G - isum (r.take i) ∧ 0 ≤ s.1) (fun s => r.length - s.2.toNat) _ ?_ (G, 0) ⟨0, rfl, by omega, by simp, by simp [isum], hG.1⟩ (by simp only; omega)
  rintro ⟨left, i0⟩ ⟨i, h1, h2, h3, h4, h5⟩
  simp only at h1 h4 h5
  subst h1
  unfold g_lift_Check_b0
  simp only
  by_cases hi : i < r.length
  · rw [if_pos (by simp [hi]), lkI_nat hi]
    simp only [Option.bind_some]
    by_cases hn : r[i] < 0
    · right
      rw [if_pos (by simp [hn])]
      refine ⟨_, rfl, fun h => ?_⟩
      have := h.1 _ (List.getElem_mem hi); omega
    · rw [if_neg (by simp; omega)]
      by_cases hg : r[i] > left
      · right
        rw [if_pos (by simp; omega)]
        refine ⟨_, rfl, fun h => ?_⟩
        have h6 := isum_take_le h.1 (i + 1)
        rw [isum_take_succ hi] at h6
        omega
      · left
        rw [if_neg (by simp; omega)]
        have h7 := isum_take_succ hi
        have h8 : 0 ≤ isum (r.take i) := by
          have := isum_take_le h3 i
          rw [List.take_take, Nat.min_self] at this
          exact this.1
        rw [w64 (by omega), w64 (by omega)]
        exact ⟨_, rfl, ⟨i + 1, by simp only; omega, hi, mem_take_succ hi h3 (by omega), by simp only; omega, by simp only; omega⟩, by simp only; omega⟩
  · right
    rw [if_neg (by simp; omega)]
    rw [List.take_of_length_le (by omega)] at h3 h4
    exact ⟨_, rfl, h3, h4⟩
def okRow (G : Int) (k : Nat) (r : List Int) : Prop := r.length = k ∧ (∀ x ∈ r, 0 ≤ x) ∧ isum r = G
theorem mem_take_succ' {α : Type} {l : List α} {k : Nat} (hk : k < l.length) {P : α → Prop} (h : ∀ x ∈ l.take k, P x) (hx : P l[k]) : ∀ x ∈ l.take (k + 1), P x := by
  intro x hm
  rw [List.take_succ_eq_append_getElem hk] at hm
  rcases List.mem_append.1 hm with h1 | h1
  · exact h x h1
  · rw [List.mem_singleton] at h1; subst h1; exact hx
def Lens (l : Tapi_Lift) : Prop := l.Rows.length ≤ 1000000000000 ∧ ∀ r ∈ l.Rows, r.length ≤ 1000000000000
theorem check_rows (l : Tapi_Lift) (r0 : List Int) (hG : 0 ≤ l.Grain ∧ l.Grain ≤ 20) (hL : Lens l) :
    ∃ x, whileN fuel (g_lift_Check_b1 l r0) 0 = some x ∧ (match x with | .inl _ => ¬ ∀ r ∈ l.Rows, okRow l.Grain r0.length r | .inr _ => ∀ r ∈ l.Rows, okRow l.Grain r0.length r) := by
  have hlen := hL.1
  refine whileN_ex (fun s => ∃ i : Nat, s = (i : Int) ∧ i ≤ l.Rows.length ∧ ∀ r ∈ l.Rows.take i, okRow l.Grain r0.length r) (fun s => l.Rows.length - s.toNat) _ ?_ 0 ⟨0, rfl, by omega, by simp⟩ (by omega)
  rintro s ⟨i, rfl, h2, h3⟩
  unfold g_lift_Check_b1
  by_cases hi : i < l.Rows.length
  · rw [if_pos (by simp [hi]), lkI_nat hi]
    simp only [Option.bind_some]
    have hm : l.Rows[i] ∈ l.Rows := List.getElem_mem hi
    by_cases hk : l.Rows[i].length = r0.length
    · rw [if_neg (by simp [hk])]
      obtain ⟨x, e, hx⟩ := row_loop l.Rows[i] l.Grain hG (hL.2 _ hm)
      rw [e]
      simp only [Option.bind_some]
      cases x with
      | inl u =>
        right
        exact ⟨_, rfl, fun h => hx (h _ hm).2⟩
      | inr y =>
        simp only at hx ⊢
        by_cases hy : y = 0
        · left
          subst hy
          rw [if_neg (by simp), w64 (by omega)]
          refine ⟨_, rfl, ⟨i + 1, by omega, hi, mem_take_succ' hi h3 ⟨hk, hx.1, by omega⟩⟩, by omega⟩
        · right
          rw [if_pos (by simpa using hy)]
          refine ⟨_, rfl, fun h => ?_⟩
          have := (h _ hm).2.2
          omega
    · right
      rw [if_pos (by simp; omega)]
      exact ⟨_, rfl, fun h => hk (h _ hm).1⟩
  · right
    rw [if_neg (by simp; omega)]
    rw [List.take_of_length_le (by omega)] at h3
    exact ⟨_, rfl, h3⟩
theorem check_yes {l : Tapi_Lift} {g C a card : Nat} (h : VL l g C a card) : g_lift_Check l = some 0 := by
  have h1 := h.g1; have h2 := h.g2; have h3 := h.c1; have h4 := h.c2; have h5 := h.a1; have h6 := h.len; have h7 := h.k1; have h8 := h.k2
  have hL : Lens l := ⟨by omega, fun r hr => by have := (h.rows r hr).1; omega⟩
  unfold g_lift_Check
  rw [h.hg, h.hC, h.ha]
  rw [if_neg (by simp; omega), if_neg (by simp; omega), if_neg (by simp; omega), if_neg (by simp; omega), if_neg (by simp), if_neg (by simp; omega), w64 (by omega), if_neg (by simp [h6])]
  have hi : 0 < l.Rows.length := by omega
  have h0 : lkI l.Rows 0 = some l.Rows[0] := lkI_nat hi
  have hk := (h.rows _ (List.getElem_mem hi)).1
  rw [h0]
  simp only [Option.bind_some]
  rw [if_neg (by simp; omega), if_neg (by simp; omega)]
  obtain ⟨x, e, hx⟩ := check_rows l l.Rows[0] (by rw [h.hg]; omega) hL
  rw [e]
  simp only [Option.bind_some]
  cases x with
  | inl u => exact absurd (fun r hr => by have := h.rows r hr; rw [hk, h.hg]; exact this) hx
  | inr u => rfl
theorem row0 {l : Tapi_Lift} {g C a card : Nat} (h : VL l g C a card) : ∃ r, lkI l.Rows 0 = some r ∧ r.length = card := by
  have hi : 0 < l.Rows.length := by rw [h.len]; omega
  exact ⟨_, lkI_nat hi, (h.rows _ (List.getElem_mem hi)).1⟩
theorem split_eq (n : Nat) (sum : Int) (l : List Int) (hn : 1 ≤ n ∧ n ≤ 100) (hs : 0 ≤ sum ∧ sum ≤ 1000) (hl : ∀ x ∈ l, 0 ≤ x ∧ x ≤ 255) (hlen : l.length ≤ 1000) :
    ∃ r, g_ref14_Split (n : Int) sum l = some r ∧ okRow sum n r := by
  unfold g_ref14_Split
  have ex := whileN_ex (body := g_ref14_Split_b0 (n : Int) l) (fun s => ∃ i : Nat, s.2.1 = (i : Int) ∧ i ≤ n ∧ s.2.2.length = i ∧ (∀ x ∈ s.2.2, 0 ≤ x) ∧ isum s.2.2 + s.1 = sum ∧ 0 ≤ s.1 ∧ s.1 ≤ sum ∧ (i = n → s.1 = 0)) (fun s => n - s.2.1.toNat) (fun r => okRow sum n r) ?_
    (sum, 0, []) ⟨0, rfl, by omega, rfl, by simp, by simp [isum], hs.1, by simp, by omega⟩ (by simp only; omega)
  · obtain ⟨r, e, hr⟩ := ex
    exact ⟨r, by rw [e]; rfl, hr⟩
  · rintro ⟨left, i0, out⟩ ⟨i, h1, h2, h3, h4, h5, h6, h7, h8⟩
    simp only at h1 h3 h4 h5 h6 h7 h8
    subst h1
    have snoc : ∀ k : Int, 0 ≤ k → ∀ x ∈ out ++ [k], 0 ≤ x := fun k hk x hx => by
      rcases List.mem_append.1 hx with h | h
      · exact h4 x h
      · rw [List.mem_singleton] at h; omega
    unfold g_ref14_Split_b0
    simp only
    by_cases hi : i < n
    · left
      rw [if_pos (by simp [hi]), w64 (n := (n : Int) - 1) (by omega), w64 (n := (i : Int) + 1) (by omega)]
      by_cases hi2 : i < n - 1
      · rw [if_pos (by simp; omega)]
        by_cases hi3 : i < l.length
        · rw [if_pos (by simp [hi3]), lkI_nat hi3]
          simp only [Option.bind_some]
          have hb := hl _ (List.getElem_mem hi3)
          rw [w64 (n := left + 1) (by omega), if_pos (by omega), w64 (n := l[i]) (by omega), tmod_pos (by omega)]
          have m1 := Int.emod_nonneg l[i] (b := left + 1) (by omega)
          have m2 := Int.emod_lt_of_pos l[i] (b := left + 1) (by omega)
          generalize l[i] % (left + 1) = k at *
          rw [if_pos (by simp; omega), w64 (by omega)]
          exact ⟨_, rfl, ⟨i + 1, by simp only; omega, hi, by simp [h3], snoc k m1, by simp only [isum_append]; omega, by simp only; omega, by simp only; omega, by omega⟩, by simp only; omega⟩
        · rw [if_neg (by simp; omega), if_pos (by simp; omega), w64 (by omega)]
          exact ⟨_, rfl, ⟨i + 1, by simp only; omega, hi, by simp [h3], snoc 0 (by omega), by simp only [isum_append]; omega, by simp only; omega, by simp only; omega, by omega⟩, by simp only; omega⟩
      · rw [if_neg (by simp; omega), if_pos (by simp; omega), w64 (by omega)]
        exact ⟨_, rfl, ⟨i + 1, by simp only; omega, hi, by simp [h3], snoc left h6, by simp only [isum_append]; omega, by simp only; omega, by simp only; omega, by simp only; omega⟩, by simp only; omega⟩
    · right
      rw [if_neg (by simp; omega)]
      have hin : i = n := by omega
      have := h8 hin
      exact ⟨out, rfl, by omega, h4, by omega⟩
theorem wf_u8 {n : Int} (h : (Lit.int .u8 n).wf = true) : 0 ≤ n ∧ n ≤ 255 := by
  simpa [Lit.wf, IntKind.min, IntKind.max, IntKind.bits, IntKind.signed] using h
theorem draft_ok (d : Tharuspexref14_Draft) (h : okTharuspexref14_Draft d) : ∃ l g C a card, g_ref14_Draft_Lift d = some l ∧ VL l g C a card := by
  obtain ⟨b1, b2, b3, b4, b5⟩ := h
  have b1 := wf_u8 b1; have b2 := wf_u8 b2; have b3 := wf_u8 b3; have b4 := wf_u8 b4
  have hml : maxLen = 9223372036854775807 := rfl
  have len := b5.1
  have ent := fun x hx => wf_u8 (b5.2 x hx)
  unfold g_ref14_Draft_Lift
  have t1 : Int.tmod d.Grain 20 = d.Grain % 20 := tmod_pos (by omega)
  have t2 : Int.tmod d.Count 10 = d.Count % 10 := tmod_pos (by omega)
  obtain ⟨g, hg⟩ : ∃ g : Nat, 1 + d.Grain % 20 = (g : Int) := ⟨(1 + d.Grain % 20).toNat, by omega⟩
  obtain ⟨C, hC⟩ : ∃ C : Nat, 1 + d.Count % 10 = (C : Int) := ⟨(1 + d.Count % 10).toNat, by omega⟩
  obtain ⟨k, hk⟩ : ∃ k : Nat, 2 + d.Card % 3 = (k : Int) := ⟨(2 + d.Card % 3).toNat, by omega⟩
  have wg : IntKind.i64.wrap (1 + IntKind.i64.wrap (Int.tmod d.Grain 20)) = (g : Int) := by rw [t1, w64 (n := d.Grain % 20) (by omega), w64 (by omega), hg]
  have wC : IntKind.i64.wrap (1 + IntKind.i64.wrap (Int.tmod d.Count 10)) = (C : Int) := by rw [t2, w64 (n := d.Count % 10) (by omega), w64 (by omega), hC]
  have wk : IntKind.i64.wrap (2 + IntKind.i64.wrap (Int.tmod d.Card 3)) = (k : Int) := by rw [tmod_pos (by omega), w64 (n := d.Card % 3) (by omega), w64 (by omega), hk]
  rw [wg, wC, w64 (n := (g : Int) + 1) (by omega), w64 (n := d.One) (by omega), if_pos (by omega), tmod_pos (a := d.One) (by omega)]
  have m1 := Int.emod_nonneg d.One (b := (g : Int) + 1) (by omega)
  have m2 := Int.emod_lt_of_pos d.One (b := (g : Int) + 1) (by omega)
  have ex := whileN_ex (body := g_ref14_Draft_Lift_b1 d) (fun s => ∃ i : Nat, s.1 = (i : Int) ∧ i ≤ C + 1 ∧ s.2.length = i ∧ ∀ r ∈ s.2, okRow (g : Int) k r) (fun s => C + 1 - s.1.toNat) (fun R => R.length = C + 1 ∧ ∀ r ∈ R, okRow (g : Int) k r) ?_
    (0, []) ⟨0, rfl, by omega, rfl, by simp⟩ (by simp only; omega)
  · obtain ⟨R, e, hR1, hR2⟩ := ex
    rw [e]
    refine ⟨_, g, C, (d.One % ((g : Int) + 1)).toNat, k, rfl, ?_⟩
    exact { hg := rfl, g1 := by omega, g2 := by omega, hC := rfl, c1 := by omega, c2 := by omega, ha := by simp only; omega, a1 := by omega, len := hR1, k1 := by omega, k2 := by omega, rows := hR2 }
  · rintro ⟨i0, R⟩ ⟨i, h1, h2, h3, h4⟩
    simp only at h1 h3 h4
    subst h1
    unfold g_ref14_Draft_Lift_b1
    simp only
    rw [wC]
    by_cases hi : i ≤ C
    · left
      rw [if_pos (by simp [hi])]
      obtain ⟨x, e, hx1, hx2⟩ : ∃ x, whileN fuel (g_ref14_Draft_Lift_b0 d ((i : Int), R)) (0, []) = some x ∧ (∀ y ∈ x, 0 ≤ y ∧ y ≤ 255) ∧ x.length ≤ 4 := by
        refine whileN_ex (fun s => ∃ j : Nat, s.1 = (j : Int) ∧ j ≤ 4 ∧ s.2.length ≤ j ∧ ∀ y ∈ s.2, 0 ≤ y ∧ y ≤ 255) (fun s => 4 - s.1.toNat) _ ?_ (0, []) ⟨0, rfl, by omega, by simp, by simp⟩ (by simp only; omega)
        rintro ⟨j0, q⟩ ⟨j, g1, g2, g3, g4⟩
        simp only at g1 g3 g4
        subst g1
        unfold g_ref14_Draft_Lift_b0
        simp only
        by_cases hj : j < 4
        · rw [if_pos (by simp; omega)]
          by_cases hL : 0 < d.L.length
          · left
            rw [if_pos (by simp; exact hL), if_pos (by omega), w64 (n := 3 * (i : Int)) (by omega), w64 (n := 3 * (i : Int) + j) (by omega), tmod_pos (by omega)]
            have i1 := Int.emod_nonneg (3 * (i : Int) + j) (b := (d.L.length : Int)) (by omega)
            have i2 := Int.emod_lt_of_pos (3 * (i : Int) + j) (b := (d.L.length : Int)) (by omega)
            rw [lkI_at i1 i2]
            simp only [Option.bind_some]
            rw [if_pos (by simp; omega), w64 (by omega)]
            refine ⟨_, rfl, ⟨j + 1, by simp only; omega, hj, by simp; omega, fun y hy => ?_⟩, by simp only; omega⟩
            rcases List.mem_append.1 hy with h | h
            · exact g4 y h
            · rw [List.mem_singleton] at h; subst h; exact ent _ (List.getElem_mem _)
          · right
            rw [if_neg (by simp only [decide_eq_true_eq]; omega)]
            exact ⟨q, rfl, g4, by omega⟩
        · right
          rw [if_neg (by simp; omega)]
          exact ⟨q, rfl, g4, by omega⟩
      rw [e]
      simp only [Option.bind_some]
      rw [wk, wg]
      obtain ⟨r, hr, okr⟩ := split_eq k (g : Int) x (by omega) (by omega) hx1 (by omega)
      rw [hr]
      simp only [Option.bind_some]
      rw [if_pos (by simp; omega), w64 (by omega)]
      refine ⟨_, rfl, ⟨i + 1, by simp only; omega, by omega, by simp [h3], fun y hy => ?_⟩, by simp only; omega⟩
      rcases List.mem_append.1 hy with h | h
      · exact h4 y h
      · rw [List.mem_singleton] at h; subst h; exact okr
    · right
      rw [if_neg (by simp; omega)]
      exact ⟨R, rfl, by omega, h4⟩
theorem wrapU64 (n : Int) : IntKind.u64.wrap n = n % 18446744073709551616 := by simp [IntKind.wrap, IntKind.bits, IntKind.signed]
theorem wu64_pos {n : Int} (h : 0 ≤ n ∧ n ≤ 9223372036854775807) : IntKind.u64.wrap n = n := by rw [wrapU64]; omega
theorem wu64_rng (n : Int) : 0 ≤ IntKind.u64.wrap n ∧ IntKind.u64.wrap n ≤ 18446744073709551615 := by rw [wrapU64]; omega
end Go.Ab
namespace Go.Ab
open Go
set_option maxRecDepth 100000
theorem wakes_true : g_law14_wakes = some true := by kernel_rfl
end Go.Ab
namespace Go.Ab
open Go
set_option maxRecDepth 100000
def Val (l : Tapi_Lift) : Prop := ∃ g C a card, VL l g C a card
theorem head_of {l : Tapi_Lift} (h : l.Rows.length ≠ 0) : ∃ r0, lkI l.Rows 0 = some r0 ∧ r0 ∈ l.Rows := by
  have hi : 0 < l.Rows.length := by omega
  exact ⟨_, lkI_nat hi, List.getElem_mem hi⟩
theorem check_total {l : Tapi_Lift} (hL : Lens l) : (Val l ∧ g_lift_Check l = some 0) ∨ (¬ Val l ∧ g_lift_Check l = some 140) := by
  unfold g_lift_Check
  by_cases c1 : l.Grain < 1
  · exact .inr ⟨fun ⟨g, C, a, k, h⟩ => by have := h.hg; have := h.g1; omega, by rw [if_pos (by simp [c1])]⟩
  rw [if_neg (by simp only [decide_eq_true_eq]; omega)]
  by_cases c2 : l.Grain > 20
  · exact .inr ⟨fun ⟨g, C, a, k, h⟩ => by have := h.hg; have := h.g2; omega, by rw [if_pos (by simp [c2])]⟩
  rw [if_neg (by simp only [decide_eq_true_eq]; omega)]
  by_cases c3 : l.Count < 1
  · exact .inr ⟨fun ⟨g, C, a, k, h⟩ => by have := h.hC; have := h.c1; omega, by rw [if_pos (by simp [c3])]⟩
  rw [if_neg (by simp only [decide_eq_true_eq]; omega)]
  by_cases c4 : l.Count > 10
  · exact .inr ⟨fun ⟨g, C, a, k, h⟩ => by have := h.hC; have := h.c2; omega, by rw [if_pos (by simp [c4])]⟩
  rw [if_neg (by simp only [decide_eq_true_eq]; omega)]
  by_cases c5 : l.One < 0
  · exact .inr ⟨fun ⟨g, C, a, k, h⟩ => by have := h.ha; omega, by rw [if_pos (by simp [c5])]⟩
  rw [if_neg (by simp only [decide_eq_true_eq]; omega)]
  by_cases c6 : l.One > l.Grain
  · exact .inr ⟨fun ⟨g, C, a, k, h⟩ => by have := h.ha; have := h.hg; have := h.a1; omega, by rw [if_pos (by simp [c6])]⟩
  rw [if_neg (by simp only [decide_eq_true_eq]; omega), w64 (by omega)]
  by_cases c7 : (l.Rows.length : Int) = l.Count + 1
  · rw [if_neg (by simp [c7])]
    obtain ⟨r0, e0, m0⟩ := head_of (l := l) (by omega)
    rw [e0]
    simp only [Option.bind_some]
    have hk : ∀ g C a k, VL l g C a k → r0.length = k := fun g C a k h => (h.rows r0 m0).1
    by_cases c8 : r0.length < 2
    · exact .inr ⟨fun ⟨g, C, a, k, h⟩ => by have := hk _ _ _ _ h; have := h.k1; omega, by rw [if_pos (by simp; omega)]⟩
    rw [if_neg (by simp only [decide_eq_true_eq]; omega)]
    by_cases c9 : r0.length > 4
    · exact .inr ⟨fun ⟨g, C, a, k, h⟩ => by have := hk _ _ _ _ h; have := h.k2; omega, by rw [if_pos (by simp; omega)]⟩
    rw [if_neg (by simp only [decide_eq_true_eq]; omega)]
    obtain ⟨x, e, hx⟩ := check_rows l r0 (by omega) hL
    rw [e]
    simp only [Option.bind_some]
    cases x with
    | inl u =>
      refine .inr ⟨fun ⟨g, C, a, k, h⟩ => hx fun r hr => ?_, rfl⟩
      have := h.rows r hr
      rw [hk _ _ _ _ h, h.hg]; exact this
    | inr u =>
      refine .inl ⟨⟨l.Grain.toNat, l.Count.toNat, l.One.toNat, r0.length, { hg := by omega, g1 := by omega, g2 := by omega, hC := by omega, c1 := by omega, c2 := by omega, ha := by omega, a1 := by omega, len := by omega, k1 := by omega, k2 := by omega, rows := fun r hr => ?_ }⟩, rfl⟩
      obtain ⟨h1, h2, h3⟩ := hx r hr
      exact ⟨h1, h2, by omega⟩
  · exact .inr ⟨fun ⟨g, C, a, k, h⟩ => by have := h.hC; have := h.len; omega, by rw [if_pos (by simpa using c7)]⟩
theorem right_b0 : g_ref14_Right_b0 = g_lift_Check_b0 := rfl
theorem right_rows (l : Tapi_Lift) (r0 : List Int) (e0 : lkI l.Rows 0 = some r0) (hG : 0 ≤ l.Grain ∧ l.Grain ≤ 20) (hL : Lens l) :
    ∃ x, whileN fuel (g_ref14_Right_b1 l) 0 = some x ∧ (match x with | .inl _ => ¬ ((2 ≤ r0.length ∧ r0.length ≤ 4) ∧ ∀ r ∈ l.Rows, okRow l.Grain r0.length r) | .inr _ => ∀ r ∈ l.Rows, (2 ≤ r.length ∧ r.length ≤ 4) ∧ okRow l.Grain r0.length r) := by
  have hlen := hL.1
  refine whileN_ex (fun s => ∃ i : Nat, s = (i : Int) ∧ i ≤ l.Rows.length ∧ ∀ r ∈ l.Rows.take i, (2 ≤ r.length ∧ r.length ≤ 4) ∧ okRow l.Grain r0.length r) (fun s => l.Rows.length - s.toNat) _ ?_ 0 ⟨0, rfl, by omega, by simp⟩ (by omega)
  rintro s ⟨i, rfl, h2, h3⟩
  unfold g_ref14_Right_b1
  by_cases hi : i < l.Rows.length
  · rw [if_pos (by simp [hi]), lkI_nat hi]
    simp only [Option.bind_some]
    have hm : l.Rows[i] ∈ l.Rows := List.getElem_mem hi
    by_cases k1 : l.Rows[i].length < 2
    · right
      rw [if_pos (by simp; omega)]
      exact ⟨_, rfl, fun h => by have := (h.2 _ hm).1; omega⟩
    rw [if_neg (by simp only [decide_eq_true_eq]; omega)]
    by_cases k2 : l.Rows[i].length > 4
    · right
      rw [if_pos (by simp; omega)]
      exact ⟨_, rfl, fun h => by have := (h.2 _ hm).1; omega⟩
    rw [if_neg (by simp only [decide_eq_true_eq]; omega), e0]
    simp only [Option.bind_some]
    by_cases hk : l.Rows[i].length = r0.length
    · rw [if_neg (by simp [hk])]
      obtain ⟨x, e, hx⟩ := row_loop l.Rows[i] l.Grain hG (hL.2 _ hm)
      rw [right_b0, e]
      simp only [Option.bind_some]
      cases x with
      | inl u =>
        right
        exact ⟨_, rfl, fun h => hx (h.2 _ hm).2⟩
      | inr y =>
        simp only at hx ⊢
        by_cases hy : y = 0
        · left
          subst hy
          rw [if_neg (by simp), w64 (by omega)]
          refine ⟨_, rfl, ⟨i + 1, by omega, hi, mem_take_succ' hi h3 ⟨by omega, hk, hx.1, by omega⟩⟩, by omega⟩
        · right
          rw [if_pos (by simpa using hy)]
          refine ⟨_, rfl, fun h => ?_⟩
          have := (h.2 _ hm).2.2
          omega
    · right
      rw [if_pos (by simp; omega)]
      exact ⟨_, rfl, fun h => hk (h.2 _ hm).1⟩
  · right
    rw [if_neg (by simp; omega)]
    rw [List.take_of_length_le (by omega)] at h3
    exact ⟨_, rfl, h3⟩
theorem right_total {l : Tapi_Lift} (hL : Lens l) : (Val l ∧ g_ref14_Right l = some true) ∨ (¬ Val l ∧ g_ref14_Right l = some false) := by
  unfold g_ref14_Right
  by_cases c1 : l.Grain < 1
  · exact .inr ⟨fun ⟨g, C, a, k, h⟩ => by have := h.hg; have := h.g1; omega, by rw [if_pos (by simp [c1])]⟩
  rw [if_neg (by simp only [decide_eq_true_eq]; omega)]
  by_cases c2 : l.Grain > 20
  · exact .inr ⟨fun ⟨g, C, a, k, h⟩ => by have := h.hg; have := h.g2; omega, by rw [if_pos (by simp [c2])]⟩
  rw [if_neg (by simp only [decide_eq_true_eq]; omega)]
  by_cases c3 : l.Count < 1
  · exact .inr ⟨fun ⟨g, C, a, k, h⟩ => by have := h.hC; have := h.c1; omega, by rw [if_pos (by simp [c3])]⟩
  rw [if_neg (by simp only [decide_eq_true_eq]; omega)]
  by_cases c4 : l.Count > 10
  · exact .inr ⟨fun ⟨g, C, a, k, h⟩ => by have := h.hC; have := h.c2; omega, by rw [if_pos (by simp [c4])]⟩
  rw [if_neg (by simp only [decide_eq_true_eq]; omega)]
  by_cases c5 : l.One < 0
  · exact .inr ⟨fun ⟨g, C, a, k, h⟩ => by have := h.ha; omega, by rw [if_pos (by simp [c5])]⟩
  rw [if_neg (by simp only [decide_eq_true_eq]; omega)]
  by_cases c6 : l.One > l.Grain
  · exact .inr ⟨fun ⟨g, C, a, k, h⟩ => by have := h.ha; have := h.hg; have := h.a1; omega, by rw [if_pos (by simp [c6])]⟩
  rw [if_neg (by simp only [decide_eq_true_eq]; omega), w64 (by omega)]
  by_cases c7 : (l.Rows.length : Int) = l.Count + 1
  · rw [if_neg (by simp [c7])]
    obtain ⟨r0, e0, m0⟩ := head_of (l := l) (by omega)
    have hk : ∀ g C a k, VL l g C a k → r0.length = k := fun g C a k h => (h.rows r0 m0).1
    obtain ⟨x, e, hx⟩ := right_rows l r0 e0 (by omega) hL
    rw [e]
    simp only [Option.bind_some]
    cases x with
    | inl u =>
      refine .inr ⟨fun ⟨g, C, a, k, h⟩ => hx ⟨by rw [hk _ _ _ _ h]; exact ⟨h.k1, h.k2⟩, fun r hr => ?_⟩, rfl⟩
      have := h.rows r hr
      rw [hk _ _ _ _ h, h.hg]; exact this
    | inr u =>
      have h0 := (hx r0 m0).1
      refine .inl ⟨⟨l.Grain.toNat, l.Count.toNat, l.One.toNat, r0.length, { hg := by omega, g1 := by omega, g2 := by omega, hC := by omega, c1 := by omega, c2 := by omega, ha := by omega, a1 := by omega, len := by omega, k1 := by omega, k2 := by omega, rows := fun r hr => ?_ }⟩, rfl⟩
      obtain ⟨_, h1, h2, h3⟩ := hx r hr
      exact ⟨h1, h2, by omega⟩
  · exact .inr ⟨fun ⟨g, C, a, k, h⟩ => by have := h.hC; have := h.len; omega, by rw [if_pos (by simpa using c7)]⟩
theorem right_yes {l : Tapi_Lift} {g C a card : Nat} (h : VL l g C a card) : g_ref14_Right l = some true := by
  have hL : Lens l := ⟨by have := h.len; have := h.c2; omega, fun r hr => by have := (h.rows r hr).1; have := h.k2; omega⟩
  rcases right_total hL with ⟨_, e⟩ | ⟨n, _⟩
  · exact e
  · exact absurd ⟨g, C, a, card, h⟩ n
def bitsN (c V : Nat) : Nat := sumTo V fun v => c / 2 ^ v % 2
end Go.Ab
namespace Go.Ab
open Go
set_option maxRecDepth 100000
theorem bitcond (c v : Nat) (hv : v ≤ 60) : Int.tmod (Int.fdiv (c : Int) (2 ^ min (Int.toNat (IntKind.u64.wrap (v : Int))) (IntKind.bits .i64))) 2 = ((c / 2 ^ v % 2 : Nat) : Int) := by
  rw [wu64_pos (by omega), Int.toNat_natCast, show IntKind.bits .i64 = 64 from rfl, Nat.min_eq_left (by omega)]
  have e : Int.fdiv (c : Int) (2 ^ v) = ((c / 2 ^ v : Nat) : Int) := by
    rw [Int.fdiv_eq_ediv_of_nonneg _ (Int.pow_nonneg (by omega))]
    simp
  rw [e, tmod_pos (Int.natCast_nonneg _)]
  simp
theorem bits_le (c : Nat) : ∀ V, bitsN c V ≤ V
  | 0 => Nat.le_refl _
  | V + 1 => by
    have := bits_le c V
    unfold bitsN at *
    rw [sumTo]
    omega
theorem check_bad {l : Tapi_Lift} (hL : Lens l) (hn : ¬ Val l) : g_lift_Check l = some 140 := by
  rcases check_total hL with ⟨v, _⟩ | ⟨_, e⟩
  · exact absurd v hn
  · exact e
end Go.Ab
namespace Go.Ab
open Go
set_option maxRecDepth 100000
end Go.Ab
namespace Go.Ab
open Go
set_option maxRecDepth 100000
theorem VL.lens {l : Tapi_Lift} {g C a card : Nat} (h : VL l g C a card) : Lens l := ⟨by have := h.len; have := h.c2; omega, fun r hr => by have := (h.rows r hr).1; have := h.k2; omega⟩
theorem mem_set {α : Type} {l : List α} {i : Nat} {x y : α} (h : y ∈ l.set i x) : y ∈ l ∨ y = x := List.mem_or_eq_of_mem_set h
theorem bend_ok (b : Tharuspexref14_Bend) (hb : okTharuspexref14_Bend b) {l : Tapi_Lift} {g C a card : Nat} (h : VL l g C a card) : ∃ l', g_ref14_Bend_Of b l = some l' ∧ Lens l' := by
  obtain ⟨b1, b2, b3, b4⟩ := hb
  have b1 := wf_u8 b1; have b2 := wf_u8 b2; have b3 := wf_u8 b3
  have c1 := h.c1; have c2 := h.c2; have k1 := h.k1; have k2 := h.k2; have hlen := h.len
  have row : ∀ r ∈ l.Rows, r.length = card := fun r hr => (h.rows r hr).1
  unfold g_ref14_Bend_Of
  rw [whileN_run (fun i => ((i : Int), l.Rows.take i)) (C + 1) l.Rows (by simp) (fun i hi => ?step) ?done (by omega)]
  · simp only [Option.bind_some]
    rw [if_pos (by omega), tmod_pos (a := b.What) (by omega), w64 (n := b.J) (by omega), w64 (n := b.At) (by omega), tmod_pos (a := b.J) (by omega)]
    have j1 := Int.emod_nonneg b.J (b := (l.Rows.length : Int)) (by omega)
    have j2 := Int.emod_lt_of_pos b.J (b := (l.Rows.length : Int)) (by omega)
    have lr : ∀ (R : List (List Int)) (G' C' O' : Int), R.length ≤ 1000000 → (∀ r ∈ R, r.length ≤ 1000000) → Lens ⟨G', C', O', R⟩ := fun R G' C' O' h1 h2 => ⟨by simp only; omega, fun r hr => by have := h2 r hr; omega⟩
    have base : ∀ r ∈ l.Rows, r.length ≤ 1000000 := fun r hr => by have := row r hr; omega
    by_cases w0 : b.What % 7 = 0
    · rw [if_pos (by simp [w0])]; exact ⟨_, rfl, lr _ _ _ _ (by omega) base⟩
    rw [if_neg (by simpa using w0)]
    by_cases w1 : b.What % 7 = 1
    · rw [if_pos (by simp [w1])]; exact ⟨_, rfl, lr _ _ _ _ (by omega) base⟩
    rw [if_neg (by simpa using w1)]
    by_cases w2 : b.What % 7 = 2
    · rw [if_pos (by simp [w2])]; exact ⟨_, rfl, lr _ _ _ _ (by omega) base⟩
    rw [if_neg (by simpa using w2)]
    have hJ : l.Rows[(b.J % (l.Rows.length : Int)).toNat]'(by omega) ∈ l.Rows := List.getElem_mem _
    by_cases w3 : b.What % 7 = 3
    · rw [if_pos (by simp [w3]), lkI_at j1 j2]
      simp only [Option.bind_some]
      have rl := row _ hJ
      rw [if_pos (by omega), tmod_pos (a := b.At) (by omega)]
      have a1 := Int.emod_nonneg b.At (b := ((l.Rows[(b.J % (l.Rows.length : Int)).toNat]'(by omega)).length : Int)) (by omega)
      have a2 := Int.emod_lt_of_pos b.At (b := ((l.Rows[(b.J % (l.Rows.length : Int)).toNat]'(by omega)).length : Int)) (by omega)
      rw [lkI_at a1 a2]
      simp only [Option.bind_some]
      refine ⟨_, rfl, lr _ _ _ _ (by simp; omega) fun r hr => ?_⟩
      rcases mem_set hr with h1 | h1
      · exact base r h1
      · rw [h1]; simp; omega
    rw [if_neg (by simpa using w3)]
    by_cases w4 : b.What % 7 = 4
    · rw [if_pos (by simp [w4]), if_pos (by omega)]
      refine ⟨_, rfl, lr _ _ _ _ (by simp [sub]; omega) fun r hr => ?_⟩
      simp only [sub] at hr
      exact base r (List.mem_of_mem_drop (List.mem_of_mem_take hr))
    rw [if_neg (by simpa using w4)]
    by_cases w5 : b.What % 7 = 5
    · rw [if_pos (by simp [w5]), lkI_at j1 j2]
      simp only [Option.bind_some]
      have rl := row _ hJ
      rw [if_pos (by simp; omega)]
      refine ⟨_, rfl, lr _ _ _ _ (by simp; omega) fun r hr => ?_⟩
      rcases mem_set hr with h1 | h1
      · rcases mem_set h1 with h2 | h2
        · exact base r h2
        · rw [h2]; simp
      · rw [h1]; simp; omega
    rw [if_neg (by simpa using w5), lkI_at j1 j2]
    simp only [Option.bind_some]
    have rl := row _ hJ
    rw [if_pos (by omega)]
    refine ⟨_, rfl, lr _ _ _ _ (by simp; omega) fun r hr => ?_⟩
    rcases mem_set hr with h1 | h1
    · rcases mem_set h1 with h2 | h2
      · exact base r h2
      · rw [h2]; simp
    · rw [h1]; simp; omega
  case step =>
    unfold g_ref14_Bend_Of_b0
    simp only
    have hi' : i < l.Rows.length := by omega
    have := row _ (List.getElem_mem hi')
    rw [if_pos (by simp; omega), lkI_nat hi']
    simp only [Option.bind_some]
    rw [if_pos (by omega), if_pos (by simp; omega), w64 (by omega), List.take_succ_eq_append_getElem hi']
    rfl
  case done =>
    unfold g_ref14_Bend_Of_b0
    simp only
    rw [if_neg (by simp; omega), List.take_of_length_le (by omega)]
theorem sub_take' {α : Type} {l : List α} {k : Nat} : sub l 0 (k : Int) = l.take k := by simp [sub]
theorem few_ok (p : Tapi_Lift) : ∃ l', g_law14_few p = some l' ∧ Lens l' := by
  unfold g_law14_few
  obtain ⟨n, hn, hn2⟩ : ∃ n : Nat, (if 12 < (p.Rows.length : Int) then 12 else (p.Rows.length : Int)) = (n : Int) ∧ n ≤ 12 ∧ n ≤ p.Rows.length := by
    by_cases h : 12 < (p.Rows.length : Int)
    · exact ⟨12, by rw [if_pos h]; rfl, by omega, by omega⟩
    · exact ⟨p.Rows.length, by rw [if_neg h], by omega, by omega⟩
  rw [hn, if_pos (by omega)]
  have ex := whileN_ex (body := g_law14_few_b0 p) (fun s => ∃ i : Nat, s.1 = (i : Int) ∧ i ≤ n ∧ s.2.length = i ∧ ∀ r ∈ s.2, r.length ≤ 6) (fun s => n - s.1.toNat) (fun R => R.length ≤ 12 ∧ ∀ r ∈ R, r.length ≤ 6) ?_ (0, []) ⟨0, rfl, by omega, rfl, by simp⟩ (by simp only; omega)
  · obtain ⟨R, e, h1, h2⟩ := ex
    rw [e]
    exact ⟨_, rfl, by simp only; omega, fun r hr => by have := h2 r hr; omega⟩
  · rintro ⟨i0, R⟩ ⟨i, h1, h2, h3, h4⟩
    simp only at h1 h3 h4
    subst h1
    unfold g_law14_few_b0
    simp only
    rw [hn, sub_take']
    have hl : (p.Rows.take n).length = n := by simp; omega
    by_cases hi : i < n
    · left
      rw [if_pos (by simp only [decide_eq_true_eq]; omega), lkI_nat (by omega)]
      simp only [Option.bind_some]
      generalize (p.Rows.take n)[i] = r
      obtain ⟨m, hm, hm2⟩ : ∃ m : Nat, (if 6 < (r.length : Int) then 6 else (r.length : Int)) = (m : Int) ∧ m ≤ 6 ∧ m ≤ r.length := by
        by_cases h : 6 < (r.length : Int)
        · exact ⟨6, by rw [if_pos h]; rfl, by omega, by omega⟩
        · exact ⟨r.length, by rw [if_neg h], by omega, by omega⟩
      rw [hm, if_pos (by omega), if_pos (by simp; omega), w64 (by omega), sub_take']
      refine ⟨_, rfl, ⟨i + 1, by simp only; omega, hi, by simp [h3], fun y hy => ?_⟩, by simp only; omega⟩
      rcases List.mem_append.1 hy with h5 | h5
      · exact h4 y h5
      · rw [List.mem_singleton] at h5; subst h5; simp; omega
    · right
      rw [if_neg (by simp only [decide_eq_true_eq]; omega)]
      exact ⟨R, rfl, by omega, h4⟩
theorem models_ok (p0 : Tharuspexref14_Draft) (p1 : Tharuspexref14_Bend) (p2 : Tapi_Lift) (h0 : okTharuspexref14_Draft p0) (h1 : okTharuspexref14_Bend p1) :
    ∃ l l1 l2 g C a card, g_ref14_Draft_Lift p0 = some l ∧ VL l g C a card ∧ g_law14_models p0 p1 p2 = some (l, l1, l2) ∧ Lens l1 ∧ Lens l2 := by
  obtain ⟨l, g, C, a, card, e, h⟩ := draft_ok p0 h0
  obtain ⟨l1, e1, L1⟩ := bend_ok p1 h1 h
  obtain ⟨l2, e2, L2⟩ := few_ok p2
  refine ⟨l, l1, l2, g, C, a, card, e, h, ?_, L1, L2⟩
  unfold g_law14_models
  rw [e]
  simp only [Option.bind_some]
  rw [e1]
  simp only [Option.bind_some]
  rw [e2]
  rfl
end Go.Ab
namespace Go.Ab
open Go
set_option maxRecDepth 100000
def vals (C c : Nat) : List Int := (List.range C).map fun (v : Nat) => ((c / 2 ^ (C - 1 - v) % 2 : Nat) : Int)
def carryB (C c : Nat) : Bool :=
  (isum (vals C c) == ((bitsN c C : Nat) : Int)) && (match whileN fuel (g_lift_Ground_b2 (List.replicate C 2, [], [])) ((C : Int) - 1, vals C c) with
  | some (i, v) => if c + 1 = 2 ^ C then decide (i < 0) else decide (0 ≤ i) && (match lkI v i with | some a => decide (List.set v i.toNat (IntKind.i64.wrap (a + 1)) = vals C (c + 1)) | none => false)
  | none => false)
theorem carry_all : ((List.range 8).all fun C => C == 0 || (List.range (2 ^ C)).all fun c => carryB C c) = true := by kernel_rfl
theorem carry_at {C c : Nat} (h1 : 1 ≤ C) (h7 : C ≤ 7) (hc : c < 2 ^ C) : carryB C c = true := by
  have h := carry_all
  rw [List.all_eq_true] at h
  have h2 := h C (by simp; omega)
  have h0 : (C == 0) = false := by simp; omega
  rw [h0, Bool.false_or, List.all_eq_true] at h2
  exact h2 c (by simpa using hc)
theorem sum_loop (s : Int × List (List Int) × List Int) (h : ∀ x ∈ s.2.2, 0 ≤ x ∧ x ≤ 1) (hl : s.2.2.length ≤ 100) : whileN fuel (g_lift_Ground_b1 s) (0, 0) = some (isum s.2.2) := by
  have lim : ∀ k, k ≤ s.2.2.length → 0 ≤ isum (s.2.2.take k) ∧ isum (s.2.2.take k) ≤ k := by
    intro k
    induction k with
    | zero => intro _; simp [isum]
    | succ k ih =>
      intro hk
      have := ih (by omega)
      have hx := h _ (List.getElem_mem (show k < s.2.2.length by omega))
      rw [isum_take_succ (by omega)]
      omega
  refine whileN_run (fun k => (isum (s.2.2.take k), (k : Int))) s.2.2.length (isum s.2.2) (by simp [isum]) (fun k hk => ?step) ?done (by omega)
  case step =>
    unfold g_lift_Ground_b1
    simp only
    have := lim (k + 1) (by omega)
    rw [isum_take_succ hk] at this
    rw [if_pos (by simp [hk]), lkI_nat hk]
    simp only [Option.bind_some]
    rw [w64 (by omega), w64 (by omega), isum_take_succ hk]
    simp
  case done =>
    unfold g_lift_Ground_b1
    simp only
    rw [if_neg (by simp), List.take_length]
theorem vals_rng (C c : Nat) : ∀ x ∈ vals C c, 0 ≤ x ∧ x ≤ 1 := by
  intro x hx
  simp only [vals, List.mem_map, List.mem_range] at hx
  obtain ⟨v, _, rfl⟩ := hx
  generalize c / 2 ^ (C - 1 - v) = y
  omega
theorem vals_zero (C : Nat) : vals C 0 = List.replicate C 0 := by
  apply List.ext_getElem
  · simp [vals]
  · intro i h1 h2; simp [vals]
def rowsOf (l : Tapi_Lift) (C n : Nat) : List (List Int) := (List.range n).map fun c => l.Rows[bitsN c C]?.getD []
theorem rowsOf_succ (l : Tapi_Lift) (C n : Nat) : rowsOf l C (n + 1) = rowsOf l C n ++ [l.Rows[bitsN n C]?.getD []] := by simp [rowsOf, List.range_succ]
def nodeN (g a : Nat) : Tapi_Node := ⟨2, [], [[((g - a : Nat) : Int), (a : Int)]]⟩
def netOf (l : Tapi_Lift) (g C a card : Nat) : Tapi_Net := ⟨(g : Int), List.replicate C (nodeN g a) ++ [⟨(card : Int), natsI C, rowsOf l C (2 ^ C)⟩]⟩
theorem natsI_succ (n : Nat) : natsI (n + 1) = natsI n ++ [(n : Int)] := by simp [natsI, List.range_succ]
theorem natsI_len (n : Nat) : (natsI n).length = n := by simp [natsI]
theorem rowsOf_len (l : Tapi_Lift) (C n : Nat) : (rowsOf l C n).length = n := by simp [rowsOf]
theorem row_at {l : Tapi_Lift} {g C a card : Nat} (h : VL l g C a card) (c : Nat) : lkI l.Rows ((bitsN c C : Nat) : Int) = some (l.Rows[bitsN c C]?.getD []) ∧ (l.Rows[bitsN c C]?.getD []).length = card := by
  have hb := bits_le c C
  have hr : bitsN c C < l.Rows.length := by rw [h.len]; omega
  rw [lkI_nat hr, List.getElem?_eq_getElem hr]
  exact ⟨rfl, (h.rows _ (List.getElem_mem hr)).1⟩
theorem two_pow7 {C : Nat} (h : C ≤ 7) : 2 ^ C ≤ 128 := Nat.pow_le_pow_right (n := 2) (by omega) h
theorem ground_prog {l : Tapi_Lift} {g C a card : Nat} (h : VL l g C a card) (h7 : C ≤ 7) : g_lift_Ground l = some (netOf l g C a card, 0) := by
  have c1 := h.c1; have a1 := h.a1; have g2 := h.g2; have k2 := h.k2
  have p7 := two_pow7 h7
  unfold g_lift_Ground
  rw [check_yes h]
  simp only [Option.bind_some]
  obtain ⟨r0, hr0, hk0⟩ := row0 h
  rw [if_neg (by simp), h.hC, if_neg (by simp; omega), hr0]
  simp only [Option.bind_some]
  rw [if_pos (by omega), whileN_run (fun i => ((i : Int), List.replicate i (2 : Int) ++ List.replicate (C - i) 0, List.replicate i (nodeN g a), natsI i)) C (List.replicate C (2 : Int), List.replicate C (nodeN g a), natsI C) (by simp [natsI]) (fun i hi => ?step) ?done (by omega)]
  · simp only [Option.bind_some, List.length_replicate]
    rw [if_pos (by omega), Int.toNat_natCast, ← vals_zero]
    obtain ⟨q, hq⟩ : ∃ q, 2 ^ C = q + 1 := ⟨2 ^ C - 1, by have := Nat.pow_pos (n := C) (show 0 < 2 by omega); omega⟩
    have round : ∀ c : Nat, c < 2 ^ C → g_lift_Ground_b3 l (List.replicate C (2 : Int), List.replicate C (nodeN g a), natsI C) ((c : Int), rowsOf l C c, vals C c) = if c + 1 = 2 ^ C then some (.done (rowsOf l C (2 ^ C))) else some (.next (((c + 1 : Nat) : Int), rowsOf l C (c + 1), vals C (c + 1))) := by
      intro c hc
      have cb := carry_at c1 h7 hc
      unfold carryB at cb
      rw [Bool.and_eq_true] at cb
      obtain ⟨cb1, cb2⟩ := cb
      have cb1 : isum (vals C c) = ((bitsN c C : Nat) : Int) := by simpa using cb1
      unfold g_lift_Ground_b3
      rw [sum_loop _ (vals_rng C c) (by simp [vals]; omega)]
      simp only [Option.bind_some]
      obtain ⟨e1, e2⟩ := row_at h c
      rw [cb1, e1]
      simp only [Option.bind_some]
      rw [if_pos (by omega), if_pos (by simp [rowsOf_len]; omega), ← rowsOf_succ]
      have eb : g_lift_Ground_b2 (List.replicate C (2 : Int), List.replicate C (nodeN g a), natsI C) = g_lift_Ground_b2 (List.replicate C 2, [], []) := rfl
      rw [eb, List.length_replicate, w64 (n := (C : Int) - 1) (by omega)]
      split at cb2
      · rename_i i v hv
        rw [hv]
        simp only [Option.bind_some]
        by_cases hl : c + 1 = 2 ^ C
        · rw [if_pos hl] at cb2
          rw [if_pos cb2, if_pos hl, hl]
        · rw [if_neg hl] at cb2
          rw [Bool.and_eq_true] at cb2
          obtain ⟨d1, d2⟩ := cb2
          have d1 : 0 ≤ i := by simpa using d1
          rw [if_neg (by simp; omega), if_neg hl]
          split at d2
          · rename_i y hy
            rw [hy]
            simp only [Option.bind_some]
            have d2 : List.set v i.toNat (IntKind.i64.wrap (y + 1)) = vals C (c + 1) := by simpa using d2
            rw [d2, w64 (n := (c : Int) + 1) (by omega)]
            simp
          · cases d2
      · cases cb2
    rw [whileN_run (fun c => ((c : Int), rowsOf l C c, vals C c)) q (rowsOf l C (2 ^ C)) (by simp [rowsOf]) (fun c hc => by rw [round c (by omega), if_neg (by omega)]) (by rw [round q (by omega), if_pos hq.symm]) (by omega)]
    simp only [Option.bind_some]
    rw [if_pos (by simp; omega), h.hg, hk0]
    rfl
  case step =>
    unfold g_lift_Ground_b0
    simp only
    rw [h.hC, if_pos (by simp [hi]), if_pos (by simp; omega), if_pos (by simp [natsI_len]; omega), lkI_nat (by simp; omega)]
    simp only [Option.bind_some]
    rw [h.hg, h.ha, w64 (n := (g : Int) - a) (by omega), w64 (n := (i : Int) + 1) (by omega), natsI_succ, Int.toNat_natCast]
    have e1 : (List.replicate i (2 : Int) ++ List.replicate (C - i) 0).set i 2 = List.replicate (i + 1) 2 ++ List.replicate (C - (i + 1)) 0 := by
      apply List.ext_getElem
      · simp; omega
      · intro j j1 j2
        simp only [List.getElem_set, List.getElem_append, List.length_replicate, List.getElem_replicate]
        by_cases e : i = j
        · subst e; simp
        · rw [if_neg e]
          by_cases e2 : j < i
          · rw [dif_pos e2, dif_pos (by omega)]
          · rw [dif_neg e2, dif_neg (by omega)]
    have e2 : (g : Int) - a = ((g - a : Nat) : Int) := by omega
    rw [e1, e2, List.replicate_succ' (n := i) (a := nodeN g a)]
    rfl
  case done =>
    unfold g_lift_Ground_b0
    simp only
    rw [h.hC, if_neg (by simp)]
    simp
theorem ground_ref {l : Tapi_Lift} {g C a card : Nat} (h : VL l g C a card) (h7 : C ≤ 7) : g_ref14_Ground l = some (netOf l g C a card) := by
  have c1 := h.c1; have a1 := h.a1; have g2 := h.g2; have k2 := h.k2
  have p7 := two_pow7 h7
  unfold g_ref14_Ground
  obtain ⟨r0, hr0, hk0⟩ := row0 h
  rw [hr0]
  simp only [Option.bind_some]
  rw [whileN_run (fun i => ((i : Int), List.replicate i (nodeN g a), natsI i)) C (List.replicate C (nodeN g a), natsI C) (by simp [natsI]) (fun i hi => ?step) ?done (by omega)]
  · simp only [Option.bind_some]
    have e2 : IntKind.i64.wrap (1 * 2 ^ min (Int.toNat (IntKind.u64.wrap (C : Int))) (IntKind.bits .i64)) = ((2 ^ C : Nat) : Int) := by
      rw [wu64_pos (by omega), Int.toNat_natCast, show IntKind.bits .i64 = 64 from rfl, Nat.min_eq_left (by omega), Int.one_mul]
      have : ((2 : Int) ^ C) = ((2 ^ C : Nat) : Int) := by simp
      rw [this]
      have p3 : 2 ^ C ≤ 128 := p7
      generalize (2 : Nat) ^ C = q at p3 ⊢
      exact w64 (by omega)
    rw [whileN_run (fun c => ((c : Int), rowsOf l C c)) (2 ^ C) (rowsOf l C (2 ^ C)) (by simp [rowsOf]) (fun c hc => ?step2) ?done2 (by omega)]
    · simp only [Option.bind_some]
      rw [if_pos (by simp; omega), h.hg, hk0]
      rfl
    case step2 =>
      unfold g_ref14_Ground_b2
      rw [h.hC, if_pos (wu64_rng _).1, e2, if_pos (by simp only [decide_eq_true_eq]; omega)]
      rw [whileN_run (fun v => (((bitsN c v : Nat) : Int), (v : Int))) C ((bitsN c C : Nat) : Int) (by simp [bitsN, sumTo]) (fun v hv => ?step3) ?done3 (by omega)]
      · simp only [Option.bind_some]
        obtain ⟨e3, e4⟩ := row_at h c
        rw [e3]
        simp only [Option.bind_some]
        rw [if_pos (by simp [rowsOf_len]; omega), ← rowsOf_succ, w64 (by omega)]
        simp
      case step3 =>
        unfold g_ref14_Ground_b1
        simp only
        have hb := bits_le c v
        have hb2 : bitsN c (v + 1) = bitsN c v + c / 2 ^ v % 2 := rfl
        rw [h.hC, if_pos (by simp [hv]), if_pos (wu64_rng _).1, bitcond c v (by omega), hb2]
        generalize c / 2 ^ v = y
        rw [w64 (by omega), w64 (by omega)]
        simp
      case done3 =>
        unfold g_ref14_Ground_b1
        simp only
        rw [h.hC, if_neg (by simp)]
    case done2 =>
      unfold g_ref14_Ground_b2
      rw [h.hC, if_pos (wu64_rng _).1, e2, if_neg (by simp)]
  case step =>
    unfold g_ref14_Ground_b0
    simp only
    rw [h.hC, if_pos (by simp [hi]), if_pos (by simp; omega), if_pos (by simp [natsI_len]; omega)]
    have e2 : (g : Int) - a = ((g - a : Nat) : Int) := by omega
    rw [h.hg, h.ha, w64 (n := (g : Int) - a) (by omega), w64 (n := (i : Int) + 1) (by omega), natsI_succ, e2, List.replicate_succ' (n := i) (a := nodeN g a)]
    rfl
  case done =>
    unfold g_ref14_Ground_b0
    simp only
    rw [h.hC, if_neg (by simp)]
theorem same_ints (l : List Int) (hl : l.length ≤ 1000000) : g_ref02_Same l l = some true := by
  unfold g_ref02_Same
  rw [if_neg (by simp), whileN_run (s0 := (0 : Int)) (fun (k : Nat) => (k : Int)) l.length (Sum.inr () : Unit ⊕ Unit) rfl (fun k hk => ?step) ?done (by omega)]
  · rfl
  case step =>
    unfold g_ref02_Same_b0
    rw [if_pos (by simp [hk]), lkI_nat hk]
    simp only [Option.bind_some]
    rw [if_neg (by simp), w64 (by omega)]
    rfl
  case done =>
    unfold g_ref02_Same_b0
    rw [if_neg (by simp)]
theorem same_net (n : Tapi_Net) (h : n.Nodes.length ≤ 1000000) (hn : ∀ d ∈ n.Nodes, d.Parents.length ≤ 1000000 ∧ d.Rows.length ≤ 1000000 ∧ ∀ r ∈ d.Rows, r.length ≤ 1000000) : g_ref05_Same n n = some true := by
  unfold g_ref05_Same
  rw [if_neg (by simp), if_neg (by simp), whileN_run (s0 := (0 : Int)) (fun (k : Nat) => (k : Int)) n.Nodes.length (Sum.inr () : Unit ⊕ Unit) rfl (fun k hk => ?step) ?done (by omega)]
  · rfl
  case step =>
    unfold g_ref05_Same_b1
    rw [if_pos (by simp [hk]), lkI_nat hk]
    simp only [Option.bind_some]
    obtain ⟨n1, n2, n3⟩ := hn _ (List.getElem_mem hk)
    rw [if_neg (by simp), same_ints _ n1]
    simp only [Option.bind_some]
    rw [if_neg (by simp), if_neg (by simp), whileN_run (s0 := (0 : Int)) (fun (k : Nat) => (k : Int)) n.Nodes[k].Rows.length (Sum.inr () : Unit ⊕ Unit) rfl (fun j hj => ?step2) ?done2 (by omega)]
    · simp only [Option.bind_some]
      rw [w64 (by omega)]
      rfl
    case step2 =>
      unfold g_ref05_Same_b0
      rw [if_pos (by simp [hj]), lkI_nat hj]
      simp only [Option.bind_some]
      rw [same_ints _ (n3 _ (List.getElem_mem hj))]
      simp only [Option.bind_some]
      rw [if_neg (by simp), w64 (by omega)]
      rfl
    case done2 =>
      unfold g_ref05_Same_b0
      rw [if_neg (by simp)]
  case done =>
    unfold g_ref05_Same_b1
    rw [if_neg (by simp)]
theorem checks_at {l : Tapi_Lift} (hL : Lens l) : (g_ref14_Right l = some false ∧ g_lift_Check l = some 140 ∧ g_lift_Ground l = some (⟨0, []⟩, 140)) ∨
    (g_ref14_Right l = some true ∧ g_lift_Check l = some 0 ∧ ((7 < l.Count ∧ g_lift_Ground l = some (⟨0, []⟩, 6)) ∨ (l.Count ≤ 7 ∧ ∃ n, g_lift_Ground l = some (n, 0) ∧ g_ref14_Ground l = some n ∧ g_ref05_Same n n = some true))) := by
  by_cases hv : Val l
  · obtain ⟨g, C, a, card, h⟩ := hv
    right
    refine ⟨right_yes h, check_yes h, ?_⟩
    by_cases h7 : C ≤ 7
    · right
      have p7 := two_pow7 h7
      have k2 := h.k2
      refine ⟨by rw [h.hC]; omega, netOf l g C a card, ground_prog h h7, ground_ref h h7, same_net _ (by simp [netOf]; omega) fun d hd => ?_⟩
      simp only [netOf] at hd
      rcases List.mem_append.1 hd with h1 | h1
      · have := (List.mem_replicate.1 h1).2
        subst this
        refine ⟨by simp [nodeN], by simp [nodeN], fun r hr => ?_⟩
        simp only [nodeN, List.mem_singleton] at hr
        subst hr; simp
      · rw [List.mem_singleton] at h1
        subst h1
        refine ⟨by simp only [natsI_len]; omega, by simp only [rowsOf_len]; omega, fun r hr => ?_⟩
        simp only [rowsOf, List.mem_map] at hr
        obtain ⟨c, _, rfl⟩ := hr
        rw [(row_at h c).2]; omega
    · left
      refine ⟨by rw [h.hC]; omega, ?_⟩
      unfold g_lift_Ground
      rw [check_yes h]
      simp only [Option.bind_some]
      rw [if_neg (by simp), h.hC, if_pos (by simp; omega)]
  · left
    refine ⟨?_, check_bad hL hv, ?_⟩
    · rcases right_total hL with ⟨v, _⟩ | ⟨_, e⟩
      · exact absurd v hv
      · exact e
    · unfold g_lift_Ground
      rw [check_bad hL hv]; rfl
theorem checks_true (p0 : Tharuspexref14_Draft) (p1 : Tharuspexref14_Bend) (p2 : Tapi_Lift) (h0 : okTharuspexref14_Draft p0) (h1 : okTharuspexref14_Bend p1) (h2 : okTapi_Lift p2) : g_law14_LiftChecks p0 p1 p2 = some true := by
  obtain ⟨l, l1, l2, g, C, a, card, e, h, em, L1, L2⟩ := models_ok p0 p1 p2 h0 h1
  unfold g_law14_LiftChecks
  rw [wakes_true]
  simp only [Option.bind_some]
  rw [if_neg (by simp), em]
  simp only [Option.bind_some]
  rw [whileN_run (s0 := (0 : Int)) (fun (k : Nat) => (k : Int)) 3 (Sum.inr () : Unit ⊕ Unit) rfl (fun k hk => ?step) rfl (by omega)]
  · rfl
  case step =>
    unfold g_law14_LiftChecks_b0
    match k, hk with
    | 0, _ =>
      rcases checks_at h.lens with ⟨e1, e2, e3⟩ | ⟨e1, e2, ⟨c7, e3⟩ | ⟨c7, n, e3, e4, e5⟩⟩
      · simp [e1, e2, e3]
      · simp [e1, e2, e3, c7]
      · simp [e1, e2, e3, e4, e5, Int.not_lt.2 c7]
    | 1, _ =>
      rcases checks_at L1 with ⟨e1, e2, e3⟩ | ⟨e1, e2, ⟨c7, e3⟩ | ⟨c7, n, e3, e4, e5⟩⟩
      · simp [e1, e2, e3]
      · simp [e1, e2, e3, c7]
      · simp [e1, e2, e3, e4, e5, Int.not_lt.2 c7]
    | 2, _ =>
      rcases checks_at L2 with ⟨e1, e2, e3⟩ | ⟨e1, e2, ⟨c7, e3⟩ | ⟨c7, n, e3, e4, e5⟩⟩
      · simp [e1, e2, e3]
      · simp [e1, e2, e3, c7]
      · simp [e1, e2, e3, e4, e5, Int.not_lt.2 c7]
end Go.Ab
