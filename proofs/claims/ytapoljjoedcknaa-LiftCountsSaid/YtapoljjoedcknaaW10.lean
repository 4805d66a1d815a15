/- What functions compute. No conditions. -/
import Derived.Test.YtapoljjoedcknaaProg
import Derived.Test.YtapoljjoedcknaaW8
import Derived.KernelRfl
import Derived.Test.YtapoljjoedcknaaW9
set_option linter.all false
namespace Go.Ab
open Go Go.Proofs
set_option maxRecDepth 100000
set_option maxHeartbeats 4000000
theorem g_ref01_digits_ok (p0 : Int) (x : (List Int)) (h : g_ref01_digits p0 = some x) : CallOk Try.prog 58 [vI p0] (.ret (.ref 0 0 x.length) [oR true 1 eI x]) := by
  refine fn_ok [] Try.func58 rfl (by decide +kernel) rfl ?_
  unfold g_ref01_digits at h
  refine wp_eqB (base' := 0) (st' := ⟨[(0, vI p0)], [], 19⟩) rfl (by kernel_rfl) ?_
  refine sq (sq (wp_seq (wp_block ?_)))
  refine wwh h (fun s1 => ⟨[(0, vI s1.1), (3, .ref 0 0 s1.2.length)], [oR true 1 eI s1.2], 19⟩) (fun v out => out = .go (.exit 0) ⟨[(3, .ref 0 0 v.length)], [oR true 1 eI v], 19⟩) (wk_trans (wk_gc (live := [0, 3]) (keep := []) (st' := ⟨[(0, vI p0), (3, .nils)], [], 19⟩) (by kernel_rfl)) (wk_trans (wk_nil 3 1 true true (st' := ⟨[(0, vI p0), (3, .ref 0 0 0)], [.row false false true true 1 []], 19⟩) (by kernel_rfl)) (wk_gc (live := [0, 3]) (keep := [0]) (by kernel_rfl)))) ?_ ?_
  · intro s1 o h
    unfold g_ref01_digits_b0 at h
    refine wp_seq (sq ?_)
    refine wbr (S := fun b2 => ⟨[(0, vI s1.1), (3, .ref 0 0 s1.2.length), (5, vI s1.1), (6, vB b2)], [oR true 1 eI s1.2], 19⟩) h (fun q3 h => ?_) (fun q3 h => ?_)
    · refine wcT (wp_skip (wp_block (sq (wp_seq (reg_in (sz 5 5 ?_))))))
      refine sgL false [] [] true (S := ⟨[(0, vI s1.1), (3, .ref 0 0 s1.2.length), (5, vI s1.1), (6, vB true), (7, vI s1.1), (8, vI (Int.tmod s1.1 10000)), (4, vI (Int.tmod s1.1 10000)), (9, .ref 0 0 s1.2.length), (10, vI (Int.tmod s1.1 10000)), (11, vI (Int.tmod s1.1 10000)), (12, vI (IntKind.i64.wrap (0 - (Int.tmod s1.1 10000)))), (13, vI (if (IntKind.i64.wrap (0 - (Int.tmod s1.1 10000))) > (Int.tmod s1.1 10000) then (IntKind.i64.wrap (0 - (Int.tmod s1.1 10000))) else (Int.tmod s1.1 10000)))] ++ [(14, .ref 1 0 1)], [oR true 1 eI s1.2, .row false false true true 1 [vI (if (IntKind.i64.wrap (0 - (Int.tmod s1.1 10000))) > (Int.tmod s1.1 10000) then (IntKind.i64.wrap (0 - (Int.tmod s1.1 10000))) else (Int.tmod s1.1 10000))]], 19⟩) (by kernel_rfl) ?_
      refine appR (enc := eI) (l := s1.2) (m := ([(if (IntKind.i64.wrap (0 - (Int.tmod s1.1 10000))) > (Int.tmod s1.1 10000) then (IntKind.i64.wrap (0 - (Int.tmod s1.1 10000))) else (Int.tmod s1.1 10000))] : (List Int))) (w := 1) (bytes := 8) (ob := 0) (nr := true) (fl := true) (nr' := true) (fl' := true) (b := .ref 1 0 1) (rds := [1]) (S := ⟨[(0, vI s1.1), (3, .ref 0 0 s1.2.length), (5, vI s1.1), (6, vB true), (7, vI s1.1), (8, vI (Int.tmod s1.1 10000)), (4, vI (Int.tmod s1.1 10000)), (9, .ref 0 0 s1.2.length), (10, vI (Int.tmod s1.1 10000)), (11, vI (Int.tmod s1.1 10000)), (12, vI (IntKind.i64.wrap (0 - (Int.tmod s1.1 10000)))), (13, vI (if (IntKind.i64.wrap (0 - (Int.tmod s1.1 10000))) > (Int.tmod s1.1 10000) then (IntKind.i64.wrap (0 - (Int.tmod s1.1 10000))) else (Int.tmod s1.1 10000)))] ++ [(14, .ref 1 0 1), (15, .ref 2 0 ((s1.2 ++ ([(if (IntKind.i64.wrap (0 - (Int.tmod s1.1 10000))) > (Int.tmod s1.1 10000) then (IntKind.i64.wrap (0 - (Int.tmod s1.1 10000))) else (Int.tmod s1.1 10000))] : (List Int))).length))], [.dead, .row false false true true 1 [vI (if (IntKind.i64.wrap (0 - (Int.tmod s1.1 10000))) > (Int.tmod s1.1 10000) then (IntKind.i64.wrap (0 - (Int.tmod s1.1 10000))) else (Int.tmod s1.1 10000))], oR true 1 eI (s1.2 ++ ([(if (IntKind.i64.wrap (0 - (Int.tmod s1.1 10000))) > (Int.tmod s1.1 10000) then (IntKind.i64.wrap (0 - (Int.tmod s1.1 10000))) else (Int.tmod s1.1 10000))] : (List Int)))], 19⟩) false (by kernel_rfl) rfl (by kernel_rfl) rfl (by kernel_rfl) (by kernel_rfl) h (fun h => ?_)
      refine sz 1 8 (reg_end rfl (wg [0, 3] [2] (rn ?_)))
      cases h
      exact ⟨_, rfl, (wk_gc (live := [0, 3]) (keep := [0]) (by kernel_rfl))⟩
    refine wcF ?_
    refine wgc [3] [0] ⟨[(3, .ref 0 0 s1.2.length)], [oR true 1 eI s1.2], 19⟩ ?_
    refine wp_exit ?_
    cases h
    exact ⟨rfl, rfl⟩
  intro x5 h out hx
  subst hx
  refine sq (wg [2] [0] ?_)
  cases h
  exact wp_ret (show fnOut _ _ _ _ = _ from by kernel_rfl)
theorem g_ref01_compare_ok (p0 : (List Int)) (p1 : (List Int)) (x : Int) (h : g_ref01_compare p0 p1 = some x) : CallOk Try.prog 56 [eL true eI p0, eL true eI p1] (.ret (vI x) []) := by
  refine fn_ok [] Try.func56 rfl (by decide +kernel) rfl ?_
  unfold g_ref01_compare at h
  refine wp_eqB (base' := 0) (st' := ⟨[(0, eL true eI p0), (1, eL true eI p1)], [], 41⟩) rfl (by kernel_rfl) ?_
  refine sq (wp_seq (wp_seq (reg_in (sz 1 1 ?_))))
  refine lenZ (enc := eI) (l := p0) (fl := true) (by kernel_rfl) ?_
  refine sz 1 3 ?_
  refine lenZ (enc := eI) (l := p1) (fl := true) (by kernel_rfl) ?_
  refine sz 1 5 (reg_end rfl ?_)
  refine wbz h (fun q2 h => ?_) (fun q2 h => ?_)
  · refine wp_seq (wp_seq (wg [0, 1] [] (reg_in (sz 1 1 ?_))))
    refine lenZ (enc := eI) (l := p0) (fl := true) (by kernel_rfl) ?_
    refine sz 1 3 ?_
    refine lenZ (enc := eI) (l := p1) (fl := true) (by kernel_rfl) ?_
    refine sz 1 5 (reg_end rfl ?_)
    refine wbz h (fun q4 h => ?_) (fun q4 h => ?_)
    · refine wp_seq (wg [] [] (rn (wg [4] [] ?_)))
      cases h
      exact wp_ret (show fnOut _ _ _ _ = _ from by kernel_rfl)
    refine wp_skip (wp_seq (wg [] [] (rn (wg [4] [] ?_))))
    cases h
    exact wp_ret (show fnOut _ _ _ _ = _ from by kernel_rfl)
  refine wp_skip (wp_seq (wp_seq (wg [0, 1] [] (reg_in (sz 1 1 ?_)))))
  refine lenZ (enc := eI) (l := p0) (fl := true) (by kernel_rfl) ?_
  refine sz 2 4 (reg_end rfl (wp_block ?_))
  refine wwh h (fun s5 => ⟨[(0, eL true eI p0), (1, eL true eI p1), (5, vI s5)], [], 41⟩) (fun x out => out = match x with | .inl v => .go (.ret) ⟨[(4, vI v)], [], 41⟩ | .inr v => .go (.exit 0) ⟨[], [], 41⟩) (wk_gc (live := [0, 1, 5]) (keep := []) (by kernel_rfl)) ?_ ?_
  · intro s5 o h
    unfold g_ref01_compare_b0 at h
    refine wp_seq (sq ?_)
    refine wbr (S := fun b6 => ⟨[(0, eL true eI p0), (1, eL true eI p1), (5, vI s5), (19, vI s5), (20, vB b6)], [], 41⟩) h (fun q7 h => ?_) (fun q7 h => ?_)
    · refine wcT (wp_skip (wp_seq (wp_block (wp_seq (rga hfol (sy 2 2 ?_))))))
      refine bind_elim h (fun a8 q9 h => ?_)
      refine idxZ (enc := eI) (l := p0) (n := s5) (fl := true) (w := 1) (a := a8) (by kernel_rfl) q9 ?_
      refine sy 3 6 ?_
      refine bind_elim h (fun a10 q11 h => ?_)
      refine idxZ (enc := eI) (l := p1) (n := s5) (fl := true) (w := 1) (a := a10) (by kernel_rfl) q11 ?_
      refine sy 2 9 (rgd ?_)
      refine wbz h (fun q13 h => ?_) (fun q13 h => ?_)
      · refine wp_seq (wp_seq (wg [0, 1, 5] [] (rga hfol (sy 2 2 ?_))))
        refine idxZ (enc := eI) (l := p0) (n := s5) (fl := true) (w := 1) (a := a8) (by kernel_rfl) q9 ?_
        refine sy 3 6 ?_
        refine idxZ (enc := eI) (l := p1) (n := s5) (fl := true) (w := 1) (a := a10) (by kernel_rfl) q11 ?_
        refine sy 2 9 (rgd ?_)
        refine wbz h (fun q15 h => ?_) (fun q15 h => ?_)
        · refine wp_seq (wg [] [] (rn ?_))
          refine wgc [4] [] ⟨[(4, vI (-1))], [], 41⟩ ?_
          refine wp_ret ?_
          cases h
          exact ⟨rfl, rfl⟩
        refine wp_skip (wp_seq (wg [] [] (rn ?_)))
        refine wgc [4] [] ⟨[(4, vI 1)], [], 41⟩ ?_
        refine wp_ret ?_
        cases h
        exact ⟨rfl, rfl⟩
      refine wp_skip (wg [0, 1, 5] [] (rn ?_))
      cases h
      exact ⟨_, rfl, (wk_gc (live := [0, 1, 5]) (keep := []) (by kernel_rfl))⟩
    refine wcF ?_
    refine wgc [] [] ⟨[], [], 41⟩ ?_
    refine wp_exit ?_
    cases h
    exact ⟨rfl, rfl⟩
  intro x16 h out hx
  subst hx
  rcases x16 with x17 | x18
  · dsimp only at h ⊢
    cases h
    show fnOut _ _ _ _ = _
    kernel_rfl
  · dsimp only at h ⊢
    refine sq (wg [4] [] ?_)
    cases h
    exact wp_ret (show fnOut _ _ _ _ = _ from by kernel_rfl)
theorem g_ref01_cut_ok (p0 : (List Int)) (x : (List Int)) (h : g_ref01_cut p0 = some x) : CallOk Try.prog 76 [eL true eI p0] (.ret (eL true eI x) []) := by
  refine fn_ok [[.lst true]] Try.func76 rfl (by decide +kernel) rfl ?_
  unfold g_ref01_cut at h
  refine wp_eqB (base' := 0) (st' := ⟨[(0, eL true eI p0)], [], 21⟩) rfl (by kernel_rfl) ?_
  refine sq (wp_seq (wp_block ?_))
  refine wwh h (fun s1 => ⟨[(0, eL true eI s1)], [], 21⟩) (fun v out => out = .go (.exit 0) ⟨[(0, eL true eI v)], [], 21⟩) (wk_gc (live := [0]) (keep := []) (by kernel_rfl)) ?_ ?_
  · intro s1 o h
    unfold g_ref01_cut_b0 at h
    refine wp_seq (wp_seq (reg_in (sz 1 1 ?_)))
    refine lenZ (enc := eI) (l := s1) (fl := true) (by kernel_rfl) ?_
    refine sz 2 4 ?_
    refine rbr (S := fun b2 => ⟨[(0, eL true eI s1), (3, eL true eI s1), (4, vI (s1.length : Int)), (5, vB b2), (6, vB b2)], [], 21⟩) h (fun q3 h => ?_) (fun q3 h => ?_)
    · refine sz 2 6 ?_
      refine lenZ (enc := eI) (l := s1) (fl := true) (by kernel_rfl) ?_
      refine sz 1 8 ?_
      refine bind_elim h (fun a4 q5 h => ?_)
      refine idxZ (enc := eI) (l := s1) (n := IntKind.i64.wrap ((s1.length : Int) - 1)) (fl := true) (w := 1) (a := a4) (by kernel_rfl) q5 ?_
      refine sz 3 12 (reg_end rfl ?_)
      refine wbz h (fun q7 h => ?_) (fun q7 h => ?_)
      · refine wp_skip (wp_block (wg [0] [] (reg_in (sz 2 2 ?_))))
        refine lenZ (enc := eI) (l := s1) (fl := true) (by kernel_rfl) ?_
        refine sgz 1 4 (S := ⟨[(0, eL true eI s1), (15, eL true eI s1), (16, eL true eI s1), (17, vI (s1.length : Int)), (18, vI (IntKind.i64.wrap ((s1.length : Int) - 1)))], [], 21⟩) ?_
        refine sliceL (enc := eI) (l := s1) (fl := true) (lo := none) (hi := (some (vI (IntKind.i64.wrap ((s1.length : Int) - 1))))) (a := 0) (b := IntKind.i64.wrap ((s1.length : Int) - 1)) (w := 1) (S := ⟨[(0, eL true eI s1), (15, eL true eI s1), (16, eL true eI s1), (17, vI (s1.length : Int)), (18, vI (IntKind.i64.wrap ((s1.length : Int) - 1))), (19, eL true eI (sub s1 0 (IntKind.i64.wrap ((s1.length : Int) - 1))))], [], 21⟩) (by kernel_rfl) (fun _ => rfl) rfl rfl (by kernel_rfl) h (fun h => ?_)
        refine sz 1 6 (reg_end rfl ?_)
        cases h
        exact ⟨_, rfl, (wk_gc (live := [0]) (keep := []) (by kernel_rfl))⟩
      refine wgc [0] [] ⟨[(0, eL true eI s1)], [], 21⟩ ?_
      refine wp_exit ?_
      cases h
      exact ⟨rfl, rfl⟩
    refine sz 8 12 (reg_end rfl (wcF ?_))
    refine wgc [0] [] ⟨[(0, eL true eI s1)], [], 21⟩ ?_
    refine wp_exit ?_
    cases h
    exact ⟨rfl, rfl⟩
  intro x9 h out hx
  subst hx
  refine sq (wg [2] [] ?_)
  cases h
  exact wp_ret (show fnOut _ _ _ _ = _ from by kernel_rfl)
noncomputable abbrev s60_33 (p0 : (List Int)) (p1 : (List Int)) (s4 : (Int × Int × (List Int))) (s1 : (Int × (List Int))) : List (Nat × AV) := [(0, eL true eI p0), (1, eL true eI p1), (5, .ref 0 0 s4.2.2.length), (6, vI s1.1), (7, vI s4.1), (8, vI s4.2.1)]
theorem g_ref01_times_ok (p0 : (List Int)) (p1 : (List Int)) (x : (List Int)) (h : g_ref01_times p0 p1 = some x) : CallOk Try.prog 60 [eL true eI p0, eL true eI p1] (.ret (eL true eI x) []) := by
  refine fn_ok [[.lst true]] Try.func60 rfl (by decide +kernel) rfl ?_
  unfold g_ref01_times at h
  refine wp_eqB (base' := 0) (st' := ⟨[(0, eL true eI p0), (1, eL true eI p1)], [], 65⟩) rfl (by kernel_rfl) ?_
  refine sq (wp_seq (reg_in (sz 1 1 ?_)))
  refine lenZ (enc := eI) (l := p0) (fl := true) (by kernel_rfl) ?_
  refine sz 1 3 ?_
  refine lenZ (enc := eI) (l := p1) (fl := true) (by kernel_rfl) ?_
  refine sgz 1 5 (S := ⟨[(0, eL true eI p0), (1, eL true eI p1), (4, .nils), (9, eL true eI p0), (10, vI (p0.length : Int)), (11, eL true eI p1), (12, vI (p1.length : Int)), (13, vI (IntKind.i64.wrap ((p0.length : Int) + (p1.length : Int))))], [], 65⟩) ?_
  refine mkL (enc := eI) (z := (0 : Int)) (z0 := vI 0) (n := IntKind.i64.wrap ((p0.length : Int) + (p1.length : Int))) (m := IntKind.i64.wrap ((p0.length : Int) + (p1.length : Int))) (w := 1) (bytes := 8) (S := ⟨[(0, eL true eI p0), (1, eL true eI p1), (4, .nils), (9, eL true eI p0), (10, vI (p0.length : Int)), (11, eL true eI p1), (12, vI (p1.length : Int)), (13, vI (IntKind.i64.wrap ((p0.length : Int) + (p1.length : Int))))] ++ [(14, .ref 0 0 ((List.replicate (Int.toNat (IntKind.i64.wrap ((p0.length : Int) + (p1.length : Int)))) (0 : Int)).length))], [oR true 1 eI (List.replicate (Int.toNat (IntKind.i64.wrap ((p0.length : Int) + (p1.length : Int)))) (0 : Int))], 65⟩) [] true (by kernel_rfl) rfl (by kernel_rfl) (by kernel_rfl) h (fun h => ?_)
  refine sz 1 7 (reg_end rfl (wp_seq (wp_seq (wg [0, 1, 5] [0] (rn (wp_block ?_))))))
  refine wwh h (fun s1 => ⟨[(0, eL true eI p0), (1, eL true eI p1), (5, .ref 0 0 s1.2.length), (6, vI s1.1)], [oR true 1 eI s1.2], 65⟩) (fun v out => out = .go (.exit 0) ⟨[(5, .ref 0 0 v.length)], [oR true 1 eI v], 65⟩) (wk_gc (live := [0, 1, 5, 6]) (keep := [0]) (by kernel_rfl)) ?_ ?_
  · intro s1 o h
    unfold g_ref01_times_b1 at h
    refine wp_seq (wp_seq (reg_in (sz 2 2 ?_)))
    refine lenZ (enc := eI) (l := p0) (fl := true) (by kernel_rfl) ?_
    refine sz 1 4 (reg_end rfl ?_)
    refine wbr (S := fun b2 => ⟨[(0, eL true eI p0), (1, eL true eI p1), (5, .ref 0 0 s1.2.length), (6, vI s1.1), (15, vI s1.1), (16, eL true eI p0), (17, vI (p0.length : Int)), (18, vB b2)], [oR true 1 eI s1.2], 65⟩) h (fun q3 h => ?_) (fun q3 h => ?_)
    · refine wcT (wp_skip (wp_seq (wp_block (sq (sq (wp_block ?_))))))
      refine wwh h (fun s4 => ⟨(s60_33 p0 p1 s4 s1), [oR true 1 eI s4.2.2], 65⟩) (fun v out => out = .go (.exit 2) ⟨[(0, eL true eI p0), (1, eL true eI p1), (5, .ref 0 0 v.length), (6, vI s1.1)], [oR true 1 eI v], 65⟩) (wk_gc (live := [0, 1, 5, 6, 7, 8]) (keep := [0]) (by kernel_rfl)) ?_ ?_
      · intro s4 o h
        unfold g_ref01_times_b0 at h
        refine wp_seq (wp_seq (reg_in (sz 2 2 ?_)))
        refine lenZ (enc := eI) (l := p1) (fl := true) (by kernel_rfl) ?_
        refine sz 2 5 (rwg [0, 1, 5, 6, 7, 8, 25] [0] ?_)
        refine rbr (S := fun b5 => ⟨(s60_33 p0 p1 s4 s1) ++ [(25, vB b5)], [oR true 1 eI s4.2.2], 65⟩) h (fun q6 h => ?_) (fun q6 h => ?_)
        · refine sz 3 8 (reg_end rfl (wcT (wp_skip (wp_seq (wp_block (wp_seq (reg_in (sz 5 5 ?_))))))))
          refine bind_elim h (fun a7 q8 h => ?_)
          refine idxY (enc := eI) (l := s4.2.2) (n := IntKind.i64.wrap (s1.1 + s4.2.1)) (w := 1) (ob := 0) (ro := false) (nr := true) (fl := true) q8 ?_
          refine loadY (enc := eI) (l := s4.2.2) (n := IntKind.i64.wrap (s1.1 + s4.2.1)) (w := 1) (ob := 0) (c := 0) (bx := false) (ro := false) (nr := true) (fl := true) q8 ?_
          refine sz 2 9 (reg_end rfl (wp_seq (wp_seq (wg [0, 1, 5, 6, 7, 8] [0] (reg_in (sz 2 2 ?_))))))
          refine lenL (enc := eI) (l := p1) (fl := true) (S := ⟨[(0, eL true eI p0), (1, eL true eI p1), (5, .ref 0 0 s4.2.2.length), (6, vI s1.1), (7, vI (IntKind.i64.wrap (s4.1 + a7))), (8, vI s4.2.1)] ++ [(39, vI s4.2.1), (40, eL true eI p1), (41, vI (p1.length : Int))], [oR true 1 eI s4.2.2], 65⟩) (by kernel_rfl) (by kernel_rfl) ?_
          refine sz 1 4 (reg_end rfl ?_)
          refine wkn (S := fun b9 => ⟨[(0, eL true eI p0), (1, eL true eI p1), (5, .ref 0 0 s4.2.2.length), (6, vI s1.1), (7, vI (IntKind.i64.wrap (s4.1 + a7))), (8, vI s4.2.1)] ++ [(39, vI s4.2.1), (40, eL true eI p1), (41, vI (p1.length : Int)), (42, vB b9)], [oR true 1 eI s4.2.2], 65⟩) q6 ?_
          refine wcT (rga hfol (sy 3 3 ?_))
          refine bind_elim h (fun a10 q11 h => ?_)
          refine idxZ (enc := eI) (l := p0) (n := s1.1) (fl := true) (w := 1) (a := a10) (by kernel_rfl) q11 ?_
          refine sy 3 7 ?_
          refine bind_elim h (fun a12 q13 h => ?_)
          refine idxZ (enc := eI) (l := p1) (n := s4.2.1) (fl := true) (w := 1) (a := a12) (by kernel_rfl) q13 ?_
          refine sy 4 12 (rgd (wp_seq (wg [0, 1, 5, 6, 7, 8] [0] (reg_in ?_))))
          refine sgz 6 6 (S := ⟨[(0, eL true eI p0), (1, eL true eI p1), (5, .ref 0 0 s4.2.2.length), (6, vI s1.1), (7, vI (IntKind.i64.wrap ((IntKind.i64.wrap (s4.1 + a7)) + (IntKind.i64.wrap (a10 * a12))))), (8, vI s4.2.1)] ++ [(54, .ref 0 0 s4.2.2.length), (55, vI s1.1), (56, vI s4.2.1), (57, vI (IntKind.i64.wrap (s1.1 + s4.2.1))), (58, vI (IntKind.i64.wrap ((IntKind.i64.wrap (s4.1 + a7)) + (IntKind.i64.wrap (a10 * a12))))), (59, vI (Int.tmod (IntKind.i64.wrap ((IntKind.i64.wrap (s4.1 + a7)) + (IntKind.i64.wrap (a10 * a12)))) 10000))], [oR true 1 eI s4.2.2], 65⟩) ?_
          refine idxR' (enc := eI) (l := s4.2.2) (n := IntKind.i64.wrap (s1.1 + s4.2.1)) (w := 1) (ob := 0) (ro := false) (nr := true) (fl := true) (a := a7) (S := ⟨[(0, eL true eI p0), (1, eL true eI p1), (5, .ref 0 0 s4.2.2.length), (6, vI s1.1), (7, vI (IntKind.i64.wrap ((IntKind.i64.wrap (s4.1 + a7)) + (IntKind.i64.wrap (a10 * a12))))), (8, vI s4.2.1)] ++ [(54, .ref 0 0 s4.2.2.length), (55, vI s1.1), (56, vI s4.2.1), (57, vI (IntKind.i64.wrap (s1.1 + s4.2.1))), (58, vI (IntKind.i64.wrap ((IntKind.i64.wrap (s4.1 + a7)) + (IntKind.i64.wrap (a10 * a12))))), (59, vI (Int.tmod (IntKind.i64.wrap ((IntKind.i64.wrap (s4.1 + a7)) + (IntKind.i64.wrap (a10 * a12)))) 10000))] ++ [(60, .ptr 0 (Int.toNat (IntKind.i64.wrap (s1.1 + s4.2.1))) 0)], [oR true 1 eI s4.2.2], 65⟩) (by kernel_rfl) (by kernel_rfl) (by kernel_rfl) q8 ?_
          refine bind_elim h (fun a14 q15 h => ?_)
          refine storeR (enc := eI) (l := s4.2.2) (n := (IntKind.i64.wrap (s1.1 + s4.2.1))) (ob := 0) (c := 0) (a := a14) (a' := Int.tmod (IntKind.i64.wrap ((IntKind.i64.wrap (s4.1 + a7)) + (IntKind.i64.wrap (a10 * a12)))) 10000) (v := vI (Int.tmod (IntKind.i64.wrap ((IntKind.i64.wrap (s4.1 + a7)) + (IntKind.i64.wrap (a10 * a12)))) 10000)) (S := ⟨[(0, eL true eI p0), (1, eL true eI p1), (5, .ref 0 0 s4.2.2.length), (6, vI s1.1), (7, vI (IntKind.i64.wrap ((IntKind.i64.wrap (s4.1 + a7)) + (IntKind.i64.wrap (a10 * a12))))), (8, vI s4.2.1)] ++ [(54, .ref 0 0 s4.2.2.length), (55, vI s1.1), (56, vI s4.2.1), (57, vI (IntKind.i64.wrap (s1.1 + s4.2.1))), (58, vI (IntKind.i64.wrap ((IntKind.i64.wrap (s4.1 + a7)) + (IntKind.i64.wrap (a10 * a12))))), (59, vI (Int.tmod (IntKind.i64.wrap ((IntKind.i64.wrap (s4.1 + a7)) + (IntKind.i64.wrap (a10 * a12)))) 10000))] ++ [(60, .ptr 0 (Int.toNat (IntKind.i64.wrap (s1.1 + s4.2.1))) 0)], [oR true 1 eI (List.set s4.2.2 (Int.toNat (IntKind.i64.wrap (s1.1 + s4.2.1))) (Int.tmod (IntKind.i64.wrap ((IntKind.i64.wrap (s4.1 + a7)) + (IntKind.i64.wrap (a10 * a12)))) 10000))], 65⟩) false (by kernel_rfl) rfl q15 (by kernel_rfl) rfl (by kernel_rfl) (by kernel_rfl) (by kernel_rfl) ?_
          refine rw_knN (n := s4.2.2.length) (m := (List.set s4.2.2 (Int.toNat (IntKind.i64.wrap (s1.1 + s4.2.1))) (Int.tmod (IntKind.i64.wrap ((IntKind.i64.wrap (s4.1 + a7)) + (IntKind.i64.wrap (a10 * a12)))) 10000)).length) (S := fun n16 => ⟨[(0, eL true eI p0), (1, eL true eI p1), (5, .ref 0 0 n16), (6, vI s1.1), (7, vI (IntKind.i64.wrap ((IntKind.i64.wrap (s4.1 + a7)) + (IntKind.i64.wrap (a10 * a12))))), (8, vI s4.2.1), (54, .ref 0 0 n16), (55, vI s1.1), (56, vI s4.2.1), (57, vI (IntKind.i64.wrap (s1.1 + s4.2.1))), (58, vI (IntKind.i64.wrap ((IntKind.i64.wrap (s4.1 + a7)) + (IntKind.i64.wrap (a10 * a12))))), (59, vI (Int.tmod (IntKind.i64.wrap ((IntKind.i64.wrap (s4.1 + a7)) + (IntKind.i64.wrap (a10 * a12)))) 10000)), (60, .ptr 0 (Int.toNat (IntKind.i64.wrap (s1.1 + s4.2.1))) 0)], [oR true 1 eI (List.set s4.2.2 (Int.toNat (IntKind.i64.wrap (s1.1 + s4.2.1))) (Int.tmod (IntKind.i64.wrap ((IntKind.i64.wrap (s4.1 + a7)) + (IntKind.i64.wrap (a10 * a12)))) 10000))], 65⟩) (by simp only [List.length_set]) ?_
          refine reg_end rfl (wg [0, 1, 5, 6, 7, 8] [0] (rn (rn ?_)))
          cases h
          exact ⟨_, rfl, (wk_gc (live := [0, 1, 5, 6, 7, 8]) (keep := [0]) (by kernel_rfl))⟩
        refine sz 3 8 (reg_end rfl ?_)
        refine wbr (S := fun b17 => ⟨(s60_33 p0 p1 s4 s1) ++ [(25, vB false), (26, vI s4.1), (27, vB b17), (28, vB b17)], [oR true 1 eI s4.2.2], 65⟩) h (fun q18 h => ?_) (fun q18 h => ?_)
        · refine wcT (wp_skip (wp_seq (wp_block (wp_seq (reg_in (sz 5 5 ?_))))))
          refine bind_elim h (fun a19 q20 h => ?_)
          refine idxY (enc := eI) (l := s4.2.2) (n := IntKind.i64.wrap (s1.1 + s4.2.1)) (w := 1) (ob := 0) (ro := false) (nr := true) (fl := true) q20 ?_
          refine loadY (enc := eI) (l := s4.2.2) (n := IntKind.i64.wrap (s1.1 + s4.2.1)) (w := 1) (ob := 0) (c := 0) (bx := false) (ro := false) (nr := true) (fl := true) q20 ?_
          refine sz 2 9 (reg_end rfl (wp_seq (wp_seq (wg [0, 1, 5, 6, 7, 8] [0] (reg_in (sz 2 2 ?_))))))
          refine lenL (enc := eI) (l := p1) (fl := true) (S := ⟨[(0, eL true eI p0), (1, eL true eI p1), (5, .ref 0 0 s4.2.2.length), (6, vI s1.1), (7, vI (IntKind.i64.wrap (s4.1 + a19))), (8, vI s4.2.1)] ++ [(39, vI s4.2.1), (40, eL true eI p1), (41, vI (p1.length : Int))], [oR true 1 eI s4.2.2], 65⟩) (by kernel_rfl) (by kernel_rfl) ?_
          refine sz 1 4 (reg_end rfl ?_)
          refine wkn (S := fun b21 => ⟨[(0, eL true eI p0), (1, eL true eI p1), (5, .ref 0 0 s4.2.2.length), (6, vI s1.1), (7, vI (IntKind.i64.wrap (s4.1 + a19))), (8, vI s4.2.1)] ++ [(39, vI s4.2.1), (40, eL true eI p1), (41, vI (p1.length : Int)), (42, vB b21)], [oR true 1 eI s4.2.2], 65⟩) q6 ?_
          refine wcF (wp_skip (wp_seq (reg_in (sz 6 6 ?_))))
          refine idxR' (enc := eI) (l := s4.2.2) (n := IntKind.i64.wrap (s1.1 + s4.2.1)) (w := 1) (ob := 0) (ro := false) (nr := true) (fl := true) (a := a19) (S := ⟨[(0, eL true eI p0), (1, eL true eI p1), (5, .ref 0 0 s4.2.2.length), (6, vI s1.1), (7, vI (IntKind.i64.wrap (s4.1 + a19))), (8, vI s4.2.1)] ++ [(39, vI s4.2.1), (40, eL true eI p1), (41, vI (p1.length : Int)), (42, vB false), (54, .ref 0 0 s4.2.2.length), (55, vI s1.1), (56, vI s4.2.1), (57, vI (IntKind.i64.wrap (s1.1 + s4.2.1))), (58, vI (IntKind.i64.wrap (s4.1 + a19))), (59, vI (Int.tmod (IntKind.i64.wrap (s4.1 + a19)) 10000))] ++ [(60, .ptr 0 (Int.toNat (IntKind.i64.wrap (s1.1 + s4.2.1))) 0)], [oR true 1 eI s4.2.2], 65⟩) (by kernel_rfl) (by kernel_rfl) (by kernel_rfl) q20 ?_
          refine bind_elim h (fun a22 q23 h => ?_)
          refine storeR (enc := eI) (l := s4.2.2) (n := (IntKind.i64.wrap (s1.1 + s4.2.1))) (ob := 0) (c := 0) (a := a22) (a' := Int.tmod (IntKind.i64.wrap (s4.1 + a19)) 10000) (v := vI (Int.tmod (IntKind.i64.wrap (s4.1 + a19)) 10000)) (S := ⟨[(0, eL true eI p0), (1, eL true eI p1), (5, .ref 0 0 s4.2.2.length), (6, vI s1.1), (7, vI (IntKind.i64.wrap (s4.1 + a19))), (8, vI s4.2.1)] ++ [(39, vI s4.2.1), (40, eL true eI p1), (41, vI (p1.length : Int)), (42, vB false), (54, .ref 0 0 s4.2.2.length), (55, vI s1.1), (56, vI s4.2.1), (57, vI (IntKind.i64.wrap (s1.1 + s4.2.1))), (58, vI (IntKind.i64.wrap (s4.1 + a19))), (59, vI (Int.tmod (IntKind.i64.wrap (s4.1 + a19)) 10000))] ++ [(60, .ptr 0 (Int.toNat (IntKind.i64.wrap (s1.1 + s4.2.1))) 0)], [oR true 1 eI (List.set s4.2.2 (Int.toNat (IntKind.i64.wrap (s1.1 + s4.2.1))) (Int.tmod (IntKind.i64.wrap (s4.1 + a19)) 10000))], 65⟩) false (by kernel_rfl) rfl q23 (by kernel_rfl) rfl (by kernel_rfl) (by kernel_rfl) (by kernel_rfl) ?_
          refine rw_knN (n := s4.2.2.length) (m := (List.set s4.2.2 (Int.toNat (IntKind.i64.wrap (s1.1 + s4.2.1))) (Int.tmod (IntKind.i64.wrap (s4.1 + a19)) 10000)).length) (S := fun n24 => ⟨[(0, eL true eI p0), (1, eL true eI p1), (5, .ref 0 0 n24), (6, vI s1.1), (7, vI (IntKind.i64.wrap (s4.1 + a19))), (8, vI s4.2.1), (39, vI s4.2.1), (40, eL true eI p1), (41, vI (p1.length : Int)), (42, vB false), (54, .ref 0 0 n24), (55, vI s1.1), (56, vI s4.2.1), (57, vI (IntKind.i64.wrap (s1.1 + s4.2.1))), (58, vI (IntKind.i64.wrap (s4.1 + a19))), (59, vI (Int.tmod (IntKind.i64.wrap (s4.1 + a19)) 10000)), (60, .ptr 0 (Int.toNat (IntKind.i64.wrap (s1.1 + s4.2.1))) 0)], [oR true 1 eI (List.set s4.2.2 (Int.toNat (IntKind.i64.wrap (s1.1 + s4.2.1))) (Int.tmod (IntKind.i64.wrap (s4.1 + a19)) 10000))], 65⟩) (by simp only [List.length_set]) ?_
          refine reg_end rfl (wg [0, 1, 5, 6, 7, 8] [0] (rn (rn ?_)))
          cases h
          exact ⟨_, rfl, (wk_gc (live := [0, 1, 5, 6, 7, 8]) (keep := [0]) (by kernel_rfl))⟩
        refine wcF ?_
        refine wgc [0, 1, 5, 6] [0] ⟨[(0, eL true eI p0), (1, eL true eI p1), (5, .ref 0 0 s4.2.2.length), (6, vI s1.1)], [oR true 1 eI s4.2.2], 65⟩ ?_
        refine wp_exit ?_
        cases h
        exact ⟨rfl, rfl⟩
      intro x26 h out hx
      subst hx
      refine rn ?_
      cases h
      exact ⟨_, rfl, (wk_gc (live := [0, 1, 5, 6]) (keep := [0]) (by kernel_rfl))⟩
    refine wcF ?_
    refine wgc [5] [0] ⟨[(5, .ref 0 0 s1.2.length)], [oR true 1 eI s1.2], 65⟩ ?_
    refine wp_exit ?_
    cases h
    exact ⟨rfl, rfl⟩
  intro x28 h out hx
  subst hx
  refine wp_seq (reg_in ?_)
  refine sgz 1 1 (S := ⟨[(5, .ref 0 0 x28.length), (63, .ref 0 0 x28.length)], [oR true 1 eI x28], 65⟩) ?_
  refine callZ (as0 := [.ref 0 0 x28.length]) (ids := [0]) (by kernel_rfl) bodyB_76 (msnap_cons (snap_full rfl) msnap_nil (by rfl)) (fun x29 q30 => g_ref01_cut_ok x28 x29 q30) h (fun x29 q30 h => ?_)
  refine sz 1 3 (reg_end rfl (wg [4] [] ?_))
  cases h
  exact wp_ret (show fnOut _ _ _ _ = _ from by kernel_rfl)
theorem g_ref01_minus_ok (p0 : (List Int)) (p1 : (List Int)) (x : (List Int)) (h : g_ref01_minus p0 p1 = some x) : CallOk Try.prog 62 [eL true eI p0, eL true eI p1] (.ret (eL true eI x) []) := by
  refine fn_ok [[.lst true]] Try.func62 rfl (by decide +kernel) rfl ?_
  unfold g_ref01_minus at h
  refine wp_eqB (base' := 0) (st' := ⟨[(0, eL true eI p0), (1, eL true eI p1)], [], 41⟩) rfl (by kernel_rfl) ?_
  refine sq (sq (sq (wp_seq (sq (wp_block ?_)))))
  refine wwh h (fun s1 => ⟨[(0, eL true eI p0), (1, eL true eI p1), (5, .ref 0 0 s1.2.2.length), (6, vI s1.1), (7, vI s1.2.1)], [oR true 1 eI s1.2.2], 41⟩) (fun v out => out = .go (.exit 0) ⟨[(5, .ref 0 0 v.length)], [oR true 1 eI v], 41⟩) (wk_trans (wk_gc (live := [0, 1, 5, 6, 7]) (keep := []) (st' := ⟨[(0, eL true eI p0), (1, eL true eI p1), (5, .nils), (6, vI 0), (7, vI 0)], [], 41⟩) (by kernel_rfl)) (wk_trans (wk_nil 5 1 true true (st' := ⟨[(0, eL true eI p0), (1, eL true eI p1), (5, .ref 0 0 0), (6, vI 0), (7, vI 0)], [.row false false true true 1 []], 41⟩) (by kernel_rfl)) (wk_gc (live := [0, 1, 5, 6, 7]) (keep := [0]) (by kernel_rfl)))) ?_ ?_
  · intro s1 o h
    unfold g_ref01_minus_b0 at h
    refine wp_seq (wp_seq (reg_in (sz 2 2 ?_)))
    refine lenZ (enc := eI) (l := p0) (fl := true) (by kernel_rfl) ?_
    refine sz 1 4 (reg_end rfl ?_)
    refine wbr (S := fun b2 => ⟨[(0, eL true eI p0), (1, eL true eI p1), (5, .ref 0 0 s1.2.2.length), (6, vI s1.1), (7, vI s1.2.1)] ++ [(9, vI s1.2.1), (10, eL true eI p0), (11, vI (p0.length : Int)), (12, vB b2)], [oR true 1 eI s1.2.2], 41⟩) h (fun q3 h => ?_) (fun q3 h => ?_)
    · refine wcT (wp_skip (wp_seq (wp_block (wp_seq (reg_in (sz 2 2 ?_))))))
      refine bind_elim h (fun a4 q5 h => ?_)
      refine idxZ (enc := eI) (l := p0) (n := s1.2.1) (fl := true) (w := 1) (a := a4) (by kernel_rfl) q5 ?_
      refine sz 4 7 (reg_end rfl (wp_seq (wp_seq (wg [0, 1, 5, 7, 8] [0] (reg_in (sz 2 2 ?_))))))
      refine lenZ (enc := eI) (l := p1) (fl := true) (by kernel_rfl) ?_
      refine sgz 1 4 (S := ⟨[(0, eL true eI p0), (1, eL true eI p1), (5, .ref 0 0 s1.2.2.length), (7, vI s1.2.1), (8, vI (IntKind.i64.wrap (a4 - s1.1)))] ++ [(21, vI s1.2.1), (22, eL true eI p1), (23, vI (p1.length : Int)), (24, vB (decide (s1.2.1 < (p1.length : Int))))], [oR true 1 eI s1.2.2], 41⟩) ?_
      refine reg_end rfl ?_
      refine wbr (S := fun b6 => ⟨[(0, eL true eI p0), (1, eL true eI p1), (5, .ref 0 0 s1.2.2.length), (7, vI s1.2.1), (8, vI (IntKind.i64.wrap (a4 - s1.1)))] ++ [(21, vI s1.2.1), (22, eL true eI p1), (23, vI (p1.length : Int)), (24, vB b6)], [oR true 1 eI s1.2.2], 41⟩) h (fun q7 h => ?_) (fun q7 h => ?_)
      · refine wcT (reg_in (sz 3 3 ?_))
        refine bind_elim h (fun a8 q9 h => ?_)
        refine idxZ (enc := eI) (l := p1) (n := s1.2.1) (fl := true) (w := 1) (a := a8) (by kernel_rfl) q9 ?_
        refine sz 3 7 (reg_end rfl (wp_seq (wg [0, 1, 5, 7, 8] [0] (rn (wp_seq (sq ?_))))))
        refine wbr (S := fun b10 => ⟨[(0, eL true eI p0), (1, eL true eI p1), (5, .ref 0 0 s1.2.2.length), (7, vI s1.2.1), (8, vI (IntKind.i64.wrap ((IntKind.i64.wrap (a4 - s1.1)) - a8)))] ++ [(6, vI 0), (31, vI (IntKind.i64.wrap ((IntKind.i64.wrap (a4 - s1.1)) - a8))), (32, vB b10)], [oR true 1 eI s1.2.2], 41⟩) h (fun q11 h => ?_) (fun q11 h => ?_)
        · refine wcT (sq (wg [0, 1, 5, 7, 8] [0] (rn (reg_in (sz 2 2 ?_)))))
          refine sgL false [] [] true (S := ⟨[(0, eL true eI p0), (1, eL true eI p1), (5, .ref 0 0 s1.2.2.length), (7, vI s1.2.1), (8, vI (IntKind.i64.wrap ((IntKind.i64.wrap ((IntKind.i64.wrap (a4 - s1.1)) - a8)) + 10000)))] ++ [(6, vI 1), (35, .ref 0 0 s1.2.2.length), (36, vI (IntKind.i64.wrap ((IntKind.i64.wrap ((IntKind.i64.wrap (a4 - s1.1)) - a8)) + 10000))), (37, .ref 1 0 1)], [oR true 1 eI s1.2.2, .row false false true true 1 [vI (IntKind.i64.wrap ((IntKind.i64.wrap ((IntKind.i64.wrap (a4 - s1.1)) - a8)) + 10000))]], 41⟩) (by kernel_rfl) ?_
          refine appR (enc := eI) (l := s1.2.2) (m := ([IntKind.i64.wrap ((IntKind.i64.wrap ((IntKind.i64.wrap (a4 - s1.1)) - a8)) + 10000)] : (List Int))) (w := 1) (bytes := 8) (ob := 0) (nr := true) (fl := true) (nr' := true) (fl' := true) (b := .ref 1 0 1) (rds := [1]) (S := ⟨[(0, eL true eI p0), (1, eL true eI p1), (5, .ref 0 0 s1.2.2.length), (7, vI s1.2.1), (8, vI (IntKind.i64.wrap ((IntKind.i64.wrap ((IntKind.i64.wrap (a4 - s1.1)) - a8)) + 10000)))] ++ [(6, vI 1), (35, .ref 0 0 s1.2.2.length), (36, vI (IntKind.i64.wrap ((IntKind.i64.wrap ((IntKind.i64.wrap (a4 - s1.1)) - a8)) + 10000))), (37, .ref 1 0 1), (38, .ref 2 0 ((s1.2.2 ++ ([IntKind.i64.wrap ((IntKind.i64.wrap ((IntKind.i64.wrap (a4 - s1.1)) - a8)) + 10000)] : (List Int))).length))], [.dead, .row false false true true 1 [vI (IntKind.i64.wrap ((IntKind.i64.wrap ((IntKind.i64.wrap (a4 - s1.1)) - a8)) + 10000))], oR true 1 eI (s1.2.2 ++ ([IntKind.i64.wrap ((IntKind.i64.wrap ((IntKind.i64.wrap (a4 - s1.1)) - a8)) + 10000)] : (List Int)))], 41⟩) false (by kernel_rfl) rfl (by kernel_rfl) rfl (by kernel_rfl) (by kernel_rfl) h (fun h => ?_)
          refine sz 1 5 (reg_end rfl (wg [0, 1, 5, 7, 6] [2] (rn ?_)))
          cases h
          exact ⟨_, rfl, (wk_gc (live := [0, 1, 5, 6, 7]) (keep := [0]) (by kernel_rfl))⟩
        refine wcF (wp_skip (reg_in (sz 2 2 ?_)))
        refine sgL false [] [] true (S := ⟨[(0, eL true eI p0), (1, eL true eI p1), (5, .ref 0 0 s1.2.2.length), (7, vI s1.2.1), (8, vI (IntKind.i64.wrap ((IntKind.i64.wrap (a4 - s1.1)) - a8)))] ++ [(6, vI 0), (31, vI (IntKind.i64.wrap ((IntKind.i64.wrap (a4 - s1.1)) - a8))), (32, vB false), (35, .ref 0 0 s1.2.2.length), (36, vI (IntKind.i64.wrap ((IntKind.i64.wrap (a4 - s1.1)) - a8)))] ++ [(37, .ref 1 0 1)], [oR true 1 eI s1.2.2, .row false false true true 1 [vI (IntKind.i64.wrap ((IntKind.i64.wrap (a4 - s1.1)) - a8))]], 41⟩) (by kernel_rfl) ?_
        refine appR (enc := eI) (l := s1.2.2) (m := ([IntKind.i64.wrap ((IntKind.i64.wrap (a4 - s1.1)) - a8)] : (List Int))) (w := 1) (bytes := 8) (ob := 0) (nr := true) (fl := true) (nr' := true) (fl' := true) (b := .ref 1 0 1) (rds := [1]) (S := ⟨[(0, eL true eI p0), (1, eL true eI p1), (5, .ref 0 0 s1.2.2.length), (7, vI s1.2.1), (8, vI (IntKind.i64.wrap ((IntKind.i64.wrap (a4 - s1.1)) - a8)))] ++ [(6, vI 0), (31, vI (IntKind.i64.wrap ((IntKind.i64.wrap (a4 - s1.1)) - a8))), (32, vB false), (35, .ref 0 0 s1.2.2.length), (36, vI (IntKind.i64.wrap ((IntKind.i64.wrap (a4 - s1.1)) - a8)))] ++ [(37, .ref 1 0 1), (38, .ref 2 0 ((s1.2.2 ++ ([IntKind.i64.wrap ((IntKind.i64.wrap (a4 - s1.1)) - a8)] : (List Int))).length))], [.dead, .row false false true true 1 [vI (IntKind.i64.wrap ((IntKind.i64.wrap (a4 - s1.1)) - a8))], oR true 1 eI (s1.2.2 ++ ([IntKind.i64.wrap ((IntKind.i64.wrap (a4 - s1.1)) - a8)] : (List Int)))], 41⟩) false (by kernel_rfl) rfl (by kernel_rfl) rfl (by kernel_rfl) (by kernel_rfl) h (fun h => ?_)
        refine sz 1 5 (reg_end rfl (wg [0, 1, 5, 7, 6] [2] (rn ?_)))
        cases h
        exact ⟨_, rfl, (wk_gc (live := [0, 1, 5, 6, 7]) (keep := [0]) (by kernel_rfl))⟩
      refine wcF (wp_skip (sq (wp_seq (sq ?_))))
      refine wbz h (fun q13 h => ?_) (fun q13 h => ?_)
      · refine wp_seq (wg [0, 1, 5, 7, 8] [0] (rn (rn (reg_in (sz 2 2 ?_)))))
        refine sgL false [] [] true (S := ⟨[(0, eL true eI p0), (1, eL true eI p1), (5, .ref 0 0 s1.2.2.length), (7, vI s1.2.1), (8, vI (IntKind.i64.wrap ((IntKind.i64.wrap (a4 - s1.1)) + 10000))), (33, vI (IntKind.i64.wrap (a4 - s1.1))), (34, vI (IntKind.i64.wrap ((IntKind.i64.wrap (a4 - s1.1)) + 10000))), (6, vI 1), (35, .ref 0 0 s1.2.2.length), (36, vI (IntKind.i64.wrap ((IntKind.i64.wrap (a4 - s1.1)) + 10000)))] ++ [(37, .ref 1 0 1)], [oR true 1 eI s1.2.2, .row false false true true 1 [vI (IntKind.i64.wrap ((IntKind.i64.wrap (a4 - s1.1)) + 10000))]], 41⟩) (by kernel_rfl) ?_
        refine appR (enc := eI) (l := s1.2.2) (m := ([IntKind.i64.wrap ((IntKind.i64.wrap (a4 - s1.1)) + 10000)] : (List Int))) (w := 1) (bytes := 8) (ob := 0) (nr := true) (fl := true) (nr' := true) (fl' := true) (b := .ref 1 0 1) (rds := [1]) (S := ⟨[(0, eL true eI p0), (1, eL true eI p1), (5, .ref 0 0 s1.2.2.length), (7, vI s1.2.1), (8, vI (IntKind.i64.wrap ((IntKind.i64.wrap (a4 - s1.1)) + 10000))), (33, vI (IntKind.i64.wrap (a4 - s1.1))), (34, vI (IntKind.i64.wrap ((IntKind.i64.wrap (a4 - s1.1)) + 10000))), (6, vI 1), (35, .ref 0 0 s1.2.2.length), (36, vI (IntKind.i64.wrap ((IntKind.i64.wrap (a4 - s1.1)) + 10000)))] ++ [(37, .ref 1 0 1), (38, .ref 2 0 ((s1.2.2 ++ ([IntKind.i64.wrap ((IntKind.i64.wrap (a4 - s1.1)) + 10000)] : (List Int))).length))], [.dead, .row false false true true 1 [vI (IntKind.i64.wrap ((IntKind.i64.wrap (a4 - s1.1)) + 10000))], oR true 1 eI (s1.2.2 ++ ([IntKind.i64.wrap ((IntKind.i64.wrap (a4 - s1.1)) + 10000)] : (List Int)))], 41⟩) false (by kernel_rfl) rfl (by kernel_rfl) rfl (by kernel_rfl) (by kernel_rfl) h (fun h => ?_)
        refine sz 1 5 (reg_end rfl (wg [0, 1, 5, 7, 6] [2] (rn ?_)))
        cases h
        exact ⟨_, rfl, (wk_gc (live := [0, 1, 5, 6, 7]) (keep := [0]) (by kernel_rfl))⟩
      refine wp_skip (wg [0, 1, 5, 7, 8, 6] [0] (reg_in (sz 2 2 ?_)))
      refine sgL false [] [] true (S := ⟨[(0, eL true eI p0), (1, eL true eI p1), (5, .ref 0 0 s1.2.2.length), (7, vI s1.2.1), (8, vI (IntKind.i64.wrap (a4 - s1.1))), (6, vI 0)] ++ [(35, .ref 0 0 s1.2.2.length), (36, vI (IntKind.i64.wrap (a4 - s1.1))), (37, .ref 1 0 1)], [oR true 1 eI s1.2.2, .row false false true true 1 [vI (IntKind.i64.wrap (a4 - s1.1))]], 41⟩) (by kernel_rfl) ?_
      refine appR (enc := eI) (l := s1.2.2) (m := ([IntKind.i64.wrap (a4 - s1.1)] : (List Int))) (w := 1) (bytes := 8) (ob := 0) (nr := true) (fl := true) (nr' := true) (fl' := true) (b := .ref 1 0 1) (rds := [1]) (S := ⟨[(0, eL true eI p0), (1, eL true eI p1), (5, .ref 0 0 s1.2.2.length), (7, vI s1.2.1), (8, vI (IntKind.i64.wrap (a4 - s1.1))), (6, vI 0)] ++ [(35, .ref 0 0 s1.2.2.length), (36, vI (IntKind.i64.wrap (a4 - s1.1))), (37, .ref 1 0 1), (38, .ref 2 0 ((s1.2.2 ++ ([IntKind.i64.wrap (a4 - s1.1)] : (List Int))).length))], [.dead, .row false false true true 1 [vI (IntKind.i64.wrap (a4 - s1.1))], oR true 1 eI (s1.2.2 ++ ([IntKind.i64.wrap (a4 - s1.1)] : (List Int)))], 41⟩) false (by kernel_rfl) rfl (by kernel_rfl) rfl (by kernel_rfl) (by kernel_rfl) h (fun h => ?_)
      refine sz 1 5 (reg_end rfl (wg [0, 1, 5, 7, 6] [2] (rn ?_)))
      cases h
      exact ⟨_, rfl, (wk_gc (live := [0, 1, 5, 6, 7]) (keep := [0]) (by kernel_rfl))⟩
    refine wcF ?_
    refine wgc [5] [0] ⟨[(5, .ref 0 0 s1.2.2.length)], [oR true 1 eI s1.2.2], 41⟩ ?_
    refine wp_exit ?_
    cases h
    exact ⟨rfl, rfl⟩
  intro x15 h out hx
  subst hx
  refine wp_seq (reg_in ?_)
  refine sgz 1 1 (S := ⟨[(5, .ref 0 0 x15.length), (39, .ref 0 0 x15.length)], [oR true 1 eI x15], 41⟩) ?_
  refine callZ (as0 := [.ref 0 0 x15.length]) (ids := [0]) (by kernel_rfl) bodyB_76 (msnap_cons (snap_full rfl) msnap_nil (by rfl)) (fun x16 q17 => g_ref01_cut_ok x15 x16 q17) h (fun x16 q17 h => ?_)
  refine sz 1 3 (reg_end rfl (wg [4] [] ?_))
  cases h
  exact wp_ret (show fnOut _ _ _ _ = _ from by kernel_rfl)
theorem g_ref01_divide_ok (p0 : (List Int)) (p1 : (List Int)) (x : ((List Int) × (List Int))) (h : g_ref01_divide p0 p1 = some x) : CallOk Try.prog 74 [eL true eI p0, eL true eI p1] (.ret (.tup [eL true eI x.1, eL true eI x.2]) []) := by
  refine fn_ok [[.lst true], [.lst true]] Try.func74 rfl (by decide +kernel) rfl ?_
  unfold g_ref01_divide at h
  refine wp_eqB (base' := 0) (st' := ⟨[(0, eL true eI p0), (1, eL true eI p1)], [], 124⟩) rfl (by kernel_rfl) ?_
  refine sq (wp_seq (reg_in (sz 1 1 ?_)))
  refine lenZ (enc := eI) (l := p1) (fl := true) (by kernel_rfl) ?_
  refine sz 2 4 (reg_end rfl (wp_seq (wp_seq (wg [0, 1, 6] [] (reg_in (sz 1 1 ?_))))))
  refine lenL (enc := eI) (l := p0) (fl := true) (S := ⟨[(0, eL true eI p0), (1, eL true eI p1), (6, vI (IntKind.i64.wrap ((p1.length : Int) - 1))), (19, eL true eI p0), (20, vI (p0.length : Int))], [], 124⟩) (by kernel_rfl) (by kernel_rfl) ?_
  refine sz 2 4 (reg_end rfl ?_)
  refine wbr (S := fun b1 => ⟨[(0, eL true eI p0), (1, eL true eI p1), (6, vI (IntKind.i64.wrap ((p1.length : Int) - 1))), (19, eL true eI p0), (20, vI (p0.length : Int)), (21, vI (IntKind.i64.wrap ((p1.length : Int) - 1))), (22, vB b1)], [], 124⟩) h (fun q2 h => ?_) (fun q2 h => ?_)
  · refine wcT (wp_seq (wg [0] [] (reg_in ?_)))
    refine sgz 2 2 (S := ⟨[(0, eL true eI p0), (23, .emp), (24, eL true eI p0)], [], 124⟩) ?_
    refine appN (enc := eI) (m := p0) (w := 1) (bytes := 8) (nr' := true) (fl' := true) (a := .emp) (b := eL true eI p0) (rds := []) (S := ⟨[(0, eL true eI p0), (23, .emp), (24, eL true eI p0), (25, .ref 0 0 p0.length)], [oR true 1 eI p0], 124⟩) false (by kernel_rfl) (.inr rfl) (elems_lst (fun _ => rfl)) rfl (by kernel_rfl) (by kernel_rfl) h (fun h => ?_)
    refine sz 2 5 (reg_end rfl ?_)
    refine wgc [4, 5] [0] ⟨[(4, .nils), (5, .ref 0 0 p0.length)], [oR true 1 eI p0], 124⟩ ?_
    refine wp_wk (wk_snap 5 (st' := ⟨[(4, .nils), (5, eL true eI p0)], [.row false true true true 1 (List.map eI p0)], 124⟩) (y := eL true eI p0) (ids := [0]) rfl (snap_full rfl) (by kernel_rfl)) ?_
    cases h
    exact wp_ret (show fnOut _ _ _ _ = _ from by kernel_rfl)
  refine wcF (wp_skip (wp_seq (reg_in (sz 1 1 ?_))))
  refine lenZ (enc := eI) (l := p0) (fl := true) (by kernel_rfl) ?_
  refine sgz 2 4 (S := ⟨[(0, eL true eI p0), (1, eL true eI p1), (6, vI (IntKind.i64.wrap ((p1.length : Int) - 1))), (19, eL true eI p0), (20, vI (p0.length : Int)), (21, vI (IntKind.i64.wrap ((p1.length : Int) - 1))), (22, vB false), (26, eL true eI p0)] ++ [(27, vI (p0.length : Int)), (28, vI (IntKind.i64.wrap ((p1.length : Int) - 1))), (29, vI (IntKind.i64.wrap ((p0.length : Int) - (IntKind.i64.wrap ((p1.length : Int) - 1)))))], [], 124⟩) ?_
  refine mkL (enc := eI) (z := (0 : Int)) (z0 := vI 0) (n := IntKind.i64.wrap ((p0.length : Int) - (IntKind.i64.wrap ((p1.length : Int) - 1)))) (m := IntKind.i64.wrap ((p0.length : Int) - (IntKind.i64.wrap ((p1.length : Int) - 1)))) (w := 1) (bytes := 8) (S := ⟨[(0, eL true eI p0), (1, eL true eI p1), (6, vI (IntKind.i64.wrap ((p1.length : Int) - 1))), (19, eL true eI p0), (20, vI (p0.length : Int)), (21, vI (IntKind.i64.wrap ((p1.length : Int) - 1))), (22, vB false), (26, eL true eI p0)] ++ [(27, vI (p0.length : Int)), (28, vI (IntKind.i64.wrap ((p1.length : Int) - 1))), (29, vI (IntKind.i64.wrap ((p0.length : Int) - (IntKind.i64.wrap ((p1.length : Int) - 1))))), (30, .ref 0 0 ((List.replicate (Int.toNat (IntKind.i64.wrap ((p0.length : Int) - (IntKind.i64.wrap ((p1.length : Int) - 1))))) (0 : Int)).length))], [oR true 1 eI (List.replicate (Int.toNat (IntKind.i64.wrap ((p0.length : Int) - (IntKind.i64.wrap ((p1.length : Int) - 1))))) (0 : Int))], 124⟩) [] true (by kernel_rfl) rfl (by kernel_rfl) (by kernel_rfl) h (fun h => ?_)
  refine sz 1 6 (reg_end rfl (wp_seq (wg [0, 1, 6, 7] [0] (reg_in (sz 3 3 ?_)))))
  refine lenZ (enc := eI) (l := p0) (fl := true) (by kernel_rfl) ?_
  refine sgz 2 6 (S := ⟨[(0, eL true eI p0), (1, eL true eI p1), (6, vI (IntKind.i64.wrap ((p1.length : Int) - 1))), (7, .ref 0 0 ((List.replicate (Int.toNat (IntKind.i64.wrap ((p0.length : Int) - (IntKind.i64.wrap ((p1.length : Int) - 1))))) (0 : Int)).length))] ++ [(31, .emp), (32, eL true eI p0), (33, eL true eI p0), (34, vI (p0.length : Int)), (35, vI (IntKind.i64.wrap ((p1.length : Int) - 1))), (36, vI (IntKind.i64.wrap ((p0.length : Int) - (IntKind.i64.wrap ((p1.length : Int) - 1)))))], [oR true 1 eI (List.replicate (Int.toNat (IntKind.i64.wrap ((p0.length : Int) - (IntKind.i64.wrap ((p1.length : Int) - 1))))) (0 : Int))], 124⟩) ?_
  refine sliceL (enc := eI) (l := p0) (fl := true) (lo := (some (vI (IntKind.i64.wrap ((p0.length : Int) - (IntKind.i64.wrap ((p1.length : Int) - 1))))))) (hi := none) (a := IntKind.i64.wrap ((p0.length : Int) - (IntKind.i64.wrap ((p1.length : Int) - 1)))) (b := (p0.length : Int)) (w := 1) (S := ⟨[(0, eL true eI p0), (1, eL true eI p1), (6, vI (IntKind.i64.wrap ((p1.length : Int) - 1))), (7, .ref 0 0 ((List.replicate (Int.toNat (IntKind.i64.wrap ((p0.length : Int) - (IntKind.i64.wrap ((p1.length : Int) - 1))))) (0 : Int)).length))] ++ [(31, .emp), (32, eL true eI p0), (33, eL true eI p0), (34, vI (p0.length : Int)), (35, vI (IntKind.i64.wrap ((p1.length : Int) - 1))), (36, vI (IntKind.i64.wrap ((p0.length : Int) - (IntKind.i64.wrap ((p1.length : Int) - 1)))))] ++ [(37, eL true eI (sub p0 (IntKind.i64.wrap ((p0.length : Int) - (IntKind.i64.wrap ((p1.length : Int) - 1)))) (p0.length : Int)))], [oR true 1 eI (List.replicate (Int.toNat (IntKind.i64.wrap ((p0.length : Int) - (IntKind.i64.wrap ((p1.length : Int) - 1))))) (0 : Int))], 124⟩) (by kernel_rfl) (fun _ => rfl) rfl rfl (by kernel_rfl) h (fun h => ?_)
  refine appN (enc := eI) (m := (sub p0 (IntKind.i64.wrap ((p0.length : Int) - (IntKind.i64.wrap ((p1.length : Int) - 1)))) (p0.length : Int))) (w := 1) (bytes := 8) (nr' := true) (fl' := true) (a := .emp) (b := eL true eI (sub p0 (IntKind.i64.wrap ((p0.length : Int) - (IntKind.i64.wrap ((p1.length : Int) - 1)))) (p0.length : Int))) (rds := []) (S := ⟨[(0, eL true eI p0), (1, eL true eI p1), (6, vI (IntKind.i64.wrap ((p1.length : Int) - 1))), (7, .ref 0 0 ((List.replicate (Int.toNat (IntKind.i64.wrap ((p0.length : Int) - (IntKind.i64.wrap ((p1.length : Int) - 1))))) (0 : Int)).length))] ++ [(31, .emp), (32, eL true eI p0), (33, eL true eI p0), (34, vI (p0.length : Int)), (35, vI (IntKind.i64.wrap ((p1.length : Int) - 1))), (36, vI (IntKind.i64.wrap ((p0.length : Int) - (IntKind.i64.wrap ((p1.length : Int) - 1)))))] ++ [(37, eL true eI (sub p0 (IntKind.i64.wrap ((p0.length : Int) - (IntKind.i64.wrap ((p1.length : Int) - 1)))) (p0.length : Int))), (38, .ref 1 0 ((sub p0 (IntKind.i64.wrap ((p0.length : Int) - (IntKind.i64.wrap ((p1.length : Int) - 1)))) (p0.length : Int)).length))], [oR true 1 eI (List.replicate (Int.toNat (IntKind.i64.wrap ((p0.length : Int) - (IntKind.i64.wrap ((p1.length : Int) - 1))))) (0 : Int)), oR true 1 eI (sub p0 (IntKind.i64.wrap ((p0.length : Int) - (IntKind.i64.wrap ((p1.length : Int) - 1)))) (p0.length : Int))], 124⟩) false (by kernel_rfl) (.inr rfl) (elems_lst (fun _ => rfl)) rfl (by kernel_rfl) (by kernel_rfl) h (fun h => ?_)
  refine sz 1 9 (reg_end rfl (wp_seq (wp_seq (wg [0, 1, 6, 7, 8] [0, 1] (rn (wp_block ?_))))))
  refine wwh h (fun s3 => ⟨[(0, eL true eI p0), (1, eL true eI p1), (6, vI (IntKind.i64.wrap ((p1.length : Int) - 1))), (7, .ref 0 0 s3.2.2.length), (8, eL true eI s3.1), (9, vI s3.2.1)], [oR true 1 eI s3.2.2], 124⟩) (fun v out => out = .go (.exit 0) ⟨[(7, .ref 0 0 v.2.length), (8, eL true eI v.1)], [oR true 1 eI v.2], 124⟩) (wk_trans (wk_gc (live := [0, 1, 6, 7, 8, 9]) (keep := [0, 1]) (st' := ⟨[(0, eL true eI p0), (1, eL true eI p1), (6, vI (IntKind.i64.wrap ((p1.length : Int) - 1))), (7, .ref 0 0 ((List.replicate (Int.toNat (IntKind.i64.wrap ((p0.length : Int) - (IntKind.i64.wrap ((p1.length : Int) - 1))))) (0 : Int)).length)), (8, .ref 1 0 ((sub p0 (IntKind.i64.wrap ((p0.length : Int) - (IntKind.i64.wrap ((p1.length : Int) - 1)))) (p0.length : Int)).length))] ++ [(9, vI (IntKind.i64.wrap ((((List.replicate (Int.toNat (IntKind.i64.wrap ((p0.length : Int) - (IntKind.i64.wrap ((p1.length : Int) - 1))))) (0 : Int)).length) : Int) - 1)))], [oR true 1 eI (List.replicate (Int.toNat (IntKind.i64.wrap ((p0.length : Int) - (IntKind.i64.wrap ((p1.length : Int) - 1))))) (0 : Int)), oR true 1 eI (sub p0 (IntKind.i64.wrap ((p0.length : Int) - (IntKind.i64.wrap ((p1.length : Int) - 1)))) (p0.length : Int))], 124⟩) (by kernel_rfl)) (wk_trans (wk_snap (st' := ⟨[(0, eL true eI p0), (1, eL true eI p1), (6, vI (IntKind.i64.wrap ((p1.length : Int) - 1))), (7, .ref 0 0 ((List.replicate (Int.toNat (IntKind.i64.wrap ((p0.length : Int) - (IntKind.i64.wrap ((p1.length : Int) - 1))))) (0 : Int)).length))] ++ [(8, eL true eI (sub p0 (IntKind.i64.wrap ((p0.length : Int) - (IntKind.i64.wrap ((p1.length : Int) - 1)))) (p0.length : Int))), (9, vI (IntKind.i64.wrap ((((List.replicate (Int.toNat (IntKind.i64.wrap ((p0.length : Int) - (IntKind.i64.wrap ((p1.length : Int) - 1))))) (0 : Int)).length) : Int) - 1)))], [oR true 1 eI (List.replicate (Int.toNat (IntKind.i64.wrap ((p0.length : Int) - (IntKind.i64.wrap ((p1.length : Int) - 1))))) (0 : Int)), .row false true true true 1 (List.map eI (sub p0 (IntKind.i64.wrap ((p0.length : Int) - (IntKind.i64.wrap ((p1.length : Int) - 1)))) (p0.length : Int)))], 124⟩) 8 (y := eL true eI (sub p0 (IntKind.i64.wrap ((p0.length : Int) - (IntKind.i64.wrap ((p1.length : Int) - 1)))) (p0.length : Int))) (ids := [1]) rfl (snap_full rfl) (by kernel_rfl)) (wk_gc (live := [0, 1, 6, 7, 8, 9]) (keep := [0]) (by kernel_rfl)))) ?_ ?_
  · intro s3 o h
    unfold g_ref01_divide_b2 at h
    refine wp_seq (sq ?_)
    refine wbr (S := fun b4 => ⟨[(0, eL true eI p0), (1, eL true eI p1), (6, vI (IntKind.i64.wrap ((p1.length : Int) - 1))), (7, .ref 0 0 s3.2.2.length), (8, eL true eI s3.1), (9, vI s3.2.1)] ++ [(42, vI s3.2.1), (43, vB b4)], [oR true 1 eI s3.2.2], 124⟩) h (fun q5 h => ?_) (fun q5 h => ?_)
    · refine wcT (wp_skip (wp_seq (wp_block (wp_seq (reg_in (sz 2 2 ?_))))))
      refine bind_elim h (fun a6 q7 h => ?_)
      refine idxZ (enc := eI) (l := p0) (n := s3.2.1) (fl := true) (w := 1) (a := a6) (by kernel_rfl) q7 ?_
      refine sz 1 4 ?_
      refine sl false [] [] true rfl ?_
      refine sgz 1 6 (S := ⟨[(0, eL true eI p0), (1, eL true eI p1), (6, vI (IntKind.i64.wrap ((p1.length : Int) - 1))), (7, .ref 0 0 s3.2.2.length), (8, eL true eI s3.1), (9, vI s3.2.1)] ++ [(42, vI s3.2.1), (43, vB true), (46, eL true eI p0), (47, vI s3.2.1), (48, .fz [vI a6]), (49, vI a6), (50, .ref 1 0 1), (51, eL true eI s3.1)], [oR true 1 eI s3.2.2, .row false false true true 1 [vI a6]], 124⟩) ?_
      refine appR (enc := eI) (l := ([a6] : (List Int))) (m := s3.1) (w := 1) (bytes := 8) (ob := 1) (nr := true) (fl := true) (nr' := true) (fl' := true) (b := eL true eI s3.1) (rds := []) (S := ⟨[(0, eL true eI p0), (1, eL true eI p1), (6, vI (IntKind.i64.wrap ((p1.length : Int) - 1))), (7, .ref 0 0 s3.2.2.length), (8, eL true eI s3.1), (9, vI s3.2.1)] ++ [(42, vI s3.2.1), (43, vB true), (46, eL true eI p0), (47, vI s3.2.1), (48, .fz [vI a6]), (49, vI a6), (50, .ref 1 0 1), (51, eL true eI s3.1), (52, .ref 2 0 ((([a6] : (List Int)) ++ s3.1).length))], [oR true 1 eI s3.2.2, .dead, oR true 1 eI (([a6] : (List Int)) ++ s3.1)], 124⟩) false (by kernel_rfl) rfl (elems_lst (fun _ => rfl)) rfl (by kernel_rfl) (by kernel_rfl) h (fun h => ?_)
      refine callZ (as0 := [.ref 2 0 ((([a6] : (List Int)) ++ s3.1).length)]) (ids := [2]) (by kernel_rfl) bodyB_76 (msnap_cons (snap_full rfl) msnap_nil (by rfl)) (fun x8 q9 => g_ref01_cut_ok (([a6] : (List Int)) ++ s3.1) x8 q9) h (fun x8 q9 h => ?_)
      refine sz 1 9 (reg_end rfl (wp_seq (wg [0, 1, 6, 7, 8, 9] [0] (rn (wp_seq (sq (wp_block ?_)))))))
      refine wwh h (fun s10 => ⟨[(0, eL true eI p0), (1, eL true eI p1), (6, vI (IntKind.i64.wrap ((p1.length : Int) - 1))), (7, .ref 0 0 s3.2.2.length), (8, eL true eI x8), (9, vI s3.2.1), (10, vI s10.1), (11, vI s10.2.1), (12, vI s10.2.2)], [oR true 1 eI s3.2.2], 124⟩) (fun v out => out = .go (.exit 2) ⟨[(0, eL true eI p0), (1, eL true eI p1), (6, vI (IntKind.i64.wrap ((p1.length : Int) - 1))), (7, .ref 0 0 s3.2.2.length), (8, eL true eI x8), (9, vI s3.2.1)] ++ [(10, vI v.1), (11, vI v.2)], [oR true 1 eI s3.2.2], 124⟩) (wk_gc (live := [0, 1, 6, 7, 8, 9, 10, 11, 12]) (keep := [0]) (by kernel_rfl)) ?_ ?_
      · intro s10 o h
        unfold g_ref01_divide_b0 at h
        refine wp_seq (sq ?_)
        refine wbz h (fun q12 h => ?_) (fun q12 h => ?_)
        · refine wp_skip (wp_seq (wp_block (wp_seq (wg [0, 1, 6, 7, 8, 9, 10, 11, 12] [0] (rn (wp_seq (wp_seq (reg_in (sz 2 2 ?_)))))))))
          refine lenZ (enc := eI) (l := x8) (fl := true) (by kernel_rfl) ?_
          refine sz 1 4 (reg_end rfl ?_)
          refine wbz h (fun q14 h => ?_) (fun q14 h => ?_)
          · refine wg [0, 1, 6, 7, 8, 9, 10, 11, 12] [0] (reg_in (sz 3 3 ?_))
            refine bind_elim h (fun a15 q16 h => ?_)
            refine idxZ (enc := eI) (l := x8) (n := s10.2.2) (fl := true) (w := 1) (a := a15) (by kernel_rfl) q16 ?_
            refine sz 3 7 (reg_end rfl (wp_seq (wg [0, 1, 6, 7, 8, 9, 10, 11, 12] [0] (rn ?_))))
            refine wbr (S := fun b17 => ⟨[(0, eL true eI p0), (1, eL true eI p1), (6, vI (IntKind.i64.wrap ((p1.length : Int) - 1))), (7, .ref 0 0 s3.2.2.length), (8, eL true eI x8), (9, vI s3.2.1), (10, vI s10.1), (11, vI (IntKind.i64.wrap ((IntKind.i64.wrap (s10.2.1 * 10000)) + a15))), (12, vI s10.2.2)] ++ [(75, vI s10.2.2), (76, vI (IntKind.i64.wrap ((p1.length : Int) - 1))), (77, vB b17)], [oR true 1 eI s3.2.2], 124⟩) h (fun q18 h => ?_) (fun q18 h => ?_)
            · refine wcT (reg_in (sz 4 4 ?_))
              refine bind_elim h (fun a19 q20 h => ?_)
              refine idxZ (enc := eI) (l := p1) (n := s10.2.2) (fl := true) (w := 1) (a := a19) (by kernel_rfl) q20 ?_
              refine sz 3 8 (reg_end rfl (wg [0, 1, 6, 7, 8, 9, 10, 11, 12] [0] (rn ?_)))
              cases h
              exact ⟨_, rfl, (wk_gc (live := [0, 1, 6, 7, 8, 9, 10, 11, 12]) (keep := [0]) (by kernel_rfl))⟩
            refine wcF (wp_skip (rn ?_))
            cases h
            exact ⟨_, rfl, (wk_gc (live := [0, 1, 6, 7, 8, 9, 10, 11, 12]) (keep := [0]) (by kernel_rfl))⟩
          refine wp_skip (wp_seq (wg [0, 1, 6, 7, 8, 9, 10, 11, 12] [0] (rn ?_)))
          refine wbr (S := fun b21 => ⟨[(0, eL true eI p0), (1, eL true eI p1), (6, vI (IntKind.i64.wrap ((p1.length : Int) - 1))), (7, .ref 0 0 s3.2.2.length), (8, eL true eI x8), (9, vI s3.2.1), (10, vI s10.1), (11, vI (IntKind.i64.wrap (s10.2.1 * 10000))), (12, vI s10.2.2)] ++ [(75, vI s10.2.2), (76, vI (IntKind.i64.wrap ((p1.length : Int) - 1))), (77, vB b21)], [oR true 1 eI s3.2.2], 124⟩) h (fun q22 h => ?_) (fun q22 h => ?_)
          · refine wcT (reg_in (sz 4 4 ?_))
            refine bind_elim h (fun a23 q24 h => ?_)
            refine idxZ (enc := eI) (l := p1) (n := s10.2.2) (fl := true) (w := 1) (a := a23) (by kernel_rfl) q24 ?_
            refine sz 3 8 (reg_end rfl (wg [0, 1, 6, 7, 8, 9, 10, 11, 12] [0] (rn ?_)))
            cases h
            exact ⟨_, rfl, (wk_gc (live := [0, 1, 6, 7, 8, 9, 10, 11, 12]) (keep := [0]) (by kernel_rfl))⟩
          refine wcF (wp_skip (rn ?_))
          cases h
          exact ⟨_, rfl, (wk_gc (live := [0, 1, 6, 7, 8, 9, 10, 11, 12]) (keep := [0]) (by kernel_rfl))⟩
        refine wgc [0, 1, 6, 7, 8, 9, 10, 11] [0] ⟨[(0, eL true eI p0), (1, eL true eI p1), (6, vI (IntKind.i64.wrap ((p1.length : Int) - 1))), (7, .ref 0 0 s3.2.2.length), (8, eL true eI x8), (9, vI s3.2.1), (10, vI s10.1), (11, vI s10.2.1)], [oR true 1 eI s3.2.2], 124⟩ ?_
        refine wp_exit ?_
        cases h
        exact ⟨rfl, rfl⟩
      intro x26 h out hx
      subst hx
      refine wp_seq (rga hfol ?_)
      refine sgy 3 3 (S := ⟨[(0, eL true eI p0), (1, eL true eI p1), (6, vI (IntKind.i64.wrap ((p1.length : Int) - 1))), (7, .ref 0 0 s3.2.2.length), (8, eL true eI x8), (9, vI s3.2.1), (10, vI x26.1), (11, vI x26.2)] ++ [(85, vI x26.2), (86, vI x26.1), (87, vI (IntKind.i64.wrap (x26.1 + 1)))], [oR true 1 eI s3.2.2], 124⟩) ?_
      refine quoR (k := .i64) (a := x26.2) (b := IntKind.i64.wrap (x26.1 + 1)) (S := ⟨[(0, eL true eI p0), (1, eL true eI p1), (6, vI (IntKind.i64.wrap ((p1.length : Int) - 1))), (7, .ref 0 0 s3.2.2.length), (8, eL true eI x8), (9, vI s3.2.1), (10, vI x26.1), (11, vI x26.2)] ++ [(85, vI x26.2), (86, vI x26.1), (87, vI (IntKind.i64.wrap (x26.1 + 1))), (88, vI (IntKind.i64.wrap (Int.tdiv x26.2 (IntKind.i64.wrap (x26.1 + 1)))))], [oR true 1 eI s3.2.2], 124⟩) (by kernel_rfl) (by kernel_rfl) h (fun h => ?_)
      refine sgy 2 6 (S := ⟨[(0, eL true eI p0), (1, eL true eI p1), (6, vI (IntKind.i64.wrap ((p1.length : Int) - 1))), (7, .ref 0 0 s3.2.2.length), (8, eL true eI x8), (9, vI s3.2.1), (10, vI x26.1), (11, vI x26.2)] ++ [(85, vI x26.2), (86, vI x26.1), (87, vI (IntKind.i64.wrap (x26.1 + 1))), (88, vI (IntKind.i64.wrap (Int.tdiv x26.2 (IntKind.i64.wrap (x26.1 + 1))))), (89, vI x26.2), (90, vI x26.1)], [oR true 1 eI s3.2.2], 124⟩) ?_
      refine quoR (k := .i64) (a := x26.2) (b := x26.1) (S := ⟨[(0, eL true eI p0), (1, eL true eI p1), (6, vI (IntKind.i64.wrap ((p1.length : Int) - 1))), (7, .ref 0 0 s3.2.2.length), (8, eL true eI x8), (9, vI s3.2.1), (10, vI x26.1), (11, vI x26.2)] ++ [(85, vI x26.2), (86, vI x26.1), (87, vI (IntKind.i64.wrap (x26.1 + 1))), (88, vI (IntKind.i64.wrap (Int.tdiv x26.2 (IntKind.i64.wrap (x26.1 + 1))))), (89, vI x26.2), (90, vI x26.1)] ++ [(91, vI (IntKind.i64.wrap (Int.tdiv x26.2 x26.1)))], [oR true 1 eI s3.2.2], 124⟩) (by kernel_rfl) (by kernel_rfl) h (fun h => ?_)
      refine sy 2 9 (rgd (wp_seq (wp_block ?_)))
      refine wwh h (fun s27 => ⟨[(0, eL true eI p0), (1, eL true eI p1), (6, vI (IntKind.i64.wrap ((p1.length : Int) - 1))), (7, .ref 0 0 s3.2.2.length), (8, eL true eI x8), (9, vI s3.2.1), (13, vI s27.1), (14, vI s27.2)], [oR true 1 eI s3.2.2], 124⟩) (fun v out => out = .go (.exit 4) ⟨[(0, eL true eI p0), (1, eL true eI p1), (6, vI (IntKind.i64.wrap ((p1.length : Int) - 1))), (7, .ref 0 0 s3.2.2.length), (8, eL true eI x8), (9, vI s3.2.1)] ++ [(13, vI v)], [oR true 1 eI s3.2.2], 124⟩) (wk_gc (live := [0, 1, 6, 7, 8, 9, 13, 14]) (keep := [0]) (by kernel_rfl)) ?_ ?_
      · intro s27 o h
        unfold g_ref01_divide_b1 at h
        refine wp_seq (sq ?_)
        refine wbr (S := fun b28 => ⟨[(0, eL true eI p0), (1, eL true eI p1), (6, vI (IntKind.i64.wrap ((p1.length : Int) - 1))), (7, .ref 0 0 s3.2.2.length), (8, eL true eI x8), (9, vI s3.2.1), (13, vI s27.1), (14, vI s27.2)] ++ [(92, vI s27.1), (93, vI s27.2), (94, vB b28)], [oR true 1 eI s3.2.2], 124⟩) h (fun q29 h => ?_) (fun q29 h => ?_)
        · refine wcT (wp_skip (wp_block (sq (wp_seq (wg [0, 1, 6, 7, 8, 9, 13, 14, 15] [0] (reg_in (sz 2 2 ?_)))))))
          refine sgL false [] [] true (S := ⟨[(0, eL true eI p0), (1, eL true eI p1), (6, vI (IntKind.i64.wrap ((p1.length : Int) - 1))), (7, .ref 0 0 s3.2.2.length), (8, eL true eI x8), (9, vI s3.2.1), (13, vI s27.1), (14, vI s27.2), (15, vI (IntKind.i64.wrap (Int.tdiv (IntKind.i64.wrap ((IntKind.i64.wrap (s27.1 + s27.2)) + 1)) 2)))] ++ [(100, eL true eI p1), (101, vI (IntKind.i64.wrap (Int.tdiv (IntKind.i64.wrap ((IntKind.i64.wrap (s27.1 + s27.2)) + 1)) 2))), (102, .ref 1 0 1)], [oR true 1 eI s3.2.2, .row false false true true 1 [vI (IntKind.i64.wrap (Int.tdiv (IntKind.i64.wrap ((IntKind.i64.wrap (s27.1 + s27.2)) + 1)) 2))]], 124⟩) (by kernel_rfl) ?_
          refine callZ (as0 := [eL true eI p1, .ref 1 0 1]) (ids := [1]) (by kernel_rfl) bodyB_60 (msnap_cons rfl (msnap_cons rfl msnap_nil (by rfl)) (by rfl)) (fun x30 q31 => g_ref01_times_ok p1 [IntKind.i64.wrap (Int.tdiv (IntKind.i64.wrap ((IntKind.i64.wrap (s27.1 + s27.2)) + 1)) 2)] x30 q31) h (fun x30 q31 h => ?_)
          refine sz 1 5 ?_
          refine callY (f := 56) (as0 := [eL true eI x30, eL true eI x8]) (us := [eL true eI x30, eL true eI x8]) (G := g_ref01_compare x30 x8) (rv := fun x32 => vI x32) (ro := fun x32 => []) bodyB_56 (fun x32 q33 => g_ref01_compare_ok x30 x8 x32 q33) h (fun x32 q33 h => ?_)
          refine sz 1 7 (reg_end rfl ?_)
          refine wbz h (fun q35 h => ?_) (fun q35 h => ?_)
          · refine wg [0, 1, 6, 7, 8, 9, 14, 15] [0] (rn ?_)
            cases h
            exact ⟨_, rfl, (wk_gc (live := [0, 1, 6, 7, 8, 9, 13, 14]) (keep := [0]) (by kernel_rfl))⟩
          refine wg [0, 1, 6, 7, 8, 9, 13, 15] [0] (rn ?_)
          cases h
          exact ⟨_, rfl, (wk_gc (live := [0, 1, 6, 7, 8, 9, 13, 14]) (keep := [0]) (by kernel_rfl))⟩
        refine wcF ?_
        refine wgc [0, 1, 6, 7, 8, 9, 13] [0] ⟨[(0, eL true eI p0), (1, eL true eI p1), (6, vI (IntKind.i64.wrap ((p1.length : Int) - 1))), (7, .ref 0 0 s3.2.2.length), (8, eL true eI x8), (9, vI s3.2.1), (13, vI s27.1)], [oR true 1 eI s3.2.2], 124⟩ ?_
        refine wp_exit ?_
        cases h
        exact ⟨rfl, rfl⟩
      intro x37 h out hx
      subst hx
      refine wp_seq (reg_in (sz 3 3 ?_))
      refine bind_elim h (fun a38 q39 h => ?_)
      refine idxR' (enc := eI) (l := s3.2.2) (n := s3.2.1) (w := 1) (ob := 0) (ro := false) (nr := true) (fl := true) (a := a38) (S := ⟨[(0, eL true eI p0), (1, eL true eI p1), (6, vI (IntKind.i64.wrap ((p1.length : Int) - 1))), (7, .ref 0 0 s3.2.2.length), (8, eL true eI x8), (9, vI s3.2.1), (13, vI x37)] ++ [(110, .ref 0 0 s3.2.2.length), (111, vI s3.2.1), (112, vI x37), (113, .ptr 0 (Int.toNat s3.2.1) 0)], [oR true 1 eI s3.2.2], 124⟩) (by kernel_rfl) (by kernel_rfl) (by kernel_rfl) q39 ?_
      refine storeR (enc := eI) (l := s3.2.2) (n := s3.2.1) (ob := 0) (c := 0) (a := a38) (a' := x37) (v := vI x37) (S := ⟨[(0, eL true eI p0), (1, eL true eI p1), (6, vI (IntKind.i64.wrap ((p1.length : Int) - 1))), (7, .ref 0 0 s3.2.2.length), (8, eL true eI x8), (9, vI s3.2.1), (13, vI x37)] ++ [(110, .ref 0 0 s3.2.2.length), (111, vI s3.2.1), (112, vI x37), (113, .ptr 0 (Int.toNat s3.2.1) 0)], [oR true 1 eI (List.set s3.2.2 (Int.toNat s3.2.1) x37)], 124⟩) false (by kernel_rfl) rfl q39 (by kernel_rfl) rfl (by kernel_rfl) (by kernel_rfl) (by kernel_rfl) ?_
      refine rw_knN (n := s3.2.2.length) (m := (List.set s3.2.2 (Int.toNat s3.2.1) x37).length) (S := fun n46 => ⟨[(0, eL true eI p0), (1, eL true eI p1), (6, vI (IntKind.i64.wrap ((p1.length : Int) - 1))), (7, .ref 0 0 n46), (8, eL true eI x8), (9, vI s3.2.1), (13, vI x37), (110, .ref 0 0 n46), (111, vI s3.2.1), (112, vI x37), (113, .ptr 0 (Int.toNat s3.2.1) 0)], [oR true 1 eI (List.set s3.2.2 (Int.toNat s3.2.1) x37)], 124⟩) (by simp only [List.length_set]) ?_
      refine reg_end rfl (reg_in (sz 3 3 ?_))
      refine sgL false [] [] true (S := ⟨[(0, eL true eI p0), (1, eL true eI p1), (6, vI (IntKind.i64.wrap ((p1.length : Int) - 1))), (7, .ref 0 0 ((List.set s3.2.2 (Int.toNat s3.2.1) x37).length)), (8, eL true eI x8), (9, vI s3.2.1), (13, vI x37), (110, .ref 0 0 ((List.set s3.2.2 (Int.toNat s3.2.1) x37).length)), (111, vI s3.2.1), (112, vI x37), (113, .ptr 0 (Int.toNat s3.2.1) 0), (114, eL true eI x8), (115, eL true eI p1), (116, vI x37)] ++ [(117, .ref 1 0 1)], [oR true 1 eI (List.set s3.2.2 (Int.toNat s3.2.1) x37), .row false false true true 1 [vI x37]], 124⟩) (by kernel_rfl) ?_
      refine callZ (as0 := [.ref 1 0 1]) (ids := [1]) (by kernel_rfl) bodyB_76 (msnap_cons rfl msnap_nil (by rfl)) (fun x40 q41 => g_ref01_cut_ok [x37] x40 q41) h (fun x40 q41 h => ?_)
      refine callY (f := 60) (as0 := [eL true eI p1, eL true eI x40]) (us := [eL true eI p1, eL true eI x40]) (G := g_ref01_times p1 x40) (rv := fun x42 => eL true eI x42) (ro := fun x42 => []) bodyB_60 (fun x42 q43 => g_ref01_times_ok p1 x40 x42 q43) h (fun x42 q43 h => ?_)
      refine callY (f := 62) (as0 := [eL true eI x8, eL true eI x42]) (us := [eL true eI x8, eL true eI x42]) (G := g_ref01_minus x8 x42) (rv := fun x44 => eL true eI x44) (ro := fun x44 => []) bodyB_62 (fun x44 q45 => g_ref01_minus_ok x8 x42 x44 q45) h (fun x44 q45 h => ?_)
      refine sz 1 8 (reg_end rfl (wg [0, 1, 6, 7, 8, 9] [0] (rn ?_)))
      cases h
      exact ⟨_, rfl, (wk_gc (live := [0, 1, 6, 7, 8, 9]) (keep := [0]) (by kernel_rfl))⟩
    refine wcF ?_
    refine wgc [7, 8] [0] ⟨[(7, .ref 0 0 s3.2.2.length), (8, eL true eI s3.1)], [oR true 1 eI s3.2.2], 124⟩ ?_
    refine wp_exit ?_
    cases h
    exact ⟨rfl, rfl⟩
  intro x48 h out hx
  subst hx
  refine wp_seq (reg_in ?_)
  refine sgz 1 1 (S := ⟨[(7, .ref 0 0 x48.2.length), (8, eL true eI x48.1), (121, .ref 0 0 x48.2.length)], [oR true 1 eI x48.2], 124⟩) ?_
  refine callZ (as0 := [.ref 0 0 x48.2.length]) (ids := [0]) (by kernel_rfl) bodyB_76 (msnap_cons (snap_full rfl) msnap_nil (by rfl)) (fun x49 q50 => g_ref01_cut_ok x48.2 x49 q50) h (fun x49 q50 h => ?_)
  refine sz 3 5 (reg_end rfl (wg [4, 5] [] ?_))
  cases h
  exact wp_ret (show fnOut _ _ _ _ = _ from by kernel_rfl)
theorem g_ref01_gcd_ok (p0 : (List Int)) (p1 : (List Int)) (x : (List Int)) (h : g_ref01_gcd p0 p1 = some x) : CallOk Try.prog 57 [eL true eI p0, eL true eI p1] (.ret (eL true eI x) []) := by
  refine fn_ok [[.lst true]] Try.func57 rfl (by decide +kernel) rfl ?_
  unfold g_ref01_gcd at h
  refine wp_eqB (base' := 0) (st' := ⟨[(0, eL true eI p0), (1, eL true eI p1)], [], 19⟩) rfl (by kernel_rfl) ?_
  refine sq (wp_seq (wp_block ?_))
  refine wwh h (fun s1 => ⟨[(0, eL true eI s1.1), (1, eL true eI s1.2)], [], 19⟩) (fun v out => out = .go (.exit 0) ⟨[(0, eL true eI v)], [], 19⟩) (wk_gc (live := [0, 1]) (keep := []) (by kernel_rfl)) ?_ ?_
  · intro s1 o h
    unfold g_ref01_gcd_b0 at h
    refine wp_seq (wp_seq (reg_in (sz 1 1 ?_)))
    refine lenZ (enc := eI) (l := s1.2) (fl := true) (by kernel_rfl) ?_
    refine sz 1 3 (reg_end rfl ?_)
    refine wbr (S := fun b2 => ⟨[(0, eL true eI s1.1), (1, eL true eI s1.2), (7, eL true eI s1.2), (8, vI (s1.2.length : Int)), (9, vB b2)], [], 19⟩) h (fun q3 h => ?_) (fun q3 h => ?_)
    · refine wcT (wp_skip (wp_block (wp_seq (reg_in (sz 2 2 ?_)))))
      refine callY (f := 74) (as0 := [eL true eI s1.1, eL true eI s1.2]) (us := [eL true eI s1.1, eL true eI s1.2]) (G := g_ref01_divide s1.1 s1.2) (rv := fun x4 => .tup [eL true eI x4.1, eL true eI x4.2]) (ro := fun x4 => []) bodyB_74 (fun x4 q5 => g_ref01_divide_ok s1.1 s1.2 x4 q5) h (fun x4 q5 h => ?_)
      refine sz 5 8 (reg_end rfl (wp_seq (wg [1, 6] [] (rn (rn ?_)))))
      cases h
      exact ⟨_, rfl, (wk_gc (live := [0, 1]) (keep := []) (by kernel_rfl))⟩
    refine wcF ?_
    refine wgc [0] [] ⟨[(0, eL true eI s1.1)], [], 19⟩ ?_
    refine wp_exit ?_
    cases h
    exact ⟨rfl, rfl⟩
  intro x7 h out hx
  subst hx
  refine sq (wg [4] [] ?_)
  cases h
  exact wp_ret (show fnOut _ _ _ _ = _ from by kernel_rfl)
theorem g_ref01_value_ok (p0 : (List Int)) (x : (Int × Bool)) (h : g_ref01_value p0 = some x) : CallOk Try.prog 75 [eL true eI p0] (.ret (.tup [vI x.1, vB x.2]) []) := by
  refine fn_ok [] Try.func75 rfl (by decide +kernel) rfl ?_
  unfold g_ref01_value at h
  refine wp_eqB (base' := 0) (st' := ⟨[(0, eL true eI p0)], [], 25⟩) rfl (by kernel_rfl) ?_
  refine sq (wp_seq (wp_seq (reg_in (sz 1 1 ?_))))
  refine callR (as0 := [vI 4611686018427387903]) (ids := []) (S := fun x1 => ⟨[(0, eL true eI p0), (2, vI 0), (3, vB false), (6, eL true eI p0), (7, .ref 0 0 x1.length)], [oR true 1 eI x1], 25⟩) (by kernel_rfl) bodyB_58 (msnap_cons rfl msnap_nil) (fun x1 q2 => g_ref01_digits_ok 4611686018427387903 x1 q2) (fun _ => by kernel_rfl) h (fun x1 q2 h => ?_)
  refine callZ (as0 := [eL true eI p0, .ref 0 0 x1.length]) (ids := [0]) (by kernel_rfl) bodyB_56 (msnap_cons rfl (msnap_cons (snap_full rfl) msnap_nil (by rfl)) (by rfl)) (fun x3 q4 => g_ref01_compare_ok p0 x1 x3 q4) h (fun x3 q4 h => ?_)
  refine sz 1 4 (reg_end rfl ?_)
  refine wbz h (fun q6 h => ?_) (fun q6 h => ?_)
  · refine wp_seq (wg [] [] (rn (wg [2, 3] [] ?_)))
    cases h
    exact wp_ret (show fnOut _ _ _ _ = _ from by kernel_rfl)
  refine wp_skip (wp_seq (wg [0] [] (rn (wp_seq (wp_seq (reg_in (sz 1 1 ?_)))))))
  refine lenZ (enc := eI) (l := p0) (fl := true) (by kernel_rfl) ?_
  refine sz 2 4 (reg_end rfl (wp_block ?_))
  refine wwh h (fun s7 => ⟨[(0, eL true eI p0), (4, vI s7.1), (5, vI s7.2)], [], 25⟩) (fun v out => out = .go (.exit 0) ⟨[(4, vI v)], [], 25⟩) (wk_gc (live := [0, 4, 5]) (keep := []) (by kernel_rfl)) ?_ ?_
  · intro s7 o h
    unfold g_ref01_value_b0 at h
    refine wp_seq (sq ?_)
    refine wbr (S := fun b8 => ⟨[(0, eL true eI p0), (4, vI s7.1), (5, vI s7.2), (13, vI s7.2), (14, vB b8)], [], 25⟩) h (fun q9 h => ?_) (fun q9 h => ?_)
    · refine wcT (wp_skip (wp_seq (wp_block (reg_in (sz 4 4 ?_)))))
      refine bind_elim h (fun a10 q11 h => ?_)
      refine idxZ (enc := eI) (l := p0) (n := s7.2) (fl := true) (w := 1) (a := a10) (by kernel_rfl) q11 ?_
      refine sz 3 8 (reg_end rfl (wg [0, 4, 5] [] (rn ?_)))
      cases h
      exact ⟨_, rfl, (wk_gc (live := [0, 4, 5]) (keep := []) (by kernel_rfl))⟩
    refine wcF ?_
    refine wgc [4] [] ⟨[(4, vI s7.1)], [], 25⟩ ?_
    refine wp_exit ?_
    cases h
    exact ⟨rfl, rfl⟩
  intro x13 h out hx
  subst hx
  refine sq (wg [2, 3] [] ?_)
  cases h
  exact wp_ret (show fnOut _ _ _ _ = _ from by kernel_rfl)
theorem g_ref01_made_ok (p0 : Bool) (p1 : (List Int)) (p2 : (List Int)) (x : (Tapi_Q × Bool)) (h : g_ref01_made p0 p1 p2 = some x) : CallOk Try.prog 59 [vB p0, eL true eI p1, eL true eI p2] (.ret (.tup [.agg [vI x.1.N, vI x.1.D], vB x.2]) []) := by
  refine fn_ok [] Try.func59 rfl (by decide +kernel) rfl ?_
  unfold g_ref01_made at h
  refine wp_eqB (base' := 0) (st' := ⟨[(0, vB p0), (1, eL true eI p1), (2, eL true eI p2)], [], 51⟩) rfl (by kernel_rfl) ?_
  refine sq (wp_seq (reg_in (sz 2 2 ?_)))
  refine callY (f := 57) (as0 := [eL true eI p1, eL true eI p2]) (us := [eL true eI p1, eL true eI p2]) (G := g_ref01_gcd p1 p2) (rv := fun x1 => eL true eI x1) (ro := fun x1 => []) bodyB_57 (fun x1 q2 => g_ref01_gcd_ok p1 p2 x1 q2) h (fun x1 q2 h => ?_)
  refine sz 1 4 (reg_end rfl (wp_seq (reg_in (sz 2 2 ?_))))
  refine callY (f := 74) (as0 := [eL true eI p1, eL true eI x1]) (us := [eL true eI p1, eL true eI x1]) (G := g_ref01_divide p1 x1) (rv := fun x3 => .tup [eL true eI x3.1, eL true eI x3.2]) (ro := fun x3 => []) bodyB_74 (fun x3 q4 => g_ref01_divide_ok p1 x1 x3 q4) h (fun x3 q4 h => ?_)
  refine sgz 4 7 (S := ⟨[(0, vB p0), (1, eL true eI x3.1), (2, eL true eI p2), (6, .ptr 0 0 0), (7, vB false), (13, eL true eI p1), (14, eL true eI p2), (15, eL true eI x1), (8, eL true eI x1), (17, eL true eI p1), (18, eL true eI x1), (19, .tup [eL true eI x3.1, eL true eI x3.2]), (16, .tup [eL true eI x3.1, eL true eI x3.2]), (20, eL true eI x3.1), (21, eL true eI x3.2)], [oX true true 2 (.agg [vI 0, vI 0])], 51⟩) ?_
  refine reg_end rfl (wp_seq (wg [0, 1, 2, 6, 8] [0] (reg_in (sz 2 2 ?_))))
  refine callY (f := 74) (as0 := [eL true eI p2, eL true eI x1]) (us := [eL true eI p2, eL true eI x1]) (G := g_ref01_divide p2 x1) (rv := fun x5 => .tup [eL true eI x5.1, eL true eI x5.2]) (ro := fun x5 => []) bodyB_74 (fun x5 q6 => g_ref01_divide_ok p2 x1 x5 q6) h (fun x5 q6 h => ?_)
  refine sz 4 7 (reg_end rfl (wp_seq (wg [0, 1, 2, 6] [0] (reg_in (sz 1 1 ?_)))))
  refine callR (as0 := [eL true eI x3.1]) (ids := []) (S := fun x7 => ⟨[(0, vB p0), (1, eL true eI x3.1), (2, eL true eI x5.1), (6, .ptr 0 0 0), (29, eL true eI x3.1), (30, .tup [vI x7.1, vB x7.2])], [oX true true 2 (.agg [vI 0, vI 0])], 51⟩) (by kernel_rfl) bodyB_75 (msnap_cons rfl msnap_nil) (fun x7 q8 => g_ref01_value_ok x3.1 x7 q8) (fun _ => by kernel_rfl) h (fun x7 q8 h => ?_)
  refine sz 5 7 (reg_end rfl (wp_seq (wg [0, 2, 6, 9, 10] [0] (reg_in (sz 1 1 ?_)))))
  refine callY (f := 75) (as0 := [eL true eI x5.1]) (us := [eL true eI x5.1]) (G := g_ref01_value x5.1) (rv := fun x9 => .tup [vI x9.1, vB x9.2]) (ro := fun x9 => []) bodyB_75 (fun x9 q10 => g_ref01_value_ok x5.1 x9 q10) h (fun x9 q10 h => ?_)
  refine sz 5 7 (reg_end rfl (wp_seq (wp_seq (wg [0, 6, 9, 10, 11, 12] [0] (reg_in ?_)))))
  refine sgz 3 3 (S := ⟨[(0, vB p0), (6, .ptr 0 0 0), (9, vI x7.1), (10, vB x7.2), (11, vI x9.1), (12, vB x9.2), (38, vB x7.2), (39, vB (!x7.2)), (40, vB (!x7.2))], [oX true true 2 (.agg [vI 0, vI 0])], 51⟩) ?_
  refine rbr (S := fun b11 => ⟨[(0, vB p0), (6, .ptr 0 0 0), (9, vI x7.1), (10, vB x7.2), (11, vI x9.1), (12, vB x9.2), (38, vB x7.2), (39, vB b11), (40, vB b11)], [oX true true 2 (.agg [vI 0, vI 0])], 51⟩) h (fun q12 h => ?_) (fun q12 h => ?_)
  · refine sz 3 6 (reg_end rfl (wcT (wp_seq (wg [6] [0] (rn (wg [6, 7] [0] ?_))))))
    cases h
    exact wp_ret (show fnOut _ _ _ _ = _ from by kernel_rfl)
  refine sz 3 6 (reg_end rfl ?_)
  refine wbz h (fun q14 h => ?_) (fun q14 h => ?_)
  · refine wp_seq (wg [6] [0] (rn (wg [6, 7] [0] ?_)))
    cases h
    exact wp_ret (show fnOut _ _ _ _ = _ from by kernel_rfl)
  refine wp_skip (wp_seq (wp_seq (wg [0, 6, 9, 11] [0] (rn ?_))))
  refine wbr (S := fun b15 => ⟨[(0, vB b15), (6, .ptr 0 0 0), (9, vI x7.1), (11, vI x9.1), (45, vB b15)], [oX true true 2 (.agg [vI 0, vI 0])], 51⟩) h (fun q16 h => ?_) (fun q16 h => ?_)
  · refine wcT (rn (sq (wg [6, 7] [0] ?_)))
    cases h
    exact wp_ret (show fnOut _ _ _ _ = _ from by kernel_rfl)
  refine wcF (wp_skip (sq (wg [6, 7] [0] ?_)))
  cases h
  exact wp_ret (show fnOut _ _ _ _ = _ from by kernel_rfl)
theorem g_ref01_Make_ok (p0 : Int) (p1 : Int) (x : (Tapi_Q × Bool)) (h : g_ref01_Make p0 p1 = some x) : CallOk Try.prog 55 [vI p0, vI p1] (.ret (.tup [.agg [vI x.1.N, vI x.1.D], vB x.2]) []) := by
  refine fn_ok [] Try.func55 rfl (by decide +kernel) rfl ?_
  unfold g_ref01_Make at h
  refine wp_eqB (base' := 0) (st' := ⟨[(0, vI p0), (1, vI p1)], [], 18⟩) rfl (by kernel_rfl) ?_
  refine sq (wp_seq (reg_in (sz 6 6 ?_)))
  refine callY (f := 58) (as0 := [vI p0]) (us := [vI p0]) (G := g_ref01_digits p0) (rv := fun x1 => .ref 0 0 x1.length) (ro := fun x1 => [oR true 1 eI x1]) bodyB_58 (fun x1 q2 => g_ref01_digits_ok p0 x1 q2) h (fun x1 q2 h => ?_)
  refine sz 1 8 ?_
  refine callR (as0 := [vI p1]) (ids := []) (S := fun x3 => ⟨[(0, vI p0), (1, vI p1), (4, .ptr 0 0 0), (5, vB false), (6, vI p0), (7, vB (decide (p0 < 0))), (8, vI p1), (9, vB (decide (p1 < 0))), (10, vB (!((decide (p0 < 0)) == (decide (p1 < 0))))), (11, vI p0)] ++ [(12, .ref 1 0 x1.length), (13, vI p1), (14, .ref 2 0 x3.length)], [oX true true 2 (.agg [vI 0, vI 0]), oR true 1 eI x1, oR true 1 eI x3], 18⟩) (by kernel_rfl) bodyB_58 (msnap_cons rfl msnap_nil) (fun x3 q4 => g_ref01_digits_ok p1 x3 q4) (fun _ => by kernel_rfl) h (fun x3 q4 h => ?_)
  refine callZ (as0 := [vB (!((decide (p0 < 0)) == (decide (p1 < 0)))), .ref 1 0 x1.length, .ref 2 0 x3.length]) (ids := [1, 2]) (by kernel_rfl) bodyB_59 (msnap_cons rfl (msnap_cons (snap_full rfl) (msnap_cons (snap_full rfl) msnap_nil (by rfl)) (by rfl)) (by rfl)) (fun x5 q6 => g_ref01_made_ok (!((decide (p0 < 0)) == (decide (p1 < 0)))) x1 x3 x5 q6) h (fun x5 q6 h => ?_)
  refine sz 4 14 (reg_end rfl (wg [4, 5] [0] ?_))
  cases h
  exact wp_ret (show fnOut _ _ _ _ = _ from by kernel_rfl)
theorem g_ref01_Of_ok (p0 : Int) (p1 : Int) (x : Tapi_Q) (h : g_ref01_Of p0 p1 = some x) : CallOk Try.prog 28 [vI p0, vI p1] (.ret (.agg [vI x.N, vI x.D]) []) := by
  refine fn_ok [] Try.func28 rfl (by decide +kernel) rfl ?_
  unfold g_ref01_Of at h
  refine wp_eqB (base' := 0) (st' := ⟨[(0, vI p0), (1, vI p1)], [], 14⟩) rfl (by kernel_rfl) ?_
  refine sq (wp_seq (reg_in (sz 2 2 ?_)))
  refine callY (f := 55) (as0 := [vI p0, vI p1]) (us := [vI p0, vI p1]) (G := g_ref01_Make p0 p1) (rv := fun x1 => .tup [.agg [vI x1.1.N, vI x1.1.D], vB x1.2]) (ro := fun x1 => []) bodyB_55 (fun x1 q2 => g_ref01_Make_ok p0 p1 x1 q2) h (fun x1 q2 h => ?_)
  refine sz 6 9 (reg_end rfl (wp_seq (wg [4, 5] [0, 1] (rn ?_))))
  refine wgc [4] [0] ⟨[(4, .ptr 0 0 0)], [oX true true 2 (.agg [vI x1.1.N, vI x1.1.D])], 14⟩ ?_
  cases h
  exact wp_ret (show fnOut _ _ _ _ = _ from by kernel_rfl)
noncomputable abbrev s32_4 (p0 : Int) (s1 : (Int × (List Tapi_Q))) (p1 : (List Int)) : List (Nat × AV) := [(0, vI p0), (5, .ref 0 0 s1.2.length), (8, eL true eI p1), (9, vI (p1.length : Int)), (10, vI s1.1)]
theorem g_law14_over_ok (p0 : Int) (p1 : (List Int)) (x : (List Tapi_Q)) (h : g_law14_over p0 p1 = some x) : CallOk Try.prog 32 [vI p0, eL true eI p1] (.ret (.ref 0 0 x.length) [oR true 2 eTapi_Q x]) := by
  refine fn_ok [] Try.func32 rfl (by decide +kernel) rfl ?_
  unfold g_law14_over at h
  refine wp_eqB (base' := 0) (st' := ⟨[(0, vI p0), (1, eL true eI p1)], [], 22⟩) rfl (by kernel_rfl) ?_
  refine sq (sq (wp_seq (wp_seq (reg_in (sz 1 1 ?_)))))
  refine lenZ (enc := eI) (l := p1) (fl := true) (by kernel_rfl) ?_
  refine sz 1 3 (reg_end rfl (wp_block ?_))
  refine wwh h (fun s1 => ⟨(s32_4 p0 s1 p1), [oR true 2 eTapi_Q s1.2], 22⟩) (fun v out => out = .go (.exit 0) ⟨[(5, .ref 0 0 v.length)], [oR true 2 eTapi_Q v], 22⟩) (wk_trans (wk_gc (live := [0, 5, 8, 9, 10]) (keep := []) (st' := ⟨[(0, vI p0), (5, .nils), (8, eL true eI p1), (9, vI (p1.length : Int)), (10, vI 0)], [], 22⟩) (by kernel_rfl)) (wk_trans (wk_nil 5 2 true true (st' := ⟨[(0, vI p0), (5, .ref 0 0 0), (8, eL true eI p1), (9, vI (p1.length : Int)), (10, vI 0)], [.row false false true true 2 []], 22⟩) (by kernel_rfl)) (wk_gc (live := [0, 5, 8, 9, 10]) (keep := [0]) (by kernel_rfl)))) ?_ ?_
  · intro s1 o h
    unfold g_law14_over_b0 at h
    refine sq (wp_seq ?_)
    refine wbr (S := fun b2 => ⟨(s32_4 p0 s1 p1) ++ [(11, vB b2)], [oR true 2 eTapi_Q s1.2], 22⟩) h (fun q3 h => ?_) (fun q3 h => ?_)
    · refine wcT (wp_skip (wp_seq (wp_block (wp_seq (reg_in ?_)))))
      refine bind_elim h (fun a4 q5 h => ?_)
      refine idxZ (enc := eI) (l := p1) (n := s1.1) (fl := true) (w := 1) (a := a4) (by kernel_rfl) q5 ?_
      refine sz 2 3 (reg_end rfl (reg_in (sz 3 3 ?_)))
      refine callY (f := 28) (as0 := [vI a4, vI p0]) (us := [vI a4, vI p0]) (G := g_ref01_Of a4 p0) (rv := fun x6 => .agg [vI x6.N, vI x6.D]) (ro := fun x6 => []) bodyB_28 (fun x6 q7 => g_ref01_Of_ok a4 p0 x6 q7) h (fun x6 q7 h => ?_)
      refine sgL false [] [] true (S := ⟨(s32_4 p0 s1 p1) ++ [(11, vB true), (12, .fz [vI a4]), (13, vI a4), (7, vI a4), (14, .ref 0 0 s1.2.length), (15, vI a4), (16, vI p0), (17, .agg [vI x6.N, vI x6.D]), (18, .ref 1 0 1)], [oR true 2 eTapi_Q s1.2, .row false false true true 2 [.agg [vI x6.N, vI x6.D]]], 22⟩) (by kernel_rfl) ?_
      refine appR (enc := eTapi_Q) (l := s1.2) (m := ([x6] : (List Tapi_Q))) (w := 2) (bytes := 16) (ob := 0) (nr := true) (fl := true) (nr' := true) (fl' := true) (b := .ref 1 0 1) (rds := [1]) (S := ⟨(s32_4 p0 s1 p1) ++ [(11, vB true), (12, .fz [vI a4]), (13, vI a4), (7, vI a4), (14, .ref 0 0 s1.2.length), (15, vI a4), (16, vI p0), (17, .agg [vI x6.N, vI x6.D]), (18, .ref 1 0 1), (19, .ref 2 0 ((s1.2 ++ ([x6] : (List Tapi_Q))).length))], [.dead, .row false false true true 2 [.agg [vI x6.N, vI x6.D]], oR true 2 eTapi_Q (s1.2 ++ ([x6] : (List Tapi_Q)))], 22⟩) false (by kernel_rfl) rfl (by kernel_rfl) rfl (by kernel_rfl) (by kernel_rfl) h (fun h => ?_)
      refine sz 1 7 (reg_end rfl (wg [0, 5, 8, 9, 10] [2] (rn ?_)))
      cases h
      exact ⟨_, rfl, (wk_gc (live := [0, 5, 8, 9, 10]) (keep := [0]) (by kernel_rfl))⟩
    refine wcF ?_
    refine wgc [5] [0] ⟨[(5, .ref 0 0 s1.2.length)], [oR true 2 eTapi_Q s1.2], 22⟩ ?_
    refine wp_exit ?_
    cases h
    exact ⟨rfl, rfl⟩
  intro x9 h out hx
  subst hx
  refine sq (wg [4] [0] ?_)
  cases h
  exact wp_ret (show fnOut _ _ _ _ = _ from by kernel_rfl)
theorem g_law14_sample_ok  (x : Tapi_Lift) (h : g_law14_sample = some x) : CallOk Try.prog 33 [] (.ret (.agg [vI x.Grain, vI x.Count, vI x.One, .ref 0 0 x.Rows.length]) [oR false 1 (eL true eI) x.Rows]) := by
  refine fn_ok [] Try.func33 rfl (by decide +kernel) rfl ?_
  unfold g_law14_sample at h
  refine wp_eqB (base' := 0) (st' := ⟨[], [], 6⟩) rfl (by kernel_rfl) ?_
  refine wp_seq (reg_in ?_)
  refine sl false [] [] false rfl ?_
  refine reg_end rfl (wp_seq (reg_in ?_))
  refine sl false [] [] true rfl ?_
  refine sl false [] [] true rfl ?_
  refine sgL false [] [] true (S := ⟨[(0, .ptr 0 0 0), (1, .ref 1 0 2), (2, .ref 2 0 2), (3, .ref 3 0 2)], [oX true false 4 (.agg [vI 0, vI 0, vI 0, .nils]), .row false false true true 1 [vI 4, vI 0], .row false false true true 1 [vI 2, vI 2], .row false false true true 1 [vI 0, vI 4]], 6⟩) (by kernel_rfl) ?_
  refine bsR (parts := [(0, .lst true [vI 4, vI 0]), (1, .lst true [vI 2, vI 2]), (2, .lst true [vI 0, vI 4])]) (ids := [1, 2, 3]) (es := [(1, .row false true true true 1 [vI 4, vI 0]), (2, .row false true true true 1 [vI 2, vI 2]), (3, .row false true true true 1 [vI 0, vI 4]), (4, .row false false true (List.all [.lst true [vI 4, vI 0], .lst true [vI 2, vI 2], .lst true [vI 0, vI 4]] AV.scs) 1 [.lst true [vI 4, vI 0], .lst true [vI 2, vI 2], .lst true [vI 0, vI 4]])]) (S := ⟨[(0, .ptr 0 0 0), (1, .ref 1 0 2), (2, .ref 2 0 2), (3, .ref 3 0 2), (4, .ref 4 0 3)], [oX true false 4 (.agg [vI 0, vI 0, vI 0, .nils]), .row false true true true 1 [vI 4, vI 0], .row false true true true 1 [vI 2, vI 2], .row false true true true 1 [vI 0, vI 4], .row false false true false 1 [.lst true [vI 4, vI 0], .lst true [vI 2, vI 2], .lst true [vI 0, vI 4]]], 6⟩) [.lst true] false rfl (sparts_snap rfl rfl (sparts_snap rfl rfl (sparts_snap rfl rfl sparts_nil (by rfl)) (by rfl)) (by rfl)) (by kernel_rfl) ?_
  refine sz 2 6 (reg_end rfl (wg [0] [0, 4] ?_))
  cases h
  exact wp_ret (show fnOut _ _ _ _ = _ from by kernel_rfl)
noncomputable abbrev s10_12 (x3 : ((List Tapi_Q) × Int)) (x5 : ((List Tapi_Q) × Int)) (x7 : (Tapi_Q × Int)) (x9 : (Tapi_Q × Int)) (x11 : (Tapi_Net × Int)) : List (Nat × AV) := [(1, .ptr 0 0 0), (2, .ref 1 0 x3.1.length), (3, vI x3.2), (4, .ref 2 0 x5.1.length), (5, vI x5.2), (6, .ptr 3 0 0), (7, vI x7.2), (8, .ptr 4 0 0), (9, vI x9.2), (10, .ptr 5 0 0), (11, vI x11.2)]
noncomputable abbrev s10_14 (x1 : Tapi_Lift) (x3 : ((List Tapi_Q) × Int)) (x5 : ((List Tapi_Q) × Int)) (x7 : (Tapi_Q × Int)) (x9 : (Tapi_Q × Int)) (x11 : (Tapi_Net × Int)) (x15 : (List Tapi_Q)) : List AObj := [oX false false 4 (.agg [vI x1.Grain, vI x1.Count, vI x1.One, .ref 6 0 x1.Rows.length]), oR true 2 eTapi_Q x3.1, oR true 2 eTapi_Q x5.1, oX true true 2 (.agg [vI x7.1.N, vI x7.1.D]), oX true true 2 (.agg [vI x9.1.N, vI x9.1.D]), oX false false 2 (.agg [vI x11.1.Grain, .ref 7 0 x11.1.Nodes.length]), .row false true true false 1 (List.map (eL true eI) x1.Rows), oR false 3 eTapi_Node x11.1.Nodes, .row false false true true 1 [vI 9, vI 6, vI 1], oR true 2 eTapi_Q x15]
noncomputable abbrev s10_16 (x3 : ((List Tapi_Q) × Int)) (x5 : ((List Tapi_Q) × Int)) (x7 : (Tapi_Q × Int)) (x9 : (Tapi_Q × Int)) (x11 : (Tapi_Net × Int)) (x15 : (List Tapi_Q)) : List (Nat × AV) := (s10_12 x3 x5 x7 x9 x11) ++ [(38, vI x3.2), (39, vB true), (40, vB true), (41, .ref 1 0 x3.1.length), (42, .ref 8 0 3), (43, .ref 9 0 x15.length), (44, vB true), (45, vB true), (46, vB true), (47, vI x5.2), (48, vB true), (49, vB true), (50, vB true), (51, .ref 2 0 x5.1.length)]
noncomputable abbrev s10_17 (x1 : Tapi_Lift) (x3 : ((List Tapi_Q) × Int)) (x5 : ((List Tapi_Q) × Int)) (x7 : (Tapi_Q × Int)) (x9 : (Tapi_Q × Int)) (x11 : (Tapi_Net × Int)) (x15 : (List Tapi_Q)) (x23 : (List Tapi_Q)) : List AObj := [oX false false 4 (.agg [vI x1.Grain, vI x1.Count, vI x1.One, .ref 6 0 x1.Rows.length]), oR true 2 eTapi_Q x3.1, oR true 2 eTapi_Q x5.1, oX true true 2 (.agg [vI x7.1.N, vI x7.1.D]), oX true true 2 (.agg [vI x9.1.N, vI x9.1.D]), oX false false 2 (.agg [vI x11.1.Grain, .ref 7 0 x11.1.Nodes.length]), .row false true true false 1 (List.map (eL true eI) x1.Rows), oR false 3 eTapi_Node x11.1.Nodes, .row false false true true 1 [vI 9, vI 6, vI 1], oR true 2 eTapi_Q x15, .row false false true true 1 [vI 3, vI 5], oR true 2 eTapi_Q x23]
noncomputable abbrev s10_23 (x3 : ((List Tapi_Q) × Int)) (x5 : ((List Tapi_Q) × Int)) (x7 : (Tapi_Q × Int)) (x9 : (Tapi_Q × Int)) (x11 : (Tapi_Net × Int)) (x15 : (List Tapi_Q)) (x23 : (List Tapi_Q)) (x31 : Tapi_Q) (x37 : Tapi_Q) (x1 : Tapi_Lift) : List (Nat × AV) := [(1, .ptr 0 0 0), (2, .ref 1 0 x3.1.length), (3, vI x3.2), (4, .ref 2 0 x5.1.length), (5, vI x5.2), (6, .ptr 3 0 0), (7, vI x7.2), (8, .ptr 4 0 0), (9, vI x9.2), (10, .ptr 5 0 0), (11, vI x11.2), (38, vI x3.2), (39, vB true), (40, vB true), (41, .ref 1 0 x3.1.length), (42, .ref 8 0 3), (43, .ref 9 0 x15.length), (44, vB true), (45, vB true), (46, vB true), (47, vI x5.2), (48, vB true), (49, vB true), (50, vB true), (51, .ref 2 0 x5.1.length), (52, .ref 10 0 2), (53, .ref 11 0 x23.length), (54, vB true), (55, vB true), (56, vB true), (57, vI x7.2), (58, vB true), (59, vB true), (60, vB true), (61, .agg [vI x7.1.N, vI x7.1.D]), (62, .agg [vI x31.N, vI x31.D]), (63, vB true), (64, vB true), (65, vB true), (66, vI x9.2), (67, vB true), (68, vB true), (69, vB true), (70, .agg [vI x9.1.N, vI x9.1.D]), (71, .agg [vI x37.N, vI x37.D]), (72, vB true), (73, vB true), (74, vB true), (75, vI x11.2), (76, vB true), (77, vB true), (78, vB true), (79, .ptr 5 0 1), (80, .ref 7 0 x11.1.Nodes.length), (81, vI (x11.1.Nodes.length : Int)), (82, vB true), (83, vB true), (84, vB true), (85, .agg [vI x1.Grain, vI x1.Count, vI x1.One, .ref 6 0 x1.Rows.length])]
theorem g_law14_wakes_ok  (x : Bool) (h : g_law14_wakes = some x) : CallOk Try.prog 10 [] (.ret (vB x) []) := by
  refine fn_ok [] Try.func10 rfl (by decide +kernel) rfl ?_
  unfold g_law14_wakes at h
  refine wp_eqB (base' := 0) (st' := ⟨[], [], 94⟩) rfl (by kernel_rfl) ?_
  refine sq (wp_seq (reg_in ?_))
  refine callZ (as0 := []) (ids := []) (by kernel_rfl) bodyB_33 msnap_nil (fun x1 q2 => g_law14_sample_ok  x1 q2) h (fun x1 q2 h => ?_)
  refine sl false [] [] false rfl ?_
  refine sz 1 3 (reg_end rfl (wp_seq (reg_in ?_)))
  refine sgz 1 1 (S := ⟨[(0, vB false), (12, .agg [vI x1.Grain, vI x1.Count, vI x1.One, .ref 0 0 x1.Rows.length]), (1, .ptr 1 0 0), (14, .agg [vI x1.Grain, vI x1.Count, vI x1.One, .ref 0 0 x1.Rows.length])], [oR false 1 (eL true eI) x1.Rows, oX false false 4 (.agg [vI x1.Grain, vI x1.Count, vI x1.One, .ref 0 0 x1.Rows.length])], 94⟩) ?_
  refine callZ (as0 := [.agg [vI x1.Grain, vI x1.Count, vI x1.One, .ref 0 0 x1.Rows.length], vI 0, vI 0, vI (-1)]) (ids := [0]) (by kernel_rfl) bodyB_21 (msnap_cons (snap_agg (msnap_cons rfl (msnap_cons rfl (msnap_cons rfl (msnap_cons (snap_full rfl) msnap_nil (by rfl)) (by rfl)) (by rfl)) (by rfl))) (msnap_cons rfl (msnap_cons rfl (msnap_cons rfl msnap_nil (by rfl)) (by rfl)) (by rfl)) (by rfl)) (fun x3 q4 => g_lift_Ones_ok x1 0 0 (-1) x3 q4) h (fun x3 q4 h => ?_)
  refine sz 5 7 (reg_end rfl (wp_seq (wg [1, 2, 3] [1, 2, 0] (reg_in ?_))))
  refine sgz 1 1 (S := ⟨[(1, .ptr 0 0 0), (2, .ref 1 0 x3.1.length), (3, vI x3.2), (19, .agg [vI x1.Grain, vI x1.Count, vI x1.One, .ref 2 0 x1.Rows.length])], [oX false false 4 (.agg [vI x1.Grain, vI x1.Count, vI x1.One, .ref 2 0 x1.Rows.length]), oR true 2 eTapi_Q x3.1, oR false 1 (eL true eI) x1.Rows], 94⟩) ?_
  refine callZ (as0 := [.agg [vI x1.Grain, vI x1.Count, vI x1.One, .ref 2 0 x1.Rows.length], vI 0, vI 1]) (ids := [2]) (by kernel_rfl) bodyB_26 (msnap_cons (snap_agg (msnap_cons rfl (msnap_cons rfl (msnap_cons rfl (msnap_cons (snap_full rfl) msnap_nil (by rfl)) (by rfl)) (by rfl)) (by rfl))) (msnap_cons rfl (msnap_cons rfl msnap_nil (by rfl)) (by rfl)) (by rfl)) (fun x5 q6 => g_lift_Child_ok x1 0 1 x5 q6) h (fun x5 q6 h => ?_)
  refine sz 5 7 (reg_end rfl (wp_seq (wg [1, 2, 3, 4, 5] [0, 1, 3, 2] (reg_in ?_))))
  refine sgz 1 1 (S := ⟨[(1, .ptr 0 0 0), (2, .ref 1 0 x3.1.length), (3, vI x3.2), (4, .ref 2 0 x5.1.length), (5, vI x5.2)] ++ [(24, .agg [vI x1.Grain, vI x1.Count, vI x1.One, .ref 3 0 x1.Rows.length])], [oX false false 4 (.agg [vI x1.Grain, vI x1.Count, vI x1.One, .ref 3 0 x1.Rows.length]), oR true 2 eTapi_Q x3.1, oR true 2 eTapi_Q x5.1, oR false 1 (eL true eI) x1.Rows], 94⟩) ?_
  refine callZ (as0 := [.agg [vI x1.Grain, vI x1.Count, vI x1.One, .ref 3 0 x1.Rows.length], vI 0, vI 0, vI 1]) (ids := [3]) (by kernel_rfl) bodyB_24 (msnap_cons (snap_agg (msnap_cons rfl (msnap_cons rfl (msnap_cons rfl (msnap_cons (snap_full rfl) msnap_nil (by rfl)) (by rfl)) (by rfl)) (by rfl))) (msnap_cons rfl (msnap_cons rfl (msnap_cons rfl msnap_nil (by rfl)) (by rfl)) (by rfl)) (by rfl)) (fun x7 q8 => g_lift_Next_ok x1 0 0 1 x7 q8) h (fun x7 q8 h => ?_)
  refine sz 6 8 (reg_end rfl (wp_seq (wg [1, 2, 3, 4, 5, 6, 7] [0, 1, 2, 4, 3] (reg_in ?_))))
  refine sgz 1 1 (S := ⟨[(1, .ptr 0 0 0), (2, .ref 1 0 x3.1.length), (3, vI x3.2), (4, .ref 2 0 x5.1.length), (5, vI x5.2), (6, .ptr 3 0 0), (7, vI x7.2)] ++ [(29, .agg [vI x1.Grain, vI x1.Count, vI x1.One, .ref 4 0 x1.Rows.length])], [oX false false 4 (.agg [vI x1.Grain, vI x1.Count, vI x1.One, .ref 4 0 x1.Rows.length]), oR true 2 eTapi_Q x3.1, oR true 2 eTapi_Q x5.1, oX true true 2 (.agg [vI x7.1.N, vI x7.1.D]), oR false 1 (eL true eI) x1.Rows], 94⟩) ?_
  refine callZ (as0 := [.agg [vI x1.Grain, vI x1.Count, vI x1.One, .ref 4 0 x1.Rows.length], vI 1, vI 0, vI 1]) (ids := [4]) (by kernel_rfl) bodyB_19 (msnap_cons (snap_agg (msnap_cons rfl (msnap_cons rfl (msnap_cons rfl (msnap_cons (snap_full rfl) msnap_nil (by rfl)) (by rfl)) (by rfl)) (by rfl))) (msnap_cons rfl (msnap_cons rfl (msnap_cons rfl msnap_nil (by rfl)) (by rfl)) (by rfl)) (by rfl)) (fun x9 q10 => g_lift_Prob_ok x1 1 0 1 x9 q10) h (fun x9 q10 h => ?_)
  refine sz 6 8 (reg_end rfl (wp_seq (wg [1, 2, 3, 4, 5, 6, 7, 8, 9] [0, 1, 2, 3, 5, 4] (reg_in ?_))))
  refine sgz 1 1 (S := ⟨[(1, .ptr 0 0 0), (2, .ref 1 0 x3.1.length), (3, vI x3.2), (4, .ref 2 0 x5.1.length), (5, vI x5.2), (6, .ptr 3 0 0), (7, vI x7.2), (8, .ptr 4 0 0), (9, vI x9.2)] ++ [(34, .agg [vI x1.Grain, vI x1.Count, vI x1.One, .ref 5 0 x1.Rows.length])], [oX false false 4 (.agg [vI x1.Grain, vI x1.Count, vI x1.One, .ref 5 0 x1.Rows.length]), oR true 2 eTapi_Q x3.1, oR true 2 eTapi_Q x5.1, oX true true 2 (.agg [vI x7.1.N, vI x7.1.D]), oX true true 2 (.agg [vI x9.1.N, vI x9.1.D]), oR false 1 (eL true eI) x1.Rows], 94⟩) ?_
  refine callZ (as0 := [.agg [vI x1.Grain, vI x1.Count, vI x1.One, .ref 5 0 x1.Rows.length]]) (ids := [5]) (by kernel_rfl) bodyB_13 (msnap_cons (snap_agg (msnap_cons rfl (msnap_cons rfl (msnap_cons rfl (msnap_cons (snap_full rfl) msnap_nil (by rfl)) (by rfl)) (by rfl)) (by rfl))) msnap_nil (by rfl)) (fun x11 q12 => g_lift_Ground_ok x1 x11 q12) h (fun x11 q12 h => ?_)
  refine sz 3 5 ?_
  refine sl false [] [] false rfl ?_
  refine sz 2 8 (reg_end rfl (wp_seq (wg [1, 2, 3, 4, 5, 6, 7, 8, 9, 10, 11] [0, 1, 2, 3, 4, 7, 5, 6] (rga hfol (sy 3 3 ?_)))))
  refine rbr (S := fun b13 => ⟨(s10_12 x3 x5 x7 x9 x11) ++ [(38, vI x3.2), (39, vB b13), (40, vB b13)], [oX false false 4 (.agg [vI x1.Grain, vI x1.Count, vI x1.One, .ref 6 0 x1.Rows.length]), oR true 2 eTapi_Q x3.1, oR true 2 eTapi_Q x5.1, oX true true 2 (.agg [vI x7.1.N, vI x7.1.D]), oX true true 2 (.agg [vI x9.1.N, vI x9.1.D]), oX false false 2 (.agg [vI x11.1.Grain, .ref 7 0 x11.1.Nodes.length]), .row false true true false 1 (List.map (eL true eI) x1.Rows), oR false 3 eTapi_Node x11.1.Nodes], 94⟩) h (fun q14 h => ?_) (fun q14 h => ?_)
  · refine sy 1 4 ?_
    refine sgL false [] [] true (S := ⟨(s10_12 x3 x5 x7 x9 x11) ++ [(38, vI x3.2), (39, vB true), (40, vB true), (41, .ref 1 0 x3.1.length), (42, .ref 8 0 3)], [oX false false 4 (.agg [vI x1.Grain, vI x1.Count, vI x1.One, .ref 6 0 x1.Rows.length]), oR true 2 eTapi_Q x3.1, oR true 2 eTapi_Q x5.1, oX true true 2 (.agg [vI x7.1.N, vI x7.1.D]), oX true true 2 (.agg [vI x9.1.N, vI x9.1.D]), oX false false 2 (.agg [vI x11.1.Grain, .ref 7 0 x11.1.Nodes.length]), .row false true true false 1 (List.map (eL true eI) x1.Rows), oR false 3 eTapi_Node x11.1.Nodes, .row false false true true 1 [vI 9, vI 6, vI 1]], 94⟩) (by kernel_rfl) ?_
    refine callR (as0 := [vI 16, .ref 8 0 3]) (ids := [8]) (S := fun x15 => ⟨(s10_12 x3 x5 x7 x9 x11) ++ [(38, vI x3.2), (39, vB true), (40, vB true), (41, .ref 1 0 x3.1.length), (42, .ref 8 0 3), (43, .ref 9 0 x15.length)], (s10_14 x1 x3 x5 x7 x9 x11 x15), 94⟩) (by kernel_rfl) bodyB_32 (msnap_cons rfl (msnap_cons rfl msnap_nil (by rfl)) (by rfl)) (fun x15 q16 => g_law14_over_ok 16 [9, 6, 1] x15 q16) (fun _ => by as_aux_lemma => kernel_rfl) h (fun x15 q16 h => ?_)
    refine callZ (as0 := [.ref 1 0 x3.1.length, .ref 9 0 x15.length]) (ids := [1, 9]) (by kernel_rfl) bodyB_23 (msnap_cons (snap_full rfl) (msnap_cons (snap_full rfl) msnap_nil (by rfl)) (by rfl)) (fun x17 q18 => g_slices_Equal_api_Q_api_Q_ok x3.1 x15 x17 q18) h (fun x17 q18 h => ?_)
    refine sy 2 9 ?_
    refine rbr (S := fun b19 => ⟨(s10_12 x3 x5 x7 x9 x11) ++ [(38, vI x3.2), (39, vB true), (40, vB true), (41, .ref 1 0 x3.1.length), (42, .ref 8 0 3), (43, .ref 9 0 x15.length), (44, vB b19), (45, vB b19), (46, vB b19)], (s10_14 x1 x3 x5 x7 x9 x11 x15), 94⟩) h (fun q20 h => ?_) (fun q20 h => ?_)
    · refine sy 4 13 ?_
      refine rbr (S := fun b21 => ⟨(s10_12 x3 x5 x7 x9 x11) ++ [(38, vI x3.2), (39, vB true), (40, vB true), (41, .ref 1 0 x3.1.length), (42, .ref 8 0 3), (43, .ref 9 0 x15.length), (44, vB true), (45, vB true), (46, vB true), (47, vI x5.2), (48, vB b21), (49, vB b21), (50, vB b21)], (s10_14 x1 x3 x5 x7 x9 x11 x15), 94⟩) h (fun q22 h => ?_) (fun q22 h => ?_)
      · refine sy 1 14 ?_
        refine sgL false [] [] true (S := ⟨(s10_16 x3 x5 x7 x9 x11 x15) ++ [(52, .ref 10 0 2)], [oX false false 4 (.agg [vI x1.Grain, vI x1.Count, vI x1.One, .ref 6 0 x1.Rows.length]), oR true 2 eTapi_Q x3.1, oR true 2 eTapi_Q x5.1, oX true true 2 (.agg [vI x7.1.N, vI x7.1.D]), oX true true 2 (.agg [vI x9.1.N, vI x9.1.D]), oX false false 2 (.agg [vI x11.1.Grain, .ref 7 0 x11.1.Nodes.length]), .row false true true false 1 (List.map (eL true eI) x1.Rows), oR false 3 eTapi_Node x11.1.Nodes, .row false false true true 1 [vI 9, vI 6, vI 1], oR true 2 eTapi_Q x15, .row false false true true 1 [vI 3, vI 5]], 94⟩) (by kernel_rfl) ?_
        refine callR (as0 := [vI 8, .ref 10 0 2]) (ids := [10]) (S := fun x23 => ⟨(s10_16 x3 x5 x7 x9 x11 x15) ++ [(52, .ref 10 0 2), (53, .ref 11 0 x23.length)], (s10_17 x1 x3 x5 x7 x9 x11 x15 x23), 94⟩) (by kernel_rfl) bodyB_32 (msnap_cons rfl (msnap_cons rfl msnap_nil (by rfl)) (by rfl)) (fun x23 q24 => g_law14_over_ok 8 [3, 5] x23 q24) (fun _ => by as_aux_lemma => kernel_rfl) h (fun x23 q24 h => ?_)
        refine callZ (as0 := [.ref 2 0 x5.1.length, .ref 11 0 x23.length]) (ids := [2, 11]) (by kernel_rfl) bodyB_23 (msnap_cons (snap_full rfl) (msnap_cons (snap_full rfl) msnap_nil (by rfl)) (by rfl)) (fun x25 q26 => g_slices_Equal_api_Q_api_Q_ok x5.1 x23 x25 q26) h (fun x25 q26 h => ?_)
        refine sy 2 19 ?_
        refine rbr (S := fun b27 => ⟨(s10_16 x3 x5 x7 x9 x11 x15) ++ [(52, .ref 10 0 2), (53, .ref 11 0 x23.length), (54, vB b27), (55, vB b27), (56, vB b27)], (s10_17 x1 x3 x5 x7 x9 x11 x15 x23), 94⟩) h (fun q28 h => ?_) (fun q28 h => ?_)
        · refine sy 4 23 ?_
          refine rbr (S := fun b29 => ⟨(s10_16 x3 x5 x7 x9 x11 x15) ++ [(52, .ref 10 0 2), (53, .ref 11 0 x23.length), (54, vB true), (55, vB true), (56, vB true), (57, vI x7.2), (58, vB b29), (59, vB b29), (60, vB b29)], (s10_17 x1 x3 x5 x7 x9 x11 x15 x23), 94⟩) h (fun q30 h => ?_) (fun q30 h => ?_)
          · refine sy 1 24 ?_
            refine callY (f := 28) (as0 := [vI 5, vI 8]) (us := [vI 5, vI 8]) (G := g_ref01_Of 5 8) (rv := fun x31 => .agg [vI x31.N, vI x31.D]) (ro := fun x31 => []) bodyB_28 (fun x31 q32 => g_ref01_Of_ok 5 8 x31 q32) h (fun x31 q32 h => ?_)
            refine sy 3 28 ?_
            refine rbr (S := fun b33 => ⟨(s10_16 x3 x5 x7 x9 x11 x15) ++ [(52, .ref 10 0 2), (53, .ref 11 0 x23.length), (54, vB true), (55, vB true), (56, vB true), (57, vI x7.2), (58, vB true), (59, vB true), (60, vB true), (61, .agg [vI x7.1.N, vI x7.1.D])] ++ [(62, .agg [vI x31.N, vI x31.D]), (63, vB b33), (64, vB b33), (65, vB b33)], (s10_17 x1 x3 x5 x7 x9 x11 x15 x23), 94⟩) h (fun q34 h => ?_) (fun q34 h => ?_)
            · refine sy 4 32 ?_
              refine rbr (S := fun b35 => ⟨(s10_16 x3 x5 x7 x9 x11 x15) ++ [(52, .ref 10 0 2), (53, .ref 11 0 x23.length), (54, vB true), (55, vB true), (56, vB true), (57, vI x7.2), (58, vB true), (59, vB true), (60, vB true), (61, .agg [vI x7.1.N, vI x7.1.D])] ++ [(62, .agg [vI x31.N, vI x31.D]), (63, vB true), (64, vB true), (65, vB true), (66, vI x9.2), (67, vB b35), (68, vB b35), (69, vB b35)], (s10_17 x1 x3 x5 x7 x9 x11 x15 x23), 94⟩) h (fun q36 h => ?_) (fun q36 h => ?_)
              · refine sy 1 33 ?_
                refine callY (f := 28) (as0 := [vI 3, vI 32]) (us := [vI 3, vI 32]) (G := g_ref01_Of 3 32) (rv := fun x37 => .agg [vI x37.N, vI x37.D]) (ro := fun x37 => []) bodyB_28 (fun x37 q38 => g_ref01_Of_ok 3 32 x37 q38) h (fun x37 q38 h => ?_)
                refine sy 3 37 ?_
                refine rbr (S := fun b39 => ⟨[(1, .ptr 0 0 0), (2, .ref 1 0 x3.1.length), (3, vI x3.2), (4, .ref 2 0 x5.1.length), (5, vI x5.2), (6, .ptr 3 0 0), (7, vI x7.2), (8, .ptr 4 0 0), (9, vI x9.2), (10, .ptr 5 0 0), (11, vI x11.2), (38, vI x3.2), (39, vB true), (40, vB true), (41, .ref 1 0 x3.1.length), (42, .ref 8 0 3), (43, .ref 9 0 x15.length), (44, vB true), (45, vB true), (46, vB true), (47, vI x5.2), (48, vB true), (49, vB true), (50, vB true), (51, .ref 2 0 x5.1.length), (52, .ref 10 0 2), (53, .ref 11 0 x23.length), (54, vB true), (55, vB true), (56, vB true), (57, vI x7.2), (58, vB true), (59, vB true), (60, vB true), (61, .agg [vI x7.1.N, vI x7.1.D]), (62, .agg [vI x31.N, vI x31.D]), (63, vB true), (64, vB true), (65, vB true), (66, vI x9.2), (67, vB true), (68, vB true), (69, vB true), (70, .agg [vI x9.1.N, vI x9.1.D]), (71, .agg [vI x37.N, vI x37.D]), (72, vB b39), (73, vB b39), (74, vB b39)], (s10_17 x1 x3 x5 x7 x9 x11 x15 x23), 94⟩) h (fun q40 h => ?_) (fun q40 h => ?_)
                · refine sy 4 41 ?_
                  refine rbr (S := fun b41 => ⟨[(1, .ptr 0 0 0), (2, .ref 1 0 x3.1.length), (3, vI x3.2), (4, .ref 2 0 x5.1.length), (5, vI x5.2), (6, .ptr 3 0 0), (7, vI x7.2), (8, .ptr 4 0 0), (9, vI x9.2), (10, .ptr 5 0 0), (11, vI x11.2), (38, vI x3.2), (39, vB true), (40, vB true), (41, .ref 1 0 x3.1.length), (42, .ref 8 0 3), (43, .ref 9 0 x15.length), (44, vB true), (45, vB true), (46, vB true), (47, vI x5.2), (48, vB true), (49, vB true), (50, vB true), (51, .ref 2 0 x5.1.length), (52, .ref 10 0 2), (53, .ref 11 0 x23.length), (54, vB true), (55, vB true), (56, vB true), (57, vI x7.2), (58, vB true), (59, vB true), (60, vB true), (61, .agg [vI x7.1.N, vI x7.1.D]), (62, .agg [vI x31.N, vI x31.D]), (63, vB true), (64, vB true), (65, vB true), (66, vI x9.2), (67, vB true), (68, vB true), (69, vB true), (70, .agg [vI x9.1.N, vI x9.1.D]), (71, .agg [vI x37.N, vI x37.D]), (72, vB true), (73, vB true), (74, vB true), (75, vI x11.2), (76, vB b41), (77, vB b41), (78, vB b41)], (s10_17 x1 x3 x5 x7 x9 x11 x15 x23), 94⟩) h (fun q42 h => ?_) (fun q42 h => ?_)
                  · refine sy 6 47 ?_
                    refine rbr (S := fun b43 => ⟨[(1, .ptr 0 0 0), (2, .ref 1 0 x3.1.length), (3, vI x3.2), (4, .ref 2 0 x5.1.length), (5, vI x5.2), (6, .ptr 3 0 0), (7, vI x7.2), (8, .ptr 4 0 0), (9, vI x9.2), (10, .ptr 5 0 0), (11, vI x11.2), (38, vI x3.2), (39, vB true), (40, vB true), (41, .ref 1 0 x3.1.length), (42, .ref 8 0 3), (43, .ref 9 0 x15.length), (44, vB true), (45, vB true), (46, vB true), (47, vI x5.2), (48, vB true), (49, vB true), (50, vB true), (51, .ref 2 0 x5.1.length), (52, .ref 10 0 2), (53, .ref 11 0 x23.length), (54, vB true), (55, vB true), (56, vB true), (57, vI x7.2), (58, vB true), (59, vB true), (60, vB true), (61, .agg [vI x7.1.N, vI x7.1.D]), (62, .agg [vI x31.N, vI x31.D]), (63, vB true), (64, vB true), (65, vB true), (66, vI x9.2), (67, vB true), (68, vB true), (69, vB true), (70, .agg [vI x9.1.N, vI x9.1.D]), (71, .agg [vI x37.N, vI x37.D]), (72, vB true), (73, vB true), (74, vB true), (75, vI x11.2), (76, vB true), (77, vB true), (78, vB true), (79, .ptr 5 0 1), (80, .ref 7 0 x11.1.Nodes.length), (81, vI (x11.1.Nodes.length : Int)), (82, vB b43), (83, vB b43), (84, vB b43)], (s10_17 x1 x3 x5 x7 x9 x11 x15 x23), 94⟩) h (fun q44 h => ?_) (fun q44 h => ?_)
                    · refine sgy 1 48 (S := ⟨(s10_23 x3 x5 x7 x9 x11 x15 x23 x31 x37 x1), (s10_17 x1 x3 x5 x7 x9 x11 x15 x23), 94⟩) ?_
                      refine callZ (as0 := [.agg [vI x1.Grain, vI x1.Count, vI x1.One, .ref 6 0 x1.Rows.length]]) (ids := [6]) (by kernel_rfl) bodyB_14 (msnap_cons (snap_agg (msnap_cons rfl (msnap_cons rfl (msnap_cons rfl (msnap_cons (snap_full rfl) msnap_nil (by rfl)) (by rfl)) (by rfl)) (by rfl))) msnap_nil (by rfl)) (fun x45 q46 => g_lift_Check_ok x1 x45 q46) h (fun x45 q46 h => ?_)
                      refine sy 3 52 ?_
                      refine rbr (S := fun b47 => ⟨(s10_23 x3 x5 x7 x9 x11 x15 x23 x31 x37 x1) ++ [(86, vI x45), (87, vB b47), (88, vB b47), (89, vB b47)], (s10_17 x1 x3 x5 x7 x9 x11 x15 x23), 94⟩) h (fun q48 h => ?_) (fun q48 h => ?_)
                      · refine sy 1 53 ?_
                        refine callZ (as0 := [.agg [vI 0, vI 0, vI 0, .nils]]) (ids := []) (by kernel_rfl) bodyB_14 (msnap_cons (snap_agg (msnap_cons rfl (msnap_cons rfl (msnap_cons rfl (msnap_cons rfl msnap_nil))))) msnap_nil) (fun x49 q50 => CallOk.args [[.keep, .keep, .keep, .lst false]] (g_lift_Check_ok (Tapi_Lift.mk 0 0 0 []) x49 q50)) h (fun x49 q50 h => ?_)
                        refine sy 3 57 (rgd (wg [0] [] ?_))
                        cases h
                        exact wp_ret (show fnOut _ _ _ _ = _ from by kernel_rfl)
                      refine sy 5 57 (rgd (wg [0] [] ?_))
                      cases h
                      exact wp_ret (show fnOut _ _ _ _ = _ from by kernel_rfl)
                    refine sy 10 57 (rgd (wg [0] [] ?_))
                    cases h
                    exact wp_ret (show fnOut _ _ _ _ = _ from by kernel_rfl)
                  refine sy 16 57 (rgd (wg [0] [] ?_))
                  cases h
                  exact wp_ret (show fnOut _ _ _ _ = _ from by kernel_rfl)
                refine sy 20 57 (rgd (wg [0] [] ?_))
                cases h
                exact wp_ret (show fnOut _ _ _ _ = _ from by kernel_rfl)
              refine sy 25 57 (rgd (wg [0] [] ?_))
              cases h
              exact wp_ret (show fnOut _ _ _ _ = _ from by kernel_rfl)
            refine sy 29 57 (rgd (wg [0] [] ?_))
            cases h
            exact wp_ret (show fnOut _ _ _ _ = _ from by kernel_rfl)
          refine sy 34 57 (rgd (wg [0] [] ?_))
          cases h
          exact wp_ret (show fnOut _ _ _ _ = _ from by kernel_rfl)
        refine sy 38 57 (rgd (wg [0] [] ?_))
        cases h
        exact wp_ret (show fnOut _ _ _ _ = _ from by kernel_rfl)
      refine sy 44 57 (rgd (wg [0] [] ?_))
      cases h
      exact wp_ret (show fnOut _ _ _ _ = _ from by kernel_rfl)
    refine sy 48 57 (rgd (wg [0] [] ?_))
    cases h
    exact wp_ret (show fnOut _ _ _ _ = _ from by kernel_rfl)
  refine sy 54 57 (rgd (wg [0] [] ?_))
  cases h
  exact wp_ret (show fnOut _ _ _ _ = _ from by kernel_rfl)
noncomputable abbrev s17_1 (p0 : Tharuspexlaw14_Known) (p1 : Tapi_Lift) : List (Nat × AV) := [(0, .agg [vI p0.Zeros, vI p0.Ones, vI p0.Child]), (1, .agg [vI p1.Grain, vI p1.Count, vI p1.One, eL false (eL true eI) p1.Rows])]
noncomputable abbrev s17_3 (p0 : Tharuspexlaw14_Known) (p1 : Tapi_Lift) : List AObj := [oX true true 3 (.agg [vI p0.Zeros, vI p0.Ones, vI p0.Child]), oX true false 4 (.agg [vI p1.Grain, vI p1.Count, vI p1.One, eL false (eL true eI) p1.Rows]), oX true true 3 (.agg [vI 0, vI 0, vI 0])]
theorem g_law14_Known_Of_ok (p0 : Tharuspexlaw14_Known) (p1 : Tapi_Lift) (x : Tharuspexlaw14_Known) (h : g_law14_Known_Of p0 p1 = some x) : CallOk Try.prog 17 [.agg [vI p0.Zeros, vI p0.Ones, vI p0.Child], .agg [vI p1.Grain, vI p1.Count, vI p1.One, eL false (eL true eI) p1.Rows]] (.ret (.agg [vI x.Zeros, vI x.Ones, vI x.Child]) []) := by
  refine fn_ok [] Try.func17 rfl (by decide +kernel) rfl ?_
  unfold g_law14_Known_Of at h
  refine wp_eqB (base' := 0) (st' := ⟨(s17_1 p0 p1), [], 41⟩) rfl (by kernel_rfl) ?_
  refine wp_seq (reg_in (sz 1 1 ?_))
  refine sl false [] [] false rfl ?_
  refine sz 1 3 (reg_end rfl (wp_seq (reg_in ?_)))
  refine sgz 7 7 (S := ⟨(s17_1 p0 p1) ++ [(2, .ptr 0 0 0), (3, .ptr 1 0 0), (4, .ptr 2 0 0), (6, .ptr 0 0 0), (7, vI p0.Zeros), (8, .int .u64 (IntKind.u64.wrap (p0.Zeros))), (9, .ptr 1 0 1), (10, vI p1.Count), (11, vI (IntKind.i64.wrap (p1.Count + 1))), (12, .int .u64 (IntKind.u64.wrap (IntKind.i64.wrap (p1.Count + 1))))], (s17_3 p0 p1), 41⟩) ?_
  refine remR (k := .u64) (a := IntKind.u64.wrap (p0.Zeros)) (b := IntKind.u64.wrap (IntKind.i64.wrap (p1.Count + 1))) (S := ⟨(s17_1 p0 p1) ++ [(2, .ptr 0 0 0), (3, .ptr 1 0 0), (4, .ptr 2 0 0), (6, .ptr 0 0 0), (7, vI p0.Zeros), (8, .int .u64 (IntKind.u64.wrap (p0.Zeros))), (9, .ptr 1 0 1), (10, vI p1.Count), (11, vI (IntKind.i64.wrap (p1.Count + 1))), (12, .int .u64 (IntKind.u64.wrap (IntKind.i64.wrap (p1.Count + 1))))] ++ [(13, .int .u64 (Int.tmod (IntKind.u64.wrap (p0.Zeros)) (IntKind.u64.wrap (IntKind.i64.wrap (p1.Count + 1)))))], (s17_3 p0 p1), 41⟩) (by kernel_rfl) (by kernel_rfl) h (fun h => ?_)
  refine sz 2 10 (reg_end rfl (wp_seq (wg [2, 3, 4, 5] [0, 1, 2] (rga hfol ?_))))
  refine sgy 10 10 (S := ⟨[(2, .ptr 0 0 0), (3, .ptr 1 0 0), (4, .ptr 2 0 0), (5, vI (IntKind.i64.wrap (Int.tmod (IntKind.u64.wrap (p0.Zeros)) (IntKind.u64.wrap (IntKind.i64.wrap (p1.Count + 1))))))] ++ [(15, vI (IntKind.i64.wrap (Int.tmod (IntKind.u64.wrap (p0.Zeros)) (IntKind.u64.wrap (IntKind.i64.wrap (p1.Count + 1)))))), (16, .ptr 0 0 1), (17, vI p0.Ones), (18, .int .u64 (IntKind.u64.wrap (p0.Ones))), (19, .ptr 1 0 1), (20, vI p1.Count), (21, vI (IntKind.i64.wrap (Int.tmod (IntKind.u64.wrap (p0.Zeros)) (IntKind.u64.wrap (IntKind.i64.wrap (p1.Count + 1)))))), (22, vI (IntKind.i64.wrap (p1.Count - (IntKind.i64.wrap (Int.tmod (IntKind.u64.wrap (p0.Zeros)) (IntKind.u64.wrap (IntKind.i64.wrap (p1.Count + 1)))))))), (23, vI (IntKind.i64.wrap ((IntKind.i64.wrap (p1.Count - (IntKind.i64.wrap (Int.tmod (IntKind.u64.wrap (p0.Zeros)) (IntKind.u64.wrap (IntKind.i64.wrap (p1.Count + 1))))))) + 1))), (24, .int .u64 (IntKind.u64.wrap (IntKind.i64.wrap ((IntKind.i64.wrap (p1.Count - (IntKind.i64.wrap (Int.tmod (IntKind.u64.wrap (p0.Zeros)) (IntKind.u64.wrap (IntKind.i64.wrap (p1.Count + 1))))))) + 1))))], (s17_3 p0 p1), 41⟩) ?_
  refine remR (k := .u64) (a := IntKind.u64.wrap (p0.Ones)) (b := IntKind.u64.wrap (IntKind.i64.wrap ((IntKind.i64.wrap (p1.Count - (IntKind.i64.wrap (Int.tmod (IntKind.u64.wrap (p0.Zeros)) (IntKind.u64.wrap (IntKind.i64.wrap (p1.Count + 1))))))) + 1))) (S := ⟨[(2, .ptr 0 0 0), (3, .ptr 1 0 0), (4, .ptr 2 0 0), (5, vI (IntKind.i64.wrap (Int.tmod (IntKind.u64.wrap (p0.Zeros)) (IntKind.u64.wrap (IntKind.i64.wrap (p1.Count + 1))))))] ++ [(15, vI (IntKind.i64.wrap (Int.tmod (IntKind.u64.wrap (p0.Zeros)) (IntKind.u64.wrap (IntKind.i64.wrap (p1.Count + 1)))))), (16, .ptr 0 0 1), (17, vI p0.Ones), (18, .int .u64 (IntKind.u64.wrap (p0.Ones))), (19, .ptr 1 0 1), (20, vI p1.Count), (21, vI (IntKind.i64.wrap (Int.tmod (IntKind.u64.wrap (p0.Zeros)) (IntKind.u64.wrap (IntKind.i64.wrap (p1.Count + 1)))))), (22, vI (IntKind.i64.wrap (p1.Count - (IntKind.i64.wrap (Int.tmod (IntKind.u64.wrap (p0.Zeros)) (IntKind.u64.wrap (IntKind.i64.wrap (p1.Count + 1)))))))), (23, vI (IntKind.i64.wrap ((IntKind.i64.wrap (p1.Count - (IntKind.i64.wrap (Int.tmod (IntKind.u64.wrap (p0.Zeros)) (IntKind.u64.wrap (IntKind.i64.wrap (p1.Count + 1))))))) + 1))), (24, .int .u64 (IntKind.u64.wrap (IntKind.i64.wrap ((IntKind.i64.wrap (p1.Count - (IntKind.i64.wrap (Int.tmod (IntKind.u64.wrap (p0.Zeros)) (IntKind.u64.wrap (IntKind.i64.wrap (p1.Count + 1))))))) + 1))))] ++ [(25, .int .u64 (Int.tmod (IntKind.u64.wrap (p0.Ones)) (IntKind.u64.wrap (IntKind.i64.wrap ((IntKind.i64.wrap (p1.Count - (IntKind.i64.wrap (Int.tmod (IntKind.u64.wrap (p0.Zeros)) (IntKind.u64.wrap (IntKind.i64.wrap (p1.Count + 1))))))) + 1)))))], (s17_3 p0 p1), 41⟩) (by kernel_rfl) (by kernel_rfl) h (fun h => ?_)
  refine sy 6 17 ?_
  refine bind_elim h (fun a1 q2 h => ?_)
  refine idxZ (enc := (eL true eI)) (l := p1.Rows) (n := 0) (fl := false) (w := 1) (a := a1) (by kernel_rfl) q2 ?_
  refine sy 1 19 ?_
  refine lenZ (enc := eI) (l := a1) (fl := true) (by kernel_rfl) ?_
  refine sgy 2 22 (S := ⟨[(2, .ptr 0 0 0), (3, .ptr 1 0 0), (4, .ptr 2 0 0), (5, vI (IntKind.i64.wrap (Int.tmod (IntKind.u64.wrap (p0.Zeros)) (IntKind.u64.wrap (IntKind.i64.wrap (p1.Count + 1)))))), (15, vI (IntKind.i64.wrap (Int.tmod (IntKind.u64.wrap (p0.Zeros)) (IntKind.u64.wrap (IntKind.i64.wrap (p1.Count + 1)))))), (16, .ptr 0 0 1), (17, vI p0.Ones), (18, .int .u64 (IntKind.u64.wrap (p0.Ones))), (19, .ptr 1 0 1), (20, vI p1.Count), (21, vI (IntKind.i64.wrap (Int.tmod (IntKind.u64.wrap (p0.Zeros)) (IntKind.u64.wrap (IntKind.i64.wrap (p1.Count + 1)))))), (22, vI (IntKind.i64.wrap (p1.Count - (IntKind.i64.wrap (Int.tmod (IntKind.u64.wrap (p0.Zeros)) (IntKind.u64.wrap (IntKind.i64.wrap (p1.Count + 1)))))))), (23, vI (IntKind.i64.wrap ((IntKind.i64.wrap (p1.Count - (IntKind.i64.wrap (Int.tmod (IntKind.u64.wrap (p0.Zeros)) (IntKind.u64.wrap (IntKind.i64.wrap (p1.Count + 1))))))) + 1))), (24, .int .u64 (IntKind.u64.wrap (IntKind.i64.wrap ((IntKind.i64.wrap (p1.Count - (IntKind.i64.wrap (Int.tmod (IntKind.u64.wrap (p0.Zeros)) (IntKind.u64.wrap (IntKind.i64.wrap (p1.Count + 1))))))) + 1)))), (25, .int .u64 (Int.tmod (IntKind.u64.wrap (p0.Ones)) (IntKind.u64.wrap (IntKind.i64.wrap ((IntKind.i64.wrap (p1.Count - (IntKind.i64.wrap (Int.tmod (IntKind.u64.wrap (p0.Zeros)) (IntKind.u64.wrap (IntKind.i64.wrap (p1.Count + 1))))))) + 1))))), (26, vI (IntKind.i64.wrap (Int.tmod (IntKind.u64.wrap (p0.Ones)) (IntKind.u64.wrap (IntKind.i64.wrap ((IntKind.i64.wrap (p1.Count - (IntKind.i64.wrap (Int.tmod (IntKind.u64.wrap (p0.Zeros)) (IntKind.u64.wrap (IntKind.i64.wrap (p1.Count + 1))))))) + 1)))))), (27, .ptr 0 0 2), (28, vI p0.Child), (29, .int .u64 (IntKind.u64.wrap (p0.Child))), (30, .ptr 1 0 3), (31, eL false (eL true eI) p1.Rows), (32, .fz [eL true eI a1]), (33, eL true eI a1), (34, vI (a1.length : Int)), (35, vI (IntKind.i64.wrap ((a1.length : Int) + 1))), (36, .int .u64 (IntKind.u64.wrap (IntKind.i64.wrap ((a1.length : Int) + 1))))], (s17_3 p0 p1), 41⟩) ?_
  refine remR (k := .u64) (a := IntKind.u64.wrap (p0.Child)) (b := IntKind.u64.wrap (IntKind.i64.wrap ((a1.length : Int) + 1))) (S := ⟨[(2, .ptr 0 0 0), (3, .ptr 1 0 0), (4, .ptr 2 0 0), (5, vI (IntKind.i64.wrap (Int.tmod (IntKind.u64.wrap (p0.Zeros)) (IntKind.u64.wrap (IntKind.i64.wrap (p1.Count + 1)))))), (15, vI (IntKind.i64.wrap (Int.tmod (IntKind.u64.wrap (p0.Zeros)) (IntKind.u64.wrap (IntKind.i64.wrap (p1.Count + 1)))))), (16, .ptr 0 0 1), (17, vI p0.Ones), (18, .int .u64 (IntKind.u64.wrap (p0.Ones))), (19, .ptr 1 0 1), (20, vI p1.Count), (21, vI (IntKind.i64.wrap (Int.tmod (IntKind.u64.wrap (p0.Zeros)) (IntKind.u64.wrap (IntKind.i64.wrap (p1.Count + 1)))))), (22, vI (IntKind.i64.wrap (p1.Count - (IntKind.i64.wrap (Int.tmod (IntKind.u64.wrap (p0.Zeros)) (IntKind.u64.wrap (IntKind.i64.wrap (p1.Count + 1)))))))), (23, vI (IntKind.i64.wrap ((IntKind.i64.wrap (p1.Count - (IntKind.i64.wrap (Int.tmod (IntKind.u64.wrap (p0.Zeros)) (IntKind.u64.wrap (IntKind.i64.wrap (p1.Count + 1))))))) + 1))), (24, .int .u64 (IntKind.u64.wrap (IntKind.i64.wrap ((IntKind.i64.wrap (p1.Count - (IntKind.i64.wrap (Int.tmod (IntKind.u64.wrap (p0.Zeros)) (IntKind.u64.wrap (IntKind.i64.wrap (p1.Count + 1))))))) + 1)))), (25, .int .u64 (Int.tmod (IntKind.u64.wrap (p0.Ones)) (IntKind.u64.wrap (IntKind.i64.wrap ((IntKind.i64.wrap (p1.Count - (IntKind.i64.wrap (Int.tmod (IntKind.u64.wrap (p0.Zeros)) (IntKind.u64.wrap (IntKind.i64.wrap (p1.Count + 1))))))) + 1))))), (26, vI (IntKind.i64.wrap (Int.tmod (IntKind.u64.wrap (p0.Ones)) (IntKind.u64.wrap (IntKind.i64.wrap ((IntKind.i64.wrap (p1.Count - (IntKind.i64.wrap (Int.tmod (IntKind.u64.wrap (p0.Zeros)) (IntKind.u64.wrap (IntKind.i64.wrap (p1.Count + 1))))))) + 1)))))), (27, .ptr 0 0 2), (28, vI p0.Child), (29, .int .u64 (IntKind.u64.wrap (p0.Child))), (30, .ptr 1 0 3), (31, eL false (eL true eI) p1.Rows), (32, .fz [eL true eI a1]), (33, eL true eI a1), (34, vI (a1.length : Int)), (35, vI (IntKind.i64.wrap ((a1.length : Int) + 1))), (36, .int .u64 (IntKind.u64.wrap (IntKind.i64.wrap ((a1.length : Int) + 1))))] ++ [(37, .int .u64 (Int.tmod (IntKind.u64.wrap (p0.Child)) (IntKind.u64.wrap (IntKind.i64.wrap ((a1.length : Int) + 1)))))], (s17_3 p0 p1), 41⟩) (by kernel_rfl) (by kernel_rfl) h (fun h => ?_)
  refine sy 4 27 (rgd (wg [4] [2] ?_))
  cases h
  exact wp_ret (show fnOut _ _ _ _ = _ from by kernel_rfl)
theorem g_ref14_Split_ok (p0 : Int) (p1 : Int) (p2 : (List Int)) (x : (List Int)) (h : g_ref14_Split p0 p1 p2 = some x) : CallOk Try.prog 41 [vI p0, vI p1, eL true (AV.int .u8) p2] (.ret (.ref 0 0 x.length) [oR true 1 eI x]) := by
  refine fn_ok [] Try.func41 rfl (by decide +kernel) rfl ?_
  unfold g_ref14_Split at h
  refine wp_eqB (base' := 0) (st' := ⟨[(0, vI p0), (1, vI p1), (2, eL true (AV.int .u8) p2)], [], 42⟩) rfl (by kernel_rfl) ?_
  refine sq (sq (sq (wp_seq (sq (wp_block ?_)))))
  refine wwh h (fun s1 => ⟨[(0, vI p0), (2, eL true (AV.int .u8) p2), (7, .ref 0 0 s1.2.2.length), (8, vI s1.1), (9, vI s1.2.1)], [oR true 1 eI s1.2.2], 42⟩) (fun v out => out = .go (.exit 0) ⟨[(7, .ref 0 0 v.length)], [oR true 1 eI v], 42⟩) (wk_trans (wk_gc (live := [0, 2, 7, 8, 9]) (keep := []) (st' := ⟨[(0, vI p0), (2, eL true (AV.int .u8) p2), (7, .nils), (8, vI p1), (9, vI 0)], [], 42⟩) (by kernel_rfl)) (wk_trans (wk_nil 7 1 true true (st' := ⟨[(0, vI p0), (2, eL true (AV.int .u8) p2), (7, .ref 0 0 0), (8, vI p1), (9, vI 0)], [.row false false true true 1 []], 42⟩) (by kernel_rfl)) (wk_gc (live := [0, 2, 7, 8, 9]) (keep := [0]) (by kernel_rfl)))) ?_ ?_
  · intro s1 o h
    unfold g_ref14_Split_b0 at h
    refine wp_seq (sq ?_)
    refine wbr (S := fun b2 => ⟨[(0, vI p0), (2, eL true (AV.int .u8) p2), (7, .ref 0 0 s1.2.2.length), (8, vI s1.1), (9, vI s1.2.1)] ++ [(12, vI s1.2.1), (13, vI p0), (14, vB b2)], [oR true 1 eI s1.2.2], 42⟩) h (fun q3 h => ?_) (fun q3 h => ?_)
    · refine wcT (wp_skip (wp_seq (wp_block (sq (wp_seq (sq ?_))))))
      refine wbz h (fun q5 h => ?_) (fun q5 h => ?_)
      · refine wp_seq (wg [0, 2, 7, 8, 9] [0] (rn (wp_seq (reg_in (sz 2 2 ?_)))))
        refine lenZ (enc := (AV.int .u8)) (l := p2) (fl := true) (by kernel_rfl) ?_
        refine sz 1 4 (reg_end rfl ?_)
        refine wbr (S := fun b6 => ⟨[(0, vI p0), (2, eL true (AV.int .u8) p2), (7, .ref 0 0 s1.2.2.length), (8, vI s1.1), (9, vI s1.2.1)] ++ [(10, vI 0), (22, vI s1.2.1), (23, eL true (AV.int .u8) p2), (24, vI (p2.length : Int)), (25, vB b6)], [oR true 1 eI s1.2.2], 42⟩) h (fun q7 h => ?_) (fun q7 h => ?_)
        · refine wcT (wg [0, 2, 7, 8, 9] [0] (reg_in (sz 2 2 ?_)))
          refine bind_elim h (fun a8 q9 h => ?_)
          refine idxZ (enc := (AV.int .u8)) (l := p2) (n := s1.2.1) (fl := true) (w := 1) (a := a8) (by kernel_rfl) q9 ?_
          refine sgz 4 7 (S := ⟨[(0, vI p0), (2, eL true (AV.int .u8) p2), (7, .ref 0 0 s1.2.2.length), (8, vI s1.1), (9, vI s1.2.1)] ++ [(26, eL true (AV.int .u8) p2), (27, vI s1.2.1), (28, .fz [.int .u8 a8]), (29, .int .u8 a8), (30, vI (IntKind.i64.wrap (a8))), (31, vI s1.1), (32, vI (IntKind.i64.wrap (s1.1 + 1)))], [oR true 1 eI s1.2.2], 42⟩) ?_
          refine remR (k := .i64) (a := IntKind.i64.wrap (a8)) (b := IntKind.i64.wrap (s1.1 + 1)) (S := ⟨[(0, vI p0), (2, eL true (AV.int .u8) p2), (7, .ref 0 0 s1.2.2.length), (8, vI s1.1), (9, vI s1.2.1)] ++ [(26, eL true (AV.int .u8) p2), (27, vI s1.2.1), (28, .fz [.int .u8 a8]), (29, .int .u8 a8), (30, vI (IntKind.i64.wrap (a8))), (31, vI s1.1), (32, vI (IntKind.i64.wrap (s1.1 + 1)))] ++ [(33, vI (Int.tmod (IntKind.i64.wrap (a8)) (IntKind.i64.wrap (s1.1 + 1))))], [oR true 1 eI s1.2.2], 42⟩) (by kernel_rfl) (by kernel_rfl) h (fun h => ?_)
          refine sz 1 9 (reg_end rfl (wp_seq (wg [0, 2, 7, 8, 9, 10] [0] (reg_in (sz 2 2 ?_)))))
          refine sgL false [] [] true (S := ⟨[(0, vI p0), (2, eL true (AV.int .u8) p2), (7, .ref 0 0 s1.2.2.length), (8, vI s1.1), (9, vI s1.2.1), (10, vI (Int.tmod (IntKind.i64.wrap (a8)) (IntKind.i64.wrap (s1.1 + 1))))] ++ [(34, .ref 0 0 s1.2.2.length), (35, vI (Int.tmod (IntKind.i64.wrap (a8)) (IntKind.i64.wrap (s1.1 + 1)))), (36, .ref 1 0 1)], [oR true 1 eI s1.2.2, .row false false true true 1 [vI (Int.tmod (IntKind.i64.wrap (a8)) (IntKind.i64.wrap (s1.1 + 1)))]], 42⟩) (by kernel_rfl) ?_
          refine appR (enc := eI) (l := s1.2.2) (m := ([Int.tmod (IntKind.i64.wrap (a8)) (IntKind.i64.wrap (s1.1 + 1))] : (List Int))) (w := 1) (bytes := 8) (ob := 0) (nr := true) (fl := true) (nr' := true) (fl' := true) (b := .ref 1 0 1) (rds := [1]) (S := ⟨[(0, vI p0), (2, eL true (AV.int .u8) p2), (7, .ref 0 0 s1.2.2.length), (8, vI s1.1), (9, vI s1.2.1), (10, vI (Int.tmod (IntKind.i64.wrap (a8)) (IntKind.i64.wrap (s1.1 + 1))))] ++ [(34, .ref 0 0 s1.2.2.length), (35, vI (Int.tmod (IntKind.i64.wrap (a8)) (IntKind.i64.wrap (s1.1 + 1)))), (36, .ref 1 0 1), (37, .ref 2 0 ((s1.2.2 ++ ([Int.tmod (IntKind.i64.wrap (a8)) (IntKind.i64.wrap (s1.1 + 1))] : (List Int))).length))], [.dead, .row false false true true 1 [vI (Int.tmod (IntKind.i64.wrap (a8)) (IntKind.i64.wrap (s1.1 + 1)))], oR true 1 eI (s1.2.2 ++ ([Int.tmod (IntKind.i64.wrap (a8)) (IntKind.i64.wrap (s1.1 + 1))] : (List Int)))], 42⟩) false (by kernel_rfl) rfl (by kernel_rfl) rfl (by kernel_rfl) (by kernel_rfl) h (fun h => ?_)
          refine sz 1 5 (reg_end rfl (rn (wg [0, 2, 7, 8, 9] [2] (rn ?_))))
          cases h
          exact ⟨_, rfl, (wk_gc (live := [0, 2, 7, 8, 9]) (keep := [0]) (by kernel_rfl))⟩
        refine wcF (wp_skip (wp_seq (reg_in (sz 2 2 ?_))))
        refine sgL false [] [] true (S := ⟨[(0, vI p0), (2, eL true (AV.int .u8) p2), (7, .ref 0 0 s1.2.2.length), (8, vI s1.1), (9, vI s1.2.1)] ++ [(10, vI 0), (22, vI s1.2.1), (23, eL true (AV.int .u8) p2), (24, vI (p2.length : Int)), (25, vB false), (34, .ref 0 0 s1.2.2.length), (35, vI 0), (36, .ref 1 0 1)], [oR true 1 eI s1.2.2, .row false false true true 1 [vI 0]], 42⟩) (by kernel_rfl) ?_
        refine appR (enc := eI) (l := s1.2.2) (m := ([0] : (List Int))) (w := 1) (bytes := 8) (ob := 0) (nr := true) (fl := true) (nr' := true) (fl' := true) (b := .ref 1 0 1) (rds := [1]) (S := ⟨[(0, vI p0), (2, eL true (AV.int .u8) p2), (7, .ref 0 0 s1.2.2.length), (8, vI s1.1), (9, vI s1.2.1)] ++ [(10, vI 0), (22, vI s1.2.1), (23, eL true (AV.int .u8) p2), (24, vI (p2.length : Int)), (25, vB false), (34, .ref 0 0 s1.2.2.length), (35, vI 0), (36, .ref 1 0 1), (37, .ref 2 0 ((s1.2.2 ++ ([0] : (List Int))).length))], [.dead, .row false false true true 1 [vI 0], oR true 1 eI (s1.2.2 ++ ([0] : (List Int)))], 42⟩) false (by kernel_rfl) rfl (by kernel_rfl) rfl (by kernel_rfl) (by kernel_rfl) h (fun h => ?_)
        refine sz 1 5 (reg_end rfl (wg [0, 2, 7, 8, 9, 10] [2] (rn (rn ?_))))
        cases h
        exact ⟨_, rfl, (wk_gc (live := [0, 2, 7, 8, 9]) (keep := [0]) (by kernel_rfl))⟩
      refine wp_skip (wp_seq (wg [0, 2, 7, 8, 9, 10] [0] (reg_in (sz 2 2 ?_))))
      refine sgL false [] [] true (S := ⟨[(0, vI p0), (2, eL true (AV.int .u8) p2), (7, .ref 0 0 s1.2.2.length), (8, vI s1.1), (9, vI s1.2.1), (10, vI s1.1)] ++ [(34, .ref 0 0 s1.2.2.length), (35, vI s1.1), (36, .ref 1 0 1)], [oR true 1 eI s1.2.2, .row false false true true 1 [vI s1.1]], 42⟩) (by kernel_rfl) ?_
      refine appR (enc := eI) (l := s1.2.2) (m := ([s1.1] : (List Int))) (w := 1) (bytes := 8) (ob := 0) (nr := true) (fl := true) (nr' := true) (fl' := true) (b := .ref 1 0 1) (rds := [1]) (S := ⟨[(0, vI p0), (2, eL true (AV.int .u8) p2), (7, .ref 0 0 s1.2.2.length), (8, vI s1.1), (9, vI s1.2.1), (10, vI s1.1)] ++ [(34, .ref 0 0 s1.2.2.length), (35, vI s1.1), (36, .ref 1 0 1), (37, .ref 2 0 ((s1.2.2 ++ ([s1.1] : (List Int))).length))], [.dead, .row false false true true 1 [vI s1.1], oR true 1 eI (s1.2.2 ++ ([s1.1] : (List Int)))], 42⟩) false (by kernel_rfl) rfl (by kernel_rfl) rfl (by kernel_rfl) (by kernel_rfl) h (fun h => ?_)
      refine sz 1 5 (reg_end rfl (rn (wg [0, 2, 7, 8, 9] [2] (rn ?_))))
      cases h
      exact ⟨_, rfl, (wk_gc (live := [0, 2, 7, 8, 9]) (keep := [0]) (by kernel_rfl))⟩
    refine wcF ?_
    refine wgc [7] [0] ⟨[(7, .ref 0 0 s1.2.2.length)], [oR true 1 eI s1.2.2], 42⟩ ?_
    refine wp_exit ?_
    cases h
    exact ⟨rfl, rfl⟩
  intro x11 h out hx
  subst hx
  refine sq (wg [6] [0] ?_)
  cases h
  exact wp_ret (show fnOut _ _ _ _ = _ from by kernel_rfl)
end Go.Ab
