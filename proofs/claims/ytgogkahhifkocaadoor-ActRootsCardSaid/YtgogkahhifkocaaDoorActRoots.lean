/-
  Proved: haruspexlaw32.ActRoots returns true for every input. No conditions.
-/
import Derived.Test.YtgogkahhifkocaaDoorRows
import Derived.Test.YtgogkahhifkocaaDoorCards
import Derived.Test.YtgogkahhifkocaaDoorTie
import Derived.Test.YtgogkahhifkocaaDoorW15
import Derived.Test.YtgogkahhifkocaaDoorW17
import Derived.WalkKit
import Derived.ProofKit
import Derived.OpenShut
import Derived.SevenTiedAt
namespace Go.Proofs.YtgogkahhifkocaaDoor.actRoots
open Go.ChangeShapes Go.WideShapes Go.ChangeAt Go.RowKit
set_option linter.unusedVariables false

theorem laid : laidOutB Tryd.prog = true := by kernel_rfl

set_option maxRecDepth 100000 in
theorem lifted (os : Os) (started : os.Started) (H : Type) (enc : TypeId × Value → H) :
    ReturnsInHanded {} Tryd.checked os 4 .any (fun w args => (Rows.actRootsSpec.pre enc Tryd.prog Tryd.f4 [] false w args ∧ laidMetH Tryd.prog Go.Ab.dr_laid w) ∧ sizedMet enc Tryd.prog Tryd.f4 (OpenSpec.ofChange Rows.actRootsSpec) false w args)
      (Rows.actRootsSpec.post enc Tryd.prog Tryd.f4 false true false false) := by
  refine returnsInHanded_of_change_and (C := Tryd.checked) (X := fun w _ => laidMetH Tryd.prog Go.Ab.dr_laid w) (fun _ _ _ hh h => h.of_heap hh) Go.Ab.dr_own started (by kernel_rfl) Tryd.func4
    (ChangeSpec.witness_shaped (enc := enc) (C := Tryd.checked) (os := os) (X := fun w _ => laidMetH Tryd.prog Go.Ab.dr_laid w) false (World.doorLaid Tryd.prog 19 os) #[.agg #[.int .u8 0, .slice none 0 0, .slice none 0 0], .agg #[.int .u8 0, .int .u8 0, .int .u8 0, .int .u8 0, .int .u8 0, .int .u8 0, .int .u8 0, .int .u8 0, .int .u8 0], .agg #[.int .u8 0, .int .u8 0, .int .u8 0, .int .u8 0, .int .u8 0, .int .u8 0, .int .u8 0, .int .u8 0, .int .u8 0], .int .u8 0] 8 rfl (World.shaped_of_RefB (by kernel_rfl) (by kernel_rfl)) (by kernel_rfl) (by kernel_rfl) (by kernel_rfl) (Go.Ab.dr_met os _)) ?_
  intro W base args ds gs before hval0 hW _ _ hL _
  have hval : ∀ (j : Nat) t v, Tryd.f4.params[j]? = some t → args[j]? = some v → Value.okWide Tryd.prog W .any base t v := hval0
  have hW' := hW
  obtain ⟨p, q, hA0, hV, rfl, hfz, hnd⟩ := hW
  have hA : DataW.TrodAll enc Tryd.prog W 0 (fun _ => true) true Tryd.f4.params.toList args.toList ds p := hA0
  rw [Tryd.params4] at hA hval
  obtain ⟨v0, vs0, d0, ds0, q0, r0, ha0, rfl, rfl, h0, hA0⟩ := trodAll_cons hA
  obtain ⟨v1, vs1, d1, ds1, q1, r1, ha1, rfl, rfl, h1, hA1⟩ := trodAll_cons hA0
  subst ha1
  obtain ⟨v2, vs2, d2, ds2, q2, r2, ha2, rfl, rfl, h2, hA2⟩ := trodAll_cons hA1
  subst ha2
  obtain ⟨v3, vs3, d3, ds3, q3, r3, ha3, rfl, rfl, h3, hA3⟩ := trodAll_cons hA2
  subst ha3
  obtain ⟨rfl, rfl, rfl⟩ := trodAll_nil hA3
  obtain rfl : args = #[v0, v1, v2, v3] := by cases args; simp_all
  obtain ⟨rfl, rfl⟩ := trodVars_none hV
  obtain ⟨c0, rep0, wt0⟩ := Go.Ab.arg_struct (hg := Go.Ab.dr_glob hL) (s := (.cat (.int .u8) (.cat (.slice false true 3 (.cat (.int .u8) (.cat (.int .u8) (.cat (.slice true false 1 (.int .u8)) .unit)))) (.cat (.slice true false 1 (.int .u8)) .unit)))) 9 (by kernel_rfl) (by kernel_rfl) (hval 0 _ _ rfl rfl) h0
  obtain ⟨x0, ex0, ok0⟩ := Go.Ab.rdTharuspexref05_Draft wt0
  rw [ex0] at rep0
  obtain ⟨c1, rep1, wt1⟩ := Go.Ab.arg_struct (hg := Go.Ab.dr_glob hL) (s := (.cat (.int .u8) (.cat (.cat (.int .u8) (.cat (.int .u8) (.cat (.int .u8) (.cat (.int .u8) (.cat (.int .u8) (.cat (.int .u8) (.cat (.int .u8) (.cat (.int .u8) .unit)))))))) .unit))) 9 (by kernel_rfl) (by kernel_rfl) (hval 1 _ _ rfl rfl) h1
  obtain ⟨x1, ex1, ok1⟩ := Go.Ab.rdTharuspexref05_Known wt1
  rw [ex1] at rep1
  obtain ⟨c2, rep2, wt2⟩ := Go.Ab.arg_struct (hg := Go.Ab.dr_glob hL) (s := (.cat (.int .u8) (.cat (.cat (.int .u8) (.cat (.int .u8) (.cat (.int .u8) (.cat (.int .u8) (.cat (.int .u8) (.cat (.int .u8) (.cat (.int .u8) (.cat (.int .u8) .unit)))))))) .unit))) 9 (by kernel_rfl) (by kernel_rfl) (hval 2 _ _ rfl rfl) h2
  obtain ⟨x2, ex2, ok2⟩ := Go.Ab.rdTharuspexref05_Known wt2
  rw [ex2] at rep2
  obtain ⟨y3, rep3, wt3⟩ := Go.Ab.arg_cell (hg := Go.Ab.dr_glob hL) (s := (.int .u8)) 9 (by kernel_rfl) (by kernel_rfl) (hval 3 _ _ rfl rfl) h3
  obtain ⟨x3, ex3, ok3⟩ := Go.Ab.one5 wt3
  rw [(List.cons.inj ex3).1] at rep3
  try clear hA0 hval0
  have W2 : Calls Tryd.prog 4 #[v0, v1, v2, v3] W fun e W' => e = .returned (.bool true) ∧ Below W.heap.size W W' ∧ ∀ b, b < W.heap.size → W'.heap[b]? = W.heap[b]? :=
    Go.Ab.calls_args (hg := Go.Ab.dr_glob hL) (args := [Go.Ab.eTharuspexref05_Draft x0, Go.Ab.eTharuspexref05_Known x1, Go.Ab.eTharuspexref05_Known x2, (Go.Ab.AV.int .u8) x3]) (Go.Ab.g_law32_ActRoots_ok x0 x1 x2 x3 true (Go.Ab.roots_true x0 x1 x2 x3 ok0 ok1 ok2 ok3)) rfl (fun j v a hv ha => by
      match j with
      | 0 => cases hv; cases ha; exact rep0
      | 1 => cases hv; cases ha; exact rep1
      | 2 => cases hv; cases ha; exact rep2
      | 3 => cases hv; cases ha; exact rep3
      | _ + 4 => simp at hv)
  simp only [List.append_nil] at hW'
  refine W2.mono fun e W' ⟨he, hg, hb⟩ => ?_
  subst he
  have stays : ∀ {t : TypeId} {v : Value} {d : DataW H} {ps : List MemPlace} (sp : Nat → Bool), Tryd.prog.readableRec t = true → t < Tryd.prog.types.size → DataW.Trod enc Tryd.prog W 0 (fun _ => true) true t v d ps → (∀ x ∈ ps, x.block < W.heap.size) → (∀ x ∈ ps, sp x.block = true) → DataW.Trod enc Tryd.prog W' 0 sp true t v d ps :=
    fun sp hr hlt h hps hsp => WideElems.Trod_stays (P := Tryd.prog) laid hr hlt h (fun x hx => Go.Ab.sameAt_of hb (hps x hx)) hsp
  exact ⟨_, rfl, Go.Ab.post_of_below (pv := []) hW' (fun _ _ _ => (trodAll_cons_mk (shut_bool Tryd.underlying4 _) trodAll_mk0))
    (fun sp hsp => trodAll_cons_mk (stays sp (by kernel_rfl) (of_decide_eq_true (by kernel_rfl)) h0 (fun x hx => hW'.lt x (by simp [hx])) (fun x hx => hsp x (by simp [hx]))) (trodAll_cons_mk (stays sp (by kernel_rfl) (of_decide_eq_true (by kernel_rfl)) h1 (fun x hx => hW'.lt x (by simp [hx])) (fun x hx => hsp x (by simp [hx]))) (trodAll_cons_mk (stays sp (by kernel_rfl) (of_decide_eq_true (by kernel_rfl)) h2 (fun x hx => hW'.lt x (by simp [hx])) (fun x hx => hsp x (by simp [hx]))) (trodAll_cons_mk (stays sp (by kernel_rfl) (of_decide_eq_true (by kernel_rfl)) h3 (fun x hx => hW'.lt x (by simp [hx])) (fun x hx => hsp x (by simp [hx]))) (trodAll_mk0))))) (fun _ _ => rfl) (by simp)
    hg (ok_one (by kernel_rfl) rfl (okWide_bool_mk Tryd.underlying4 _))⟩

theorem over : Rows.ActRootsSaid :=
  OpenClaim.holds_of_wide 4 Tryd.f4 rfl rfl rfl rfl rfl rfl rfl ⟨rfl, rfl, rfl, rfl, rfl⟩ rfl rfl rfl rfl rfl (by kernel_rfl) Tryd.func4 (by kernel_rfl)
    (of_decide_eq_true (by kernel_rfl)) (by unfold Func.isWrapper; first | (rw [if_pos (by decide +kernel)]; kernel_rfl) | (rw [if_neg (by decide +kernel)]; exact ⟨rfl, rfl⟩))
    (fun os started H enc _ => lifted os started H enc)

/-- THE TIED CARD. -/
theorem proved : Rows.ActRootsCardSaid :=
  Claim7.holds_tied_plain_at .later [] [.data, .data] true (true, "c7c0346e07dd25c1da5c606156d707288ee71b8e69e4cdbac00fa6e1cf45c4b0") false
    over (fun _ h => by cases h) (by kernel_rfl) (fun _ h => by cases h) actRoots_row_tie rfl ⟨rfl, rfl⟩ (by kernel_rfl) rfl
    (fun f fn hf hfn => by
      obtain rfl : f = 4 := Option.some.inj ((show Tryd.prog.funcNamed "haruspex/haruspexlaw32.ActRoots" = some 4 by kernel_rfl).symm.trans hf) |>.symm
      obtain rfl : fn = Tryd.f4 := (Option.some.inj (Tryd.func4.symm.trans hfn)).symm
      exact ⟨by kernel_rfl, fun j t ht => by
        rw [Tryd.params4] at ht
        have hm : t ∈ [25, 28, 28, 5] := by simpa using Array.mem_of_getElem? ht
        have hall : ([25, 28, 28, 5].all fun u => !Tryd.prog.wantsStandIn u) = true := by kernel_rfl
        exact (show Tryd.prog.wantsStandIn t = false by simpa using List.all_eq_true.1 hall t hm)⟩)
    (by kernel_rfl)
#print axioms proved
end Go.Proofs.YtgogkahhifkocaaDoor.actRoots
