/-
  Proved: haruspexlaw31.EqualShares returns true for every input. No conditions.
-/
import Derived.Test.YtojklbpplceiiaaDoorRows
import Derived.Test.YtojklbpplceiiaaDoorCards
import Derived.Test.YtojklbpplceiiaaDoorTie
import Derived.Test.YtojklbpplceiiaaDoorW15
import Derived.Test.YtojklbpplceiiaaDoorW17
import Derived.WalkKit
import Derived.ProofKit
import Derived.OpenShut
import Derived.SevenTiedAt
namespace Go.Proofs.YtojklbpplceiiaaDoor.equalShares
open Go.ChangeShapes Go.WideShapes Go.ChangeAt Go.RowKit
set_option linter.unusedVariables false

theorem laid : laidOutB Tryd.prog = true := by kernel_rfl

set_option maxRecDepth 100000 in
theorem lifted (os : Os) (started : os.Started) (H : Type) (enc : TypeId × Value → H) :
    ReturnsInHanded {} Tryd.checked os 5 .any (fun w args => (Rows.equalSharesSpec.pre enc Tryd.prog Tryd.f5 [] false w args ∧ laidMetH Tryd.prog Go.Ab.dr_laid w) ∧ sizedMet enc Tryd.prog Tryd.f5 (OpenSpec.ofChange Rows.equalSharesSpec) false w args)
      (Rows.equalSharesSpec.post enc Tryd.prog Tryd.f5 false true false false) := by
  refine returnsInHanded_of_change_and (C := Tryd.checked) (X := fun w _ => laidMetH Tryd.prog Go.Ab.dr_laid w) (fun _ _ _ hh h => h.of_heap hh) Go.Ab.dr_own started (by kernel_rfl) Tryd.func5
    (ChangeSpec.witness_shaped (enc := enc) (C := Tryd.checked) (os := os) (X := fun w _ => laidMetH Tryd.prog Go.Ab.dr_laid w) false (World.doorLaid Tryd.prog 19 os) #[.agg #[.int .u8 0, .int .u8 0, .int .u8 0, .int .u8 0, .int .u8 0, .int .u8 0, .int .u8 0, .int .u16 0]] 8 rfl (World.shaped_of_RefB (by kernel_rfl) (by kernel_rfl)) (by kernel_rfl) (by kernel_rfl) (by kernel_rfl) (Go.Ab.dr_met os _)) ?_
  intro W base args ds gs before hval0 hW _ _ hL _
  have hval : ∀ (j : Nat) t v, Tryd.f5.params[j]? = some t → args[j]? = some v → Value.okWide Tryd.prog W .any base t v := hval0
  have hW' := hW
  obtain ⟨p, q, hA0, hV, rfl, hfz, hnd⟩ := hW
  have hA : DataW.TrodAll enc Tryd.prog W 0 (fun _ => true) true Tryd.f5.params.toList args.toList ds p := hA0
  rw [Tryd.params5] at hA hval
  obtain ⟨v0, vs0, d0, ds0, q0, r0, ha0, rfl, rfl, h0, hA0⟩ := trodAll_cons hA
  obtain ⟨rfl, rfl, rfl⟩ := trodAll_nil hA0
  obtain rfl : args = #[v0] := by cases args; simp_all
  obtain ⟨rfl, rfl⟩ := trodVars_none hV
  obtain ⟨c0, rep0, wt0⟩ := Go.Ab.arg_struct (hg := Go.Ab.dr_glob hL) (s := (.cat (.int .u8) (.cat (.cat (.int .u8) (.cat (.int .u8) (.cat (.int .u8) (.cat (.int .u8) (.cat (.int .u8) (.cat (.int .u8) .unit)))))) (.cat (.int .u16) .unit)))) 9 (by kernel_rfl) (by kernel_rfl) (hval 0 _ _ rfl rfl) h0
  obtain ⟨x0, ex0, ok0⟩ := Go.Ab.rdTharuspexref31_Draft wt0
  rw [ex0] at rep0
  try clear hA0 hval0
  have W2 : Calls Tryd.prog 5 #[v0] W fun e W' => e = .returned (.bool true) ∧ Below W.heap.size W W' ∧ ∀ b, b < W.heap.size → W'.heap[b]? = W.heap[b]? :=
    Go.Ab.calls_args (hg := Go.Ab.dr_glob hL) (args := [Go.Ab.eTharuspexref31_Draft x0]) (Go.Ab.g_law31_EqualShares_ok x0 true (Go.Ab.shares_true x0 ok0)) rfl (fun j v a hv ha => by
      match j with
      | 0 => cases hv; cases ha; exact rep0
      | _ + 1 => simp at hv)
  simp only [List.append_nil] at hW'
  refine W2.mono fun e W' ⟨he, hg, hb⟩ => ?_
  subst he
  have stays : ∀ {t : TypeId} {v : Value} {d : DataW H} {ps : List MemPlace} (sp : Nat → Bool), Tryd.prog.readableRec t = true → t < Tryd.prog.types.size → DataW.Trod enc Tryd.prog W 0 (fun _ => true) true t v d ps → (∀ x ∈ ps, x.block < W.heap.size) → (∀ x ∈ ps, sp x.block = true) → DataW.Trod enc Tryd.prog W' 0 sp true t v d ps :=
    fun sp hr hlt h hps hsp => WideElems.Trod_stays (P := Tryd.prog) laid hr hlt h (fun x hx => Go.Ab.sameAt_of hb (hps x hx)) hsp
  exact ⟨_, rfl, Go.Ab.post_of_below (pv := []) hW' (fun _ _ _ => (trodAll_cons_mk (shut_bool Tryd.underlying4 _) trodAll_mk0))
    (fun sp hsp => trodAll_cons_mk (stays sp (by kernel_rfl) (of_decide_eq_true (by kernel_rfl)) h0 (fun x hx => hW'.lt x (by simp [hx])) (fun x hx => hsp x (by simp [hx]))) (trodAll_mk0)) (fun _ _ => rfl) (by simp)
    hg (ok_one (by kernel_rfl) rfl (okWide_bool_mk Tryd.underlying4 _))⟩

theorem over : Rows.EqualSharesSaid :=
  OpenClaim.holds_of_wide 5 Tryd.f5 rfl rfl rfl rfl rfl rfl rfl ⟨rfl, rfl, rfl, rfl, rfl⟩ rfl rfl rfl rfl rfl (by kernel_rfl) Tryd.func5 (by kernel_rfl)
    (of_decide_eq_true (by kernel_rfl)) (by unfold Func.isWrapper; first | (rw [if_pos (by decide +kernel)]; kernel_rfl) | (rw [if_neg (by decide +kernel)]; exact ⟨rfl, rfl⟩))
    (fun os started H enc _ => lifted os started H enc)

/-- THE TIED CARD. -/
theorem proved : Rows.EqualSharesCardSaid :=
  Claim7.holds_tied_plain_at .later [] [.data, .data] true (true, "d02020cf83a2cfb43741a16a96ace2586f95b159653362e7a3f0953b3eec6846") false
    over (fun _ h => by cases h) (by kernel_rfl) (fun _ h => by cases h) equalShares_row_tie rfl ⟨rfl, rfl⟩ (by kernel_rfl) rfl
    (fun f fn hf hfn => by
      obtain rfl : f = 5 := Option.some.inj ((show Tryd.prog.funcNamed "haruspex/haruspexlaw31.EqualShares" = some 5 by kernel_rfl).symm.trans hf) |>.symm
      obtain rfl : fn = Tryd.f5 := (Option.some.inj (Tryd.func5.symm.trans hfn)).symm
      exact ⟨by kernel_rfl, fun j t ht => by
        rw [Tryd.params5] at ht
        have hm : t ∈ [25] := by simpa using Array.mem_of_getElem? ht
        have hall : ([25].all fun u => !Tryd.prog.wantsStandIn u) = true := by kernel_rfl
        exact (show Tryd.prog.wantsStandIn t = false by simpa using List.all_eq_true.1 hall t hm)⟩)
    (by kernel_rfl)
#print axioms proved
end Go.Proofs.YtojklbpplceiiaaDoor.equalShares
