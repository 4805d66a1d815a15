/-
  Proved: haruspexlaw17.HiddenJoint returns true for every input. No conditions.
-/
import Derived.Test.YtiadakgfblkelaaRows
import Derived.Test.YtiadakgfblkelaaW15
import Derived.Test.YtiadakgfblkelaaW17
import Derived.WalkKit
import Derived.ProofKit
import Derived.OpenShut
namespace Go.Proofs.Ytiadakgfblkelaa.hiddenJoint
open Go.ChangeShapes Go.WideShapes Go.ChangeAt Go.RowKit
set_option linter.unusedVariables false

theorem own : ownKnob Try.prog.godebug = none := by kernel_rfl
theorem laid : laidOutB Try.prog = true := by kernel_rfl

set_option maxRecDepth 100000 in
theorem lifted (os : Os) (started : os.Started) (H : Type) (enc : TypeId × Value → H) :
    ReturnsInHanded {} Try.checked os 10 .any (Rows.hiddenJointSpec.pre6 enc Try.prog Try.f10 Rows.hiddenJointRow.domain false) (Rows.hiddenJointSpec.post enc Try.prog Try.f10 false true false false) := by
  refine returnsInHanded_of_change (C := Try.checked) own started (by kernel_rfl) Try.func10
    (ChangeSpec.witness6 (enc := enc) (C := Try.checked) false ⟨#[], #[.agg #[.int .u8 0, .int .u8 0, .int .u8 0, .slice none 0 0, .slice none 0 0], .int .u8 0], []⟩ 8 (by kernel_rfl) (by kernel_rfl) (by kernel_rfl) (by kernel_rfl)) ?_
  intro W base args ds gs before hval0 hW hcnd _
  have hval : ∀ (j : Nat) t v, Try.f10.params[j]? = some t → args[j]? = some v → Value.okWide Try.prog W .any base t v := hval0
  have hW' := hW
  obtain ⟨p, q, hA0, hV, rfl, hfz, hnd⟩ := hW
  have hA : DataW.TrodAll enc Try.prog W 0 (fun _ => true) true Try.f10.params.toList args.toList ds p := hA0
  rw [Try.params10] at hA hval
  obtain ⟨v0, vs0, d0, ds0, q0, r0, ha0, rfl, rfl, h0, hA0⟩ := trodAll_cons hA
  obtain ⟨v1, vs1, d1, ds1, q1, r1, ha1, rfl, rfl, h1, hA1⟩ := trodAll_cons hA0
  subst ha1
  obtain ⟨rfl, rfl, rfl⟩ := trodAll_nil hA1
  obtain rfl : args = #[v0, v1] := by cases args; simp_all
  obtain ⟨rfl, rfl⟩ := trodVars_none hV
  obtain ⟨c0, rep0, wt0⟩ := Go.Ab.arg_struct (hg := fun _ _ h => by cases h) (s := (.cat (.int .u8) (.cat (.int .u8) (.cat (.int .u8) (.cat (.slice true false 1 (.int .u8)) (.cat (.slice true false 1 (.int .u8)) .unit)))))) 9 (by kernel_rfl) (by kernel_rfl) (hval 0 _ _ rfl rfl) h0
  obtain ⟨x0, ex0, ok0⟩ := Go.Ab.rdTharuspexref17_Draft wt0
  rw [ex0] at rep0
  obtain ⟨y1, rep1, wt1⟩ := Go.Ab.arg_cell (hg := fun _ _ h => by cases h) (s := (.int .u8)) 9 (by kernel_rfl) (by kernel_rfl) (hval 1 _ _ rfl rfl) h1
  obtain ⟨x1, ex1, ok1⟩ := Go.Ab.one5 wt1
  rw [(List.cons.inj ex1).1] at rep1
  try clear hA0 hval0
  have W2 : Calls Try.prog 10 #[v0, v1] W fun e W' => e = .returned (.bool true) ∧ Below W.heap.size W W' ∧ ∀ b, b < W.heap.size → W'.heap[b]? = W.heap[b]? :=
    Go.Ab.calls_args (hg := fun _ _ h => by cases h) (args := [Go.Ab.eTharuspexref17_Draft x0, (Go.Ab.AV.int .u8) x1]) (Go.Ab.g_law17_HiddenJoint_ok x0 x1 true (Go.Ab.joint_true x0 x1 ok0 ok1)) rfl (fun j v a hv ha => by
      match j with
      | 0 => cases hv; cases ha; exact rep0
      | 1 => cases hv; cases ha; exact rep1
      | _ + 2 => simp at hv)
  simp only [List.append_nil] at hW'
  refine W2.mono fun e W' ⟨he, hg, hb⟩ => ?_
  subst he
  have stays : ∀ {t : TypeId} {v : Value} {d : DataW H} {ps : List MemPlace} (sp : Nat → Bool), Try.prog.readableRec t = true → t < Try.prog.types.size → DataW.Trod enc Try.prog W 0 (fun _ => true) true t v d ps → (∀ x ∈ ps, x.block < W.heap.size) → (∀ x ∈ ps, sp x.block = true) → DataW.Trod enc Try.prog W' 0 sp true t v d ps :=
    fun sp hr hlt h hps hsp => WideElems.Trod_stays (P := Try.prog) laid hr hlt h (fun x hx => Go.Ab.sameAt_of hb (hps x hx)) hsp
  exact ⟨_, rfl, Go.Ab.post_of_below (pv := []) hW' (fun _ _ _ => (trodAll_cons_mk (shut_bool Try.underlying4 _) trodAll_mk0))
    (fun sp hsp => trodAll_cons_mk (stays sp (by kernel_rfl) (of_decide_eq_true (by kernel_rfl)) h0 (fun x hx => hW'.lt x (by simp [hx])) (fun x hx => hsp x (by simp [hx]))) (trodAll_cons_mk (stays sp (by kernel_rfl) (of_decide_eq_true (by kernel_rfl)) h1 (fun x hx => hW'.lt x (by simp [hx])) (fun x hx => hsp x (by simp [hx]))) (trodAll_mk0))) (fun _ _ => rfl) (by simp)
    hg (ok_one (by kernel_rfl) rfl (okWide_bool_mk Try.underlying4 _))⟩

theorem over : Rows.hiddenJointRow.holds Try.pinned (OpenSpec.ofChange Rows.hiddenJointSpec) :=
  OpenClaim.holds_of_wide 10 Try.f10 rfl rfl rfl rfl rfl rfl rfl ⟨rfl, rfl, rfl, rfl, rfl⟩ rfl rfl rfl rfl rfl (by kernel_rfl) Try.func10 (by kernel_rfl)
    (of_decide_eq_true (by kernel_rfl)) (by unfold Func.isWrapper; first | (rw [if_pos (by decide +kernel)]; kernel_rfl) | (rw [if_neg (by decide +kernel)]; exact ⟨rfl, rfl⟩))
    (fun os started H enc _ => lifted os started H enc)

/-- The statement. -/
theorem proved : Rows.HiddenJointSaid := over
#print axioms proved
end Go.Proofs.Ytiadakgfblkelaa.hiddenJoint
