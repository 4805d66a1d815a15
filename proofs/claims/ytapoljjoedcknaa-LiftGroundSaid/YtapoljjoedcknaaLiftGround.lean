/-
  Proved: haruspexlaw14.LiftGround returns true for every input. No conditions.
-/
import Derived.Test.YtapoljjoedcknaaRows
import Derived.Test.YtapoljjoedcknaaW13
import Derived.Test.YtapoljjoedcknaaW15
import Derived.WalkKit
import Derived.ProofKit
import Derived.OpenShut
namespace Go.Proofs.Ytapoljjoedcknaa.liftGround
open Go.ChangeShapes Go.WideShapes Go.ChangeAt Go.RowKit
set_option linter.unusedVariables false

theorem own : ownKnob Try.prog.godebug = none := by kernel_rfl
theorem laid : laidOutB Try.prog = true := by kernel_rfl

set_option maxRecDepth 100000 in
theorem lifted (os : Os) (started : os.Started) (H : Type) (enc : TypeId × Value → H) :
    ReturnsInHanded {} Try.checked os 9 .any (Rows.liftGroundSpec.pre6 enc Try.prog Try.f9 Rows.liftGroundRow.domain false) (Rows.liftGroundSpec.post enc Try.prog Try.f9 false true false false) := by
  refine returnsInHanded_of_change (C := Try.checked) own started (by kernel_rfl) Try.func9
    (ChangeSpec.witness6 (enc := enc) (C := Try.checked) false ⟨#[], #[.agg #[.int .u8 0, .int .u8 0, .int .u8 0, .int .u8 0, .slice none 0 0], .agg #[.int .i64 0, .int .i64 0, .int .i64 0], .int .u8 0], []⟩ 8 (by kernel_rfl) (by kernel_rfl) (by kernel_rfl) (by kernel_rfl)) ?_
  intro W base args ds gs before hval0 hW hcnd _
  have hval : ∀ (j : Nat) t v, Try.f9.params[j]? = some t → args[j]? = some v → Value.okWide Try.prog W .any base t v := hval0
  have hW' := hW
  obtain ⟨p, q, hA0, hV, rfl, hfz, hnd⟩ := hW
  have hA : DataW.TrodAll enc Try.prog W 0 (fun _ => true) true Try.f9.params.toList args.toList ds p := hA0
  rw [Try.params9] at hA hval
  obtain ⟨v0, vs0, d0, ds0, q0, r0, ha0, rfl, rfl, h0, hA0⟩ := trodAll_cons hA
  obtain ⟨v1, vs1, d1, ds1, q1, r1, ha1, rfl, rfl, h1, hA1⟩ := trodAll_cons hA0
  subst ha1
  obtain ⟨v2, vs2, d2, ds2, q2, r2, ha2, rfl, rfl, h2, hA2⟩ := trodAll_cons hA1
  subst ha2
  obtain ⟨rfl, rfl, rfl⟩ := trodAll_nil hA2
  obtain rfl : args = #[v0, v1, v2] := by cases args; simp_all
  obtain ⟨rfl, rfl⟩ := trodVars_none hV
  obtain ⟨c0, rep0, wt0⟩ := Go.Ab.arg_struct (hg := fun _ _ h => by cases h) (s := (.cat (.int .u8) (.cat (.int .u8) (.cat (.int .u8) (.cat (.int .u8) (.cat (.slice true false 1 (.int .u8)) .unit)))))) 9 (by kernel_rfl) (by kernel_rfl) (hval 0 _ _ rfl rfl) h0
  obtain ⟨x0, ex0, ok0⟩ := Go.Ab.rdTharuspexref14_Draft wt0
  rw [ex0] at rep0
  obtain ⟨c1, rep1, wt1⟩ := Go.Ab.arg_struct (hg := fun _ _ h => by cases h) (s := (.cat (.int .i64) (.cat (.int .i64) (.cat (.int .i64) .unit)))) 9 (by kernel_rfl) (by kernel_rfl) (hval 1 _ _ rfl rfl) h1
  obtain ⟨x1, ex1, ok1⟩ := Go.Ab.rdTharuspexlaw14_Known wt1
  rw [ex1] at rep1
  obtain ⟨y2, rep2, wt2⟩ := Go.Ab.arg_cell (hg := fun _ _ h => by cases h) (s := (.int .u8)) 9 (by kernel_rfl) (by kernel_rfl) (hval 2 _ _ rfl rfl) h2
  obtain ⟨x2, ex2, ok2⟩ := Go.Ab.one5 wt2
  rw [(List.cons.inj ex2).1] at rep2
  try clear hA0 hval0
  have W2 : Calls Try.prog 9 #[v0, v1, v2] W fun e W' => e = .returned (.bool true) ∧ Below W.heap.size W W' ∧ ∀ b, b < W.heap.size → W'.heap[b]? = W.heap[b]? :=
    Go.Ab.calls_args (hg := fun _ _ h => by cases h) (args := [Go.Ab.eTharuspexref14_Draft x0, Go.Ab.eTharuspexlaw14_Known x1, (Go.Ab.AV.int .u8) x2]) (Go.Ab.g_law14_LiftGround_ok x0 x1 x2 true (Go.Ab.ground_true x0 x1 x2 ok0 ok1 ok2)) rfl (fun j v a hv ha => by
      match j with
      | 0 => cases hv; cases ha; exact rep0
      | 1 => cases hv; cases ha; exact rep1
      | 2 => cases hv; cases ha; exact rep2
      | _ + 3 => simp at hv)
  simp only [List.append_nil] at hW'
  refine W2.mono fun e W' ⟨he, hg, hb⟩ => ?_
  subst he
  have stays : ∀ {t : TypeId} {v : Value} {d : DataW H} {ps : List MemPlace} (sp : Nat → Bool), Try.prog.readableRec t = true → t < Try.prog.types.size → DataW.Trod enc Try.prog W 0 (fun _ => true) true t v d ps → (∀ x ∈ ps, x.block < W.heap.size) → (∀ x ∈ ps, sp x.block = true) → DataW.Trod enc Try.prog W' 0 sp true t v d ps :=
    fun sp hr hlt h hps hsp => WideElems.Trod_stays (P := Try.prog) laid hr hlt h (fun x hx => Go.Ab.sameAt_of hb (hps x hx)) hsp
  exact ⟨_, rfl, Go.Ab.post_of_below (pv := []) hW' (fun _ _ _ => (trodAll_cons_mk (shut_bool Try.underlying4 _) trodAll_mk0))
    (fun sp hsp => trodAll_cons_mk (stays sp (by kernel_rfl) (of_decide_eq_true (by kernel_rfl)) h0 (fun x hx => hW'.lt x (by simp [hx])) (fun x hx => hsp x (by simp [hx]))) (trodAll_cons_mk (stays sp (by kernel_rfl) (of_decide_eq_true (by kernel_rfl)) h1 (fun x hx => hW'.lt x (by simp [hx])) (fun x hx => hsp x (by simp [hx]))) (trodAll_cons_mk (stays sp (by kernel_rfl) (of_decide_eq_true (by kernel_rfl)) h2 (fun x hx => hW'.lt x (by simp [hx])) (fun x hx => hsp x (by simp [hx]))) (trodAll_mk0)))) (fun _ _ => rfl) (by simp)
    hg (ok_one (by kernel_rfl) rfl (okWide_bool_mk Try.underlying4 _))⟩

theorem over : Rows.liftGroundRow.holds Try.pinned (OpenSpec.ofChange Rows.liftGroundSpec) :=
  OpenClaim.holds_of_wide 9 Try.f9 rfl rfl rfl rfl rfl rfl rfl ⟨rfl, rfl, rfl, rfl, rfl⟩ rfl rfl rfl rfl rfl (by kernel_rfl) Try.func9 (by kernel_rfl)
    (of_decide_eq_true (by kernel_rfl)) (by unfold Func.isWrapper; first | (rw [if_pos (by decide +kernel)]; kernel_rfl) | (rw [if_neg (by decide +kernel)]; exact ⟨rfl, rfl⟩))
    (fun os started H enc _ => lifted os started H enc)

/-- The statement. -/
theorem proved : Rows.LiftGroundSaid := over
#print axioms proved
end Go.Proofs.Ytapoljjoedcknaa.liftGround
