/- The engine: an interpreter of the model on plain values, and rules by which what it computes is what the model does. No conditions. -/
import Derived.Test.YtapoljjoedcknaaEng5
import Derived.RowKit3
import Derived.ChangeArms
import Derived.OpenShut
import Derived.WideKeyArgs
import Derived.KernelRfl
set_option linter.all false
namespace Go.Ab
open Go.RowKit
section
variable {P : Program} {rd : Option Nat} {base : Nat} {ops : Array Oper} {st st1 st' S : St} {o : Oper} {F : Foot} {out : AOut} {Φ Ψ : AOut → Prop} {d : Option (List Sk)} {i : Nat} {nf : Bool} {s : Slots} {σ : Sto} {c x y : Code}
theorem snap_full {α : Type} {enc : α → AV} {l : List α} {ob w n : Nat} {bx ro fl : Bool} (hrow : σ ob = some (.row bx ro true fl w (l.map enc))) : snap σ (n + 1) (.ref ob 0 l.length) = some (.lst fl (l.map enc), [ob]) := by
  have : (l.map enc).take l.length = l.map enc := List.take_of_length_le (by simp)
  simp [snap, hrow, this]
theorem msnap_nil {f : AV → Option (AV × List Nat)} : mapSnap f [] = some ([], []) := rfl
theorem msnap_cons {f : AV → Option (AV × List Nat)} {x y : AV} {xs ys : List AV} {a b c : List Nat} (h1 : f x = some (y, a)) (h2 : mapSnap f xs = some (ys, b)) (hc : a ++ b = c) : mapSnap f (x :: xs) = some (y :: ys, c) := by
  subst hc; simp [mapSnap, h1, h2]
theorem snap_agg {n : Nat} {cs ys : List AV} {ids : List Nat} (h : mapSnap (snap σ n) cs = some (ys, ids)) : snap σ (n + 1) (.agg cs) = some (.agg ys, ids) := by simp [snap, h]
theorem snap_ptr {n ob k c w : Nat} {bx ro nr fl : Bool} {xs ys : List AV} {ids : List Nat} {y : AV} {z : List AV} (hrow : σ ob = some (.row bx ro nr fl w xs)) (h : mapSnap (snap σ n) xs = some (ys, ids)) (hy : ys[k]? = some y) (hz : y.flat.drop c = z) :
    snap σ (n + 1) (.ptr ob k c) = some (.fz z, ob :: ids) := by subst hz; simp [snap, hrow, h, hy]
def callInfo (ops : Array Oper) (i : Nat) (st : St) : Option (FuncId × List AV) :=
  match opAt ops i st with
  | some o => match o.op with
    | .call { callee := .value g, args, .. } => match evo (lk st.slots) g, evos (lk st.slots) args.toList with
      | some (.fn (.func f) first caps), some as => some (f, first ++ as ++ caps)
      | _, _ => none
    | _ => none
  | none => none
theorem callInfo_spec {f : FuncId} {as0 : List AV} (h : callInfo ops i st = some (f, as0)) : ∃ o g args ts first caps as, opAt ops i st = some o ∧ o.op = .call { callee := .value g, args, argTypes := ts } ∧ evo (lk st.slots) g = some (.fn (.func f) first caps) ∧
    evos (lk st.slots) args.toList = some as ∧ as0 = first ++ as ++ caps := by
  unfold callInfo at h
  split at h
  · rename_i o ho
    split at h
    · rename_i g args ts hop
      split at h
      · rename_i f' first caps as hg has
        cases h
        exact ⟨o, g, args, ts, first, caps, as, ho, hop, hg, has, rfl⟩
      · cases h
    · cases h
  · cases h
def bodyB (P : Program) (f : FuncId) : Bool :=
  match P.funcs[f]? with
  | some fn => fn.body.isSome && !(fn.name == "runtime.NumGoroutine")
  | none => false
noncomputable def callEff (st : St) (ids : List Nat) (r : AV) (objs : List AObj) : Option (List (Nat × AObj)) :=
  if objs.all AObj.okRow then
    if ids.isEmpty || (r.cls && objs.all AObj.flat) then some (impObjs st.objs.length st.objs.length objs)
    else match frz st.sto ids with
      | some es => some (es ++ impObjs st.objs.length st.objs.length objs)
      | none => none
  else none
noncomputable def callSt (ops : Array Oper) (i : Nat) (st : St) (ids : List Nat) (r : AV) (objs : List AObj) : Option St :=
  match callEff st ids r objs with
  | some eff => match finI ops i st (some (r.shift st.objs.length)) eff with
    | some S => if Nat.beq S.objs.length (st.objs.length + objs.length) then some S else none
    | none => none
  | none => none
noncomputable def callSk (st : St) (ids : List Nat) (r : AV) (objs : List AObj) : Sk := (((callEff st ids r objs).getD []).map (·.1), ids)
open Classical in
noncomputable def oneC (f : FuncId) (as : List AV) (co : COut) : FuncId → List AV → Option COut := fun g bs => if g = f ∧ bs = as then some co else none
theorem oneC_sound {f : FuncId} {as : List AV} {co : COut} (h : CallOk P f as co) (hb : bodyB P f = true) : Sound P (oneC f as co) := by
  intro g bs out he
  unfold oneC at he
  split at he
  · rename_i hc
    obtain ⟨rfl, rfl⟩ := hc
    cases he
    refine ⟨h, ?_⟩
    unfold bodyB at hb
    split at hb
    · rename_i fn hf
      simp only [Bool.and_eq_true, Bool.not_eq_true'] at hb
      exact ⟨fn, hf, hb.1, hb.2⟩
    · cases hb
  · cases he
theorem callOne {f : FuncId} {as0 us : List AV} {ids : List Nat} {rv : AV} {ro : List AObj} (hi : callInfo ops i st = some (f, as0)) (hb : bodyB P f = true) (hsn : mapSnap (snap st.sto snapDepth) as0 = some (us, ids)) (hc : CallOk P f us (.ret rv ro))
    (hS : callSt ops i st ids rv ro = some S) (k : RW P rd base ops (dAdd d [callSk st ids rv ro]) (i + 1) S Φ) : RW P rd base ops d i st Φ := by
  obtain ⟨o, g, args, ts, first, caps, as1, ho, hop, hg, has, rfl⟩ := callInfo_spec hi
  unfold callSt at hS
  unfold callSk at k
  split at hS
  · rename_i eff heff
    rw [heff] at k
    split at hS
    · rename_i S' hS'
      split at hS
      · rename_i hl
        cases hS
        obtain ⟨h1, h2⟩ := opAt_spec ho
        unfold finI at hS'
        rw [h1] at hS'
        simp only at hS'
        split at hS'
        · rename_i objs slots ha hp
          cases hS'
          refine rw_step (s := (eff.map (·.1), ids)) ⟨o, ⟨some (rv.shift st.objs.length), eff, st.objs.length, st.objs.length + ro.length, ids⟩, h1, ?_, cov_sk _⟩ (by simpa using k)
          refine stepF_ev (nf := false) (C := oneC f us (.ret rv ro)) (oneC_sound hc hb) (res := ⟨some (rv.shift st.objs.length), eff, st.objs.length + ro.length, ids⟩) h2 ?_ ha hp (Nat.eq_of_beq_eq_true hl)
          unfold evOp
          rw [hop]
          simp only [mayPan, if_true]
          unfold evalOp
          rw [hop]
          simp only [hg, has, absCall, hsn, oneC, and_self, if_true]
          unfold callEff at heff
          split at heff
          · rename_i hok
            rw [if_pos hok]
            split at heff
            · rename_i hcl
              cases heff
              rw [if_pos hcl]
            · rename_i hcl
              rw [if_neg hcl]
              split at heff
              · rename_i es hes
                cases heff
                rw [hes]
              · cases heff
          · cases heff
        · cases hS'
      · cases hS
    · cases hS
  · cases hS
theorem callR {α R : Type} {G : Option α} {K : α → Option R} {f : FuncId} {as0 us : List AV} {ids : List Nat} {rv : α → AV} {ro : α → List AObj} {S : α → St} {r : R} (hi : callInfo ops i st = some (f, as0)) (hb : bodyB P f = true)
    (hsn : mapSnap (snap st.sto snapDepth) as0 = some (us, ids)) (hc : ∀ x, G = some x → CallOk P f us (.ret (rv x) (ro x))) (hS : ∀ x, callSt ops i st ids (rv x) (ro x) = some (S x)) (h : G.bind K = some r)
    (k : ∀ x, G = some x → K x = some r → RW P rd base ops (dAdd d [callSk st ids (rv x) (ro x)]) (i + 1) (S x) Φ) : RW P rd base ops d i st Φ := by
  cases hg : G with
  | none => rw [hg] at h; cases h
  | some x => rw [hg] at h; exact callOne hi hb hsn (hc x hg) (hS x) (k x hg h)
theorem CallOk.args {f : FuncId} {us : List AV} {co : COut} (hss : List (List LK)) (h : CallOk P f (zipT hss us) co) : CallOk P f us co := by
  intro W M vs h1 h2 h3
  refine h W M vs h1 (by rw [zipT_length]; exact h2) (fun j v y hv hy => ?_)
  obtain ⟨hs, z, hz, rfl⟩ := zipT_at hss us j y hy
  exact loosen1_rep hs (h3 j v z hv hz)
theorem CallOk.res {f : FuncId} {us : List AV} {r : AV} {objs : List AObj} (hss : List (List LK)) (h : CallOk P f us (.ret r objs)) : CallOk P f us (.ret (loosenT hss r) objs) := by
  intro W M vs h1 h2 h3
  refine (h W M vs h1 h2 h3).mono fun e w he => ?_
  obtain ⟨v, M', ι', g1, g2, g3, g4, g5⟩ := he
  exact ⟨v, M', ι', g1, g2, g3, g4, loosenT_rep hss g5⟩
def bsInfo (P : Program) (ops : Array Oper) (i : Nat) (st : St) : Option (List (Nat × AV)) :=
  match opAt ops i st with
  | some o => match o.op with
    | .buildSlice _ _ ps => evParts (lk st.slots) ps.toList
    | _ => none
  | none => none
noncomputable def bsSt (P : Program) (ops : Array Oper) (i : Nat) (st : St) (he : List LK) (b : Bool) (parts : List (Nat × AV)) (ids : List Nat) : Option (St × List (Nat × AObj)) :=
  match opAt ops i st with
  | some o => match o.op with
    | .buildSlice t n _ => match ti P t with
      | some T => match T.kind with
        | .slice e => match ti P e with
          | some E => if n = 0 then none else match E.zero with
            | some z => if Nat.beq z.flat.length E.size && Nat.blt 0 E.size && Nat.ble (n * E.size) 16777216 then
                match fillElems E.size (List.replicate n z) parts, frz st.sto ids with
                | some xs, some es => match finI ops i st (some (.ref st.objs.length 0 n)) (es ++ [(st.objs.length, .row false false (AV.nrL xs) (b && xs.all AV.scs) E.size (xs.map (loosen1 he)))]) with
                  | some S => if Nat.beq S.objs.length (st.objs.length + 1) then some (S, es ++ [(st.objs.length, .row false false (AV.nrL xs) (xs.all AV.scs) E.size xs)]) else none
                  | none => none
                | _, _ => none
              else none
            | none => none
          | none => none
        | _ => none
      | none => none
    | _ => none
  | none => none
theorem loosenEff_last (he : List LK) (b : Bool) (es : List (Nat × AObj)) (o : Nat) (bx ro nr fl : Bool) (w : Nat) (xs : List AV) : loosenEff he b (es ++ [(o, .row bx ro nr fl w xs)]) = es ++ [(o, .row bx ro nr (b && fl) w (xs.map (loosen1 he)))] := by
  induction es with
  | nil => rfl
  | cons e es ih =>
    obtain ⟨o', x⟩ := e
    cases es with
    | nil => simp [loosenEff]
    | cons e' es => simp only [List.cons_append, loosenEff] at ih ⊢; rw [ih]
theorem bsR {parts0 parts : List (Nat × AV)} {ids : List Nat} {es : List (Nat × AObj)} (he : List LK) (b : Bool) (hi : bsInfo P ops i st = some parts0) (hsn : snapParts st.sto parts0 = some (parts, ids)) (hS : bsSt P ops i st he b parts ids = some (S, es))
    (k : RW P rd base ops (dAdd d [(es.map (·.1), ids)]) (i + 1) S Φ) : RW P rd base ops d i st Φ := by
  unfold bsInfo at hi
  unfold bsSt at hS
  split at hi
  · rename_i o ho
    rw [ho] at hS
    simp only at hS
    split at hi
    · rename_i t n ps hop
      rw [hop] at hS
      simp only at hS
      split at hS
      · rename_i T hT
        split at hS
        · rename_i e hk
          split at hS
          · rename_i E hE
            split at hS
            · cases hS
            · rename_i hn
              split at hS
              · rename_i z hz
                split at hS
                · rename_i hc
                  split at hS
                  · rename_i xs es' hxs hes
                    split at hS
                    · rename_i S' hS'
                      split at hS
                      · rename_i hl
                        cases hS
                        refine rw_ofL (nf := false) (v := some (.ref st.objs.length 0 n)) (eff := es' ++ [(st.objs.length, .row false false (AV.nrL xs) (xs.all AV.scs) E.size xs)]) (fr := st.objs.length + 1) (rds := ids) [] he b noC_sound ho ?_
                          (by rw [loosenEff_last]; exact hS') (Nat.eq_of_beq_eq_true hl) k
                        unfold evOp
                        rw [hop]
                        simp only [mayPan, Bool.false_eq_true, if_false]
                        unfold evalOp
                        rw [hop]
                        simp only [hT, hk, hE, hi, hn, if_false, hz, hsn, Bool.false_eq_true, hc, if_true, hxs, hes, onlyVal]
                      · cases hS
                    · cases hS
                  · cases hS
                · cases hS
              · cases hS
          · cases hS
        · cases hS
      · cases hS
    · cases hi
  · cases hi
theorem sparts_nil : snapParts σ [] = some ([], []) := rfl
theorem sparts_snap {j : Nat} {x y : AV} {r ys : List (Nat × AV)} {a b c : List Nat} (hx : x.nr = false) (h1 : snap σ snapDepth x = some (y, a)) (h : snapParts σ r = some (ys, b)) (hc : a ++ b = c) : snapParts σ ((j, x) :: r) = some ((j, y) :: ys, c) := by subst hc; simp [snapParts, hx, h1, h]
theorem rw_br {R : Type} {b : Bool} {S : Bool → St} {A B : Option R} {r : R} (h : (if b = true then A else B) = some r) (h1 : b = true → A = some r → RW P rd base ops d i (S true) Φ) (h2 : b = false → B = some r → RW P rd base ops d i (S false) Φ) : RW P rd base ops d i (S b) Φ := by
  cases b
  · exact h2 rfl (by simpa using h)
  · exact h1 rfl (by simpa using h)
theorem wp_br {R : Type} {b : Bool} {S : Bool → St} {A B : Option R} {r : R} (h : (if b = true then A else B) = some r) (h1 : b = true → A = some r → WP P rd base c (S true) Φ) (h2 : b = false → B = some r → WP P rd base c (S false) Φ) : WP P rd base c (S b) Φ := by
  cases b
  · exact h2 rfl (by simpa using h)
  · exact h1 rfl (by simpa using h)
theorem wp_kn {b c' : Bool} {S : Bool → St} (hb : b = c') (h : WP P rd base c (S c') Φ) : WP P rd base c (S b) Φ := by rw [hb]; exact h
theorem rw_knN {n m : Nat} {S : Nat → St} (hb : n = m) (h : RW P rd base ops d i (S m) Φ) : RW P rd base ops d i (S n) Φ := by rw [hb]; exact h
theorem ne_eq {a b : Int} {c : Bool} (h : (a != b) = c) : (a == b) = !c := by rw [← h]; simp [bne]
theorem wp_condT {op : Operand} (he : evo (lk st.slots) op = some (.bool true)) (h : WP P rd base x st Φ) : WP P rd base (.cond op x y) st Φ := wp_cond he (fun _ => h) (fun e => by cases e)
theorem wp_condF {op : Operand} (he : evo (lk st.slots) op = some (.bool false)) (h : WP P rd base y st Φ) : WP P rd base (.cond op x y) st Φ := wp_cond he (fun e => by cases e) (fun _ => h)
def RoundIs' {σ ρ : Type} (P : Program) (base : Nat) (I : σ → St) (Ex : ρ → AOut → Prop) (o : Step σ ρ) (out : AOut) : Prop :=
  match o with
  | .next s => ∃ st1, out = .go .normal st1 ∧ Wk P base st1 (I s)
  | .done x => Ex x out ∧ out.normal = false
theorem lwp_while {σ ρ : Type} {body : σ → Option (Step σ ρ)} {I : σ → St} {Ex : ρ → AOut → Prop} (round : ∀ s o, body s = some o → WP P rd base c (I s) (RoundIs' P base I Ex o)) :
    ∀ (n : Nat) (s : σ) (x : ρ), whileN n body s = some x → LWP P rd base c (I s) (Ex x)
  | 0, s, x, h => by cases h
  | n + 1, s, x, h => by
    simp only [whileN] at h
    split at h
    · rename_i s' hb
      refine lwp_step ((round s _ hb).mono fun out ho => ?_)
      obtain ⟨st1, rfl, hw⟩ := ho
      exact lwp_wk hw (lwp_while round n s' x h)
    · rename_i x' hb
      cases h
      refine lwp_step ((round s _ hb).mono fun out ho => ?_)
      obtain ⟨h1, h2⟩ := ho
      cases out with
      | pan v => exact h1
      | go e st1 => cases e <;> first | exact h1 | simp [AOut.normal] at h2
    · cases h
theorem wp_while {σ ρ R : Type} {n : Nat} {body : σ → Option (Step σ ρ)} {I : σ → St} {Ex : ρ → AOut → Prop} {K : ρ → Option R} {r : R} (s0 : σ) (hw : Wk P base st (I s0)) (h : (whileN n body s0).bind K = some r)
    (round : ∀ s o, body s = some o → WP P rd base c (I s) (RoundIs' P base I Ex o)) (k : ∀ x, K x = some r → ∀ out, Ex x out → Φ out) : WP P rd base (.loop c) st Φ := by
  cases hx : whileN n body s0 with
  | none => rw [hx] at h; cases h
  | some x =>
    rw [hx] at h
    obtain ⟨out, h1, h2⟩ := lwp_wk hw (lwp_while round n s0 x hx)
    exact wp_loop ⟨out, h1, k x h out h2⟩
noncomputable def fnOut (P : Program) (fn : Func) (hss : List (List LK)) : AOut → Option (AV × List AObj)
  | .go e st' => if e.ends then match resultA P fn st' with
      | some x => match exportV st' x with
        | some (.ret r objs) => some (loosenT hss r, objs)
        | _ => none
      | none => none
    else none
  | .pan _ => none
theorem fn_ok {f : FuncId} {fn : Func} {c : Code} {args : List AV} {rv : AV} {ro : List AObj} (hss : List (List LK)) (hf : P.funcs[f]? = some fn) (hb : fn.body = some c) (hn : (fn.name == "runtime.NumGoroutine") = false) (hle : Nat.ble args.length fn.ntmps = true)
    (h : WP P none 0 c (st0 fn.ntmps args) (fun out => fnOut P fn hss out = some (rv, ro))) : CallOk P f args (.ret rv ro) := by
  obtain ⟨co, h1, r', h2, h3⟩ := call_wp (R := fun co => ∃ r', co = .ret r' ro ∧ loosenT hss r' = rv) hf hb hn (Nat.le_of_ble_eq_true hle) (h.mono fun out ho => by
    cases out with
    | pan v => cases ho
    | go e st' =>
      simp only [fnOut] at ho
      split at ho
      · rename_i he
        split at ho
        · rename_i x hx
          split at ho
          · rename_i r objs hex
            simp only [Option.some.injEq, Prod.mk.injEq] at ho
            obtain ⟨h1, rfl⟩ := ho
            exact ⟨he, x, hx, _, hex, r, rfl, h1⟩
          · cases ho
        · cases ho
      · cases ho)
  rw [← h3]
  rw [h2] at h1
  exact h1.res hss
noncomputable def inlEnd (P : Program) (fn : Func) (ops : Array Oper) (i : Nat) (st : St) : AOut → Option St
  | .go e st' => if e.ends then match resultA P fn st', ops[i]? with
      | some x, some o => match putD st.slots st.nt o.dst (some x) with
        | some slots => some ⟨slots, st'.objs, st.nt⟩
        | none => none
      | _, _ => none
    else none
  | .pan _ => none
theorem inlR {f : FuncId} {fn : Func} {c : Code} {as0 : List AV} (hi : callInfo ops i st = some (f, as0)) (hf : P.funcs[f]? = some fn) (hb : fn.body = some c) (hn : (fn.name == "runtime.NumGoroutine") = false) (hle : Nat.ble as0.length fn.ntmps = true)
    (h : WP P none st.objs.length c ⟨enumA 0 as0, st.objs, fn.ntmps⟩ (fun out => ∃ S, inlEnd P fn ops i st out = some S ∧ RW P rd base ops none (i + 1) S Φ)) : RW P rd base ops none i st Φ := by
  obtain ⟨o, g, args, ts, first, caps, as1, ho, hop, hg, has, rfl⟩ := callInfo_spec hi
  obtain ⟨h1, h2⟩ := opAt_spec ho
  obtain ⟨out, hx, S, hS, k⟩ := h
  unfold inlEnd at hS
  split at hS
  · rename_i e st'
    split at hS
    · rename_i he
      split at hS
      · rename_i x o' hr ho'
        rw [h1] at ho'; cases ho'
        split at hS
        · rename_i slots hp
          cases hS
          obtain ⟨out2, k1, k2⟩ := k
          have hi' : i < ops.size := (Array.getElem?_eq_some_iff.1 h1).1
          refine ⟨out2, ?_, k2⟩
          rw [restI_cons hi']
          exact opsX_cons h1 h2 (opX_inline hop hg has hf hb hn (Nat.le_of_ble_eq_true hle) hx he hr hp) k1
        · cases hS
      · cases hS
    · cases hS
  · cases hS
def yldEnd (ops : Array Oper) (i l : Nat) (st : St) : AOut → Option St
  | .go e st' => match st'.objs[l]?, ops[i]? with
    | some (.loop nt2 sl2 ps2 as2 bd2 _ _), some o => match putD st.slots st.nt o.dst (some (.bool e.pend.isNone)) with
      | some slots => some ⟨slots, st'.objs.set l (.loop nt2 sl2 ps2 as2 bd2 (if e.pend.isNone then .ready else .done) e.pend), st.nt⟩
      | none => none
    | _, _ => none
  | .pan _ => none
def yldInfo (ops : Array Oper) (i : Nat) (st : St) : Option (Nat × List AV) :=
  match opAt ops i st with
  | some o => match o.op with
    | .call { callee := .value g, args, .. } => match evo (lk st.slots) g, evos (lk st.slots) args.toList with
      | some (.yld l), some us => some (l, us)
      | _, _ => none
    | _ => none
  | none => none
def yldMid (l nt : Nat) : AOut → Option St
  | .go .normal ⟨sl, objs, n⟩ => match objs[l]? with
    | some (.loop ntL slL psL asL bdL .ready peL) => if Nat.beq n nt then some ⟨sl, objs.set l (.loop ntL slL psL asL bdL .busy peL), nt⟩ else none
    | _ => none
  | _ => none
theorem yldR {l nt : Nat} {us : List AV} {sl : List (Nat × AV)} {ps : List Tmp} {assign body : Code} {pe : Option Code} (hi : yldInfo ops i st = some (l, us)) (hl : st.objs[l]? = some (.loop nt sl ps assign body .ready pe))
    (hlen : (Nat.beq us.length ps.length && ps.all fun t => Nat.blt t nt) = true)
    (h : WP P (some l) st.objs.length assign ⟨setPs sl ps us, st.objs, nt⟩ (fun outA => ∃ SA, yldMid l nt outA = some SA ∧ WP P (some l) st.objs.length body SA (fun outB => ∃ S, yldEnd ops i l st outB = some S ∧ RW P rd base ops none (i + 1) S Φ))) :
    RW P rd base ops none i st Φ := by
  unfold yldInfo at hi
  split at hi
  · rename_i o ho
    split at hi
    · rename_i g args ts hop
      split at hi
      · rename_i l' us' hg has
        simp only [Option.some.injEq, Prod.mk.injEq] at hi
        obtain ⟨rfl, rfl⟩ := hi
        obtain ⟨h1, h2⟩ := opAt_spec ho
        simp only [Bool.and_eq_true, List.all_eq_true] at hlen
        obtain ⟨outA, hxA, SA, hSA, outB, hxB, S, hS, k⟩ := h
        unfold yldMid at hSA
        split at hSA
        · rename_i slA objsA n
          split at hSA
          · rename_i ntL slL psL asL bdL peL hlA
            split at hSA
            · rename_i hn
              cases hSA
              have hn := Nat.eq_of_beq_eq_true hn
              subst hn
              unfold yldEnd at hS
              split at hS
              · rename_i e st'
                split at hS
                · rename_i nt2 sl2 ps2 as2 bd2 s2 pe2 o' hlB ho'
                  rw [h1] at ho'; cases ho'
                  split at hS
                  · rename_i slots hp
                    cases hS
                    obtain ⟨out2, k1, k2⟩ := k
                    have hi' : i < ops.size := (Array.getElem?_eq_some_iff.1 h1).1
                    refine ⟨out2, ?_, k2⟩
                    rw [restI_cons hi']
                    exact opsX_cons h1 h2 (opX_yield hop hg has hl (Nat.eq_of_beq_eq_true hlen.1) (fun t ht => blt_lt (hlen.2 t ht)) hxA hlA hxB hlB hp) k1
                  · cases hS
                · cases hS
              · cases hS
            · cases hSA
          · cases hSA
        · cases hSA
      · cases hi
    · cases hi
  · cases hi
theorem wp_range {g : Operand} {ps : Array Tmp} {assign body : Code} {f : FuncId} {fn : Func} {c : Code} {first caps : List AV} (hg : evo (lk st.slots) g = some (.fn (.func f) first caps)) (hf : P.funcs[f]? = some fn) (hb : fn.body = some c) (hn : (fn.name == "runtime.NumGoroutine") = false)
    (hle : Nat.ble (first ++ [AV.yld st.objs.length] ++ caps).length fn.ntmps = true) (hrd : rdOk rd st.objs = true)
    (h : WP P none (st.objs.length + 1) c (rangeSt st ps.toList assign body first caps fn.ntmps) (fun out0 => ∃ out, rangeOut P fn st out0 = some out ∧ Φ out)) : WP P rd base (.rangeFunc g ps assign body) st Φ := by
  obtain ⟨out0, h0, out, h1, h2⟩ := h
  refine ⟨out, exec_rangeFunc hg hf hb hn (Nat.le_of_ble_eq_true hle) (fun l hl => ?_) h0 h1, h2⟩
  subst hl
  simp only [rdOk] at hrd
  split at hrd
  · exact ⟨_, _, _, _, _, _, _, by assumption⟩
  · cases hrd
theorem wp_eqB {base' : Nat} (hb : base = base') (hs : st = st') (h : WP P rd base' c st' Φ) : WP P rd base c st Φ := by subst hb; subst hs; exact h
theorem bind_elim {α R : Type} {G : Option α} {K : α → Option R} {r : R} {X : Prop} (h : G.bind K = some r) (k : ∀ a, G = some a → K a = some r → X) : X := by
  cases hg : G with
  | none => rw [hg] at h; cases h
  | some a => rw [hg] at h; exact k a hg h
theorem rw_wk {i : Nat} (hk : Wk P base st st') (h : RW P rd base ops none i st' Φ) : RW P rd base ops none i st Φ := by
  obtain ⟨out, h1, h2⟩ := h
  refine ⟨out, ?_, h2⟩
  intro B W0 D0 dl M ι a W n Q r hs hr hp
  obtain ⟨M', ι', hM, hι, hs'⟩ := hk B W0 D0 dl M ι a W hs
  exact h1 B W0 D0 dl M' ι' a W n Q r hs' (hr.mono hι) (hp.step hM hι (List.suffix_refl _))
end
abbrev vI (n : Int) : AV := .int .i64 n
abbrev eI : Int → AV := AV.int .i64
abbrev vB (b : Bool) : AV := .bool b
abbrev oR {α : Type} (fl : Bool) (w : Nat) (enc : α → AV) (l : List α) : AObj := .row false false true fl w (l.map enc)
abbrev oX (nr fl : Bool) (w : Nat) (x : AV) : AObj := .row true false nr fl w [x]
def rgAt : Code → List Bool → Code
  | .seq a b, false :: r => rgAt a r
  | .seq a b, true :: r => rgAt b r
  | .cond _ a b, false :: r => rgAt a r
  | .cond _ a b, true :: r => rgAt b r
  | .block _ b, _ :: r => rgAt b r
  | .loop b, _ :: r => rgAt b r
  | .scope b, _ :: r => rgAt b r
  | .rangeFunc _ _ a b, false :: r => rgAt a r
  | .rangeFunc _ _ a b, true :: r => rgAt b r
  | c, _ => c
def cA (fn : Func) (w : List Bool) : Code := rgAt (fn.body.getD .skip) (w ++ [false])
def cB (fn : Func) (w : List Bool) : Code := rgAt (fn.body.getD .skip) (w ++ [true])
end Go.Ab
namespace Go.Ab
open Go.RowKit
section
variable {P : Program} {B : Nat} {W0 W : World} {D D0 dl : List Nat} {M : CM} {ι : Inj} {σ : Sto} {st st' : St} {a : Act} {base : Nat}
theorem flat_ids {x y : AV} (h : y ∈ x.flat) : ∀ o ∈ y.ids, o ∈ x.ids := by
  cases x with
  | agg cs => intro o ho; simp only [AV.ids, idsL_mem]; exact ⟨y, h, ho⟩
  | _ => simp only [AV.flat, List.mem_singleton] at h; subst h; exact fun o ho => ho
theorem TrE.congr {ι' : Inj} {x : AV} (h : ∀ o ∈ x.ids, ι' o = ι o) : TrE M ι ι' x x :=
  ⟨fun _ h => h, fun h => h, fun j y hj => ⟨y, hj, fun v hv => hv.congr (fun o ho => h o (flat_ids (List.mem_of_getElem? hj) o ho)), fun v hv => hv⟩⟩
theorem TrE.ref {ι' : Inj} {o o' n : Nat} (h : ∀ p, ι o = some p → ι' o' = some p) : TrE M ι ι' (.ref o 0 n) (.ref o' 0 n) := by
  refine ⟨fun w hw => ren_shaped (f := fun _ => some o') rfl hw, fun h => (by cases h), fun c y' hc => ?_⟩
  cases c with
  | succ c => simp [AV.flat] at hc
  | zero =>
    simp only [AV.flat, List.getElem?_cons_zero, Option.some.injEq] at hc
    subst hc
    refine ⟨_, rfl, fun v hv => ?_, fun v hv => ?_⟩
    · obtain ⟨p, hp, hq⟩ := rep_ref hv
      exact hq _ _ (h p hp)
    · obtain ⟨p, hp, _⟩ := rep_ref hv
      cases hp
variable {rd : Option Nat} {ops : Array Oper} {S : St} {o : Oper} {out : AOut} {Φ : AOut → Prop} {d : Option (List Sk)} {i : Nat}
end
end Go.Ab
namespace Go.Ab
open Go.RowKit
theorem grown_of {W W' : World} (h : Below W.heap.size W W') (hc : ∀ b o, W.heap.size ≤ b → W'.frozen? ⟨b, o, none⟩ = false) : Grown W W' := by
  refine ⟨h.frame _, fun a => ?_, h.size⟩
  rcases Nat.lt_or_ge a.block W.heap.size with hb | hb
  · simp only [World.frozen?, h.block _ hb]
  · have h1 : W'.frozen? a = false := hc a.block a.off hb
    have h2 : W.frozen? a = false := by
      unfold World.frozen?
      rw [Array.getElem?_eq_none hb]
    rw [h1, h2]
end Go.Ab
namespace Go.Ab
open Go.RowKit
inductive Sh where
  | int (k : IntKind)
  | bool
  | str
  | slice (fl ag : Bool) (w : Nat) (e : Sh)
  | cat (a b : Sh)
  | unit
def Sh.scal : Sh → Bool
  | .slice .. => false
  | .cat a b => a.scal && b.scal
  | _ => true
def Sh.width : Sh → Nat
  | .cat a b => a.width + b.width
  | .unit => 0
  | _ => 1
def WT : Sh → List AV → Prop
  | .int k, cs => ∃ n, cs = [.int k n] ∧ (Lit.int k n).wf = true
  | .bool, cs => ∃ b, cs = [.bool b]
  | .str, cs => ∃ s, cs = [.str s] ∧ s.size ≤ maxLen
  | .slice fl ag w e, cs => ∃ xs, cs = [.lst fl xs] ∧ xs.length ≤ maxLen ∧ ∀ x ∈ xs, WT e x.flat ∧ (if ag then x = .agg x.flat else x.cell = true)
  | .cat a b, cs => ∃ x y, cs = x ++ y ∧ WT a x ∧ WT b y
  | .unit, cs => cs = []
def isAggT (P : Program) (t : TypeId) : Bool := match P.underlying t with | some (.struct _) => true | _ => false
def shFields (P : Program) (rec : TypeId → Option Sh) : List Field → Nat → Option Sh
  | [], _ => some .unit
  | f :: r, o => match rec f.type with
    | some s => if Nat.beq f.offset o && Nat.beq s.width (P.cellsOf f.type) then (match shFields P rec r (o + s.width) with | some q => some (.cat s q) | none => none) else none
    | none => none
def shOf (P : Program) : Nat → TypeId → Option Sh
  | 0, _ => none
  | n + 1, t => match P.underlying t with
    | some .bool => some .bool
    | some (.int k) => some (.int k)
    | some .string => some .str
    | some (.slice e) => match shOf P n e with
      | some s => if Nat.beq s.width (P.cellsOf e) && Nat.blt 0 (P.cellsOf e) && (isAggT P e || Nat.beq s.width 1) then some (.slice s.scal (isAggT P e) (P.cellsOf e) s) else none
      | none => none
    | some (.struct fs) => match shFields P (shOf P n) fs.toList 0 with
      | some s => if Nat.beq s.width (P.cellsOf t) then some s else none
      | none => none
    | _ => none
theorem WT_len : ∀ {s : Sh} {cs : List AV}, WT s cs → cs.length = s.width
  | .int k, cs, h => by obtain ⟨n, rfl, _⟩ := h; rfl
  | .bool, cs, h => by obtain ⟨n, rfl⟩ := h; rfl
  | .str, cs, h => by obtain ⟨n, rfl, _⟩ := h; rfl
  | .slice _ _ _ _, cs, h => by obtain ⟨n, rfl, _⟩ := h; rfl
  | .cat a b, cs, h => by obtain ⟨x, y, rfl, h1, h2⟩ := h; simp [Sh.width, WT_len h1, WT_len h2]
  | .unit, cs, h => by cases h; rfl
theorem WT_scal : ∀ {s : Sh} {cs : List AV}, WT s cs → s.scal = true → cs.all AV.sc = true
  | .int k, cs, h, _ => by obtain ⟨n, rfl, _⟩ := h; rfl
  | .bool, cs, h, _ => by obtain ⟨n, rfl⟩ := h; rfl
  | .str, cs, h, _ => by obtain ⟨n, rfl, _⟩ := h; rfl
  | .slice _ _ _ _, cs, h, hs => by cases hs
  | .cat a b, cs, h, hs => by
    obtain ⟨x, y, rfl, h1, h2⟩ := h
    simp only [Sh.scal, Bool.and_eq_true] at hs
    rw [List.all_append, WT_scal h1 hs.1, WT_scal h2 hs.2]; rfl
  | .unit, cs, h, _ => by cases h; rfl
def CellsOk (M : CM) (cs : List Value) (avs : List AV) : Prop := avs.length = cs.length ∧ ∀ (j : Nat) (v : Value) (y : AV), cs[j]? = some v → avs[j]? = some y → RepV M noInj v y ∧ y.cell = true
theorem cellsOk_one {M : CM} {v : Value} {y : AV} (h : RepV M noInj v y) (hc : y.cell = true) : CellsOk M [v] [y] := by
  refine ⟨rfl, fun j v' y' h1 h2 => ?_⟩
  cases j with
  | zero => cases h1; cases h2; exact ⟨h, hc⟩
  | succ j => simp at h1
theorem cellsOk_append {M : CM} {a b : List Value} {x y : List AV} (h1 : CellsOk M a x) (h2 : CellsOk M b y) : CellsOk M (a ++ b) (x ++ y) := by
  refine ⟨by simp [h1.1, h2.1], fun j v z hv hz => ?_⟩
  rcases Nat.lt_or_ge j a.length with hj | hj
  · rw [List.getElem?_append_left hj] at hv
    rw [List.getElem?_append_left (by rw [h1.1]; exact hj)] at hz
    exact h1.2 j v z hv hz
  · rw [List.getElem?_append_right hj] at hv
    rw [List.getElem?_append_right (by rw [h1.1]; exact hj), h1.1] at hz
    exact h2.2 _ v z hv hz
theorem choose_list {α : Type} {n : Nat} {Q : Nat → α → Prop} (h : ∀ i, i < n → ∃ x, Q i x) : ∃ xs : List α, xs.length = n ∧ ∀ i x, xs[i]? = some x → Q i x := by
  induction n with
  | zero => exact ⟨[], rfl, fun i x hx => by simp at hx⟩
  | succ n ih =>
    obtain ⟨xs, h1, h2⟩ := ih fun i hi => h i (by omega)
    obtain ⟨x, hx⟩ := h n (by omega)
    refine ⟨xs ++ [x], by simp [h1], fun i y hy => ?_⟩
    rcases Nat.lt_or_ge i xs.length with hi | hi
    · rw [List.getElem?_append_left hi] at hy; exact h2 i y hy
    · rw [List.getElem?_append_right hi] at hy
      cases hk : i - xs.length with
      | zero =>
        rw [hk] at hy
        cases hy
        rw [show i = n by omega]; exact hx
      | succ k => rw [hk] at hy; simp at hy
def memOf (w : World) : CM := fun b o => w.cell? ⟨b, o, none⟩
theorem mapM_some {α β : Type} {f : α → Option β} : ∀ {l : List α} {r : List β}, l.mapM f = some r → r.length = l.length ∧ ∀ (i : Nat) (a : α), l[i]? = some a → f a = r[i]?
  | [], r, h => by simp at h; subst h; simp
  | a :: l, r, h => by
    simp only [List.mapM_cons, Option.pure_def, Option.bind_eq_bind, Option.bind_eq_some_iff] at h
    obtain ⟨b, hb, bs, hbs, h⟩ := h
    cases h
    obtain ⟨h1, h2⟩ := mapM_some hbs
    refine ⟨by simp [h1], fun i x hx => ?_⟩
    cases i with
    | zero => cases hx; simpa using hb
    | succ i => simpa using h2 i x (by simpa using hx)
theorem cells_at {w : World} {base : Nat} {a : Addr} {n : Nat} {row : List Value} (h : w.cells? base a n = some row) : row.length = n ∧ ∀ i, i < n → w.cell? (a.add i) = row[i]? := by
  unfold World.cells? at h
  split at h
  · obtain ⟨h1, h2⟩ := mapM_some h
    refine ⟨by simpa using h1, fun i hi => h2 i i (by simp [hi])⟩
  · cases h
theorem cell_spot {w : World} {a : Addr} {v : Value} (h : w.cell? a = some v) : a.spot = none := by
  unfold World.cell? at h
  cases hs : a.spot with
  | none => rfl
  | some s =>
    simp only [hs] at h
    split at h <;> simp at h
theorem add_zero' (a : Addr) : a.add 0 = a := by simp [Addr.add]
theorem add_none (b off k : Nat) : (⟨b, off, none⟩ : Addr).add k = ⟨b, off + k, none⟩ := by
  unfold Addr.add
  split
  · rename_i h; subst h; rfl
  · rfl
section
variable {H : Type} {enc : TypeId × Value → H} {P : Program} {w : World} {base : Nat}
theorem fields_rep {cs : List Value} {m : Nat} {rec : TypeId → Option Sh} (ih : ∀ (t : TypeId) (s : Sh), rec t = some s → ∀ (cs : List Value) (x : DataW H × List MemPlace), DataW.trod enc P w base (fun _ => true) true m t cs = some x → ∃ avs, CellsOk (memOf w) cs avs ∧ WT s avs) :
    ∀ (l : List Field) (o : Nat) (s : Sh), shFields P rec l o = some s → (∀ f ∈ l, ∃ x, DataW.trod enc P w base (fun _ => true) true m f.type ((cs.drop f.offset).take (P.cellsOf f.type)) = some x) → ∃ avs, CellsOk (memOf w) ((cs.drop o).take s.width) avs ∧ WT s avs
  | [], o, s, h, _ => by
    cases h
    exact ⟨[], ⟨by simp [Sh.width], fun j v y h1 h2 => by simp at h2⟩, rfl⟩
  | f :: l, o, s, h, hf => by
    unfold shFields at h
    split at h
    · rename_i s1 hs1
      split at h
      · rename_i hc
        split at h
        · rename_i q hq
          cases h
          simp only [Bool.and_eq_true] at hc
          have h1 := Nat.eq_of_beq_eq_true hc.1
          have h2 := Nat.eq_of_beq_eq_true hc.2
          obtain ⟨x, hx⟩ := hf f (by simp)
          rw [h1, ← h2] at hx
          obtain ⟨a1, c1, w1⟩ := ih _ _ hs1 _ _ hx
          obtain ⟨a2, c2, w2⟩ := fields_rep ih l (o + s1.width) q hq (fun g hg => hf g (by simp [hg]))
          refine ⟨a1 ++ a2, ?_, a1, a2, rfl, w1, w2⟩
          have e : (cs.drop o).take (s1.width + q.width) = (cs.drop o).take s1.width ++ (cs.drop (o + s1.width)).take q.width := by
            rw [List.take_add, List.drop_drop]
          simp only [Sh.width]
          rw [e]
          exact cellsOk_append c1 c2
        · cases h
      · cases h
    · cases h
theorem flat_agg (cs : List AV) : (AV.agg cs).flat = cs := rfl
theorem trod_rep : ∀ (n : Nat) (t : TypeId) (s : Sh), shOf P n t = some s → ∀ (m : Nat) (cs : List Value) (x : DataW H × List MemPlace), DataW.trod enc P w base (fun _ => true) true m t cs = some x → ∃ avs, CellsOk (memOf w) cs avs ∧ WT s avs
  | 0, t, s, h => by simp [shOf] at h
  | n + 1, t, s, h => by
    intro m cs x hx
    unfold shOf at h
    split at h
    · rename_i ht
      cases h
      obtain ⟨b, rfl, _⟩ := DataW.trod_bool ht hx
      exact ⟨[.bool b], cellsOk_one (.bool b) rfl, b, rfl⟩
    · rename_i k ht
      cases h
      obtain ⟨z, rfl, _, hw⟩ := DataW.trod_int ht hx
      exact ⟨[.int k z], cellsOk_one (.int k z) rfl, z, rfl, hw⟩
    · rename_i ht
      cases h
      obtain ⟨z, rfl, _, hw⟩ := DataW.trod_string ht hx
      exact ⟨[.str z], cellsOk_one (.str z) rfl, z, rfl, hw⟩
    · rename_i e ht
      split at h
      · rename_i s1 hs1
        split at h
        · rename_i hc
          cases h
          simp only [Bool.and_eq_true, Bool.or_eq_true] at hc
          obtain ⟨⟨hw, hpos⟩, hag⟩ := hc
          have hw := Nat.eq_of_beq_eq_true hw
          have hpos : 0 < P.cellsOf e := by simpa using hpos
          rcases DataW.trod_slice ht hx with ⟨rfl, _⟩ | ⟨a, len, cap, elems, rest, n', _, rfl, _, hb, hl, hm, hlen, hel, hsp, _⟩
          · exact ⟨[.lst s1.scal []], cellsOk_one (.lst0 none _) rfl, [], rfl, by simp, fun x hx => by cases hx⟩
          · have hsp := hsp rfl
            have hspot : 0 < cap → a.spot = none := fun hcap => by
              have key : ∃ row, w.cells? base a (P.cellsOf e) = some row := by
                rcases Nat.eq_zero_or_pos len with h0 | h0
                · have := hsp.2 0 (by omega)
                  rw [List.getElem?_eq_getElem (by omega)] at this
                  obtain ⟨row, h1, _⟩ := Option.bind_eq_some_iff.1 this
                  rw [h0, Nat.add_zero, Nat.zero_mul, add_zero'] at h1
                  exact ⟨row, h1⟩
                · have := hel 0 h0
                  rw [List.getElem?_eq_getElem (by omega)] at this
                  obtain ⟨row, h1, _⟩ := Option.bind_eq_some_iff.1 this
                  rw [Nat.zero_mul, add_zero'] at h1
                  exact ⟨row, h1⟩
              obtain ⟨row, hk⟩ := key
              obtain ⟨h1, h2⟩ := cells_at hk
              have h3 := h2 0 hpos
              rw [List.getElem?_eq_getElem (by omega), add_zero'] at h3
              exact cell_spot h3
            rcases Nat.eq_zero_or_pos cap with h0 | h0
            · have hl0 : len = 0 := by omega
              subst h0; subst hl0
              exact ⟨[.lst s1.scal []], cellsOk_one (.lst0 _ _) rfl, [], rfl, by simp, fun x hx => by cases hx⟩
            · have hspot := hspot h0
              obtain ⟨blk, off, spot⟩ := a
              simp only at hspot
              subst hspot
              have each : ∀ i, i < len → ∃ z : AV, z.shaped (P.cellsOf e) ∧ WT s1 z.flat ∧ (if isAggT P e then z = .agg z.flat else z.cell = true) ∧ ∀ (j : Nat) (y : AV), z.flat[j]? = some y → ∃ v, w.cell? ⟨blk, off + i * P.cellsOf e + j, none⟩ = some v ∧ RepV (memOf w) noInj v y := by
                intro i hi
                have h1 := hel i hi
                rw [List.getElem?_eq_getElem (by omega)] at h1
                obtain ⟨row, h2, h3⟩ := Option.bind_eq_some_iff.1 h1
                obtain ⟨avs, c1, w1⟩ := trod_rep n e s1 hs1 _ _ _ h3
                obtain ⟨g1, g2⟩ := cells_at h2
                have hlen' := WT_len w1
                have cellv : ∀ (j : Nat) (y : AV), avs[j]? = some y → ∃ v, w.cell? ⟨blk, off + i * P.cellsOf e + j, none⟩ = some v ∧ RepV (memOf w) noInj v y ∧ y.cell = true := fun j y hy => by
                  have hj := (List.getElem?_eq_some_iff.1 hy).1
                  have h5 := g2 j (by omega)
                  have h6 : row[j]? = some row[j] := List.getElem?_eq_getElem (by rw [← c1.1]; exact hj)
                  rw [h6] at h5
                  refine ⟨_, ?_, c1.2 j _ y h6 hy⟩
                  rw [add_none, add_none] at h5
                  exact h5
                by_cases ha : isAggT P e = true
                · refine ⟨.agg avs, ⟨.inl rfl, by rw [flat_agg]; omega, fun y hy => ?_⟩, w1, by rw [if_pos ha]; rfl, fun j y hy => ?_⟩
                  · rw [flat_agg] at hy
                    obtain ⟨j, hj⟩ := List.mem_iff_getElem?.1 hy
                    obtain ⟨_, _, _, h⟩ := cellv j y hj
                    exact h
                  · obtain ⟨v, h1, h2, _⟩ := cellv j y hy
                    exact ⟨v, h1, h2⟩
                · have h1 : s1.width = 1 := by
                    rcases hag with h | h
                    · exact absurd h ha
                    · exact Nat.eq_of_beq_eq_true h
                  obtain ⟨z, rfl⟩ : ∃ z, avs = [z] := by
                    match avs, hlen' with
                    | [z], _ => exact ⟨z, rfl⟩
                    | [], h => simp [h1] at h
                    | _ :: _ :: _, h => simp [h1] at h
                  obtain ⟨v, hv, hr, hcell⟩ := cellv 0 z rfl
                  have hflat : z.flat = [z] := by cases z <;> simp_all [AV.flat, AV.cell]
                  refine ⟨z, ⟨.inr hcell, by rw [hflat]; simp; omega, fun y hy => by rw [hflat] at hy; simp at hy; rw [hy]; exact hcell⟩, by rw [hflat]; exact w1, by rw [if_neg ha]; exact hcell, fun j y hy => ?_⟩
                  rw [hflat] at hy
                  cases j with
                  | zero => cases hy; exact ⟨v, by simpa using hv, hr⟩
                  | succ j => simp at hy
              obtain ⟨xs, hxl, hxs⟩ := choose_list each
              refine ⟨[.lst s1.scal xs], cellsOk_one ?_ rfl, xs, rfl, by omega, fun z hz => ?_⟩
              · have := RepV.lst (M := memOf w) (ι := noInj) blk off cap (P.cellsOf e) s1.scal xs (fun i j => (w.cell? ⟨blk, off + i * P.cellsOf e + j, none⟩).getD default) (by omega)
                  (fun hfl z hz => by
                    obtain ⟨i, hi⟩ := List.mem_iff_getElem?.1 hz
                    exact WT_scal (hxs i z hi).2.1 hfl)
                  (fun z hz => by
                    obtain ⟨i, hi⟩ := List.mem_iff_getElem?.1 hz
                    exact (hxs i z hi).1)
                  (fun i j z y hz hy => by
                    obtain ⟨v, h1, h2⟩ := (hxs i z hz).2.2.2 j y hy
                    simp only [memOf]
                    rw [h1]; rfl)
                  (fun i j z y hz hy => by
                    obtain ⟨v, h1, h2⟩ := (hxs i z hz).2.2.2 j y hy
                    rw [h1]; exact h2)
                rwa [hxl] at this
              · obtain ⟨i, hi⟩ := List.mem_iff_getElem?.1 hz
                exact ⟨(hxs i z hi).2.1, (hxs i z hi).2.2.1⟩
        · cases h
      · cases h
    · rename_i fs ht
      split at h
      · rename_i s1 hs1
        split at h
        · rename_i hw
          cases h
          have hw := Nat.eq_of_beq_eq_true hw
          obtain ⟨xs, n', _, _, hl, hxs, hf⟩ := DataW.trod_struct ht hx
          obtain ⟨avs, c1, w1⟩ := fields_rep (cs := cs) (m := n') (rec := shOf P n) (fun t s hs cs x hx => trod_rep n t s hs _ _ _ hx) fs.toList 0 s hs1 (fun f hf' => by
            obtain ⟨i, hi⟩ := List.mem_iff_getElem?.1 hf'
            have h1 := hf i f (by simpa using hi)
            have hi' := (List.getElem?_eq_some_iff.1 hi).1
            rw [List.getElem?_eq_getElem (by rw [hxs]; simpa using hi')] at h1
            exact ⟨_, h1⟩)
          refine ⟨avs, ?_, w1⟩
          rw [List.drop_zero, List.take_of_length_le (by omega)] at c1
          exact c1
        · cases h
      · cases h
    · cases h
theorem arg_struct {t : TypeId} {s : Sh} {v : Value} {d : DataW H} {ps : List MemPlace} {b0 : Nat} (n : Nat) (hs : shOf P n t = some s) (ha : isAggT P t = true) (hok : Value.okWide P w .any b0 t v)
    (h : DataW.Trod enc P w base (fun _ => true) true t v d ps) : ∃ avs, RepV (memOf w) noInj v (.agg avs) ∧ WT s avs := by
  obtain ⟨m, hm⟩ := h
  obtain ⟨avs, c1, w1⟩ := trod_rep n t s hs m _ _ hm
  have hv : ∃ cs, v = .agg cs := by
    unfold isAggT at ha
    unfold Value.okWide at hok
    split at ha
    · rename_i fs hfs
      rw [hfs] at hok
      obtain ⟨cs, h1, _⟩ := hok
      exact ⟨cs, h1⟩
    · cases ha
  obtain ⟨cs, rfl⟩ := hv
  refine ⟨avs, .agg cs avs (by simpa [Value.cells] using c1.1.symm) (fun y hy => ?_) (fun j u y hu hy => ?_), w1⟩
  · obtain ⟨j, hj⟩ := List.mem_iff_getElem?.1 hy
    have hj' := (List.getElem?_eq_some_iff.1 hj).1
    rw [c1.1] at hj'
    exact (c1.2 j _ y (List.getElem?_eq_getElem hj') hj).2
  · exact (c1.2 j u y (by simpa [Value.cells] using hu) hy).1
end
theorem sameAt_of {W W' : World} (h : ∀ b, b < W.heap.size → W'.heap[b]? = W.heap[b]?) {p : MemPlace} (hp : p.block < W.heap.size) : W.sameAt W' p := by
  cases p with
  | cell b off =>
    show W'.cell? ⟨b, off, none⟩ = W.cell? ⟨b, off, none⟩
    unfold World.cell?
    rw [h b hp]
  | map b => exact h b hp
theorem calls_args {P : Program} {f : FuncId} {args : List AV} {b : Bool} (h : CallOk P f args (.ret (.bool b) [])) {W : World} {vs : Array Value} (hl : vs.size = args.length)
    (hr : ∀ (j : Nat) (v : Value) (a : AV), vs[j]? = some v → args[j]? = some a → RepV (memOf W) noInj v a) : Calls P f vs W fun e W' => e = .returned (.bool b) ∧ Grown W W' ∧ ∀ b, b < W.heap.size → W'.heap[b]? = W.heap[b]? := by
  refine (h W (memOf W) vs (fun _ _ _ h => h) hl hr).mono fun e W' he => ?_
  obtain ⟨v, M', ι', he, _, hrel, _, hv⟩ := he
  cases hv
  exact ⟨he, grown_of hrel.below hrel.cool, fun b hb => hrel.below.block b hb⟩
theorem flat_cell {x : AV} (h : x.cell = true) : x.flat = [x] := by cases x <;> simp_all [AV.flat, AV.cell]
theorem lists_of {α : Type} {enc : α → AV} {R : α → Prop} {xs : List AV} (h : ∀ x ∈ xs, ∃ a, x = enc a ∧ R a) : ∃ l : List α, xs = l.map enc ∧ ∀ a ∈ l, R a := by
  induction xs with
  | nil => exact ⟨[], rfl, fun n hn => by cases hn⟩
  | cons x xs ih =>
    obtain ⟨l, rfl, hl⟩ := ih fun y hy => h y (by simp [hy])
    obtain ⟨a, rfl, ha⟩ := h x (by simp)
    refine ⟨a :: l, rfl, fun m hm => ?_⟩
    rcases List.mem_cons.1 hm with rfl | hm
    · exact ha
    · exact hl m hm
end Go.Ab
namespace Go.Ab
section
variable {P : Program} {rd : Option Nat} {base : Nat} {ops : Array Oper} {st S : St} {Φ : AOut → Prop} {d : Option (List Sk)} {i : Nat} {c y : Code}
theorem sgz (k j : Nat) {S : St} (hk : RW P rd base ops none j S Φ) (h : runSt P false ops k i st = some S := by as_aux_lemma => kernel_rfl) (hj : i + k = j := by rfl) : RW P rd base ops none i st Φ := sg false k j h hj hk
theorem sgy (k j : Nat) {S : St} (hk : RW P rd base ops (dAdd d (runSk P false ops k i st)) j S Φ) (h : runSt P false ops k i st = some S := by as_aux_lemma => kernel_rfl) (hj : i + k = j := by rfl) : RW P rd base ops d i st Φ := sg false k j h hj hk
theorem rgN {id : Nat} {S : St} (hk : Φ (.go .normal S)) (h : runSt P false ops ops.size 0 st = some S := by as_aux_lemma => kernel_rfl) : WP P rd base (.region id ops false) st Φ :=
  reg_in (sg false ops.size ops.size h (Nat.zero_add _) (reg_end rfl hk))
theorem sqN {id : Nat} {S : St} (hk : WP P rd base y S Φ) (h : runSt P false ops ops.size 0 st = some S := by as_aux_lemma => kernel_rfl) : WP P rd base (.seq (.region id ops false) y) st Φ :=
  wp_seq (rgN hk h)
theorem wgc (live keep : List Nat) (S : St) (hk : WP P rd base c S Φ) (h : gcSt base live keep st = some S := by as_aux_lemma => kernel_rfl) : WP P rd base c st Φ := wp_wk (wk_gc h) hk
theorem rga {id : Nat} (hm : P.follows .mixedOrders = true) (h : RW P rd base ops (some []) 0 st Φ) (hB : lexF ops = true := by as_aux_lemma => kernel_rfl) : WP P rd base (.region id ops true) st Φ := reg_any (by simp [hm]) (lexF_ok hB) h
def gt (o : Option St) (d : St) : St := match o with | some S => S | none => d
noncomputable def nx (P : Program) (ops : Array Oper) (k i : Nat) (st : St) : St := gt (runSt P false ops k i st) st
noncomputable def gx (base : Nat) (live keep : List Nat) (st : St) : St := gt (gcSt base live keep st) st
noncomputable def fx (ops : Array Oper) (i : Nat) (st : St) (v : AV) : St := gt (finI ops i st (some v) []) st
noncomputable def cx (ops : Array Oper) (i : Nat) (st : St) (ids : List Nat) (r : AV) (objs : List AObj) : St := gt (callSt ops i st ids r objs) st
noncomputable def lx (P : Program) (ops : Array Oper) (i : Nat) (st : St) (hv he : List LK) (b : Bool) : St := gt (runL P false ops i st hv he b) st
theorem get_of {o : Option St} {d : St} (h : o.isSome = true) : o = some (gt o d) := by
  cases o with
  | none => cases h
  | some S => rfl
theorem sz (k j : Nat) (hk : RW P rd base ops none j (nx P ops k i st) Φ) (h : (runSt P false ops k i st).isSome = true := by as_aux_lemma => kernel_rfl) (hj : i + k = j := by rfl) : RW P rd base ops none i st Φ := sg false k j (get_of h) hj hk
theorem sy (k j : Nat) (hk : RW P rd base ops (dAdd d (runSk P false ops k i st)) j (nx P ops k i st) Φ) (h : (runSt P false ops k i st).isSome = true := by as_aux_lemma => kernel_rfl) (hj : i + k = j := by rfl) : RW P rd base ops d i st Φ := sg false k j (get_of h) hj hk
theorem rn {id : Nat} (hk : Φ (.go .normal (nx P ops ops.size 0 st))) (h : (runSt P false ops ops.size 0 st).isSome = true := by as_aux_lemma => kernel_rfl) : WP P rd base (.region id ops false) st Φ := rgN hk (get_of h)
theorem sq {id : Nat} (hk : WP P rd base y (nx P ops ops.size 0 st) Φ) (h : (runSt P false ops ops.size 0 st).isSome = true := by as_aux_lemma => kernel_rfl) : WP P rd base (.seq (.region id ops false) y) st Φ := sqN hk (get_of h)
theorem wg (live keep : List Nat) (hk : WP P rd base c (gx base live keep st) Φ) (h : (gcSt base live keep st).isSome = true := by as_aux_lemma => kernel_rfl) : WP P rd base c st Φ := wgc live keep _ hk (get_of h)
theorem sl (nf : Bool) (hv he : List LK) (b : Bool) (hn : nf = false) (hk : RW P rd base ops (dAdd d [runLSk P nf ops i st]) (i + 1) (lx P ops i st hv he b) Φ) (h : (runL P false ops i st hv he b).isSome = true := by as_aux_lemma => kernel_rfl) : RW P rd base ops d i st Φ := by
  subst hn; exact sgL false hv he b (get_of h) hk
theorem lenZ {α : Type} {enc : α → AV} {l : List α} {fl : Bool} (hi : lenInfo P ops i st = some (.lst fl (l.map enc))) (k : RW P rd base ops (dAdd d [([], [])]) (i + 1) (fx ops i st (.int .i64 (l.length : Int))) Φ) (h : (finI ops i st (some (.int .i64 (l.length : Int))) []).isSome = true := by as_aux_lemma => kernel_rfl) : RW P rd base ops d i st Φ :=
  lenL hi (get_of h) k
theorem idxZ {α : Type} {enc : α → AV} {l : List α} {n : Int} {w : Nat} {fl : Bool} {a : α} (hi : idxInfo P ops i st = some (.lst fl (l.map enc), n, w)) (ha : lkI l n = some a) (k : RW P rd base ops (dAdd d [([], [])]) (i + 1) (fx ops i st (.fz (enc a).flat)) Φ)
    (hw : Nat.beq (enc a).flat.length w = true := by rfl) (h : (finI ops i st (some (.fz (enc a).flat)) []).isSome = true := by as_aux_lemma => kernel_rfl) : RW P rd base ops d i st Φ :=
  idxL' hi hw (get_of h) ha k
theorem callZ {α R : Type} {G : Option α} {K : α → Option R} {f : FuncId} {as0 us : List AV} {ids : List Nat} {rv : α → AV} {ro : α → List AObj} {r : R} (hi : callInfo ops i st = some (f, as0)) (hb : bodyB P f = true)
    (hsn : mapSnap (snap st.sto snapDepth) as0 = some (us, ids)) (hc : ∀ x, G = some x → CallOk P f us (.ret (rv x) (ro x))) (h : G.bind K = some r)
    (k : ∀ x, G = some x → K x = some r → RW P rd base ops (dAdd d [callSk st ids (rv x) (ro x)]) (i + 1) (cx ops i st ids (rv x) (ro x)) Φ)
    (hS : ∀ x, (callSt ops i st ids (rv x) (ro x)).isSome = true := by as_aux_lemma => (intro _; kernel_rfl)) : RW P rd base ops d i st Φ :=
  callR hi hb hsn hc (fun x => get_of (hS x)) h k
theorem wbr {R : Type} {b : Bool} {S : Bool → St} {A B : Option R} {r : R} (h : (if b = true then A else B) = some r) (h1 : b = true → A = some r → WP P rd base c (S true) Φ) (h2 : b = false → B = some r → WP P rd base c (S false) Φ) (hS : st = S b := by as_aux_lemma => kernel_rfl) : WP P rd base c st Φ := by
  rw [hS]; exact wp_br h h1 h2
theorem rbr {R : Type} {b : Bool} {S : Bool → St} {A B : Option R} {r : R} (h : (if b = true then A else B) = some r) (h1 : b = true → A = some r → RW P rd base ops d i (S true) Φ) (h2 : b = false → B = some r → RW P rd base ops d i (S false) Φ) (hS : st = S b := by as_aux_lemma => kernel_rfl) : RW P rd base ops d i st Φ := by
  rw [hS]; exact rw_br h h1 h2
theorem wkn {b c' : Bool} {S : Bool → St} (hb : b = c') (h : WP P rd base c (S c') Φ) (hS : st = S b := by as_aux_lemma => kernel_rfl) : WP P rd base c st Φ := by rw [hS]; exact wp_kn hb h
theorem wwh {σ ρ R : Type} {n : Nat} {body : σ → Option (Step σ ρ)} {K : ρ → Option R} {r : R} {s0 : σ} (h : (whileN n body s0).bind K = some r) (I : σ → St) (Ex : ρ → AOut → Prop) (hw : Wk P base st (I s0))
    (round : ∀ s o, body s = some o → WP P rd base c (I s) (RoundIs' P base I Ex o)) (k : ∀ x, K x = some r → ∀ out, Ex x out → Φ out) : WP P rd base (.loop c) st Φ := wp_while s0 hw h round k
theorem wbz {R : Type} {b : Bool} {A B : Option R} {r : R} {x : Code} {op : Operand} (h : (if b = true then A else B) = some r) (h1 : b = true → A = some r → WP P rd base x st Φ) (h2 : b = false → B = some r → WP P rd base y st Φ)
    (he : evo (lk st.slots) op = some (.bool b) := by as_aux_lemma => kernel_rfl) : WP P rd base (.cond op x y) st Φ := wp_cond he (fun hb => h1 hb (by rw [hb] at h; simpa using h)) (fun hb => h2 hb (by rw [hb] at h; simpa using h))
theorem callY {α R : Type} {G : Option α} {K : α → Option R} {f : FuncId} {as0 us : List AV} {rv : α → AV} {ro : α → List AObj} {r : R} (hb : bodyB P f = true)
    (hc : ∀ x, G = some x → CallOk P f us (.ret (rv x) (ro x))) (h : G.bind K = some r)
    (k : ∀ x, G = some x → K x = some r → RW P rd base ops (dAdd d [callSk st [] (rv x) (ro x)]) (i + 1) (cx ops i st [] (rv x) (ro x)) Φ)
    (hi : callInfo ops i st = some (f, as0) := by as_aux_lemma => kernel_rfl) (hsn : mapSnap (snap st.sto snapDepth) as0 = some (us, []) := by as_aux_lemma => kernel_rfl)
    (hS : ∀ x, (callSt ops i st [] (rv x) (ro x)).isSome = true := by as_aux_lemma => (intro _; kernel_rfl)) : RW P rd base ops d i st Φ :=
  callZ hi hb hsn hc h k hS
theorem rwg (live keep : List Nat) (hk : RW P rd base ops none i (gx base live keep st) Φ) (h : (gcSt base live keep st).isSome = true := by as_aux_lemma => kernel_rfl) : RW P rd base ops none i st Φ := rw_wk (wk_gc (get_of h)) hk
theorem ez {o : Option St} {Q : St → Prop} (hk : Q (gt o ⟨[], [], 0⟩)) (h : o.isSome = true := by as_aux_lemma => kernel_rfl) : ∃ S, o = some S ∧ Q S := ⟨_, get_of h, hk⟩
theorem idxY {α : Type} {enc : α → AV} {l : List α} {n : Int} {w : Nat} {ro nr fl : Bool} {ob : Nat} {a : α} (ha : lkI l n = some a) (k : RW P rd base ops (dAdd d [([], [ob])]) (i + 1) (fx ops i st (.ptr ob n.toNat 0)) Φ)
    (hi : idxInfo P ops i st = some (.ref ob 0 l.length, n, w) := by as_aux_lemma => kernel_rfl) (hrow : st.sto ob = some (.row false ro nr fl w (l.map enc)) := by as_aux_lemma => kernel_rfl)
    (h : (finI ops i st (some (.ptr ob n.toNat 0)) []).isSome = true := by as_aux_lemma => kernel_rfl) : RW P rd base ops d i st Φ := idxR' hi hrow (get_of h) ha k
theorem loadY {α : Type} {enc : α → AV} {l : List α} {n : Int} {w ob c : Nat} {bx ro nr fl : Bool} {a : α} (ha : lkI l n = some a) (k : RW P rd base ops (dAdd d [([], [ob])]) (i + 1) (gt (loadSt P ops i st c (enc a)) st) Φ)
    (hp : ptrAt ops i st = some (ob, n.toNat, c) := by as_aux_lemma => kernel_rfl) (hrow : st.sto ob = some (.row bx ro nr fl w (l.map enc)) := by as_aux_lemma => kernel_rfl)
    (h : (loadSt P ops i st c (enc a)).isSome = true := by as_aux_lemma => kernel_rfl) : RW P rd base ops d i st Φ := loadR hp hrow ha (get_of h) k
theorem wcT {x : Code} {op : Operand} (h : WP P rd base x st Φ) (he : evo (lk st.slots) op = some (.bool true) := by as_aux_lemma => kernel_rfl) : WP P rd base (.cond op x y) st Φ := wp_condT he h
theorem wcF {x : Code} {op : Operand} (h : WP P rd base y st Φ) (he : evo (lk st.slots) op = some (.bool false) := by as_aux_lemma => kernel_rfl) : WP P rd base (.cond op x y) st Φ := wp_condF he h
theorem rgd {acc : List Sk} (h : Φ (.go .normal st)) (hi : i = ops.size := by rfl) (hc : compatD ops.toList acc = true := by as_aux_lemma => kernel_rfl) : RW P rd base ops (some acc) i st Φ := reg_endD hi hc h
end
end Go.Ab
