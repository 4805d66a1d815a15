/- The engine: an interpreter of the model on plain values, and rules by which what it computes is what the model does. No conditions. -/
import Derived.Test.YtapoljjoedcknaaEng5
set_option linter.all false
namespace Go.Ab
open Go.RowKit
set_option linter.unusedVariables false
set_option linter.unusedSimpArgs false
set_option linter.unnecessarySimpa false
inductive LK where
  | keep | lst (fl : Bool) | emp
def LK.ap : LK → AV → AV
  | .keep, x => x
  | .lst fl, x => match x with
    | .nils | .emp => .lst fl []
    | .lst f xs => .lst (f && fl) xs
    | x => x
  | .emp, x => match x with
    | .nils => .emp
    | x => x
def zipL : List LK → List AV → List AV
  | h :: hs, x :: xs => h.ap x :: zipL hs xs
  | _, xs => xs
def loosen1 (hs : List LK) : AV → AV
  | .agg cs => .agg (zipL hs cs)
  | x => match hs with
    | h :: _ => h.ap x
    | [] => x
def zipT : List (List LK) → List AV → List AV
  | h :: hs, x :: xs => loosen1 h x :: zipT hs xs
  | _, xs => xs
def loosenT (hss : List (List LK)) : AV → AV
  | .tup vs => .tup (zipT hss vs)
  | x => match hss with
    | h :: _ => loosen1 h x
    | [] => x
theorem LK.ap_rep {M : CM} {ι : Inj} {v : Value} {x : AV} (h : LK) (hr : RepV M ι v x) : RepV M ι v (h.ap x) := by
  cases h with
  | keep => exact hr
  | emp =>
    cases x <;> simp only [LK.ap] <;> first | exact hr | (cases hr; exact .emp _)
  | lst fl =>
    cases x with
    | nils => cases hr; exact .lst0 _ _
    | emp => cases hr; exact .lst0 _ _
    | lst f xs =>
      cases hr with
      | lst0 => exact .lst0 _ _
      | lst b off cap w _ _ g hcap hfl hc hM hr =>
        exact .lst b off cap w _ xs g hcap (fun h => hfl (by simp at h; exact h.1)) hc hM hr
    | _ => exact hr
theorem LK.ap_cell (h : LK) (x : AV) : (h.ap x).cell = x.cell := by
  cases h <;> cases x <;> rfl
theorem LK.ap_sc (h : LK) {x : AV} (hs : x.sc = true) : (h.ap x).sc = true := by
  cases h <;> cases x <;> first | exact hs | rfl
theorem LK.ap_nr (h : LK) {x : AV} (hs : x.nr = true) : (h.ap x).nr = true := by
  cases h <;> cases x <;> first | exact hs | rfl
theorem LK.ap_okv (h : LK) (x : AV) : (h.ap x).okv = x.okv := by
  cases h <;> cases x <;> rfl
theorem zipL_length : ∀ (hs : List LK) (xs : List AV), (zipL hs xs).length = xs.length
  | [], xs => by cases xs <;> rfl
  | h :: hs, [] => rfl
  | h :: hs, x :: xs => by simp [zipL, zipL_length hs xs]
theorem zipL_at : ∀ (hs : List LK) (xs : List AV) (j : Nat) (y : AV), (zipL hs xs)[j]? = some y → ∃ h x, xs[j]? = some x ∧ y = LK.ap h x
  | [], xs, j, y, hj => ⟨.keep, y, by cases xs <;> simpa [zipL] using hj, rfl⟩
  | h :: hs, [], j, y, hj => by simp [zipL] at hj
  | h :: hs, x :: xs, 0, y, hj => by simp only [zipL, List.getElem?_cons_zero, Option.some.injEq] at hj; exact ⟨h, x, rfl, hj.symm⟩
  | h :: hs, x :: xs, j + 1, y, hj => by
    simp only [zipL, List.getElem?_cons_succ] at hj
    obtain ⟨h', x', e1, e2⟩ := zipL_at hs xs j y hj
    exact ⟨h', x', by simpa using e1, e2⟩
theorem zipL_mem {hs : List LK} {xs : List AV} {y : AV} (hy : y ∈ zipL hs xs) : ∃ h x, x ∈ xs ∧ y = LK.ap h x := by
  obtain ⟨j, hj, rfl⟩ := List.mem_iff_getElem.1 hy
  obtain ⟨h, x, e1, e2⟩ := zipL_at hs xs j _ (List.getElem?_eq_getElem hj)
  exact ⟨h, x, List.mem_of_getElem? e1, e2⟩
theorem loosen1_rep {M : CM} {ι : Inj} {v : Value} {x : AV} (hs : List LK) (hr : RepV M ι v x) : RepV M ι v (loosen1 hs x) := by
  cases x
  case agg cs =>
    simp only [loosen1]
    cases hr with
    | agg cs' _ h hc hr =>
      refine .agg cs' _ (by rw [zipL_length]; exact h) (fun y hy => ?_) (fun j v y hv hy => ?_)
      · obtain ⟨h', x, hx, rfl⟩ := zipL_mem hy; rw [LK.ap_cell]; exact hc x hx
      · obtain ⟨h', x, hx, rfl⟩ := zipL_at hs cs j y hy; exact LK.ap_rep h' (hr j v x hv hx)
  all_goals (cases hs <;> simp only [loosen1] <;> first | exact hr | exact LK.ap_rep _ hr)
theorem zipT_at : ∀ (hs : List (List LK)) (xs : List AV) (j : Nat) (y : AV), (zipT hs xs)[j]? = some y → ∃ h x, xs[j]? = some x ∧ y = loosen1 h x
  | [], xs, j, y, hj => ⟨[], y, by cases xs <;> simpa [zipT] using hj, by cases y <;> rfl⟩
  | h :: hs, [], j, y, hj => by simp [zipT] at hj
  | h :: hs, x :: xs, 0, y, hj => by simp only [zipT, List.getElem?_cons_zero, Option.some.injEq] at hj; exact ⟨h, x, rfl, hj.symm⟩
  | h :: hs, x :: xs, j + 1, y, hj => by
    simp only [zipT, List.getElem?_cons_succ] at hj
    obtain ⟨h', x', e1, e2⟩ := zipT_at hs xs j y hj
    exact ⟨h', x', by simpa using e1, e2⟩
theorem zipT_length : ∀ (hs : List (List LK)) (xs : List AV), (zipT hs xs).length = xs.length
  | [], xs => by cases xs <;> rfl
  | h :: hs, [] => rfl
  | h :: hs, x :: xs => by simp [zipT, zipT_length hs xs]
theorem loosenT_rep {M : CM} {ι : Inj} {v : Value} {x : AV} (hs : List (List LK)) (hr : RepV M ι v x) : RepV M ι v (loosenT hs x) := by
  cases x
  case tup vs =>
    simp only [loosenT]
    cases hr with
    | tup vs' _ h hr =>
      refine .tup vs' _ (by rw [zipT_length]; exact h) (fun j v y hv hy => ?_)
      obtain ⟨h', x, hx, rfl⟩ := zipT_at hs vs j y hy; exact loosen1_rep h' (hr j v x hv hx)
  all_goals (cases hs <;> simp only [loosenT] <;> first | exact hr | exact loosen1_rep _ hr)
theorem loosen1_flat (hs : List LK) {x : AV} (hx : x = .agg x.flat ∨ x.cell = true) : ∃ hs', (loosen1 hs x).flat = zipL hs' x.flat ∧ (loosen1 hs x = .agg (loosen1 hs x).flat ∨ (loosen1 hs x).cell = true) := by
  rcases hx with e | e
  · generalize hf : x.flat = cs at e
    subst e
    exact ⟨hs, rfl, .inl rfl⟩
  · have hf := AV.flat_cell e
    rw [hf]
    cases hs with
    | nil => exact ⟨[], by cases x <;> simp_all [loosen1, zipL, AV.cell, AV.flat], .inr (by cases x <;> simp_all [loosen1, AV.cell])⟩
    | cons h r =>
      have hl : loosen1 (h :: r) x = h.ap x := by cases x <;> simp_all [loosen1, AV.cell]
      have hc : (h.ap x).cell = true := by rw [LK.ap_cell]; exact e
      exact ⟨[h], by rw [hl, AV.flat_cell hc]; rfl, .inr (by rw [hl]; exact hc)⟩
theorem loosen1_shaped (hs : List LK) {x : AV} {w : Nat} (h : x.shaped w) : (loosen1 hs x).shaped w := by
  obtain ⟨hs', e1, e2⟩ := loosen1_flat hs h.form
  refine ⟨e2, by rw [e1, zipL_length]; exact h.len, fun y hy => ?_⟩
  rw [e1] at hy
  obtain ⟨h', z, hz, rfl⟩ := zipL_mem hy
  rw [LK.ap_cell]; exact h.cells z hz
theorem loosen1_nr (hs : List LK) {x : AV} (h : x.nr = true) : (loosen1 hs x).nr = true := by
  cases x
  case agg cs =>
    simp only [loosen1, AV.nr, nrL_mem] at h ⊢
    intro y hy
    obtain ⟨h', z, hz, rfl⟩ := zipL_mem hy
    exact LK.ap_nr h' (h z hz)
  all_goals (cases hs <;> simp only [loosen1] <;> first | exact h | exact LK.ap_nr _ h)
theorem loosen1_scs (hs : List LK) {x : AV} {w : Nat} (hx : x.shaped w) (h : x.scs = true) : (loosen1 hs x).scs = true := by
  obtain ⟨hs', e1, e2⟩ := loosen1_flat hs hx.form
  rw [scs_flat] at *
  rw [e1]
  intro y hy
  obtain ⟨h', z, hz, rfl⟩ := zipL_mem hy
  exact LK.ap_sc h' (h z hz)
section
variable {P : Program} {B : Nat} {W0 W : World} {D : List Nat} {M : CM} {ι : Inj} {σ : Sto}
theorem Rel.lessRow (h : Rel P B W0 D M ι σ W) {o : Nat} {bx ro nr fl nr' fl' : Bool} {w : Nat} {xs xs' : List AV} (hσ : σ o = some (.row bx ro nr fl w xs)) (hl : xs'.length = xs.length)
    (hx : ∀ (i : Nat) (x x' : AV), xs[i]? = some x → xs'[i]? = some x' → ∃ hs, x' = loosen1 hs x) (hnr : nr' = true → AV.nrL xs' = true) (hfl : fl' = true → ∀ x ∈ xs', AV.scs x = true) :
    Rel P B W0 D M ι (σ.put o (.row bx ro nr' fl' w xs')) W := by
  obtain ⟨p0, hp0, hrow⟩ := h.row o bx ro nr fl w xs hσ
  have hat : ∀ (i : Nat) (x' : AV), xs'[i]? = some x' → ∃ x hs, xs[i]? = some x ∧ x' = loosen1 hs x := fun i x' hi => by
    have hlt : i < xs.length := by rw [← hl]; exact (List.getElem?_eq_some_iff.1 hi).1
    obtain ⟨hs, e⟩ := hx i _ x' (List.getElem?_eq_getElem hlt) hi
    exact ⟨_, hs, List.getElem?_eq_getElem hlt, e⟩
  have hcell : ∀ (i j : Nat) (x' y' : AV), xs'[i]? = some x' → x'.flat[j]? = some y' → ∃ x y, xs[i]? = some x ∧ x.flat[j]? = some y ∧ ∃ hk, y' = LK.ap hk y := fun i j x' y' hi hj => by
    obtain ⟨x, hs, e1, rfl⟩ := hat i x' hi
    obtain ⟨hs', e2, _⟩ := loosen1_flat hs (hrow.shaped x (List.mem_of_getElem? e1)).form
    rw [e2] at hj
    obtain ⟨hk, y, e3, e4⟩ := zipL_at hs' _ j y' hj
    exact ⟨x, y, e1, e3, hk, e4⟩
  refine ⟨h.size, h.below, h.defs, h.agree, h.cool, ?_, ?_, ?_, ?_, ?_⟩
  · intro k bx1 ro1 nr1 fl1 w1 xs1 hk
    by_cases e : k = o
    · subst e
      rw [Sto.put_same] at hk
      cases hk
      refine ⟨p0, hp0, ⟨hrow.pw, hrow.pos, hrow.cpos, by rw [hl]; exact hrow.len, fun x' hx' => ?_, hnr, hfl, fun i j x' y' hi hj => ?_, hrow.own, fun hro i j x' y' hi hj => ?_⟩⟩
      · obtain ⟨i, hi, rfl⟩ := List.mem_iff_getElem.1 hx'
        obtain ⟨x, hs, e1, e2⟩ := hat i _ (List.getElem?_eq_getElem hi)
        rw [e2]; exact loosen1_shaped hs (hrow.shaped x (List.mem_of_getElem? e1))
      · obtain ⟨x, y, e1, e2, hk, rfl⟩ := hcell i j x' y' hi hj
        obtain ⟨v, hv, hr⟩ := hrow.cells i j x y e1 e2
        exact ⟨v, hv, LK.ap_rep hk hr⟩
      · obtain ⟨x, y, e1, e2, hk, rfl⟩ := hcell i j x' y' hi hj
        obtain ⟨v, hv, hr⟩ := hrow.imm hro i j x y e1 e2
        exact ⟨v, hv, LK.ap_rep hk hr⟩
    · rw [Sto.put_ne _ _ e] at hk
      exact h.row k bx1 ro1 nr1 fl1 w1 xs1 hk
  · intro k fn sl ps as bd st pe hk
    have e : k ≠ o := fun e => by subst e; rw [Sto.put_same] at hk; cases hk
    rw [Sto.put_ne _ _ e] at hk
    exact h.loop k fn sl ps as bd st pe hk
  · intro k k' bx1 nr1 fl1 w1 xs1 bx2 nr2 fl2 w2 xs2 q q' hkk h1 h2 hq hq'
    have g : ∀ k bx1 nr1 fl1 w1 xs1, σ.put o (.row bx ro nr' fl' w xs') k = some (.row bx1 false nr1 fl1 w1 xs1) → ∃ bx nr fl w xs, σ k = some (.row bx false nr fl w xs) := fun k bx1 nr1 fl1 w1 xs1 hk => by
      by_cases e : k = o
      · subst e; rw [Sto.put_same] at hk; cases hk; exact ⟨_, _, _, _, _, hσ⟩
      · rw [Sto.put_ne _ _ e] at hk; exact ⟨_, _, _, _, _, hk⟩
    obtain ⟨_, _, _, _, _, g1⟩ := g _ _ _ _ _ _ h1
    obtain ⟨_, _, _, _, _, g2⟩ := g _ _ _ _ _ _ h2
    exact h.apart _ _ _ _ _ _ _ _ _ _ _ _ _ _ hkk g1 g2 hq hq'
  · intro k k' fn sl ps as bd st pe fn' sl' ps' as' bd' st' pe' q q' hkk h1 h2 hq hq'
    have e : k ≠ o := fun e => by subst e; rw [Sto.put_same] at h1; cases h1
    have e' : k' ≠ o := fun e => by subst e; rw [Sto.put_same] at h2; cases h2
    rw [Sto.put_ne _ _ e] at h1; rw [Sto.put_ne _ _ e'] at h2
    exact h.loops _ _ _ _ _ _ _ _ _ _ _ _ _ _ _ _ _ _ hkk h1 h2 hq hq'
  · intro k hk
    have e : k ≠ o := fun e => by subst e; rw [hp0] at hk; cases hk
    rw [Sto.put_ne _ _ e]; exact h.used k hk
def loosenEff (hs : List LK) (b : Bool) : List (Nat × AObj) → List (Nat × AObj)
  | [] => []
  | (o, x) :: es => match es with
    | [] => match x with
      | .row bx ro nr fl w xs => [(o, .row bx ro nr (b && fl) w (xs.map (loosen1 hs)))]
      | x => [(o, x)]
    | _ => (o, x) :: loosenEff hs b es
theorem Rel.lessEff (hs : List LK) (b : Bool) : ∀ (es : List (Nat × AObj)) (σ : Sto), Rel P B W0 D M ι (σ.puts es) W → Rel P B W0 D M ι (σ.puts (loosenEff hs b es)) W
  | [], σ, h => h
  | (o, x) :: es, σ, h => by
    cases es with
    | cons e es => exact Rel.lessEff hs b (e :: es) (σ.put o x) h
    | nil =>
      cases x with
      | row bx ro nr fl w xs =>
        have h' : Rel P B W0 D M ι (σ.put o (.row bx ro nr fl w xs)) W := h
        obtain ⟨p, hp, hrow⟩ := h'.row o bx ro nr fl w xs (Sto.put_same _ _ _)
        have := h'.lessRow (xs' := xs.map (loosen1 hs)) (nr' := nr) (fl' := b && fl) (Sto.put_same _ _ _) (by simp) (fun i x x' hi hi' => ⟨hs, by simp [hi] at hi'; exact hi'.symm⟩)
          (fun hn => by
            rw [nrL_mem]; intro y hy
            simp only [List.mem_map] at hy
            obtain ⟨z, hz, rfl⟩ := hy
            exact loosen1_nr hs (nrL_mem.1 (hrow.nr hn) z hz))
          (fun hf y hy => by
            simp only [List.mem_map] at hy
            obtain ⟨z, hz, rfl⟩ := hy
            exact loosen1_scs hs (hrow.shaped z hz) (hrow.fl (by simp at hf; exact hf.2) z hz))
        have e : ∀ (σ : Sto) (x y : AObj), (σ.put o x).put o y = σ.put o y := fun σ x y => by
          funext k; by_cases e : k = o <;> simp [Sto.put, e]
        rw [e] at this
        exact this
      | loop => exact h
      | dead => exact h
      | fam => exact h
      | refs => exact h
theorem loosenEff_fst (hs : List LK) (b : Bool) : ∀ (es : List (Nat × AObj)), (loosenEff hs b es).map (·.1) = es.map (·.1)
  | [] => rfl
  | (o, x) :: es => by
    cases es with
    | cons e es => simp only [loosenEff, List.map_cons]; congr 1; exact loosenEff_fst hs b (e :: es)
    | nil => cases x <;> rfl
end
section
variable {P : Program} {rd : Option Nat} {base : Nat} {ops : Array Oper} {st st1 st' S : St} {o : Oper} {F : Foot} {out : AOut} {Φ : AOut → Prop} {d : Option (List Sk)} {i : Nat} {nf : Bool} {s : Slots} {σ : Sto} {c : Code}
theorem ylL_loose (hv he : List LK) (b : Bool) (h : YlL P ops o F s σ) : YlL P ops o ⟨F.v.map (loosen1 hv), loosenEff he b F.eff, F.fr, F.fr', F.rd⟩ s σ := by
  intro s' σ' hs hσ
  rcases h s' σ' hs hσ with ⟨hw, hd⟩ | ⟨hw, h1, h2⟩
  · refine .inl ⟨hw, ?_⟩
    intro B W0 D M ι a W n Q r next hrel hsl hfree hpost
    refine hd B W0 D M ι a W n Q r next hrel hsl hfree (fun v W' M' ι' g1 g2 g3 g4 g5 => hpost v W' M' ι' g1 g2 g3 (Rel.lessEff he b _ _ g4) (fun x hx => ?_))
    simp only [Option.map_eq_some_iff] at hx
    obtain ⟨y, hy, rfl⟩ := hx
    exact loosen1_rep hv (g5 y hy)
  · exact .inr ⟨hw, by simp only [h1, Option.map_some]; cases hv <;> (try rename_i x _; cases x) <;> rfl, by simp [h2, loosenEff]⟩
theorem rw_ofL {v : Option AV} {eff : List (Nat × AObj)} {fr : Nat} {rds : List Nat} (hv he : List LK) (b : Bool) {C : FuncId → List AV → Option COut} (hC : Sound P C) (ho : opAt ops i st = some o) (hev : evOp P nf C st.sto st.objs.length (lk st.slots) o = some (.val ⟨v, eff, fr, rds⟩))
    (hS : finI ops i st (v.map (loosen1 hv)) (loosenEff he b eff) = some S) (hl : S.objs.length = fr) (k : RW P rd base ops (dAdd d [(eff.map (·.1), rds)]) (i + 1) S Φ) : RW P rd base ops d i st Φ := by
  obtain ⟨h1, h2⟩ := opAt_spec ho
  unfold finI at hS
  rw [h1] at hS
  simp only at hS
  split at hS
  · rename_i objs slots ha hp
    cases hS
    refine rw_step (s := (eff.map (·.1), rds)) ⟨o, ⟨v.map (loosen1 hv), loosenEff he b eff, st.objs.length, fr, rds⟩, h1, stepF_mk ?_ rfl hl.symm ha hp rfl, cov_of (by simp [Foot.sk, loosenEff_fst])⟩ k
    exact ylL_loose hv he b (ylL_ev hC h2 hev)
  · cases hS
noncomputable def runL (P : Program) (nf : Bool) (ops : Array Oper) (i : Nat) (st : St) (hv he : List LK) (b : Bool) : Option St :=
  match opAt ops i st with
  | some o => match evOp P nf noC st.sto st.objs.length (lk st.slots) o with
    | some (.val ⟨v, eff, fr, rd⟩) => match finI ops i st (v.map (loosen1 hv)) (loosenEff he b eff) with
      | some S => if Nat.beq S.objs.length fr then some S else none
      | none => none
    | _ => none
  | none => none
noncomputable def runLSk (P : Program) (nf : Bool) (ops : Array Oper) (i : Nat) (st : St) : Sk :=
  match opAt ops i st with
  | some o => match evOp P nf noC st.sto st.objs.length (lk st.slots) o with
    | some (.val ⟨v, eff, fr, rd⟩) => (eff.map (·.1), rd)
    | _ => ([], [])
  | none => ([], [])
theorem sgL (nf : Bool) (hv he : List LK) (b : Bool) (h : runL P nf ops i st hv he b = some S) (k : RW P rd base ops (dAdd d [runLSk P nf ops i st]) (i + 1) S Φ) : RW P rd base ops d i st Φ := by
  unfold runL at h
  unfold runLSk at k
  split at h
  · rename_i o ho
    rw [ho] at k
    simp only at k
    split at h
    · rename_i v eff fr rds hev
      rw [hev] at k
      split at h
      · rename_i S' hS
        split at h
        · rename_i hl
          cases h
          exact rw_ofL hv he b noC_sound ho hev hS (Nat.eq_of_beq_eq_true hl) k
        · cases h
      · cases h
    · cases h
  · cases h
theorem mkL {α R : Type} {enc : α → AV} {z : α} {z0 : AV} {n m : Int} {w bytes : Nat} {A : Option R} {r : R} (he : List LK) (b : Bool) (hi : mkInfo P ops i st = some (n, m, z0, w, bytes)) (hz0 : loosen1 he z0 = enc z)
    (hS : finI ops i st (some (.ref st.objs.length 0 (List.replicate n.toNat z).length)) [(st.objs.length, .row false false z0.nr (b && z0.scs) w ((List.replicate n.toNat z).map enc))] = some S) (hl : Nat.beq S.objs.length (st.objs.length + 1) = true)
    (h : (if 0 ≤ n ∧ n ≤ m ∧ m * bytes ≤ 140737488355328 then A else none) = some r) (k : A = some r → RW P rd base ops (dAdd d [([st.objs.length], [])]) (i + 1) S Φ) : RW P rd base ops d i st Φ := by
  split at h
  · rename_i hc
    obtain ⟨c1, c2, c3⟩ := hc
    unfold mkInfo at hi
    split at hi
    · rename_i o ho
      split at hi
      · rename_i t x y hop
        split at hi
        · rename_i T k1 n' k2 m' hT hx hy
          split at hi
          · rename_i e hk
            split at hi
            · rename_i E hE
              split at hi
              · rename_i z1 hz
                split at hi
                · rename_i hb
                  simp only [Bool.and_eq_true] at hb
                  simp only [Option.some.injEq, Prod.mk.injEq] at hi
                  obtain ⟨rfl, rfl, rfl, rfl, rfl⟩ := hi
                  refine rw_ofL (nf := false) (v := some (.ref st.objs.length 0 (List.replicate n'.toNat z1).length)) (eff := [(st.objs.length, .row false false z1.nr z1.scs E.size (List.replicate n'.toNat z1))]) (fr := st.objs.length + 1) (rds := []) [] he b noC_sound ho ?_ ?_ (Nat.eq_of_beq_eq_true hl) (by simpa using k h)
                  · have hb0 := blt_lt hb.2
                    have g1 : ¬ n' < 0 := by omega
                    have g2 : ¬ m' < 0 := by omega
                    have c3' : m'.toNat * E.bytes ≤ 140737488355328 := by
                      have : ((m'.toNat * E.bytes : Nat) : Int) ≤ 140737488355328 := by
                        rw [Int.natCast_mul, Int.toNat_of_nonneg (by omega)]; exact c3
                      omega
                    have g3 := roomFor_of hb0 c3'
                    have g4 : Nat.ble n'.toNat m'.toNat = true := ble_true (by omega)
                    have g5 : Nat.ble m'.toNat 9223372036854775807 = true := by
                      refine ble_true ?_
                      have := Nat.le_mul_of_pos_right m'.toNat hb0
                      omega
                    have g6 := hb.1.1
                    have g7 := hb.1.2
                    unfold evOp
                    rw [hop]
                    simp only [mayPan, Bool.false_eq_true, if_false]
                    unfold evalOp
                    rw [hop]
                    simp only [hT, hx, hy, hk, asN, g1, g2, if_false, hE, hz, g3, g4, g5, g6, g7, Bool.and_self, if_true, onlyVal, List.length_replicate]
                  · have e1 : (List.replicate n'.toNat z1).map (loosen1 he) = (List.replicate n'.toNat z).map enc := by simp [List.map_replicate, hz0]
                    have e2 : (List.replicate n'.toNat z1).length = (List.replicate n'.toNat z).length := by simp
                    simp only [loosenEff, e1, e2, Option.map_some, loosen1]
                    exact hS
                · cases hi
              · cases hi
            · cases hi
          · cases hi
        · cases hi
      · cases hi
    · cases hi
  · cases h
theorem storeL {α : Type} {enc : α → AV} {l : List α} {n : Int} {w ob c : Nat} {bx nr fl : Bool} {a a' : α} {v : AV} (hs : List LK) (nf : Bool) (hp : ptrAt ops i st = some (ob, n.toNat, c)) (hrow : st.sto ob = some (.row bx false nr fl w (l.map enc))) (ha : lkI l n = some a)
    (hv : storeV P ops i st = some v) (hk : (bx || nf || v.nr) = true) (x1 : AV) (hput : putAt (enc a) c v = some x1) (hx1 : loosen1 hs x1 = enc a') (hid : ∀ b, loosen1 hs (enc b) = enc b)
    (hS : finI ops i st none [(ob, .row bx false (nr && v.nr) (fl && v.scs) w ((l.set n.toNat a').map enc))] = some S) (hl : Nat.beq S.objs.length st.objs.length = true) (k : RW P rd base ops (dAdd d [([ob], [ob])]) (i + 1) S Φ) : RW P rd base ops d i st Φ := by
  obtain ⟨h1, h2, h3⟩ := lkI_lt ha
  obtain ⟨o, t, x, y, T, ho, hop, hT, hx, hy, hc⟩ := storeV_spec hp hv
  refine rw_ofL (nf := nf) (v := none) (eff := [(ob, .row bx false (nr && v.nr) (fl && v.scs) w ((l.map enc).set n.toNat x1))]) (fr := st.objs.length) (rds := [ob]) [] hs true noC_sound ho ?_ ?_ (Nat.eq_of_beq_eq_true hl) k
  · unfold evOp
    rw [hop]
    simp only [mayPan, Bool.false_eq_true, if_false]
    unfold evalOp
    rw [hop]
    simp only [hT, hx, hy, hrow, List.getElem?_map, h3, Option.map_some, hc, if_true, hk, hput, frz, frzL, List.contains_nil, Bool.false_eq_true, if_false, List.nil_append, onlyVal]
  · have e1 : ((l.map enc).set n.toNat x1).map (loosen1 hs) = (l.set n.toNat a').map enc := by
      rw [List.map_set, hx1, List.map_map, List.map_set]
      congr 1
      exact List.map_congr_left fun b _ => hid b
    simp only [loosenEff, e1, Bool.true_and, Option.map_none]
    exact hS
def Wk (P : Program) (base : Nat) (st st' : St) : Prop :=
  ∀ B W0 D0 dl M ι a W, Sim P B W0 D0 dl M ι st a W → ∃ M' ι', CM.Grow B M M' ∧ Inj.leB base ι ι' ∧ Sim P B W0 D0 dl M' ι' st' a W
theorem wk_refl : Wk P base st st := fun B W0 D0 dl M ι a W h => ⟨M, ι, .refl _ _, .refl _ _, h⟩
theorem wk_trans (h1 : Wk P base st st1) (h2 : Wk P base st1 st') : Wk P base st st' := fun B W0 D0 dl M ι a W h => by
  obtain ⟨M1, ι1, m1, e1, g1⟩ := h1 B W0 D0 dl M ι a W h
  obtain ⟨M2, ι2, m2, e2, g2⟩ := h2 B W0 D0 dl M1 ι1 a W g1
  exact ⟨M2, ι2, m1.trans m2, e1.trans e2, g2⟩
theorem wk_gc {live keep : List Nat} (hg : gcSt base live keep st = some st') : Wk P base st st' := fun B W0 D0 dl M ι a W h => let ⟨ι', e, g⟩ := h.gc hg; ⟨M, ι', .refl _ _, e, g⟩
theorem exec_wk (hk : Wk P base st st') (h : Exec P rd base c st' out) : Exec P rd base c st out := by
  intro B W0 D0 dl M ι a W n Q r hs hr hp
  obtain ⟨M', ι', hM, hι, hs'⟩ := hk B W0 D0 dl M ι a W hs
  exact h B W0 D0 dl M' ι' a W n Q r hs' (hr.mono hι) (hp.step hM hι (List.suffix_refl _))
theorem loopX_wk (hk : Wk P base st st') (h : LoopX P rd base c st' out) : LoopX P rd base c st out := by
  obtain ⟨m, hm⟩ := h
  refine ⟨m, ?_⟩
  intro B W0 D0 dl M ι a W n Q r hs hr hp
  obtain ⟨M', ι', hM, hι, hs'⟩ := hk B W0 D0 dl M ι a W hs
  exact hm B W0 D0 dl M' ι' a W n Q r hs' (hr.mono hι) (hp.step hM hι (List.suffix_refl _))
theorem wp_wk (hk : Wk P base st st') (h : WP P rd base c st' Φ) : WP P rd base c st Φ := let ⟨o, h1, h2⟩ := h; ⟨o, exec_wk hk h1, h2⟩
theorem lwp_wk (hk : Wk P base st st') (h : LWP P rd base c st' Φ) : LWP P rd base c st Φ := let ⟨o, h1, h2⟩ := h; ⟨o, loopX_wk hk h1, h2⟩
theorem wk_slot (t : Nat) (hs : List LK) {x : AV} (hx : lk st.slots t = some x) : Wk P base st ⟨setS st.slots t (loosen1 hs x), st.objs, st.nt⟩ := by
  intro B W0 D0 dl M ι a W h
  refine ⟨M, ι, .refl _ _, .refl _ _, ⟨h.rel, fun k y hk => ?_, h.nt, h.df, h.new, h.big⟩⟩
  have hk : lk (setS st.slots t (loosen1 hs x)) k = some y := hk
  rw [lk_setS] at hk
  split at hk
  · rename_i e; cases hk; subst e; exact loosen1_rep hs (h.slots _ x hx)
  · exact h.slots k y hk
def lessRow (o : Nat) (hs : List LK) (nr' fl' : Bool) (st : St) : Option St :=
  match st.objs[o]? with
  | some (.row bx ro nr fl w xs) => if (!nr' || nr) && (!fl' || fl) then some ⟨st.slots, st.objs.set o (.row bx ro nr' fl' w (xs.map (loosen1 hs))), st.nt⟩ else none
  | _ => none
theorem Sim.lt {B : Nat} {W0 W : World} {D0 dl : List Nat} {M : CM} {ι : Inj} {a : Act} {o : Nat} {x : AObj} (h : Sim P B W0 D0 dl M ι st a W) (ho : st.objs[o]? = some x) : o < BIG := Nat.lt_of_lt_of_le (List.getElem?_eq_some_iff.1 ho).1 h.big
theorem sto_at {objs : List AObj} {o : Nat} {x : AObj} (hb : o < BIG) (ho : objs[o]? = some x) (hx : x.isPlain = true) : sto objs o = some x := by rw [sto_low hb, ho]; simp [plain_of hx]
theorem wk_row (o : Nat) (hs : List LK) (nr' fl' : Bool) (h : lessRow o hs nr' fl' st = some st') : Wk P base st st' := by
  unfold lessRow at h
  split at h
  · rename_i bx ro nr fl w xs ho
    split at h
    · rename_i hc
      cases h
      simp only [Bool.and_eq_true, Bool.or_eq_true, Bool.not_eq_true'] at hc
      intro B W0 D0 dl M ι a W hsim
      have hlt := (List.getElem?_eq_some_iff.1 ho).1
      have hob := hsim.lt ho
      have hos := sto_at hob ho rfl
      obtain ⟨p, hp, hrow⟩ := hsim.rel.row o bx ro nr fl w xs hos
      refine ⟨M, ι, .refl _ _, .refl _ _, ⟨?_, hsim.slots, hsim.nt, hsim.df, fun k hk => hsim.new k (by simpa using hk), by simpa using hsim.big⟩⟩
      show Rel P B W0 (dl ++ D0) M ι (sto (st.objs.set o _)) W
      rw [sto_set ho rfl rfl hob]
      refine hsim.rel.lessRow (nr := nr) (fl := fl) (xs := xs) hos (by simp) (fun i x x' hi hi' => ⟨hs, by simp [hi] at hi'; exact hi'.symm⟩) (fun hn => ?_) (fun hf y hy => ?_)
      · rw [nrL_mem]; intro y hy
        simp only [List.mem_map] at hy
        obtain ⟨z, hz, rfl⟩ := hy
        have : nr = true := by rcases hc.1 with e | e <;> simp_all
        exact loosen1_nr hs (nrL_mem.1 (hrow.nr this) z hz)
      · simp only [List.mem_map] at hy
        obtain ⟨z, hz, rfl⟩ := hy
        have : fl = true := by rcases hc.2 with e | e <;> simp_all
        exact loosen1_scs hs (hrow.shaped z hz) (hrow.fl this z hz)
    · cases h
  · cases h
def isNil : AV → Bool
  | .nils | .emp => true
  | _ => false
theorem isNil_rep {M : CM} {ι : Inj} {v : Value} {x : AV} (h : isNil x = true) (hr : RepV M ι v x) : ∃ a, v = .slice a 0 0 := by
  cases x <;> simp [isNil] at h
  · exact ⟨none, hr.nils_inv⟩
  · exact hr.emp_inv
def nilSlot (t w : Nat) (nr fl : Bool) (st : St) : Option St :=
  match lk st.slots t with
  | some x => if isNil x && Nat.blt 0 w && Nat.blt st.objs.length BIG then some ⟨setS st.slots t (.ref st.objs.length 0 0), st.objs ++ [.row false false nr fl w []], st.nt⟩ else none
  | none => none
theorem Sim.virt {B : Nat} {W0 W : World} {D0 dl : List Nat} {M : CM} {ι : Inj} {a : Act} (h : Sim P B W0 D0 dl M ι st a W) (nr fl : Bool) {w : Nat} (hw : 0 < w) (hb : st.objs.length < BIG) :
    ∃ p, ι st.objs.length = none ∧ p.cap = 0 ∧ Sim P B W0 D0 dl M (ι.put st.objs.length p) ⟨st.slots, st.objs ++ [.row false false nr fl w []], st.nt⟩ a W := by
  have hn := h.new st.objs.length (InB.not (Nat.le_refl _) hb)
  refine ⟨⟨B, 0, w, 0⟩, hn, rfl, ⟨?_, fun k y hk => (h.slots k y hk).mono (CM.le_refl _) (Inj.le_put _ hn), h.nt, h.df, fun k hk => ?_, by simp; omega⟩⟩
  · show Rel P B W0 (dl ++ D0) M _ (sto (st.objs ++ [_])) W
    rw [sto_app rfl hb]
    exact h.rel.virt hn hw
  · have hk : ¬ InB (st.objs.length + 1) k := by simpa using hk
    rw [Inj.put_ne _ _ (fun e => hk (.inl (by omega)))]; exact h.new k (fun c => hk (c.mono (Nat.le_succ _)))
theorem wk_nil (t w : Nat) (nr fl : Bool) (h : nilSlot t w nr fl st = some st') : Wk P base st st' := by
  unfold nilSlot at h
  split at h
  · rename_i x hx
    split at h
    · rename_i hc
      simp only [Bool.and_eq_true] at hc
      cases h
      intro B W0 D0 dl M ι a W hsim
      obtain ⟨p, hn, hp, hv⟩ := hsim.virt nr fl (blt_lt hc.1.2) (blt_lt hc.2)
      obtain ⟨ad, had⟩ := isNil_rep hc.1.1 (hsim.slots t x hx)
      refine ⟨M, _, .refl _ _, (Inj.le_put p hn).leB base, ⟨hv.rel, fun k y hk => ?_, hv.nt, hv.df, hv.new, hv.big⟩⟩
      have hk : lk (setS st.slots t (.ref st.objs.length 0 0)) k = some y := hk
      rw [lk_setS] at hk
      split at hk
      · rename_i e; cases hk; subst e; rw [had]; exact .ref0 _ _ _ (Inj.put_same _ _ _) hp
      · exact hv.slots k y hk
    · cases h
  · cases h
def nilObj (o i c w : Nat) (nr fl : Bool) (st : St) : Option St :=
  match st.objs[o]? with
  | some (.row true false nr0 fl0 w0 xs) => match xs[i]? with
    | some x => match x.flat[c]? with
      | some y => if isNil y && Nat.blt 0 w && Nat.blt st.objs.length BIG then match putAt x c (.ref st.objs.length 0 0) with
          | some x' => some ⟨st.slots, st.objs.set o (.row true false false false w0 (xs.set i x')) ++ [.row false false nr fl w []], st.nt⟩
          | none => none
        else none
      | none => none
    | none => none
  | _ => none
theorem wk_nilO (o i c w : Nat) (nr fl : Bool) (h : nilObj o i c w nr fl st = some st') : Wk P base st st' := by
  unfold nilObj at h
  split at h
  · rename_i nr0 fl0 w0 xs ho
    split at h
    · rename_i x hx
      split at h
      · rename_i y hy
        split at h
        · rename_i hc
          split at h
          · rename_i x' hx'
            simp only [Bool.and_eq_true] at hc
            cases h
            intro B W0 D0 dl M ι a W hsim
            obtain ⟨p, hn, hp, hv⟩ := hsim.virt nr fl (blt_lt hc.1.2) (blt_lt hc.2)
            have hlt := (List.getElem?_eq_some_iff.1 ho).1
            refine ⟨M, _, .refl _ _, (Inj.le_put p hn).leB base, ⟨?_, hv.slots, hv.nt, hv.df, fun k hk => hv.new k (by simpa using hk), by simpa using hv.big⟩⟩
            show Rel P B W0 (dl ++ D0) M _ (sto (st.objs.set o _ ++ [_])) W
            have hob := hsim.lt ho
            have ho1 : (st.objs ++ [AObj.row false false nr fl w []])[o]? = some (.row true false nr0 fl0 w0 xs) := by rw [List.getElem?_append_left hlt]; exact ho
            have hos := sto_at hob ho1 rfl
            have e1 : sto (st.objs.set o (.row true false false false w0 (xs.set i x')) ++ [AObj.row false false nr fl w []]) = Sto.put (sto (st.objs ++ [AObj.row false false nr fl w []])) o (.row true false false false w0 (xs.set i x')) := by
              rw [← sto_set ho1 rfl rfl hob, List.set_append_left _ _ hlt]
            rw [e1]
            have hrel := hv.rel
            obtain ⟨q, hq, hrow⟩ := hrel.row o true false nr0 fl0 w0 xs hos
            have hxm := List.mem_of_getElem? hx
            obtain ⟨g1, g2, g3⟩ := putAt_sound hx' (hrow.shaped x hxm) ⟨.inr rfl, rfl, fun z hz => by simp [AV.flat] at hz; subst hz; rfl⟩
            have hil := (List.getElem?_eq_some_iff.1 hx).1
            have hcap : i * w0 + w0 ≤ q.cap * w0 := by
              have : (i + 1) * w0 ≤ q.cap * w0 := Nat.mul_le_mul_right _ (by have := hrow.len; omega)
              rwa [Nat.succ_mul] at this
            have key := hrel.write (bx' := true) (nr' := false) (fl' := false) (xs' := xs.set i x') hos hq 0 [] (by simp) (by simpa using hrow.len)
              (fun z hz => by
                rcases List.mem_or_eq_of_mem_set hz with hz | rfl
                · exact hrow.shaped z hz
                · exact g1) (by simp) (by simp)
              (fun k j z r hk hj hlo hhi => by simp at hhi)
              (fun k j z r hk hj hout => by
                by_cases e : k = i
                · subst e
                  rw [List.getElem?_set_self hil] at hk
                  cases hk
                  rcases g3 j r hj with ⟨b1, b2, b3⟩ | ⟨b1, b2⟩
                  · have hj0 : j = c := by simp [AV.flat] at b2; omega
                    subst hj0
                    simp [AV.flat] at b3
                    subst b3
                    obtain ⟨v, hv', hr⟩ := hrow.cells k j x y hx hy
                    obtain ⟨ad, had⟩ := isNil_rep hc.1.1 hr
                    exact ⟨v, by rw [← Nat.add_assoc]; exact hv', by rw [had]; exact .ref0 _ _ _ (Inj.put_same _ _ _) hp⟩
                  · obtain ⟨v, hv', hr⟩ := hrow.cells k j x r hx b2
                    exact ⟨v, by rw [← Nat.add_assoc]; exact hv', hr⟩
                · rw [List.getElem?_set_ne (Ne.symm e)] at hk
                  obtain ⟨v, hv', hr⟩ := hrow.cells k j z r hk hj
                  exact ⟨v, by rw [← Nat.add_assoc]; exact hv', hr⟩)
            exact key
          · cases h
        · cases h
      · cases h
    · cases h
  · cases h
def nilCell (t c w : Nat) (nr fl : Bool) (st : St) : Option St :=
  match lk st.slots t with
  | some (.agg cs) => match cs[c]? with
    | some y => if isNil y && Nat.blt 0 w && Nat.blt st.objs.length BIG then some ⟨setS st.slots t (.agg (cs.set c (.ref st.objs.length 0 0))), st.objs ++ [.row false false nr fl w []], st.nt⟩ else none
    | none => none
  | _ => none
theorem wk_nilC (t c w : Nat) (nr fl : Bool) (h : nilCell t c w nr fl st = some st') : Wk P base st st' := by
  unfold nilCell at h
  split at h
  · rename_i cs hx
    split at h
    · rename_i y hy
      split at h
      · rename_i hc
        simp only [Bool.and_eq_true] at hc
        cases h
        intro B W0 D0 dl M ι a W hsim
        obtain ⟨p, hn, hp, hv⟩ := hsim.virt nr fl (blt_lt hc.1.2) (blt_lt hc.2)
        refine ⟨M, _, .refl _ _, (Inj.le_put p hn).leB base, ⟨hv.rel, fun k z hk => ?_, hv.nt, hv.df, hv.new, hv.big⟩⟩
        have hk : lk (setS st.slots t (.agg (cs.set c (.ref st.objs.length 0 0)))) k = some z := hk
        rw [lk_setS] at hk
        split at hk
        · rename_i e
          cases hk
          subst e
          have hr := hv.slots t _ hx
          generalize a.tmps.getD t undef = u at hr
          cases hr with
          | agg cs' _ h1 h2 h3 =>
            refine .agg cs' _ (by simpa using h1) (fun y hy => ?_) (fun j v y hj hy' => ?_)
            · rcases List.mem_or_eq_of_mem_set hy with hy | rfl
              · exact h2 y hy
              · rfl
            · by_cases e : j = c
              · subst e
                have hlt : j < cs.length := (List.getElem?_eq_some_iff.1 hy).1
                rw [List.getElem?_set_self hlt] at hy'
                cases hy'
                obtain ⟨ad, rfl⟩ := isNil_rep hc.1.1 (h3 j v _ hj hy)
                exact .ref0 _ _ _ (Inj.put_same _ _ _) hp
              · rw [List.getElem?_set_ne (Ne.symm e)] at hy'
                exact h3 j v y hj hy'
        · exact hv.slots k z hk
      · cases h
    · cases h
  · cases h
noncomputable def snapSlot (t : Nat) (y : AV) (ids : List Nat) (st : St) : Option St :=
  match frz st.sto ids with
  | some es => match applyEff st.objs es with
    | some objs => some ⟨setS st.slots t y, objs, st.nt⟩
    | none => none
  | none => none
theorem wk_snap (t : Nat) {x y : AV} {ids : List Nat} (hx : lk st.slots t = some x) (hsn : snap st.sto snapDepth x = some (y, ids)) (h : snapSlot t y ids st = some st') : Wk P base st st' := by
  unfold snapSlot at h
  split at h
  · rename_i es hes
    split at h
    · rename_i objs ha
      cases h
      intro B W0 D0 dl M ι a W hsim
      obtain ⟨p1, p2, p3⟩ := applyEff_puts _ _ _ ha
      have h' := frz_sound hsim.rel hes
      have hg := hsim.rel.growC ids
      refine ⟨_, ι, hg, .refl _ _, ⟨?_, fun k z hk => ?_, hsim.nt, hsim.df, fun k hk => hsim.new k (fun c => hk (c.mono p2)), p3 hsim.big⟩⟩
      · show Rel P B W0 (dl ++ D0) _ ι (sto objs) W
        rw [p1]; exact h'
      · have hk : lk (setS st.slots t y) k = some z := hk
        rw [lk_setS] at hk
        split at hk
        · rename_i e; cases hk; subst e
          exact (snap_sound hsim.rel ids snapDepth x y ids _ hsn (fun k hk => hk) (hsim.slots _ x hx)).mono (CM.le_refl _) (Inj.noInj_le _)
        · exact (hsim.slots k z hk).mono hg.le (Inj.le_refl _)
    · cases h
  · cases h
noncomputable def snapObj (o i : Nat) (y : AV) (ids : List Nat) (st : St) : Option St :=
  match frz st.sto ids with
  | some es => match applyEff st.objs es with
    | some objs => match objs[o]? with
      | some (.row true false nr fl w xs) => some ⟨st.slots, objs.set o (.row true false false false w (xs.set i y)), st.nt⟩
      | _ => none
    | none => none
  | none => none
theorem wk_snapO (o i : Nat) {bx ro nr fl : Bool} {w : Nat} {xs : List AV} {x y : AV} {ids : List Nat} (ho : st.sto o = some (.row bx ro nr fl w xs)) (hx : xs[i]? = some x) (hno : hasN ids o = false) (hsn : snap st.sto snapDepth x = some (y, ids)) (h : snapObj o i y ids st = some st') : Wk P base st st' := by
  unfold snapObj at h
  split at h
  · rename_i es hes
    split at h
    · rename_i objs ha
      split at h
      · rename_i nr' fl' w' xs' ho'
        cases h
        intro B W0 D0 dl M ι a W hsim
        obtain ⟨p1, p2, p3⟩ := applyEff_puts _ _ _ ha
        have h' := frz_sound hsim.rel hes
        have hg := hsim.rel.growC ids
        have hos' := sto_at (Nat.lt_of_lt_of_le (List.getElem?_eq_some_iff.1 ho').1 (p3 hsim.big)) ho' rfl
        have hob : o < BIG := Nat.lt_of_lt_of_le (List.getElem?_eq_some_iff.1 ho').1 (p3 hsim.big)
        have hsame : sto objs o = sto st.objs o := by
          have e1 : sto objs o = Sto.puts st.sto es o := congrFun p1 o
          rw [e1]
          exact frz_other hes (hasN_spec hno)
        have ho : sto st.objs o = some (.row bx ro nr fl w xs) := ho
        rw [hos', ho] at hsame
        cases hsame
        have hlt := (List.getElem?_eq_some_iff.1 ho').1
        have h'' : Rel P B W0 (dl ++ D0) (addM M W (inC st.sto ι ids)) ι (sto objs) W := by rw [p1]; exact h'
        obtain ⟨p, hp, hrow⟩ := h''.row o true false nr fl w xs hos'
        have hxm := List.mem_of_getElem? hx
        have hil := (List.getElem?_eq_some_iff.1 hx).1
        obtain ⟨q1, q2⟩ := snap_elem hsn (hrow.shaped x hxm)
        refine ⟨_, ι, hg, .refl _ _, ⟨?_, hsim.slots.mono hg.le (Inj.le_refl _), hsim.nt, hsim.df, fun k hk => hsim.new k (fun c => hk ((c.mono p2).mono (by simp))), by simpa using p3 hsim.big⟩⟩
        show Rel P B W0 (dl ++ D0) _ ι (sto (objs.set o _)) W
        rw [sto_set ho' rfl rfl hob]
        refine h''.write (c0 := 0) (vs := []) hos' hp (by simp) (by simpa using hrow.len) (fun z hz => ?_) (by simp) (by simp) (fun k j z r hk hj hlo hhi => by simp at hhi) (fun k j z r hk hj hout => ?_)
        · rcases List.mem_or_eq_of_mem_set hz with hz | rfl
          · exact hrow.shaped z hz
          · exact q1
        · by_cases e : k = i
          · subst e
            rw [List.getElem?_set_self hil] at hk
            cases hk
            obtain ⟨c, d', is, e1, e2, e3, e4⟩ := q2 j r hj
            obtain ⟨q, hq, hrow0⟩ := hsim.rel.row o true false nr fl w xs ho
            rw [hp] at hq; cases hq
            obtain ⟨v, hv, hr⟩ := hrow0.cells k j x c hx e1
            exact ⟨v, by rw [← Nat.add_assoc]; exact hv, (snap_sound hsim.rel ids d' c r is v e3 e4 hr).mono (CM.le_refl _) (Inj.noInj_le _)⟩
          · rw [List.getElem?_set_ne (Ne.symm e)] at hk
            obtain ⟨v, hv, hr⟩ := hrow.cells k j z r hk hj
            exact ⟨v, by rw [← Nat.add_assoc]; exact hv, hr⟩
      · cases h
    · cases h
  · cases h
end
end Go.Ab
namespace Go.Ab
open Go.RowKit
set_option linter.unusedVariables false
set_option linter.unusedSimpArgs false
section
variable {P : Program} {rd : Option Nat} {base : Nat} {ops : Array Oper} {st st1 st' S : St} {o : Oper} {F : Foot} {out : AOut} {Φ Ψ : AOut → Prop} {d : Option (List Sk)} {i : Nat} {nf : Bool} {s : Slots} {σ : Sto} {c x y : Code}
theorem snap_full {α : Type} {enc : α → AV} {l : List α} {ob w n : Nat} {bx ro fl : Bool} (hrow : σ ob = some (.row bx ro true fl w (l.map enc))) : snap σ (n + 1) (.ref ob 0 l.length) = some (.lst fl (l.map enc), [ob]) := by
  have : (l.map enc).take l.length = l.map enc := List.take_of_length_le (by simp)
  simp [snap, hrow, this]
theorem snap_part {α : Type} {enc : α → AV} {l : List α} {ob w n : Nat} {a b : Int} {bx ro fl : Bool} (hrow : σ ob = some (.row bx ro true fl w (l.map enc))) (hc : 0 ≤ a ∧ a ≤ b ∧ b ≤ l.length) : snap σ (n + 1) (.ref ob a.toNat (b.toNat - a.toNat)) = some (.lst fl ((sub l a b).map enc), [ob]) := by
  have h1 : a.toNat + (b.toNat - a.toNat) ≤ l.length := by omega
  simp [snap, hrow, h1, sub, List.map_take, List.map_drop]
theorem msnap_nil {f : AV → Option (AV × List Nat)} : mapSnap f [] = some ([], []) := rfl
theorem msnap_cons {f : AV → Option (AV × List Nat)} {x y : AV} {xs ys : List AV} {a b c : List Nat} (h1 : f x = some (y, a)) (h2 : mapSnap f xs = some (ys, b)) (hc : a ++ b = c) : mapSnap f (x :: xs) = some (y :: ys, c) := by
  subst hc; simp [mapSnap, h1, h2]
theorem snap_agg {n : Nat} {cs ys : List AV} {ids : List Nat} (h : mapSnap (snap σ n) cs = some (ys, ids)) : snap σ (n + 1) (.agg cs) = some (.agg ys, ids) := by simp [snap, h]
theorem snap_tup {n : Nat} {cs ys : List AV} {ids : List Nat} (h : mapSnap (snap σ n) cs = some (ys, ids)) : snap σ (n + 1) (.tup cs) = some (.tup ys, ids) := by simp [snap, h]
theorem snap_fn {n : Nat} {f : Fn} {a b x y : List AV} {i j k : List Nat} (h1 : mapSnap (snap σ n) a = some (x, i)) (h2 : mapSnap (snap σ n) b = some (y, j)) (hk : i ++ j = k) : snap σ (n + 1) (.fn f a b) = some (.fn f x y, k) := by subst hk; simp [snap, h1, h2]
theorem snap_ptr {n ob k c w : Nat} {bx ro nr fl : Bool} {xs ys : List AV} {ids : List Nat} {y : AV} {z : List AV} (hrow : σ ob = some (.row bx ro nr fl w xs)) (h : mapSnap (snap σ n) xs = some (ys, ids)) (hy : ys[k]? = some y) (hz : y.flat.drop c = z) :
    snap σ (n + 1) (.ptr ob k c) = some (.fz z, ob :: ids) := by subst hz; simp [snap, hrow, h, hy]
theorem snap_refs {n ob w : Nat} {bx ro fl : Bool} {xs ys : List AV} {ids : List Nat} (hrow : σ ob = some (.row bx ro false fl w xs)) (h : mapSnap (snap σ n) xs = some (ys, ids)) :
    snap σ (n + 1) (.ref ob 0 xs.length) = some (.lst false ys, ob :: ids) := by
  have hl := (mapSnap_at h).1
  have : ys.take xs.length = ys := List.take_of_length_le (by omega)
  simp [snap, hrow, h, this]
def callInfo (ops : Array Oper) (i : Nat) (st : St) : Option (FuncId × List AV) :=
  match opAt ops i st with
  | some o => match o.op with
    | .call { callee := .value g, args, .. } => match evo (lk st.slots) g, evos (lk st.slots) args.toList with
      | some (.fn (.func f) first caps), some as => some (f, first ++ as ++ caps)
      | _, _ => none
    | _ => none
  | none => none
theorem callInfo_spec {f : FuncId} {as0 : List AV} (h : callInfo ops i st = some (f, as0)) : ∃ o g args ts first caps as, opAt ops i st = some o ∧ o.op = .call { callee := .value g, args, argTypes := ts } ∧ evo (lk st.slots) g = some (.fn (.func f) first caps) ∧
    evos (lk st.slots) args.toList = some as ∧ as0 = first ++ as ++ caps := by
  unfold callInfo at h
  split at h
  · rename_i o ho
    split at h
    · rename_i g args ts hop
      split at h
      · rename_i f' first caps as hg has
        cases h
        exact ⟨o, g, args, ts, first, caps, as, ho, hop, hg, has, rfl⟩
      · cases h
    · cases h
  · cases h
def bodyB (P : Program) (f : FuncId) : Bool :=
  match P.funcs[f]? with
  | some fn => fn.body.isSome && !(fn.name == "runtime.NumGoroutine")
  | none => false
noncomputable def callEff (st : St) (ids : List Nat) (r : AV) (objs : List AObj) : Option (List (Nat × AObj)) :=
  if objs.all AObj.okRow then
    if ids.isEmpty || (r.cls && objs.all AObj.flat) then some (impObjs st.objs.length st.objs.length objs)
    else match frz st.sto ids with
      | some es => some (es ++ impObjs st.objs.length st.objs.length objs)
      | none => none
  else none
noncomputable def callSt (ops : Array Oper) (i : Nat) (st : St) (ids : List Nat) (r : AV) (objs : List AObj) : Option St :=
  match callEff st ids r objs with
  | some eff => match finI ops i st (some (r.shift st.objs.length)) eff with
    | some S => if Nat.beq S.objs.length (st.objs.length + objs.length) then some S else none
    | none => none
  | none => none
noncomputable def callSk (st : St) (ids : List Nat) (r : AV) (objs : List AObj) : Sk := (((callEff st ids r objs).getD []).map (·.1), ids)
open Classical in
noncomputable def oneC (f : FuncId) (as : List AV) (co : COut) : FuncId → List AV → Option COut := fun g bs => if g = f ∧ bs = as then some co else none
theorem oneC_sound {f : FuncId} {as : List AV} {co : COut} (h : CallOk P f as co) (hb : bodyB P f = true) : Sound P (oneC f as co) := by
  intro g bs out he
  unfold oneC at he
  split at he
  · rename_i hc
    obtain ⟨rfl, rfl⟩ := hc
    cases he
    refine ⟨h, ?_⟩
    unfold bodyB at hb
    split at hb
    · rename_i fn hf
      simp only [Bool.and_eq_true, Bool.not_eq_true'] at hb
      exact ⟨fn, hf, hb.1, hb.2⟩
    · cases hb
  · cases he
theorem callOne {f : FuncId} {as0 us : List AV} {ids : List Nat} {rv : AV} {ro : List AObj} (hi : callInfo ops i st = some (f, as0)) (hb : bodyB P f = true) (hsn : mapSnap (snap st.sto snapDepth) as0 = some (us, ids)) (hc : CallOk P f us (.ret rv ro))
    (hS : callSt ops i st ids rv ro = some S) (k : RW P rd base ops (dAdd d [callSk st ids rv ro]) (i + 1) S Φ) : RW P rd base ops d i st Φ := by
  obtain ⟨o, g, args, ts, first, caps, as1, ho, hop, hg, has, rfl⟩ := callInfo_spec hi
  unfold callSt at hS
  unfold callSk at k
  split at hS
  · rename_i eff heff
    rw [heff] at k
    split at hS
    · rename_i S' hS'
      split at hS
      · rename_i hl
        cases hS
        obtain ⟨h1, h2⟩ := opAt_spec ho
        unfold finI at hS'
        rw [h1] at hS'
        simp only at hS'
        split at hS'
        · rename_i objs slots ha hp
          cases hS'
          refine rw_step (s := (eff.map (·.1), ids)) ⟨o, ⟨some (rv.shift st.objs.length), eff, st.objs.length, st.objs.length + ro.length, ids⟩, h1, ?_, cov_sk _⟩ (by simpa using k)
          refine stepF_ev (nf := false) (C := oneC f us (.ret rv ro)) (oneC_sound hc hb) (res := ⟨some (rv.shift st.objs.length), eff, st.objs.length + ro.length, ids⟩) h2 ?_ ha hp (Nat.eq_of_beq_eq_true hl)
          unfold evOp
          rw [hop]
          simp only [mayPan, if_true]
          unfold evalOp
          rw [hop]
          simp only [hg, has, absCall, hsn, oneC, and_self, if_true]
          unfold callEff at heff
          split at heff
          · rename_i hok
            rw [if_pos hok]
            split at heff
            · rename_i hcl
              cases heff
              rw [if_pos hcl]
            · rename_i hcl
              rw [if_neg hcl]
              split at heff
              · rename_i es hes
                cases heff
                rw [hes]
              · cases heff
          · cases heff
        · cases hS'
      · cases hS
    · cases hS
  · cases hS
theorem callR {α R : Type} {G : Option α} {K : α → Option R} {f : FuncId} {as0 us : List AV} {ids : List Nat} {rv : α → AV} {ro : α → List AObj} {S : α → St} {r : R} (hi : callInfo ops i st = some (f, as0)) (hb : bodyB P f = true)
    (hsn : mapSnap (snap st.sto snapDepth) as0 = some (us, ids)) (hc : ∀ x, G = some x → CallOk P f us (.ret (rv x) (ro x))) (hS : ∀ x, callSt ops i st ids (rv x) (ro x) = some (S x)) (h : G.bind K = some r)
    (k : ∀ x, G = some x → K x = some r → RW P rd base ops (dAdd d [callSk st ids (rv x) (ro x)]) (i + 1) (S x) Φ) : RW P rd base ops d i st Φ := by
  cases hg : G with
  | none => rw [hg] at h; cases h
  | some x => rw [hg] at h; exact callOne hi hb hsn (hc x hg) (hS x) (k x hg h)
theorem CallOk.args {f : FuncId} {us : List AV} {co : COut} (hss : List (List LK)) (h : CallOk P f (zipT hss us) co) : CallOk P f us co := by
  intro W M vs h1 h2 h3
  refine h W M vs h1 (by rw [zipT_length]; exact h2) (fun j v y hv hy => ?_)
  obtain ⟨hs, z, hz, rfl⟩ := zipT_at hss us j y hy
  exact loosen1_rep hs (h3 j v z hv hz)
theorem CallOk.res {f : FuncId} {us : List AV} {r : AV} {objs : List AObj} (hss : List (List LK)) (h : CallOk P f us (.ret r objs)) : CallOk P f us (.ret (loosenT hss r) objs) := by
  intro W M vs h1 h2 h3
  refine (h W M vs h1 h2 h3).mono fun e w he => ?_
  obtain ⟨v, M', ι', g1, g2, g3, g4, g5⟩ := he
  exact ⟨v, M', ι', g1, g2, g3, g4, loosenT_rep hss g5⟩
def bsInfo (P : Program) (ops : Array Oper) (i : Nat) (st : St) : Option (List (Nat × AV)) :=
  match opAt ops i st with
  | some o => match o.op with
    | .buildSlice _ _ ps => evParts (lk st.slots) ps.toList
    | _ => none
  | none => none
noncomputable def bsSt (P : Program) (ops : Array Oper) (i : Nat) (st : St) (he : List LK) (b : Bool) (parts : List (Nat × AV)) (ids : List Nat) : Option (St × List (Nat × AObj)) :=
  match opAt ops i st with
  | some o => match o.op with
    | .buildSlice t n _ => match ti P t with
      | some T => match T.kind with
        | .slice e => match ti P e with
          | some E => if n = 0 then none else match E.zero with
            | some z => if Nat.beq z.flat.length E.size && Nat.blt 0 E.size && Nat.ble (n * E.size) 16777216 then
                match fillElems E.size (List.replicate n z) parts, frz st.sto ids with
                | some xs, some es => match finI ops i st (some (.ref st.objs.length 0 n)) (es ++ [(st.objs.length, .row false false (AV.nrL xs) (b && xs.all AV.scs) E.size (xs.map (loosen1 he)))]) with
                  | some S => if Nat.beq S.objs.length (st.objs.length + 1) then some (S, es ++ [(st.objs.length, .row false false (AV.nrL xs) (xs.all AV.scs) E.size xs)]) else none
                  | none => none
                | _, _ => none
              else none
            | none => none
          | none => none
        | _ => none
      | none => none
    | _ => none
  | none => none
theorem loosenEff_last (he : List LK) (b : Bool) (es : List (Nat × AObj)) (o : Nat) (bx ro nr fl : Bool) (w : Nat) (xs : List AV) : loosenEff he b (es ++ [(o, .row bx ro nr fl w xs)]) = es ++ [(o, .row bx ro nr (b && fl) w (xs.map (loosen1 he)))] := by
  induction es with
  | nil => rfl
  | cons e es ih =>
    obtain ⟨o', x⟩ := e
    cases es with
    | nil => simp [loosenEff]
    | cons e' es => simp only [List.cons_append, loosenEff] at ih ⊢; rw [ih]
theorem bsR {parts0 parts : List (Nat × AV)} {ids : List Nat} {es : List (Nat × AObj)} (he : List LK) (b : Bool) (hi : bsInfo P ops i st = some parts0) (hsn : snapParts st.sto parts0 = some (parts, ids)) (hS : bsSt P ops i st he b parts ids = some (S, es))
    (k : RW P rd base ops (dAdd d [(es.map (·.1), ids)]) (i + 1) S Φ) : RW P rd base ops d i st Φ := by
  unfold bsInfo at hi
  unfold bsSt at hS
  split at hi
  · rename_i o ho
    rw [ho] at hS
    simp only at hS
    split at hi
    · rename_i t n ps hop
      rw [hop] at hS
      simp only at hS
      split at hS
      · rename_i T hT
        split at hS
        · rename_i e hk
          split at hS
          · rename_i E hE
            split at hS
            · cases hS
            · rename_i hn
              split at hS
              · rename_i z hz
                split at hS
                · rename_i hc
                  split at hS
                  · rename_i xs es' hxs hes
                    split at hS
                    · rename_i S' hS'
                      split at hS
                      · rename_i hl
                        cases hS
                        refine rw_ofL (nf := false) (v := some (.ref st.objs.length 0 n)) (eff := es' ++ [(st.objs.length, .row false false (AV.nrL xs) (xs.all AV.scs) E.size xs)]) (fr := st.objs.length + 1) (rds := ids) [] he b noC_sound ho ?_
                          (by rw [loosenEff_last]; exact hS') (Nat.eq_of_beq_eq_true hl) k
                        unfold evOp
                        rw [hop]
                        simp only [mayPan, Bool.false_eq_true, if_false]
                        unfold evalOp
                        rw [hop]
                        simp only [hT, hk, hE, hi, hn, if_false, hz, hsn, Bool.false_eq_true, hc, if_true, hxs, hes, onlyVal]
                      · cases hS
                    · cases hS
                  · cases hS
                · cases hS
              · cases hS
          · cases hS
        · cases hS
      · cases hS
    · cases hi
  · cases hi
theorem sparts_nil : snapParts σ [] = some ([], []) := rfl
theorem sparts_keep {j : Nat} {x : AV} {r ys : List (Nat × AV)} {b : List Nat} (hx : x.nr = true) (h : snapParts σ r = some (ys, b)) : snapParts σ ((j, x) :: r) = some ((j, x) :: ys, b) := by simp [snapParts, hx, h]
theorem sparts_snap {j : Nat} {x y : AV} {r ys : List (Nat × AV)} {a b c : List Nat} (hx : x.nr = false) (h1 : snap σ snapDepth x = some (y, a)) (h : snapParts σ r = some (ys, b)) (hc : a ++ b = c) : snapParts σ ((j, x) :: r) = some ((j, y) :: ys, c) := by subst hc; simp [snapParts, hx, h1, h]
theorem rw_br {R : Type} {b : Bool} {S : Bool → St} {A B : Option R} {r : R} (h : (if b = true then A else B) = some r) (h1 : b = true → A = some r → RW P rd base ops d i (S true) Φ) (h2 : b = false → B = some r → RW P rd base ops d i (S false) Φ) : RW P rd base ops d i (S b) Φ := by
  cases b
  · exact h2 rfl (by simpa using h)
  · exact h1 rfl (by simpa using h)
theorem wp_br {R : Type} {b : Bool} {S : Bool → St} {A B : Option R} {r : R} (h : (if b = true then A else B) = some r) (h1 : b = true → A = some r → WP P rd base c (S true) Φ) (h2 : b = false → B = some r → WP P rd base c (S false) Φ) : WP P rd base c (S b) Φ := by
  cases b
  · exact h2 rfl (by simpa using h)
  · exact h1 rfl (by simpa using h)
theorem rw_kn {b c : Bool} {S : Bool → St} (hb : b = c) (h : RW P rd base ops d i (S c) Φ) : RW P rd base ops d i (S b) Φ := by rw [hb]; exact h
theorem wp_kn {b c' : Bool} {S : Bool → St} (hb : b = c') (h : WP P rd base c (S c') Φ) : WP P rd base c (S b) Φ := by rw [hb]; exact h
theorem rw_knN {n m : Nat} {S : Nat → St} (hb : n = m) (h : RW P rd base ops d i (S m) Φ) : RW P rd base ops d i (S n) Φ := by rw [hb]; exact h
theorem ne_eq {a b : Int} {c : Bool} (h : (a != b) = c) : (a == b) = !c := by rw [← h]; simp [bne]
theorem eq_ne {a b : Int} {c : Bool} (h : (a == b) = c) : (a != b) = !c := by rw [← h]; rfl
theorem wp_condT {op : Operand} (he : evo (lk st.slots) op = some (.bool true)) (h : WP P rd base x st Φ) : WP P rd base (.cond op x y) st Φ := wp_cond he (fun _ => h) (fun e => by cases e)
theorem wp_condF {op : Operand} (he : evo (lk st.slots) op = some (.bool false)) (h : WP P rd base y st Φ) : WP P rd base (.cond op x y) st Φ := wp_cond he (fun e => by cases e) (fun _ => h)
def RoundIs' {σ ρ : Type} (P : Program) (base : Nat) (I : σ → St) (Ex : ρ → AOut → Prop) (o : Step σ ρ) (out : AOut) : Prop :=
  match o with
  | .next s => ∃ st1, out = .go .normal st1 ∧ Wk P base st1 (I s)
  | .done x => Ex x out ∧ out.normal = false
theorem lwp_while {σ ρ : Type} {body : σ → Option (Step σ ρ)} {I : σ → St} {Ex : ρ → AOut → Prop} (round : ∀ s o, body s = some o → WP P rd base c (I s) (RoundIs' P base I Ex o)) :
    ∀ (n : Nat) (s : σ) (x : ρ), whileN n body s = some x → LWP P rd base c (I s) (Ex x)
  | 0, s, x, h => by cases h
  | n + 1, s, x, h => by
    simp only [whileN] at h
    split at h
    · rename_i s' hb
      refine lwp_step ((round s _ hb).mono fun out ho => ?_)
      obtain ⟨st1, rfl, hw⟩ := ho
      exact lwp_wk hw (lwp_while round n s' x h)
    · rename_i x' hb
      cases h
      refine lwp_step ((round s _ hb).mono fun out ho => ?_)
      obtain ⟨h1, h2⟩ := ho
      cases out with
      | pan v => exact h1
      | go e st1 => cases e <;> first | exact h1 | simp [AOut.normal] at h2
    · cases h
theorem wp_while {σ ρ R : Type} {n : Nat} {body : σ → Option (Step σ ρ)} {I : σ → St} {Ex : ρ → AOut → Prop} {K : ρ → Option R} {r : R} (s0 : σ) (hw : Wk P base st (I s0)) (h : (whileN n body s0).bind K = some r)
    (round : ∀ s o, body s = some o → WP P rd base c (I s) (RoundIs' P base I Ex o)) (k : ∀ x, K x = some r → ∀ out, Ex x out → Φ out) : WP P rd base (.loop c) st Φ := by
  cases hx : whileN n body s0 with
  | none => rw [hx] at h; cases h
  | some x =>
    rw [hx] at h
    obtain ⟨out, h1, h2⟩ := lwp_wk hw (lwp_while round n s0 x hx)
    exact wp_loop ⟨out, h1, k x h out h2⟩
noncomputable def fnOut (P : Program) (fn : Func) (hss : List (List LK)) : AOut → Option (AV × List AObj)
  | .go e st' => if e.ends then match resultA P fn st' with
      | some x => match exportV st' x with
        | some (.ret r objs) => some (loosenT hss r, objs)
        | _ => none
      | none => none
    else none
  | .pan _ => none
theorem fn_ok {f : FuncId} {fn : Func} {c : Code} {args : List AV} {rv : AV} {ro : List AObj} (hss : List (List LK)) (hf : P.funcs[f]? = some fn) (hb : fn.body = some c) (hn : (fn.name == "runtime.NumGoroutine") = false) (hle : Nat.ble args.length fn.ntmps = true)
    (h : WP P none 0 c (st0 fn.ntmps args) (fun out => fnOut P fn hss out = some (rv, ro))) : CallOk P f args (.ret rv ro) := by
  obtain ⟨co, h1, r', h2, h3⟩ := call_wp (R := fun co => ∃ r', co = .ret r' ro ∧ loosenT hss r' = rv) hf hb hn (Nat.le_of_ble_eq_true hle) (h.mono fun out ho => by
    cases out with
    | pan v => cases ho
    | go e st' =>
      simp only [fnOut] at ho
      split at ho
      · rename_i he
        split at ho
        · rename_i x hx
          split at ho
          · rename_i r objs hex
            simp only [Option.some.injEq, Prod.mk.injEq] at ho
            obtain ⟨h1, rfl⟩ := ho
            exact ⟨he, x, hx, _, hex, r, rfl, h1⟩
          · cases ho
        · cases ho
      · cases ho)
  rw [← h3]
  rw [h2] at h1
  exact h1.res hss
theorem exportV_snap {v r : AV} {ids : List Nat} (h0 : (expRen st v).isNone = true) (h : snap st.sto snapDepth v = some (r, ids)) : exportV st v = some (.ret r []) := by
  unfold exportV
  rw [Option.isNone_iff_eq_none.1 h0]
  simp only
  rw [show snap (Ab.sto st.objs) snapDepth v = some (r, ids) from h]
theorem fnOut_snap {fn : Func} {hss : List (List LK)} {e : AExit} {x r : AV} {ids : List Nat} (he : e.ends = true) (hx : resultA P fn st' = some x) (hex : exportV st' x = some (.ret r [])) : fnOut P fn hss (.go e st') = some (loosenT hss r, []) := by
  simp [fnOut, he, hx, hex]
noncomputable def inlEnd (P : Program) (fn : Func) (ops : Array Oper) (i : Nat) (st : St) : AOut → Option St
  | .go e st' => if e.ends then match resultA P fn st', ops[i]? with
      | some x, some o => match putD st.slots st.nt o.dst (some x) with
        | some slots => some ⟨slots, st'.objs, st.nt⟩
        | none => none
      | _, _ => none
    else none
  | .pan _ => none
theorem inlR {f : FuncId} {fn : Func} {c : Code} {as0 : List AV} (hi : callInfo ops i st = some (f, as0)) (hf : P.funcs[f]? = some fn) (hb : fn.body = some c) (hn : (fn.name == "runtime.NumGoroutine") = false) (hle : Nat.ble as0.length fn.ntmps = true)
    (h : WP P none st.objs.length c ⟨enumA 0 as0, st.objs, fn.ntmps⟩ (fun out => ∃ S, inlEnd P fn ops i st out = some S ∧ RW P rd base ops none (i + 1) S Φ)) : RW P rd base ops none i st Φ := by
  obtain ⟨o, g, args, ts, first, caps, as1, ho, hop, hg, has, rfl⟩ := callInfo_spec hi
  obtain ⟨h1, h2⟩ := opAt_spec ho
  obtain ⟨out, hx, S, hS, k⟩ := h
  unfold inlEnd at hS
  split at hS
  · rename_i e st'
    split at hS
    · rename_i he
      split at hS
      · rename_i x o' hr ho'
        rw [h1] at ho'; cases ho'
        split at hS
        · rename_i slots hp
          cases hS
          obtain ⟨out2, k1, k2⟩ := k
          have hi' : i < ops.size := (Array.getElem?_eq_some_iff.1 h1).1
          refine ⟨out2, ?_, k2⟩
          rw [restI_cons hi']
          exact opsX_cons h1 h2 (opX_inline hop hg has hf hb hn (Nat.le_of_ble_eq_true hle) hx he hr hp) k1
        · cases hS
      · cases hS
    · cases hS
  · cases hS
def yldEnd (ops : Array Oper) (i l : Nat) (st : St) : AOut → Option St
  | .go e st' => match st'.objs[l]?, ops[i]? with
    | some (.loop nt2 sl2 ps2 as2 bd2 _ _), some o => match putD st.slots st.nt o.dst (some (.bool e.pend.isNone)) with
      | some slots => some ⟨slots, st'.objs.set l (.loop nt2 sl2 ps2 as2 bd2 (if e.pend.isNone then .ready else .done) e.pend), st.nt⟩
      | none => none
    | _, _ => none
  | .pan _ => none
def yldInfo (ops : Array Oper) (i : Nat) (st : St) : Option (Nat × List AV) :=
  match opAt ops i st with
  | some o => match o.op with
    | .call { callee := .value g, args, .. } => match evo (lk st.slots) g, evos (lk st.slots) args.toList with
      | some (.yld l), some us => some (l, us)
      | _, _ => none
    | _ => none
  | none => none
def yldMid (l nt : Nat) : AOut → Option St
  | .go .normal ⟨sl, objs, n⟩ => match objs[l]? with
    | some (.loop ntL slL psL asL bdL .ready peL) => if Nat.beq n nt then some ⟨sl, objs.set l (.loop ntL slL psL asL bdL .busy peL), nt⟩ else none
    | _ => none
  | _ => none
theorem yldR {l nt : Nat} {us : List AV} {sl : List (Nat × AV)} {ps : List Tmp} {assign body : Code} {pe : Option Code} (hi : yldInfo ops i st = some (l, us)) (hl : st.objs[l]? = some (.loop nt sl ps assign body .ready pe))
    (hlen : (Nat.beq us.length ps.length && ps.all fun t => Nat.blt t nt) = true)
    (h : WP P (some l) st.objs.length assign ⟨setPs sl ps us, st.objs, nt⟩ (fun outA => ∃ SA, yldMid l nt outA = some SA ∧ WP P (some l) st.objs.length body SA (fun outB => ∃ S, yldEnd ops i l st outB = some S ∧ RW P rd base ops none (i + 1) S Φ))) :
    RW P rd base ops none i st Φ := by
  unfold yldInfo at hi
  split at hi
  · rename_i o ho
    split at hi
    · rename_i g args ts hop
      split at hi
      · rename_i l' us' hg has
        simp only [Option.some.injEq, Prod.mk.injEq] at hi
        obtain ⟨rfl, rfl⟩ := hi
        obtain ⟨h1, h2⟩ := opAt_spec ho
        simp only [Bool.and_eq_true, List.all_eq_true] at hlen
        obtain ⟨outA, hxA, SA, hSA, outB, hxB, S, hS, k⟩ := h
        unfold yldMid at hSA
        split at hSA
        · rename_i slA objsA n
          split at hSA
          · rename_i ntL slL psL asL bdL peL hlA
            split at hSA
            · rename_i hn
              cases hSA
              have hn := Nat.eq_of_beq_eq_true hn
              subst hn
              unfold yldEnd at hS
              split at hS
              · rename_i e st'
                split at hS
                · rename_i nt2 sl2 ps2 as2 bd2 s2 pe2 o' hlB ho'
                  rw [h1] at ho'; cases ho'
                  split at hS
                  · rename_i slots hp
                    cases hS
                    obtain ⟨out2, k1, k2⟩ := k
                    have hi' : i < ops.size := (Array.getElem?_eq_some_iff.1 h1).1
                    refine ⟨out2, ?_, k2⟩
                    rw [restI_cons hi']
                    exact opsX_cons h1 h2 (opX_yield hop hg has hl (Nat.eq_of_beq_eq_true hlen.1) (fun t ht => blt_lt (hlen.2 t ht)) hxA hlA hxB hlB hp) k1
                  · cases hS
                · cases hS
              · cases hS
            · cases hSA
          · cases hSA
        · cases hSA
      · cases hi
    · cases hi
  · cases hi
theorem wp_range {g : Operand} {ps : Array Tmp} {assign body : Code} {f : FuncId} {fn : Func} {c : Code} {first caps : List AV} (hg : evo (lk st.slots) g = some (.fn (.func f) first caps)) (hf : P.funcs[f]? = some fn) (hb : fn.body = some c) (hn : (fn.name == "runtime.NumGoroutine") = false)
    (hle : Nat.ble (first ++ [AV.yld st.objs.length] ++ caps).length fn.ntmps = true) (hrd : rdOk rd st.objs = true)
    (h : WP P none (st.objs.length + 1) c (rangeSt st ps.toList assign body first caps fn.ntmps) (fun out0 => ∃ out, rangeOut P fn st out0 = some out ∧ Φ out)) : WP P rd base (.rangeFunc g ps assign body) st Φ := by
  obtain ⟨out0, h0, out, h1, h2⟩ := h
  refine ⟨out, exec_rangeFunc hg hf hb hn (Nat.le_of_ble_eq_true hle) (fun l hl => ?_) h0 h1, h2⟩
  subst hl
  simp only [rdOk] at hrd
  split at hrd
  · exact ⟨_, _, _, _, _, _, _, by assumption⟩
  · cases hrd
theorem if_elim {R : Type} {p : Prop} [Decidable p] {A B : Option R} {r : R} {G : Prop} (h : (if p then A else B) = some r) (h1 : p → A = some r → G) (h2 : ¬ p → B = some r → G) : G := by
  by_cases hp : p
  · exact h1 hp (by simpa [hp] using h)
  · exact h2 hp (by simpa [hp] using h)
theorem wp_eqB {base' : Nat} (hb : base = base') (hs : st = st') (h : WP P rd base' c st' Φ) : WP P rd base c st Φ := by subst hb; subst hs; exact h
theorem sgN (nf : Bool) (k j : Nat) {S : St} (h : runSt P nf ops k i st = some S) (hj : i + k = j) (hk : RW P rd base ops none j S Φ) : RW P rd base ops none i st Φ := sg nf k j h hj hk
theorem bind_elim {α R : Type} {G : Option α} {K : α → Option R} {r : R} {X : Prop} (h : G.bind K = some r) (k : ∀ a, G = some a → K a = some r → X) : X := by
  cases hg : G with
  | none => rw [hg] at h; cases h
  | some a => rw [hg] at h; exact k a hg h
theorem lkI_set {α : Type} {l : List α} {n : Int} {a : α} (b : α) (h : lkI l n = some a) : lkI (l.set n.toNat b) n = some b := by
  obtain ⟨h1, h2, h3⟩ := lkI_lt h
  unfold lkI
  rw [if_neg (by omega), List.getElem?_set_self h2]
theorem rw_wk {i : Nat} (hk : Wk P base st st') (h : RW P rd base ops none i st' Φ) : RW P rd base ops none i st Φ := by
  obtain ⟨out, h1, h2⟩ := h
  refine ⟨out, ?_, h2⟩
  intro B W0 D0 dl M ι a W n Q r hs hr hp
  obtain ⟨M', ι', hM, hι, hs'⟩ := hk B W0 D0 dl M ι a W hs
  exact h1 B W0 D0 dl M' ι' a W n Q r hs' (hr.mono hι) (hp.step hM hι (List.suffix_refl _))
theorem rw_eqI {R : Type} {n m : Int} {S : Int → St} {A B : Option R} {r : R} (h : (if n = m then A else B) = some r) (h1 : n = m → A = some r → RW P rd base ops d i (S m) Φ) (h2 : n ≠ m → B = some r → RW P rd base ops d i (S n) Φ) : RW P rd base ops d i (S n) Φ := by
  by_cases e : n = m
  · have := h1 e (by simpa [e] using h); rw [e]; exact this
  · exact h2 e (by simpa [e] using h)
theorem orL {b c : Bool} (h : b = true) : (b || c) = true := by simp [h]
end
abbrev vI (n : Int) : AV := .int .i64 n
abbrev eI : Int → AV := AV.int .i64
abbrev vB (b : Bool) : AV := .bool b
abbrev oR {α : Type} (fl : Bool) (w : Nat) (enc : α → AV) (l : List α) : AObj := .row false false true fl w (l.map enc)
abbrev oX (nr fl : Bool) (w : Nat) (x : AV) : AObj := .row true false nr fl w [x]
def rgAt : Code → List Bool → Code
  | .seq a b, false :: r => rgAt a r
  | .seq a b, true :: r => rgAt b r
  | .cond _ a b, false :: r => rgAt a r
  | .cond _ a b, true :: r => rgAt b r
  | .block _ b, _ :: r => rgAt b r
  | .loop b, _ :: r => rgAt b r
  | .scope b, _ :: r => rgAt b r
  | .rangeFunc _ _ a b, false :: r => rgAt a r
  | .rangeFunc _ _ a b, true :: r => rgAt b r
  | c, _ => c
def cA (fn : Func) (w : List Bool) : Code := rgAt (fn.body.getD .skip) (w ++ [false])
def cB (fn : Func) (w : List Bool) : Code := rgAt (fn.body.getD .skip) (w ++ [true])
end Go.Ab
