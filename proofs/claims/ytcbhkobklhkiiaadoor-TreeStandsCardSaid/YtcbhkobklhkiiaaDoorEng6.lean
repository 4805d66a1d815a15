/- Rules on plain values. No conditions. -/
import Derived.Test.YtcbhkobklhkiiaaDoorEng5
import Derived.RowKit3
import Derived.ChangeSame
set_option linter.all false
namespace Go.Ab
open Go.RowKit
inductive LK where
 | keep | lst (fl:Bool) | emp
def LK.ap:LK→AV→AV
 | .keep,x=>x
 | .lst fl,x=>match x with
  | .nils | .emp=>.lst fl []
  | .lst f xs=>.lst (f && fl) xs
  | x=>x
 | .emp,x=>match x with
  | .nils=>.emp
  | x=>x
def Qcu:List LK→List AV→List AV
 | h::hs,x::xs=>h.ap x::Qcu hs xs
 | _,xs=>xs
def Qu (hs:List LK):AV→AV
 | .agg cs=>.agg (Qcu hs cs)
 | x=>match hs with
  | h::_=>h.ap x
  | []=>x
def Qgp:List (List LK)→List AV→List AV
 | h::hs,x::xs=>Qu h x::Qgp hs xs
 | _,xs=>xs
def Qek (hss:List (List LK)):AV→AV
 | .tup vs=>.tup (Qgp hss vs)
 | x=>match hss with
  | h::_=>Qu h x
  | []=>x
theorem LK.ap_rep {M:CM} {ι:Inj} {v:Value} {x:AV} (h:LK) (hr:Qa M ι v x):Qa M ι v (h.ap x):=by
 cases h with
 | keep=>exact hr
 | emp =>
  cases x <;> simp only [LK.ap] <;> first | exact hr | (cases hr; exact .emp _)
 | lst fl =>
  cases x with
  | nils=>cases hr; exact .lst0 _ _
  | emp=>cases hr; exact .lst0 _ _
  | lst f xs =>
   cases hr with
   | lst0=>exact .lst0 _ _
   | lst b off cap w _ _ g hcap hfl hc hM hr =>
    exact .lst b off cap w _ xs g hcap (fun h=>hfl (by simp at h; exact h.1)) hc hM hr
  | _=>exact hr
theorem LK.ap_cell (h:LK) (x:AV):(h.ap x).cell=x.cell:=by
 cases h <;> cases x <;> rfl
theorem LK.ap_sc (h:LK) {x:AV} (hs:x.sc=true):(h.ap x).sc=true:=by
 cases h <;> cases x <;> first | exact hs | rfl
theorem LK.ap_nr (h:LK) {x:AV} (hs:x.nr=true):(h.ap x).nr=true:=by
 cases h <;> cases x <;> first | exact hs | rfl
theorem Qgc:∀(hs:List LK) (xs:List AV),(Qcu hs xs).length=xs.length
 | [],xs=>by cases xs <;> rfl
 | h::hs,[]=>rfl
 | h::hs,x::xs=>by simp [Qcu,Qgc hs xs]
theorem Qhg : ∀(hs:List LK) (xs:List AV) (j:Nat) (y:AV),(Qcu hs xs)[j]?=some y→∃h x,xs[j]?=some x∧y=LK.ap h x
 | [],xs,j,y,hj=>⟨.keep,y,by cases xs <;> simpa [Qcu] using hj,rfl⟩
 | h::hs,[],j,y,hj=>by simp [Qcu] at hj
 | h::hs,x::xs,0,y,hj=>by simp only [Qcu,List.getElem?_cons_zero,Option.some.injEq] at hj; exact ⟨h,x,rfl,hj.symm⟩
 | h::hs,x::xs,j+1,y,hj=>by
  simp only [Qcu,List.getElem?_cons_succ] at hj
  obtain ⟨h',x',e1,e2⟩:=Qhg hs xs j y hj
  exact ⟨h',x',by simpa using e1,e2⟩
theorem Qhz {hs:List LK} {xs:List AV} {y:AV} (hy:y∈Qcu hs xs):∃h x,x∈xs∧y=LK.ap h x:=by
 obtain ⟨j,hj,rfl⟩:=List.mem_iff_getElem.1 hy
 obtain ⟨h,x,e1,e2⟩:=Qhg hs xs j _ (List.getElem?_eq_getElem hj)
 exact ⟨h,x,List.mem_of_getElem? e1,e2⟩
theorem Qc6 {M:CM} {ι:Inj} {v:Value} {x:AV} (hs:List LK) (hr:Qa M ι v x):Qa M ι v (Qu hs x):=by
 cases x
 case agg cs =>
  simp only [Qu]
  cases hr with
  | agg cs' _ h hc hr =>
   refine .agg cs' _ (by rw [Qgc]; exact h) (fun y hy=>?_) (fun j v y hv hy=>?_)
   ·obtain ⟨h',x,hx,rfl⟩:=Qhz hy; rw [LK.ap_cell]; exact hc x hx
   ·obtain ⟨h',x,hx,rfl⟩:=Qhg hs cs j y hy; exact LK.ap_rep h' (hr j v x hv hx)
 all_goals (cases hs <;> simp only [Qu] <;> first | exact hr | exact LK.ap_rep _ hr)
theorem Qos : ∀(hs:List (List LK)) (xs:List AV) (j:Nat) (y:AV),(Qgp hs xs)[j]?=some y→∃h x,xs[j]?=some x∧y=Qu h x
 | [],xs,j,y,hj=>⟨[],y,by cases xs <;> simpa [Qgp] using hj,by cases y <;> rfl⟩
 | h::hs,[],j,y,hj=>by simp [Qgp] at hj
 | h::hs,x::xs,0,y,hj=>by simp only [Qgp,List.getElem?_cons_zero,Option.some.injEq] at hj; exact ⟨h,x,rfl,hj.symm⟩
 | h::hs,x::xs,j+1,y,hj=>by
  simp only [Qgp,List.getElem?_cons_succ] at hj
  obtain ⟨h',x',e1,e2⟩:=Qos hs xs j y hj
  exact ⟨h',x',by simpa using e1,e2⟩
theorem Qgm:∀(hs:List (List LK)) (xs:List AV),(Qgp hs xs).length=xs.length
 | [],xs=>by cases xs <;> rfl
 | h::hs,[]=>rfl
 | h::hs,x::xs=>by simp [Qgp,Qgm hs xs]
theorem Qsu {M:CM} {ι:Inj} {v:Value} {x:AV} (hs:List (List LK)) (hr:Qa M ι v x):Qa M ι v (Qek hs x):=by
 cases x
 case tup vs =>
  simp only [Qek]
  cases hr with
  | tup vs' _ h hr =>
   refine .tup vs' _ (by rw [Qgm]; exact h) (fun j v y hv hy=>?_)
   obtain ⟨h',x,hx,rfl⟩:=Qos hs vs j y hy; exact Qc6 h' (hr j v x hv hx)
 all_goals (cases hs <;> simp only [Qek] <;> first | exact hr | exact Qc6 _ hr)
theorem Qcb (hs:List LK) {x:AV} (hx:x=.agg x.flat ∨ x.cell=true):∃hs',(Qu hs x).flat = Qcu hs' x.flat ∧ (Qu hs x=.agg (Qu hs x).flat ∨ (Qu hs x).cell=true):=by
 rcases hx with e | e
 ·generalize hf:x.flat = cs at e
  subst e
  exact ⟨hs,rfl,.inl rfl⟩
 ·have hf:=AV.flat_cell e
  rw [hf]
  cases hs with
  | nil=>exact ⟨[],by cases x <;> simp_all [Qu,Qcu,AV.cell,AV.flat],.inr (by cases x <;> simp_all [Qu,AV.cell])⟩
  | cons h r =>
   have hl:Qu (h::r) x=h.ap x:=by cases x <;> simp_all [Qu,AV.cell]
   have hc:(h.ap x).cell=true:=by rw [LK.ap_cell]; exact e
   exact ⟨[h],by rw [hl,AV.flat_cell hc]; rfl,.inr (by rw [hl]; exact hc)⟩
theorem Qhb (hs:List LK) {x:AV} {w:Nat} (h:x.shaped w):(Qu hs x).shaped w:=by
 obtain ⟨hs',e1,e2⟩:=Qcb hs h.form
 refine ⟨e2,by rw [e1,Qgc]; exact h.len,fun y hy=>?_⟩
 rw [e1] at hy
 obtain ⟨h',z,hz,rfl⟩:=Qhz hy
 rw [LK.ap_cell]; exact h.cells z hz
theorem Qvf (hs:List LK) {x:AV} (h:x.nr=true):(Qu hs x).nr=true:=by
 cases x
 case agg cs =>
  simp only [Qu,AV.nr,Qr] at h ⊢
  intro y hy
  obtain ⟨h',z,hz,rfl⟩:=Qhz hy
  exact LK.ap_nr h' (h z hz)
 all_goals (cases hs <;> simp only [Qu] <;> first | exact h | exact LK.ap_nr _ h)
theorem Qsz (hs:List LK) {x:AV} {w:Nat} (hx:x.shaped w) (h:x.scs=true):(Qu hs x).scs=true:=by
 obtain ⟨hs',e1,e2⟩:=Qcb hs hx.form
 rw [Qbf] at *
 rw [e1]
 intro y hy
 obtain ⟨h',z,hz,rfl⟩:=Qhz hy
 exact LK.ap_sc h' (h z hz)
section
variable {P:Program} {B:Nat} {W0 W:World} {D:List Nat} {M:CM} {ι:Inj} {σ:Sto}
theorem Rel.lessRow (h:Rel P B W0 D M ι σ W) {o:Nat} {bx ro nr fl nr' fl':Bool} {w:Nat} {xs xs':List AV} (hσ:σ o=some (.row bx ro nr fl w xs)) (hl:xs'.length=xs.length)
  (hx:∀(i:Nat) (x x':AV),xs[i]?=some x→xs'[i]?=some x'→∃hs,x'=Qu hs x) (hnr:nr'=true→AV.nrL xs'=true) (hfl:fl'=true→∀x∈xs',AV.scs x=true) :
  Rel P B W0 D M ι (σ.put o (.row bx ro nr' fl' w xs')) W:=by
 obtain ⟨p0,hp0,hrow⟩:=h.row o bx ro nr fl w xs hσ
 have hat : ∀(i:Nat) (x':AV),xs'[i]?=some x'→∃x hs,xs[i]?=some x∧x'=Qu hs x:=fun i x' hi=>by
  have hlt:i < xs.length:=by rw [←hl]; exact (List.getElem?_eq_some_iff.1 hi).1
  obtain ⟨hs,e⟩:=hx i _ x' (List.getElem?_eq_getElem hlt) hi
  exact ⟨_,hs,List.getElem?_eq_getElem hlt,e⟩
 have hcell:∀(i j:Nat) (x' y':AV),xs'[i]?=some x'→x'.flat[j]?=some y'→∃x y,xs[i]?=some x∧x.flat[j]?=some y∧∃hk,y'=LK.ap hk y:=fun i j x' y' hi hj=>by
  obtain ⟨x,hs,e1,rfl⟩:=hat i x' hi
  obtain ⟨hs',e2,_⟩:=Qcb hs (hrow.shaped x (List.mem_of_getElem? e1)).form
  rw [e2] at hj
  obtain ⟨hk,y,e3,e4⟩:=Qhg hs' _ j y' hj
  exact ⟨x,y,e1,e3,hk,e4⟩
 refine ⟨h.size,h.below,h.defs,h.agree,fun k bx1 nr1 fl1 w1 xs1 q j hk hq hj=>?_,?_,?_,?_,?_,?_⟩
 ·by_cases e:k=o
  ·subst e; rw [Sto.put_same] at hk; cases hk; exact h.cool _ _ _ _ _ _ _ _ hσ hq hj
  ·rw [Sto.put_ne _ _ e] at hk; exact h.cool _ _ _ _ _ _ _ _ hk hq hj
 ·intro k bx1 ro1 nr1 fl1 w1 xs1 hk
  by_cases e:k=o
  ·subst e
   rw [Sto.put_same] at hk
   cases hk
   refine ⟨p0,hp0,⟨hrow.pw,hrow.pos,hrow.cpos,by rw [hl]; exact hrow.len,fun x' hx'=>?_,hnr,hfl,fun i j x' y' hi hj=>?_,hrow.own,fun hro i j x' y' hi hj=>?_⟩⟩
   ·obtain ⟨i,hi,rfl⟩:=List.mem_iff_getElem.1 hx'
    obtain ⟨x,hs,e1,e2⟩:=hat i _ (List.getElem?_eq_getElem hi)
    rw [e2]; exact Qhb hs (hrow.shaped x (List.mem_of_getElem? e1))
   ·obtain ⟨x,y,e1,e2,hk,rfl⟩:=hcell i j x' y' hi hj
    obtain ⟨v,hv,hr⟩:=hrow.cells i j x y e1 e2
    exact ⟨v,hv,LK.ap_rep hk hr⟩
   ·obtain ⟨x,y,e1,e2,hk,rfl⟩:=hcell i j x' y' hi hj
    obtain ⟨v,hv,hr⟩:=hrow.imm hro i j x y e1 e2
    exact ⟨v,hv,LK.ap_rep hk hr⟩
  ·rw [Sto.put_ne _ _ e] at hk
   exact h.row k bx1 ro1 nr1 fl1 w1 xs1 hk
 ·intro k fn sl ps as bd st pe hk
  have e:k≠o:=fun e=>by subst e; rw [Sto.put_same] at hk; cases hk
  rw [Sto.put_ne _ _ e] at hk
  exact h.loop k fn sl ps as bd st pe hk
 ·intro k k' bx1 nr1 fl1 w1 xs1 bx2 nr2 fl2 w2 xs2 q q' hkk h1 h2 hq hq'
  have g:∀k bx1 nr1 fl1 w1 xs1,σ.put o (.row bx ro nr' fl' w xs') k=some (.row bx1 false nr1 fl1 w1 xs1)→∃bx nr fl w xs,σ k=some (.row bx false nr fl w xs):=fun k bx1 nr1 fl1 w1 xs1 hk=>by
   by_cases e:k=o
   ·subst e; rw [Sto.put_same] at hk; cases hk; exact ⟨_,_,_,_,_,hσ⟩
   ·rw [Sto.put_ne _ _ e] at hk; exact ⟨_,_,_,_,_,hk⟩
  obtain ⟨_,_,_,_,_,g1⟩:=g _ _ _ _ _ _ h1
  obtain ⟨_,_,_,_,_,g2⟩:=g _ _ _ _ _ _ h2
  exact h.apart _ _ _ _ _ _ _ _ _ _ _ _ _ _ hkk g1 g2 hq hq'
 ·intro k k' fn sl ps as bd st pe fn' sl' ps' as' bd' st' pe' q q' hkk h1 h2 hq hq'
  have e:k≠o:=fun e=>by subst e; rw [Sto.put_same] at h1; cases h1
  have e':k'≠o:=fun e=>by subst e; rw [Sto.put_same] at h2; cases h2
  rw [Sto.put_ne _ _ e] at h1; rw [Sto.put_ne _ _ e'] at h2
  exact h.loops _ _ _ _ _ _ _ _ _ _ _ _ _ _ _ _ _ _ hkk h1 h2 hq hq'
 ·intro k hk
  have e:k≠o:=fun e=>by subst e; rw [hp0] at hk; cases hk
  rw [Sto.put_ne _ _ e]; exact h.used k hk
def Yc (hs:List LK) (b:Bool):List (Nat × AObj)→List (Nat × AObj)
 | []=>[]
 | (o,x)::es=>match es with
  | []=>match x with
   | .row bx ro nr fl w xs=>[(o,.row bx ro nr (b && fl) w (xs.map (Qu hs)))]
   | x=>[(o,x)]
  | _=>(o,x)::Yc hs b es
theorem Rel.lessEff (hs:List LK) (b:Bool):∀(es:List (Nat × AObj)) (σ:Sto),Rel P B W0 D M ι (σ.puts es) W→Rel P B W0 D M ι (σ.puts (Yc hs b es)) W
 | [],σ,h=>h
 | (o,x)::es,σ,h=>by
  cases es with
  | cons e es=>exact Rel.lessEff hs b (e::es) (σ.put o x) h
  | nil =>
   cases x with
   | row bx ro nr fl w xs =>
    have h':Rel P B W0 D M ι (σ.put o (.row bx ro nr fl w xs)) W:=h
    obtain ⟨p,hp,hrow⟩:=h'.row o bx ro nr fl w xs (Sto.put_same _ _ _)
    have:=h'.lessRow (xs':=xs.map (Qu hs)) (nr':=nr) (fl':=b && fl) (Sto.put_same _ _ _) (by simp) (fun i x x' hi hi'=>⟨hs,by simp [hi] at hi'; exact hi'.symm⟩)
     (fun hn=>by
      rw [Qr]; intro y hy
      simp only [List.mem_map] at hy
      obtain ⟨z,hz,rfl⟩:=hy
      exact Qvf hs (Qr.1 (hrow.nr hn) z hz))
     (fun hf y hy=>by
      simp only [List.mem_map] at hy
      obtain ⟨z,hz,rfl⟩:=hy
      exact Qsz hs (hrow.shaped z hz) (hrow.fl (by simp at hf; exact hf.2) z hz))
    have e:∀(σ:Sto) (x y:AObj),(σ.put o x).put o y=σ.put o y:=fun σ x y=>by
     funext k; by_cases e:k=o <;> simp [Sto.put,e]
    rw [e] at this
    exact this
   | loop=>exact h
   | dead=>exact h
   | fam=>exact h
   | refs=>exact h
theorem Qi0 (hs:List LK) (b:Bool):∀(es:List (Nat × AObj)),(Yc hs b es).map (·.1)=es.map (·.1)
 | []=>rfl
 | (o,x)::es=>by
  cases es with
  | cons e es=>simp only [Yc,List.map_cons]; congr 1; exact Qi0 hs b (e::es)
  | nil=>cases x <;> rfl
end
section
variable {P:Program} {rd:Option Nat} {base:Nat} {ops:Array Oper} {st st1 st' S:St} {o:Oper} {F:Foot} {out:AOut} {Φ:AOut→Prop} {d:Option (List Sk)} {i:Nat} {nf:Bool} {s:Slots} {σ:Sto} {c:Code}
theorem Qw3 (hv he:List LK) (b:Bool) (h:YlL P ops o F s σ):YlL P ops o ⟨F.v.map (Qu hv),Yc he b F.eff,F.fr,F.fr',F.rd⟩ s σ:=by
 intro s' σ' hs hσ
 rcases h s' σ' hs hσ with ⟨hw,hd⟩ | ⟨hw,h1,h2⟩
 ·refine .inl ⟨hw,?_⟩
  intro B W0 D M ι a W n Q r next hrel hsl hfree hpost
  refine hd B W0 D M ι a W n Q r next hrel hsl hfree (fun v W' M' ι' g1 g2 g3 g4 g5=>hpost v W' M' ι' g1 g2 g3 (Rel.lessEff he b _ _ g4) (fun x hx=>?_))
  simp only [Option.map_eq_some_iff] at hx
  obtain ⟨y,hy,rfl⟩:=hx
  exact Qc6 hv (g5 y hy)
 ·exact .inr ⟨hw,by simp only [h1,Option.map_some]; cases hv <;> (try rename_i x _; cases x) <;> rfl,by simp [h2,Yc]⟩
theorem Qrw {v:Option AV} {eff:List (Nat × AObj)} {fr:Nat} {rds:List Nat} (hv he:List LK) (b:Bool) {C:FuncId→List AV→Option Xd} (hC:Qil P C) (ho:Z9 ops i st=some o) (hev:Zu P nf C st.sto st.objs.length (lk st.slots) o=some (.val ⟨v,eff,fr,rds⟩))
  (hS:Zz ops i st (v.map (Qu hv)) (Yc he b eff)=some S) (hl:S.objs.length=fr) (k:RW P rd base ops (Qz d [(eff.map (·.1),rds)]) (i+1) S Φ):RW P rd base ops d i st Φ:=by
 obtain ⟨h1,h2⟩:=Yb ho
 unfold Zz at hS
 rw [h1] at hS
 simp only at hS
 split at hS
 ·rename_i objs slots ha hp
  cases hS
  refine Qaj (s:=(eff.map (·.1),rds)) ⟨o,⟨v.map (Qu hv),Yc he b eff,st.objs.length,fr,rds⟩,h1,Ql7 ?_ rfl hl.symm ha hp rfl,Qrp (by simp [Foot.sk,Qi0])⟩ k
  exact Qw3 hv he b (Qsj hC h2 hev)
 ·cases hS
noncomputable def Qwa (P:Program) (nf:Bool) (ops:Array Oper) (i:Nat) (st:St) (hv he:List LK) (b:Bool):Option St :=
 match Z9 ops i st with
 | some o=>match Zu P nf noC st.sto st.objs.length (lk st.slots) o with
  | some (.val ⟨v,eff,fr,rd⟩)=>match Zz ops i st (v.map (Qu hv)) (Yc he b eff) with
   | some S=>if Nat.beq S.objs.length fr then some S else none
   | none=>none
  | _=>none
 | none=>none
noncomputable def Qru (P:Program) (nf:Bool) (ops:Array Oper) (i:Nat) (st:St):Sk :=
 match Z9 ops i st with
 | some o=>match Zu P nf noC st.sto st.objs.length (lk st.slots) o with
  | some (.val ⟨v,eff,fr,rd⟩)=>(eff.map (·.1),rd)
  | _=>([],[])
 | none=>([],[])
theorem sgL (nf:Bool) (hv he:List LK) (b:Bool) (h:Qwa P nf ops i st hv he b=some S) (k:RW P rd base ops (Qz d [Qru P nf ops i st]) (i+1) S Φ):RW P rd base ops d i st Φ:=by
 unfold Qwa at h
 unfold Qru at k
 split at h
 ·rename_i o ho
  rw [ho] at k
  simp only at k
  split at h
  ·rename_i v eff fr rds hev
   rw [hev] at k
   split at h
   ·rename_i S' hS
    split at h
    ·rename_i hl
     cases h
     exact Qrw hv he b K6 ho hev hS (Nat.eq_of_beq_eq_true hl) k
    ·cases h
   ·cases h
  ·cases h
 ·cases h
theorem mkL {α R:Type} {enc:α→AV} {z:α} {z0:AV} {n m:Int} {w bytes:Nat} {A:Option R} {r:R} (he:List LK) (b:Bool) (hi:Qxp P ops i st=some (n,m,z0,w,bytes)) (hz0:Qu he z0=enc z)
  (hS:Zz ops i st (some (.ref st.objs.length 0 (List.replicate n.toNat z).length)) [(st.objs.length,.row false false z0.nr (b && z0.scs) w ((List.replicate n.toNat z).map enc))]=some S) (hl:Nat.beq S.objs.length (st.objs.length+1)=true)
  (h:(if 0≤n∧n≤m∧m*bytes≤140737488355328 then A else none)=some r) (k:A=some r→RW P rd base ops (Qz d [([st.objs.length],[])]) (i+1) S Φ):RW P rd base ops d i st Φ:=by
 split at h
 ·rename_i hc
  obtain ⟨c1,c2,c3⟩:=hc
  unfold Qxp at hi
  split at hi
  ·rename_i o ho
   split at hi
   ·rename_i t x y hop
    split at hi
    ·rename_i T k1 n' k2 m' hT hx hy
     split at hi
     ·rename_i e hk
      split at hi
      ·rename_i E hE
       split at hi
       ·rename_i z1 hz
        split at hi
        ·rename_i hb
         simp only [Bool.and_eq_true] at hb
         simp only [Option.some.injEq,Prod.mk.injEq] at hi
         obtain ⟨rfl,rfl,rfl,rfl,rfl⟩:=hi
         refine Qrw (nf:=false) (v:=some (.ref st.objs.length 0 (List.replicate n'.toNat z1).length)) (eff:=[(st.objs.length,.row false false z1.nr z1.scs E.size (List.replicate n'.toNat z1))]) (fr:=st.objs.length+1) (rds:=[]) [] he b K6 ho ?_ ?_ (Nat.eq_of_beq_eq_true hl) (by simpa using k h)
         ·have hb0:=Yp hb.2
          have g1:¬ n' < 0:=by omega
          have g2:¬ m' < 0:=by omega
          have c3':m'.toNat * E.bytes≤140737488355328:=by
           have:((m'.toNat * E.bytes:Nat):Int)≤140737488355328:=by
            rw [Int.natCast_mul,Int.toNat_of_nonneg (by omega)]; exact c3
           omega
          have g3:=Qh6 hb0 c3'
          have g4:Nat.ble n'.toNat m'.toNat = true:=J4 (by omega)
          have g5:Nat.ble m'.toNat 9223372036854775807=true:=by
           refine J4 ?_
           have:=Nat.le_mul_of_pos_right m'.toNat hb0
           omega
          have g6:=hb.1.1
          have g7:=hb.1.2
          unfold Zu
          rw [hop]
          simp only [Xu,Bool.false_eq_true,if_false]
          unfold evalOp
          rw [hop]
          simp only [hT,hx,hy,hk,asN,g1,g2,if_false,hE,hz,g3,g4,g5,g6,g7,Bool.and_self,if_true,Xk,List.length_replicate]
         ·have e1:(List.replicate n'.toNat z1).map (Qu he)=(List.replicate n'.toNat z).map enc:=by simp [List.map_replicate,hz0]
          have e2:(List.replicate n'.toNat z1).length=(List.replicate n'.toNat z).length:=by simp
          simp only [Yc,e1,e2,Option.map_some,Qu]
          exact hS
        ·cases hi
       ·cases hi
      ·cases hi
     ·cases hi
    ·cases hi
   ·cases hi
  ·cases hi
 ·cases h
def Wk (P:Program) (base:Nat) (st st':St):Prop :=
 ∀B W0 D0 dl M ι a W,Sim P B W0 D0 dl M ι st a W→∃M' ι',CM.Grow B M M'∧Inj.leB base ι ι'∧Sim P B W0 D0 dl M' ι' st' a W
theorem Qua:Wk P base st st:=fun B W0 D0 dl M ι a W h=>⟨M,ι,.refl _ _,.refl _ _,h⟩
theorem wk_trans (h1:Wk P base st st1) (h2:Wk P base st1 st'):Wk P base st st':=fun B W0 D0 dl M ι a W h=>by
 obtain ⟨M1,ι1,m1,e1,g1⟩:=h1 B W0 D0 dl M ι a W h
 obtain ⟨M2,ι2,m2,e2,g2⟩:=h2 B W0 D0 dl M1 ι1 a W g1
 exact ⟨M2,ι2,m1.trans m2,e1.trans e2,g2⟩
theorem wk_gc {live keep:List Nat} (hg:Qbp base live keep st=some st'):Wk P base st st':=fun B W0 D0 dl M ι a W h=>let ⟨ι',e,g⟩:=h.gc hg; ⟨M,ι',.refl _ _,e,g⟩
theorem exec_wk (hk:Wk P base st st') (h:Xf P rd base c st' out):Xf P rd base c st out:=by
 intro B W0 D0 dl M ι a W n Q r hs hr hp
 obtain ⟨M',ι',hM,hι,hs'⟩:=hk B W0 D0 dl M ι a W hs
 exact h B W0 D0 dl M' ι' a W n Q r hs' (hr.mono hι) (hp.step hM hι (List.suffix_refl _))
theorem loopX_wk (hk:Wk P base st st') (h:Qid P rd base c st' out):Qid P rd base c st out:=by
 obtain ⟨m,hm⟩:=h
 refine ⟨m,?_⟩
 intro B W0 D0 dl M ι a W n Q r hs hr hp
 obtain ⟨M',ι',hM,hι,hs'⟩:=hk B W0 D0 dl M ι a W hs
 exact hm B W0 D0 dl M' ι' a W n Q r hs' (hr.mono hι) (hp.step hM hι (List.suffix_refl _))
theorem Q0k (hk:Wk P base st st') (h:WP P rd base c st' Φ):WP P rd base c st Φ:=let ⟨o,h1,h2⟩:=h; ⟨o,exec_wk hk h1,h2⟩
theorem Qkf (hk:Wk P base st st') (h:LWP P rd base c st' Φ):LWP P rd base c st Φ:=let ⟨o,h1,h2⟩:=h; ⟨o,loopX_wk hk h1,h2⟩
theorem Sim.lt {B:Nat} {W0 W:World} {D0 dl:List Nat} {M:CM} {ι:Inj} {a:Act} {o:Nat} {x:AObj} (h:Sim P B W0 D0 dl M ι st a W) (ho:st.objs[o]?=some x):o < BIG:=Nat.lt_of_lt_of_le (List.getElem?_eq_some_iff.1 ho).1 h.big
theorem Qnq {objs:List AObj} {o:Nat} {x:AObj} (hb:o < BIG) (ho:objs[o]?=some x) (hx:x.isPlain=true):sto objs o=some x:=by rw [Xl hb,ho]; simp [J9 hx]
def Qmh:AV→Bool
 | .nils | .emp=>true
 | _=>false
theorem Qph {M:CM} {ι:Inj} {v:Value} {x:AV} (h:Qmh x=true) (hr:Qa M ι v x):∃a,v=.slice a 0 0:=by
 cases x <;> simp [Qmh] at h
 ·exact ⟨none,hr.nils_inv⟩
 ·exact hr.emp_inv
def Quc (t w:Nat) (nr fl:Bool) (st:St):Option St :=
 match lk st.slots t with
 | some x=>if Qmh x && Nat.blt 0 w && Nat.blt st.objs.length BIG then some ⟨setS st.slots t (.ref st.objs.length 0 0),st.objs++[.row false false nr fl w []],st.nt⟩ else none
 | none=>none
theorem Sim.virt {B:Nat} {W0 W:World} {D0 dl:List Nat} {M:CM} {ι:Inj} {a:Act} (h:Sim P B W0 D0 dl M ι st a W) (nr fl:Bool) {w:Nat} (hw:0 < w) (hb:st.objs.length < BIG) :
  ∃p,ι st.objs.length=none∧p.cap=0∧Sim P B W0 D0 dl M (ι.put st.objs.length p) ⟨st.slots,st.objs++[.row false false nr fl w []],st.nt⟩ a W:=by
 have hn:=h.new st.objs.length (InB.not (Nat.le_refl _) hb)
 refine ⟨⟨B,0,w,0⟩,hn,rfl,⟨?_,fun k y hk=>(h.slots k y hk).mono (CM.le_refl _) (Inj.le_put _ hn),h.nt,h.df,fun k hk=>?_,by simp; omega⟩⟩
 ·show Rel P B W0 (dl++D0) M _ (sto (st.objs++[_])) W
  rw [Qkx rfl hb]
  exact h.rel.virt hn hw
 ·have hk:¬ InB (st.objs.length+1) k:=by simpa using hk
  rw [Inj.put_ne _ _ (fun e=>hk (.inl (by omega)))]; exact h.new k (fun c=>hk (c.mono (Nat.le_succ _)))
theorem Vb (t w:Nat) (nr fl:Bool) (h:Quc t w nr fl st=some st'):Wk P base st st':=by
 unfold Quc at h
 split at h
 ·rename_i x hx
  split at h
  ·rename_i hc
   simp only [Bool.and_eq_true] at hc
   cases h
   intro B W0 D0 dl M ι a W hsim
   obtain ⟨p,hn,hp,hv⟩:=hsim.virt nr fl (Yp hc.1.2) (Yp hc.2)
   obtain ⟨ad,had⟩:=Qph hc.1.1 (hsim.slots t x hx)
   refine ⟨M,_,.refl _ _,(Inj.le_put p hn).leB base,⟨hv.rel,fun k y hk=>?_,hv.nt,hv.df,hv.new,hv.big⟩⟩
   have hk:lk (setS st.slots t (.ref st.objs.length 0 0)) k=some y:=hk
   rw [Qem] at hk
   split at hk
   ·rename_i e; cases hk; subst e; rw [had]; exact .ref0 _ _ _ (Inj.put_same _ _ _) hp
   ·exact hv.slots k y hk
  ·cases h
 ·cases h
def Qrj (o i c w:Nat) (nr fl:Bool) (st:St):Option St :=
 match st.objs[o]? with
 | some (.row bx false nr0 fl0 w0 xs)=>match xs[i]? with
  | some x=>match x.flat[c]? with
   | some y=>if Qmh y && Nat.blt 0 w && Nat.blt st.objs.length BIG then match Qf0 x c (.ref st.objs.length 0 0) with
     | some x'=>some ⟨st.slots,st.objs.set o (.row bx false false false w0 (xs.set i x'))++[.row false false nr fl w []],st.nt⟩
     | none=>none
    else none
   | none=>none
  | none=>none
 | _=>none
theorem Q5 (o i c w:Nat) (nr fl:Bool) (h:Qrj o i c w nr fl st=some st'):Wk P base st st':=by
 unfold Qrj at h
 split at h
 ·rename_i bx nr0 fl0 w0 xs ho
  split at h
  ·rename_i x hx
   split at h
   ·rename_i y hy
    split at h
    ·rename_i hc
     split at h
     ·rename_i x' hx'
      simp only [Bool.and_eq_true] at hc
      cases h
      intro B W0 D0 dl M ι a W hsim
      obtain ⟨p,hn,hp,hv⟩:=hsim.virt nr fl (Yp hc.1.2) (Yp hc.2)
      have hlt:=(List.getElem?_eq_some_iff.1 ho).1
      refine ⟨M,_,.refl _ _,(Inj.le_put p hn).leB base,⟨?_,hv.slots,hv.nt,hv.df,fun k hk=>hv.new k (by simpa using hk),by simpa using hv.big⟩⟩
      show Rel P B W0 (dl++D0) M _ (sto (st.objs.set o _++[_])) W
      have hob:=hsim.lt ho
      have ho1:(st.objs++[AObj.row false false nr fl w []])[o]?=some (.row bx false nr0 fl0 w0 xs):=by rw [List.getElem?_append_left hlt]; exact ho
      have hos:=Qnq hob ho1 rfl
      have e1:sto (st.objs.set o (.row bx false false false w0 (xs.set i x'))++[AObj.row false false nr fl w []])=Sto.put (sto (st.objs++[AObj.row false false nr fl w []])) o (.row bx false false false w0 (xs.set i x')):=by
       rw [←Qby ho1 rfl rfl hob,List.set_append_left _ _ hlt]
      rw [e1]
      have hrel:=hv.rel
      obtain ⟨q,hq,hrow⟩:=hrel.row o bx false nr0 fl0 w0 xs hos
      have hxm:=List.mem_of_getElem? hx
      obtain ⟨g1,g2,g3⟩:=Qgg hx' (hrow.shaped x hxm) ⟨.inr rfl,rfl,fun z hz=>by simp [AV.flat] at hz; subst hz; rfl⟩
      have hil:=(List.getElem?_eq_some_iff.1 hx).1
      have hcap:i*w0+w0≤q.cap*w0:=by
       have:(i+1)*w0≤q.cap*w0:=Nat.mul_le_mul_right _ (by have:=hrow.len; omega)
       rwa [Nat.succ_mul] at this
      have key:=hrel.write (bx':=bx) (nr':=false) (fl':=false) (xs':=xs.set i x') hos hq 0 [] (by simp) (by simpa using hrow.len)
       (fun z hz=>by
        rcases List.mem_or_eq_of_mem_set hz with hz | rfl
        ·exact hrow.shaped z hz
        ·exact g1) (by simp) (by simp)
       (fun k j z r hk hj hlo hhi=>by simp at hhi)
       (fun k j z r hk hj hout=>by
        by_cases e:k=i
        ·subst e
         rw [List.getElem?_set_self hil] at hk
         cases hk
         rcases g3 j r hj with ⟨b1,b2,b3⟩ | ⟨b1,b2⟩
         ·have hj0:j=c:=by simp [AV.flat] at b2; omega
          subst hj0
          simp [AV.flat] at b3
          subst b3
          obtain ⟨v,hv',hr⟩:=hrow.cells k j x y hx hy
          obtain ⟨ad,had⟩:=Qph hc.1.1 hr
          exact ⟨v,by rw [←Nat.add_assoc]; exact hv',by rw [had]; exact .ref0 _ _ _ (Inj.put_same _ _ _) hp⟩
         ·obtain ⟨v,hv',hr⟩:=hrow.cells k j x r hx b2
          exact ⟨v,by rw [←Nat.add_assoc]; exact hv',hr⟩
        ·rw [List.getElem?_set_ne (Ne.symm e)] at hk
         obtain ⟨v,hv',hr⟩:=hrow.cells k j z r hk hj
         exact ⟨v,by rw [←Nat.add_assoc]; exact hv',hr⟩)
      exact key
     ·cases h
    ·cases h
   ·cases h
  ·cases h
 ·cases h
noncomputable def Qrv (t:Nat) (y:AV) (ids:List Nat) (st:St):Option St :=
 match frz st.sto ids with
 | some es=>match Zj st.objs es with
  | some objs=>some ⟨setS st.slots t y,objs,st.nt⟩
  | none=>none
 | none=>none
theorem Q1m (t:Nat) {x y:AV} {ids:List Nat} (hx:lk st.slots t=some x) (hsn:Qn st.sto Qm x=some (y,ids)) (h:Qrv t y ids st=some st'):Wk P base st st':=by
 unfold Qrv at h
 split at h
 ·rename_i es hes
  split at h
  ·rename_i objs ha
   cases h
   intro B W0 D0 dl M ι a W hsim
   obtain ⟨p1,p2,p3⟩:=Vo _ _ _ ha
   have h':=Qbt hsim.rel hes
   have hg:=hsim.rel.growC ids
   refine ⟨_,ι,hg,.refl _ _,⟨?_,fun k z hk=>?_,hsim.nt,hsim.df,fun k hk=>hsim.new k (fun c=>hk (c.mono p2)),p3 hsim.big⟩⟩
   ·show Rel P B W0 (dl++D0) _ ι (sto objs) W
    rw [p1]; exact h'
   ·have hk:lk (setS st.slots t y) k=some z:=hk
    rw [Qem] at hk
    split at hk
    ·rename_i e; cases hk; subst e
     exact (Y9 hsim.rel ids Qm x y ids _ hsn (fun k hk=>hk) (hsim.slots _ x hx)).mono (CM.le_refl _) (Inj.noInj_le _)
    ·exact (hsim.slots k z hk).mono hg.le (Inj.le_refl _)
  ·cases h
 ·cases h
noncomputable def Qhe (o i:Nat) (y:AV) (ids:List Nat) (st:St):Option St :=
 match frz st.sto ids with
 | some es=>match Zj st.objs es with
  | some objs=>match objs[o]? with
   | some (.row bx false nr fl w xs)=>some ⟨st.slots,objs.set o (.row bx false false false w (xs.set i y)),st.nt⟩
   | _=>none
  | none=>none
 | none=>none
theorem Qsp (o i:Nat) {bx ro nr fl:Bool} {w:Nat} {xs:List AV} {x y:AV} {ids:List Nat} (ho:st.sto o=some (.row bx ro nr fl w xs)) (hx:xs[i]?=some x) (hno:Qbg ids o=false) (hsn:Qn st.sto Qm x=some (y,ids)) (h:Qhe o i y ids st=some st'):Wk P base st st':=by
 unfold Qhe at h
 split at h
 ·rename_i es hes
  split at h
  ·rename_i objs ha
   split at h
   ·rename_i bx' nr' fl' w' xs' ho'
    cases h
    intro B W0 D0 dl M ι a W hsim
    obtain ⟨p1,p2,p3⟩:=Vo _ _ _ ha
    have h':=Qbt hsim.rel hes
    have hg:=hsim.rel.growC ids
    have hos':=Qnq (Nat.lt_of_lt_of_le (List.getElem?_eq_some_iff.1 ho').1 (p3 hsim.big)) ho' rfl
    have hob:o < BIG:=Nat.lt_of_lt_of_le (List.getElem?_eq_some_iff.1 ho').1 (p3 hsim.big)
    have hsame:sto objs o=sto st.objs o:=by
     have e1:sto objs o=Sto.puts st.sto es o:=congrFun p1 o
     rw [e1]
     exact Qfk hes (Qdm hno)
    have ho:sto st.objs o=some (.row bx ro nr fl w xs):=ho
    rw [hos',ho] at hsame
    cases hsame
    have hlt:=(List.getElem?_eq_some_iff.1 ho').1
    have h'':Rel P B W0 (dl++D0) (Zq M W (inC st.sto ι ids)) ι (sto objs) W:=by rw [p1]; exact h'
    obtain ⟨p,hp,hrow⟩:=h''.row o _ false nr fl w xs hos'
    have hxm:=List.mem_of_getElem? hx
    have hil:=(List.getElem?_eq_some_iff.1 hx).1
    obtain ⟨q1,q2⟩:=J0 hsn (hrow.shaped x hxm)
    refine ⟨_,ι,hg,.refl _ _,⟨?_,hsim.slots.mono hg.le (Inj.le_refl _),hsim.nt,hsim.df,fun k hk=>hsim.new k (fun c=>hk ((c.mono p2).mono (by simp))),by simpa using p3 hsim.big⟩⟩
    show Rel P B W0 (dl++D0) _ ι (sto (objs.set o _)) W
    rw [Qby ho' rfl rfl hob]
    refine h''.write (c0:=0) (vs:=[]) hos' hp (by simp) (by simpa using hrow.len) (fun z hz=>?_) (by simp) (by simp) (fun k j z r hk hj hlo hhi=>by simp at hhi) (fun k j z r hk hj hout=>?_)
    ·rcases List.mem_or_eq_of_mem_set hz with hz | rfl
     ·exact hrow.shaped z hz
     ·exact q1
    ·by_cases e:k=i
     ·subst e
      rw [List.getElem?_set_self hil] at hk
      cases hk
      obtain ⟨c,d',is,e1,e2,e3,e4⟩:=q2 j r hj
      obtain ⟨q,hq,hrow0⟩:=hsim.rel.row o bx false nr fl w xs ho
      rw [hp] at hq; cases hq
      obtain ⟨v,hv,hr⟩:=hrow0.cells k j x c hx e1
      exact ⟨v,by rw [←Nat.add_assoc]; exact hv,(Y9 hsim.rel ids d' c r is v e3 e4 hr).mono (CM.le_refl _) (Inj.noInj_le _)⟩
     ·rw [List.getElem?_set_ne (Ne.symm e)] at hk
      obtain ⟨v,hv,hr⟩:=hrow.cells k j z r hk hj
      exact ⟨v,by rw [←Nat.add_assoc]; exact hv,hr⟩
   ·cases h
  ·cases h
 ·cases h
end
end Go.Ab
namespace Go.Ab
open Go.RowKit
section
variable {P:Program} {rd:Option Nat} {base:Nat} {ops:Array Oper} {st st1 st' S:St} {o:Oper} {F:Foot} {out:AOut} {Φ Ψ:AOut→Prop} {d:Option (List Sk)} {i:Nat} {nf:Bool} {s:Slots} {σ:Sto} {c x y:Code}
theorem Z0 {α:Type} {enc:α→AV} {l:List α} {ob w n:Nat} {bx ro fl:Bool} (hrow:σ ob=some (.row bx ro true fl w (l.map enc))):Qn σ (n+1) (.ref ob 0 l.length)=some (.lst fl (l.map enc),[ob]):=by
 have:(l.map enc).take l.length=l.map enc:=List.take_of_length_le (by simp)
 simp [Qn,hrow,this]
theorem Jm {f:AV→Option (AV × List Nat)}:Qp f []=some ([],[]):=rfl
theorem Q2 {f:AV→Option (AV × List Nat)} {x y:AV} {xs ys:List AV} {a b c:List Nat} (h1:f x=some (y,a)) (h2:Qp f xs=some (ys,b)) (hc:a++b=c:=by rfl):Qp f (x::xs)=some (y::ys,c):=by
 subst hc; simp [Qp,h1,h2]
theorem Qbn {n:Nat} {cs ys:List AV} {ids:List Nat} (h:Qp (Qn σ n) cs=some (ys,ids)):Qn σ (n+1) (.agg cs)=some (.agg ys,ids):=by simp [Qn,h]
def Zh (ops:Array Oper) (i:Nat) (st:St):Option (FuncId × List AV) :=
 match Z9 ops i st with
 | some o=>match o.op with
  | .call { callee:=.value g,args,.. }=>match evo (lk st.slots) g,Jc (lk st.slots) args.toList with
   | some (.fn (.func f) first caps),some as=>some (f,first++as++caps)
   | _,_=>none
  | _=>none
 | none=>none
theorem Qa6 {f:FuncId} {as0:List AV} (h:Zh ops i st=some (f,as0)):∃o g args ts first caps as,Z9 ops i st=some o∧o.op=.call { callee:=.value g,args,argTypes:=ts }∧evo (lk st.slots) g=some (.fn (.func f) first caps) ∧
  Jc (lk st.slots) args.toList=some as∧as0=first++as++caps:=by
 unfold Zh at h
 split at h
 ·rename_i o ho
  split at h
  ·rename_i g args ts hop
   split at h
   ·rename_i f' first caps as hg has
    cases h
    exact ⟨o,g,args,ts,first,caps,as,ho,hop,hg,has,rfl⟩
   ·cases h
  ·cases h
 ·cases h
def Qdc (P:Program) (f:FuncId):Bool :=
 match P.funcs[f]? with
 | some fn=>fn.body.isSome && !(fn.name == "runtime.NumGoroutine")
 | none=>false
noncomputable def Qn5 (st:St) (ids:List Nat) (r:AV) (objs:List AObj):Option (List (Nat × AObj)) :=
 if objs.all AObj.okRow then
  if ids.isEmpty || (r.cls && objs.all AObj.flat) then some (Y7 st.objs.length st.objs.length objs)
  else match frz st.sto ids with
   | some es=>some (es++Y7 st.objs.length st.objs.length objs)
   | none=>none
 else none
noncomputable def Kv (ops:Array Oper) (i:Nat) (st:St) (ids:List Nat) (r:AV) (objs:List AObj):Option St :=
 match Qn5 st ids r objs with
 | some eff=>match Zz ops i st (some (r.shift st.objs.length)) eff with
  | some S=>if Nat.beq S.objs.length (st.objs.length+objs.length) then some S else none
  | none=>none
 | none=>none
noncomputable def Qfj (st:St) (ids:List Nat) (r:AV) (objs:List AObj):Sk:=(((Qn5 st ids r objs).getD []).map (·.1),ids)
open Classical in
noncomputable def Qug (f:FuncId) (as:List AV) (co:Xd):FuncId→List AV→Option Xd:=fun g bs=>if g=f∧bs=as then some co else none
theorem Qvn {f:FuncId} {as:List AV} {co:Xd} (h:Qy P f as co) (hb:Qdc P f=true):Qil P (Qug f as co):=by
 intro g bs out he
 unfold Qug at he
 split at he
 ·rename_i hc
  obtain ⟨rfl,rfl⟩:=hc
  cases he
  refine ⟨h,?_⟩
  unfold Qdc at hb
  split at hb
  ·rename_i fn hf
   simp only [Bool.and_eq_true,Bool.not_eq_true'] at hb
   exact ⟨fn,hf,hb.1,hb.2⟩
  ·cases hb
 ·cases he
theorem Qo0 {f:FuncId} {as0 us:List AV} {ids:List Nat} {rv:AV} {ro:List AObj} (hi:Zh ops i st=some (f,as0)) (hb:Qdc P f=true) (hsn:Qp (Qn st.sto Qm) as0=some (us,ids)) (hc:Qy P f us (.ret rv ro))
  (hS:Kv ops i st ids rv ro=some S) (k:RW P rd base ops (Qz d [Qfj st ids rv ro]) (i+1) S Φ):RW P rd base ops d i st Φ:=by
 obtain ⟨o,g,args,ts,first,caps,as1,ho,hop,hg,has,rfl⟩:=Qa6 hi
 unfold Kv at hS
 unfold Qfj at k
 split at hS
 ·rename_i eff heff
  rw [heff] at k
  split at hS
  ·rename_i S' hS'
   split at hS
   ·rename_i hl
    cases hS
    obtain ⟨h1,h2⟩:=Yb ho
    unfold Zz at hS'
    rw [h1] at hS'
    simp only at hS'
    split at hS'
    ·rename_i objs slots ha hp
     cases hS'
     refine Qaj (s:=(eff.map (·.1),ids)) ⟨o,⟨some (rv.shift st.objs.length),eff,st.objs.length,st.objs.length+ro.length,ids⟩,h1,?_,Qjs _⟩ (by simpa using k)
     refine Qin (nf:=false) (C:=Qug f us (.ret rv ro)) (Qvn hc hb) (res:=⟨some (rv.shift st.objs.length),eff,st.objs.length+ro.length,ids⟩) h2 ?_ ha hp (Nat.eq_of_beq_eq_true hl)
     unfold Zu
     rw [hop]
     simp only [Xu,if_true]
     unfold evalOp
     rw [hop]
     simp only [hg,has,Qeo,hsn,Qug,and_self,if_true]
     unfold Qn5 at heff
     split at heff
     ·rename_i hok
      rw [if_pos hok]
      split at heff
      ·rename_i hcl
       cases heff
       rw [if_pos hcl]
      ·rename_i hcl
       rw [if_neg hcl]
       split at heff
       ·rename_i es hes
        cases heff
        rw [hes]
       ·cases heff
     ·cases heff
    ·cases hS'
   ·cases hS
  ·cases hS
 ·cases hS
theorem Qp8 {α R:Type} {G:Option α} {K:α→Option R} {f:FuncId} {as0 us:List AV} {ids:List Nat} {rv:α→AV} {ro:α→List AObj} {S:α→St} {r:R} (hi:Zh ops i st=some (f,as0)) (hb:Qdc P f=true)
  (hsn:Qp (Qn st.sto Qm) as0=some (us,ids)) (hc:∀x,G=some x→Qy P f us (.ret (rv x) (ro x))) (hS:∀x,Kv ops i st ids (rv x) (ro x)=some (S x)) (h:G.bind K=some r)
  (k:∀x,G=some x→K x=some r→RW P rd base ops (Qz d [Qfj st ids (rv x) (ro x)]) (i+1) (S x) Φ):RW P rd base ops d i st Φ:=by
 cases hg:G with
 | none=>rw [hg] at h; cases h
 | some x=>rw [hg] at h; exact Qo0 hi hb hsn (hc x hg) (hS x) (k x hg h)
theorem Qy.args {f:FuncId} {us:List AV} {co:Xd} (hss:List (List LK)) (h:Qy P f (Qgp hss us) co):Qy P f us co:=by
 intro W M vs h1 h2 h3
 refine h W M vs h1 (by rw [Qgm]; exact h2) (fun j v y hv hy=>?_)
 obtain ⟨hs,z,hz,rfl⟩:=Qos hss us j y hy
 exact Qc6 hs (h3 j v z hv hz)
theorem Qy.res {f:FuncId} {us:List AV} {r:AV} {objs:List AObj} (hss:List (List LK)) (h:Qy P f us (.ret r objs)):Qy P f us (.ret (Qek hss r) objs):=by
 intro W M vs h1 h2 h3
 refine (h W M vs h1 h2 h3).mono fun e w he=>?_
 obtain ⟨v,M',ι',g1,g2,g3,g4,g5⟩:=he
 exact ⟨v,M',ι',g1,g2,g3,g4,Qsu hss g5⟩
def Qr3 (P:Program) (ops:Array Oper) (i:Nat) (st:St):Option (List (Nat × AV)) :=
 match Z9 ops i st with
 | some o=>match o.op with
  | .buildSlice _ _ ps=>Kj (lk st.slots) ps.toList
  | _=>none
 | none=>none
noncomputable def Qzi (P:Program) (ops:Array Oper) (i:Nat) (st:St) (he:List LK) (b:Bool) (parts:List (Nat × AV)) (ids:List Nat):Option (St × List (Nat × AObj)) :=
 match Z9 ops i st with
 | some o=>match o.op with
  | .buildSlice t n _=>match ti P t with
   | some T=>match T.kind with
    | .slice e=>match ti P e with
     | some E=>if n=0 then none else match E.zero with
      | some z=>if Nat.beq z.flat.length E.size && Nat.blt 0 E.size && Nat.ble (n*E.size) 16777216 then
        match Qbs E.size (List.replicate n z) parts,frz st.sto ids with
        | some xs,some es=>match Zz ops i st (some (.ref st.objs.length 0 n)) (es++[(st.objs.length,.row false false (AV.nrL xs) (b && xs.all AV.scs) E.size (xs.map (Qu he)))]) with
         | some S=>if Nat.beq S.objs.length (st.objs.length+1) then some (S,es++[(st.objs.length,.row false false (AV.nrL xs) (xs.all AV.scs) E.size xs)]) else none
         | none=>none
        | _,_=>none
       else none
      | none=>none
     | none=>none
    | _=>none
   | none=>none
  | _=>none
 | none=>none
theorem Qoy (he:List LK) (b:Bool) (es:List (Nat × AObj)) (o:Nat) (bx ro nr fl:Bool) (w:Nat) (xs:List AV):Yc he b (es++[(o,.row bx ro nr fl w xs)])=es++[(o,.row bx ro nr (b && fl) w (xs.map (Qu he)))]:=by
 induction es with
 | nil=>rfl
 | cons e es ih =>
  obtain ⟨o',x⟩:=e
  cases es with
  | nil=>simp [Yc]
  | cons e' es=>simp only [List.cons_append,Yc] at ih ⊢; rw [ih]
theorem bsR {parts0 parts:List (Nat × AV)} {ids:List Nat} {es:List (Nat × AObj)} (he:List LK) (b:Bool) (hi:Qr3 P ops i st=some parts0) (hsn:Zv st.sto parts0=some (parts,ids)) (hS:Qzi P ops i st he b parts ids=some (S,es))
  (k:RW P rd base ops (Qz d [(es.map (·.1),ids)]) (i+1) S Φ):RW P rd base ops d i st Φ:=by
 unfold Qr3 at hi
 unfold Qzi at hS
 split at hi
 ·rename_i o ho
  rw [ho] at hS
  simp only at hS
  split at hi
  ·rename_i t n ps hop
   rw [hop] at hS
   simp only at hS
   split at hS
   ·rename_i T hT
    split at hS
    ·rename_i e hk
     split at hS
     ·rename_i E hE
      split at hS
      ·cases hS
      ·rename_i hn
       split at hS
       ·rename_i z hz
        split at hS
        ·rename_i hc
         split at hS
         ·rename_i xs es' hxs hes
          split at hS
          ·rename_i S' hS'
           split at hS
           ·rename_i hl
            cases hS
            refine Qrw (nf:=false) (v:=some (.ref st.objs.length 0 n)) (eff:=es'++[(st.objs.length,.row false false (AV.nrL xs) (xs.all AV.scs) E.size xs)]) (fr:=st.objs.length+1) (rds:=ids) [] he b K6 ho ?_
             (by rw [Qoy]; exact hS') (Nat.eq_of_beq_eq_true hl) k
            unfold Zu
            rw [hop]
            simp only [Xu,Bool.false_eq_true,if_false]
            unfold evalOp
            rw [hop]
            simp only [hT,hk,hE,hi,hn,if_false,hz,hsn,Bool.false_eq_true,hc,if_true,hxs,hes,Xk]
           ·cases hS
          ·cases hS
         ·cases hS
        ·cases hS
       ·cases hS
     ·cases hS
    ·cases hS
   ·cases hS
  ·cases hi
 ·cases hi
theorem Qs2 {j:Nat} {x:AV} {r ys:List (Nat × AV)} {b:List Nat} (hx:x.nr=true) (h:Zv σ r=some (ys,b)):Zv σ ((j,x)::r)=some ((j,x)::ys,b):=by simp [Zv,hx,h]
theorem Qs4 {j:Nat} {x y:AV} {r ys:List (Nat × AV)} {a b c:List Nat} (hx:x.nr=false) (h1:Qn σ Qm x=some (y,a)) (h:Zv σ r=some (ys,b)) (hc:a++b=c):Zv σ ((j,x)::r)=some ((j,y)::ys,c):=by subst hc; simp [Zv,hx,h1,h]
theorem Q3p {R:Type} {b:Bool} {S:Bool→St} {A B:Option R} {r:R} (h:(if b=true then A else B)=some r) (h1:b=true→A=some r→RW P rd base ops d i (S true) Φ) (h2:b=false→B=some r→RW P rd base ops d i (S false) Φ):RW P rd base ops d i (S b) Φ:=by
 cases b
 ·exact h2 rfl (by simpa using h)
 ·exact h1 rfl (by simpa using h)
theorem Q3u {R:Type} {b:Bool} {S:Bool→St} {A B:Option R} {r:R} (h:(if b=true then A else B)=some r) (h1:b=true→A=some r→WP P rd base c (S true) Φ) (h2:b=false→B=some r→WP P rd base c (S false) Φ):WP P rd base c (S b) Φ:=by
 cases b
 ·exact h2 rfl (by simpa using h)
 ·exact h1 rfl (by simpa using h)
theorem Q1y {n m:Nat} {S:Nat → St} (hb:n=m) (h:RW P rd base ops d i (S m) Φ):RW P rd base ops d i (S n) Φ:=by rw [hb]; exact h
theorem ne_eq {a b:Int} {c:Bool} (h:(a != b)=c):(a==b)=!c:=by rw [←h]; simp [bne]
theorem Qqt {op:Operand} (he:evo (lk st.slots) op=some (.bool true)) (h:WP P rd base x st Φ):WP P rd base (.cond op x y) st Φ:=Qts he (fun _=>h) (fun e=>by cases e)
theorem Qq2 {op:Operand} (he:evo (lk st.slots) op=some (.bool false)) (h:WP P rd base y st Φ):WP P rd base (.cond op x y) st Φ:=Qts he (fun e=>by cases e) (fun _=>h)
def Qe3 {σ ρ:Type} (P:Program) (base:Nat) (I:σ→St) (Ex:ρ→AOut→Prop) (o:Ql σ ρ) (out:AOut):Prop :=
 match o with
 | .next s=>∃st1,out=.go .normal st1∧Wk P base st1 (I s)
 | .done x=>Ex x out∧out.normal=false
theorem Qo7 {σ ρ:Type} {body:σ→Option (Ql σ ρ)} {I:σ→St} {Ex:ρ→AOut→Prop} (round:∀s o,body s=some o→WP P rd base c (I s) (Qe3 P base I Ex o)) :
  ∀(n:Nat) (s:σ) (x:ρ),Qb n body s=some x→LWP P rd base c (I s) (Ex x)
 | 0,s,x,h=>by cases h
 | n+1,s,x,h=>by
  simp only [Qb] at h
  split at h
  ·rename_i s' hb
   refine Qfg ((round s _ hb).mono fun out ho=>?_)
   obtain ⟨st1,rfl,hw⟩:=ho
   exact Qkf hw (Qo7 round n s' x h)
  ·rename_i x' hb
   cases h
   refine Qfg ((round s _ hb).mono fun out ho=>?_)
   obtain ⟨h1,h2⟩:=ho
   cases out with
   | pan v=>exact h1
   | go e st1=>cases e <;> first | exact h1 | simp [AOut.normal] at h2
  ·cases h
theorem Qsm {σ ρ R:Type} {n:Nat} {body:σ→Option (Ql σ ρ)} {I:σ→St} {Ex:ρ→AOut→Prop} {K:ρ→Option R} {r:R} (s0:σ) (hw:Wk P base st (I s0)) (h:(Qb n body s0).bind K=some r)
  (round:∀s o,body s=some o→WP P rd base c (I s) (Qe3 P base I Ex o)) (k:∀x,K x=some r→∀out,Ex x out→Φ out):WP P rd base (.loop c) st Φ:=by
 cases hx:Qb n body s0 with
 | none=>rw [hx] at h; cases h
 | some x =>
  rw [hx] at h
  obtain ⟨out,h1,h2⟩:=Qkf hw (Qo7 round n s0 x hx)
  exact Quf ⟨out,h1,k x h out h2⟩
noncomputable def Qne (P:Program) (fn:Func) (hss:List (List LK)):AOut→Option (AV × List AObj)
 | .go e st'=>if e.ends then match resultA P fn st' with
   | some x=>match Qg6 st' x with
    | some (.ret r objs)=>some (Qek hss r,objs)
    | _=>none
   | none=>none
  else none
 | .pan _=>none
theorem Q3s {f:FuncId} {fn:Func} {c:Code} {args:List AV} {rv:AV} {ro:List AObj} (hss:List (List LK)) (hf:P.funcs[f]?=some fn) (hb:fn.body=some c) (hn:(fn.name == "runtime.NumGoroutine")=false) (hle:Nat.ble args.length fn.ntmps=true)
  (h:WP P none 0 c (st0 fn.ntmps args) (fun out=>Qne P fn hss out=some (rv,ro))):Qy P f args (.ret rv ro):=by
 obtain ⟨co,h1,r',h2,h3⟩:=Q1c (R:=fun co=>∃r',co=.ret r' ro∧Qek hss r'=rv) hf hb hn (Nat.le_of_ble_eq_true hle) (h.mono fun out ho=>by
  cases out with
  | pan v=>cases ho
  | go e st' =>
   simp only [Qne] at ho
   split at ho
   ·rename_i he
    split at ho
    ·rename_i x hx
     split at ho
     ·rename_i r objs hex
      simp only [Option.some.injEq,Prod.mk.injEq] at ho
      obtain ⟨h1,rfl⟩:=ho
      exact ⟨he,x,hx,_,hex,r,rfl,h1⟩
     ·cases ho
    ·cases ho
   ·cases ho)
 rw [←h3]
 rw [h2] at h1
 exact h1.res hss
noncomputable def Qgu (P:Program) (fn:Func) (ops:Array Oper) (i:Nat) (st:St):AOut→Option St
 | .go e st'=>if e.ends then match resultA P fn st',ops[i]? with
   | some x,some o=>match Jv st.slots st.nt o.dst (some x) with
    | some slots=>some ⟨slots,st'.objs,st.nt⟩
    | none=>none
   | _,_=>none
  else none
 | .pan _=>none
theorem Qvj {f:FuncId} {fn:Func} {c:Code} {as0:List AV} (hi:Zh ops i st=some (f,as0)) (hf:P.funcs[f]?=some fn) (hb:fn.body=some c) (hn:(fn.name == "runtime.NumGoroutine")=false) (hle:Nat.ble as0.length fn.ntmps=true)
  (h:WP P none st.objs.length c ⟨X6 0 as0,st.objs,fn.ntmps⟩ (fun out=>∃S,Qgu P fn ops i st out=some S∧RW P rd base ops none (i+1) S Φ)):RW P rd base ops none i st Φ:=by
 obtain ⟨o,g,args,ts,first,caps,as1,ho,hop,hg,has,rfl⟩:=Qa6 hi
 obtain ⟨h1,h2⟩:=Yb ho
 obtain ⟨out,hx,S,hS,k⟩:=h
 unfold Qgu at hS
 split at hS
 ·rename_i e st'
  split at hS
  ·rename_i he
   split at hS
   ·rename_i x o' hr ho'
    rw [h1] at ho'; cases ho'
    split at hS
    ·rename_i slots hp
     cases hS
     obtain ⟨out2,k1,k2⟩:=k
     have hi':i < ops.size:=(Array.getElem?_eq_some_iff.1 h1).1
     refine ⟨out2,?_,k2⟩
     rw [Qij hi']
     exact Qi7 h1 h2 (Qvw hop hg has hf hb hn (Nat.le_of_ble_eq_true hle) hx he hr hp) k1
    ·cases hS
   ·cases hS
  ·cases hS
 ·cases hS
def Qj9 (ops:Array Oper) (i l:Nat) (st:St):AOut→Option St
 | .go e st'=>match st'.objs[l]?,ops[i]? with
  | some (.loop nt2 sl2 ps2 as2 bd2 .busy _),some o=>match Jv st.slots st.nt o.dst (some (.bool e.pend.isNone)) with
   | some slots=>some ⟨slots,st'.objs.set l (.loop nt2 sl2 ps2 as2 bd2 (if e.pend.isNone then .ready else .done) e.pend),st.nt⟩
   | none=>none
  | _,_=>none
 | .pan _=>none
def Qot (ops:Array Oper) (i:Nat) (st:St):Option (Nat × List AV) :=
 match Z9 ops i st with
 | some o=>match o.op with
  | .call { callee:=.value g,args,.. }=>match evo (lk st.slots) g,Jc (lk st.slots) args.toList with
   | some (.yld l),some us=>some (l,us)
   | _,_=>none
  | _=>none
 | none=>none
def Qmw (l nt:Nat):AOut→Option St
 | .go .normal ⟨sl,objs,n⟩=>match objs[l]? with
  | some (.loop ntL slL psL asL bdL .ready peL)=>if Nat.beq n nt then some ⟨sl,objs.set l (.loop ntL slL psL asL bdL .busy peL),nt⟩ else none
  | _=>none
 | _=>none
theorem Qv5 {l nt:Nat} {us:List AV} {sl:List (Nat × AV)} {ps:List Tmp} {assign body:Code} {pe:Option Code} (hi:Qot ops i st=some (l,us)) (hl:st.objs[l]?=some (.loop nt sl ps assign body .ready pe))
  (hlen:(Nat.beq us.length ps.length && ps.all fun t=>Nat.blt t nt)=true)
  (h:WP P (some l) st.objs.length assign ⟨Qk4 sl ps us,st.objs,nt⟩ (fun outA=>∃SA,Qmw l nt outA=some SA∧WP P (some l) st.objs.length body SA (fun outB=>∃S,Qj9 ops i l st outB=some S∧RW P rd base ops none (i+1) S Φ))) :
  RW P rd base ops none i st Φ:=by
 unfold Qot at hi
 split at hi
 ·rename_i o ho
  split at hi
  ·rename_i g args ts hop
   split at hi
   ·rename_i l' us' hg has
    simp only [Option.some.injEq,Prod.mk.injEq] at hi
    obtain ⟨rfl,rfl⟩:=hi
    obtain ⟨h1,h2⟩:=Yb ho
    simp only [Bool.and_eq_true,List.all_eq_true] at hlen
    obtain ⟨outA,hxA,SA,hSA,outB,hxB,S,hS,k⟩:=h
    unfold Qmw at hSA
    split at hSA
    ·rename_i slA objsA n
     split at hSA
     ·rename_i ntL slL psL asL bdL peL hlA
      split at hSA
      ·rename_i hn
       cases hSA
       have hn:=Nat.eq_of_beq_eq_true hn
       subst hn
       unfold Qj9 at hS
       split at hS
       ·rename_i e st'
        split at hS
        ·rename_i nt2 sl2 ps2 as2 bd2 pe2 o' hlB ho'
         rw [h1] at ho'; cases ho'
         split at hS
         ·rename_i slots hp
          cases hS
          obtain ⟨out2,k1,k2⟩:=k
          have hi':i < ops.size:=(Array.getElem?_eq_some_iff.1 h1).1
          refine ⟨out2,?_,k2⟩
          rw [Qij hi']
          exact Qi7 h1 h2 (Qxm hop hg has hl (Nat.eq_of_beq_eq_true hlen.1) (fun t ht=>Yp (hlen.2 t ht)) hxA hlA hxB hlB hp) k1
         ·cases hS
        ·cases hS
       ·cases hS
      ·cases hSA
     ·cases hSA
    ·cases hSA
   ·cases hi
  ·cases hi
 ·cases hi
theorem Qih {g:Operand} {ps:Array Tmp} {assign body:Code} {f:FuncId} {fn:Func} {c:Code} {first caps:List AV} (hg:evo (lk st.slots) g=some (.fn (.func f) first caps)) (hf:P.funcs[f]?=some fn) (hb:fn.body=some c) (hn:(fn.name == "runtime.NumGoroutine")=false)
  (hle:Nat.ble (first++[AV.yld st.objs.length]++caps).length fn.ntmps=true) (hrd:Q0c rd st.objs=true)
  (h:WP P none (st.objs.length+1) c (Qky st ps.toList assign body first caps fn.ntmps) (fun out0=>∃out,Jw P fn st out0=some out∧Φ out)):WP P rd base (.rangeFunc g ps assign body) st Φ:=by
 obtain ⟨out0,h0,out,h1,h2⟩:=h
 refine ⟨out,Qn0 hg hf hb hn (Nat.le_of_ble_eq_true hle) (fun l hl=>?_) h0 h1,h2⟩
 subst hl
 simp only [Q0c] at hrd
 split at hrd
 ·rename_i s _ hob
  refine ⟨_,_,_,_,_,_,_,hob,fun e=>?_⟩
  subst e; cases hrd
 ·cases hrd
theorem K2 {base':Nat} (hb:base=base') (hs:st=st') (h:WP P rd base' c st' Φ):WP P rd base c st Φ:=by subst hb; subst hs; exact h
theorem K7 {α R:Type} {G:Option α} {K:α→Option R} {r:R} {X:Prop} (h:G.bind K=some r) (k:∀a,G=some a→K a=some r→X):X:=by
 cases hg:G with
 | none=>rw [hg] at h; cases h
 | some a=>rw [hg] at h; exact k a hg h
theorem Qkt {α:Type} {l:List α} {n:Int} {a:α} (b:α) (h:lkI l n=some a):lkI (l.set n.toNat b) n=some b:=by
 obtain ⟨h1,h2,h3⟩:=Qa0 h
 unfold lkI
 rw [if_neg (by omega),List.getElem?_set_self h2]
theorem Q3m {i:Nat} (hk:Wk P base st st') (h:RW P rd base ops none i st' Φ):RW P rd base ops none i st Φ:=by
 obtain ⟨out,h1,h2⟩:=h
 refine ⟨out,?_,h2⟩
 intro B W0 D0 dl M ι a W n Q r hs hr hp
 obtain ⟨M',ι',hM,hι,hs'⟩:=hk B W0 D0 dl M ι a W hs
 exact h1 B W0 D0 dl M' ι' a W n Q r hs' (hr.mono hι) (hp.step hM hι (List.suffix_refl _))
end
abbrev vI (n:Int):AV:=.int .i64 n
abbrev eI:Int→AV:=AV.int .i64
abbrev vB (b:Bool):AV:=.bool b
abbrev oR {α:Type} (fl:Bool) (w:Nat) (enc:α→AV) (l:List α):AObj:=.row false false true fl w (l.map enc)
abbrev oX (nr fl:Bool) (w:Nat) (x:AV):AObj:=.row true false nr fl w [x]
def Qfi:Code→List Bool→Code
 | .seq a b,false::r=>Qfi a r
 | .seq a b,true::r=>Qfi b r
 | .cond _ a b,false::r=>Qfi a r
 | .cond _ a b,true::r=>Qfi b r
 | .block _ b,_::r=>Qfi b r
 | .loop b,_::r=>Qfi b r
 | .scope b,_::r=>Qfi b r
 | .rangeFunc _ _ a b,false::r=>Qfi a r
 | .rangeFunc _ _ a b,true::r=>Qfi b r
 | c,_=>c
def cA (fn:Func) (w:List Bool):Code:=Qfi (fn.body.getD .skip) (w++[false])
def cB (fn:Func) (w:List Bool):Code:=Qfi (fn.body.getD .skip) (w++[true])
end Go.Ab
namespace Go.Ab
open Go.RowKit
section
variable {P:Program} {B:Nat} {W0 W W1:World} {D:List Nat} {M M1:CM} {ι ι1:Inj} {σ σ' σ1:Sto}
theorem Rel.dead (h:Rel P B W0 D M ι σ W) (hσ:∀k,σ' k=σ k∨σ' k=none∨σ' k=some .dead):Rel P B W0 D M ι σ' W:=by
 have back:∀k x,σ' k=some x→x≠.dead→σ k=some x:=fun k x hk hx=>by
  rcases hσ k with e | e | e
  ·rw [←e]; exact hk
  ·rw [e] at hk; cases hk
  ·rw [e] at hk; cases hk; exact absurd rfl hx
 refine ⟨h.size,h.below,h.defs,h.agree,fun o bx nr fl w xs p k ho=>h.cool o bx nr fl w xs p k (back _ _ ho (by simp)),fun o bx ro nr fl w xs ho=>h.row o bx ro nr fl w xs (back _ _ ho (by simp)),fun o fn sl ps as bd st pe ho=>h.loop o fn sl ps as bd st pe (back _ _ ho (by simp)),
  fun o o' bx nr fl w xs bx' nr' fl' w' xs' p p' hne h1 h2=>h.apart o o' bx nr fl w xs bx' nr' fl' w' xs' p p' hne (back _ _ h1 (by simp)) (back _ _ h2 (by simp)),
  fun o o' fn sl ps as bd st pe fn' sl' ps' as' bd' st' pe' p p' hne h1 h2=>h.loops o o' fn sl ps as bd st pe fn' sl' ps' as' bd' st' pe' p p' hne (back _ _ h1 (by simp)) (back _ _ h2 (by simp)),fun o ho=>?_⟩
 rcases hσ o with e | e
 ·rw [e]; exact h.used o ho
 ·exact e
open Classical in
theorem Rel.join {N:Nat → Prop} (h:Rel P B W0 D M ι σ W) (h1:Rel P W.heap.size W [] M1 ι1 σ1 W1) (hM:CM.Grow W.heap.size M M1) (n0:∀k,N k→ι k=none)
  (nl:∀k fn sl ps as bd st pe,N k→σ1 k≠some (.loop fn sl ps as bd st pe))
  (nc:∀k bx ro nr fl w xs,N k→σ1 k=some (.row bx ro nr fl w xs)→nr=true∨∀x∈xs,∀y∈x.flat,∀o∈y.ids,N o) :
  Rel P B W0 D M1 (fun k=>if N k then ι1 k else ι k) (fun k=>if N k then σ1 k else σ k) W1:=by
 have hrel:=h.old h1.below
 have hle:ι.le (fun k=>if N k then ι1 k else ι k):=fun k q hk=>by
  by_cases e:N k
  ·rw [n0 k e] at hk; cases hk
  ·simp only [e,if_false]; exact hk
 have hold:∀k bx nr fl w xs p,σ k=some (.row bx false nr fl w xs)→ι k=some p→p.blk < W.heap.size∨(p.cap=0∧p.base=0):=by
  intro k bx nr fl w xs p hk hp
  obtain ⟨q,hq,hr⟩:=h.row k _ _ _ _ _ _ hk
  rw [hp] at hq; cases hq
  rcases Nat.eq_zero_or_pos p.cap with hz | hz
  ·exact .inr ⟨hz,by rcases hr.cpos with h4 | h4 <;> omega⟩
  left
  obtain ⟨v,hv⟩:=Option.isSome_iff_exists.1 ((hr.own rfl).2 0 (Nat.mul_pos hz hr.pos)).1
  exact World.block_lt_of_cell? W _ hv
 refine ⟨hrel.size,hrel.below,hrel.defs,h1.agree,fun k bx1 nr1 fl1 w1 xs1 q j hk hq hj=>?_,?_,?_,?_,?_,?_⟩
 ·by_cases e:N k
  ·simp only [e,if_true] at hk hq; exact h1.cool _ _ _ _ _ _ _ _ hk hq hj
  ·simp only [e,if_false] at hk hq; rw [hM.keepC]; exact hrel.cool _ _ _ _ _ _ _ _ hk hq hj
 ·intro k bx ro nr fl w xs hk
  by_cases e:N k
  ·simp only [e,if_true] at hk ⊢
   obtain ⟨p,hp,hr⟩:=h1.row k _ _ _ _ _ _ hk
   refine ⟨p,hp,⟨hr.pw,hr.pos,hr.cpos,hr.len,hr.shaped,hr.nr,hr.fl,fun i j x y hi hj=>?_,fun hro=>⟨Nat.le_trans h.size (hr.own hro).1,(hr.own hro).2⟩,hr.imm⟩⟩
   obtain ⟨v,hv,hrep⟩:=hr.cells i j x y hi hj
   refine ⟨v,hv,?_⟩
   have hxm:=List.mem_of_getElem? hi
   have hym:=List.mem_of_getElem? hj
   rcases nc k bx ro nr fl w xs e hk with c | c
   ·exact hrep.of_nr (AV.nr_flat (Qr.1 (hr.nr c) x hxm) y hym)
   ·exact hrep.congr (fun o ho=>by rw [if_pos (c x hxm y hym o ho)])
  ·simp only [e,if_false] at hk ⊢
   obtain ⟨p,hp,hr⟩:=hrel.row k bx ro nr fl w xs hk
   refine ⟨p,hp,⟨hr.pw,hr.pos,hr.cpos,hr.len,hr.shaped,hr.nr,hr.fl,fun i j x y hi hj=>?_,fun hro=>⟨(hr.own hro).1,fun m hm=>⟨((hr.own hro).2 m hm).1,?_⟩⟩,fun hro i j x y hi hj=>?_⟩⟩
   ·obtain ⟨v,hv,hrep⟩:=hr.cells i j x y hi hj
    exact ⟨v,hv,hrep.mono hM.le hle⟩
   ·subst hro
    rcases hold k _ _ _ _ _ p hk hp with hq | ⟨hz,_⟩
    ·rw [hM.old _ _ hq]; exact ((hr.own rfl).2 m hm).2
    ·rw [hz] at hm; simp at hm
   ·obtain ⟨v,hv,hrep⟩:=hr.imm hro i j x y hi hj
    exact ⟨v,hM.le _ _ _ hv,hrep.mono hM.le (Inj.le_refl _)⟩
 ·intro k fn sl ps as bd st pe hk
  by_cases e:N k
  ·simp only [e,if_true] at hk; exact absurd hk (nl k _ _ _ _ _ _ _ e)
  ·simp only [e,if_false] at hk ⊢
   obtain ⟨q,nt,hq,hnt,hb,tmps,hsz,hrec,hsl⟩:=hrel.loop k fn sl ps as bd st pe hk
   exact ⟨q,nt,hq,by rw [hM.keep]; exact hnt,hb,tmps,hsz,hrec,Qck hM.le hle hsl⟩
 ·intro k k' bx nr fl w xs bx' nr' fl' w' xs' q q' hkk hk hk' hq hq'
  by_cases e:N k
  ·simp only [e,if_true] at hk hq
   by_cases e':N k'
   ·simp only [e',if_true] at hk' hq'
    exact h1.apart k k' _ _ _ _ _ _ _ _ _ _ _ _ hkk hk hk' hq hq'
   ·simp only [e',if_false] at hk' hq'
    obtain ⟨p,hp,hr⟩:=h1.row k _ _ _ _ _ _ hk
    rw [hp] at hq; cases hq
    rcases hold k' _ _ _ _ _ q' hk' hq' with hq2 | ⟨hz,hb⟩
    ·left
     have:=(hr.own rfl).1
     omega
    ·right; right
     rw [hz,hb]; simp
  ·simp only [e,if_false] at hk hq
   by_cases e':N k'
   ·simp only [e',if_true] at hk' hq'
    obtain ⟨p',hp',hr'⟩:=h1.row k' _ _ _ _ _ _ hk'
    rw [hp'] at hq'; cases hq'
    rcases hold k _ _ _ _ _ q hk hq with hq2 | ⟨hz,hb⟩
    ·left
     have:=(hr'.own rfl).1
     omega
    ·right; left
     rw [hz,hb]; simp
   ·simp only [e',if_false] at hk' hq'
    exact h.apart _ _ _ _ _ _ _ _ _ _ _ _ _ _ hkk hk hk' hq hq'
 ·intro k k' fn sl ps as bd st pe fn' sl' ps' as' bd' st' pe' q q' hkk hk hk' hq hq'
  by_cases e:N k
  ·simp only [e,if_true] at hk; exact absurd hk (nl k _ _ _ _ _ _ _ e)
  ·by_cases e':N k'
   ·simp only [e',if_true] at hk'; exact absurd hk' (nl k' _ _ _ _ _ _ _ e')
   ·simp only [e,e',if_false] at hk hq hk' hq'
    exact h.loops _ _ _ _ _ _ _ _ _ _ _ _ _ _ _ _ _ _ hkk hk hk' hq hq'
 ·intro k hk
  by_cases e:N k
  ·simp only [e,if_true] at hk ⊢; exact h1.used k hk
  ·simp only [e,if_false] at hk ⊢; exact h.used k hk
end
def famEff (k w:Nat) (fl:Bool):Nat → List (List AV)→List (Nat × AObj)
 | _,[]=>[]
 | i,l::r=>(fid k i,.row false false true fl w l)::famEff k w fl (i+1) r
def effAt:Nat → List AObj→List (Nat × AObj)
 | _,[]=>[]
 | k,x::r=>(k,x.plain)::((match x with | .fam w fl xs=>famEff k w fl 0 xs | _=>[])++effAt (k+1) r)
theorem Qh1 {k w:Nat} {fl:Bool} {id:Nat} {y:AObj}:∀{i:Nat} {xs:List (List AV)},(id,y)∈famEff k w fl i xs↔∃j l,xs[j]?=some l∧id=fid k (i+j)∧y=.row false false true fl w l
 | i,[]=>by simp [famEff]
 | i,l::r=>by
  simp only [famEff,List.mem_cons,Prod.mk.injEq,Qh1 (i:=i+1) (xs:=r)]
  constructor
  ·rintro (⟨rfl,rfl⟩ | ⟨j,l',h1,rfl,rfl⟩)
   ·exact ⟨0,l,rfl,rfl,rfl⟩
   ·exact ⟨j+1,l',by simpa using h1,by congr 1; omega,rfl⟩
  ·rintro ⟨j,l',h1,rfl,rfl⟩
   cases j with
   | zero=>simp at h1; subst h1; exact .inl ⟨rfl,rfl⟩
   | succ j=>exact .inr ⟨j,l',by simpa using h1,by congr 1; omega,rfl⟩
theorem Qdg {id:Nat} {y:AObj}:∀{k:Nat} {xs:List AObj},(id,y)∈effAt k xs↔∃j x,xs[j]?=some x∧((id=k+j∧y=x.plain)∨∃w fl ls i l,x=.fam w fl ls∧ls[i]?=some l∧id=fid (k+j) i∧y=.row false false true fl w l)
 | k,[]=>by simp [effAt]
 | k,x::r=>by
  simp only [effAt,List.mem_cons,List.mem_append,Prod.mk.injEq,Qdg (k:=k+1) (xs:=r)]
  constructor
  ·rintro (⟨rfl,rfl⟩ | h | ⟨j,x',h1,h2⟩)
   ·exact ⟨0,x,rfl,.inl ⟨rfl,rfl⟩⟩
   ·split at h
    ·rename_i w fl xs
     obtain ⟨j,l,h1,rfl,rfl⟩:=Qh1.1 h
     exact ⟨0,_,rfl,.inr ⟨w,fl,xs,j,l,rfl,h1,by simp,rfl⟩⟩
    ·cases h
   ·refine ⟨j+1,x',by simpa using h1,?_⟩
    rw [show k+(j+1)=k+1+j by omega]; exact h2
  ·rintro ⟨j,x',h1,h2⟩
   cases j with
   | zero =>
    simp at h1; subst h1
    rcases h2 with ⟨rfl,rfl⟩ | ⟨w,fl,ls,i,l,rfl,h3,rfl,rfl⟩
    ·exact .inl ⟨rfl,rfl⟩
    ·exact .inr (.inl (Qh1.2 ⟨i,l,h3,by simp,rfl⟩))
   | succ j =>
    refine .inr (.inr ⟨j,x',by simpa using h1,?_⟩)
    rw [show k+1+j=k+(j+1) by omega]; exact h2
theorem Qwp {k:Nat} {xs:List AObj} (h:effAt k xs=[]):xs=[]:=by cases xs <;> simp_all [effAt]
section
variable {objs new:List AObj}
theorem Qj1 (j:Nat):(objs++new)[objs.length+j]?=new[j]?:=by
 rw [List.getElem?_append_right (by omega),show objs.length+j - objs.length=j by omega]
theorem Qpa {id:Nat} {y:AObj} (hb:objs.length+new.length≤BIG) (h:(id,y)∈effAt objs.length new):InR objs.length (objs.length+new.length) id∧sto (objs++new) id=some y:=by
 obtain ⟨j,x,h1,h2⟩:=Qdg.1 h
 have hj:j < new.length:=(List.getElem?_eq_some_iff.1 h1).1
 rcases h2 with ⟨rfl,rfl⟩ | ⟨w,fl,ls,i,l,rfl,h3,rfl,rfl⟩
 ·exact ⟨.inl (by omega),by rw [Xl (by omega),Qj1,h1]; rfl⟩
 ·exact ⟨.inr ⟨_,i,by omega,by omega,rfl⟩,Qb1 (by rw [Qj1]; exact h1) h3⟩
theorem Qw4 {id:Nat} (hb:objs.length+new.length≤BIG) (h:∀e∈effAt objs.length new,e.1≠id):(InR objs.length (objs.length+new.length) id→sto (objs++new) id=none)∧sto (objs++new) id=sto objs id:=by
 have hno:∀j x,new[j]?=some x→objs.length+j≠id:=fun j x hj e=>h (objs.length+j,x.plain) (Qdg.2 ⟨j,x,hj,.inl ⟨rfl,rfl⟩⟩) e
 have hfam:∀k w fl ls i l,id=fid k i→(objs++new)[k]?=some (.fam w fl ls)→ls[i]?=some l→k < objs.length:=fun k w fl ls i l e h1 h2=>by
  rcases Nat.lt_or_ge k objs.length with c | c
  ·exact c
  ·obtain ⟨j,rfl⟩:=Nat.exists_eq_add_of_le c
   rw [Qj1] at h1
   exact absurd e.symm (h (fid (objs.length+j) i,_) (Qdg.2 ⟨j,_,h1,.inr ⟨w,fl,ls,i,l,rfl,h2,rfl,rfl⟩⟩))
 constructor
 ·intro hin
  rcases hin with ⟨c1,c2⟩ | ⟨k,i,c1,c2,rfl⟩
  ·exact absurd (Nat.add_sub_cancel' c1) (hno (id - objs.length) (new[id - objs.length]'(by omega)) (List.getElem?_eq_getElem (by omega)))
  ·exact Qor (fun w fl xs l e1 e2=>by have:=hfam k w fl xs i l rfl e1 e2; omega)
 ·rcases Nat.lt_or_ge id BIG with c | c
  ·rw [Xl c,Xl c]
   rcases Nat.lt_or_ge id objs.length with d | d
   ·rw [List.getElem?_append_left d]
   ·obtain ⟨j,rfl⟩:=Nat.exists_eq_add_of_le d
    rw [Qj1,List.getElem?_eq_none d]
    cases hj:new[j]? with
    | none=>rfl
    | some x=>exact absurd rfl (hno j x hj)
  ·rcases J1 (objs++new) id with ⟨d,_⟩ | ⟨_,⟨k,i,w,fl,xs,l,rfl,e2,e3,e4⟩ | e⟩
   ·omega
   ·have hk:=hfam k w fl xs i l rfl e2 e3
    rw [e4,Qb1 (by rw [List.getElem?_append_left hk] at e2; exact e2) e3]
   ·rw [e]
    rcases J1 objs id with ⟨d,_⟩ | ⟨_,⟨k,i,w,fl,xs,l,rfl,e2,e3,e4⟩ | e'⟩
    ·omega
    ·have hk:k < objs.length:=(List.getElem?_eq_some_iff.1 e2).1
     rw [Qb1 (objs:=objs++new) (by rw [List.getElem?_append_left hk]; exact e2) e3] at e; cases e
    ·rw [e']
theorem Q1o (hb:objs.length+new.length≤BIG):sto (objs++new)=(sto objs).puts (effAt objs.length new):=by
 funext id
 rcases (sto objs).puts_at (effAt objs.length new) id with ⟨h1,h2⟩ | ⟨y,h1,h2⟩
 ·rw [h1]; exact (Qw4 hb h2).2
 ·rw [h1]; exact (Qpa hb h2).2
end
def Qn3 (n m o:Nat):Bool:=Nat.ble n o && Nat.blt o m
def Qkv (n m:Nat):AObj→Bool
 | .row _ _ nr _ _ xs=>nr || xs.all fun x=>x.flat.all fun y=>y.ids.all (Qn3 n m)
 | .refs j _=>Qn3 n m j
 | .fam _ _ _=>true
 | .dead=>true
 | .loop ..=>false
def Qp5:Nat → List AObj→Bool
 | 0,_=>true
 | n+1,.dead::r=>Qp5 n r
 | _,_=>false
theorem Qnz:∀{n:Nat} {objs:List AObj},Qp5 n objs=true→objs=List.replicate n .dead++objs.drop n
 | 0,objs,_=>by simp
 | n+1,[],h=>by cases h
 | n+1,x::r,h=>by
  cases x <;> simp only [Qp5] at h <;> first | (cases h; done) | skip
  rw [List.replicate_succ,List.drop_succ_cons,List.cons_append,←Qnz h]
theorem Qkz {n m o:Nat} (h:Qn3 n m o=true):n≤o∧o < m:=by
 simp only [Qn3,Bool.and_eq_true] at h
 exact ⟨Nat.le_of_ble_eq_true h.1,V7 h.2⟩
section
variable {P:Program} {ops:Array Oper} {st st':St} {o:Oper} {rd:Option Nat} {base:Nat} {Φ:AOut→Prop} {d:Option (List Sk)} {i:Nat}
theorem Qk7 {k:Nat} {x:AV}:∀{i:Nat} {xs:List (List AV)},x∈Kg k i xs→∃j n,x=.ref (fid k j) 0 n
 | _,[],h=>by cases h
 | i,l::r,h=>by
  simp only [Kg,List.mem_cons] at h
  rcases h with rfl | h
  ·exact ⟨_,_,rfl⟩
  ·exact Qk7 h
theorem Q0d {n:Nat} (k:Nat):sto (List.replicate n AObj.dead) k=none∨sto (List.replicate n AObj.dead) k=some .dead:=by
 rcases J1 (List.replicate n AObj.dead) k with ⟨_,e⟩ | ⟨_,⟨j,i,w,fl,xs,l,_,e2,_⟩ | e⟩
 ·rw [e]
  rcases Nat.lt_or_ge k n with h | h
  ·right; rw [List.getElem?_replicate,if_pos h]; rfl
  ·left; rw [List.getElem?_eq_none (by simpa using h)]; rfl
 ·rw [List.getElem?_replicate] at e2
  split at e2 <;> cases e2
 ·exact .inl e
theorem Qtb {f:FuncId} {fn:Func} {c:Code} {as0:List AV} {n:Nat} {e:Z5} {x:AV} {vs:Array Value} {W:World} {M:CM} (hf:P.funcs[f]?=some fn) (hb:fn.body=some c) (hle:as0.length≤fn.ntmps) (hn:n≤BIG)
  (h:Xf P none n c ⟨X6 0 as0,List.replicate n .dead,fn.ntmps⟩ (.go e st')) (hend:e.ends=true) (hr:resultA P fn st'=some x)
  (hag:Qc7 M W) (hsz:vs.size=as0.length) (hrep:∀(j:Nat) (v:Value) (a:AV),vs[j]?=some v→as0[j]?=some a→Qa M noInj v a) :
  Calls P f vs W fun ee W'=>∃v M' ι',ee=.returned v∧CM.Grow W.heap.size M M'∧Rel P W.heap.size W [] M' ι' (sto st'.objs) W'∧(∀k,¬ InB st'.objs.length k→ι' k=none)∧Qa M' ι' v x:=by
 refine callsIn_wide.1 (callsIn_of_wp_marks (F:=FW none) (n:=0) hf hb trivial ?_)
 have h0:Rel P W.heap.size W [] M noInj (sto (List.replicate n AObj.dead)) W:=(Qkj hag).dead (fun k=>.inr (Q0d k))
 refine h W.heap.size W [] [] M noInj _ W 0 _ none ⟨h0,Qaw fn.ntmps hrep hsz,by simp; omega,⟨rfl,fun r hr=>by simp at hr,List.nodup_nil⟩,fun _ _=>rfl,by simpa using hn⟩ rfl ⟨?_,fun v hv=>by cases hv⟩
 intro e' st'' he dl' M' ι' a' W' g1 g2 g3 g4
 cases he
 have hex:e.exit'=.normal∨e.exit'=.ret:=by cases e <;> simp_all [Z5.ends,Z5.exit']
 have cut:∀R,LeavesInM (FW none) 0 P fn a'.tmps R a'.defers .returning W'→bodyPostM (FW none) 0 P fn R e.exit' a' W':=fun R hR=>by
  rcases hex with e1 | e1 <;> rw [e1] <;> exact hR
 apply cut
 rw [g4.df.defs]
 refine Qc1 (by simp) dl' W' g4.rel g4.df.nd g4.df.old (fun W2 h2=>?_)
 obtain ⟨v,k1,k2⟩:=Qa9 h2 g4.slots hr
 exact ⟨v,k1,v,M',ι',rfl,g1,h2,g4.new,k2⟩
open Classical in
theorem Q1f {g:Operand} {args:Array Operand} {ts:Array TypeId} {f:FuncId} {fn:Func} {c:Code} {first caps as:List AV} {e:Z5} {x:AV} {s:Slots} {σ:Sto} {n:Nat} {new:List AObj}
  (hw:Xj ops s o=some true) (ho:o.op=.call { callee:=.value g,args,argTypes:=ts }) (hg:evo s g=some (.fn (.func f) first caps)) (has:Jc s args.toList=some as) (hnr:AV.nrL (first++as++caps)=true)
  (hf:P.funcs[f]?=some fn) (hb:fn.body=some c) (hn:(fn.name == "runtime.NumGoroutine")=false) (hle:(first++as++caps).length≤fn.ntmps)
  (h:Xf P none n c ⟨X6 0 (first++as++caps),List.replicate n .dead,fn.ntmps⟩ (.go e st')) (hend:e.ends=true) (hr:resultA P fn st'=some x)
  (hob:st'.objs=List.replicate n .dead++new) (hbig:n+new.length≤BIG) (hok:new.all (Qkv n (n+new.length))=true) (hxi:x.ids.all (Qn3 n (n+new.length))=true) :
  YlL P ops o ⟨some x,effAt n new,n,n+new.length,[]⟩ s σ:=by
 intro s' σ' hs' hσ'
 have hl:=Qf6 (ops:=ops) hs'
 rw [ho] at hl
 have hg':evo s' g=some (.fn (.func f) first caps):=by rw [hl g (by simp [Op.operands,Call.operands])]; exact hg
 have has':Jc s' args.toList=some as:=by rw [evos_congr (fun y hy=>hl y (by simp [Op.operands,Call.operands]; exact .inr (by simpa using hy)))]; exact has
 refine .inl ⟨by rw [Jg hs']; exact hw,?_⟩
 intro B W0 D M ι a W nn Q r next hrel hsl hfree hpost
 simp only at hfree hpost
 have hgv:=Qf hsl hg'
 generalize hgu:a.eval g=gu at hgv
 cases hgv with
 | fn _ first' caps' _ _ hy hm h1 h2 hr1 hr2 =>
 obtain ⟨l1,e1⟩:=Vw hsl has'
 refine ⟨fun _ _=>trivial,?_⟩
 rw [Oper.semAt_eq _ _ _ (by rw [ho]; simp)]
 have hrun:(execOp a.eval o).run P W=.ok (.enter f (first'++args.map a.eval++caps')) W:=by
  simp only [execOp,ho,resolve,hgu,Deferred.ofValue,Sem.run_bind,Sem.run_pure,Result.andThen_ok,invoke]
  exact Ke hf (by rw [hb]; rfl) hn _ W
 rw [hrun,Oper.uponIn_enter]
 have hrep:∀(j:Nat) (v:Value) (y:AV),(first'++args.map a.eval++caps')[j]?=some v→(first++as++caps)[j]?=some y→Qa M ι v y :=
  Qhx h1 (by simpa using l1.symm) h2 hr1 (fun j v y hv hy=>by
   simp only [Array.getElem?_map,Option.map_eq_some_iff] at hv
   obtain ⟨w,hw,rfl⟩:=hv
   exact (e1 j w y (by simpa using hw) hy).2) hr2
 have hsz:(first'++args.map a.eval++caps').size=(first++as++caps).length:=by simp [h1,h2,l1]
 refine ⟨fun hd=>by simp [FW,Fence.wide] at hd,Qd3 ((Qtb hf hb hle (by omega) h hend hr hrel.agree hsz (fun j v y hv hy=>(hrep j v y hv hy).of_nr (Qr.1 hnr y (List.mem_of_getElem? hy)))).mono ?_)⟩
 rintro ee W1 ⟨v,M1,ι1,rfl,q1,q2,q3,q4⟩
 have hlen:(List.replicate n AObj.dead).length=n:=List.length_replicate
 have hob2:st'.objs.length=n+new.length:=by rw [hob]; simp
 rw [hob] at q2
 have hb':(List.replicate n AObj.dead).length+new.length≤BIG:=by rw [hlen]; exact hbig
 have new_at : ∀k y,InR n (n+new.length) k→sto (List.replicate n AObj.dead++new) k=some y→y≠.dead→(∃j x,k=n+j∧new[j]?=some x∧y=x.plain)∨(∃w fl l,y=.row false false true fl w l):=by
  intro k y hk hy hd
  rcases J1 (List.replicate n AObj.dead++new) k with ⟨c,e⟩ | ⟨c,⟨j,i,w,fl,xs,l,_,_,_,e4⟩ | e⟩
  ·rw [e] at hy
   rcases hk with ⟨c1,c2⟩ | ⟨j,i,_,_,rfl⟩
   ·obtain ⟨j,rfl⟩:=Nat.exists_eq_add_of_le c1
    have:=Qj1 (objs:=List.replicate n AObj.dead) (new:=new) j
    rw [hlen] at this
    rw [this] at hy
    simp only [Option.map_eq_some_iff] at hy
    obtain ⟨x,hx,rfl⟩:=hy
    exact .inl ⟨j,x,rfl,hx,rfl⟩
   ·have:=Vf j i; omega
  ·rw [e4] at hy; cases hy; exact .inr ⟨_,_,_,rfl⟩
  ·rw [e] at hy; cases hy
 have hok':∀j x,new[j]?=some x→Qkv n (n+new.length) x=true:=fun j x hj=>List.all_eq_true.1 hok x (List.mem_of_getElem? hj)
 have key:=Rel.join (N:=InR n (n+new.length)) hrel q2 q1 hfree
  (fun k fn' sl ps as' bd st2 pe hk hl'=>by
   rcases new_at k _ hk hl' (by simp) with ⟨j,x,rfl,hx,e⟩ | ⟨w,fl,l,e⟩
   ·have:=hok' j x hx
    cases x <;> simp_all [Qkv,AObj.plain]
   ·cases e)
  (fun k bx ro nr fl w xs hk hl'=>by
   rcases new_at k _ hk hl' (by simp) with ⟨j,x,rfl,hx,e⟩ | ⟨w',fl',l,e⟩
   ·have:=hok' j x hx
    cases x with
    | row bx' ro' nr' fl' w' xs' =>
     simp only [AObj.plain] at e
     cases e
     simp only [Qkv,Bool.or_eq_true] at this
     refine this.imp (fun h=>h) (fun h z hz y hy o' ho'=>.inl (Qkz ?_))
     exact List.all_eq_true.1 (List.all_eq_true.1 (List.all_eq_true.1 h z hz) y hy) o' ho'
    | refs j' xs' =>
     simp only [AObj.plain] at e
     cases e
     simp only [Qkv] at this
     right
     intro z hz y hy o' ho'
     obtain ⟨q,n',rfl⟩:=Qk7 hz
     simp only [AV.flat,List.mem_singleton] at hy
     subst hy
     simp only [AV.ids,List.mem_singleton] at ho'
     subst ho'
     exact .inr ⟨j',q,(Qkz this).1,(Qkz this).2,rfl⟩
    | _=>simp [AObj.plain] at e
   ·cases e; exact .inl rfl)
 have hle2:ι.le (fun k=>if InR n (n+new.length) k then ι1 k else ι k):=fun k q hk=>by
  by_cases e:InR n (n+new.length) k
  ·rw [hfree k e] at hk; cases hk
  ·simp only [e,if_false]; exact hk
 refine hpost v W1 M1 _ (q1.mono hrel.size) hle2 (fun k hk=>by simp only [hk,if_false]) ?_ (fun y hy=>by cases hy; exact q4.congr (fun o' ho'=>by rw [if_pos (.inl (Qkz (List.all_eq_true.1 hxi o' ho')))]))
 refine key.dead (fun k=>?_)
 rcases σ'.puts_at (effAt n new) k with ⟨p1,p2⟩ | ⟨y,p1,p2⟩
 ·by_cases e:InR n (n+new.length) k
  ·right; rw [p1]; exact hrel.used k (hfree k e)
  ·left; rw [p1]; simp only [e,if_false]
 ·have:=Qpa (objs:=List.replicate n AObj.dead) hb' (by rw [hlen]; exact p2)
  rw [hlen] at this
  left; rw [p1]; simp only [this.1,if_true]; exact this.2.symm
noncomputable def Qml (P:Program) (fn:Func) (ops:Array Oper) (i:Nat) (st:St):AOut→Option St
 | .go e st'=>if e.ends && Qp5 st.objs.length st'.objs && Nat.ble st'.objs.length BIG && (st'.objs.drop st.objs.length).all (Qkv st.objs.length st'.objs.length) then match resultA P fn st',ops[i]? with
   | some x,some o=>match Jv st.slots st.nt o.dst (some x) with
    | some slots=>if x.ids.all (Qn3 st.objs.length st'.objs.length) then some ⟨slots,st.objs++st'.objs.drop st.objs.length,st.nt⟩ else none
    | none=>none
   | _,_=>none
  else none
 | .pan _=>none
def Qvl (st S:St):List Sk:=[(List.range' st.objs.length (S.objs.length - st.objs.length),[])]
theorem Q31 {f:FuncId} {fn:Func} {c:Code} {as0:List AV} (hi:Zh ops i st=some (f,as0)) (hnr:AV.nrL as0=true) (hf:P.funcs[f]?=some fn) (hb:fn.body=some c) (hn:(fn.name == "runtime.NumGoroutine")=false) (hle:Nat.ble as0.length fn.ntmps=true)
  (h:WP P none st.objs.length c ⟨X6 0 as0,List.replicate st.objs.length .dead,fn.ntmps⟩ (fun out=>∃S,Qml P fn ops i st out=some S∧RW P rd base ops (Qz d (Qvl st S)) (i+1) S Φ)):RW P rd base ops d i st Φ:=by
 obtain ⟨o,g,args,ts,first,caps,as1,ho,hop,hg,has,rfl⟩:=Qa6 hi
 obtain ⟨h1,h2⟩:=Yb ho
 obtain ⟨out,hx,S,hS,k⟩:=h
 unfold Qml at hS
 split at hS
 ·rename_i e st'
  split at hS
  ·rename_i hc
   simp only [Bool.and_eq_true] at hc
   obtain ⟨⟨⟨c1,c2⟩,c3⟩,c4⟩:=hc
   split at hS
   ·rename_i x o' hr ho'
    rw [h1] at ho'; cases ho'
    split at hS
    ·rename_i slots hp
     split at hS
     ·rename_i hxi
      cases hS
      have hob:=Qnz c2
      have hl:st'.objs.length=st.objs.length+(st'.objs.drop st.objs.length).length:=by
       have:=congrArg List.length hob
       rw [List.length_append,List.length_replicate] at this
       exact this
      have hbig:st.objs.length+(st'.objs.drop st.objs.length).length≤BIG:=by rw [←hl]; exact Nat.le_of_ble_eq_true c3
      refine Qaj (st1:=⟨slots,st.objs++st'.objs.drop st.objs.length,st.nt⟩) (s:=(List.range' st.objs.length ((st.objs++st'.objs.drop st.objs.length).length - st.objs.length),[])) ⟨o,⟨some x,effAt st.objs.length (st'.objs.drop st.objs.length),st.objs.length,st.objs.length+(st'.objs.drop st.objs.length).length,[]⟩,h1,?_,?_⟩ k
      ·refine ⟨Q1f h2 hop hg has hnr hf hb hn (Nat.le_of_ble_eq_true hle) hx c1 hr hob hbig (by rw [←hl]; exact c4) (by rw [←hl]; exact hxi),rfl,by simp,Q1o hbig,by simp,fun _=>by simpa using hbig,fun he=>?_,hp,rfl⟩
       have:=Qwp he
       simp [this]
      ·refine ⟨fun e' he'=>?_,fun e' he'=>by cases he'⟩
       obtain ⟨j,y,q1,q2⟩:=Qdg.1 he'
       have hj:=(List.getElem?_eq_some_iff.1 q1).1
       refine ⟨st.objs.length+j,?_,?_⟩
       ·simp only [List.mem_range'_1,List.length_append]; omega
       ·rcases q2 with ⟨q,_⟩ | ⟨w,fl,ls,i',l,_,_,q,_⟩
        ·exact .inl q
        ·exact .inr ⟨by omega,i',q⟩
     ·cases hS
    ·cases hS
   ·cases hS
  ·cases hS
 ·cases hS
end
end Go.Ab
namespace Go.Ab
open Go.RowKit
section
variable {P:Program} {B:Nat} {W0 W:World} {D D0 dl:List Nat} {M:CM} {ι:Inj} {σ:Sto} {st st':St} {a:Act} {base:Nat}
theorem Rel.row1 (h:Rel P B W0 D M ι σ W) {o:Nat} {bx nr fl bx' nr' fl':Bool} {w:Nat} {xs xs':List AV} (hσ:σ o=some (.row bx false nr fl w xs)) (hl:xs'.length≤xs.length)
  (hs:∀x∈xs',AV.shaped x w) (hnr:nr'=true→AV.nrL xs'=true) (hfl:fl'=true→∀x∈xs',AV.scs x=true)
  (hc:∀(i j:Nat) (x' y':AV),xs'[i]?=some x'→x'.flat[j]?=some y'→∃x y,xs[i]?=some x∧x.flat[j]?=some y∧∀v,Qa M ι v y→Qa M ι v y') :
  Rel P B W0 D M ι (σ.put o (.row bx' false nr' fl' w xs')) W:=by
 obtain ⟨p,hp,hrow⟩:=h.row o _ _ _ _ _ _ hσ
 have key:=h.write (bx':=bx') (nr':=nr') (fl':=fl') (xs':=xs') hσ hp 0 [] (by simp) (Nat.le_trans hl hrow.len) hs hnr hfl (fun i j x y hi hj hlo hhi=>by simp at hhi)
  (fun i j x' y' hi hj _=>by
   obtain ⟨x,y,h1,h2,h3⟩:=hc i j x' y' hi hj
   obtain ⟨v,hv,hr⟩:=hrow.cells i j x y h1 h2
   exact ⟨v,by rw [←Nat.add_assoc]; exact hv,h3 v hr⟩)
 exact key
theorem Qzp {x y:AV} (h:y∈x.flat):∀o∈y.ids,o∈x.ids:=by
 cases x with
 | agg cs=>intro o ho; simp only [AV.ids,Qey]; exact ⟨y,h,ho⟩
 | _=>simp only [AV.flat,List.mem_singleton] at h; subst h; exact fun o ho=>ho
theorem TrE.congr {ι':Inj} {x:AV} (h:∀o∈x.ids,ι' o=ι o):TrE M ι ι' x x :=
 ⟨fun _ h=>h,fun h=>h,fun j y hj=>⟨y,hj,fun v hv=>hv.congr (fun o ho=>h o (Qzp (List.mem_of_getElem? hj) o ho)),fun v hv=>hv⟩⟩
theorem Q3n (h:st=st'):Wk P base st st':=by subst h; exact Qua
theorem wk_take (m q:Nat) {α:Type} {enc:α→AV} {l:List α} {nr fl:Bool} {w:Nat} (hm:st.objs[m]?=some (.row false false nr fl w (l.map enc))) (hS:(⟨st.slots,st.objs.set m (.row false false nr fl w ((l.take q).map enc)),st.nt⟩:St)=st'):Wk P base st st':=by
 subst hS
 intro B W0 D0 dl M ι a W hs
 have hb:=hs.lt hm
 have hst:=Qnq hb hm rfl
 obtain ⟨p,hp,hrow⟩:=hs.rel.row m _ _ _ _ _ _ hst
 have hmem:∀x∈(l.take q).map enc,x∈l.map enc:=fun x hx=>by
  simp only [List.mem_map] at hx ⊢
  obtain ⟨y,hy,e⟩:=hx
  exact ⟨y,List.mem_of_mem_take hy,e⟩
 refine ⟨M,ι,.refl _ _,.refl _ _,⟨?_,hs.slots,hs.nt,hs.df,fun k hk=>hs.new k (by simpa using hk),by simpa using hs.big⟩⟩
 show Rel P B W0 (dl++D0) M ι (sto (st.objs.set m _)) W
 rw [Qby hm rfl rfl hb]
 refine hs.rel.row1 hst (by simp; omega) (fun x hx=>hrow.shaped x (hmem x hx)) (fun hn=>Qr.2 fun x hx=>Qr.1 (hrow.nr hn) x (hmem x hx)) (fun hf x hx=>hrow.fl hf x (hmem x hx))
  (fun i c x' y' hi hc=>⟨x',y',?_,hc,fun v hv=>hv⟩)
 simp only [List.getElem?_map,List.getElem?_take] at hi ⊢
 split at hi
 ·exact hi
 ·cases hi
variable {rd:Option Nat} {ops:Array Oper} {S:St} {o:Oper} {out:AOut} {Φ:AOut→Prop} {d:Option (List Sk)} {i:Nat}
theorem Qyc {v:Option AV} {rds:List Nat} {s:Sk} (ho:Z9 ops i st=some o) (he:Zu P false noC st.sto st.objs.length (lk st.slots) o=some (.val ⟨v,[],st.objs.length,rds⟩))
  (hS:Zz ops i st v []=some S) (hc:∀e∈rds,∃c∈s.2,Qke c e) (k:RW P rd base ops (Qz d [s]) (i+1) S Φ):RW P rd base ops d i st Φ:=by
 obtain ⟨h1,h2⟩:=Yb ho
 have hl:=Xn hS
 unfold Zz at hS
 rw [h1] at hS
 simp only at hS
 split at hS
 ·rename_i objs slots ha hp
  cases hS
  exact Qaj ⟨o,_,h1,Qin K6 h2 he ha hp hl,⟨fun e he=>(by cases he),hc⟩⟩ k
 ·cases hS
theorem Q3x {ob cl len:Nat} {ro nr fl:Bool} {w:Nat} {cells:List AV} {n:Int} (hi:Qen P ops i st=some (.ref ob 0 len,n,w)) (hrow:st.sto ob=some (.row false ro nr fl w cells)) (h1:0≤n) (h2:n.toNat < len) (hcl:Qke cl ob)
  (hS:Zz ops i st (some (.ptr ob n.toNat 0)) []=some S) (k:RW P rd base ops (Qz d [([],[cl])]) (i+1) S Φ):RW P rd base ops d i st Φ:=by
 obtain ⟨o,t,x,ix,kk,T,e,E,ho,hop,hT,hk,hE,rfl,hx,hix⟩:=Qev hi
 refine Qyc (v:=some (.ptr ob n.toNat 0)) (rds:=[ob]) ho ?_ hS (fun e he=>⟨cl,by simp,by simp at he; subst he; exact hcl⟩) k
 have hneg:¬ n < 0:=by omega
 unfold Zu
 rw [hop]
 simp only [Xu,Bool.false_eq_true,if_false]
 unfold evalOp
 rw [hop]
 simp only [hT,hx,hix,hk,asN,hneg,if_false,hE,hrow,blt_true h2,Bool.true_and,decide_true,if_true,Xk,Nat.zero_add]
theorem Q3d {ob cl m c:Nat} {bx ro nr fl:Bool} {w:Nat} {cells:List AV} {y:AV} (hp:Qd1 ops i st=some (ob,m,c)) (hrow:st.sto ob=some (.row bx ro nr fl w cells)) (hy:cells[m]?=some y) (hcl:Qke cl ob)
  (hS:Qi8 P ops i st c y=some S) (k:RW P rd base ops (Qz d [([],[cl])]) (i+1) S Φ):RW P rd base ops d i st Φ:=by
 unfold Qi8 at hS
 split at hS
 ·rename_i o ho
  split at hS
  ·rename_i t x hop
   split at hS
   ·rename_i T hT
    split at hS
    ·rename_i v hv
     have hx:evo (lk st.slots) x=some (.ptr ob m c):=by
      unfold Qd1 at hp
      rw [ho] at hp
      simp only [hop] at hp
      split at hp
      ·rename_i hx; cases hp; exact hx
      ·cases hp
     refine Qyc (v:=some v) (rds:=[ob]) ho ?_ hS (fun e he=>⟨cl,by simp,by simp at he; subst he; exact hcl⟩) k
     unfold Zu
     rw [hop]
     simp only [Xu,Bool.false_eq_true,if_false]
     unfold evalOp
     rw [hop]
     simp only [hT,hx,hrow,hy,hv,Option.map_some,Xk]
    ·cases hS
   ·cases hS
  ·cases hS
 ·cases hS
theorem exec_post {c:Code} {e:Z5} {st1:St} (h:Xf P rd base c st (.go e st')) (hw:Wk P base st' st1):Xf P rd base c st (.go e st1):=by
 intro B W0 D0 dl M ι a W n Q r hs hr hp
 refine h B W0 D0 dl M ι a W n Q r hs hr ⟨fun e' s he dl' M' ι' a' W' g1 g2 g3 g4=>?_,fun v he=>(by cases he)⟩
 cases he
 obtain ⟨M2,ι2,k1,k2,k3⟩:=hw _ _ _ _ _ _ _ _ g4
 exact hp.go e st1 rfl dl' M2 ι2 a' W' (g1.trans k1) (g2.trans k2) g3 k3
theorem Qok {c:Code} (h:WP P rd base c st (fun out=>match out with | .go e s=>∃s1,Wk P base s s1∧Φ (.go e s1) | .pan v=>Φ (.pan v))):WP P rd base c st Φ:=by
 obtain ⟨out,h1,h2⟩:=h
 cases out with
 | pan v=>exact ⟨_,h1,h2⟩
 | go e s=>obtain ⟨s1,h3,h4⟩:=h2; exact ⟨_,exec_post h1 h3,h4⟩
theorem Xa {α R:Type} {enc:α→AV} {l:List α} {ob:Nat} {ro nr fl:Bool} {lo hi:Option AV} {a b:Int} {w:Nat} {A:Option R} {r:R} (hi':Qe9 P ops i st=some (.ref ob 0 l.length,lo,hi,none,w)) (hrow:st.sto ob=some (.row false ro nr fl w (l.map enc)))
  (ha:loI lo=some a) (hb:hiI l.length hi=some b) (hS:Zz ops i st (some (.ref ob a.toNat (b.toNat - a.toNat))) []=some S)
  (h:(if 0≤a∧a≤b∧b≤l.length then A else none)=some r) (k:(0≤a∧a≤b∧b≤(l.length:Int))→A=some r→RW P rd base ops (Qz d [([],[ob])]) (i+1) S Φ):RW P rd base ops d i st Φ:=by
 by_cases hc:0≤a∧a≤b∧b≤(l.length:Int)
 ·exact Q11 hi' hrow ha hb hS h (fun h=>k hc h)
 ·rw [if_neg hc] at h; cases h
theorem Qyp {α:Type} {l:List α} {a b:Int} (h:0≤a∧a≤b∧b≤(l.length:Int)):b.toNat = (l.take b.toNat).length:=by
 rw [List.length_take]; omega
end
end Go.Ab
namespace Go.Ab
open Go.RowKit
open Go.ChangeShapes in
theorem post_of_below {H:Type} {enc:TypeId × Value→H} {P:Program} {f:Func} {s:ChangeSpec} {apart fresh handsOn again:Bool} {W W':World} {args:Array Value} {v:Value} {ds gs:List (DataW H)} {before pa pv:List MemPlace}
  (hW:DataW.Whole enc P f.params.toList s.vars apart W args.toList ds gs before)
  (hres:∀(b:Nat) (sp:Nat → Bool) (hd:Bool),DataW.TrodAll enc P W' b sp hd f.resultTypes.toList (v.resultList f.resultTypes.size) (s.fn H (ds++gs)).results [])
  (hargs:∀sp:Nat → Bool,(∀p∈before,sp p.block=true)→DataW.TrodAll enc P W' 0 sp true f.params.toList args.toList (s.fn H (ds++gs)).args pa)
  (hvars:∀sp:Nat → Bool,(∀p∈before,sp p.block=true)→DataW.TrodVars enc P W' sp s.vars (s.fn H (ds++gs)).vars pv)
  (hps:before=pa++pv) (hb:Below W.heap.size W W')
  (hok:∀(j:Nat) (t:TypeId) (r:Value),f.resultTypes[j]?=some t→(v.resultList f.resultTypes.size)[j]?=some r→Value.okWide P W' .any 0 t r) :
  s.post enc P f apart fresh handsOn again W args v W':=by
 have hold:∀p∈before,(fun b=>decide (b < W.heap.size)) p.block=true:=fun p hp=>by simpa using hW.lt p hp
 have hlt:=hW.lt
 refine ⟨ds,gs,before,[],pa,pv,hW,hres _ _ _,hargs _ hold,hvars _ hold,World.keptBut_mono (fun p hp=>⟨hp,?_⟩) (hb.frame (·∈before)),fun _=>?_⟩
 ·rw [hps,List.mem_append] at hp
  exact Or.inr hp
 ·obtain ⟨_,_,_,_,_,hz,hn⟩:=hW
  refine ⟨hok,_,_,([]++pa)++pv,⟨[]++pa,pv,trodAll_append (hargs _ (fun _ _=>rfl)) (hres _ _ _),hvars _ (fun _ _=>rfl),rfl,?_,?_⟩,?_⟩
  ·intro b off hp
   have hm:MemPlace.cell b off∈before:=by rw [hps]; simpa using hp
   have h1:b < W.heap.size:=hlt _ hm
   rw [hb.frozen h1]
   exact hz b off hm
  ·intro ha
   have:=hn ha
   rw [hps] at this
   simpa using this
  ·intro p hp _
   rw [hps]
   simpa using hp
end Go.Ab
namespace Go.Ab
open Go.RowKit
theorem Quv {M:CM} {ι:Inj} {v:Value} {fl:Bool} (h:Qa M ι v (.lst fl [])):Qa M ι v .nils∨Qa M ι v .emn:=by
 cases h with
 | lst0 a =>
  cases a with
  | none=>exact .inl .nils
  | some a=>exact .inr (.emn a 0)
 | lst b off cap=>exact .inr (.emn _ cap)
theorem Qy.nil {P:Program} {f:FuncId} {l1 l2:List AV} {fl:Bool} {out:Xd} (h1:Qy P f (l1++.nils::l2) out) (h2:Qy P f (l1++.emn::l2) out):Qy P f (l1++.lst fl []::l2) out:=by
 intro W M vs hM hsz hr
 have hlt:l1.length < vs.size:=by simp at hsz; omega
 have h0:=hr l1.length vs[l1.length] (.lst fl []) (by simp [hlt]) (by simp)
 have other:∀y,Qa M noInj vs[l1.length] y→∀(j:Nat) (v:Value) (a:AV),vs[j]?=some v→(l1++y::l2)[j]?=some a→Qa M noInj v a:=by
  intro y hy j v a hv ha
  rcases Nat.lt_trichotomy j l1.length with c | c | c
  ·refine hr j v a hv ?_
   rw [List.getElem?_append_left c] at ha ⊢; exact ha
  ·subst c
   rw [List.getElem?_append_right (Nat.le_refl _)] at ha
   simp at ha; subst ha
   rw [Array.getElem?_eq_getElem hlt] at hv; cases hv; exact hy
  ·refine hr j v a hv ?_
   rw [List.getElem?_append_right (by omega)] at ha ⊢
   rw [show j - l1.length=(j - l1.length - 1)+1 by omega] at ha ⊢
   simpa using ha
 rcases Quv h0 with e | e
 ·exact h1 W M vs hM (by simpa using hsz) (other _ e)
 ·exact h2 W M vs hM (by simpa using hsz) (other _ e)
section
variable {P:Program} {base:Nat} {st st':St}
end
theorem Qy.froz {P:Program} {f:FuncId} {args:List AV} {v y:AV} {objs:List AObj} {ids:List Nat} (h:Qy P f args (.ret v objs)) (hs:Qn (fun k=>objs[k]?) Qm v=some (y,ids)):Qy P f args (.ret y []):=by
 intro W M vs hM hsz hr
 refine (h W M vs hM hsz hr).mono fun e W' he=>?_
 obtain ⟨u,M',ι',rfl,hg,hrel,hout,hv⟩:=he
 refine ⟨u,_,noInj,rfl,hg.trans (hrel.growC ids),⟨hrel.size,hrel.below,hrel.defs,Qcm hrel.agree,fun o bx nr fl w xs p k ho=>(by simp at ho),fun o bx ro nr fl w xs ho=>(by simp at ho),fun o fn sl ps as bd st pe ho=>(by simp at ho),fun o o' bx nr fl w xs bx' nr' fl' w' xs' p p' _ ho=>(by simp at ho),fun o o' fn sl ps as bd st pe fn' sl' ps' as' bd' st' pe' p p' _ ho=>(by simp at ho),fun o _=>.inl (by simp)⟩,fun _ _=>rfl,Y9 hrel ids Qm v y ids u hs (fun k hk=>hk) hv⟩
def ovr {α:Type} (l:List α) (i:Nat):List α→List α
 | []=>l
 | y::ys=>ovr (l.set i y) (i+1) ys
theorem Jf {α:Type}:∀(m l:List α) (i:Nat),l.length=(ovr l i m).length
 | [],l,i=>rfl
 | y::ys,l,i=>by simp only [ovr]; rw [←Jf ys (l.set i y) (i+1),List.length_set]
theorem Qn9 {α:Type} (enc:α→AV):∀(m l:List α) (i:Nat),Jh (l.map enc) i (m.map enc)=(ovr l i m).map enc
 | [],l,i=>rfl
 | y::ys,l,i=>by
  simp only [List.map_cons,Jh,ovr]
  rw [←Qn9 enc ys (l.set i y) (i+1),List.map_set]
section
variable {P:Program} {rd:Option Nat} {base:Nat} {ops:Array Oper} {st S:St} {Φ:AOut→Prop} {d:Option (List Sk)} {i:Nat}
theorem Q6 {σ:Sto} {α:Type} {enc:α→AV} {l:List α} {w ob:Nat} {a b:Int} {ro nr fl:Bool} (hrow:σ ob=some (.row false ro nr fl w (l.map enc))) (hc:0≤a∧a≤b∧b≤(l.length:Int)) :
  Yt σ w (.ref ob a.toNat (b.toNat - a.toNat))=some ((sub l a b).map enc,nr,fl,[ob]):=by
 have h1:Nat.ble (a.toNat + (b.toNat - a.toNat)) (l.map enc).length=true:=Nat.ble_eq_true_of_le (by simp; omega)
 simp [Yt,hrow,sub]
 omega
end
end Go.Ab
