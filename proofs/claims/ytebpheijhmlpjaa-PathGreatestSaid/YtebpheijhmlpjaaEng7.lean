/- Rules on plain values. No conditions. -/
import Derived.Test.YtebpheijhmlpjaaEng6
import Derived.RowKit3
import Derived.ChangeSame
set_option linter.all false
namespace Go.Ab
open Go.RowKit
section
variable {P:Program} {B:Nat} {W0 W:World} {D D0 dl:List Nat} {M:CM} {ι:Inj} {σ:Sto} {st st':St} {a:Act} {base:Nat}
theorem Rel.row1 (h:Rel P B W0 D M ι σ W) {o:Nat} {bx nr fl bx' nr' fl':Bool} {w:Nat} {xs xs':List AV} (hσ:σ o=some (.row bx false nr fl w xs)) (hl:xs'.length≤xs.length)
  (hs:∀x∈xs',AV.shaped x w) (hnr:nr'=true→AV.nrL xs'=true) (hfl:fl'=true→∀x∈xs',AV.scs x=true)
  (hc:∀(i j:Nat) (x' y':AV),xs'[i]?=some x'→x'.flat[j]?=some y'→∃x y,xs[i]?=some x∧x.flat[j]?=some y∧∀v,RepV M ι v y→RepV M ι v y') :
  Rel P B W0 D M ι (σ.put o (.row bx' false nr' fl' w xs')) W:=by
 obtain ⟨p,hp,hrow⟩:=h.row o _ _ _ _ _ _ hσ
 have key:=h.write (bx':=bx') (nr':=nr') (fl':=fl') (xs':=xs') hσ hp 0 [] (by simp) (Nat.le_trans hl hrow.len) hs hnr hfl (fun i j x y hi hj hlo hhi=>by simp at hhi)
  (fun i j x' y' hi hj _=>by
   obtain ⟨x,y,h1,h2,h3⟩:=hc i j x' y' hi hj
   obtain ⟨v,hv,hr⟩:=hrow.cells i j x y h1 h2
   exact ⟨v,by rw [←Nat.add_assoc]; exact hv,h3 v hr⟩)
 exact key
theorem Rel.virts (h:Rel P B W0 D M ι σ W) (S:Nat → Prop) [DecidablePred S] (w:Nat) (fl:Bool) (hw:0 < w) (hS:∀o,S o→ι o=none) :
  Rel P B W0 D M (fun o=>if S o then some ⟨B,0,w,0⟩ else ι o) (fun o=>if S o then some (.row false false true fl w []) else σ o) W:=by
 have hle:ι.le (fun o=>if S o then some ⟨B,0,w,0⟩ else ι o):=fun o p hp=>by
  by_cases e:S o
  ·rw [hS o e] at hp; cases hp
  ·simp [e,hp]
 refine ⟨h.size,h.below,h.defs,h.agree,fun k bx1 nr1 fl1 w1 xs1 q j hk hq hj=>?_,?_,?_,?_,?_,?_⟩
 ·by_cases e:S k
  ·simp only [e,if_true] at hk hq; cases hk; cases hq; simp at hj
  ·simp only [e,if_false] at hk hq; exact h.cool _ _ _ _ _ _ _ _ hk hq hj
 ·intro o bx ro nr fl' w' xs ho
  by_cases e:S o
  ·simp only [e,if_true] at ho ⊢
   cases ho
   exact ⟨_,rfl,⟨rfl,hw,.inr rfl,Nat.le_refl _,by simp,by simp [AV.nrL],by simp,by simp,fun _=>⟨Nat.le_refl _,fun k hk=>by simp at hk⟩,fun hf=>by cases hf⟩⟩
  ·simp only [e,if_false] at ho ⊢
   obtain ⟨q,hq,hr⟩:=h.row o bx ro nr fl' w' xs ho
   refine ⟨q,hq,⟨hr.pw,hr.pos,hr.cpos,hr.len,hr.shaped,hr.nr,hr.fl,fun i j x y hi hj=>?_,hr.own,hr.imm⟩⟩
   obtain ⟨v,hv,hrep⟩:=hr.cells i j x y hi hj
   exact ⟨v,hv,hrep.mono (CM.le_refl _) hle⟩
 ·intro o fn sl ps as bd st pe ho
  by_cases e:S o
  ·simp [e] at ho
  ·simp only [e,if_false] at ho ⊢
   obtain ⟨q,nt,hq,hnt,hb,tmps,hsz,hrec,hsl⟩:=h.loop o fn sl ps as bd st pe ho
   exact ⟨q,nt,hq,hnt,hb,tmps,hsz,hrec,loopRec_mono (CM.le_refl _) hle hsl⟩
 ·intro o o' bx nr fl1 w1 xs1 bx' nr' fl2 w2 xs2 p p' hne h1 h2 hp hp'
  by_cases e:S o
  ·simp only [e,if_true] at hp
   cases hp
   right; left; simp
  ·by_cases e':S o'
   ·simp only [e',if_true] at hp'
    cases hp'
    right; right; simp
   ·simp only [e,e',if_false] at h1 h2 hp hp'
    exact h.apart _ _ _ _ _ _ _ _ _ _ _ _ _ _ hne h1 h2 hp hp'
 ·intro o o' fn sl ps as bd st pe fn' sl' ps' as' bd' st' pe' p p' hne h1 h2 hp hp'
  by_cases e:S o
  ·simp [e] at h1
  ·by_cases e':S o'
   ·simp [e'] at h2
   ·simp only [e,e',if_false] at h1 h2 hp hp'
    exact h.loops _ _ _ _ _ _ _ _ _ _ _ _ _ _ _ _ _ _ hne h1 h2 hp hp'
 ·intro o ho
  by_cases e:S o
  ·simp [e] at ho
  ·simp only [e,if_false] at ho ⊢
   exact h.used o ho
theorem wk_fam (o w:Nat) (fl:Bool) {α γ:Type} {x0:α} {n:Nat} {enc1:α→AV} (enc:γ→AV) {nr0 fl0:Bool} (ho:st.objs[o]?=some (.row false false nr0 fl0 1 ((List.replicate n x0).map enc1))) (ha:isNil (enc1 x0)=true)
  (hw:(Nat.blt 0 w && Nat.blt st.objs.length BIG)=true)
  (hS:(⟨st.slots,st.objs.set o (.refs st.objs.length ((List.replicate n ([]:List γ)).map fun l=>l.map enc))++[.fam w fl ((List.replicate n ([]:List γ)).map fun l=>l.map enc)],st.nt⟩:St)=st'):Wk P base st st':=by
 classical
 subst hS
 simp only [Bool.and_eq_true] at hw
 have hw0:=of_blt hw.1
 have hbig:=of_blt hw.2
 intro B W0 D0 dl M ι a W h
 have hol:o < st.objs.length:=(List.getElem?_eq_some_iff.1 ho).1
 have hob:=h.lt ho
 generalize hxs:((List.replicate n ([]:List γ)).map fun l=>l.map enc)=xs at *
 have hxl:xs.length=n:=by rw [←hxs]; simp
 have hxe:∀(i:Nat) (l:List AV),xs[i]?=some l→l=[]:=fun i l hi=>by
  rw [←hxs] at hi
  simp only [List.getElem?_map,List.getElem?_replicate] at hi
  split at hi
  ·simp at hi; exact hi
  ·cases hi
 have hS:∀id,(∃i,id=fid st.objs.length i)→ι id=none:=fun id hid=>h.new id (by
  obtain ⟨i,rfl⟩:=hid
  rintro (c | ⟨k,i',hk,e⟩)
  ·have:=fid_big st.objs.length i; omega
  ·have:=(fid_inj e).1; omega)
 have r1:=h.rel.virts (fun id=>∃i,id=fid st.objs.length i) w fl hw0 hS
 have hle:ι.le (fun id=>if (∃i,id=fid st.objs.length i) then some ⟨B,0,w,0⟩ else ι id):=fun id p hp=>by
  by_cases e:∃i,id=fid st.objs.length i
  ·rw [hS id e] at hp; cases hp
  ·simp only [e,if_false]; exact hp
 have hno:¬ ∃i,o=fid st.objs.length i:=fun ⟨i,e⟩=>by have:=fid_big st.objs.length i; omega
 have hos:(fun id=>if (∃i,id=fid st.objs.length i) then some (AObj.row false false true fl w []) else sto st.objs id) o=some (.row false false nr0 fl0 1 ((List.replicate n x0).map enc1)):=by
  simp only [hno,if_false]; exact sto_at hob ho rfl
 have r2:=r1.row1 (bx':=false) (nr':=false) (fl':=false) (xs':=famRefs st.objs.length 0 xs) hos (by simp [famRefs_length,hxl]) (fun x hx=>by
   obtain ⟨i,hi⟩:=List.mem_iff_getElem?.1 hx
   rw [famRefs_at] at hi
   cases hl:xs[i]? with
   | none=>rw [hl] at hi; cases hi
   | some l=>rw [hl] at hi; simp at hi; subst hi; exact ⟨.inr rfl,rfl,fun z hz=>by simp [AV.flat] at hz; subst hz; rfl⟩) (by simp) (by simp)
  (fun i c x' y' hi hc=>by
   rw [famRefs_at] at hi
   cases hl:xs[i]? with
   | none=>rw [hl] at hi; cases hi
   | some l =>
    rw [hl] at hi
    have hl0:=hxe i l hl
    subst hl0
    simp only [Option.map_some,Nat.zero_add,List.length_nil,Option.some.injEq] at hi
    subst hi
    have hin:i < n:=by rw [←hxl]; exact (List.getElem?_eq_some_iff.1 hl).1
    obtain ⟨p0,_,hrow0⟩:=h.rel.row o _ _ _ _ _ _ (sto_at hob ho rfl)
    have hx0:((List.replicate n x0).map enc1)[i]?=some (enc1 x0):=by simp [hin]
    cases c with
    | succ c=>simp [AV.flat] at hc
    | zero =>
     simp only [AV.flat,List.getElem?_cons_zero,Option.some.injEq] at hc
     subst hc
     have hf:(enc1 x0).flat[0]?=some (enc1 x0):=by cases hz:enc1 x0 <;> simp [hz,isNil] at ha <;> rfl
     refine ⟨_,_,hx0,hf,fun v hv=>?_⟩
     obtain ⟨ad,rfl⟩:=isNil_rep ha hv
     exact .ref0 ad _ ⟨B,0,w,0⟩ (if_pos ⟨i,rfl⟩) rfl)
 have key:∀k,sto (st.objs.set o (.refs st.objs.length xs)++[.fam w fl xs]) k=Sto.put (fun id=>if (∃i,id=fid st.objs.length i) then some (AObj.row false false true fl w []) else sto st.objs id) o (.row false false false false 1 (famRefs st.objs.length 0 xs)) k ∨
   sto (st.objs.set o (.refs st.objs.length xs)++[.fam w fl xs]) k=none∨sto (st.objs.set o (.refs st.objs.length xs)++[.fam w fl xs]) k=some .dead:=by
  intro k
  have hget:∀m:Nat,m≠o→m≠st.objs.length→(st.objs.set o (AObj.refs st.objs.length xs)++[AObj.fam w fl xs])[m]?=st.objs[m]?:=fun m h1 h2=>by
   rcases Nat.lt_or_ge m st.objs.length with c | c
   ·rw [List.getElem?_append_left (by simpa using c),List.getElem?_set_ne (Ne.symm h1)]
   ·rw [List.getElem?_eq_none (by simp; omega),List.getElem?_eq_none c]
  have hgo:(st.objs.set o (AObj.refs st.objs.length xs)++[AObj.fam w fl xs])[o]?=some (.refs st.objs.length xs):=by
   rw [List.getElem?_append_left (by simpa using hol),List.getElem?_set_self hol]
  have hgj:(st.objs.set o (AObj.refs st.objs.length xs)++[AObj.fam w fl xs])[st.objs.length]?=some (.fam w fl xs):=by
   rw [List.getElem?_append_right (by simp)]; simp
  rcases Nat.lt_or_ge k BIG with c | c
  ·have hnk:¬ ∃i,k=fid st.objs.length i:=fun ⟨i,e⟩=>by have:=fid_big st.objs.length i; omega
   rw [sto_low c]
   by_cases e:k=o
   ·subst e; left; rw [hgo,Sto.put_same]; rfl
   ·by_cases e2:k=st.objs.length
    ·subst e2; right; right; rw [hgj]; rfl
    ·left; rw [hget k e e2,Sto.put_ne _ _ e]; simp only [hnk,if_false]; rw [sto_low c]
  ·have eo:k≠o:=fun e=>by omega
   rw [Sto.put_ne _ _ eo]
   rcases sto_cases (st.objs.set o (AObj.refs st.objs.length xs)++[AObj.fam w fl xs]) k with ⟨c',_⟩ | ⟨_,⟨m,i,w',fl',ys,l,rfl,e2,e3,e4⟩ | e⟩
   ·omega
   ·left
    rw [e4]
    by_cases em:m=st.objs.length
    ·subst em
     rw [hgj] at e2; cases e2
     have:=hxe i l e3; subst this
     have hex:∃i',fid st.objs.length i=fid st.objs.length i':=⟨i,rfl⟩
     simp only [hex,if_true]
    ·have hex:¬ ∃i',fid m i=fid st.objs.length i':=fun ⟨i',e⟩=>em (fid_inj e).1
     simp only [hex,if_false]
     have emo:m≠o:=fun e=>by subst e; rw [hgo] at e2; cases e2
     rw [hget m emo em] at e2
     rw [sto_inner e2 e3]
   ·exact .inr (.inl e)
 refine ⟨M,_,.refl _ _,hle.leB base,⟨r2.forget key,h.slots.mono (CM.le_refl _) hle,h.nt,h.df,fun k hk=>?_,by simp; omega⟩⟩
 have hk:¬ InB (st.objs.length+1) k:=by simpa using hk
 have hex:¬ ∃i,k=fid st.objs.length i:=fun ⟨i,e⟩=>hk (.inr ⟨st.objs.length,i,Nat.lt_succ_self _,e⟩)
 simp only [hex,if_false]
 exact h.new k (fun c=>hk (c.mono (Nat.le_succ _)))
def safeIds (m:Nat) (ids:List Nat):Bool:=ids.all fun k=>Nat.blt k BIG && !Nat.beq k m
def AObj.safe (m j:Nat):AObj→Bool
 | .row _ _ nr _ _ xs=>nr || safeIds m (AV.idsL xs)
 | .loop _ sl _ _ _ _ _=>safeIds m (AV.idsL (sl.map (·.2)))
 | .refs j' _=>!Nat.beq j' j
 | _=>true
def safeAll (m j o:Nat):Nat → List AObj→Bool
 | _,[]=>true
 | k,x::xs=>(Nat.beq k o || x.safe m j) && safeAll m j o (k+1) xs
theorem safeAll_at {m j o:Nat}:∀{k:Nat} {xs:List AObj},safeAll m j o k xs=true→∀(i:Nat) (x:AObj),xs[i]?=some x→k+i≠o→x.safe m j=true
 | _,[],_,i,x,h,_=>by simp at h
 | k,y::ys,h,i,x,hi,hne=>by
  simp only [safeAll,Bool.and_eq_true,Bool.or_eq_true] at h
  cases i with
  | zero =>
   simp at hi; subst hi
   rcases h.1 with e | e
   ·exact absurd (Nat.eq_of_beq_eq_true e) hne
   ·exact e
  | succ i=>exact safeAll_at h.2 i x (by simpa using hi) (by omega)
def safeSlots (m:Nat) (s:List (Nat × AV)):List Nat → List (Nat × AV)
 | []=>[]
 | t::ts=>match lk s t with
  | some x=>if safeIds m x.ids then (t,x)::safeSlots m s ts else safeSlots m s ts
  | none=>safeSlots m s ts
theorem safeSlots_lk {m:Nat} {s:List (Nat × AV)}:∀{ts:List Nat} {t:Nat} {x:AV},lk (safeSlots m s ts) t=some x→lk s t=some x∧safeIds m x.ids=true
 | [],t,x,h=>by simp [safeSlots,lk] at h
 | t0::ts,t,x,h=>by
  simp only [safeSlots] at h
  split at h
  ·rename_i y hy
   split at h
   ·rename_i hs
    simp only [lk] at h
    split at h
    ·rename_i e
     have e:=Nat.eq_of_beq_eq_true e
     subst e; cases h; exact ⟨hy,hs⟩
    ·exact safeSlots_lk h
   ·exact safeSlots_lk h
  ·exact safeSlots_lk h
theorem safeIds_at {m:Nat} {ids:List Nat} (h:safeIds m ids=true):∀k∈ids,k < BIG∧k≠m:=fun k hk=>by
 simp only [safeIds,List.all_eq_true,Bool.and_eq_true,Bool.not_eq_true'] at h
 obtain ⟨h1,h2⟩:=h k hk
 exact ⟨of_blt h1,fun e=>by rw [e,Nat.beq_refl] at h2; cases h2⟩
theorem flat_ids {x y:AV} (h:y∈x.flat):∀o∈y.ids,o∈x.ids:=by
 cases x with
 | agg cs=>intro o ho; simp only [AV.ids,idsL_mem]; exact ⟨y,h,ho⟩
 | _=>simp only [AV.flat,List.mem_singleton] at h; subst h; exact fun o ho=>ho
theorem TrE.congr {ι':Inj} {x:AV} (h:∀o∈x.ids,ι' o=ι o):TrE M ι ι' x x :=
 ⟨fun _ h=>h,fun h=>h,fun j y hj=>⟨y,hj,fun v hv=>hv.congr (fun o ho=>h o (flat_ids (List.mem_of_getElem? hj) o ho)),fun v hv=>hv⟩⟩
theorem TrE.ref {ι':Inj} {o o' n:Nat} (h:∀p,ι o=some p→ι' o'=some p):TrE M ι ι' (.ref o 0 n) (.ref o' 0 n):=by
 refine ⟨fun w hw=>ren_shaped (f:=fun _=>some o') rfl hw,fun h=>(by cases h),fun c y' hc=>?_⟩
 cases c with
 | succ c=>simp [AV.flat] at hc
 | zero =>
  simp only [AV.flat,List.getElem?_cons_zero,Option.some.injEq] at hc
  subst hc
  refine ⟨_,rfl,fun v hv=>?_,fun v hv=>?_⟩
  ·obtain ⟨p,hp,hq⟩:=rep_ref hv
   exact hq _ _ (h p hp)
  ·obtain ⟨p,hp,_⟩:=rep_ref hv
   cases hp
theorem Sim.adopt (h:Sim P B W0 D0 dl M ι st a W) {o j m n w:Nat} {fl:Bool} {cells l:List AV} {xs xs':List (List AV)} {live:List Nat}
  (ho:st.objs[o]?=some (.row false false false false 1 cells)) (hj:st.objs[j]?=some (.fam w fl xs)) (hm:st.objs[m]?=some (.row false false true fl w l))
  (hlen:xs'.length=cells.length) (hn:cells[n]?=some (.ref m 0 l.length)) (hxn:xs'[n]?=some l)
  (hoth:∀(i:Nat) (c:AV),i≠n→cells[i]?=some c→∃l',xs'[i]?=some l'∧xs[i]?=some l'∧c=.ref (fid j i) 0 l'.length)
  (hsafe:safeAll m j o 0 st.objs=true) (hbm:base≤m) (hbj:base≤j) :
  ∃ι',Inj.leB base ι ι'∧Sim P B W0 D0 dl M ι' ⟨safeSlots m st.slots live,((st.objs.set o (.refs j xs')).set j (.fam w fl xs')).set m .dead,st.nt⟩ a W:=by
 classical
 have hob:=h.lt ho
 have hjb:=h.lt hj
 have hmb:=h.lt hm
 have hoj:o≠j:=fun e=>by subst e; rw [ho] at hj; cases hj
 have hom:o≠m:=fun e=>by subst e; rw [ho] at hm; cases hm
 have hjm:j≠m:=fun e=>by subst e; rw [hj] at hm; cases hm
 have hol:=(List.getElem?_eq_some_iff.1 ho).1
 have hjl:=(List.getElem?_eq_some_iff.1 hj).1
 have hml:=(List.getElem?_eq_some_iff.1 hm).1
 have hfm:fid j n≠m:=fun e=>by have:=fid_big j n; omega
 generalize hobjs:((st.objs.set o (.refs j xs')).set j (.fam w fl xs')).set m .dead=objs'
 have gO:objs'[o]?=some (.refs j xs'):=by rw [←hobjs,List.getElem?_set_ne hom.symm,List.getElem?_set_ne hoj.symm,List.getElem?_set_self hol]
 have gJ:objs'[j]?=some (.fam w fl xs'):=by rw [←hobjs,List.getElem?_set_ne hjm.symm,List.getElem?_set_self (by simpa using hjl)]
 have gM:objs'[m]?=some .dead:=by rw [←hobjs,List.getElem?_set_self (by simpa using hml)]
 have gE:∀k:Nat,k≠o→k≠j→k≠m→objs'[k]?=st.objs[k]?:=fun k h1 h2 h3=>by
  rw [←hobjs,List.getElem?_set_ne h3.symm,List.getElem?_set_ne h2.symm,List.getElem?_set_ne h1.symm]
 have gL:objs'.length=st.objs.length:=by rw [←hobjs]; simp
 let g:Nat → Option Nat := fun k=>if k=fid j n then some m else if k=m then none else some k
 have g1:g (fid j n)=some m:=if_pos rfl
 have g2:∀k,k≠fid j n→k≠m→g k=some k:=fun k e1 e2=>by simp only [g,e1,e2,if_false]
 let ι':Inj:=fun k=>(g k).bind ι
 have i1:ι' (fid j n)=ι m:=by simp only [ι',g1,Option.bind_some]
 have i2:∀k,k≠fid j n→k≠m→ι' k=ι k:=fun k e1 e2=>by simp only [ι',g2 k e1 e2,Option.bind_some]
 have isafe:∀ids,safeIds m ids=true→∀k∈ids,ι' k=ι k:=fun ids hs k hk=>by
  obtain ⟨c1,c2⟩:=safeIds_at hs k hk
  exact i2 k (fun e=>by have:=fid_big j n; omega) c2
 have hobj:∀k x',sto objs' k=some x'→x'≠.dead→∃q x,g k=some q∧sto st.objs q=some x∧TrO M ι ι' x x':=by
  intro k x' hk hd
  rcases sto_cases objs' k with ⟨c,e⟩ | ⟨c,⟨q,i,w',fl',ys,z,rfl,e2,e3,e4⟩ | e⟩
  ·rw [e] at hk
   have hkf:k≠fid j n:=fun e=>by have:=fid_big j n; omega
   by_cases ko:k=o
   ·subst ko
    rw [gO] at hk; cases hk
    refine ⟨k,_,g2 k hkf hom,sto_at hob ho rfl,.row _ _ _ _ _ _ _ (by simp [famRefs_length,hlen]) (fun e=>by cases e) (fun i c c' h1 h2=>?_)⟩
    rw [famRefs_at] at h2
    by_cases ein:i=n
    ·subst ein
     rw [hn] at h1; cases h1
     rw [hxn] at h2
     simp only [Option.map_some,Nat.zero_add,Option.some.injEq] at h2
     subst h2
     exact .ref fun p hp=>by rw [i1]; exact hp
    ·obtain ⟨l',e1,_,rfl⟩:=hoth i c ein h1
     rw [e1] at h2
     simp only [Option.map_some,Nat.zero_add,Option.some.injEq] at h2
     subst h2
     exact .ref fun p hp=>by rw [i2 _ (fun e=>ein (fid_inj e).2) (fun e=>by have:=fid_big j i; omega)]; exact hp
   ·by_cases kj:k=j
    ·subst kj; rw [gJ] at hk; cases hk; exact absurd rfl hd
    ·by_cases km:k=m
     ·subst km; rw [gM] at hk; cases hk; exact absurd rfl hd
     ·rw [gE k ko kj km] at hk
      cases hx:st.objs[k]? with
      | none=>rw [hx] at hk; cases hk
      | some x =>
       rw [hx] at hk
       simp only [Option.map_some,Option.some.injEq] at hk
       subst hk
       have hs:=safeAll_at hsafe k x hx (by omega)
       have hst:sto st.objs k=some x.plain:=by rw [sto_low c,hx]; rfl
       refine ⟨k,_,g2 k hkf km,hst,?_⟩
       cases x with
       | dead=>exact absurd rfl hd
       | fam _ _ _=>exact absurd rfl hd
       | row bx ro nr fl0 w0 ys =>
        simp only [AObj.safe,Bool.or_eq_true] at hs
        rcases hs with hs | hs
        ·obtain ⟨_,_,hro⟩:=h.rel.row k _ _ _ _ _ _ hst
         exact .sameRow (hro.nr hs)
        ·exact .row _ _ _ _ _ _ _ rfl (fun _ e=>e) (fun i y y' h1 h2=>by
          rw [h1] at h2; cases h2
          exact TrE.congr fun o ho=>isafe _ hs o (idsL_mem.2 ⟨y,List.mem_of_getElem? h1,ho⟩))
       | loop nt sl ps as bd s pe =>
        simp only [AObj.safe] at hs
        refine .loop _ _ _ _ _ _ _ _ (fun t y hy=>⟨y,hy,fun v hv=>hv.congr fun o ho=>isafe _ hs o (idsL_mem.2 ⟨y,?_,ho⟩)⟩)
        have:∀(s:List (Nat × AV)),lk s t=some y→y∈s.map (·.2):=fun s=>by
         induction s with
         | nil=>intro e; cases e
         | cons q r ih =>
          intro e
          obtain ⟨k0,v0⟩:=q
          simp only [lk] at e
          split at e
          ·cases e; simp
          ·simp [ih e]
        exact this sl hy
       | refs j' ys =>
        simp only [AObj.safe,Bool.not_eq_true'] at hs
        have hjj:j'≠j:=fun e=>by rw [e,Nat.beq_refl] at hs; cases hs
        refine .row _ _ _ _ _ _ _ rfl (fun _ e=>e) (fun i y y' h1 h2=>?_)
        rw [h1] at h2; cases h2
        rw [famRefs_at] at h1
        cases hl:ys[i]? with
        | none=>rw [hl] at h1; cases h1
        | some l0 =>
         rw [hl] at h1
         simp only [Option.map_some,Nat.zero_add,Option.some.injEq] at h1
         subst h1
         exact .ref fun p hp=>by rw [i2 _ (fun e=>hjj (fid_inj e).1) (fun e=>by have:=fid_big j' i; omega)]; exact hp
  ·rw [e4] at hk; cases hk
   have hfk:fid q i≠m:=fun e=>by have:=fid_big q i; omega
   by_cases qj:q=j
   ·subst qj
    rw [gJ] at e2; cases e2
    by_cases ein:i=n
    ·subst ein
     rw [hxn] at e3; cases e3
     have hst:=sto_at hmb hm rfl
     obtain ⟨_,_,hro⟩:=h.rel.row m _ _ _ _ _ _ hst
     exact ⟨m,_,g1,hst,.sameRow (hro.nr rfl)⟩
    ·have hil:i < cells.length:=by rw [←hlen]; exact (List.getElem?_eq_some_iff.1 e3).1
     obtain ⟨l',e1,e5,_⟩:=hoth i _ ein (List.getElem?_eq_getElem hil)
     rw [e1] at e3; cases e3
     have hst:=sto_inner hj e5
     obtain ⟨_,_,hro⟩:=h.rel.row _ _ _ _ _ _ _ hst
     exact ⟨_,_,g2 _ (fun e=>ein (fid_inj e).2) hfk,hst,.sameRow (hro.nr rfl)⟩
   ·have qo:q≠o:=fun e=>by subst e; rw [gO] at e2; cases e2
    have qm:q≠m:=fun e=>by subst e; rw [gM] at e2; cases e2
    rw [gE q qo qj qm] at e2
    have hst:=sto_inner e2 e3
    obtain ⟨_,_,hro⟩:=h.rel.row _ _ _ _ _ _ _ hst
    exact ⟨_,_,g2 _ (fun e=>qj (fid_inj e).1) hfk,hst,.sameRow (hro.nr rfl)⟩
  ·rw [e] at hk; cases hk
 have hrel:Rel P B W0 (dl++D0) M ι' (sto objs') W:=by
  refine h.rel.via g (fun k k' q e1 e2=>?_) (fun k q e=>by simp only [ι',e,Option.bind_some]) hobj (fun k hk=>?_)
  ·by_cases c1:k=fid j n
   ·by_cases c2:k'=fid j n
    ·rw [c1,c2]
    ·by_cases c3:k'=m
     ·simp only [g,c3,Ne.symm hfm,if_false,if_true] at e2; cases e2
     ·rw [g2 k' c2 c3] at e2; cases e2; rw [c1,g1] at e1; cases e1; exact absurd rfl c3
   ·by_cases c3:k=m
    ·simp only [g,c3,Ne.symm hfm,if_false,if_true] at e1; cases e1
    ·rw [g2 k c1 c3] at e1; cases e1
     by_cases c2:k'=fid j n
     ·rw [c2,g1] at e2; cases e2; exact absurd rfl c3
     ·by_cases c4:k'=m
      ·simp only [g,c4,Ne.symm hfm,if_false,if_true] at e2; cases e2
      ·rw [g2 k' c2 c4] at e2; cases e2; rfl
  ·cases hx:sto objs' k with
   | none=>exact .inl rfl
   | some x' =>
    right
    by_cases hd:x'=.dead
    ·rw [hd]
    ·obtain ⟨q,x,e1,e2,e3⟩:=hobj k x' hx hd
     have:ι q=none:=by simpa only [ι',e1,Option.bind_some] using hk
     rcases h.rel.used q this with e | e
     ·rw [e2] at e; cases e
     ·rw [e2] at e; cases e; exact absurd rfl e3.alive
 refine ⟨ι',fun k p hk hp=>?_,⟨hrel,fun t y hy=>?_,h.nt,h.df,fun k hk=>?_,by show objs'.length≤BIG; rw [gL]; exact h.big⟩⟩
 ·have h1:k≠m:=by
   rcases hk with hk | ⟨q,i,hq,rfl⟩
   ·omega
   ·have:=fid_big q i; omega
  have h2:k≠fid j n:=by
   rcases hk with hk | ⟨q,i,hq,rfl⟩
   ·intro e
    have:=fid_big j n; omega
   ·intro e; have:=(fid_inj e).1; omega
  rw [i2 k h2 h1]; exact hp
 ·obtain ⟨q1,q2⟩:=safeSlots_lk hy
  exact (h.slots t y q1).congr fun o ho=>isafe _ q2 o ho
 ·have hk:¬ InB objs'.length k:=hk
  rw [gL] at hk
  by_cases c1:k=fid j n
  ·exact absurd (.inr ⟨j,n,hjl,c1⟩) hk
  ·by_cases c2:k=m
   ·exact absurd (.inl (by omega)) hk
   ·rw [i2 k c1 c2]; exact h.new k hk
abbrev eF {γ:Type} (enc:γ→AV) (ls:List (List γ)):List (List AV):=ls.map fun l=>l.map enc
theorem eF_set {γ:Type} (enc:γ→AV) (ls:List (List γ)) (n:Nat) (b:List γ):eF enc (ls.set n b)=(eF enc ls).set n (b.map enc):=by simp [eF,List.map_set]
theorem wk_adopt (o j m:Nat) {γ:Type} {enc:γ→AV} {ls:List (List γ)} {x b:List γ} {n:Int} {w:Nat} {fl:Bool} (live:List Nat)
  (ho:st.objs[o]?=some (.row false false false false 1 ((famRefs j 0 (eF enc ls)).set n.toNat (.ref m 0 b.length)))) (hj:st.objs[j]?=some (.fam w fl (eF enc ls))) (hm:st.objs[m]?=some (.row false false true fl w (b.map enc)))
  (hx:lkI ls n=some x) (hc:(safeAll m j o 0 st.objs && Nat.ble base m && Nat.ble base j)=true)
  (hS:(⟨safeSlots m st.slots live,((st.objs.set o (.refs j (eF enc (ls.set n.toNat b)))).set j (.fam w fl (eF enc (ls.set n.toNat b)))).set m .dead,st.nt⟩:St)=st'):Wk P base st st':=by
 subst hS
 simp only [Bool.and_eq_true] at hc
 intro B W0 D0 dl M ι a W h
 obtain ⟨_,h2,_⟩:=lkI_lt hx
 obtain ⟨ι',g1,g2⟩:=h.adopt (base:=base) (n:=n.toNat) (xs':=eF enc (ls.set n.toNat b)) (live:=live) ho hj hm (by simp [famRefs_length]) (by rw [List.getElem?_set_self (by simpa [famRefs_length] using h2)]; simp) (by simp [eF,h2])
  (fun i c hi hcc=>by
   rw [List.getElem?_set_ne (Ne.symm hi),famRefs_at] at hcc
   cases hl:(eF enc ls)[i]? with
   | none=>rw [hl] at hcc; cases hcc
   | some l' =>
    rw [hl] at hcc
    simp only [Option.map_some,Nat.zero_add,Option.some.injEq] at hcc
    exact ⟨l',by rw [eF_set,List.getElem?_set_ne (Ne.symm hi)]; exact hl,rfl,hcc.symm⟩) hc.1.1 (Nat.le_of_ble_eq_true hc.1.2) (Nat.le_of_ble_eq_true hc.2)
 exact ⟨M,ι',.refl _ _,g1,g2⟩
theorem frzL_some {σ:Sto} {all:List Nat}:∀(os:List Nat),(∀o∈os,∃bx ro fl w xs,σ o=some (.row bx ro true fl w xs))→∃es,frzL σ all os=some es
 | [],_=>⟨[],rfl⟩
 | o::os,h=>by
  obtain ⟨es,he⟩:=frzL_some (all:=all) os (fun k hk=>h k (by simp [hk]))
  obtain ⟨bx,ro,fl,w,xs,ho⟩:=h o (by simp)
  exact ⟨(o,.row bx true true fl w xs)::es,by simp [frzL,ho,he]⟩
theorem wk_frzF (o j:Nat) {γ:Type} {enc:γ→AV} {ls:List (List γ)} {w:Nat} {fl:Bool} (ho:st.objs[o]?=some (.refs j (eF enc ls))) (hj:st.objs[j]?=some (.fam w fl (eF enc ls)))
  (hS:(⟨st.slots,(st.objs.set o (.row false false true false 1 (ls.map fun l=>eL fl enc l))).set j .dead,st.nt⟩:St)=st'):Wk P base st st':=by
 subst hS
 intro B W0 D0 dl M ι a W h
 have hob:=h.lt ho
 have hjb:=h.lt hj
 have hoj:o≠j:=fun e=>by subst e; rw [ho] at hj; cases hj
 have hol:=(List.getElem?_eq_some_iff.1 ho).1
 have hjl:=(List.getElem?_eq_some_iff.1 hj).1
 let ids:=(List.range ls.length).map (fid j)
 have hin:∀i l,(eF enc ls)[i]?=some l→sto st.objs (fid j i)=some (.row false false true fl w l):=fun i l hi=>sto_inner hj hi
 obtain ⟨es,hes⟩:=frzL_some (σ:=sto st.objs) (all:=ids) ids (fun k hk=>by
  simp only [ids,List.mem_map,List.mem_range] at hk
  obtain ⟨i,hi,rfl⟩:=hk
  exact ⟨false,false,fl,w,_,hin i (ls[i].map enc) (by simp [eF,hi])⟩)
 have r1:=frz_sound h.rel (ids:=ids) hes
 have hg:=h.rel.growC ids
 have hnid:∀k,k < BIG→k ∉ ids:=fun k hk hm=>by
  simp only [ids,List.mem_map,List.mem_range] at hm
  obtain ⟨i,_,rfl⟩:=hm
  have:=fid_big j i; omega
 have hos0:sto st.objs o=some (.row false false false false 1 (famRefs j 0 (eF enc ls))):=by rw [sto_low hob,ho]; rfl
 have hos:(sto st.objs).puts es o=some (.row false false false false 1 (famRefs j 0 (eF enc ls))):=by rw [frz_other hes (hnid o hob)]; exact hos0
 have r2:=r1.row1 (bx':=false) (nr':=true) (fl':=false) (xs':=ls.map fun l=>eL fl enc l) hos (by simp [famRefs_length,eF]) (fun x hx=>by
   simp only [List.mem_map] at hx
   obtain ⟨l,_,rfl⟩:=hx
   exact ⟨.inr rfl,rfl,fun z hz=>by simp [AV.flat] at hz; subst hz; rfl⟩) (fun _=>nrL_mem.2 fun x hx=>by
   simp only [List.mem_map] at hx
   obtain ⟨l,_,rfl⟩:=hx
   rfl) (by simp)
  (fun i c x' y' hi hc=>by
   simp only [List.getElem?_map,Option.map_eq_some_iff] at hi
   obtain ⟨l,hl,rfl⟩:=hi
   have hle:(eF enc ls)[i]?=some (l.map enc):=by simp [eF,hl]
   cases c with
   | succ c=>simp [AV.flat] at hc
   | zero =>
    simp only [AV.flat,List.getElem?_cons_zero,Option.some.injEq] at hc
    subst hc
    refine ⟨.ref (fid j i) 0 (l.map enc).length,.ref (fid j i) 0 (l.map enc).length,by rw [famRefs_at,hle]; simp,rfl,fun v hv=>?_⟩
    have hv0:RepV M ι v (.ref (fid j i) 0 (l.map enc).length):=by
     obtain ⟨p,hp,_⟩:=rep_ref hv
     generalize (l.map enc).length=q at *
     cases hv with
     | ref0 _ _ p hp hc=>exact .ref0 _ _ p hp hc
     | ref _ _ _ p off cap hp h1 h2 h3=>exact .ref _ _ _ p off cap hp h1 h2 h3
    have hsn:snap (sto st.objs) snapDepth (.ref (fid j i) 0 (l.map enc).length)=some (.lst fl (l.map enc),[fid j i]):=by
     show snap (sto st.objs) (snapDepth - 1+1) _=_
     simp only [snap,hin i _ hle]
     simp [List.take_of_length_le]
    have:=snap_sound h.rel ids snapDepth _ _ _ v hsn (fun k hk=>by
     simp at hk; subst hk
     simp only [ids,List.mem_map,List.mem_range]
     exact ⟨i,(List.getElem?_eq_some_iff.1 hl).1,rfl⟩) hv0
    exact this.mono (CM.le_refl _) (Inj.noInj_le _))
 have key:∀k,sto ((st.objs.set o (.row false false true false 1 (ls.map fun l=>eL fl enc l))).set j .dead) k=((sto st.objs).puts es).put o (.row false false true false 1 (ls.map fun l=>eL fl enc l)) k ∨
   sto ((st.objs.set o (.row false false true false 1 (ls.map fun l=>eL fl enc l))).set j .dead) k=none∨sto ((st.objs.set o (.row false false true false 1 (ls.map fun l=>eL fl enc l))).set j .dead) k=some .dead:=by
  intro k
  rcases Nat.lt_or_ge k BIG with c | c
  ·rw [sto_low c]
   by_cases ko:k=o
   ·subst ko; left; rw [Sto.put_same,List.getElem?_set_ne hoj.symm,List.getElem?_set_self hol]; rfl
   ·by_cases kj:k=j
    ·subst kj; right; right; rw [List.getElem?_set_self (by simpa using hjl)]; rfl
    ·left; rw [Sto.put_ne _ _ ko,frz_other hes (hnid k c),List.getElem?_set_ne (Ne.symm kj),List.getElem?_set_ne (Ne.symm ko),sto_low c]
  ·rcases sto_cases ((st.objs.set o (.row false false true false 1 (ls.map fun l=>eL fl enc l))).set j .dead) k with ⟨c',_⟩ | ⟨_,⟨q,i,w',fl',ys,z,rfl,e2,e3,e4⟩ | e⟩
   ·omega
   ·left
    have qj:q≠j:=fun e=>by subst e; rw [List.getElem?_set_self (by simpa using hjl)] at e2; cases e2
    have qo:q≠o:=fun e=>by subst e; rw [List.getElem?_set_ne (Ne.symm qj),List.getElem?_set_self hol] at e2; cases e2
    rw [List.getElem?_set_ne (Ne.symm qj),List.getElem?_set_ne (Ne.symm qo)] at e2
    rw [e4,Sto.put_ne _ _ (fun e=>by have:=fid_big q i; omega),frz_other hes (fun hm=>by
     simp only [ids,List.mem_map,List.mem_range] at hm
     obtain ⟨i',_,e⟩:=hm
     exact qj (fid_inj e).1.symm),sto_inner e2 e3]
   ·exact .inr (.inl e)
 exact ⟨_,ι,hg,.refl _ _,⟨r2.forget key,h.slots.mono hg.le (Inj.le_refl _),h.nt,h.df,fun k hk=>h.new k (by simpa using hk),by simpa using h.big⟩⟩
theorem wk_eq (h:st=st'):Wk P base st st':=by subst h; exact wk_refl
theorem wk_take (m q:Nat) {α:Type} {enc:α→AV} {l:List α} {nr fl:Bool} {w:Nat} (hm:st.objs[m]?=some (.row false false nr fl w (l.map enc))) (hS:(⟨st.slots,st.objs.set m (.row false false nr fl w ((l.take q).map enc)),st.nt⟩:St)=st'):Wk P base st st':=by
 subst hS
 intro B W0 D0 dl M ι a W hs
 have hb:=hs.lt hm
 have hst:=sto_at hb hm rfl
 obtain ⟨p,hp,hrow⟩:=hs.rel.row m _ _ _ _ _ _ hst
 have hmem:∀x∈(l.take q).map enc,x∈l.map enc:=fun x hx=>by
  simp only [List.mem_map] at hx ⊢
  obtain ⟨y,hy,e⟩:=hx
  exact ⟨y,List.mem_of_mem_take hy,e⟩
 refine ⟨M,ι,.refl _ _,.refl _ _,⟨?_,hs.slots,hs.nt,hs.df,fun k hk=>hs.new k (by simpa using hk),by simpa using hs.big⟩⟩
 show Rel P B W0 (dl++D0) M ι (sto (st.objs.set m _)) W
 rw [sto_set hm rfl rfl hb]
 refine hs.rel.row1 hst (by simp; omega) (fun x hx=>hrow.shaped x (hmem x hx)) (fun hn=>nrL_mem.2 fun x hx=>nrL_mem.1 (hrow.nr hn) x (hmem x hx)) (fun hf x hx=>hrow.fl hf x (hmem x hx))
  (fun i c x' y' hi hc=>⟨x',y',?_,hc,fun v hv=>hv⟩)
 simp only [List.getElem?_map,List.getElem?_take] at hi ⊢
 split at hi
 ·exact hi
 ·cases hi
theorem Sim.steal (h:Sim P B W0 D0 dl M ι st a W) {o j n w:Nat} {fl:Bool} {l:List AV} {xs:List (List AV)} {live:List Nat} (hw:0 < w) (hbig:st.objs.length < BIG)
  (ho:st.objs[o]?=some (.refs j xs)) (hj:st.objs[j]?=some (.fam w fl xs)) (hn:xs[n]?=some l) (hsafe:safeAll st.objs.length j o 0 st.objs=true) (hbj:base≤j) (hbs:base≤st.objs.length) :
  ∃ι',Inj.leB base ι ι'∧Sim P B W0 D0 dl M ι' ⟨safeSlots st.objs.length st.slots live,(st.objs.set o (.row false false false false 1 ((famRefs j 0 (xs.set n [])).set n (.ref st.objs.length 0 l.length)))).set j (.fam w fl (xs.set n []))++[.row false false true fl w l],st.nt⟩ a W:=by
 classical
 have hob:=h.lt ho
 have hjb:=h.lt hj
 have hoj:o≠j:=fun e=>by subst e; rw [ho] at hj; cases hj
 have hol:=(List.getElem?_eq_some_iff.1 ho).1
 have hjl:=(List.getElem?_eq_some_iff.1 hj).1
 have hnl:=(List.getElem?_eq_some_iff.1 hn).1
 generalize hmm:st.objs.length=m at *
 have hom:o≠m:=by omega
 have hjm:j≠m:=by omega
 have hfm:∀k i,fid k i≠m:=fun k i e=>by have:=fid_big k i; omega
 generalize hobjs:(st.objs.set o (.row false false false false 1 ((famRefs j 0 (xs.set n [])).set n (.ref m 0 l.length)))).set j (.fam w fl (xs.set n []))++[.row false false true fl w l]=objs'
 have gO:objs'[o]?=some (.row false false false false 1 ((famRefs j 0 (xs.set n [])).set n (.ref m 0 l.length))):=by
  rw [←hobjs,List.getElem?_append_left (by simp; omega),List.getElem?_set_ne hoj.symm,List.getElem?_set_self (by omega)]
 have gJ:objs'[j]?=some (.fam w fl (xs.set n [])):=by
  rw [←hobjs,List.getElem?_append_left (by simp; omega),List.getElem?_set_self (by simp; omega)]
 have gM:objs'[m]?=some (.row false false true fl w l):=by
  rw [←hobjs,List.getElem?_append_right (by simp; omega)]; simp [hmm]
 have gE:∀k:Nat,k≠o→k≠j→k≠m→objs'[k]?=st.objs[k]?:=fun k h1 h2 h3=>by
  rcases Nat.lt_or_ge k m with c | c
  ·rw [←hobjs,List.getElem?_append_left (by simp; omega),List.getElem?_set_ne h2.symm,List.getElem?_set_ne h1.symm]
  ·rw [←hobjs,List.getElem?_eq_none (by simp; omega),List.getElem?_eq_none (by omega)]
 have gL:objs'.length=m+1:=by rw [←hobjs]; simp [hmm]
 have hιm:ι m=none:=h.new m (InB.not (by omega) hbig)
 let g:Nat → Option Nat := fun k=>if k=m then some (fid j n) else if k=fid j n then none else some k
 have g1:g m=some (fid j n):=if_pos rfl
 have g2:∀k,k≠fid j n→k≠m→g k=some k:=fun k e1 e2=>by simp only [g,e1,e2,if_false]
 have g3:g (fid j n)=none:=by simp only [g,hfm j n,if_false,if_true]
 let ι1:Inj:=fun k=>(g k).bind ι
 have i1:ι1 m=ι (fid j n):=by simp only [ι1,g1,Option.bind_some]
 have i2:∀k,k≠fid j n→k≠m→ι1 k=ι k:=fun k e1 e2=>by simp only [ι1,g2 k e1 e2,Option.bind_some]
 have i3:ι1 (fid j n)=none:=by simp only [ι1,g3,Option.bind_none]
 have isafe:∀ids,safeIds m ids=true→∀k∈ids,ι1 k=ι k:=fun ids hs k hk=>by
  obtain ⟨c1,c2⟩:=safeIds_at hs k hk
  exact i2 k (fun e=>by have:=fid_big j n; omega) c2
 let σ1:Sto:=fun k=>if k=fid j n then none else sto objs' k
 have hobj:∀k x',σ1 k=some x'→x'≠.dead→∃q x,g k=some q∧sto st.objs q=some x∧TrO M ι ι1 x x':=by
  intro k x' hk0 hd
  have hkf:k≠fid j n:=fun e=>by subst e; simp [σ1] at hk0
  have hk:sto objs' k=some x':=by simpa only [σ1,hkf,if_false] using hk0
  rcases sto_cases objs' k with ⟨c,e⟩ | ⟨c,⟨q,i,w',fl',ys,z,rfl,e2,e3,e4⟩ | e⟩
  ·rw [e] at hk
   by_cases ko:k=o
   ·subst ko
    rw [gO] at hk; cases hk
    refine ⟨k,.row false false false false 1 (famRefs j 0 xs),g2 k hkf hom,by rw [sto_low hob,ho]; rfl,.row _ _ _ _ _ _ _ (by simp [famRefs_length]) (fun e=>by cases e) (fun i c c' h1 h2=>?_)⟩
    rw [famRefs_at] at h1
    by_cases ein:i=n
    ·subst ein
     rw [hn] at h1
     rw [List.getElem?_set_self (by simpa [famRefs_length] using hnl)] at h2
     simp only [Option.map_some,Nat.zero_add,Option.some.injEq] at h1 h2
     subst h1; subst h2
     exact .ref fun p hp=>by rw [i1]; exact hp
    ·rw [List.getElem?_set_ne (Ne.symm ein),famRefs_at,List.getElem?_set_ne (Ne.symm ein)] at h2
     rw [h1] at h2; cases h2
     cases hl:xs[i]? with
     | none=>rw [hl] at h1; cases h1
     | some l0 =>
      rw [hl] at h1
      simp only [Option.map_some,Nat.zero_add,Option.some.injEq] at h1
      subst h1
      exact .ref fun p hp=>by rw [i2 _ (fun e=>ein (fid_inj e).2) (hfm j i)]; exact hp
   ·by_cases kj:k=j
    ·subst kj; rw [gJ] at hk; cases hk; exact absurd rfl hd
    ·by_cases km:k=m
     ·subst km; rw [gM] at hk; cases hk
      have hst:=sto_inner hj hn
      obtain ⟨_,_,hro⟩:=h.rel.row _ _ _ _ _ _ _ hst
      exact ⟨_,_,g1,hst,.sameRow (hro.nr rfl)⟩
     ·rw [gE k ko kj km] at hk
      cases hx:st.objs[k]? with
      | none=>rw [hx] at hk; cases hk
      | some x =>
       rw [hx] at hk
       simp only [Option.map_some,Option.some.injEq] at hk
       subst hk
       have hs:=safeAll_at hsafe k x hx (by omega)
       have hst:sto st.objs k=some x.plain:=by rw [sto_low c,hx]; rfl
       refine ⟨k,_,g2 k hkf km,hst,?_⟩
       cases x with
       | dead=>exact absurd rfl hd
       | fam _ _ _=>exact absurd rfl hd
       | row bx ro nr fl0 w0 ys =>
        simp only [AObj.safe,Bool.or_eq_true] at hs
        rcases hs with hs | hs
        ·obtain ⟨_,_,hro⟩:=h.rel.row k _ _ _ _ _ _ hst
         exact .sameRow (hro.nr hs)
        ·exact .row _ _ _ _ _ _ _ rfl (fun _ e=>e) (fun i y y' h1 h2=>by
          rw [h1] at h2; cases h2
          exact TrE.congr fun o ho=>isafe _ hs o (idsL_mem.2 ⟨y,List.mem_of_getElem? h1,ho⟩))
       | loop nt sl ps as bd s pe =>
        simp only [AObj.safe] at hs
        refine .loop _ _ _ _ _ _ _ _ (fun t y hy=>⟨y,hy,fun v hv=>hv.congr fun o ho=>isafe _ hs o (idsL_mem.2 ⟨y,?_,ho⟩)⟩)
        have:∀(s:List (Nat × AV)),lk s t=some y→y∈s.map (·.2):=fun s=>by
         induction s with
         | nil=>intro e; cases e
         | cons q r ih =>
          intro e
          obtain ⟨k0,v0⟩:=q
          simp only [lk] at e
          split at e
          ·cases e; simp
          ·simp [ih e]
        exact this sl hy
       | refs j' ys =>
        simp only [AObj.safe,Bool.not_eq_true'] at hs
        have hjj:j'≠j:=fun e=>by rw [e,Nat.beq_refl] at hs; cases hs
        refine .row _ _ _ _ _ _ _ rfl (fun _ e=>e) (fun i y y' h1 h2=>?_)
        rw [h1] at h2; cases h2
        rw [famRefs_at] at h1
        cases hl:ys[i]? with
        | none=>rw [hl] at h1; cases h1
        | some l0 =>
         rw [hl] at h1
         simp only [Option.map_some,Nat.zero_add,Option.some.injEq] at h1
         subst h1
         exact .ref fun p hp=>by rw [i2 _ (fun e=>hjj (fid_inj e).1) (hfm j' i)]; exact hp
  ·rw [e4] at hk; cases hk
   by_cases qj:q=j
   ·subst qj
    rw [gJ] at e2; cases e2
    have ein:i≠n:=fun e=>hkf (by rw [e])
    rw [List.getElem?_set_ne (Ne.symm ein)] at e3
    have hst:=sto_inner hj e3
    obtain ⟨_,_,hro⟩:=h.rel.row _ _ _ _ _ _ _ hst
    exact ⟨_,_,g2 _ hkf (hfm q i),hst,.sameRow (hro.nr rfl)⟩
   ·have qo:q≠o:=fun e=>by subst e; rw [gO] at e2; cases e2
    have qm:q≠m:=fun e=>by subst e; rw [gM] at e2; cases e2
    rw [gE q qo qj qm] at e2
    have hst:=sto_inner e2 e3
    obtain ⟨_,_,hro⟩:=h.rel.row _ _ _ _ _ _ _ hst
    exact ⟨_,_,g2 _ hkf (hfm q i),hst,.sameRow (hro.nr rfl)⟩
  ·rw [e] at hk; cases hk
 have hrel1:Rel P B W0 (dl++D0) M ι1 σ1 W:=by
  refine h.rel.via g (fun k k' q e1 e2=>?_) (fun k q e=>by simp only [ι1,e,Option.bind_some]) hobj (fun k hk=>?_)
  ·have gs:∀k q,g k=some q→(k=m∧q=fid j n)∨(k≠m∧k≠fid j n∧q=k):=fun k q e=>by
    by_cases c1:k=m
    ·rw [c1,g1] at e; cases e; exact .inl ⟨c1,rfl⟩
    ·by_cases c2:k=fid j n
     ·rw [c2,g3] at e; cases e
     ·rw [g2 k c2 c1] at e; cases e; exact .inr ⟨c1,c2,rfl⟩
   rcases gs k q e1 with ⟨a1,a2⟩ | ⟨a1,a2,a3⟩
   ·rcases gs k' q e2 with ⟨b1,b2⟩ | ⟨b1,b2,b3⟩
    ·rw [a1,b1]
    ·exact absurd (b3.symm.trans a2) b2
   ·rcases gs k' q e2 with ⟨b1,b2⟩ | ⟨b1,b2,b3⟩
    ·exact absurd (a3.symm.trans b2) a2
    ·rw [←a3,←b3]
  ·cases hx:σ1 k with
   | none=>exact .inl rfl
   | some x' =>
    right
    by_cases hd:x'=.dead
    ·rw [hd]
    ·obtain ⟨q,x,e1,e2,e3⟩:=hobj k x' hx hd
     have:ι q=none:=by simpa only [ι1,e1,Option.bind_some] using hk
     rcases h.rel.used q this with e | e
     ·rw [e2] at e; cases e
     ·rw [e2] at e; cases e; exact absurd rfl e3.alive
 have hrel2:=hrel1.virts (fun k=>k=fid j n) w fl hw (fun k e=>by rw [e]; exact i3)
 have hσ:(fun k=>if k=fid j n then some (AObj.row false false true fl w []) else σ1 k)=sto objs':=by
  funext k
  by_cases e:k=fid j n
  ·subst e
   simp only [if_true]
   rw [sto_inner gJ (i:=n) (List.getElem?_set_self hnl)]
  ·simp only [e,if_false,σ1]
 rw [hσ] at hrel2
 refine ⟨_,fun k p hk hp=>?_,⟨hrel2,fun t y hy=>?_,h.nt,h.df,fun k hk=>?_,by show objs'.length≤BIG; omega⟩⟩
 ·have h1:k≠m:=fun e=>by rw [e,hιm] at hp; cases hp
  have h2:k≠fid j n:=by
   rcases hk with hk | ⟨q,i,hq,rfl⟩
   ·intro e
    have:=fid_big j n; omega
   ·intro e; have:=(fid_inj e).1; omega
  simp only [h2,if_false]
  rw [i2 k h2 h1]; exact hp
 ·obtain ⟨q1,q2⟩:=safeSlots_lk hy
  refine (h.slots t y q1).congr fun o ho=>?_
  have h2:o≠fid j n:=fun e=>by have:=(safeIds_at q2 o ho).1; have:=fid_big j n; omega
  simp only [h2,if_false]
  exact isafe _ q2 o ho
 ·have hk:¬ InB objs'.length k:=hk
  rw [gL] at hk
  have h2:k≠fid j n:=fun e=>hk (.inr ⟨j,n,by omega,e⟩)
  have h1:k≠m:=fun e=>hk (.inl (by omega))
  simp only [h2,if_false]
  rw [i2 k h2 h1]; exact h.new k (fun c=>hk (c.mono (by omega)))
theorem wk_steal (o j:Nat) {γ:Type} {enc:γ→AV} {ls:List (List γ)} {x:List γ} {n:Int} {w:Nat} {fl:Bool} (live:List Nat)
  (ho:st.objs[o]?=some (.refs j (eF enc ls))) (hj:st.objs[j]?=some (.fam w fl (eF enc ls))) (hx:lkI ls n=some x)
  (hc:(safeAll st.objs.length j o 0 st.objs && Nat.ble base j && Nat.ble base st.objs.length && Nat.blt 0 w && Nat.blt st.objs.length BIG)=true)
  (hS:(⟨safeSlots st.objs.length st.slots live,(st.objs.set o (.row false false false false 1 ((famRefs j 0 (eF enc (ls.set n.toNat []))).set n.toNat (.ref st.objs.length 0 x.length)))).set j (.fam w fl (eF enc (ls.set n.toNat [])))++[.row false false true fl w (x.map enc)],st.nt⟩:St)=st'):Wk P base st st':=by
 subst hS
 simp only [Bool.and_eq_true] at hc
 intro B W0 D0 dl M ι a W h
 obtain ⟨_,h2,h3⟩:=lkI_lt hx
 obtain ⟨ι',g1,g2⟩:=h.steal (base:=base) (n:=n.toNat) (l:=x.map enc) (live:=live) (of_blt hc.1.2) (of_blt hc.2) ho hj (by simp [eF,h3]) hc.1.1.1.1 (Nat.le_of_ble_eq_true hc.1.1.1.2) (Nat.le_of_ble_eq_true hc.1.1.2)
 rw [List.length_map,show (eF enc ls).set n.toNat []=eF enc (ls.set n.toNat []) by rw [eF_set]; rfl] at g2
 exact ⟨M,ι',.refl _ _,g1,g2⟩
variable {rd:Option Nat} {ops:Array Oper} {S:St} {o:Oper} {out:AOut} {Φ:AOut→Prop} {d:Option (List Sk)} {i:Nat}
theorem rw_ofC {v:Option AV} {rds:List Nat} {s:Sk} (ho:opAt ops i st=some o) (he:evOp P false noC st.sto st.objs.length (lk st.slots) o=some (.val ⟨v,[],st.objs.length,rds⟩))
  (hS:finI ops i st v []=some S) (hc:∀e∈rds,∃c∈s.2,CovN c e) (k:RW P rd base ops (dAdd d [s]) (i+1) S Φ):RW P rd base ops d i st Φ:=by
 obtain ⟨h1,h2⟩:=opAt_spec ho
 have hl:=finI_len0 hS
 unfold finI at hS
 rw [h1] at hS
 simp only at hS
 split at hS
 ·rename_i objs slots ha hp
  cases hS
  exact rw_step ⟨o,_,h1,stepF_ev noC_sound h2 he ha hp hl,⟨fun e he=>(by cases he),hc⟩⟩ k
 ·cases hS
theorem idxG {ob cl len:Nat} {ro nr fl:Bool} {w:Nat} {cells:List AV} {n:Int} (hi:idxInfo P ops i st=some (.ref ob 0 len,n,w)) (hrow:st.sto ob=some (.row false ro nr fl w cells)) (h1:0≤n) (h2:n.toNat < len) (hcl:CovN cl ob)
  (hS:finI ops i st (some (.ptr ob n.toNat 0)) []=some S) (k:RW P rd base ops (dAdd d [([],[cl])]) (i+1) S Φ):RW P rd base ops d i st Φ:=by
 obtain ⟨o,t,x,ix,kk,T,e,E,ho,hop,hT,hk,hE,rfl,hx,hix⟩:=idxInfo_spec hi
 refine rw_ofC (v:=some (.ptr ob n.toNat 0)) (rds:=[ob]) ho ?_ hS (fun e he=>⟨cl,by simp,by simp at he; subst he; exact hcl⟩) k
 have hneg:¬ n < 0:=by omega
 unfold evOp
 rw [hop]
 simp only [mayPan,Bool.false_eq_true,if_false]
 unfold evalOp
 rw [hop]
 simp only [hT,hx,hix,hk,asN,hneg,if_false,hE,hrow,blt_true h2,Bool.true_and,decide_true,if_true,onlyVal,Nat.zero_add]
theorem idxF {γ:Type} {enc:γ→AV} {ls:List (List γ)} {x:List γ} {n:Int} {ob j:Nat} (hi:idxInfo P ops i st=some (.ref ob 0 ls.length,n,1)) (hrow:st.sto ob=some (.row false false false false 1 (famRefs j 0 (eF enc ls))))
  (ha:lkI ls n=some x) (hS:finI ops i st (some (.ptr ob n.toNat 0)) []=some S) (k:RW P rd base ops (dAdd d [([],[ob])]) (i+1) S Φ):RW P rd base ops d i st Φ:=by
 obtain ⟨h1,h2,_⟩:=lkI_lt ha
 exact idxG hi hrow h1 h2 (.inl rfl) hS k
theorem fam_row {γ:Type} {enc:γ→AV} {ls:List (List γ)} {x:List γ} {n:Int} {w j:Nat} {fl:Bool} (hj:st.objs[j]?=some (.fam w fl (eF enc ls))) (ha:lkI ls n=some x):st.sto (fid j n.toNat)=some (.row false false true fl w (x.map enc)):=by
 obtain ⟨_,_,h3⟩:=lkI_lt ha
 exact sto_inner hj (by simp [eF,h3])
theorem idxI {γ:Type} {enc:γ→AV} {ls:List (List γ)} {x:List γ} {y:γ} {n c:Int} {w j:Nat} {fl:Bool} (hi:idxInfo P ops i st=some (.ref (fid j n.toNat) 0 x.length,c,w)) (hj:st.objs[j]?=some (.fam w fl (eF enc ls)))
  (ha:lkI ls n=some x) (hy:lkI x c=some y) (hb:Nat.blt j BIG=true) (hS:finI ops i st (some (.ptr (fid j n.toNat) c.toNat 0)) []=some S) (k:RW P rd base ops (dAdd d [([],[j])]) (i+1) S Φ):RW P rd base ops d i st Φ:=by
 obtain ⟨h1,h2,_⟩:=lkI_lt hy
 exact idxG hi (fam_row hj ha) h1 h2 (.inr ⟨of_blt hb,_,rfl⟩) hS k
theorem loadG {ob cl m c:Nat} {bx ro nr fl:Bool} {w:Nat} {cells:List AV} {y:AV} (hp:ptrAt ops i st=some (ob,m,c)) (hrow:st.sto ob=some (.row bx ro nr fl w cells)) (hy:cells[m]?=some y) (hcl:CovN cl ob)
  (hS:loadSt P ops i st c y=some S) (k:RW P rd base ops (dAdd d [([],[cl])]) (i+1) S Φ):RW P rd base ops d i st Φ:=by
 unfold loadSt at hS
 split at hS
 ·rename_i o ho
  split at hS
  ·rename_i t x hop
   split at hS
   ·rename_i T hT
    split at hS
    ·rename_i v hv
     have hx:evo (lk st.slots) x=some (.ptr ob m c):=by
      unfold ptrAt at hp
      rw [ho] at hp
      simp only [hop] at hp
      split at hp
      ·rename_i hx; cases hp; exact hx
      ·cases hp
     refine rw_ofC (v:=some v) (rds:=[ob]) ho ?_ hS (fun e he=>⟨cl,by simp,by simp at he; subst he; exact hcl⟩) k
     unfold evOp
     rw [hop]
     simp only [mayPan,Bool.false_eq_true,if_false]
     unfold evalOp
     rw [hop]
     simp only [hT,hx,hrow,hy,hv,Option.map_some,onlyVal]
    ·cases hS
   ·cases hS
  ·cases hS
 ·cases hS
theorem loadF {γ:Type} {enc:γ→AV} {ls:List (List γ)} {x:List γ} {n:Int} {ob j:Nat} (hp:ptrAt ops i st=some (ob,n.toNat,0)) (hrow:st.sto ob=some (.row false false false false 1 (famRefs j 0 (eF enc ls))))
  (ha:lkI ls n=some x) (hS:loadSt P ops i st 0 (.ref (fid j n.toNat) 0 x.length)=some S) (k:RW P rd base ops (dAdd d [([],[ob])]) (i+1) S Φ):RW P rd base ops d i st Φ:=by
 obtain ⟨h1,h2,h3⟩:=lkI_lt ha
 exact loadG hp hrow (by rw [famRefs_at]; simp [eF,h3]) (.inl rfl) hS k
theorem loadI {γ:Type} {enc:γ→AV} {ls:List (List γ)} {x:List γ} {y:γ} {n m:Int} {w j c:Nat} {fl:Bool} (hp:ptrAt ops i st=some (fid j n.toNat,m.toNat,c)) (hj:st.objs[j]?=some (.fam w fl (eF enc ls)))
  (ha:lkI ls n=some x) (hy:lkI x m=some y) (hb:Nat.blt j BIG=true) (hS:loadSt P ops i st c (enc y)=some S) (k:RW P rd base ops (dAdd d [([],[j])]) (i+1) S Φ):RW P rd base ops d i st Φ:=by
 obtain ⟨h1,h2,h3⟩:=lkI_lt hy
 exact loadG hp (fam_row hj ha) (by simp [h3]) (.inr ⟨of_blt hb,_,rfl⟩) hS k
theorem storeF {γ:Type} {enc:γ→AV} {ls:List (List γ)} {x:List γ} {n:Int} {ob j m q:Nat} (hp:ptrAt ops i st=some (ob,n.toNat,0)) (hrow:st.sto ob=some (.row false false false false 1 (famRefs j 0 (eF enc ls))))
  (ha:lkI ls n=some x) (hv:storeV P ops i st=some (.ref m 0 q)) (hS:finI ops i st none [(ob,.row false false false false 1 ((famRefs j 0 (eF enc ls)).set n.toNat (.ref m 0 q)))]=some S) (hl:Nat.beq S.objs.length st.objs.length=true)
  (k:RW P rd base ops (dAdd d [([ob],[ob])]) (i+1) S Φ):RW P rd base ops d i st Φ:=by
 obtain ⟨h1,h2,h3⟩:=lkI_lt ha
 obtain ⟨o,t,x0,y,T,ho,hop,hT,hx,hy,hc⟩:=storeV_spec hp hv
 refine rw_of (nf:=true) (fr:=st.objs.length) (rds:=[ob]) ho ?_ hS (Nat.eq_of_beq_eq_true hl) k
 have hr:(famRefs j 0 (eF enc ls))[n.toNat]?=some (.ref (fid j n.toNat) 0 x.length):=by rw [famRefs_at]; simp [eF,h3]
 unfold evOp
 rw [hop]
 simp only [mayPan,Bool.false_eq_true,if_false]
 unfold evalOp
 rw [hop]
 have hput:putAt (.ref (fid j n.toNat) 0 x.length) 0 (.ref m 0 q)=some (.ref m 0 q):=by simp [putAt,AV.cell]
 simp only [hT,hx,hy,hrow,hr,hc,if_true,Bool.or_true,Bool.true_or,hput,frz,frzL,List.contains_nil,Bool.false_eq_true,if_false,List.nil_append,onlyVal,Bool.false_and]
theorem sto_refs {objs:List AObj} {o j:Nat} {xs xs':List (List AV)} (ho:objs[o]?=some (.refs j xs)) (he:famRefs j 0 xs'=famRefs j 0 xs):sto (objs.set o (.refs j xs'))=sto objs:=by
 have hlt:=(List.getElem?_eq_some_iff.1 ho).1
 funext k
 rcases Nat.lt_or_ge k BIG with c | c
 ·rw [sto_low c,sto_low c]
  by_cases e:k=o
  ·subst e; rw [ho,List.getElem?_set_self hlt]; simp only [Option.map_some,AObj.plain,he]
  ·rw [List.getElem?_set_ne (Ne.symm e)]
 ·refine sto_inner_congr (fun q w fl ys=>?_) c
  by_cases e:q=o
  ·subst e; rw [ho,List.getElem?_set_self hlt]; simp
  ·rw [List.getElem?_set_ne (Ne.symm e)]
theorem famRefs_set (j:Nat):∀(i:Nat) (xs:List (List AV)) (n:Nat) (l:List AV),(∀y,xs[n]?=some y→y.length=l.length)→famRefs j i (xs.set n l)=famRefs j i xs
 | _,[],_,_,_=>rfl
 | i,y::ys,0,l,h=>by simp only [List.set_cons_zero,famRefs,h y rfl]
 | i,y::ys,n+1,l,h=>by simp only [List.set_cons_succ,famRefs]; rw [famRefs_set j (i+1) ys n l (fun z hz=>h z (by simpa using hz))]
def famSt (ops:Array Oper) (i j o:Nat) (st:St) (x y:AObj):Option St :=
 match ops[i]? with
 | some op=>match putD st.slots st.nt op.dst none with
  | some slots=>some ⟨slots,(st.objs.set j x).set o y,st.nt⟩
  | none=>none
 | none=>none
theorem storeI {γ:Type} {enc:γ→AV} {ls:List (List γ)} {x:List γ} {y y':γ} {n m:Int} {w j q c:Nat} {fl:Bool} {v:AV} (hp:ptrAt ops i st=some (fid j n.toNat,m.toNat,c)) (hj:st.objs[j]?=some (.fam w fl (eF enc ls))) (hq:st.objs[q]?=some (.refs j (eF enc ls)))
  (ha:lkI ls n=some x) (hy:lkI x m=some y) (hb:Nat.blt j BIG=true) (hv:storeV P ops i st=some v) (hk:(v.nr && (v.scs || !fl))=true) (hput:putAt (enc y) c v=some (enc y'))
  (hS:famSt ops i j q st (.fam w fl (eF enc (ls.set n.toNat (x.set m.toNat y')))) (.refs j (eF enc (ls.set n.toNat (x.set m.toNat y'))))=some S) (k:RW P rd base ops (dAdd d [([j],[j])]) (i+1) S Φ):RW P rd base ops d i st Φ:=by
 obtain ⟨h1,h2,h3⟩:=lkI_lt hy
 obtain ⟨g1,g2,g3⟩:=lkI_lt ha
 obtain ⟨o,t,x0,y0,T,ho,hop,hT,hx,hyv,hc⟩:=storeV_spec hp hv
 obtain ⟨q1,q2⟩:=opAt_spec ho
 simp only [Bool.and_eq_true,Bool.or_eq_true,Bool.not_eq_true'] at hk
 have hrow:=fam_row (st:=st) hj ha
 have hfl:(fl && v.scs)=fl:=by
  rcases hk.2 with e | e
  ·simp [e]
  ·simp [e]
 have he:evOp P false noC st.sto st.objs.length (lk st.slots) o=some (.val ⟨none,[(fid j n.toNat,.row false false true fl w ((x.set m.toNat y').map enc))],st.objs.length,[fid j n.toNat]⟩):=by
  unfold evOp
  rw [hop]
  simp only [mayPan,Bool.false_eq_true,if_false]
  unfold evalOp
  rw [hop]
  simp only [hT,hx,hyv,hrow,List.getElem?_map,h3,Option.map_some,hc,if_true,hk.1,Bool.or_true,hput,frz,frzL,List.contains_nil,Bool.false_eq_true,if_false,List.nil_append,onlyVal,List.map_set,Bool.true_and,hfl]
 unfold famSt at hS
 rw [q1] at hS
 simp only at hS
 have hjq:q≠j:=fun e=>by subst e; rw [hj] at hq; cases hq
 split at hS
 ·rename_i slots hpd
  cases hS
  refine rw_step (s:=([j],[j])) (st1:=⟨slots,(st.objs.set j (.fam w fl (eF enc (ls.set n.toNat (x.set m.toNat y'))))).set q (.refs j (eF enc (ls.set n.toNat (x.set m.toNat y')))),st.nt⟩) ⟨o,⟨none,[(fid j n.toNat,.row false false true fl w ((x.set m.toNat y').map enc))],st.objs.length,st.objs.length,[fid j n.toNat]⟩,q1,⟨ylL_ev noC_sound q2 he,rfl,by simp,?_,by simp,fun hb=>by simpa using hb,fun e=>(by cases e),hpd,rfl⟩,⟨fun e he=>?_,fun e he=>?_⟩⟩ k
  ·show sto ((st.objs.set j _).set q _)=_
   rw [sto_refs (xs:=eF enc ls) (by rw [List.getElem?_set_ne hjq.symm]; exact hq),eF_set,sto_fam hj (l:=x.map enc) (by simp [eF,g3])]
   ·rfl
   ·rw [eF_set]
    exact famRefs_set _ _ _ _ _ (fun y hy=>by simp [eF,g3] at hy; subst hy; simp)
  ·simp at he; subst he; exact ⟨j,by simp,.inr ⟨of_blt hb,_,rfl⟩⟩
  ·simp at he; subst he; exact ⟨j,by simp,.inr ⟨of_blt hb,_,rfl⟩⟩
 ·cases hS
theorem loadS {γ:Type} {enc:γ→AV} {ls:List (List γ)} {x:List γ} {n:Int} {ob j m q:Nat} (hp:ptrAt ops i st=some (ob,n.toNat,0)) (hrow:st.sto ob=some (.row false false false false 1 ((famRefs j 0 (eF enc ls)).set n.toNat (.ref m 0 q))))
  (ha:lkI ls n=some x) (hS:loadSt P ops i st 0 (.ref m 0 q)=some S) (k:RW P rd base ops (dAdd d [([],[ob])]) (i+1) S Φ):RW P rd base ops d i st Φ:=by
 obtain ⟨h1,h2,h3⟩:=lkI_lt ha
 exact loadG hp hrow (List.getElem?_set_self (by simpa [famRefs_length,eF] using h2)) (.inl rfl) hS k
theorem idxS {γ:Type} {enc:γ→AV} {ls:List (List γ)} {x:List γ} {n:Int} {ob j m q:Nat} (hi:idxInfo P ops i st=some (.ref ob 0 ls.length,n,1)) (hrow:st.sto ob=some (.row false false false false 1 ((famRefs j 0 (eF enc ls)).set n.toNat (.ref m 0 q))))
  (ha:lkI ls n=some x) (hS:finI ops i st (some (.ptr ob n.toNat 0)) []=some S) (k:RW P rd base ops (dAdd d [([],[ob])]) (i+1) S Φ):RW P rd base ops d i st Φ:=by
 obtain ⟨h1,h2,_⟩:=lkI_lt ha
 exact idxG hi hrow h1 h2 (.inl rfl) hS k
theorem storeS2 {γ:Type} {enc:γ→AV} {ls:List (List γ)} {x:List γ} {n:Int} {ob j m0 q0 m q:Nat} (hp:ptrAt ops i st=some (ob,n.toNat,0)) (hrow:st.sto ob=some (.row false false false false 1 ((famRefs j 0 (eF enc ls)).set n.toNat (.ref m0 0 q0))))
  (ha:lkI ls n=some x) (hv:storeV P ops i st=some (.ref m 0 q)) (hS:finI ops i st none [(ob,.row false false false false 1 ((famRefs j 0 (eF enc ls)).set n.toNat (.ref m 0 q)))]=some S) (hl:Nat.beq S.objs.length st.objs.length=true)
  (k:RW P rd base ops (dAdd d [([ob],[ob])]) (i+1) S Φ):RW P rd base ops d i st Φ:=by
 obtain ⟨h1,h2,h3⟩:=lkI_lt ha
 obtain ⟨o,t,x0,y,T,ho,hop,hT,hx,hy,hc⟩:=storeV_spec hp hv
 refine rw_of (nf:=true) (fr:=st.objs.length) (rds:=[ob]) ho ?_ hS (Nat.eq_of_beq_eq_true hl) k
 have hr:((famRefs j 0 (eF enc ls)).set n.toNat (.ref m0 0 q0))[n.toNat]?=some (.ref m0 0 q0):=List.getElem?_set_self (by simpa [famRefs_length,eF] using h2)
 unfold evOp
 rw [hop]
 simp only [mayPan,Bool.false_eq_true,if_false]
 unfold evalOp
 rw [hop]
 have hput:putAt (.ref m0 0 q0) 0 (.ref m 0 q)=some (.ref m 0 q):=by simp [putAt,AV.cell]
 simp only [hT,hx,hy,hrow,hr,hc,if_true,Bool.or_true,Bool.true_or,hput,frz,frzL,List.contains_nil,Bool.false_eq_true,if_false,List.nil_append,onlyVal,Bool.false_and,List.set_set]
theorem exec_post {c:Code} {e:AExit} {st1:St} (h:Exec P rd base c st (.go e st')) (hw:Wk P base st' st1):Exec P rd base c st (.go e st1):=by
 intro B W0 D0 dl M ι a W n Q r hs hr hp
 refine h B W0 D0 dl M ι a W n Q r hs hr ⟨fun e' s he dl' M' ι' a' W' g1 g2 g3 g4=>?_,fun v he=>(by cases he)⟩
 cases he
 obtain ⟨M2,ι2,k1,k2,k3⟩:=hw _ _ _ _ _ _ _ _ g4
 exact hp.go e st1 rfl dl' M2 ι2 a' W' (g1.trans k1) (g2.trans k2) g3 k3
theorem wp_post {c:Code} (h:WP P rd base c st (fun out=>match out with | .go e s=>∃s1,Wk P base s s1∧Φ (.go e s1) | .pan v=>Φ (.pan v))):WP P rd base c st Φ:=by
 obtain ⟨out,h1,h2⟩:=h
 cases out with
 | pan v=>exact ⟨_,h1,h2⟩
 | go e s=>obtain ⟨s1,h3,h4⟩:=h2; exact ⟨_,exec_post h1 h3,h4⟩
theorem sliceP {α R:Type} {enc:α→AV} {l:List α} {ob:Nat} {ro nr fl:Bool} {lo hi:Option AV} {a b:Int} {w:Nat} {A:Option R} {r:R} (hi':slInfo P ops i st=some (.ref ob 0 l.length,lo,hi,none,w)) (hrow:st.sto ob=some (.row false ro nr fl w (l.map enc)))
  (ha:loI lo=some a) (hb:hiI l.length hi=some b) (hS:finI ops i st (some (.ref ob a.toNat (b.toNat - a.toNat))) []=some S)
  (h:(if 0≤a∧a≤b∧b≤l.length then A else none)=some r) (k:(0≤a∧a≤b∧b≤(l.length:Int))→A=some r→RW P rd base ops (dAdd d [([],[ob])]) (i+1) S Φ):RW P rd base ops d i st Φ:=by
 by_cases hc:0≤a∧a≤b∧b≤(l.length:Int)
 ·exact sliceR hi' hrow ha hb hS h (fun h=>k hc h)
 ·rw [if_neg hc] at h; cases h
end
end Go.Ab
namespace Go.Ab
open Go.RowKit
open Go.ChangeShapes in
theorem post_of_below {H:Type} {enc:TypeId × Value→H} {P:Program} {f:Func} {s:ChangeSpec} {apart fresh handsOn again:Bool} {W W':World} {args:Array Value} {v:Value} {ds gs:List (DataW H)} {before pa pv:List MemPlace}
  (hW:DataW.Whole enc P f.params.toList s.vars apart W args.toList ds gs before)
  (hres:∀(b:Nat) (sp:Nat → Bool) (hd:Bool),DataW.TrodAll enc P W' b sp hd f.resultTypes.toList (v.resultList f.resultTypes.size) (s.fn H (ds++gs)).results [])
  (hargs:∀sp:Nat → Bool,(∀p∈before,sp p.block=true)→DataW.TrodAll enc P W' 0 sp true f.params.toList args.toList (s.fn H (ds++gs)).args pa)
  (hvars:∀sp:Nat → Bool,(∀p∈before,sp p.block=true)→DataW.TrodVars enc P W' sp s.vars (s.fn H (ds++gs)).vars pv)
  (hps:before=pa++pv) (hb:Below W.heap.size W W')
  (hok:∀(j:Nat) (t:TypeId) (r:Value),f.resultTypes[j]?=some t→(v.resultList f.resultTypes.size)[j]?=some r→Value.okWide P W' .any 0 t r) :
  s.post enc P f apart fresh handsOn again W args v W':=by
 have hold:∀p∈before,(fun b=>decide (b < W.heap.size)) p.block=true:=fun p hp=>by simpa using hW.lt p hp
 have hlt:=hW.lt
 refine ⟨ds,gs,before,[],pa,pv,hW,hres _ _ _,hargs _ hold,hvars _ hold,World.keptBut_mono (fun p hp=>⟨hp,?_⟩) (hb.frame (·∈before)),fun _=>?_⟩
 ·rw [hps,List.mem_append] at hp
  exact Or.inr hp
 ·obtain ⟨_,_,_,_,_,hz,hn⟩:=hW
  refine ⟨hok,_,_,([]++pa)++pv,⟨[]++pa,pv,trodAll_append (hargs _ (fun _ _=>rfl)) (hres _ _ _),hvars _ (fun _ _=>rfl),rfl,?_,?_⟩,?_⟩
  ·intro b off hp
   have hm:MemPlace.cell b off∈before:=by rw [hps]; simpa using hp
   have h1:b < W.heap.size:=hlt _ hm
   rw [hb.frozen h1]
   exact hz b off hm
  ·intro ha
   have:=hn ha
   rw [hps] at this
   simpa using this
  ·intro p hp _
   rw [hps]
   simpa using hp
end Go.Ab
namespace Go.Ab
open Go.RowKit
theorem emn_or_nil {M:CM} {ι:Inj} {v:Value} {fl:Bool} (h:RepV M ι v (.lst fl [])):RepV M ι v .nils∨RepV M ι v .emn:=by
 cases h with
 | lst0 a =>
  cases a with
  | none=>exact .inl .nils
  | some a=>exact .inr (.emn a 0)
 | lst b off cap=>exact .inr (.emn _ cap)
theorem CallOk.nil {P:Program} {f:FuncId} {l1 l2:List AV} {fl:Bool} {out:COut} (h1:CallOk P f (l1++.nils::l2) out) (h2:CallOk P f (l1++.emn::l2) out):CallOk P f (l1++.lst fl []::l2) out:=by
 intro W M vs hM hsz hr
 have hlt:l1.length < vs.size:=by simp at hsz; omega
 have h0:=hr l1.length vs[l1.length] (.lst fl []) (by simp [hlt]) (by simp)
 have other:∀y,RepV M noInj vs[l1.length] y→∀(j:Nat) (v:Value) (a:AV),vs[j]?=some v→(l1++y::l2)[j]?=some a→RepV M noInj v a:=by
  intro y hy j v a hv ha
  rcases Nat.lt_trichotomy j l1.length with c | c | c
  ·refine hr j v a hv ?_
   rw [List.getElem?_append_left c] at ha ⊢; exact ha
  ·subst c
   rw [List.getElem?_append_right (Nat.le_refl _)] at ha
   simp at ha; subst ha
   rw [Array.getElem?_eq_getElem hlt] at hv; cases hv; exact hy
  ·refine hr j v a hv ?_
   rw [List.getElem?_append_right (by omega)] at ha ⊢
   rw [show j - l1.length=(j - l1.length - 1)+1 by omega] at ha ⊢
   simpa using ha
 rcases emn_or_nil h0 with e | e
 ·exact h1 W M vs hM (by simpa using hsz) (other _ e)
 ·exact h2 W M vs hM (by simpa using hsz) (other _ e)
theorem RepV.lin_inv {M:CM} {ι:Inj} {v:Value} {o i n:Nat} (h:RepV M ι v (.lin o i n)):RepV M ι v (.ref (fid o i) 0 n):=by cases h; assumption
section
variable {P:Program} {base:Nat} {st st':St}
theorem wk_lin (t:Nat) {o i n:Nat} (h:lk st.slots t=some (.ref (fid o i) 0 n)) (hS:(⟨setS st.slots t (.lin o i n),st.objs,st.nt⟩:St)=st'):Wk P base st st':=by
 subst hS
 intro B W0 D0 dl M ι a W hs
 refine ⟨M,ι,.refl _ _,.refl _ _,⟨hs.rel,fun k y hk=>?_,hs.nt,hs.df,hs.new,hs.big⟩⟩
 have hk:lk (setS st.slots t (.lin o i n)) k=some y:=hk
 rw [lk_setS] at hk
 split at hk
 ·rename_i e; cases hk; subst e; exact .lin _ _ _ (hs.slots _ _ h)
 ·exact hs.slots k y hk
theorem wk_unlin (t:Nat) {o i n:Nat} (h:lk st.slots t=some (.lin o i n)) (hS:(⟨setS st.slots t (.ref (fid o i) 0 n),st.objs,st.nt⟩:St)=st'):Wk P base st st':=by
 subst hS
 intro B W0 D0 dl M ι a W hs
 refine ⟨M,ι,.refl _ _,.refl _ _,⟨hs.rel,fun k y hk=>?_,hs.nt,hs.df,hs.new,hs.big⟩⟩
 have hk:lk (setS st.slots t (.ref (fid o i) 0 n)) k=some y:=hk
 rw [lk_setS] at hk
 split at hk
 ·rename_i e; cases hk; subst e
  exact (hs.slots _ _ h).lin_inv
 ·exact hs.slots k y hk
end
theorem CallOk.froz {P:Program} {f:FuncId} {args:List AV} {v y:AV} {objs:List AObj} {ids:List Nat} (h:CallOk P f args (.ret v objs)) (hs:snap (fun k=>objs[k]?) snapDepth v=some (y,ids)):CallOk P f args (.ret y []):=by
 intro W M vs hM hsz hr
 refine (h W M vs hM hsz hr).mono fun e W' he=>?_
 obtain ⟨u,M',ι',rfl,hg,hrel,hout,hv⟩:=he
 refine ⟨u,_,noInj,rfl,hg.trans (hrel.growC ids),⟨hrel.size,hrel.below,hrel.defs,addM_agree hrel.agree,fun o bx nr fl w xs p k ho=>(by simp at ho),fun o bx ro nr fl w xs ho=>(by simp at ho),fun o fn sl ps as bd st pe ho=>(by simp at ho),fun o o' bx nr fl w xs bx' nr' fl' w' xs' p p' _ ho=>(by simp at ho),fun o o' fn sl ps as bd st pe fn' sl' ps' as' bd' st' pe' p p' _ ho=>(by simp at ho),fun o _=>.inl (by simp)⟩,fun _ _=>rfl,snap_sound hrel ids snapDepth v y ids u hs (fun k hk=>hk) hv⟩
def ovr {α:Type} (l:List α) (i:Nat):List α→List α
 | []=>l
 | y::ys=>ovr (l.set i y) (i+1) ys
theorem ovr_len {α:Type}:∀(m l:List α) (i:Nat),l.length=(ovr l i m).length
 | [],l,i=>rfl
 | y::ys,l,i=>by simp only [ovr]; rw [←ovr_len ys (l.set i y) (i+1),List.length_set]
theorem ovr_map {α:Type} (enc:α→AV):∀(m l:List α) (i:Nat),setMany (l.map enc) i (m.map enc)=(ovr l i m).map enc
 | [],l,i=>rfl
 | y::ys,l,i=>by
  simp only [List.map_cons,setMany,ovr]
  rw [←ovr_map enc ys (l.set i y) (i+1),List.map_set]
section
variable {P:Program} {rd:Option Nat} {base:Nat} {ops:Array Oper} {st S:St} {Φ:AOut→Prop} {d:Option (List Sk)} {i:Nat}
def cpInfo (P:Program) (ops:Array Oper) (i:Nat) (st:St):Option (AV × AV × Nat) :=
 match opAt ops i st with
 | some o=>match o.op with
  | .call { callee:=.builtin .copy,args,argTypes }=>match args.toList,argTypes.toList with
   | [x,y],t::_=>match ti P t,evo (lk st.slots) x,evo (lk st.slots) y with
    | some T,some a,some b=>match T.kind with
     | .slice e=>match ti P e with
      | some E=>some (a,b,E.size)
      | none=>none
     | _=>none
    | _,_,_=>none
   | _,_=>none
  | _=>none
 | none=>none
theorem cpInfo_spec {b:AV} {w ob i0 n0:Nat} (hi:cpInfo P ops i st=some (.ref ob i0 n0,b,w)):∃o,opAt ops i st=some o ∧
  ∀ys fl rds nr' fl' xs,elemsOf st.sto w b=some (ys,true,fl,rds)→st.sto ob=some (.row false false nr' fl' w xs)→i0+n0≤xs.length →
   evOp P false noC st.sto st.objs.length (lk st.slots) o=some (.val ⟨some (.int .i64 (min ys.length n0:Nat)),[(ob,.row false false (nr' && true) (fl' && fl) w (setMany xs i0 (ys.take n0)))],st.objs.length,ob::rds⟩):=by
 unfold cpInfo at hi
 split at hi
 ·rename_i o ho
  split at hi
  ·rename_i args ts hop
   split at hi
   ·rename_i x y t tr ha ht
    split at hi
    ·rename_i T a' b' hT hx hy
     split at hi
     ·rename_i e hk
      split at hi
      ·rename_i E hE
       cases hi
       refine ⟨o,ho,?_⟩
       intro ys fl rds nr' fl' xs hel hrow hc
       unfold evOp
       rw [hop]
       simp only [mayPan,Bool.false_eq_true,if_false]
       unfold evalOp
       rw [hop]
       have h2:Nat.ble (i0+n0) xs.length=true:=Nat.ble_eq_true_of_le hc
       simp only [evCopy,ha,ht,hT,hx,hy,hk,hE,hel,hrow,Nat.beq_refl,h2,Bool.and_self,Bool.true_or,if_true,onlyVal]
      ·cases hi
     ·cases hi
    ·cases hi
   ·cases hi
  ·cases hi
 ·cases hi
theorem cpR {α:Type} {enc:α→AV} {l m:List α} {w ob i0 n0:Nat} {nr fl fl':Bool} {b:AV} {rds:List Nat} (hi:cpInfo P ops i st=some (.ref ob i0 n0,b,w)) (hrow:st.sto ob=some (.row false false nr fl w (l.map enc)))
  (hel:elemsOf st.sto w b=some (m.map enc,true,fl',rds)) (hc:i0+n0≤l.length)
  (hS:finI ops i st (some (.int .i64 (min m.length n0:Nat))) [(ob,.row false false (nr && true) (fl && fl') w ((ovr l i0 (m.take n0)).map enc))]=some S) (hl:Nat.beq S.objs.length st.objs.length=true)
  (k:RW P rd base ops (dAdd d [([ob],ob::rds)]) (i+1) S Φ):RW P rd base ops d i st Φ:=by
 obtain ⟨o,ho,hev⟩:=cpInfo_spec hi
 have:=hev (m.map enc) fl' rds nr fl (l.map enc) hel hrow (by simpa using hc)
 rw [List.length_map,←List.map_take,ovr_map] at this
 exact rw_of ho this hS (Nat.eq_of_beq_eq_true hl) k
theorem elems_part {σ:Sto} {α:Type} {enc:α→AV} {l:List α} {w ob:Nat} {a b:Int} {ro nr fl:Bool} (hrow:σ ob=some (.row false ro nr fl w (l.map enc))) (hc:0≤a∧a≤b∧b≤(l.length:Int)) :
  elemsOf σ w (.ref ob a.toNat (b.toNat - a.toNat))=some ((sub l a b).map enc,nr,fl,[ob]):=by
 have h1:Nat.ble (a.toNat + (b.toNat - a.toNat)) (l.map enc).length=true:=Nat.ble_eq_true_of_le (by simp; omega)
 simp [elemsOf,hrow,sub]
 omega
theorem part_le {α:Type} {l:List α} {a b:Int} (hc:0≤a∧a≤b∧b≤(l.length:Int)):a.toNat + (b.toNat - a.toNat)≤l.length:=by omega
theorem full_le {α:Type} {l:List α}:0+l.length≤l.length:=by omega
theorem idxI2 {γ R:Type} {enc:γ→AV} {ls:List (List γ)} {x:List γ} {y:γ} {n c:Int} {w j m:Nat} {fl:Bool} {A:Option R} {r:R} (hi:idxInfo P ops i st=some (.ref (fid j n.toNat) 0 m,c,w)) (hj:st.objs[j]?=some (.fam w fl (eF enc ls)))
  (ha:lkI ls n=some x) (hy:lkI x c=some y) (hb:Nat.blt j BIG=true) (hS:finI ops i st (some (.ptr (fid j n.toNat) c.toNat 0)) []=some S) (h:(if c < (m:Int) then A else none)=some r)
  (k:A=some r→RW P rd base ops (dAdd d [([],[j])]) (i+1) S Φ):RW P rd base ops d i st Φ:=by
 split at h
 ·rename_i hc
  obtain ⟨h1,h2,_⟩:=lkI_lt hy
  exact idxG hi (fam_row hj ha) h1 (by omega) (.inr ⟨of_blt hb,_,rfl⟩) hS (k h)
 ·cases h
end
end Go.Ab
namespace Go.Ab
open Go.RowKit
theorem run_append_zeros {P:Program} {t u ty e:TypeId} {ts:Array TypeId} {i:TypeInfo} {z:Value} {k ku:IntKind} (h0:ts[0]?=some t) (h1:ts[1]?=some u) (ht:P.underlying t=some (.slice e)) (hu:P.underlying u=some (.int ku)) (hi:P.info? e=some i) (hz:i.zero=some z)
  (n:Nat) (hn:0 < n) (hs:0 < i.size) (h63:(n:Int)≤140737488355328) (hb:n*i.bytes≤140737488355328) (W:World) :
  (Builtin.append_ ts ty #[.slice none 0 0,.int k n]).run P W=.ok (.slice (some ⟨W.heap.size,0,none⟩) n (grownCap W n 0 e)) (W.drew.alloc (.cells (Builtin.zeroCells z.cells n++Builtin.zeroCells z.cells (grownCap W n 0 e - n)) e)):=by
 have hn0:n≠0:=by omega
 have hs0:i.size≠0:=by omega
 have hw:IntKind.i64.wrap (n:Int)=n:=by
  simp only [IntKind.wrap,IntKind.signed,IntKind.bits]
  simp; omega
 have h63':¬ (9223372036854775807 < (n:Int)):=by omega
 have hneg:¬ ((n:Int) < 0):=by omega
 have hb2:¬ (281474976710656 < (n:Int)*(i.bytes:Int)):=by
  have:((n*i.bytes:Nat):Int)≤140737488355328:=by omega
  rw [Int.natCast_mul] at this; omega
 have h48':¬ (281474976710656 < Builtin.nextslicecap n 0*i.bytes):=by rw [nextslicecap_zero hn]; omega
 simp [Builtin.append_,h0,h1,run_underlying ht,run_underlying hu,sizeOf,typeInfo,zeroValue,hi,hz,asInt,asIntOf,hw,hneg,hb2,hn0,hs0,h63',h48',Question.forced,run_firstCells_none,newRow,grownCap]
 intro he
 exact absurd he (Nat.mul_ne_zero hn0 hs0)
theorem run_append_zero0 {P:Program} {t u ty e:TypeId} {ts:Array TypeId} {i:TypeInfo} {k ku:IntKind} (h0:ts[0]?=some t) (h1:ts[1]?=some u) (ht:P.underlying t=some (.slice e)) (hu:P.underlying u=some (.int ku)) (hi:P.info? e=some i) (W:World) :
  (Builtin.append_ ts ty #[.slice none 0 0,.int k 0]).run P W=.ok (.slice none 0 0) W:=by
 have hw:IntKind.i64.wrap (0:Int)=0:=by decide
 simp [Builtin.append_,h0,h1,run_underlying ht,run_underlying hu,sizeOf,typeInfo,hi,asInt,asIntOf,hw]
section
variable {P:Program} {rd:Option Nat} {base:Nat} {ops:Array Oper} {st S:St} {Φ:AOut→Prop} {d:Option (List Sk)} {i:Nat}
theorem zeros_done {B:Nat} {W0 W:World} {D:List Nat} {M:CM} {ι:Inj} {σ:Sto} {a:Act} {fr:Nat} {o:Oper} {x y:Operand} {ts:Array TypeId} {t u e:TypeId} {E:TI} {z:AV} {k ku:IntKind} {n:Nat} (h:Rel P B W0 D M ι σ W)
  (ho:o.op=.call { callee:=.builtin .append,args:=#[x,y],argTypes:=ts }) (h0:ts[0]?=some t) (h1:ts[1]?=some u) (ht:P.underlying t=some (.slice e)) (hu:P.underlying u=some (.int ku)) (hE:ti P e=some E) (hz:E.zero=some z)
  (hzok:E.zok=true) (hx:a.eval x=.slice none 0 0) (hy:a.eval y=.int k n) (hroom:roomFor E.bytes n=true) (hpos:0 < E.size) (hfr:ι fr=none) :
  OpDone P B W0 D M ι σ fr a o W ⟨some (.ref fr 0 n),[(fr,.row false false z.nr z.scs E.size (List.replicate n z))],fr+1,[]⟩:=by
 obtain ⟨cs,hrun⟩:=run_call_builtin (P:=P) (W:=W) (a:=a) ho
 obtain ⟨i,zv,hi,hzv,h4,hrep,hsh⟩:=zero_at hE hz
 obtain ⟨i',zv',hi',hzv',hsz,hby,hzs⟩:=zok_at hE hzok
 rw [hi] at hi'; cases hi'
 rw [hzv] at hzv'; cases hzv'
 obtain ⟨r1,r2⟩:=room_at hroom
 rcases Nat.eq_zero_or_pos n with hn | hn
 ·subst hn
  refine ⟨.slice none 0 0,W,M,ι.put fr ⟨B,0,E.size,0⟩,.inl ?_,.refl _ _,Inj.le_put _ hfr,fun k hk=>Inj.put_ne _ _ (by simp at hk; omega),h.virt hfr hpos,fun y hy=>by cases hy; exact .ref0 _ _ _ (Inj.put_same _ _ _) rfl⟩
  rw [hrun]
  simp only [builtin,List.map_toArray,List.map_cons,List.map_nil,Sem.run_bind,hx,hy]
  have:=run_append_zero0 (P:=P) (ty:=o.type) (k:=k) h0 h1 ht hu hi W
  simp only [Int.natCast_zero] at *
  simp only [this,Result.andThen_ok,Sem.run_pure]
 ·have hap:=run_append_zeros (P:=P) (ty:=o.type) (k:=k) h0 h1 ht hu hi hzv n hn (by rw [←h4]; exact hpos) (by omega) (by rw [←hby]; exact r1) W
  have hge:=grownCap_ge W n 0 e
  have key:=h.drew.allocRow (o:=fr) (bx:=false) (nr:=z.nr) (fl:=z.scs) hfr (Builtin.zeroCells zv.cells n++Builtin.zeroCells zv.cells (grownCap W n 0 e - n)) e (w:=E.size) (cap:=grownCap W n 0 e) (xs:=List.replicate n z) hpos (by omega)
   (by simp only [Array.size_append,size_zeroCells,hzs]; rw [←Nat.add_mul]; congr 1; omega) (by simpa using hge)
   (fun x hx=>by have:=List.eq_of_mem_replicate hx; subst this; rw [←hzs]; exact hsh)
   (fun hnr=>by rw [nrL_mem]; intro x hx; have:=List.eq_of_mem_replicate hx; subst this; exact hnr)
   (fun hf x hx=>by have:=List.eq_of_mem_replicate hx; subst this; exact hf)
   (fun a' j y q hi' hj=>by
    obtain ⟨w,hw,hr⟩:=made_cells (hrep M ι) hsh (Nat.le_refl n) a' j y q hi' hj
    rw [hzs] at hw
    have hlt:=(Array.getElem?_eq_some_iff.1 hw).1
    refine ⟨w,?_,hr⟩
    rw [Array.getElem?_append_left (by simp only [size_zeroCells,hzs]; simpa [hzs] using hlt)]
    simp only [Builtin.zeroCells,hzs]
    exact hw)
  refine ⟨.slice (some ⟨W.heap.size,0,none⟩) n (grownCap W n 0 e),_,M,_,.inl ?_,.refl _ _,Inj.le_put _ hfr,fun k hk=>Inj.put_ne _ _ (by simp at hk; omega),key,fun y hy=>?_⟩
  ·rw [hrun]
   simp only [builtin,List.map_toArray,List.map_cons,List.map_nil,Sem.run_bind,hx,hy,hap,Result.andThen_ok,Sem.run_pure]
  ·cases hy
   exact .ref fr 0 _ ⟨W.drew.heap.size,0,E.size,grownCap W n 0 e⟩ 0 _ (Inj.put_same _ _ _) (by simpa using hge) (by simp) (.inl (by simp))
def zapInfo (P:Program) (ops:Array Oper) (i:Nat) (st:St):Option (AV × Int × AV × Nat × Nat) :=
 match opAt ops i st with
 | some o=>match o.op with
  | .call { callee:=.builtin .append,args,argTypes }=>match args.toList,argTypes.toList with
   | [x,y],t::u::_=>match ti P t,ti P u,evo (lk st.slots) x,evo (lk st.slots) y with
    | some T,some U,some a,some (.int _ n)=>match T.kind,U.kind with
     | .slice e,.int _=>match ti P e with
      | some E=>match E.zero with
       | some z=>if E.zok && Nat.blt 0 E.bytes && Nat.blt 0 E.size then some (a,n,z,E.size,E.bytes) else none
       | none=>none
      | none=>none
     | _,_=>none
    | _,_,_,_=>none
   | _,_=>none
  | _=>none
 | none=>none
theorem appZ {α R:Type} {enc:α→AV} {z:α} {z0:AV} {n:Int} {w bytes:Nat} {A:Option R} {r:R} (he:List LK) (b:Bool) (hi:zapInfo P ops i st=some (.nils,n,z0,w,bytes)) (hz0:loosen1 he z0=enc z)
  (hS:finI ops i st (some (.ref st.objs.length 0 (List.replicate n.toNat z).length)) [(st.objs.length,.row false false z0.nr (b && z0.scs) w ((List.replicate n.toNat z).map enc))]=some S) (hl:Nat.beq S.objs.length (st.objs.length+1)=true)
  (h:(if 0≤n∧n*bytes≤140737488355328 then A else none)=some r) (k:A=some r→RW P rd base ops (dAdd d [([st.objs.length],[])]) (i+1) S Φ):RW P rd base ops d i st Φ:=by
 split at h
 ·rename_i hc
  obtain ⟨c1,c2⟩:=hc
  have k:=k h
  unfold zapInfo at hi
  split at hi
  ·rename_i o ho
   split at hi
   ·rename_i args ts hop
    split at hi
    ·rename_i x y t u tr ha hts
     split at hi
     ·rename_i T U a' kk n' hT hU hx hy
      split at hi
      ·rename_i e ku hk hku
       split at hi
       ·rename_i E hE
        split at hi
        ·rename_i zz hz
         split at hi
         ·rename_i hcc
          simp only [Bool.and_eq_true] at hcc
          obtain ⟨⟨q1,q2⟩,q3⟩:=hcc
          cases hi
          obtain ⟨d1,i1,g1,g2,g3,_⟩:=ti_at hT
          obtain ⟨d2,i2,g1',g2',g3',_⟩:=ti_at hU
          rw [g3] at hk; rw [kindOf_slice hk] at g1
          have hku':P.underlying u=some (.int ku):=by
           rw [g3'] at hku
           cases d2 <;> simp [kindOf] at hku
           rw [g1',hku]
          have hargs:=arr2 ha
          subst hargs
          obtain ⟨o1,o2⟩:=opAt_spec ho
          have hroom:roomFor E.bytes n.toNat = true:=by
           refine roomFor_of (blt_lt q2) ?_
           have:((n.toNat * E.bytes:Nat):Int)≤140737488355328:=by rw [Int.natCast_mul,Int.toNat_of_nonneg c1]; exact c2
           omega
          unfold finI at hS
          rw [o1] at hS
          simp only at hS
          split at hS
          ·rename_i objs slots hap hp
           cases hS
           have hlen:=Nat.eq_of_beq_eq_true hl
           simp only at hlen
           refine rw_step (st1:=⟨slots,objs,st.nt⟩) (s:=([st.objs.length],[])) ⟨o,⟨some (.ref st.objs.length 0 (List.replicate n.toNat z).length),[(st.objs.length,.row false false z0.nr (b && z0.scs) E.size ((List.replicate n.toNat z).map enc))],st.objs.length,st.objs.length+1,[]⟩,o1,stepF_mk ?_ rfl hlen.symm hap hp rfl,cov_sk _⟩ k
           have hy0:YlL P ops o ⟨some (.ref st.objs.length 0 n.toNat),[(st.objs.length,.row false false z0.nr z0.scs E.size (List.replicate n.toNat z0))],st.objs.length,st.objs.length+1,[]⟩ (lk st.slots) (sto st.objs):=?_
           ·have e1:(List.replicate n.toNat z0).map (loosen1 he)=(List.replicate n.toNat z).map enc:=by simp [List.map_replicate,hz0]
            have hy1:=ylL_loose [] he b hy0
            simp only [loosenEff,e1,Option.map_some,loosen1,List.length_replicate] at hy1
            rw [List.length_replicate]
            exact hy1
           intro s' σ' hs' hσ'
           have hloc:=evo_local (ops:=ops) hs'
           rw [hop] at hloc
           refine .inl ⟨by rw [wantedA_local hs']; exact o2,?_⟩
           intro B W0 D M ι a W nn Q r' next hrel hsl hfree hpost
           have hx':=evo_sound hsl (show evo s' x=some AV.nils by rw [hloc x (by simp [Op.operands,Call.operands])]; exact hx)
           have hy':=evo_sound hsl (show evo s' y=some (AV.int kk n) by rw [hloc y (by simp [Op.operands,Call.operands])]; exact hy)
           have hn:a.eval y=.int kk (n.toNat : Int):=by rw [hy'.int_inv,Int.toNat_of_nonneg c1]
           have hdone:=zeros_done (fr:=st.objs.length) hrel hop (by have:=congrArg (fun l=>l[0]?) hts; simpa using this) (by have:=congrArg (fun l=>l[1]?) hts; simpa using this) g1 hku' hE hz q1 hx'.nils_inv hn hroom (blt_lt q3) (hfree _ (.inl ⟨Nat.le_refl _,Nat.lt_succ_self _⟩))
           refine wp_of_done hdone (by rw [hop]; simp) ⟨fun res hr v W' M' ι' g1 g2 g3 g4 g5=>?_,fun pv hpv=>by cases hpv⟩
           cases hr
           exact hpost v W' M' ι' g1 g2 (fun k hk=>g3 k (Nat.lt_or_ge k st.objs.length |>.imp_right fun h1=>Nat.le_of_not_lt fun h2=>hk (.inl ⟨h1,h2⟩))) g4 g5
          ·cases hS
         ·cases hi
        ·cases hi
       ·cases hi
      ·cases hi
     ·cases hi
    ·cases hi
   ·cases hi
  ·cases hi
 ·cases h
end
end Go.Ab
