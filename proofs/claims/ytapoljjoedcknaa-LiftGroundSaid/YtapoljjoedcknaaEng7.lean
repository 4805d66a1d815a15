/- Rules. No conditions. -/
import Derived.Test.YtapoljjoedcknaaEng6
import Derived.RowKit3
import Derived.ChangeSame
import Derived.ChangeArms
import Derived.OpenShut
import Derived.WideKeyArgs
import Derived.Test.YtapoljjoedcknaaEng5
import Derived.KernelRfl
set_option linter.all false
namespace Go.Ab
open Go.RowKit
section
variable {P:Program} {B:Nat} {W0 W:World} {D D0 dl:List Nat} {M:CM} {ι:Inj} {σ:Sto} {st st':St} {a:Act} {base:Nat}
theorem Rel.row1 (h:Rel P B W0 D M ι σ W) {o:Nat} {bx nr fl bx' nr' fl':Bool} {w:Nat} {xs xs':List AV} (hσ:σ o=some (.row bx false nr fl w xs)) (hl:xs'.length≤xs.length)
  (hs:∀x∈xs',AV.shaped x w) (hnr:nr'=true→AV.nrL xs'=true) (hfl:fl'=true→∀x∈xs',AV.scs x=true)
  (hc:∀(i j:Nat) (x' y':AV),xs'[i]?=some x'→x'.flat[j]?=some y'→∃x y,xs[i]?=some x∧x.flat[j]?=some y∧∀v,Qa M ι v y→Qa M ι v y') :
  Rel P B W0 D M ι (σ.put o (.row bx' false nr' fl' w xs')) W:=by
 obtain ⟨p,hp,hrow⟩:=h.row o _ _ _ _ _ _ hσ
 have key:=h.write (bx':=bx') (nr':=nr') (fl':=fl') (xs':=xs') hσ hp 0 [] (by simp) (Nat.le_trans hl hrow.len) hs hnr hfl (fun i j x y hi hj hlo hhi=>by simp at hhi)
  (fun i j x' y' hi hj _=>by
   obtain ⟨x,y,h1,h2,h3⟩:=hc i j x' y' hi hj
   obtain ⟨v,hv,hr⟩:=hrow.cells i j x y h1 h2
   exact ⟨v,by rw [←Nat.add_assoc]; exact hv,h3 v hr⟩)
 exact key
theorem Rel.virts (h:Rel P B W0 D M ι σ W) (S:Nat → Prop) [DecidablePred S] (w:Nat) (fl:Bool) (hw:0 < w) (hS:∀o,S o→ι o=none) :
  Rel P B W0 D M (fun o=>if S o then some ⟨B,0,w,0⟩ else ι o) (fun o=>if S o then some (.row false false true fl w []) else σ o) W:=by
 have hle:ι.le (fun o=>if S o then some ⟨B,0,w,0⟩ else ι o):=fun o p hp=>by
  by_cases e:S o
  ·rw [hS o e] at hp; cases hp
  ·simp [e,hp]
 refine ⟨h.size,h.below,h.defs,h.agree,fun k bx1 nr1 fl1 w1 xs1 q j hk hq hj=>?_,?_,?_,?_,?_,?_⟩
 ·by_cases e:S k
  ·simp only [e,if_true] at hk hq; cases hk; cases hq; simp at hj
  ·simp only [e,if_false] at hk hq; exact h.cool _ _ _ _ _ _ _ _ hk hq hj
 ·intro o bx ro nr fl' w' xs ho
  by_cases e:S o
  ·simp only [e,if_true] at ho ⊢
   cases ho
   exact ⟨_,rfl,⟨rfl,hw,.inr rfl,Nat.le_refl _,by simp,by simp [AV.nrL],by simp,by simp,fun _=>⟨Nat.le_refl _,fun k hk=>by simp at hk⟩,fun hf=>by cases hf⟩⟩
  ·simp only [e,if_false] at ho ⊢
   obtain ⟨q,hq,hr⟩:=h.row o bx ro nr fl' w' xs ho
   refine ⟨q,hq,⟨hr.pw,hr.pos,hr.cpos,hr.len,hr.shaped,hr.nr,hr.fl,fun i j x y hi hj=>?_,hr.own,hr.imm⟩⟩
   obtain ⟨v,hv,hrep⟩:=hr.cells i j x y hi hj
   exact ⟨v,hv,hrep.mono (CM.le_refl _) hle⟩
 ·intro o fn sl ps as bd st pe ho
  by_cases e:S o
  ·simp [e] at ho
  ·simp only [e,if_false] at ho ⊢
   obtain ⟨q,nt,hq,hnt,hb,tmps,hsz,hrec,hsl⟩:=h.loop o fn sl ps as bd st pe ho
   exact ⟨q,nt,hq,hnt,hb,tmps,hsz,hrec,Qbo (CM.le_refl _) hle hsl⟩
 ·intro o o' bx nr fl1 w1 xs1 bx' nr' fl2 w2 xs2 p p' hne h1 h2 hp hp'
  by_cases e:S o
  ·simp only [e,if_true] at hp
   cases hp
   right; left; simp
  ·by_cases e':S o'
   ·simp only [e',if_true] at hp'
    cases hp'
    right; right; simp
   ·simp only [e,e',if_false] at h1 h2 hp hp'
    exact h.apart _ _ _ _ _ _ _ _ _ _ _ _ _ _ hne h1 h2 hp hp'
 ·intro o o' fn sl ps as bd st pe fn' sl' ps' as' bd' st' pe' p p' hne h1 h2 hp hp'
  by_cases e:S o
  ·simp [e] at h1
  ·by_cases e':S o'
   ·simp [e'] at h2
   ·simp only [e,e',if_false] at h1 h2 hp hp'
    exact h.loops _ _ _ _ _ _ _ _ _ _ _ _ _ _ _ _ _ _ hne h1 h2 hp hp'
 ·intro o ho
  by_cases e:S o
  ·simp [e] at ho
  ·simp only [e,if_false] at ho ⊢
   exact h.used o ho
theorem Qz5 (o w:Nat) (fl:Bool) {α γ:Type} {x0:α} {n:Nat} {enc1:α→AV} (enc:γ→AV) {nr0 fl0:Bool} (ho:st.objs[o]?=some (.row false false nr0 fl0 1 ((List.replicate n x0).map enc1))) (ha:Qg2 (enc1 x0)=true)
  (hw:(Nat.blt 0 w && Nat.blt st.objs.length BIG)=true)
  (hS:(⟨st.slots,st.objs.set o (.refs st.objs.length ((List.replicate n ([]:List γ)).map fun l=>l.map enc))++[.fam w fl ((List.replicate n ([]:List γ)).map fun l=>l.map enc)],st.nt⟩:St)=st'):Wk P base st st':=by
 classical
 subst hS
 simp only [Bool.and_eq_true] at hw
 have hw0:=Yc hw.1
 have hbig:=Yc hw.2
 intro B W0 D0 dl M ι a W h
 have hol:o < st.objs.length:=(List.getElem?_eq_some_iff.1 ho).1
 have hob:=h.lt ho
 generalize hxs:((List.replicate n ([]:List γ)).map fun l=>l.map enc)=xs at *
 have hxl:xs.length=n:=by rw [←hxs]; simp
 have hxe:∀(i:Nat) (l:List AV),xs[i]?=some l→l=[]:=fun i l hi=>by
  rw [←hxs] at hi
  simp only [List.getElem?_map,List.getElem?_replicate] at hi
  split at hi
  ·simp at hi; exact hi
  ·cases hi
 have hS:∀id,(∃i,id=fid st.objs.length i)→ι id=none:=fun id hid=>h.new id (by
  obtain ⟨i,rfl⟩:=hid
  rintro (c | ⟨k,i',hk,e⟩)
  ·have:=Zn st.objs.length i; omega
  ·have:=(Yq e).1; omega)
 have r1:=h.rel.virts (fun id=>∃i,id=fid st.objs.length i) w fl hw0 hS
 have hle:ι.le (fun id=>if (∃i,id=fid st.objs.length i) then some ⟨B,0,w,0⟩ else ι id):=fun id p hp=>by
  by_cases e:∃i,id=fid st.objs.length i
  ·rw [hS id e] at hp; cases hp
  ·simp only [e,if_false]; exact hp
 have hno:¬ ∃i,o=fid st.objs.length i:=fun ⟨i,e⟩=>by have:=Zn st.objs.length i; omega
 have hos:(fun id=>if (∃i,id=fid st.objs.length i) then some (AObj.row false false true fl w []) else sto st.objs id) o=some (.row false false nr0 fl0 1 ((List.replicate n x0).map enc1)):=by
  simp only [hno,if_false]; exact Qcp hob ho rfl
 have r2:=r1.row1 (bx':=false) (nr':=false) (fl':=false) (xs':=Zi st.objs.length 0 xs) hos (by simp [Yd,hxl]) (fun x hx=>by
   obtain ⟨i,hi⟩:=List.mem_iff_getElem?.1 hx
   rw [Yi] at hi
   cases hl:xs[i]? with
   | none=>rw [hl] at hi; cases hi
   | some l=>rw [hl] at hi; simp at hi; subst hi; exact ⟨.inr rfl,rfl,fun z hz=>by simp [AV.flat] at hz; subst hz; rfl⟩) (by simp) (by simp)
  (fun i c x' y' hi hc=>by
   rw [Yi] at hi
   cases hl:xs[i]? with
   | none=>rw [hl] at hi; cases hi
   | some l =>
    rw [hl] at hi
    have hl0:=hxe i l hl
    subst hl0
    simp only [Option.map_some,Nat.zero_add,List.length_nil,Option.some.injEq] at hi
    subst hi
    have hin:i < n:=by rw [←hxl]; exact (List.getElem?_eq_some_iff.1 hl).1
    obtain ⟨p0,_,hrow0⟩:=h.rel.row o _ _ _ _ _ _ (Qcp hob ho rfl)
    have hx0:((List.replicate n x0).map enc1)[i]?=some (enc1 x0):=by simp [hin]
    cases c with
    | succ c=>simp [AV.flat] at hc
    | zero =>
     simp only [AV.flat,List.getElem?_cons_zero,Option.some.injEq] at hc
     subst hc
     have hf:(enc1 x0).flat[0]?=some (enc1 x0):=by cases hz:enc1 x0 <;> simp [hz,Qg2] at ha <;> rfl
     refine ⟨_,_,hx0,hf,fun v hv=>?_⟩
     obtain ⟨ad,rfl⟩:=Qho ha hv
     exact .ref0 ad _ ⟨B,0,w,0⟩ (if_pos ⟨i,rfl⟩) rfl)
 have key:∀k,sto (st.objs.set o (.refs st.objs.length xs)++[.fam w fl xs]) k=Sto.put (fun id=>if (∃i,id=fid st.objs.length i) then some (AObj.row false false true fl w []) else sto st.objs id) o (.row false false false false 1 (Zi st.objs.length 0 xs)) k ∨
   sto (st.objs.set o (.refs st.objs.length xs)++[.fam w fl xs]) k=none∨sto (st.objs.set o (.refs st.objs.length xs)++[.fam w fl xs]) k=some .dead:=by
  intro k
  have hget:∀m:Nat,m≠o→m≠st.objs.length→(st.objs.set o (AObj.refs st.objs.length xs)++[AObj.fam w fl xs])[m]?=st.objs[m]?:=fun m h1 h2=>by
   rcases Nat.lt_or_ge m st.objs.length with c | c
   ·rw [List.getElem?_append_left (by simpa using c),List.getElem?_set_ne (Ne.symm h1)]
   ·rw [List.getElem?_eq_none (by simp; omega),List.getElem?_eq_none c]
  have hgo:(st.objs.set o (AObj.refs st.objs.length xs)++[AObj.fam w fl xs])[o]?=some (.refs st.objs.length xs):=by
   rw [List.getElem?_append_left (by simpa using hol),List.getElem?_set_self hol]
  have hgj:(st.objs.set o (AObj.refs st.objs.length xs)++[AObj.fam w fl xs])[st.objs.length]?=some (.fam w fl xs):=by
   rw [List.getElem?_append_right (by simp)]; simp
  rcases Nat.lt_or_ge k BIG with c | c
  ·have hnk:¬ ∃i,k=fid st.objs.length i:=fun ⟨i,e⟩=>by have:=Zn st.objs.length i; omega
   rw [Zh c]
   by_cases e:k=o
   ·subst e; left; rw [hgo,Sto.put_same]; rfl
   ·by_cases e2:k=st.objs.length
    ·subst e2; right; right; rw [hgj]; rfl
    ·left; rw [hget k e e2,Sto.put_ne _ _ e]; simp only [hnk,if_false]; rw [Zh c]
  ·have eo:k≠o:=fun e=>by omega
   rw [Sto.put_ne _ _ eo]
   rcases Vp (st.objs.set o (AObj.refs st.objs.length xs)++[AObj.fam w fl xs]) k with ⟨c',_⟩ | ⟨_,⟨m,i,w',fl',ys,l,rfl,e2,e3,e4⟩ | e⟩
   ·omega
   ·left
    rw [e4]
    by_cases em:m=st.objs.length
    ·subst em
     rw [hgj] at e2; cases e2
     have:=hxe i l e3; subst this
     have hex:∃i',fid st.objs.length i=fid st.objs.length i':=⟨i,rfl⟩
     simp only [hex,if_true]
    ·have hex:¬ ∃i',fid m i=fid st.objs.length i':=fun ⟨i',e⟩=>em (Yq e).1
     simp only [hex,if_false]
     have emo:m≠o:=fun e=>by subst e; rw [hgo] at e2; cases e2
     rw [hget m emo em] at e2
     rw [Xk e2 e3]
   ·exact .inr (.inl e)
 refine ⟨M,_,.refl _ _,hle.leB base,⟨r2.forget key,h.slots.mono (CM.le_refl _) hle,h.nt,h.df,fun k hk=>?_,by simp; omega⟩⟩
 have hk:¬ InB (st.objs.length+1) k:=by simpa using hk
 have hex:¬ ∃i,k=fid st.objs.length i:=fun ⟨i,e⟩=>hk (.inr ⟨st.objs.length,i,Nat.lt_succ_self _,e⟩)
 simp only [hex,if_false]
 exact h.new k (fun c=>hk (c.mono (Nat.le_succ _)))
def Qb4 (m:Nat) (ids:List Nat):Bool:=ids.all fun k=>Nat.blt k BIG && !Nat.beq k m
def AObj.safe (m j:Nat):AObj→Bool
 | .row _ _ nr _ _ xs=>nr || Qb4 m (AV.idsL xs)
 | .loop _ sl _ _ _ _ _=>Qb4 m (AV.idsL (sl.map (·.2)))
 | .refs j' _=>!Nat.beq j' j
 | _=>true
def Qdm (m j o:Nat):Nat → List AObj→Bool
 | _,[]=>true
 | k,x::xs=>(Nat.beq k o || x.safe m j) && Qdm m j o (k+1) xs
theorem Qkr {m j o:Nat}:∀{k:Nat} {xs:List AObj},Qdm m j o k xs=true→∀(i:Nat) (x:AObj),xs[i]?=some x→k+i≠o→x.safe m j=true
 | _,[],_,i,x,h,_=>by simp at h
 | k,y::ys,h,i,x,hi,hne=>by
  simp only [Qdm,Bool.and_eq_true,Bool.or_eq_true] at h
  cases i with
  | zero =>
   simp at hi; subst hi
   rcases h.1 with e | e
   ·exact absurd (Nat.eq_of_beq_eq_true e) hne
   ·exact e
  | succ i=>exact Qkr h.2 i x (by simpa using hi) (by omega)
def Vu (m:Nat) (s:List (Nat × AV)):List Nat → List (Nat × AV)
 | []=>[]
 | t::ts=>match lk s t with
  | some x=>if Qb4 m x.ids then (t,x)::Vu m s ts else Vu m s ts
  | none=>Vu m s ts
theorem Qbu {m:Nat} {s:List (Nat × AV)}:∀{ts:List Nat} {t:Nat} {x:AV},lk (Vu m s ts) t=some x→lk s t=some x∧Qb4 m x.ids=true
 | [],t,x,h=>by simp [Vu,lk] at h
 | t0::ts,t,x,h=>by
  simp only [Vu] at h
  split at h
  ·rename_i y hy
   split at h
   ·rename_i hs
    simp only [lk] at h
    split at h
    ·rename_i e
     have e:=Nat.eq_of_beq_eq_true e
     subst e; cases h; exact ⟨hy,hs⟩
    ·exact Qbu h
   ·exact Qbu h
  ·exact Qbu h
theorem Qs4 {m:Nat} {ids:List Nat} (h:Qb4 m ids=true):∀k∈ids,k < BIG∧k≠m:=fun k hk=>by
 simp only [Qb4,List.all_eq_true,Bool.and_eq_true,Bool.not_eq_true'] at h
 obtain ⟨h1,h2⟩:=h k hk
 exact ⟨Yc h1,fun e=>by rw [e,Nat.beq_refl] at h2; cases h2⟩
theorem Qx6 {x y:AV} (h:y∈x.flat):∀o∈y.ids,o∈x.ids:=by
 cases x with
 | agg cs=>intro o ho; simp only [AV.ids,Qaj]; exact ⟨y,h,ho⟩
 | _=>simp only [AV.flat,List.mem_singleton] at h; subst h; exact fun o ho=>ho
theorem TrE.congr {ι':Inj} {x:AV} (h:∀o∈x.ids,ι' o=ι o):TrE M ι ι' x x :=
 ⟨fun _ h=>h,fun h=>h,fun j y hj=>⟨y,hj,fun v hv=>hv.congr (fun o ho=>h o (Qx6 (List.mem_of_getElem? hj) o ho)),fun v hv=>hv⟩⟩
theorem TrE.ref {ι':Inj} {o o' n:Nat} (h:∀p,ι o=some p→ι' o'=some p):TrE M ι ι' (.ref o 0 n) (.ref o' 0 n):=by
 refine ⟨fun w hw=>Qg5 (f:=fun _=>some o') rfl hw,fun h=>(by cases h),fun c y' hc=>?_⟩
 cases c with
 | succ c=>simp [AV.flat] at hc
 | zero =>
  simp only [AV.flat,List.getElem?_cons_zero,Option.some.injEq] at hc
  subst hc
  refine ⟨_,rfl,fun v hv=>?_,fun v hv=>?_⟩
  ·obtain ⟨p,hp,hq⟩:=Qdl hv
   exact hq _ _ (h p hp)
  ·obtain ⟨p,hp,_⟩:=Qdl hv
   cases hp
theorem Sim.adopt (h:Sim P B W0 D0 dl M ι st a W) {o j m n w:Nat} {fl:Bool} {cells l:List AV} {xs xs':List (List AV)} {live:List Nat}
  (ho:st.objs[o]?=some (.row false false false false 1 cells)) (hj:st.objs[j]?=some (.fam w fl xs)) (hm:st.objs[m]?=some (.row false false true fl w l))
  (hlen:xs'.length=cells.length) (hn:cells[n]?=some (.ref m 0 l.length)) (hxn:xs'[n]?=some l)
  (hoth:∀(i:Nat) (c:AV),i≠n→cells[i]?=some c→∃l',xs'[i]?=some l'∧xs[i]?=some l'∧c=.ref (fid j i) 0 l'.length)
  (hsafe:Qdm m j o 0 st.objs=true) (hbm:base≤m) (hbj:base≤j) :
  ∃ι',Inj.leB base ι ι'∧Sim P B W0 D0 dl M ι' ⟨Vu m st.slots live,((st.objs.set o (.refs j xs')).set j (.fam w fl xs')).set m .dead,st.nt⟩ a W:=by
 classical
 have hob:=h.lt ho
 have hjb:=h.lt hj
 have hmb:=h.lt hm
 have hoj:o≠j:=fun e=>by subst e; rw [ho] at hj; cases hj
 have hom:o≠m:=fun e=>by subst e; rw [ho] at hm; cases hm
 have hjm:j≠m:=fun e=>by subst e; rw [hj] at hm; cases hm
 have hol:=(List.getElem?_eq_some_iff.1 ho).1
 have hjl:=(List.getElem?_eq_some_iff.1 hj).1
 have hml:=(List.getElem?_eq_some_iff.1 hm).1
 have hfm:fid j n≠m:=fun e=>by have:=Zn j n; omega
 generalize hobjs:((st.objs.set o (.refs j xs')).set j (.fam w fl xs')).set m .dead=objs'
 have gO:objs'[o]?=some (.refs j xs'):=by rw [←hobjs,List.getElem?_set_ne hom.symm,List.getElem?_set_ne hoj.symm,List.getElem?_set_self hol]
 have gJ:objs'[j]?=some (.fam w fl xs'):=by rw [←hobjs,List.getElem?_set_ne hjm.symm,List.getElem?_set_self (by simpa using hjl)]
 have gM:objs'[m]?=some .dead:=by rw [←hobjs,List.getElem?_set_self (by simpa using hml)]
 have gE:∀k:Nat,k≠o→k≠j→k≠m→objs'[k]?=st.objs[k]?:=fun k h1 h2 h3=>by
  rw [←hobjs,List.getElem?_set_ne h3.symm,List.getElem?_set_ne h2.symm,List.getElem?_set_ne h1.symm]
 have gL:objs'.length=st.objs.length:=by rw [←hobjs]; simp
 let g:Nat → Option Nat := fun k=>if k=fid j n then some m else if k=m then none else some k
 have g1:g (fid j n)=some m:=if_pos rfl
 have g2:∀k,k≠fid j n→k≠m→g k=some k:=fun k e1 e2=>by simp only [g,e1,e2,if_false]
 let ι':Inj:=fun k=>(g k).bind ι
 have i1:ι' (fid j n)=ι m:=by simp only [ι',g1,Option.bind_some]
 have i2:∀k,k≠fid j n→k≠m→ι' k=ι k:=fun k e1 e2=>by simp only [ι',g2 k e1 e2,Option.bind_some]
 have isafe:∀ids,Qb4 m ids=true→∀k∈ids,ι' k=ι k:=fun ids hs k hk=>by
  obtain ⟨c1,c2⟩:=Qs4 hs k hk
  exact i2 k (fun e=>by have:=Zn j n; omega) c2
 have hobj:∀k x',sto objs' k=some x'→x'≠.dead→∃q x,g k=some q∧sto st.objs q=some x∧TrO M ι ι' x x':=by
  intro k x' hk hd
  rcases Vp objs' k with ⟨c,e⟩ | ⟨c,⟨q,i,w',fl',ys,z,rfl,e2,e3,e4⟩ | e⟩
  ·rw [e] at hk
   have hkf:k≠fid j n:=fun e=>by have:=Zn j n; omega
   by_cases ko:k=o
   ·subst ko
    rw [gO] at hk; cases hk
    refine ⟨k,_,g2 k hkf hom,Qcp hob ho rfl,.row _ _ _ _ _ _ _ (by simp [Yd,hlen]) (fun e=>by cases e) (fun i c c' h1 h2=>?_)⟩
    rw [Yi] at h2
    by_cases ein:i=n
    ·subst ein
     rw [hn] at h1; cases h1
     rw [hxn] at h2
     simp only [Option.map_some,Nat.zero_add,Option.some.injEq] at h2
     subst h2
     exact .ref fun p hp=>by rw [i1]; exact hp
    ·obtain ⟨l',e1,_,rfl⟩:=hoth i c ein h1
     rw [e1] at h2
     simp only [Option.map_some,Nat.zero_add,Option.some.injEq] at h2
     subst h2
     exact .ref fun p hp=>by rw [i2 _ (fun e=>ein (Yq e).2) (fun e=>by have:=Zn j i; omega)]; exact hp
   ·by_cases kj:k=j
    ·subst kj; rw [gJ] at hk; cases hk; exact absurd rfl hd
    ·by_cases km:k=m
     ·subst km; rw [gM] at hk; cases hk; exact absurd rfl hd
     ·rw [gE k ko kj km] at hk
      cases hx:st.objs[k]? with
      | none=>rw [hx] at hk; cases hk
      | some x =>
       rw [hx] at hk
       simp only [Option.map_some,Option.some.injEq] at hk
       subst hk
       have hs:=Qkr hsafe k x hx (by omega)
       have hst:sto st.objs k=some x.plain:=by rw [Zh c,hx]; rfl
       refine ⟨k,_,g2 k hkf km,hst,?_⟩
       cases x with
       | dead=>exact absurd rfl hd
       | fam _ _ _=>exact absurd rfl hd
       | row bx ro nr fl0 w0 ys =>
        simp only [AObj.safe,Bool.or_eq_true] at hs
        rcases hs with hs | hs
        ·obtain ⟨_,_,hro⟩:=h.rel.row k _ _ _ _ _ _ hst
         exact .sameRow (hro.nr hs)
        ·exact .row _ _ _ _ _ _ _ rfl (fun _ e=>e) (fun i y y' h1 h2=>by
          rw [h1] at h2; cases h2
          exact TrE.congr fun o ho=>isafe _ hs o (Qaj.2 ⟨y,List.mem_of_getElem? h1,ho⟩))
       | loop nt sl ps as bd s pe =>
        simp only [AObj.safe] at hs
        refine .loop _ _ _ _ _ _ _ _ (fun t y hy=>⟨y,hy,fun v hv=>hv.congr fun o ho=>isafe _ hs o (Qaj.2 ⟨y,?_,ho⟩)⟩)
        have:∀(s:List (Nat × AV)),lk s t=some y→y∈s.map (·.2):=fun s=>by
         induction s with
         | nil=>intro e; cases e
         | cons q r ih =>
          intro e
          obtain ⟨k0,v0⟩:=q
          simp only [lk] at e
          split at e
          ·cases e; simp
          ·simp [ih e]
        exact this sl hy
       | refs j' ys =>
        simp only [AObj.safe,Bool.not_eq_true'] at hs
        have hjj:j'≠j:=fun e=>by rw [e,Nat.beq_refl] at hs; cases hs
        refine .row _ _ _ _ _ _ _ rfl (fun _ e=>e) (fun i y y' h1 h2=>?_)
        rw [h1] at h2; cases h2
        rw [Yi] at h1
        cases hl:ys[i]? with
        | none=>rw [hl] at h1; cases h1
        | some l0 =>
         rw [hl] at h1
         simp only [Option.map_some,Nat.zero_add,Option.some.injEq] at h1
         subst h1
         exact .ref fun p hp=>by rw [i2 _ (fun e=>hjj (Yq e).1) (fun e=>by have:=Zn j' i; omega)]; exact hp
  ·rw [e4] at hk; cases hk
   have hfk:fid q i≠m:=fun e=>by have:=Zn q i; omega
   by_cases qj:q=j
   ·subst qj
    rw [gJ] at e2; cases e2
    by_cases ein:i=n
    ·subst ein
     rw [hxn] at e3; cases e3
     have hst:=Qcp hmb hm rfl
     obtain ⟨_,_,hro⟩:=h.rel.row m _ _ _ _ _ _ hst
     exact ⟨m,_,g1,hst,.sameRow (hro.nr rfl)⟩
    ·have hil:i < cells.length:=by rw [←hlen]; exact (List.getElem?_eq_some_iff.1 e3).1
     obtain ⟨l',e1,e5,_⟩:=hoth i _ ein (List.getElem?_eq_getElem hil)
     rw [e1] at e3; cases e3
     have hst:=Xk hj e5
     obtain ⟨_,_,hro⟩:=h.rel.row _ _ _ _ _ _ _ hst
     exact ⟨_,_,g2 _ (fun e=>ein (Yq e).2) hfk,hst,.sameRow (hro.nr rfl)⟩
   ·have qo:q≠o:=fun e=>by subst e; rw [gO] at e2; cases e2
    have qm:q≠m:=fun e=>by subst e; rw [gM] at e2; cases e2
    rw [gE q qo qj qm] at e2
    have hst:=Xk e2 e3
    obtain ⟨_,_,hro⟩:=h.rel.row _ _ _ _ _ _ _ hst
    exact ⟨_,_,g2 _ (fun e=>qj (Yq e).1) hfk,hst,.sameRow (hro.nr rfl)⟩
  ·rw [e] at hk; cases hk
 have hrel:Rel P B W0 (dl++D0) M ι' (sto objs') W:=by
  refine h.rel.via g (fun k k' q e1 e2=>?_) (fun k q e=>by simp only [ι',e,Option.bind_some]) hobj (fun k hk=>?_)
  ·by_cases c1:k=fid j n
   ·by_cases c2:k'=fid j n
    ·rw [c1,c2]
    ·by_cases c3:k'=m
     ·simp only [g,c3,Ne.symm hfm,if_false,if_true] at e2; cases e2
     ·rw [g2 k' c2 c3] at e2; cases e2; rw [c1,g1] at e1; cases e1; exact absurd rfl c3
   ·by_cases c3:k=m
    ·simp only [g,c3,Ne.symm hfm,if_false,if_true] at e1; cases e1
    ·rw [g2 k c1 c3] at e1; cases e1
     by_cases c2:k'=fid j n
     ·rw [c2,g1] at e2; cases e2; exact absurd rfl c3
     ·by_cases c4:k'=m
      ·simp only [g,c4,Ne.symm hfm,if_false,if_true] at e2; cases e2
      ·rw [g2 k' c2 c4] at e2; cases e2; rfl
  ·cases hx:sto objs' k with
   | none=>exact .inl rfl
   | some x' =>
    right
    by_cases hd:x'=.dead
    ·rw [hd]
    ·obtain ⟨q,x,e1,e2,e3⟩:=hobj k x' hx hd
     have:ι q=none:=by simpa only [ι',e1,Option.bind_some] using hk
     rcases h.rel.used q this with e | e
     ·rw [e2] at e; cases e
     ·rw [e2] at e; cases e; exact absurd rfl e3.alive
 refine ⟨ι',fun k p hk hp=>?_,⟨hrel,fun t y hy=>?_,h.nt,h.df,fun k hk=>?_,by show objs'.length≤BIG; rw [gL]; exact h.big⟩⟩
 ·have h1:k≠m:=by
   rcases hk with hk | ⟨q,i,hq,rfl⟩
   ·omega
   ·have:=Zn q i; omega
  have h2:k≠fid j n:=by
   rcases hk with hk | ⟨q,i,hq,rfl⟩
   ·intro e
    have:=Zn j n; omega
   ·intro e; have:=(Yq e).1; omega
  rw [i2 k h2 h1]; exact hp
 ·obtain ⟨q1,q2⟩:=Qbu hy
  exact (h.slots t y q1).congr fun o ho=>isafe _ q2 o ho
 ·have hk:¬ InB objs'.length k:=hk
  rw [gL] at hk
  by_cases c1:k=fid j n
  ·exact absurd (.inr ⟨j,n,hjl,c1⟩) hk
  ·by_cases c2:k=m
   ·exact absurd (.inl (by omega)) hk
   ·rw [i2 k c1 c2]; exact h.new k hk
abbrev eF {γ:Type} (enc:γ→AV) (ls:List (List γ)):List (List AV):=ls.map fun l=>l.map enc
theorem Qpb {γ:Type} (enc:γ→AV) (ls:List (List γ)) (n:Nat) (b:List γ):eF enc (ls.set n b)=(eF enc ls).set n (b.map enc):=by simp [eF,List.map_set]
theorem Qwz (o j m:Nat) {γ:Type} {enc:γ→AV} {ls:List (List γ)} {x b:List γ} {n:Int} {w:Nat} {fl:Bool} (live:List Nat)
  (ho:st.objs[o]?=some (.row false false false false 1 ((Zi j 0 (eF enc ls)).set n.toNat (.ref m 0 b.length)))) (hj:st.objs[j]?=some (.fam w fl (eF enc ls))) (hm:st.objs[m]?=some (.row false false true fl w (b.map enc)))
  (hx:lkI ls n=some x) (hc:(Qdm m j o 0 st.objs && Nat.ble base m && Nat.ble base j)=true)
  (hS:(⟨Vu m st.slots live,((st.objs.set o (.refs j (eF enc (ls.set n.toNat b)))).set j (.fam w fl (eF enc (ls.set n.toNat b)))).set m .dead,st.nt⟩:St)=st'):Wk P base st st':=by
 subst hS
 simp only [Bool.and_eq_true] at hc
 intro B W0 D0 dl M ι a W h
 obtain ⟨_,h2,_⟩:=Vt hx
 obtain ⟨ι',g1,g2⟩:=h.adopt (base:=base) (n:=n.toNat) (xs':=eF enc (ls.set n.toNat b)) (live:=live) ho hj hm (by simp [Yd]) (by rw [List.getElem?_set_self (by simpa [Yd] using h2)]; simp) (by simp [eF,h2])
  (fun i c hi hcc=>by
   rw [List.getElem?_set_ne (Ne.symm hi),Yi] at hcc
   cases hl:(eF enc ls)[i]? with
   | none=>rw [hl] at hcc; cases hcc
   | some l' =>
    rw [hl] at hcc
    simp only [Option.map_some,Nat.zero_add,Option.some.injEq] at hcc
    exact ⟨l',by rw [Qpb,List.getElem?_set_ne (Ne.symm hi)]; exact hl,rfl,hcc.symm⟩) hc.1.1 (Nat.le_of_ble_eq_true hc.1.2) (Nat.le_of_ble_eq_true hc.2)
 exact ⟨M,ι',.refl _ _,g1,g2⟩
theorem Qne {σ:Sto} {all:List Nat}:∀(os:List Nat),(∀o∈os,∃bx ro fl w xs,σ o=some (.row bx ro true fl w xs))→∃es,Qay σ all os=some es
 | [],_=>⟨[],rfl⟩
 | o::os,h=>by
  obtain ⟨es,he⟩:=Qne (all:=all) os (fun k hk=>h k (by simp [hk]))
  obtain ⟨bx,ro,fl,w,xs,ho⟩:=h o (by simp)
  exact ⟨(o,.row bx true true fl w xs)::es,by simp [Qay,ho,he]⟩
theorem Qzg (o j:Nat) {γ:Type} {enc:γ→AV} {ls:List (List γ)} {w:Nat} {fl:Bool} (ho:st.objs[o]?=some (.refs j (eF enc ls))) (hj:st.objs[j]?=some (.fam w fl (eF enc ls)))
  (hS:(⟨st.slots,(st.objs.set o (.row false false true false 1 (ls.map fun l=>eL fl enc l))).set j .dead,st.nt⟩:St)=st'):Wk P base st st':=by
 subst hS
 intro B W0 D0 dl M ι a W h
 have hob:=h.lt ho
 have hjb:=h.lt hj
 have hoj:o≠j:=fun e=>by subst e; rw [ho] at hj; cases hj
 have hol:=(List.getElem?_eq_some_iff.1 ho).1
 have hjl:=(List.getElem?_eq_some_iff.1 hj).1
 let ids:=(List.range ls.length).map (fid j)
 have hin:∀i l,(eF enc ls)[i]?=some l→sto st.objs (fid j i)=some (.row false false true fl w l):=fun i l hi=>Xk hj hi
 obtain ⟨es,hes⟩:=Qne (σ:=sto st.objs) (all:=ids) ids (fun k hk=>by
  simp only [ids,List.mem_map,List.mem_range] at hk
  obtain ⟨i,hi,rfl⟩:=hk
  exact ⟨false,false,fl,w,_,hin i (ls[i].map enc) (by simp [eF,hi])⟩)
 have r1:=Jz h.rel (ids:=ids) hes
 have hg:=h.rel.growC ids
 have hnid:∀k,k < BIG→k ∉ ids:=fun k hk hm=>by
  simp only [ids,List.mem_map,List.mem_range] at hm
  obtain ⟨i,_,rfl⟩:=hm
  have:=Zn j i; omega
 have hos0:sto st.objs o=some (.row false false false false 1 (Zi j 0 (eF enc ls))):=by rw [Zh hob,ho]; rfl
 have hos:(sto st.objs).puts es o=some (.row false false false false 1 (Zi j 0 (eF enc ls))):=by rw [J4 hes (hnid o hob)]; exact hos0
 have r2:=r1.row1 (bx':=false) (nr':=true) (fl':=false) (xs':=ls.map fun l=>eL fl enc l) hos (by simp [Yd,eF]) (fun x hx=>by
   simp only [List.mem_map] at hx
   obtain ⟨l,_,rfl⟩:=hx
   exact ⟨.inr rfl,rfl,fun z hz=>by simp [AV.flat] at hz; subst hz; rfl⟩) (fun _=>Q1.2 fun x hx=>by
   simp only [List.mem_map] at hx
   obtain ⟨l,_,rfl⟩:=hx
   rfl) (by simp)
  (fun i c x' y' hi hc=>by
   simp only [List.getElem?_map,Option.map_eq_some_iff] at hi
   obtain ⟨l,hl,rfl⟩:=hi
   have hle:(eF enc ls)[i]?=some (l.map enc):=by simp [eF,hl]
   cases c with
   | succ c=>simp [AV.flat] at hc
   | zero =>
    simp only [AV.flat,List.getElem?_cons_zero,Option.some.injEq] at hc
    subst hc
    refine ⟨.ref (fid j i) 0 (l.map enc).length,.ref (fid j i) 0 (l.map enc).length,by rw [Yi,hle]; simp,rfl,fun v hv=>?_⟩
    have hv0:Qa M ι v (.ref (fid j i) 0 (l.map enc).length):=by
     obtain ⟨p,hp,_⟩:=Qdl hv
     generalize (l.map enc).length=q at *
     cases hv with
     | ref0 _ _ p hp hc=>exact .ref0 _ _ p hp hc
     | ref _ _ _ p off cap hp h1 h2 h3=>exact .ref _ _ _ p off cap hp h1 h2 h3
    have hsn:Qt (sto st.objs) Qn (.ref (fid j i) 0 (l.map enc).length)=some (.lst fl (l.map enc),[fid j i]):=by
     show Qt (sto st.objs) (Qn - 1+1) _=_
     simp only [Qt,hin i _ hle]
     simp [List.take_of_length_le]
    have:=X4 h.rel ids Qn _ _ _ v hsn (fun k hk=>by
     simp at hk; subst hk
     simp only [ids,List.mem_map,List.mem_range]
     exact ⟨i,(List.getElem?_eq_some_iff.1 hl).1,rfl⟩) hv0
    exact this.mono (CM.le_refl _) (Inj.noInj_le _))
 have key:∀k,sto ((st.objs.set o (.row false false true false 1 (ls.map fun l=>eL fl enc l))).set j .dead) k=((sto st.objs).puts es).put o (.row false false true false 1 (ls.map fun l=>eL fl enc l)) k ∨
   sto ((st.objs.set o (.row false false true false 1 (ls.map fun l=>eL fl enc l))).set j .dead) k=none∨sto ((st.objs.set o (.row false false true false 1 (ls.map fun l=>eL fl enc l))).set j .dead) k=some .dead:=by
  intro k
  rcases Nat.lt_or_ge k BIG with c | c
  ·rw [Zh c]
   by_cases ko:k=o
   ·subst ko; left; rw [Sto.put_same,List.getElem?_set_ne hoj.symm,List.getElem?_set_self hol]; rfl
   ·by_cases kj:k=j
    ·subst kj; right; right; rw [List.getElem?_set_self (by simpa using hjl)]; rfl
    ·left; rw [Sto.put_ne _ _ ko,J4 hes (hnid k c),List.getElem?_set_ne (Ne.symm kj),List.getElem?_set_ne (Ne.symm ko),Zh c]
  ·rcases Vp ((st.objs.set o (.row false false true false 1 (ls.map fun l=>eL fl enc l))).set j .dead) k with ⟨c',_⟩ | ⟨_,⟨q,i,w',fl',ys,z,rfl,e2,e3,e4⟩ | e⟩
   ·omega
   ·left
    have qj:q≠j:=fun e=>by subst e; rw [List.getElem?_set_self (by simpa using hjl)] at e2; cases e2
    have qo:q≠o:=fun e=>by subst e; rw [List.getElem?_set_ne (Ne.symm qj),List.getElem?_set_self hol] at e2; cases e2
    rw [List.getElem?_set_ne (Ne.symm qj),List.getElem?_set_ne (Ne.symm qo)] at e2
    rw [e4,Sto.put_ne _ _ (fun e=>by have:=Zn q i; omega),J4 hes (fun hm=>by
     simp only [ids,List.mem_map,List.mem_range] at hm
     obtain ⟨i',_,e⟩:=hm
     exact qj (Yq e).1.symm),Xk e2 e3]
   ·exact .inr (.inl e)
 exact ⟨_,ι,hg,.refl _ _,⟨r2.forget key,h.slots.mono hg.le (Inj.le_refl _),h.nt,h.df,fun k hk=>h.new k (by simpa using hk),by simpa using h.big⟩⟩
variable {rd:Option Nat} {ops:Array Oper} {S:St} {o:Oper} {out:AOut} {Φ:AOut→Prop} {d:Option (List Sk)} {i:Nat}
theorem Qvs {v:Option AV} {rds:List Nat} {s:Sk} (ho:Xy ops i st=some o) (he:Zr P false noC st.sto st.objs.length (lk st.slots) o=some (.val ⟨v,[],st.objs.length,rds⟩))
  (hS:Z1 ops i st v []=some S) (hc:∀e∈rds,∃c∈s.2,Qim c e) (k:RW P rd base ops (Zd d [s]) (i+1) S Φ):RW P rd base ops d i st Φ:=by
 obtain ⟨h1,h2⟩:=V7 ho
 have hl:=Yk hS
 unfold Z1 at hS
 rw [h1] at hS
 simp only at hS
 split at hS
 ·rename_i objs slots ha hp
  cases hS
  exact Qb8 ⟨o,_,h1,Qf9 noC_sound h2 he ha hp hl,⟨fun e he=>(by cases he),hc⟩⟩ k
 ·cases hS
theorem Qz9 {ob cl len:Nat} {ro nr fl:Bool} {w:Nat} {cells:List AV} {n:Int} (hi:Qbx P ops i st=some (.ref ob 0 len,n,w)) (hrow:st.sto ob=some (.row false ro nr fl w cells)) (h1:0≤n) (h2:n.toNat < len) (hcl:Qim cl ob)
  (hS:Z1 ops i st (some (.ptr ob n.toNat 0)) []=some S) (k:RW P rd base ops (Zd d [([],[cl])]) (i+1) S Φ):RW P rd base ops d i st Φ:=by
 obtain ⟨o,t,x,ix,kk,T,e,E,ho,hop,hT,hk,hE,rfl,hx,hix⟩:=Qd8 hi
 refine Qvs (v:=some (.ptr ob n.toNat 0)) (rds:=[ob]) ho ?_ hS (fun e he=>⟨cl,by simp,by simp at he; subst he; exact hcl⟩) k
 have hneg:¬ n < 0:=by omega
 unfold Zr
 rw [hop]
 simp only [Zz,Bool.false_eq_true,if_false]
 unfold evalOp
 rw [hop]
 simp only [hT,hx,hix,hk,asN,hneg,if_false,hE,hrow,blt_true h2,Bool.true_and,decide_true,if_true,Zv,Nat.zero_add]
theorem Q1t {γ:Type} {enc:γ→AV} {ls:List (List γ)} {x:List γ} {n:Int} {ob j:Nat} (hi:Qbx P ops i st=some (.ref ob 0 ls.length,n,1)) (hrow:st.sto ob=some (.row false false false false 1 (Zi j 0 (eF enc ls))))
  (ha:lkI ls n=some x) (hS:Z1 ops i st (some (.ptr ob n.toNat 0)) []=some S) (k:RW P rd base ops (Zd d [([],[ob])]) (i+1) S Φ):RW P rd base ops d i st Φ:=by
 obtain ⟨h1,h2,_⟩:=Vt ha
 exact Qz9 hi hrow h1 h2 (.inl rfl) hS k
theorem Qrz {γ:Type} {enc:γ→AV} {ls:List (List γ)} {x:List γ} {n:Int} {w j:Nat} {fl:Bool} (hj:st.objs[j]?=some (.fam w fl (eF enc ls))) (ha:lkI ls n=some x):st.sto (fid j n.toNat)=some (.row false false true fl w (x.map enc)):=by
 obtain ⟨_,_,h3⟩:=Vt ha
 exact Xk hj (by simp [eF,h3])
theorem Q2h {γ:Type} {enc:γ→AV} {ls:List (List γ)} {x:List γ} {y:γ} {n c:Int} {w j:Nat} {fl:Bool} (hi:Qbx P ops i st=some (.ref (fid j n.toNat) 0 x.length,c,w)) (hj:st.objs[j]?=some (.fam w fl (eF enc ls)))
  (ha:lkI ls n=some x) (hy:lkI x c=some y) (hb:Nat.blt j BIG=true) (hS:Z1 ops i st (some (.ptr (fid j n.toNat) c.toNat 0)) []=some S) (k:RW P rd base ops (Zd d [([],[j])]) (i+1) S Φ):RW P rd base ops d i st Φ:=by
 obtain ⟨h1,h2,_⟩:=Vt hy
 exact Qz9 hi (Qrz hj ha) h1 h2 (.inr ⟨Yc hb,_,rfl⟩) hS k
theorem Q10 {ob cl m c:Nat} {bx ro nr fl:Bool} {w:Nat} {cells:List AV} {y:AV} (hp:Qbd ops i st=some (ob,m,c)) (hrow:st.sto ob=some (.row bx ro nr fl w cells)) (hy:cells[m]?=some y) (hcl:Qim cl ob)
  (hS:Qhk P ops i st c y=some S) (k:RW P rd base ops (Zd d [([],[cl])]) (i+1) S Φ):RW P rd base ops d i st Φ:=by
 unfold Qhk at hS
 split at hS
 ·rename_i o ho
  split at hS
  ·rename_i t x hop
   split at hS
   ·rename_i T hT
    split at hS
    ·rename_i v hv
     have hx:evo (lk st.slots) x=some (.ptr ob m c):=by
      unfold Qbd at hp
      rw [ho] at hp
      simp only [hop] at hp
      split at hp
      ·rename_i hx; cases hp; exact hx
      ·cases hp
     refine Qvs (v:=some v) (rds:=[ob]) ho ?_ hS (fun e he=>⟨cl,by simp,by simp at he; subst he; exact hcl⟩) k
     unfold Zr
     rw [hop]
     simp only [Zz,Bool.false_eq_true,if_false]
     unfold evalOp
     rw [hop]
     simp only [hT,hx,hrow,hy,hv,Option.map_some,Zv]
    ·cases hS
   ·cases hS
  ·cases hS
 ·cases hS
theorem Q1v {γ:Type} {enc:γ→AV} {ls:List (List γ)} {x:List γ} {n:Int} {ob j:Nat} (hp:Qbd ops i st=some (ob,n.toNat,0)) (hrow:st.sto ob=some (.row false false false false 1 (Zi j 0 (eF enc ls))))
  (ha:lkI ls n=some x) (hS:Qhk P ops i st 0 (.ref (fid j n.toNat) 0 x.length)=some S) (k:RW P rd base ops (Zd d [([],[ob])]) (i+1) S Φ):RW P rd base ops d i st Φ:=by
 obtain ⟨h1,h2,h3⟩:=Vt ha
 exact Q10 hp hrow (by rw [Yi]; simp [eF,h3]) (.inl rfl) hS k
theorem Q0a {γ:Type} {enc:γ→AV} {ls:List (List γ)} {x:List γ} {n:Int} {ob j m q:Nat} (hp:Qbd ops i st=some (ob,n.toNat,0)) (hrow:st.sto ob=some (.row false false false false 1 (Zi j 0 (eF enc ls))))
  (ha:lkI ls n=some x) (hv:Qfj P ops i st=some (.ref m 0 q)) (hS:Z1 ops i st none [(ob,.row false false false false 1 ((Zi j 0 (eF enc ls)).set n.toNat (.ref m 0 q)))]=some S) (hl:Nat.beq S.objs.length st.objs.length=true)
  (k:RW P rd base ops (Zd d [([ob],[ob])]) (i+1) S Φ):RW P rd base ops d i st Φ:=by
 obtain ⟨h1,h2,h3⟩:=Vt ha
 obtain ⟨o,t,x0,y,T,ho,hop,hT,hx,hy,hc⟩:=Qcc hp hv
 refine Vr (nf:=true) (fr:=st.objs.length) (rds:=[ob]) ho ?_ hS (Nat.eq_of_beq_eq_true hl) k
 have hr:(Zi j 0 (eF enc ls))[n.toNat]?=some (.ref (fid j n.toNat) 0 x.length):=by rw [Yi]; simp [eF,h3]
 unfold Zr
 rw [hop]
 simp only [Zz,Bool.false_eq_true,if_false]
 unfold evalOp
 rw [hop]
 have hput:Qca (.ref (fid j n.toNat) 0 x.length) 0 (.ref m 0 q)=some (.ref m 0 q):=by simp [Qca,AV.cell]
 simp only [hT,hx,hy,hrow,hr,hc,if_true,Bool.or_true,Bool.true_or,hput,frz,Qay,List.contains_nil,Bool.false_eq_true,if_false,List.nil_append,Zv,Bool.false_and]
theorem Qwi {objs:List AObj} {o j:Nat} {xs xs':List (List AV)} (ho:objs[o]?=some (.refs j xs)) (he:Zi j 0 xs'=Zi j 0 xs):sto (objs.set o (.refs j xs'))=sto objs:=by
 have hlt:=(List.getElem?_eq_some_iff.1 ho).1
 funext k
 rcases Nat.lt_or_ge k BIG with c | c
 ·rw [Zh c,Zh c]
  by_cases e:k=o
  ·subst e; rw [ho,List.getElem?_set_self hlt]; simp only [Option.map_some,AObj.plain,he]
  ·rw [List.getElem?_set_ne (Ne.symm e)]
 ·refine Qbf (fun q w fl ys=>?_) c
  by_cases e:q=o
  ·subst e; rw [ho,List.getElem?_set_self hlt]; simp
  ·rw [List.getElem?_set_ne (Ne.symm e)]
theorem Qjs (j:Nat):∀(i:Nat) (xs:List (List AV)) (n:Nat) (l:List AV),(∀y,xs[n]?=some y→y.length=l.length)→Zi j i (xs.set n l)=Zi j i xs
 | _,[],_,_,_=>rfl
 | i,y::ys,0,l,h=>by simp only [List.set_cons_zero,Zi,h y rfl]
 | i,y::ys,n+1,l,h=>by simp only [List.set_cons_succ,Zi]; rw [Qjs j (i+1) ys n l (fun z hz=>h z (by simpa using hz))]
def Qyd (ops:Array Oper) (i j o:Nat) (st:St) (x y:AObj):Option St :=
 match ops[i]? with
 | some op=>match Y9 st.slots st.nt op.dst none with
  | some slots=>some ⟨slots,(st.objs.set j x).set o y,st.nt⟩
  | none=>none
 | none=>none
theorem Q0z {γ:Type} {enc:γ→AV} {ls:List (List γ)} {x:List γ} {y y':γ} {n m:Int} {w j q c:Nat} {fl:Bool} {v:AV} (hp:Qbd ops i st=some (fid j n.toNat,m.toNat,c)) (hj:st.objs[j]?=some (.fam w fl (eF enc ls))) (hq:st.objs[q]?=some (.refs j (eF enc ls)))
  (ha:lkI ls n=some x) (hy:lkI x m=some y) (hb:Nat.blt j BIG=true) (hv:Qfj P ops i st=some v) (hk:(v.nr && (v.scs || !fl))=true) (hput:Qca (enc y) c v=some (enc y'))
  (hS:Qyd ops i j q st (.fam w fl (eF enc (ls.set n.toNat (x.set m.toNat y')))) (.refs j (eF enc (ls.set n.toNat (x.set m.toNat y'))))=some S) (k:RW P rd base ops (Zd d [([j],[j])]) (i+1) S Φ):RW P rd base ops d i st Φ:=by
 obtain ⟨h1,h2,h3⟩:=Vt hy
 obtain ⟨g1,g2,g3⟩:=Vt ha
 obtain ⟨o,t,x0,y0,T,ho,hop,hT,hx,hyv,hc⟩:=Qcc hp hv
 obtain ⟨q1,q2⟩:=V7 ho
 simp only [Bool.and_eq_true,Bool.or_eq_true,Bool.not_eq_true'] at hk
 have hrow:=Qrz (st:=st) hj ha
 have hfl:(fl && v.scs)=fl:=by
  rcases hk.2 with e | e
  ·simp [e]
  ·simp [e]
 have he:Zr P false noC st.sto st.objs.length (lk st.slots) o=some (.val ⟨none,[(fid j n.toNat,.row false false true fl w ((x.set m.toNat y').map enc))],st.objs.length,[fid j n.toNat]⟩):=by
  unfold Zr
  rw [hop]
  simp only [Zz,Bool.false_eq_true,if_false]
  unfold evalOp
  rw [hop]
  simp only [hT,hx,hyv,hrow,List.getElem?_map,h3,Option.map_some,hc,if_true,hk.1,Bool.or_true,hput,frz,Qay,List.contains_nil,Bool.false_eq_true,if_false,List.nil_append,Zv,List.map_set,Bool.true_and,hfl]
 unfold Qyd at hS
 rw [q1] at hS
 simp only at hS
 have hjq:q≠j:=fun e=>by subst e; rw [hj] at hq; cases hq
 split at hS
 ·rename_i slots hpd
  cases hS
  refine Qb8 (s:=([j],[j])) (st1:=⟨slots,(st.objs.set j (.fam w fl (eF enc (ls.set n.toNat (x.set m.toNat y'))))).set q (.refs j (eF enc (ls.set n.toNat (x.set m.toNat y')))),st.nt⟩) ⟨o,⟨none,[(fid j n.toNat,.row false false true fl w ((x.set m.toNat y').map enc))],st.objs.length,st.objs.length,[fid j n.toNat]⟩,q1,⟨ylL_ev noC_sound q2 he,rfl,by simp,?_,by simp,fun hb=>by simpa using hb,fun e=>(by cases e),hpd,rfl⟩,⟨fun e he=>?_,fun e he=>?_⟩⟩ k
  ·show sto ((st.objs.set j _).set q _)=_
   rw [Qwi (xs:=eF enc ls) (by rw [List.getElem?_set_ne hjq.symm]; exact hq),Qpb,Qzy hj (l:=x.map enc) (by simp [eF,g3])]
   ·rfl
   ·rw [Qpb]
    exact Qjs _ _ _ _ _ (fun y hy=>by simp [eF,g3] at hy; subst hy; simp)
  ·simp at he; subst he; exact ⟨j,by simp,.inr ⟨Yc hb,_,rfl⟩⟩
  ·simp at he; subst he; exact ⟨j,by simp,.inr ⟨Yc hb,_,rfl⟩⟩
 ·cases hS
end
end Go.Ab
namespace Go.Ab
open Go.RowKit
open Go.ChangeShapes in
theorem post_of_below {H:Type} {enc:TypeId × Value→H} {P:Program} {f:Func} {s:ChangeSpec} {apart fresh handsOn again:Bool} {W W':World} {args:Array Value} {v:Value} {ds gs:List (DataW H)} {before pa pv:List MemPlace}
  (hW:DataW.Whole enc P f.params.toList s.vars apart W args.toList ds gs before)
  (hres:∀(b:Nat) (sp:Nat → Bool) (hd:Bool),DataW.TrodAll enc P W' b sp hd f.resultTypes.toList (v.resultList f.resultTypes.size) (s.fn H (ds++gs)).results [])
  (hargs:∀sp:Nat → Bool,(∀p∈before,sp p.block=true)→DataW.TrodAll enc P W' 0 sp true f.params.toList args.toList (s.fn H (ds++gs)).args pa)
  (hvars:∀sp:Nat → Bool,(∀p∈before,sp p.block=true)→DataW.TrodVars enc P W' sp s.vars (s.fn H (ds++gs)).vars pv)
  (hps:before=pa++pv) (hb:Below W.heap.size W W')
  (hok:∀(j:Nat) (t:TypeId) (r:Value),f.resultTypes[j]?=some t→(v.resultList f.resultTypes.size)[j]?=some r→Value.okWide P W' .any 0 t r) :
  s.post enc P f apart fresh handsOn again W args v W':=by
 have hold:∀p∈before,(fun b=>decide (b < W.heap.size)) p.block=true:=fun p hp=>by simpa using hW.lt p hp
 have hlt:=hW.lt
 refine ⟨ds,gs,before,[],pa,pv,hW,hres _ _ _,hargs _ hold,hvars _ hold,World.keptBut_mono (fun p hp=>⟨hp,?_⟩) (hb.frame (·∈before)),fun _=>?_⟩
 ·rw [hps,List.mem_append] at hp
  exact Or.inr hp
 ·obtain ⟨_,_,_,_,_,hz,hn⟩:=hW
  refine ⟨hok,_,_,([]++pa)++pv,⟨[]++pa,pv,trodAll_append (hargs _ (fun _ _=>rfl)) (hres _ _ _),hvars _ (fun _ _=>rfl),rfl,?_,?_⟩,?_⟩
  ·intro b off hp
   have hm:MemPlace.cell b off∈before:=by rw [hps]; simpa using hp
   have h1:b < W.heap.size:=hlt _ hm
   rw [hb.frozen h1]
   exact hz b off hm
  ·intro ha
   have:=hn ha
   rw [hps] at this
   simpa using this
  ·intro p hp _
   rw [hps]
   simpa using hp
end Go.Ab
namespace Go.Ab
open Go.RowKit
theorem Qtm {M:CM} {ι:Inj} {v:Value} {fl:Bool} (h:Qa M ι v (.lst fl [])):Qa M ι v .nils∨Qa M ι v .emn:=by
 cases h with
 | lst0 a =>
  cases a with
  | none=>exact .inl .nils
  | some a=>exact .inr (.emn a 0)
 | lst b off cap=>exact .inr (.emn _ cap)
theorem Zb.nil {P:Program} {f:FuncId} {l1 l2:List AV} {fl:Bool} {out:Z2} (h1:Zb P f (l1++.nils::l2) out) (h2:Zb P f (l1++.emn::l2) out):Zb P f (l1++.lst fl []::l2) out:=by
 intro W M vs hM hsz hr
 have hlt:l1.length < vs.size:=by simp at hsz; omega
 have h0:=hr l1.length vs[l1.length] (.lst fl []) (by simp [hlt]) (by simp)
 have other:∀y,Qa M noInj vs[l1.length] y→∀(j:Nat) (v:Value) (a:AV),vs[j]?=some v→(l1++y::l2)[j]?=some a→Qa M noInj v a:=by
  intro y hy j v a hv ha
  rcases Nat.lt_trichotomy j l1.length with c | c | c
  ·refine hr j v a hv ?_
   rw [List.getElem?_append_left c] at ha ⊢; exact ha
  ·subst c
   rw [List.getElem?_append_right (Nat.le_refl _)] at ha
   simp at ha; subst ha
   rw [Array.getElem?_eq_getElem hlt] at hv; cases hv; exact hy
  ·refine hr j v a hv ?_
   rw [List.getElem?_append_right (by omega)] at ha ⊢
   rw [show j - l1.length=(j - l1.length - 1)+1 by omega] at ha ⊢
   simpa using ha
 rcases Qtm h0 with e | e
 ·exact h1 W M vs hM (by simpa using hsz) (other _ e)
 ·exact h2 W M vs hM (by simpa using hsz) (other _ e)
section
variable {P:Program} {base:Nat} {st st':St}
end
theorem Zb.froz {P:Program} {f:FuncId} {args:List AV} {v y:AV} {objs:List AObj} {ids:List Nat} (h:Zb P f args (.ret v objs)) (hs:Qt (fun k=>objs[k]?) Qn v=some (y,ids)):Zb P f args (.ret y []):=by
 intro W M vs hM hsz hr
 refine (h W M vs hM hsz hr).mono fun e W' he=>?_
 obtain ⟨u,M',ι',rfl,hg,hrel,hout,hv⟩:=he
 refine ⟨u,_,noInj,rfl,hg.trans (hrel.growC ids),⟨hrel.size,hrel.below,hrel.defs,Qbh hrel.agree,fun o bx nr fl w xs p k ho=>(by simp at ho),fun o bx ro nr fl w xs ho=>(by simp at ho),fun o fn sl ps as bd st pe ho=>(by simp at ho),fun o o' bx nr fl w xs bx' nr' fl' w' xs' p p' _ ho=>(by simp at ho),fun o o' fn sl ps as bd st pe fn' sl' ps' as' bd' st' pe' p p' _ ho=>(by simp at ho),fun o _=>.inl (by simp)⟩,fun _ _=>rfl,X4 hrel ids Qn v y ids u hs (fun k hk=>hk) hv⟩
section
variable {P:Program} {rd:Option Nat} {base:Nat} {ops:Array Oper} {st S:St} {Φ:AOut→Prop} {d:Option (List Sk)} {i:Nat}
end
end Go.Ab
namespace Go.Ab
open Go.RowKit
inductive Sh where
 | int (k:IntKind)
 | bool
 | str
 | slice (fl ag:Bool) (w:Nat) (e:Sh)
 | cat (a b:Sh)
 | unit
def Sh.scal:Sh→Bool
 | .slice ..=>false
 | .cat a b=>a.scal && b.scal
 | _=>true
def Sh.width:Sh→Nat
 | .cat a b=>a.width+b.width
 | .unit=>0
 | _=>1
def WT:Sh→List AV→Prop
 | .int k,cs=>∃n,cs=[.int k n]∧(Lit.int k n).wf=true
 | .bool,cs=>∃b,cs=[.bool b]
 | .str,cs=>∃s,cs=[.str s]∧s.size≤maxLen
 | .slice fl ag w e,cs=>∃xs,cs=[.lst fl xs]∧xs.length≤maxLen∧∀x∈xs,WT e x.flat ∧ (if ag then x=.agg x.flat else x.cell=true)
 | .cat a b,cs=>∃x y,cs=x++y∧WT a x∧WT b y
 | .unit,cs=>cs=[]
def Qfo (P:Program) (t:TypeId):Bool:=match P.underlying t with | some (.struct _)=>true | some (.array _ _)=>true | _=>false
def Qsw (s:Sh):Nat → Sh
 | 0=>.unit
 | n+1=>.cat s (Qsw s n)
def Qgt (P:Program) (rec:TypeId→Option Sh):List Field→Nat → Option Sh
 | [],_=>some .unit
 | f::r,o=>match rec f.type with
  | some s=>if Nat.beq f.offset o && Nat.beq s.width (P.cellsOf f.type) then (match Qgt P rec r (o+s.width) with | some q=>some (.cat s q) | none=>none) else none
  | none=>none
def Qf7 (P:Program):Nat → TypeId→Option Sh
 | 0,_=>none
 | n+1,t=>match P.underlying t with
  | some .bool=>some .bool
  | some (.int k)=>some (.int k)
  | some .string=>some .str
  | some (.slice e)=>match Qf7 P n e with
   | some s=>if Nat.beq s.width (P.cellsOf e) && Nat.blt 0 (P.cellsOf e) && (Qfo P e || Nat.beq s.width 1) then some (.slice s.scal (Qfo P e) (P.cellsOf e) s) else none
   | none=>none
  | some (.struct fs)=>match Qgt P (Qf7 P n) fs.toList 0 with
   | some s=>if Nat.beq s.width (P.cellsOf t) then some s else none
   | none=>none
  | some (.array m e)=>match Qf7 P n e with
   | some s=>if Nat.beq s.width (P.cellsOf e) && Nat.beq (m*s.width) (P.cellsOf t) then some (Qsw s m) else none
   | none=>none
  | _=>none
theorem Qqa:∀{s:Sh} {cs:List AV},WT s cs→cs.length=s.width
 | .int k,cs,h=>by obtain ⟨n,rfl,_⟩:=h; rfl
 | .bool,cs,h=>by obtain ⟨n,rfl⟩:=h; rfl
 | .str,cs,h=>by obtain ⟨n,rfl,_⟩:=h; rfl
 | .slice _ _ _ _,cs,h=>by obtain ⟨n,rfl,_⟩:=h; rfl
 | .cat a b,cs,h=>by obtain ⟨x,y,rfl,h1,h2⟩:=h; simp [Sh.width,Qqa h1,Qqa h2]
 | .unit,cs,h=>by cases h; rfl
theorem Qms:∀{s:Sh} {cs:List AV},WT s cs→s.scal=true→cs.all AV.sc=true
 | .int k,cs,h,_=>by obtain ⟨n,rfl,_⟩:=h; rfl
 | .bool,cs,h,_=>by obtain ⟨n,rfl⟩:=h; rfl
 | .str,cs,h,_=>by obtain ⟨n,rfl,_⟩:=h; rfl
 | .slice _ _ _ _,cs,h,hs=>by cases hs
 | .cat a b,cs,h,hs=>by
  obtain ⟨x,y,rfl,h1,h2⟩:=h
  simp only [Sh.scal,Bool.and_eq_true] at hs
  rw [List.all_append,Qms h1 hs.1,Qms h2 hs.2]; rfl
 | .unit,cs,h,_=>by cases h; rfl
def Kc (M:CM) (cs:List Value) (avs:List AV):Prop:=avs.length=cs.length∧∀(j:Nat) (v:Value) (y:AV),cs[j]?=some v→avs[j]?=some y→Qa M noInj v y∧y.cell=true
theorem Jp {M:CM} {v:Value} {y:AV} (h:Qa M noInj v y) (hc:y.cell=true):Kc M [v] [y]:=by
 refine ⟨rfl,fun j v' y' h1 h2=>?_⟩
 cases j with
 | zero=>cases h1; cases h2; exact ⟨h,hc⟩
 | succ j=>simp at h1
theorem Qfz {M:CM} {a b:List Value} {x y:List AV} (h1:Kc M a x) (h2:Kc M b y):Kc M (a++b) (x++y):=by
 refine ⟨by simp [h1.1,h2.1],fun j v z hv hz=>?_⟩
 rcases Nat.lt_or_ge j a.length with hj | hj
 ·rw [List.getElem?_append_left hj] at hv
  rw [List.getElem?_append_left (by rw [h1.1]; exact hj)] at hz
  exact h1.2 j v z hv hz
 ·rw [List.getElem?_append_right hj] at hv
  rw [List.getElem?_append_right (by rw [h1.1]; exact hj),h1.1] at hz
  exact h2.2 _ v z hv hz
theorem Qre {α:Type} {n:Nat} {Q:Nat → α→Prop} (h:∀i,i < n→∃x,Q i x):∃xs:List α,xs.length=n∧∀i x,xs[i]?=some x→Q i x:=by
 induction n with
 | zero=>exact ⟨[],rfl,fun i x hx=>by simp at hx⟩
 | succ n ih =>
  obtain ⟨xs,h1,h2⟩:=ih fun i hi=>h i (by omega)
  obtain ⟨x,hx⟩:=h n (by omega)
  refine ⟨xs++[x],by simp [h1],fun i y hy=>?_⟩
  rcases Nat.lt_or_ge i xs.length with hi | hi
  ·rw [List.getElem?_append_left hi] at hy; exact h2 i y hy
  ·rw [List.getElem?_append_right hi] at hy
   cases hk:i - xs.length with
   | zero =>
    rw [hk] at hy
    cases hy
    rw [show i=n by omega]; exact hx
   | succ k=>rw [hk] at hy; simp at hy
def K0 (w:World) (hg:Qid w):CM:=⟨fun b o=>w.cell? ⟨b,o,none⟩,hg,fun _=>none,fun _ _=>none⟩
theorem Qwf {w:World} {hg:Qid w} {b o:Nat}:K0 w hg b o=w.cell? ⟨b,o,none⟩:=rfl
theorem Qng {α β:Type} {f:α→Option β}:∀{l:List α} {r:List β},l.mapM f=some r→r.length=l.length∧∀(i:Nat) (a:α),l[i]?=some a→f a=r[i]?
 | [],r,h=>by simp at h; subst h; simp
 | a::l,r,h=>by
  simp only [List.mapM_cons,Option.pure_def,Option.bind_eq_bind,Option.bind_eq_some_iff] at h
  obtain ⟨b,hb,bs,hbs,h⟩:=h
  cases h
  obtain ⟨h1,h2⟩:=Qng hbs
  refine ⟨by simp [h1],fun i x hx=>?_⟩
  cases i with
  | zero=>cases hx; simpa using hb
  | succ i=>simpa using h2 i x (by simpa using hx)
theorem Qqo {w:World} {base:Nat} {a:Addr} {n:Nat} {row:List Value} (h:w.cells? base a n=some row):row.length=n∧∀i,i < n→w.cell? (a.add i)=row[i]?:=by
 unfold World.cells? at h
 split at h
 ·obtain ⟨h1,h2⟩:=Qng h
  refine ⟨by simpa using h1,fun i hi=>h2 i i (by simp [hi])⟩
 ·cases h
theorem Qvd {w:World} {a:Addr} {v:Value} (h:w.cell? a=some v):a.spot=none:=by
 unfold World.cell? at h
 cases hs:a.spot with
 | none=>rfl
 | some s =>
  simp only [hs] at h
  split at h <;> simp at h
theorem Qis (a:Addr):a.add 0=a:=by simp [Addr.add]
theorem Qqc (b off k:Nat):(⟨b,off,none⟩:Addr).add k=⟨b,off+k,none⟩:=by
 unfold Addr.add
 split
 ·rename_i h; subst h; rfl
 ·rfl
section
variable {H:Type} {enc:TypeId × Value→H} {P:Program} {w:World} {base:Nat} {hg:Qid w}
theorem Qlo {cs:List Value} {m:Nat} {rec:TypeId→Option Sh} (ih:∀(t:TypeId) (s:Sh),rec t=some s→∀(cs:List Value) (x:DataW H × List MemPlace),DataW.trod enc P w base (fun _=>true) true m t cs=some x→∃avs,Kc (K0 w hg) cs avs∧WT s avs) :
  ∀(l:List Field) (o:Nat) (s:Sh),Qgt P rec l o=some s→(∀f∈l,∃x,DataW.trod enc P w base (fun _=>true) true m f.type ((cs.drop f.offset).take (P.cellsOf f.type))=some x)→∃avs,Kc (K0 w hg) ((cs.drop o).take s.width) avs∧WT s avs
 | [],o,s,h,_=>by
  cases h
  exact ⟨[],⟨by simp [Sh.width],fun j v y h1 h2=>by simp at h2⟩,rfl⟩
 | f::l,o,s,h,hf=>by
  unfold Qgt at h
  split at h
  ·rename_i s1 hs1
   split at h
   ·rename_i hc
    split at h
    ·rename_i q hq
     cases h
     simp only [Bool.and_eq_true] at hc
     have h1:=Nat.eq_of_beq_eq_true hc.1
     have h2:=Nat.eq_of_beq_eq_true hc.2
     obtain ⟨x,hx⟩:=hf f (by simp)
     rw [h1,←h2] at hx
     obtain ⟨a1,c1,w1⟩:=ih _ _ hs1 _ _ hx
     obtain ⟨a2,c2,w2⟩:=Qlo ih l (o+s1.width) q hq (fun g hg=>hf g (by simp [hg]))
     refine ⟨a1++a2,?_,a1,a2,rfl,w1,w2⟩
     have e:(cs.drop o).take (s1.width+q.width)=(cs.drop o).take s1.width++(cs.drop (o+s1.width)).take q.width:=by
      rw [List.take_add,List.drop_drop]
     simp only [Sh.width]
     rw [e]
     exact Qfz c1 c2
    ·cases h
   ·cases h
  ·cases h
theorem Qr6 {cs:List Value} {M:CM} {s:Sh} {n:Nat} (h:∀i,i < n→∃avs,Kc M ((cs.drop (i*s.width)).take s.width) avs∧WT s avs):∀(k o:Nat),o+k=n→∃avs,Kc M ((cs.drop (o*s.width)).take (k*s.width)) avs∧WT (Qsw s k) avs
 | 0,o,_=>⟨[],⟨by simp,fun j v y h1 h2=>by simp at h2⟩,rfl⟩
 | k+1,o,hk=>by
  obtain ⟨a1,c1,w1⟩:=h o (by omega)
  obtain ⟨a2,c2,w2⟩:=Qr6 h k (o+1) (by omega)
  refine ⟨a1++a2,?_,a1,a2,rfl,w1,w2⟩
  have e:(cs.drop (o*s.width)).take ((k+1)*s.width)=(cs.drop (o*s.width)).take s.width++(cs.drop ((o+1)*s.width)).take (k*s.width):=by
   rw [Nat.succ_mul k,Nat.add_comm,List.take_add,List.drop_drop,Nat.succ_mul o]
  rw [e]
  exact Qfz c1 c2
theorem Qpg (cs:List AV):(AV.agg cs).flat = cs:=rfl
theorem Qd7:∀(n:Nat) (t:TypeId) (s:Sh),Qf7 P n t=some s→∀(m:Nat) (cs:List Value) (x:DataW H × List MemPlace),DataW.trod enc P w base (fun _=>true) true m t cs=some x→∃avs,Kc (K0 w hg) cs avs∧WT s avs
 | 0,t,s,h=>by simp [Qf7] at h
 | n+1,t,s,h=>by
  intro m cs x hx
  unfold Qf7 at h
  split at h
  ·rename_i ht
   cases h
   obtain ⟨b,rfl,_⟩:=DataW.trod_bool ht hx
   exact ⟨[.bool b],Jp (.bool b) rfl,b,rfl⟩
  ·rename_i k ht
   cases h
   obtain ⟨z,rfl,_,hw⟩:=DataW.trod_int ht hx
   exact ⟨[.int k z],Jp (.int k z) rfl,z,rfl,hw⟩
  ·rename_i ht
   cases h
   obtain ⟨z,rfl,_,hw⟩:=DataW.trod_string ht hx
   exact ⟨[.str z],Jp (.str z) rfl,z,rfl,hw⟩
  ·rename_i e ht
   split at h
   ·rename_i s1 hs1
    split at h
    ·rename_i hc
     cases h
     simp only [Bool.and_eq_true,Bool.or_eq_true] at hc
     obtain ⟨⟨hw,hpos⟩,hag⟩:=hc
     have hw:=Nat.eq_of_beq_eq_true hw
     have hpos:0 < P.cellsOf e:=by simpa using hpos
     rcases DataW.trod_slice ht hx with ⟨rfl,_⟩ | ⟨a,len,cap,elems,rest,n',_,rfl,_,hb,hl,hm,hlen,hel,hsp,_⟩
     ·exact ⟨[.lst s1.scal []],Jp (.lst0 none _) rfl,[],rfl,by simp,fun x hx=>by cases hx⟩
     ·have hsp:=hsp rfl
      have hspot:0 < cap→a.spot=none:=fun hcap=>by
       have key:∃row,w.cells? base a (P.cellsOf e)=some row:=by
        rcases Nat.eq_zero_or_pos len with h0 | h0
        ·have:=hsp.2 0 (by omega)
         rw [List.getElem?_eq_getElem (by omega)] at this
         obtain ⟨row,h1,_⟩:=Option.bind_eq_some_iff.1 this
         rw [h0,Nat.add_zero,Nat.zero_mul,Qis] at h1
         exact ⟨row,h1⟩
        ·have:=hel 0 h0
         rw [List.getElem?_eq_getElem (by omega)] at this
         obtain ⟨row,h1,_⟩:=Option.bind_eq_some_iff.1 this
         rw [Nat.zero_mul,Qis] at h1
         exact ⟨row,h1⟩
       obtain ⟨row,hk⟩:=key
       obtain ⟨h1,h2⟩:=Qqo hk
       have h3:=h2 0 hpos
       rw [List.getElem?_eq_getElem (by omega),Qis] at h3
       exact Qvd h3
      rcases Nat.eq_zero_or_pos cap with h0 | h0
      ·have hl0:len=0:=by omega
       subst h0; subst hl0
       exact ⟨[.lst s1.scal []],Jp (.lst0 _ _) rfl,[],rfl,by simp,fun x hx=>by cases hx⟩
      ·have hspot:=hspot h0
       obtain ⟨blk,off,spot⟩:=a
       simp only at hspot
       subst hspot
       have each:∀i,i < len→∃z:AV,z.shaped (P.cellsOf e)∧WT s1 z.flat ∧ (if Qfo P e then z=.agg z.flat else z.cell=true)∧∀(j:Nat) (y:AV),z.flat[j]?=some y→∃v,w.cell? ⟨blk,off+i*P.cellsOf e+j,none⟩=some v∧Qa (K0 w hg) noInj v y:=by
        intro i hi
        have h1:=hel i hi
        rw [List.getElem?_eq_getElem (by omega)] at h1
        obtain ⟨row,h2,h3⟩:=Option.bind_eq_some_iff.1 h1
        obtain ⟨avs,c1,w1⟩:=Qd7 n e s1 hs1 _ _ _ h3
        obtain ⟨g1,g2⟩:=Qqo h2
        have hlen':=Qqa w1
        have cellv:∀(j:Nat) (y:AV),avs[j]?=some y→∃v,w.cell? ⟨blk,off+i*P.cellsOf e+j,none⟩=some v∧Qa (K0 w hg) noInj v y∧y.cell=true:=fun j y hy=>by
         have hj:=(List.getElem?_eq_some_iff.1 hy).1
         have h5:=g2 j (by omega)
         have h6:row[j]?=some row[j]:=List.getElem?_eq_getElem (by rw [←c1.1]; exact hj)
         rw [h6] at h5
         refine ⟨_,?_,c1.2 j _ y h6 hy⟩
         rw [Qqc,Qqc] at h5
         exact h5
        by_cases ha:Qfo P e=true
        ·refine ⟨.agg avs,⟨.inl rfl,by rw [Qpg]; omega,fun y hy=>?_⟩,w1,by rw [if_pos ha]; rfl,fun j y hy=>?_⟩
         ·rw [Qpg] at hy
          obtain ⟨j,hj⟩:=List.mem_iff_getElem?.1 hy
          obtain ⟨_,_,_,h⟩:=cellv j y hj
          exact h
         ·obtain ⟨v,h1,h2,_⟩:=cellv j y hy
          exact ⟨v,h1,h2⟩
        ·have h1:s1.width=1:=by
          rcases hag with h | h
          ·exact absurd h ha
          ·exact Nat.eq_of_beq_eq_true h
         obtain ⟨z,rfl⟩:∃z,avs=[z]:=by
          match avs,hlen' with
          | [z],_=>exact ⟨z,rfl⟩
          | [],h=>simp [h1] at h
          | _::_::_,h=>simp [h1] at h
         obtain ⟨v,hv,hr,hcell⟩:=cellv 0 z rfl
         have hflat : z.flat = [z]:=by cases z <;> simp_all [AV.flat,AV.cell]
         refine ⟨z,⟨.inr hcell,by rw [hflat]; simp; omega,fun y hy=>by rw [hflat] at hy; simp at hy; rw [hy]; exact hcell⟩,by rw [hflat]; exact w1,by rw [if_neg ha]; exact hcell,fun j y hy=>?_⟩
         rw [hflat] at hy
         cases j with
         | zero=>cases hy; exact ⟨v,by simpa using hv,hr⟩
         | succ j=>simp at hy
       obtain ⟨xs,hxl,hxs⟩:=Qre each
       refine ⟨[.lst s1.scal xs],Jp ?_ rfl,xs,rfl,by omega,fun z hz=>?_⟩
       ·have:=Qa.lst (M:=K0 w hg) (ι:=noInj) blk off cap (P.cellsOf e) s1.scal xs (fun i j=>(w.cell? ⟨blk,off+i*P.cellsOf e+j,none⟩).getD default) (by omega)
         (fun hfl z hz=>by
          obtain ⟨i,hi⟩:=List.mem_iff_getElem?.1 hz
          exact Qms (hxs i z hi).2.1 hfl)
         (fun z hz=>by
          obtain ⟨i,hi⟩:=List.mem_iff_getElem?.1 hz
          exact (hxs i z hi).1)
         (fun i j z y hz hy=>by
          obtain ⟨v,h1,h2⟩:=(hxs i z hz).2.2.2 j y hy
          simp only [Qwf]
          rw [h1]; rfl)
         (fun i j z y hz hy=>by
          obtain ⟨v,h1,h2⟩:=(hxs i z hz).2.2.2 j y hy
          rw [h1]; exact h2)
        rwa [hxl] at this
       ·obtain ⟨i,hi⟩:=List.mem_iff_getElem?.1 hz
        exact ⟨(hxs i z hi).2.1,(hxs i z hi).2.2.1⟩
    ·cases h
   ·cases h
  ·rename_i fs ht
   split at h
   ·rename_i s1 hs1
    split at h
    ·rename_i hw
     cases h
     have hw:=Nat.eq_of_beq_eq_true hw
     obtain ⟨xs,n',_,_,hl,hxs,hf⟩:=DataW.trod_struct ht hx
     obtain ⟨avs,c1,w1⟩:=Qlo (cs:=cs) (m:=n') (rec:=Qf7 P n) (fun t s hs cs x hx=>Qd7 n t s hs _ _ _ hx) fs.toList 0 s hs1 (fun f hf'=>by
      obtain ⟨i,hi⟩:=List.mem_iff_getElem?.1 hf'
      have h1:=hf i f (by simpa using hi)
      have hi':=(List.getElem?_eq_some_iff.1 hi).1
      rw [List.getElem?_eq_getElem (by rw [hxs]; simpa using hi')] at h1
      exact ⟨_,h1⟩)
     refine ⟨avs,?_,w1⟩
     rw [List.drop_zero,List.take_of_length_le (by omega)] at c1
     exact c1
    ·cases h
   ·cases h
  ·rename_i m0 e ht
   split at h
   ·rename_i s1 hs1
    split at h
    ·rename_i hw
     cases h
     simp only [Bool.and_eq_true] at hw
     have h1:=Nat.eq_of_beq_eq_true hw.1
     have h2:=Nat.eq_of_beq_eq_true hw.2
     obtain ⟨xs,n',_,_,hl,hxs,hf⟩:=DataW.trod_array ht hx
     obtain ⟨avs,c1,w1⟩:=Qr6 (cs:=cs) (M:=K0 w hg) (s:=s1) (n:=m0) (fun i hi=>by
      have h3:=hf i hi
      rw [List.getElem?_eq_getElem (by omega),←h1] at h3
      exact Qd7 n e s1 hs1 _ _ _ h3) m0 0 (by omega)
     refine ⟨avs,?_,w1⟩
     rw [Nat.zero_mul,List.drop_zero,List.take_of_length_le (by omega)] at c1
     exact c1
    ·cases h
   ·cases h
  ·cases h
theorem arg_struct {t:TypeId} {s:Sh} {v:Value} {d:DataW H} {ps:List MemPlace} {b0:Nat} (n:Nat) (hs:Qf7 P n t=some s) (ha:Qfo P t=true) (hok:Value.okWide P w .any b0 t v)
  (h:DataW.Trod enc P w base (fun _=>true) true t v d ps):∃avs,Qa (K0 w hg) noInj v (.agg avs)∧WT s avs:=by
 obtain ⟨m,hm⟩:=h
 obtain ⟨avs,c1,w1⟩:=Qd7 n t s hs m _ _ hm
 have hv:∃cs,v=.agg cs:=by
  unfold Qfo at ha
  unfold Value.okWide at hok
  split at ha
  ·rename_i fs hfs
   rw [hfs] at hok
   obtain ⟨cs,h1,_⟩:=hok
   exact ⟨cs,h1⟩
  ·rename_i m0 e hfs
   rw [hfs] at hok
   obtain ⟨cs,h1,_⟩:=hok
   exact ⟨cs,h1⟩
  ·cases ha
 obtain ⟨cs,rfl⟩:=hv
 refine ⟨avs,.agg cs avs (by simpa [Value.cells] using c1.1.symm) (fun y hy=>?_) (fun j u y hu hy=>?_),w1⟩
 ·obtain ⟨j,hj⟩:=List.mem_iff_getElem?.1 hy
  have hj':=(List.getElem?_eq_some_iff.1 hj).1
  rw [c1.1] at hj'
  exact (c1.2 j _ y (List.getElem?_eq_getElem hj') hj).2
 ·exact (c1.2 j u y (by simpa [Value.cells] using hu) hy).1
end
theorem sameAt_of {W W':World} (h:∀b,b < W.heap.size→W'.heap[b]?=W.heap[b]?) {p:MemPlace} (hp:p.block < W.heap.size):W.sameAt W' p:=by
 cases p with
 | cell b off =>
  show W'.cell? ⟨b,off,none⟩=W.cell? ⟨b,off,none⟩
  unfold World.cell?
  rw [h b hp]
 | map b=>exact h b hp
theorem calls_args {P:Program} {f:FuncId} {args:List AV} {b:Bool} (h:Zb P f args (.ret (.bool b) [])) {W:World} {hg:Qid W} {vs:Array Value} (hl:vs.size=args.length)
  (hr:∀(j:Nat) (v:Value) (a:AV),vs[j]?=some v→args[j]?=some a→Qa (K0 W hg) noInj v a):Calls P f vs W fun e W'=>e=.returned (.bool b)∧Below W.heap.size W W'∧∀b,b < W.heap.size→W'.heap[b]?=W.heap[b]?:=by
 refine (h W (K0 W hg) vs ⟨fun _ _ _ h=>h,fun b x h=>(by cases h),fun b o v h=>(by cases h)⟩ hl hr).mono fun e W' he=>?_
 obtain ⟨v,M',ι',he,_,hrel,_,hv⟩:=he
 cases hv
 exact ⟨he,hrel.below.toBelow,fun b hb=>hrel.below.block b hb⟩
theorem Qux {x:AV} (h:x.cell=true):x.flat = [x]:=by cases x <;> simp_all [AV.flat,AV.cell]
theorem Qw1 {α:Type} {enc:α→AV} {R:α→Prop} {xs:List AV} (h:∀x∈xs,∃a,x=enc a∧R a):∃l:List α,xs=l.map enc∧∀a∈l,R a:=by
 induction xs with
 | nil=>exact ⟨[],rfl,fun n hn=>by cases hn⟩
 | cons x xs ih =>
  obtain ⟨l,rfl,hl⟩:=ih fun y hy=>h y (by simp [hy])
  obtain ⟨a,rfl,ha⟩:=h x (by simp)
  refine ⟨a::l,rfl,fun m hm=>?_⟩
  rcases List.mem_cons.1 hm with rfl | hm
  ·exact ha
  ·exact hl m hm
end Go.Ab
namespace Go.Ab
open Go.RowKit
def Qry (P:Program) (t:TypeId):Bool:=match P.underlying t with | some (.int _)=>true | some .bool=>true | some .string=>true | some (.slice _)=>true | _=>false
section
variable {H:Type} {enc:TypeId × Value→H} {P:Program} {w:World} {base:Nat} {hg:Qid w}
theorem arg_cell {t:TypeId} {s:Sh} {v:Value} {d:DataW H} {ps:List MemPlace} {b0:Nat} (n:Nat) (hs:Qf7 P n t=some s) (ha:Qry P t=true) (hok:Value.okWide P w .any b0 t v)
  (h:DataW.Trod enc P w base (fun _=>true) true t v d ps):∃y,Qa (K0 w hg) noInj v y∧WT s [y]:=by
 obtain ⟨m,hm⟩:=h
 obtain ⟨avs,c1,w1⟩:=Qd7 n t s hs m _ _ hm
 have hv:v.cells=#[v]:=by
  cases v with
  | agg cs =>
   exfalso
   unfold Qry at ha
   unfold Value.okWide at hok
   split at ha <;> (rename_i hu; first | (rw [hu] at hok; unfold Cell.okWide at hok; rw [hu] at hok; unfold Cell.ok at hok; rw [hu] at hok; exact hok) | cases ha)
  | _=>rfl
 rw [hv] at c1
 obtain ⟨h1,h2⟩:=c1
 simp at h1
 obtain ⟨y,rfl⟩:∃y,avs=[y]:=List.length_eq_one_iff.1 h1
 exact ⟨y,(h2 0 v y rfl rfl).1,w1⟩
end
end Go.Ab
namespace Go.Ab
section
variable {P:Program} {rd:Option Nat} {base:Nat} {ops:Array Oper} {st S:St} {Φ:AOut→Prop} {d:Option (List Sk)} {i:Nat} {c y:Code}
theorem wgc (live keep:List Nat) (S:St) (hk:WP P rd base c S Φ) (h:Qcv base live keep st=some S:=by kernel_rfl):WP P rd base c st Φ:=Qya (Z5 h) hk
theorem rga {id:Nat} (hm:P.follows .mixedOrders=true) (h:RW P rd base ops (some []) 0 st Φ) (hB:Qtr ops=true:=by kernel_rfl):WP P rd base (.region id ops true) st Φ:=Qyz (by simp [hm]) (Qzb hB) h
def gt (o:Option St) (d:St):St:=match o with | some S=>S | none=>d
noncomputable def gx (base:Nat) (live keep:List Nat) (st:St):St:=gt (Qcv base live keep st) st
noncomputable def lx (P:Program) (ops:Array Oper) (i:Nat) (st:St) (hv he:List LK) (b:Bool):St:=gt (Qsu P false ops i st hv he b) st
theorem Qtz {o:Option St} {d:St} (h:o.isSome=true):o=some (gt o d):=by
 cases o with
 | none=>cases h
 | some S=>rfl
theorem wg (live keep:List Nat) (hk:WP P rd base c (gx base live keep st) Φ) (h:(Qcv base live keep st).isSome=true:=by kernel_rfl):WP P rd base c st Φ:=wgc live keep _ hk (Qtz h)
theorem sl (nf:Bool) (hv he:List LK) (b:Bool) (hn:nf=false) (hk:RW P rd base ops (Zd d [Qp4 P nf ops i st]) (i+1) (lx P ops i st hv he b) Φ) (h:(Qsu P false ops i st hv he b).isSome=true:=by kernel_rfl):RW P rd base ops d i st Φ:=by
 subst hn; exact sgL false hv he b (Qtz h) hk
theorem kr {α:Sort _} {a b:α} (h:a=b:=by kernel_rfl):a=b:=h
def gt0 (o:Option St):St:=match o with | some S=>S | none=>⟨[],[],0⟩
theorem gE {o:Option St} (h:o.isSome=true:=by kernel_rfl):o=some (gt0 o):=by
 cases o with
 | none=>cases h
 | some S=>rfl
def Qx8 (b:Bool):List Nat → List (Nat × AV)→List (Nat × AV)
 | [],s=>s
 | t::ts,s=>Qx8 b ts (setS s t (.bool b))
def pB (ts:List Nat) (b:Bool) (st:St):St:=⟨Qx8 b ts st.slots,st.objs,st.nt⟩
def setLen (n:Nat):AV→AV
 | .ref o i _=>.ref o i n
 | .lin o i _=>.lin o i n
 | x=>x
def Qyu (n:Nat):List Nat → List (Nat × AV)→List (Nat × AV)
 | [],s=>s
 | t::ts,s=>Qyu n ts (match lk s t with | some x=>setS s t (setLen n x) | none=>s)
def pL (ts:List Nat) (n:Nat) (st:St):St:=⟨Qyu n ts st.slots,st.objs,st.nt⟩
theorem rb (ts:List Nat) {R:Type} {b:Bool} {A B:Option R} {r:R} (h:(if b=true then A else B)=some r) (h1:b=true→A=some r→RW P rd base ops d i (pB ts true st) Φ) (h2:b=false→B=some r→RW P rd base ops d i (pB ts false st) Φ) (hS:st=pB ts b st:=by kernel_rfl):RW P rd base ops d i st Φ:=by
 rw [hS]; exact Q2c (S:=fun b=>pB ts b st) h h1 h2
theorem wk (ts:List Nat) {b c':Bool} (hb:b=c') (h:WP P rd base c (pB ts c' st) Φ) (hS:st=pB ts b st:=by kernel_rfl):WP P rd base c st Φ:=by rw [hS,hb]; exact h
theorem Q2j {n m:Nat} {S:Nat → St} (hb:n=m) (h:RW P rd base ops d i (S m) Φ) (hS:st=S n:=by kernel_rfl):RW P rd base ops d i st Φ:=by rw [hS]; exact Q06 hb h
end
abbrev z1:List Int→AV:=eL true eI
abbrev z2:List (List Int)→AV:=eL false z1
abbrev zw:Int→Int:=IntKind.i64.wrap
abbrev zv:Int→Int:=IntKind.u64.wrap
abbrev zb:Int → BitVec (IntKind.bits .u64):=BitVec.ofInt (IntKind.bits .u64)
abbrev zk:Nat:=IntKind.bits .u64
abbrev zp:Int×Int → AV:=fun x=>.agg [vI x.1,vI x.2]
abbrev zq:Int×Int → Int×Int → Bool:=fun a b=>(a.1==b.1) && ((a.2==b.2) && true)
abbrev zt:Int→Nat := Int.toNat
abbrev zn {α:Type} (l:List α):Int:=(l.length:Int)
end Go.Ab
namespace Go.Ab
open Go.RowKit
def Qo0 (P:Program) (f:FuncId) (az:List AV) (objs:List AObj) (r:AV) (objs':List AObj):Prop :=
 ∀(B:Nat) (W0 W:World) (D:List Nat) (M:CM) (ι:Inj) (vs:Array Value),Rel P B W0 D M ι (sto objs) W→D.Nodup→(∀k,¬ InB objs.length k→ι k=none)→objs.length≤BIG→vs.size=az.length →
  (∀(j:Nat) (v:Value) (a:AV),vs[j]?=some v→az[j]?=some a→Qa M ι v a) →
  Calls P f vs W fun e W'=>∃v M' ι',e=.returned v∧CM.Grow B M M'∧ι.le ι'∧Rel P B W0 D M' ι' (sto objs') W'∧(∀k,¬ InB objs'.length k→ι' k=none)∧objs'.length≤BIG∧Qa M' ι' v r
theorem Qsd {P:Program} {rd:Option Nat} {base:Nat} {o:Oper} {st:St} {g:Operand} {args:Array Operand} {ts:Array TypeId} {f:FuncId} {fn:Func} {first caps az:List AV} {x:AV} {objs':List AObj} {slots:List (Nat × AV)}
  (ho:o.op=.call { callee:=.value g,args,argTypes:=ts }) (hg:evo (lk st.slots) g=some (.fn (.func f) first caps)) (has:Ja (lk st.slots) args.toList=some az)
  (hf:P.funcs[f]?=some fn) (hb:fn.body.isSome=true) (hn:(fn.name == "runtime.NumGoroutine")=false)
  (h:Qo0 P f (first++az++caps) st.objs x objs') (hput:Y9 st.slots st.nt o.dst (some x)=some slots) :
  OpX P rd base o st (.go .normal ⟨slots,objs',st.nt⟩):=by
 intro B W0 D0 dl M ι a W n Q r hs hr' hp
 have hgv:=Qe hs.slots hg
 generalize hgu:a.eval g=gu at hgv
 cases hgv with
 | fn _ first' caps' _ _ hy hm h1 h2 hr1 hr2 =>
 obtain ⟨l1,e1⟩:=Vo hs.slots has
 refine ⟨fun _ _=>trivial,?_⟩
 rw [Oper.semAt_eq _ _ _ (by rw [ho]; simp)]
 have hrun:(execOp a.eval o).run P W=.ok (.enter f (first'++args.map a.eval++caps')) W:=by
  simp only [execOp,ho,resolve,hgu,Deferred.ofValue,Sem.run_bind,Sem.run_pure,Result.andThen_ok,invoke]
  exact Jo hf hb hn _ W
 rw [hrun,Oper.uponIn_enter]
 have hrep:∀(j:Nat) (v:Value) (y:AV),(first'++args.map a.eval++caps')[j]?=some v→(first++az++caps)[j]?=some y→Qa M ι v y :=
  Qj1 h1 (by simpa using l1.symm) h2 hr1 (fun j v y hv hy=>by
   simp only [Array.getElem?_map,Option.map_eq_some_iff] at hv
   obtain ⟨w,hw,rfl⟩:=hv
   exact (e1 j w y (by simpa using hw) hy).2) hr2
 refine ⟨fun hd=>by simp [FW,Fence.wide] at hd,Qgd ((h B W0 W (dl++D0) M ι _ hs.rel hs.df.nd hs.new hs.big (by simp [h1,h2,l1]) hrep).mono ?_)⟩
 rintro e W' ⟨v,M',ι',rfl,g1,g2,g3,g4,g4b,g5⟩
 obtain ⟨k1,k2,k3⟩:=Kt (u:=v) (hs.slots.mono g1.le g2) hs.nt hput (fun y hy=>by cases hy; exact g5)
 exact hp.go .normal _ rfl dl M' ι' _ W' g1 (g2.leB base) (List.suffix_refl _) ⟨g3,k1,k2,hs.df.put,g4,g4b⟩
def Qkv (ops:Array Oper) (i:Nat) (st:St) (x:AV) (objs':List AObj):Option St :=
 match ops[i]? with
 | some o=>match Y9 st.slots st.nt o.dst (some x) with
  | some slots=>some ⟨slots,objs',st.nt⟩
  | none=>none
 | none=>none
section
variable {P:Program} {rd:Option Nat} {base:Nat} {ops:Array Oper} {st:St} {Φ:AOut→Prop} {i:Nat}
theorem Qzl {f:FuncId} {fn:Func} {as0:List AV} {x:AV} {objs':List AObj} {S:St} (hi:Xh ops i st=some (f,as0)) (hf:P.funcs[f]?=some fn) (hb:fn.body.isSome=true) (hn:(fn.name == "runtime.NumGoroutine")=false)
  (h:Qo0 P f as0 st.objs x objs') (hS:Qkv ops i st x objs'=some S) (k:RW P rd base ops none (i+1) S Φ):RW P rd base ops none i st Φ:=by
 obtain ⟨o,g,args,ts,first,caps,as1,ho,hop,hg,has,rfl⟩:=Qc4 hi
 obtain ⟨h1,h2⟩:=V7 ho
 unfold Qkv at hS
 rw [h1] at hS
 simp only at hS
 split at hS
 ·rename_i slots hp
  cases hS
  obtain ⟨out2,k1,k2⟩:=k
  have hi':i < ops.size:=(Array.getElem?_eq_some_iff.1 h1).1
  refine ⟨out2,?_,k2⟩
  rw [Qc8 hi']
  exact Qer h1 h2 (Qsd hop hg has hf hb hn h hp) k1
 ·cases hS
end
end Go.Ab
namespace Go.Ab
open Go.RowKit
section
variable {P:Program} {ops:Array Oper} {G:Array Bool→Nat → Foot} {Q:Slots→Sto→Prop} {s:Slots} {σ:Sto}
end
section
variable {P:Program} {ops:Array Oper} {G:Array Bool→Nat → Foot} {s s':Slots} {σ:Sto} {B:Nat} {W0 W:World} {D:List Nat} {M:CM} {ι:Inj} {a:Act} {Q:Exit→Act→World→Prop} {QA:Slots→Sto→Prop}
end
section
variable {P:Program} {rd:Option Nat} {base:Nat} {ops ops0:Array Oper} {st st1 st2 st3:St}
theorem J1.symm {F G:Foot} (h:J1 F G):J1 G F:=⟨h.b,h.a,fun e he e' he'=>Ne.symm (h.c e' he' e he)⟩
end
section
variable {P:Program} {rd:Option Nat} {base:Nat} {ops:Array Oper} {st st1 Sa Sb S3 S:St} {Φ:AOut→Prop} {i:Nat}
end
end Go.Ab
namespace Go.Ab
open Go.RowKit
theorem Qy7 {α:Type} {vs:Array α} (h:vs.size=1):∃v0,vs=#[v0]:=by
 obtain ⟨l⟩:=vs
 match l,h with
 | [v0],_=>exact ⟨v0,rfl⟩
def Qul (P:Program) (f:FuncId) (t1 t2:TypeId):Prop:=∀(g:FuncId) (gfn:Func) (caps:Array Value) (w:World) (x y:Int) (R:Ending→World→Prop),P.funcs[g]?=some gfn→gfn.body.isSome=true→(gfn.name == "runtime.NumGoroutine")=false →
 Calls P g caps ((w.alloc (.cells #[.int .i64 0,.int .i64 0] t1)).alloc (.cells #[.int .i64 0] t2)) (fun e w'=>e=.returned (.agg #[.int .i64 x,.int .i64 y]) ∧
  w'.cell? ⟨w.heap.size,0,none⟩=some (.int .i64 0)∧w'.cell? ⟨w.heap.size,1,none⟩=some (.int .i64 0)∧w'.cell? ⟨w.heap.size+1,0,none⟩=some (.int .i64 0) ∧
  w'.frozen? ⟨w.heap.size,0,none⟩=false∧w'.frozen? ⟨w.heap.size,1,none⟩=false∧w'.frozen? ⟨w.heap.size+1,0,none⟩=false ∧
  R (.returned (.tuple #[.agg #[.int .i64 x,.int .i64 y],.int .i64 0])) (((w'.setCell ⟨w.heap.size,0,none⟩ (.int .i64 x)).setCell ⟨w.heap.size,1,none⟩ (.int .i64 y)).setCell ⟨w.heap.size+1,0,none⟩ (.int .i64 0))) →
 Calls P f #[.func (.func g) #[] caps] w R
section
variable {P:Program}
theorem Qo5 {M:CM} {ι:Inj} {v:Value} {k:IntKind} {n:Int} (h:Qa M ι v (.int k n)):v=.int k n:=by cases h; rfl
theorem Qql {W W':World} {M M':CM} (hag:K9 M W) (hb:Q7 W.heap.size W W') (hk:M'.blk=M.blk):∀b x,M'.blk b=some x→W'.heap[b]?=some x∧(∀c e f,x≠.cells c e f)∧∀d,x≠.deferred d:=fun b x hx=>by
 rw [hk] at hx
 obtain ⟨k1,k2,k3⟩:=hag.keep b x hx
 exact ⟨by rw [hb.block b (Array.getElem?_eq_some_iff.1 k1).1]; exact k1,k2,k3⟩
theorem Qnb {W W':World} {M M':CM} (hag:K9 M W) (hb:Q7 W.heap.size W W') (hk:M'.kc=M.kc):∀b o v,M'.kc b o=some v→W'.cell? ⟨b,o,none⟩=some v∧∀j,W'.frozen? ⟨b,j,none⟩=false:=fun b o v hx=>by
 rw [hk] at hx
 obtain ⟨k1,k2⟩:=hag.keepC b o v hx
 have hlt:=World.block_lt_of_cell? W _ k1
 exact ⟨by rw [hb.cell (p:=⟨b,o,none⟩) hlt]; exact k1,fun j=>by rw [hb.toBelow.frozen (p:=⟨b,j,none⟩) hlt]; exact k2 j⟩
theorem Qw3 {W0 W':World} {M0' M:CM} {ι:Inj} (hag:K9 M0' W0) (hk:M.blk=M0'.blk) (hkc:M.kc=M0'.kc) (hs:W0.heap.size≤W'.heap.size) (hb:Q7 W0.heap.size W0 W') (ha:∀b o v,M b o=some v→W'.cell? ⟨b,o,none⟩=some v):Rel P W0.heap.size W0 [] M ι (fun k=>([]:List AObj)[k]?) W' :=
 ⟨hs,hb,fun r hr=>(by simp at hr),⟨ha,Qql hag hb hk,Qnb hag hb hkc⟩,fun o bx nr fl w xs p k ho=>(by simp at ho),fun o bx ro nr fl w xs ho=>(by simp at ho),fun o fn sl ps asg bd st pe ho=>(by simp at ho),fun o o' bx nr fl w xs bx' nr' fl' w' xs' p p' _ ho=>(by simp at ho),fun o o' fn sl ps asg bd st pe fn' sl' ps' asg' bd' st' pe' p p' _ ho=>(by simp at ho),fun o _=>.inl (by simp)⟩
theorem Qu2 {f:FuncId} {t1 t2:TypeId} (raw:Qul P f t1 t2) {g:FuncId} {gfn:Func} {capsA:List AV} {x y:Int} (hf:P.funcs[g]?=some gfn) (hb:gfn.body.isSome=true) (hn:(gfn.name == "runtime.NumGoroutine")=false)
  (h:Zb P g capsA (.ret (.agg [.int .i64 x,.int .i64 y]) [])):Zb P f [.fn (.func g) [] capsA] (.ret (.tup [.agg [.int .i64 x,.int .i64 y],.int .i64 0]) []):=by
 intro W M vs hag hsz hrep
 obtain ⟨v0,rfl⟩:=Qy7 (vs:=vs) (by simp [hsz])
 have h0:=hrep 0 v0 _ rfl rfl
 cases h0 with
 | fn _ first' caps' _ _ hy hm h1 h2 hr1 hr2 =>
 have:first'=#[]:=by apply Array.eq_empty_of_size_eq_zero; simpa using h1
 subst this
 refine raw g gfn caps' W x y _ hf hb hn ?_
 have hcell:∀b o v,M b o=some v→b < W.heap.size:=fun b o v hv=>World.block_lt_of_cell? W _ (hag b o v hv)
 have hW1:Q7 W.heap.size W ((W.alloc (.cells #[.int .i64 0,.int .i64 0] t1)).alloc (.cells #[.int .i64 0] t2)):=((Q7.refl _ W).alloc (Nat.le_refl _) _).alloc (by simp) _
 generalize hW:(W.alloc (.cells #[.int .i64 0,.int .i64 0] t1)).alloc (.cells #[.int .i64 0] t2)=W1 at *
 have hsz1:W1.heap.size=W.heap.size+2:=by rw [←hW]; simp
 have k1:W1.cell? ⟨W.heap.size,0,none⟩=some (.int .i64 0):=by rw [←hW]; simp [go_sem]
 have k2:W1.cell? ⟨W.heap.size,1,none⟩=some (.int .i64 0):=by rw [←hW]; simp [go_sem]
 have k3:W1.cell? ⟨W.heap.size+1,0,none⟩=some (.int .i64 0):=by rw [←hW]; simp [go_sem]
 have z1:W1.frozen? ⟨W.heap.size,0,none⟩=false:=by rw [←hW]; simp [go_sem]
 have z2:W1.frozen? ⟨W.heap.size,1,none⟩=false:=by rw [←hW]; simp [go_sem]
 have z3:W1.frozen? ⟨W.heap.size+1,0,none⟩=false:=by rw [←hW]; simp [go_sem]
 refine (h W1 M caps' ⟨fun b o v hv=>by rw [hW1.cell (p:=⟨b,o,none⟩) (hcell b o v hv)]; exact hag b o v hv,Qql hag hW1 rfl,Qnb hag hW1 rfl⟩ h2 (fun j v a hv ha=>hr2 j v a hv ha)).mono ?_
 rintro e W' ⟨v,M',ι',rfl,q1,q2,q3,q4⟩
 have hv:v=.agg #[.int .i64 x,.int .i64 y]:=by
  cases q4 with
  | agg cs' cs hl hc hr =>
  have hs2:cs'.size=2:=by simpa using hl
  have e0:=hr 0 (cs'[0]'(by omega)) (.int .i64 x) (by simp) rfl
  have e1:=hr 1 (cs'[1]'(by omega)) (.int .i64 y) (by simp) rfl
  have e0':cs'[0]'(by omega)=.int .i64 x:=Qo5 e0
  have e1':cs'[1]'(by omega)=.int .i64 y:=Qo5 e1
  congr 1
  apply Array.ext (by simp [hs2])
  intro i h3 h4
  have:i=0∨i=1:=by omega
  rcases this with rfl | rfl
  ·simpa using e0'
  ·simpa using e1'
 subst hv
 have hbel:=q2.below
 have same:∀(b o:Nat),b < W1.heap.size→W'.cell? ⟨b,o,none⟩=W1.cell? ⟨b,o,none⟩:=fun b o hlt=>hbel.cell (p:=⟨b,o,none⟩) hlt
 have samf:∀(b o:Nat),b < W1.heap.size→W'.frozen? ⟨b,o,none⟩=W1.frozen? ⟨b,o,none⟩:=fun b o hlt=>hbel.toBelow.frozen (p:=⟨b,o,none⟩) hlt
 refine ⟨rfl,by rw [same _ _ (by omega)]; exact k1,by rw [same _ _ (by omega)]; exact k2,by rw [same _ _ (by omega)]; exact k3,by rw [samf _ _ (by omega)]; exact z1,by rw [samf _ _ (by omega)]; exact z2,by rw [samf _ _ (by omega)]; exact z3,?_⟩
 have hle:W1.heap.size≤W'.heap.size:=q2.size
 refine ⟨_,M',noInj,rfl,q1.mono (by omega),Qw3 hag q1.keep q1.keepC (by simp; omega) ?_ ?_,fun _ _=>rfl,?_⟩
 ·exact ((((hW1.trans (hbel.mono (by omega))).setCell (Nat.le_refl _) _).setCell (Nat.le_refl _) _).setCell (Nat.le_succ _) _)
 ·intro b o v hv
  have hne:∀p:Addr,(p.block=W.heap.size∨p.block=W.heap.size+1)→(⟨b,o,none⟩:Addr)≠p:=fun p hp e=>by
   subst e
   simp only at hp
   have hlt:b < W1.heap.size:=by omega
   rw [q1.old b o hlt] at hv
   have:=hcell b o v hv
   omega
  rw [World.cell?_setCell_other _ _ _ _ (hne ⟨W.heap.size+1,0,none⟩ (.inr rfl)).symm,World.cell?_setCell_other _ _ _ _ (hne ⟨W.heap.size,1,none⟩ (.inl rfl)).symm,World.cell?_setCell_other _ _ _ _ (hne ⟨W.heap.size,0,none⟩ (.inl rfl)).symm]
  exact q2.agree b o v hv
 ·refine .tup _ _ rfl (fun j u z hu hz=>?_)
  match j with
  | 0 =>
   simp at hu hz; subst hu; subst hz
   refine .agg _ _ rfl (fun c hc=>by simp at hc; rcases hc with rfl | rfl <;> rfl) (fun i u z hu hz=>?_)
   match i with
   | 0=>simp at hu hz; subst hu; subst hz; exact .int _ _
   | 1=>simp at hu hz; subst hu; subst hz; exact .int _ _
   | i+2=>simp at hu
  | 1=>simp at hu hz; subst hu; subst hz; exact .int _ _
  | j+2=>simp at hu
end
end Go.Ab
namespace Go.Ab
open Go.RowKit
section
variable {P:Program} {base:Nat} {st st':St}
end
theorem Qto {M:CM} {ι:Inj} {v:Value} {fl:Bool} {xs:List AV} (hs:List LK) (h:Qa M ι v (.lst fl xs)):Qa M ι v (.lst false (xs.map (Q3 hs))):=by
 cases h with
 | lst0=>exact .lst0 _ _
 | lst b off cap w _ _ f hcap hfl hc hM hr =>
  have key:∀(i j:Nat) (x y:AV),(xs.map (Q3 hs))[i]?=some x→x.flat[j]?=some y→∃x0 y0 h,xs[i]?=some x0∧x0.flat[j]?=some y0∧y=LK.ap h y0:=fun i j x y hi hj=>by
   rw [List.getElem?_map,Option.map_eq_some_iff] at hi
   obtain ⟨x0,e1,rfl⟩:=hi
   have hsh:=hc x0 (List.mem_of_getElem? e1)
   obtain ⟨hs',e2,_⟩:=Qbt hs (x:=x0) hsh.form
   rw [e2] at hj
   obtain ⟨h,y0,e3,e4⟩:=Qfl hs' _ j y hj
   exact ⟨x0,y0,h,e1,e3,e4⟩
  have:=Qa.lst (M:=M) (ι:=ι) b off cap w false (xs.map (Q3 hs)) f (by simpa using hcap) (fun h=>by cases h) (fun x hx=>by
   simp only [List.mem_map] at hx
   obtain ⟨z,hz,rfl⟩:=hx
   exact Qfi hs (hc z hz)) (fun i j x y hi hj=>by
   obtain ⟨x0,y0,h,e1,e2,_⟩:=key i j x y hi hj
   exact hM i j x0 y0 e1 e2) (fun i j x y hi hj=>by
   obtain ⟨x0,y0,h,e1,e2,rfl⟩:=key i j x y hi hj
   exact LK.ap_rep h (hr i j x0 y0 e1 e2))
  simpa using this
def Qmp (x y:AV):Prop:=∀(M:CM) (v:Value),Qa M noInj v x→Qa M noInj v y
theorem Qmp.lst {fl:Bool} {xs ys:List AV} (hs:List LK) (h:xs.map (Q3 hs)=ys):Qmp (.lst fl xs) (.lst false ys):=fun M v hr=>by subst h; exact Qto hs hr
inductive Qjf:List AV→List AV→Prop
 | nil:Qjf [] []
 | cons {x y:AV} {xs ys:List AV} (h:Qmp x y) (hc:y.cell=x.cell) (k:Qjf xs ys):Qjf (x::xs) (y::ys)
theorem Qjf.at {xs ys:List AV} (h:Qjf xs ys):xs.length=ys.length∧∀(j:Nat) (y:AV),ys[j]?=some y→∃x,xs[j]?=some x∧Qmp x y∧y.cell=x.cell:=by
 induction h with
 | nil=>exact ⟨rfl,fun j y h=>by simp at h⟩
 | cons h hc k ih =>
  refine ⟨by simp [ih.1],fun j y hj=>?_⟩
  cases j with
  | zero=>simp at hj; subst hj; exact ⟨_,rfl,h,hc⟩
  | succ j=>exact ih.2 j y (by simpa using hj)
theorem Qmp.agg {xs ys:List AV} (h:Qjf xs ys):Qmp (.agg xs) (.agg ys):=fun M v hr=>by
 cases hr with
 | agg cs' _ hsz hc hrr =>
  obtain ⟨hl,hat⟩:=h.at
  refine .agg cs' _ (by rw [←hl]; exact hsz) (fun y hy=>?_) (fun j v y hv hy=>?_)
  ·obtain ⟨j,hj,rfl⟩:=List.mem_iff_getElem.1 hy
   obtain ⟨x,e1,_,e3⟩:=hat j _ (List.getElem?_eq_getElem hj)
   rw [e3]; exact hc x (List.mem_of_getElem? e1)
  ·obtain ⟨x,e1,e2,_⟩:=hat j y hy
   exact e2 M v (hrr j v x hv e1)
section
variable {P:Program} {rd:Option Nat} {base:Nat} {ops:Array Oper} {st S:St} {Φ:AOut→Prop} {d:Option (List Sk)} {i:Nat}
end
end Go.Ab
namespace Go.Ab
open Go.RowKit
section
variable {P:Program} {rd:Option Nat} {base:Nat} {ops:Array Oper} {st S:St} {Φ:AOut→Prop} {d:Option (List Sk)} {i:Nat} {c:Code}
theorem Qqb {σ ρ1 ρ2:Type} {body:σ→Option (Qk σ (ρ1 ⊕ ρ2))} {I:σ→St} {H:ρ1→St} {Ex:ρ2→AOut→Prop}
  (stop:∀s y,body s=some (.done (.inl y))→H y=I s)
  (round:∀s o,body s=some o→(∃y,o=.done (.inl y))∨WP P rd base c (I s) (fun out=>match o with
   | .next s'=>∃st1,out=.go .normal st1∧Wk P base st1 (I s')
   | .done (.inl _)=>False
   | .done (.inr x)=>Ex x out∧out.normal=false)) :
  ∀(n:Nat) (s:σ) (x:ρ1 ⊕ ρ2),Qc n body s=some x→(∀y,x=.inl y→LWP P rd base c (H y) Φ)→(∀z,x=.inr z→∀out,Ex z out→Φ out)→LWP P rd base c (I s) Φ
 | 0,s,x,h,_,_=>by cases h
 | n+1,s,x,h,h1,h2=>by
  simp only [Qc] at h
  split at h
  ·rename_i s' hb
   rcases round s _ hb with ⟨y,e⟩ | hr
   ·cases e
   ·refine Qef (hr.mono fun out ho=>?_)
    obtain ⟨st1,rfl,hw⟩:=ho
    exact Qh8 hw (Qqb stop round n s' x h h1 h2)
  ·rename_i x' hb
   cases h
   cases x with
   | inl y =>
    have:=h1 y rfl
    rw [stop s y hb] at this
    exact this
   | inr z =>
    rcases round s _ hb with ⟨y,e⟩ | hr
    ·cases e
    ·refine Qef (hr.mono fun out ho=>?_)
     obtain ⟨g1,g2⟩:=ho
     have g3:=h2 z rfl out g1
     cases out with
     | pan v=>exact g3
     | go e st1=>cases e <;> first | exact g3 | simp [AOut.normal] at g2
  ·cases h
def Qyb {σ ρ:Type}:Qk σ ρ→Qk σ (σ ⊕ ρ)
 | .next s=>.next s
 | .done x=>.done (.inr x)
def Qhq {σ ρ:Type} (cnd:σ→Bool) (body:σ→Option (Qk σ ρ)) (s:σ):Option (Qk σ (σ ⊕ ρ)):=if cnd s=true then some (.done (.inl s)) else (body s).map Qyb
theorem Qt9 {σ ρ R:Type} {n:Nat} {cnd:σ→Bool} {body:σ→Option (Qk σ ρ)} {I:σ→St} {Ex:ρ→AOut→Prop} {K:σ ⊕ ρ→Option R} {r:R} (s0:σ) (hw:Wk P base st (I s0)) (h:(Qc n (Qhq cnd body) s0).bind K=some r)
  (round:∀s o,body s=some o→WP P rd base c (I s) (Qgu P base I Ex o))
  (k1:∀y,K (.inl y)=some r→LWP P rd base c (I y) Φ) (k2:∀z,K (.inr z)=some r→∀out,Ex z out→Φ out):WP P rd base (.loop c) st Φ:=by
 cases hx:Qc n (Qhq cnd body) s0 with
 | none=>rw [hx] at h; cases h
 | some x =>
  rw [hx] at h
  have hb:∀s o,Qhq cnd body s=some o→(o=.done (.inl s))∨∃o',body s=some o'∧o=Qyb o':=fun s o ho=>by
   unfold Qhq at ho
   split at ho
   ·cases ho; exact .inl rfl
   ·simp only [Option.map_eq_some_iff] at ho
    obtain ⟨o',e1,e2⟩:=ho
    exact .inr ⟨o',e1,e2.symm⟩
  refine Qri (Qh8 hw (Qqb (H:=I) (Ex:=Ex) (fun s y e=>?_) (fun s o e=>?_) n s0 x hx (fun y e=>?_) (fun z e=>?_)))
  ·rcases hb s _ e with e1 | ⟨o',_,e1⟩
   ·cases e1; rfl
   ·cases o' <;> cases e1
  ·rcases hb s _ e with e1 | ⟨o',e1,e2⟩
   ·exact .inl ⟨s,e1⟩
   ·subst e2
    refine .inr ((round s o' e1).mono fun out ho=>?_)
    cases o' with
    | next s'=>exact ho
    | done x=>exact ho
  ·subst e; exact k1 y h
  ·subst e; exact k2 z h
end
end Go.Ab
namespace Go.Ab
open Go.RowKit
theorem Qjo:∀(es:List (AV × AV)) (i:Nat),Qb3 i (Xg i es)=some es
 | [],i=>rfl
 | (k,v)::r,i=>by
  simp only [Xg,Qb3]
  rw [show Nat.beq i i=true from Nat.beq_refl i,show Nat.beq (i+1) (i+1)=true from Nat.beq_refl _]
  simp [Qjo r (i+2)]
theorem Qhu (es:List (AV × AV)):Qa6 (mapO es)=some es:=by
 simp [Qa6,mapO,Qjo]
section
variable {P:Program} {α:Type} {enc:α→AV} {kk:IntKind} {kt:TypeId}
end
section
variable {P:Program} {rd:Option Nat} {base:Nat} {ops:Array Oper} {d:Option (List Sk)} {st S:St} {Φ:AOut→Prop} {i:Nat}
theorem Qkn {P:Program} {nf:Bool} {C:FuncId→List AV→Option Z2} {σ:Sto} {fr:Nat} {s:Slots} {o:Oper} {r:Res}:(Zr P nf C σ fr s o=some (.val r))=(evalOp P nf C σ fr s o=some (.val r)):=by
 apply propext
 unfold Zr
 split
 ·exact Iff.rfl
 ·cases evalOp P nf C σ fr s o with
  | none=>exact Iff.rfl
  | some y=>cases y <;> simp [Zv]
end
end Go.Ab
namespace Go.Ab
open Go.RowKit
def Qkt (o:Nat) (m:AObj):List Nat → List AObj→List AObj
 | k::ks,y::ys=>(if Nat.beq k o then m else y)::Qkt o m ks ys
 | _,ys=>ys
theorem Qgy {f:Nat → Option Nat} {objs:List AObj} {o:Nat} {e m:AObj} (hm:m.ren f=some m) (ho:o < objs.length):∀(ks:List Nat) (os:List AObj),Vn f (objs.set o e) ks=some os→Vn f (objs.set o m) ks=some (Qkt o m ks os)
 | [],os,h=>by simp [Vn] at h; subst h; rfl
 | k::ks,os,h=>by
  simp only [Vn] at h ⊢
  by_cases c:o=k
  ·subst c
   rw [List.getElem?_set_self ho] at h ⊢
   simp only at h ⊢
   cases hx:e.ren f with
   | none=>rw [hx] at h; cases h
   | some y =>
    rw [hx] at h
    cases hr:Vn f (objs.set o e) ks with
    | none=>rw [hr] at h; cases h
    | some os' =>
     rw [hr] at h
     have ih:=Qgy hm ho ks os' hr
     cases h
     rw [ih,hm]
     simp [Qkt]
  ·rw [List.getElem?_set_ne c] at h ⊢
   cases hk:objs[k]? with
   | none=>rw [hk] at h; cases h
   | some x =>
    rw [hk] at h
    simp only at h ⊢
    cases hx:x.ren f with
    | none=>rw [hx] at h; cases h
    | some y =>
     rw [hx] at h
     cases hr:Vn f (objs.set o e) ks with
     | none=>rw [hr] at h; cases h
     | some os' =>
      rw [hr] at h
      have ih:=Qgy hm ho ks os' hr
      cases h
      rw [ih]
      have:Nat.beq k o=false:=by
       cases e2:Nat.beq k o with
       | false=>rfl
       | true=>exact absurd (Nat.eq_of_beq_eq_true e2).symm c
      simp [Qkt,this]
def Qyj (base:Nat) (live keep:List Nat) (o:Nat) (m:AObj) (st:St):Option St :=
 match Qcv base live keep ⟨st.slots,st.objs.set o (mapO []),st.nt⟩ with
 | some s=>some ⟨s.slots,Qkt o m (List.range base++keep) s.objs,s.nt⟩
 | none=>none
end Go.Ab
