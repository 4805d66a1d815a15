/- Rules. No conditions. -/
import Derived.Test.YtgogkahhifkocaaDoorEng6
import Derived.RowKit3
import Derived.ChangeSame
import Derived.ChangeArms
import Derived.OpenShut
import Derived.WideKeyArgs
import Derived.Test.YtgogkahhifkocaaDoorEng5
import Derived.KernelRfl
set_option linter.all false
namespace Go.Ab
open Go.RowKit
section
variable {P:Program} {B:Nat} {W0 W:World} {D D0 dl:List Nat} {M:CM} {ι:Inj} {σ:Sto} {st st':St} {a:Act} {base:Nat}
theorem Rel.row1 (h:Rel P B W0 D M ι σ W) {o:Nat} {bx nr fl bx' nr' fl':Bool} {w:Nat} {xs xs':List AV} (hσ:σ o=some (.row bx false nr fl w xs)) (hl:xs'.length<=xs.length)
  (hs:∀x∈xs',AV.shaped x w) (hnr:nr'=true->AV.nrL xs'=true) (hfl:fl'=true->∀x∈xs',AV.scs x=true)
  (hc:∀(i j:Nat) (x' y':AV),xs'[i]?=some x'->x'.flat[j]?=some y'->∃x y,xs[i]?=some x/\x.flat[j]?=some y/\∀v,Qa M ι v y->Qa M ι v y') :
  Rel P B W0 D M ι (σ.put o (.row bx' false nr' fl' w xs')) W:=by
 obtain ⟨p,hp,hrow⟩:=h.row o _ _ _ _ _ _ hσ
 have key:=h.write (bx':=bx') (nr':=nr') (fl':=fl') (xs':=xs') hσ hp 0 [] (by simp) (bV hl hrow.len) hs hnr hfl (fun i j x y hi hj hlo hhi=>by simp at hhi)
  (fun i j x' y' hi hj _=>by
   obtain ⟨x,y,h1,h2,h3⟩:=hc i j x' y' hi hj
   obtain ⟨v,hv,hr⟩:=hrow.cells i j x y h1 h2
   exact ⟨v,by rw [<-cH]; exact hv,h3 v hr⟩)
 exact key
theorem Rel.virts (h:Rel P B W0 D M ι σ W) (S:Nat -> Prop) [DecidablePred S] (w:Nat) (fl:Bool) (hw:0 < w) (hS:∀o,S o->ι o=none) :
  Rel P B W0 D M (fun o=>if S o then some ⟨B,0,w,0⟩ else ι o) (fun o=>if S o then some (.row false false true fl w []) else σ o) W:=by
 have hle:ι.le (fun o=>if S o then some ⟨B,0,w,0⟩ else ι o):=fun o p hp=>by
  by_cases e:S o
  ·rw [hS o e] at hp; cases hp
  simp [e,hp]
 refine ⟨h.size,h.below,h.defs,h.agree,fun k bx1 nr1 fl1 w1 xs1 q j hk hq hj=>?_,?_,?_,?_,?_,?_⟩
 ·by_cases e:S k
  ·simp only [e,eK] at hk hq; cases hk; cases hq; simp at hj
  ·simp only [e,eJ] at hk hq; exact h.cool _ _ _ _ _ _ _ _ hk hq hj
 ·intro o bx ro nr fl' w' xs ho
  by_cases e:S o
  ·simp only [e,eK] at ho ⊢
   cases ho
   exact ⟨_,rfl,⟨rfl,hw,.inr rfl,aZ _,by simp,by simp [AV.nrL],by simp,by simp,fun _=>⟨aZ _,fun k hk=>by simp at hk⟩,fun hf=>by cases hf⟩⟩
  ·simp only [e,eJ] at ho ⊢
   obtain ⟨q,hq,hr⟩:=h.row o bx ro nr fl' w' xs ho
   refine ⟨q,hq,⟨hr.pw,hr.pos,hr.cpos,hr.len,hr.shaped,hr.nr,hr.fl,fun i j x y hi hj=>?_,hr.own,hr.imm⟩⟩
   obtain ⟨v,hv,hrep⟩:=hr.cells i j x y hi hj
   exact ⟨v,hv,hrep.mono (CM.le_refl _) hle⟩
 ·intro o fn sl ps as bd st pe ho
  by_cases e:S o
  ·simp [e] at ho
  ·simp only [e,eJ] at ho ⊢
   obtain ⟨q,nt,hq,hnt,hb,tmps,hsz,hrec,hsl⟩:=h.loop o fn sl ps as bd st pe ho
   exact ⟨q,nt,hq,hnt,hb,tmps,hsz,hrec,Qdc (CM.le_refl _) hle hsl⟩
 ·intro o o' bx nr fl1 w1 xs1 bx' nr' fl2 w2 xs2 p p' hne h1 h2 hp hp'
  by_cases e:S o
  ·simp only [e,eK] at hp
   cases hp
   right; left; simp
  ·by_cases e':S o'
   ·simp only [e',eK] at hp'
    cases hp'
    right; right; simp
   ·simp only [e,e',eJ] at h1 h2 hp hp'
    exact h.apart _ _ _ _ _ _ _ _ _ _ _ _ _ _ hne h1 h2 hp hp'
 ·intro o o' fn sl ps as bd st pe fn' sl' ps' as' bd' st' pe' p p' hne h1 h2 hp hp'
  by_cases e:S o
  ·simp [e] at h1
  ·by_cases e':S o'
   ·simp [e'] at h2
   ·simp only [e,e',eJ] at h1 h2 hp hp'
    exact h.loops _ _ _ _ _ _ _ _ _ _ _ _ _ _ _ _ _ _ hne h1 h2 hp hp'
 ·intro o ho
  by_cases e:S o
  ·simp [e] at ho
  ·simp only [e,eJ] at ho ⊢
   exact h.used o ho
theorem Q7h (o w:Nat) (fl:Bool) {α γ:Type} {x0:α} {n:Nat} {enc1:α->AV} (enc:γ->AV) {nr0 fl0:Bool} (ho:st.objs[o]?=some (.row false false nr0 fl0 1 ((List.replicate n x0).map enc1))) (ha:Qhp (enc1 x0)=true)
  (hw:(Nat.blt 0 w && Nat.blt st.objs.length BIG)=true)
  (hS:(⟨st.slots,st.objs.set o (.refs st.objs.length ((List.replicate n ([]:List γ)).map fun l=>l.map enc))++[.fam w fl ((List.replicate n ([]:List γ)).map fun l=>l.map enc)],st.nt⟩:St)=st'):Wk P base st st':=by
 classical
 subst hS
 simp only [aE] at hw
 have hw0:=Xr hw.1
 have hbig:=Xr hw.2
 intro B W0 D0 dl M ι a W h
 have hol:o < st.objs.length:=(aD.1 ho).1
 have hob:=h.lt ho
 generalize hxs:((List.replicate n ([]:List γ)).map fun l=>l.map enc)=xs at *
 have hxl:xs.length=n:=by rw [<-hxs]; simp
 have hxe:∀(i:Nat) (l:List AV),xs[i]?=some l->l=[]:=fun i l hi=>by
  rw [<-hxs] at hi
  simp only [bD,cK] at hi
  split at hi
  ·simp at hi; exact hi
  cases hi
 have hS:∀id,(∃i,id=fid st.objs.length i)->ι id=none:=fun id hid=>h.new id (by
  obtain ⟨i,rfl⟩:=hid
  rintro (c | ⟨k,i',hk,e⟩)
  ·have:=Zy st.objs.length i; omega
  have:=(Vl e).1; omega)
 have r1:=h.rel.virts (fun id=>∃i,id=fid st.objs.length i) w fl hw0 hS
 have hle:ι.le (fun id=>if (∃i,id=fid st.objs.length i) then some ⟨B,0,w,0⟩ else ι id):=fun id p hp=>by
  by_cases e:∃i,id=fid st.objs.length i
  ·rw [hS id e] at hp; cases hp
  simp only [e,eJ]; exact hp
 have hno:¬ ∃i,o=fid st.objs.length i:=fun ⟨i,e⟩=>by have:=Zy st.objs.length i; omega
 have hos:(fun id=>if (∃i,id=fid st.objs.length i) then some (AObj.row false false true fl w []) else sto st.objs id) o=some (.row false false nr0 fl0 1 ((List.replicate n x0).map enc1)):=by
  simp only [hno,eJ]; exact Qc8 hob ho rfl
 have r2:=r1.row1 (bx':=false) (nr':=false) (fl':=false) (xs':=Zs st.objs.length 0 xs) hos (by simp [Vc,hxl]) (fun x hx=>by
   obtain ⟨i,hi⟩:=bQ.1 hx
   rw [Vg] at hi
   cases hl:xs[i]? with
   | none=>rw [hl] at hi; cases hi
   | some l=>rw [hl] at hi; simp at hi; subst hi; exact ⟨.inr rfl,rfl,fun z hz=>by simp [AV.flat] at hz; subst hz; rfl⟩) (by simp) (by simp)
  (fun i c x' y' hi hc=>by
   rw [Vg] at hi
   cases hl:xs[i]? with
   | none=>rw [hl] at hi; cases hi
   | some l =>
    rw [hl] at hi
    have hl0:=hxe i l hl
    subst hl0
    simp only [bK,dR,List.length_nil,aK] at hi
    subst hi
    have hin:i < n:=by rw [<-hxl]; exact (aD.1 hl).1
    obtain ⟨p0,_,hrow0⟩:=h.rel.row o _ _ _ _ _ _ (Qc8 hob ho rfl)
    have hx0:((List.replicate n x0).map enc1)[i]?=some (enc1 x0):=by simp [hin]
    cases c with
    | succ c=>simp [AV.flat] at hc
    | zero =>
     simp only [AV.flat,eN,aK] at hc
     subst hc
     have hf:(enc1 x0).flat[0]?=some (enc1 x0):=by cases hz:enc1 x0 <;> simp [hz,Qhp] at ha <;> rfl
     refine ⟨_,_,hx0,hf,fun v hv=>?_⟩
     obtain ⟨ad,rfl⟩:=Qk9 ha hv
     exact .ref0 ad _ ⟨B,0,w,0⟩ (aH ⟨i,rfl⟩) rfl)
 have key:∀k,sto (st.objs.set o (.refs st.objs.length xs)++[.fam w fl xs]) k=Sto.put (fun id=>if (∃i,id=fid st.objs.length i) then some (AObj.row false false true fl w []) else sto st.objs id) o (.row false false false false 1 (Zs st.objs.length 0 xs)) k \/
   sto (st.objs.set o (.refs st.objs.length xs)++[.fam w fl xs]) k=none\/sto (st.objs.set o (.refs st.objs.length xs)++[.fam w fl xs]) k=some .dead:=by
  intro k
  have hget:∀m:Nat,m≠o->m≠st.objs.length->(st.objs.set o (AObj.refs st.objs.length xs)++[AObj.fam w fl xs])[m]?=st.objs[m]?:=fun m h1 h2=>by
   rcases bA m st.objs.length with c | c
   ·rw [aW (by simpa using c),bZ (Ne.symm h1)]
   rw [dL (by simp; omega),dL c]
  have hgo:(st.objs.set o (AObj.refs st.objs.length xs)++[AObj.fam w fl xs])[o]?=some (.refs st.objs.length xs):=by
   rw [aW (by simpa using hol),bY hol]
  have hgj:(st.objs.set o (AObj.refs st.objs.length xs)++[AObj.fam w fl xs])[st.objs.length]?=some (.fam w fl xs):=by
   rw [aX (by simp)]; simp
  rcases bA k BIG with c | c
  ·have hnk:¬ ∃i,k=fid st.objs.length i:=fun ⟨i,e⟩=>by have:=Zy st.objs.length i; omega
   rw [Zo c]
   by_cases e:k=o
   ·subst e; left; rw [hgo,Sto.put_same]; rfl
   ·by_cases e2:k=st.objs.length
    ·subst e2; right; right; rw [hgj]; rfl
    ·left; rw [hget k e e2,Sto.put_ne _ _ e]; simp only [hnk,eJ]; rw [Zo c]
  ·have eo:k≠o:=fun e=>by omega
   rw [Sto.put_ne _ _ eo]
   rcases Jo (st.objs.set o (AObj.refs st.objs.length xs)++[AObj.fam w fl xs]) k with ⟨c',_⟩ | ⟨_,⟨m,i,w',fl',ys,l,rfl,e2,e3,e4⟩ | e⟩
   ·omega
   ·left
    rw [e4]
    by_cases em:m=st.objs.length
    ·subst em
     rw [hgj] at e2; cases e2
     have:=hxe i l e3; subst this
     have hex:∃i',fid st.objs.length i=fid st.objs.length i':=⟨i,rfl⟩
     simp only [hex,eK]
    ·have hex:¬ ∃i',fid m i=fid st.objs.length i':=fun ⟨i',e⟩=>em (Vl e).1
     simp only [hex,eJ]
     have emo:m≠o:=fun e=>by subst e; rw [hgo] at e2; cases e2
     rw [hget m emo em] at e2
     rw [X7 e2 e3]
   ·exact .inr (.inl e)
 refine ⟨M,_,.refl _ _,hle.leB base,⟨r2.forget key,h.slots.mono (CM.le_refl _) hle,h.nt,h.df,fun k hk=>?_,by simp; omega⟩⟩
 have hk:¬ InB (st.objs.length+1) k:=by simpa using hk
 have hex:¬ ∃i,k=fid st.objs.length i:=fun ⟨i,e⟩=>hk (.inr ⟨st.objs.length,i,Nat.lt_succ_self _,e⟩)
 simp only [hex,eJ]
 exact h.new k (fun c=>hk (c.mono (Nat.le_succ _)))
def Qd2 (m:Nat) (ids:List Nat):Bool:=ids.all fun k=>Nat.blt k BIG && !Nat.beq k m
def AObj.safe (m j:Nat):AObj->Bool
 | .row _ _ nr _ _ xs=>nr || Qd2 m (AV.idsL xs)
 | .loop _ sl _ _ _ _ _=>Qd2 m (AV.idsL (sl.map (·.2)))
 | .refs j' _=>!Nat.beq j' j
 | _=>true
def Qf6 (m j o:Nat):Nat -> List AObj->Bool
 | _,[]=>true
 | k,x::xs=>(Nat.beq k o || x.safe m j) && Qf6 m j o (k+1) xs
theorem Qo4 {m j o:Nat}:∀{k:Nat} {xs:List AObj},Qf6 m j o k xs=true->∀(i:Nat) (x:AObj),xs[i]?=some x->k+i≠o->x.safe m j=true
 | _,[],_,i,x,h,_=>by simp at h
 | k,y::ys,h,i,x,hi,hne=>by
  simp only [Qf6,aE,aM] at h
  cases i with
  | zero =>
   simp at hi; subst hi
   rcases h.1 with e | e
   ·exact absurd (aJ e) hne
   exact e
  | succ i=>exact Qo4 h.2 i x (by simpa using hi) (by omega)
def Jt (m:Nat) (s:List (Nat × AV)):List Nat -> List (Nat × AV)
 | []=>[]
 | t::ts=>match lk s t with
  | some x=>if Qd2 m x.ids then (t,x)::Jt m s ts else Jt m s ts
  | none=>Jt m s ts
theorem Qdb {m:Nat} {s:List (Nat × AV)}:∀{ts:List Nat} {t:Nat} {x:AV},lk (Jt m s ts) t=some x->lk s t=some x/\Qd2 m x.ids=true
 | [],t,x,h=>by simp [Jt,lk] at h
 | t0::ts,t,x,h=>by
  simp only [Jt] at h
  split at h
  ·rename_i y hy
   split at h
   ·rename_i hs
    simp only [lk] at h
    split at h
    ·rename_i e
     have e:=aJ e
     subst e; cases h; exact ⟨hy,hs⟩
    exact Qdb h
   exact Qdb h
  exact Qdb h
theorem Qx2 {m:Nat} {ids:List Nat} (h:Qd2 m ids=true):∀k∈ids,k < BIG/\k≠m:=fun k hk=>by
 simp only [Qd2,bO,aE,bG] at h
 obtain ⟨h1,h2⟩:=h k hk
 exact ⟨Xr h1,fun e=>by rw [e,dZ] at h2; cases h2⟩
theorem Q17 {x y:AV} (h:y∈x.flat):∀o∈y.ids,o∈x.ids:=by
 cases x with
 | agg cs=>intro o ho; simp only [AV.ids,Qcb]; exact ⟨y,h,ho⟩
 | _=>simp only [AV.flat,bU] at h; subst h; exact fun o ho=>ho
theorem TrE.congr {ι':Inj} {x:AV} (h:∀o∈x.ids,ι' o=ι o):TrE M ι ι' x x :=
 ⟨fun _ h=>h,fun h=>h,fun j y hj=>⟨y,hj,fun v hv=>hv.congr (fun o ho=>h o (Q17 (aF hj) o ho)),fun v hv=>hv⟩⟩
theorem TrE.ref {ι':Inj} {o o' n:Nat} (h:∀p,ι o=some p->ι' o'=some p):TrE M ι ι' (.ref o 0 n) (.ref o' 0 n):=by
 refine ⟨fun w hw=>Qjv (f:=fun _=>some o') rfl hw,fun h=>(by cases h),fun c y' hc=>?_⟩
 cases c with
 | succ c=>simp [AV.flat] at hc
 | zero =>
  simp only [AV.flat,eN,aK] at hc
  subst hc
  refine ⟨_,rfl,fun v hv=>?_,fun v hv=>?_⟩
  ·obtain ⟨p,hp,hq⟩:=Qgf hv
   exact hq _ _ (h p hp)
  obtain ⟨p,hp,_⟩:=Qgf hv
  cases hp
theorem Sim.adopt (h:Sim P B W0 D0 dl M ι st a W) {o j m n w:Nat} {fl:Bool} {cells l:List AV} {xs xs':List (List AV)} {live:List Nat}
  (ho:st.objs[o]?=some (.row false false false false 1 cells)) (hj:st.objs[j]?=some (.fam w fl xs)) (hm:st.objs[m]?=some (.row false false true fl w l))
  (hlen:xs'.length=cells.length) (hn:cells[n]?=some (.ref m 0 l.length)) (hxn:xs'[n]?=some l)
  (hoth:∀(i:Nat) (c:AV),i≠n->cells[i]?=some c->∃l',xs'[i]?=some l'/\xs[i]?=some l'/\c=.ref (fid j i) 0 l'.length)
  (hsafe:Qf6 m j o 0 st.objs=true) (hbm:base<=m) (hbj:base<=j) :
  ∃ι',Inj.leB base ι ι'/\Sim P B W0 D0 dl M ι' ⟨Jt m st.slots live,((st.objs.set o (.refs j xs')).set j (.fam w fl xs')).set m .dead,st.nt⟩ a W:=by
 classical
 have hob:=h.lt ho
 have hjb:=h.lt hj
 have hmb:=h.lt hm
 have hoj:o≠j:=fun e=>by subst e; rw [ho] at hj; cases hj
 have hom:o≠m:=fun e=>by subst e; rw [ho] at hm; cases hm
 have hjm:j≠m:=fun e=>by subst e; rw [hj] at hm; cases hm
 have hol:=(aD.1 ho).1
 have hjl:=(aD.1 hj).1
 have hml:=(aD.1 hm).1
 have hfm:fid j n≠m:=fun e=>by have:=Zy j n; omega
 generalize hobjs:((st.objs.set o (.refs j xs')).set j (.fam w fl xs')).set m .dead=objs'
 have gO:objs'[o]?=some (.refs j xs'):=by rw [<-hobjs,bZ hom.symm,bZ hoj.symm,bY hol]
 have gJ:objs'[j]?=some (.fam w fl xs'):=by rw [<-hobjs,bZ hjm.symm,bY (by simpa using hjl)]
 have gM:objs'[m]?=some .dead:=by rw [<-hobjs,bY (by simpa using hml)]
 have gE:∀k:Nat,k≠o->k≠j->k≠m->objs'[k]?=st.objs[k]?:=fun k h1 h2 h3=>by
  rw [<-hobjs,bZ h3.symm,bZ h2.symm,bZ h1.symm]
 have gL:objs'.length=st.objs.length:=by rw [<-hobjs]; simp
 let g:Nat -> Option Nat := fun k=>if k=fid j n then some m else if k=m then none else some k
 have g1:g (fid j n)=some m:=aH rfl
 have g2:∀k,k≠fid j n->k≠m->g k=some k:=fun k e1 e2=>by simp only [g,e1,e2,eJ]
 let ι':Inj:=fun k=>(g k).bind ι
 have i1:ι' (fid j n)=ι m:=by simp only [ι',g1,aC]
 have i2:∀k,k≠fid j n->k≠m->ι' k=ι k:=fun k e1 e2=>by simp only [ι',g2 k e1 e2,aC]
 have isafe:∀ids,Qd2 m ids=true->∀k∈ids,ι' k=ι k:=fun ids hs k hk=>by
  obtain ⟨c1,c2⟩:=Qx2 hs k hk
  exact i2 k (fun e=>by have:=Zy j n; omega) c2
 have hobj:∀k x',sto objs' k=some x'->x'≠.dead->∃q x,g k=some q/\sto st.objs q=some x/\TrO M ι ι' x x':=by
  intro k x' hk hd
  rcases Jo objs' k with ⟨c,e⟩ | ⟨c,⟨q,i,w',fl',ys,z,rfl,e2,e3,e4⟩ | e⟩
  ·rw [e] at hk
   have hkf:k≠fid j n:=fun e=>by have:=Zy j n; omega
   by_cases ko:k=o
   ·subst ko
    rw [gO] at hk; cases hk
    refine ⟨k,_,g2 k hkf hom,Qc8 hob ho rfl,.row _ _ _ _ _ _ _ (by simp [Vc,hlen]) (fun e=>by cases e) (fun i c c' h1 h2=>?_)⟩
    rw [Vg] at h2
    by_cases ein:i=n
    ·subst ein
     rw [hn] at h1; cases h1
     rw [hxn] at h2
     simp only [bK,dR,aK] at h2
     subst h2
     exact .ref fun p hp=>by rw [i1]; exact hp
    obtain ⟨l',e1,_,rfl⟩:=hoth i c ein h1
    rw [e1] at h2
    simp only [bK,dR,aK] at h2
    subst h2
    exact .ref fun p hp=>by rw [i2 _ (fun e=>ein (Vl e).2) (fun e=>by have:=Zy j i; omega)]; exact hp
   by_cases kj:k=j
   ·subst kj; rw [gJ] at hk; cases hk; exact absurd rfl hd
   by_cases km:k=m
   ·subst km; rw [gM] at hk; cases hk; exact absurd rfl hd
   rw [gE k ko kj km] at hk
   cases hx:st.objs[k]? with
   | none=>rw [hx] at hk; cases hk
   | some x =>
    rw [hx] at hk
    simp only [bK,aK] at hk
    subst hk
    have hs:=Qo4 hsafe k x hx (by omega)
    have hst:sto st.objs k=some x.plain:=by rw [Zo c,hx]; rfl
    refine ⟨k,_,g2 k hkf km,hst,?_⟩
    cases x with
    | dead=>exact absurd rfl hd
    | fam _ _ _=>exact absurd rfl hd
    | row bx ro nr fl0 w0 ys =>
     simp only [AObj.safe,aM] at hs
     rcases hs with hs | hs
     ·obtain ⟨_,_,hro⟩:=h.rel.row k _ _ _ _ _ _ hst
      exact .sameRow (hro.nr hs)
     exact .row _ _ _ _ _ _ _ rfl (fun _ e=>e) (fun i y y' h1 h2=>by
      rw [h1] at h2; cases h2
      exact TrE.congr fun o ho=>isafe _ hs o (Qcb.2 ⟨y,aF h1,ho⟩))
    | loop nt sl ps as bd s pe =>
     simp only [AObj.safe] at hs
     refine .loop _ _ _ _ _ _ _ _ (fun t y hy=>⟨y,hy,fun v hv=>hv.congr fun o ho=>isafe _ hs o (Qcb.2 ⟨y,?_,ho⟩)⟩)
     have:∀(s:List (Nat × AV)),lk s t=some y->y∈s.map (·.2):=fun s=>by
      induction s with
      | nil=>intro e; cases e
      | cons q r ih =>
       intro e
       obtain ⟨k0,v0⟩:=q
       simp only [lk] at e
       split at e
       ·cases e; simp
       simp [ih e]
     exact this sl hy
    | refs j' ys =>
     simp only [AObj.safe,bG] at hs
     have hjj:j'≠j:=fun e=>by rw [e,dZ] at hs; cases hs
     refine .row _ _ _ _ _ _ _ rfl (fun _ e=>e) (fun i y y' h1 h2=>?_)
     rw [h1] at h2; cases h2
     rw [Vg] at h1
     cases hl:ys[i]? with
     | none=>rw [hl] at h1; cases h1
     | some l0 =>
      rw [hl] at h1
      simp only [bK,dR,aK] at h1
      subst h1
      exact .ref fun p hp=>by rw [i2 _ (fun e=>hjj (Vl e).1) (fun e=>by have:=Zy j' i; omega)]; exact hp
  ·rw [e4] at hk; cases hk
   have hfk:fid q i≠m:=fun e=>by have:=Zy q i; omega
   by_cases qj:q=j
   ·subst qj
    rw [gJ] at e2; cases e2
    by_cases ein:i=n
    ·subst ein
     rw [hxn] at e3; cases e3
     have hst:=Qc8 hmb hm rfl
     obtain ⟨_,_,hro⟩:=h.rel.row m _ _ _ _ _ _ hst
     exact ⟨m,_,g1,hst,.sameRow (hro.nr rfl)⟩
    have hil:i < cells.length:=by rw [<-hlen]; exact (aD.1 e3).1
    obtain ⟨l',e1,e5,_⟩:=hoth i _ ein (aG hil)
    rw [e1] at e3; cases e3
    have hst:=X7 hj e5
    obtain ⟨_,_,hro⟩:=h.rel.row _ _ _ _ _ _ _ hst
    exact ⟨_,_,g2 _ (fun e=>ein (Vl e).2) hfk,hst,.sameRow (hro.nr rfl)⟩
   have qo:q≠o:=fun e=>by subst e; rw [gO] at e2; cases e2
   have qm:q≠m:=fun e=>by subst e; rw [gM] at e2; cases e2
   rw [gE q qo qj qm] at e2
   have hst:=X7 e2 e3
   obtain ⟨_,_,hro⟩:=h.rel.row _ _ _ _ _ _ _ hst
   exact ⟨_,_,g2 _ (fun e=>qj (Vl e).1) hfk,hst,.sameRow (hro.nr rfl)⟩
  rw [e] at hk; cases hk
 have hrel:Rel P B W0 (dl++D0) M ι' (sto objs') W:=by
  refine h.rel.via g (fun k k' q e1 e2=>?_) (fun k q e=>by simp only [ι',e,aC]) hobj (fun k hk=>?_)
  ·by_cases c1:k=fid j n
   ·by_cases c2:k'=fid j n
    ·rw [c1,c2]
    by_cases c3:k'=m
    ·simp only [g,c3,Ne.symm hfm,eJ,eK] at e2; cases e2
    rw [g2 k' c2 c3] at e2; cases e2; rw [c1,g1] at e1; cases e1; exact absurd rfl c3
   by_cases c3:k=m
   ·simp only [g,c3,Ne.symm hfm,eJ,eK] at e1; cases e1
   rw [g2 k c1 c3] at e1; cases e1
   by_cases c2:k'=fid j n
   ·rw [c2,g1] at e2; cases e2; exact absurd rfl c3
   by_cases c4:k'=m
   ·simp only [g,c4,Ne.symm hfm,eJ,eK] at e2; cases e2
   rw [g2 k' c2 c4] at e2; cases e2; rfl
  cases hx:sto objs' k with
  | none=>exact .inl rfl
  | some x' =>
   right
   by_cases hd:x'=.dead
   ·rw [hd]
   obtain ⟨q,x,e1,e2,e3⟩:=hobj k x' hx hd
   have:ι q=none:=by simpa only [ι',e1,aC] using hk
   rcases h.rel.used q this with e | e
   ·rw [e2] at e; cases e
   rw [e2] at e; cases e; exact absurd rfl e3.alive
 refine ⟨ι',fun k p hk hp=>?_,⟨hrel,fun t y hy=>?_,h.nt,h.df,fun k hk=>?_,by show objs'.length<=BIG; rw [gL]; exact h.big⟩⟩
 ·have h1:k≠m:=by
   rcases hk with hk | ⟨q,i,hq,rfl⟩
   ·omega
   ·have:=Zy q i; omega
  have h2:k≠fid j n:=by
   rcases hk with hk | ⟨q,i,hq,rfl⟩
   ·intro e
    have:=Zy j n; omega
   ·intro e; have:=(Vl e).1; omega
  rw [i2 k h2 h1]; exact hp
 ·obtain ⟨q1,q2⟩:=Qdb hy
  exact (h.slots t y q1).congr fun o ho=>isafe _ q2 o ho
 ·have hk:¬ InB objs'.length k:=hk
  rw [gL] at hk
  by_cases c1:k=fid j n
  ·exact absurd (.inr ⟨j,n,hjl,c1⟩) hk
  ·by_cases c2:k=m
   ·exact absurd (.inl (by omega)) hk
   ·rw [i2 k c1 c2]; exact h.new k hk
abbrev eF {γ:Type} (enc:γ->AV) (ls:List (List γ)):List (List AV):=ls.map fun l=>l.map enc
theorem Qsu {γ:Type} (enc:γ->AV) (ls:List (List γ)) (n:Nat) (b:List γ):eF enc (ls.set n b)=(eF enc ls).set n (b.map enc):=by simp [eF,List.map_set]
theorem Q1v (o j m:Nat) {γ:Type} {enc:γ->AV} {ls:List (List γ)} {x b:List γ} {n:Int} {w:Nat} {fl:Bool} (live:List Nat)
  (ho:st.objs[o]?=some (.row false false false false 1 ((Zs j 0 (eF enc ls)).set n.toNat (.ref m 0 b.length)))) (hj:st.objs[j]?=some (.fam w fl (eF enc ls))) (hm:st.objs[m]?=some (.row false false true fl w (b.map enc)))
  (hx:lkI ls n=some x) (hc:(Qf6 m j o 0 st.objs && Nat.ble base m && Nat.ble base j)=true)
  (hS:(⟨Jt m st.slots live,((st.objs.set o (.refs j (eF enc (ls.set n.toNat b)))).set j (.fam w fl (eF enc (ls.set n.toNat b)))).set m .dead,st.nt⟩:St)=st'):Wk P base st st':=by
 subst hS
 simp only [aE] at hc
 intro B W0 D0 dl M ι a W h
 obtain ⟨_,h2,_⟩:=Xm hx
 obtain ⟨ι',g1,g2⟩:=h.adopt (base:=base) (n:=n.toNat) (xs':=eF enc (ls.set n.toNat b)) (live:=live) ho hj hm (by simp [Vc]) (by rw [bY (by simpa [Vc] using h2)]; simp) (by simp [eF,h2])
  (fun i c hi hcc=>by
   rw [bZ (Ne.symm hi),Vg] at hcc
   cases hl:(eF enc ls)[i]? with
   | none=>rw [hl] at hcc; cases hcc
   | some l' =>
    rw [hl] at hcc
    simp only [bK,dR,aK] at hcc
    exact ⟨l',by rw [Qsu,bZ (Ne.symm hi)]; exact hl,rfl,hcc.symm⟩) hc.1.1 (bN hc.1.2) (bN hc.2)
 exact ⟨M,ι',.refl _ _,g1,g2⟩
theorem Qq8 {σ:Sto} {all:List Nat}:∀(os:List Nat),(∀o∈os,∃bx ro fl w xs,σ o=some (.row bx ro true fl w xs))->∃es,Qae σ all os=some es
 | [],_=>⟨[],rfl⟩
 | o::os,h=>by
  obtain ⟨es,he⟩:=Qq8 (all:=all) os (fun k hk=>h k (by simp [hk]))
  obtain ⟨bx,ro,fl,w,xs,ho⟩:=h o (by simp)
  exact ⟨(o,.row bx true true fl w xs)::es,by simp [Qae,ho,he]⟩
theorem Q4m (o j:Nat) {γ:Type} {enc:γ->AV} {ls:List (List γ)} {w:Nat} {fl:Bool} (ho:st.objs[o]?=some (.refs j (eF enc ls))) (hj:st.objs[j]?=some (.fam w fl (eF enc ls)))
  (hS:(⟨st.slots,(st.objs.set o (.row false false true false 1 (ls.map fun l=>eL fl enc l))).set j .dead,st.nt⟩:St)=st'):Wk P base st st':=by
 subst hS
 intro B W0 D0 dl M ι a W h
 have hob:=h.lt ho
 have hjb:=h.lt hj
 have hoj:o≠j:=fun e=>by subst e; rw [ho] at hj; cases hj
 have hol:=(aD.1 ho).1
 have hjl:=(aD.1 hj).1
 let ids:=(List.range ls.length).map (fid j)
 have hin:∀i l,(eF enc ls)[i]?=some l->sto st.objs (fid j i)=some (.row false false true fl w l):=fun i l hi=>X7 hj hi
 obtain ⟨es,hes⟩:=Qq8 (σ:=sto st.objs) (all:=ids) ids (fun k hk=>by
  simp only [ids,cD,cO] at hk
  obtain ⟨i,hi,rfl⟩:=hk
  exact ⟨false,false,fl,w,_,hin i (ls[i].map enc) (by simp [eF,hi])⟩)
 have r1:=Qai h.rel (ids:=ids) hes
 have hg:=h.rel.growC ids
 have hnid:∀k,k < BIG->k ∉ ids:=fun k hk hm=>by
  simp only [ids,cD,cO] at hm
  obtain ⟨i,_,rfl⟩:=hm
  have:=Zy j i; omega
 have hos0:sto st.objs o=some (.row false false false false 1 (Zs j 0 (eF enc ls))):=by rw [Zo hob,ho]; rfl
 have hos:(sto st.objs).puts es o=some (.row false false false false 1 (Zs j 0 (eF enc ls))):=by rw [Qak hes (hnid o hob)]; exact hos0
 have r2:=r1.row1 (bx':=false) (nr':=true) (fl':=false) (xs':=ls.map fun l=>eL fl enc l) hos (by simp [Vc,eF]) (fun x hx=>by
   simp only [cD] at hx
   obtain ⟨l,_,rfl⟩:=hx
   exact ⟨.inr rfl,rfl,fun z hz=>by simp [AV.flat] at hz; subst hz; rfl⟩) (fun _=>Q2.2 fun x hx=>by
   simp only [cD] at hx
   obtain ⟨l,_,rfl⟩:=hx
   rfl) (by simp)
  (fun i c x' y' hi hc=>by
   simp only [bD,aR] at hi
   obtain ⟨l,hl,rfl⟩:=hi
   have hle:(eF enc ls)[i]?=some (l.map enc):=by simp [eF,hl]
   cases c with
   | succ c=>simp [AV.flat] at hc
   | zero =>
    simp only [AV.flat,eN,aK] at hc
    subst hc
    refine ⟨.ref (fid j i) 0 (l.map enc).length,.ref (fid j i) 0 (l.map enc).length,by rw [Vg,hle]; simp,rfl,fun v hv=>?_⟩
    have hv0:Qa M ι v (.ref (fid j i) 0 (l.map enc).length):=by
     obtain ⟨p,hp,_⟩:=Qgf hv
     generalize (l.map enc).length=q at *
     cases hv with
     | ref0 _ _ p hp hc=>exact .ref0 _ _ p hp hc
     | ref _ _ _ p off cap hp h1 h2 h3=>exact .ref _ _ _ p off cap hp h1 h2 h3
    have hsn:Qt (sto st.objs) Qo (.ref (fid j i) 0 (l.map enc).length)=some (.lst fl (l.map enc),[fid j i]):=by
     show Qt (sto st.objs) (Qo - 1+1) _=_
     simp only [Qt,hin i _ hle]
     simp [List.take_of_length_le]
    have:=Yv h.rel ids Qo _ _ _ v hsn (fun k hk=>by
     simp at hk; subst hk
     simp only [ids,cD,cO]
     exact ⟨i,(aD.1 hl).1,rfl⟩) hv0
    exact this.mono (CM.le_refl _) (Inj.noInj_le _))
 have key:∀k,sto ((st.objs.set o (.row false false true false 1 (ls.map fun l=>eL fl enc l))).set j .dead) k=((sto st.objs).puts es).put o (.row false false true false 1 (ls.map fun l=>eL fl enc l)) k \/
   sto ((st.objs.set o (.row false false true false 1 (ls.map fun l=>eL fl enc l))).set j .dead) k=none\/sto ((st.objs.set o (.row false false true false 1 (ls.map fun l=>eL fl enc l))).set j .dead) k=some .dead:=by
  intro k
  rcases bA k BIG with c | c
  ·rw [Zo c]
   by_cases ko:k=o
   ·subst ko; left; rw [Sto.put_same,bZ hoj.symm,bY hol]; rfl
   ·by_cases kj:k=j
    ·subst kj; right; right; rw [bY (by simpa using hjl)]; rfl
    ·left; rw [Sto.put_ne _ _ ko,Qak hes (hnid k c),bZ (Ne.symm kj),bZ (Ne.symm ko),Zo c]
  ·rcases Jo ((st.objs.set o (.row false false true false 1 (ls.map fun l=>eL fl enc l))).set j .dead) k with ⟨c',_⟩ | ⟨_,⟨q,i,w',fl',ys,z,rfl,e2,e3,e4⟩ | e⟩
   ·omega
   ·left
    have qj:q≠j:=fun e=>by subst e; rw [bY (by simpa using hjl)] at e2; cases e2
    have qo:q≠o:=fun e=>by subst e; rw [bZ (Ne.symm qj),bY hol] at e2; cases e2
    rw [bZ (Ne.symm qj),bZ (Ne.symm qo)] at e2
    rw [e4,Sto.put_ne _ _ (fun e=>by have:=Zy q i; omega),Qak hes (fun hm=>by
     simp only [ids,cD,cO] at hm
     obtain ⟨i',_,e⟩:=hm
     exact qj (Vl e).1.symm),X7 e2 e3]
   ·exact .inr (.inl e)
 exact ⟨_,ι,hg,.refl _ _,⟨r2.forget key,h.slots.mono hg.le (Inj.le_refl _),h.nt,h.df,fun k hk=>h.new k (by simpa using hk),by simpa using h.big⟩⟩
theorem Q73 (h:st=st'):Wk P base st st':=by subst h; exact Qwi
variable {rd:Option Nat} {ops:Array Oper} {S:St} {o:Oper} {out:AOut} {Φ:AOut->Prop} {d:Option (List Sk)} {i:Nat}
theorem Qzr {v:Option AV} {rds:List Nat} {s:Sk} (ho:Z0 ops i st=some o) (he:Ze P false noC st.sto st.objs.length (lk st.slots) o=some (.val ⟨v,[],st.objs.length,rds⟩))
  (hS:Zl ops i st v []=some S) (hc:∀e∈rds,∃c∈s.2,Qk5 c e) (k:RW P rd base ops (Q1 d [s]) (i+1) S Φ):RW P rd base ops d i st Φ:=by
 obtain ⟨h1,h2⟩:=Js ho
 have hl:=Z6 hS
 unfold Zl at hS
 rw [h1] at hS
 simp only at hS
 split at hS
 ·rename_i objs slots ha hp
  cases hS
  exact Qck ⟨o,_,h1,Qjm noC_sound h2 he ha hp hl,⟨fun e he=>(by cases he),hc⟩⟩ k
 ·cases hS
theorem Q14 {ob cl len:Nat} {ro nr fl:Bool} {w:Nat} {cells:List AV} {n:Int} (hi:Qcj P ops i st=some (.ref ob 0 len,n,w)) (hrow:st.sto ob=some (.row false ro nr fl w cells)) (h1:0<=n) (h2:n.toNat < len) (hcl:Qk5 cl ob)
  (hS:Zl ops i st (some (.ptr ob n.toNat 0)) []=some S) (k:RW P rd base ops (Q1 d [([],[cl])]) (i+1) S Φ):RW P rd base ops d i st Φ:=by
 obtain ⟨o,t,x,ix,kk,T,e,E,ho,hop,hT,hk,hE,rfl,hx,hix⟩:=Qg3 hi
 refine Qzr (v:=some (.ptr ob n.toNat 0)) (rds:=[ob]) ho ?_ hS (fun e he=>⟨cl,by simp,by simp at he; subst he; exact hcl⟩) k
 have hneg:¬ n < 0:=by omega
 unfold Ze
 rw [hop]
 simp only [Zq,aT,eJ]
 unfold evalOp
 rw [hop]
 simp only [hT,hx,hix,hk,asN,hneg,eJ,hE,hrow,blt_true h2,dW,decide_true,eK,Zi,dR]
theorem Q7e {γ:Type} {enc:γ->AV} {ls:List (List γ)} {x:List γ} {n:Int} {ob j:Nat} (hi:Qcj P ops i st=some (.ref ob 0 ls.length,n,1)) (hrow:st.sto ob=some (.row false false false false 1 (Zs j 0 (eF enc ls))))
  (ha:lkI ls n=some x) (hS:Zl ops i st (some (.ptr ob n.toNat 0)) []=some S) (k:RW P rd base ops (Q1 d [([],[ob])]) (i+1) S Φ):RW P rd base ops d i st Φ:=by
 obtain ⟨h1,h2,_⟩:=Xm ha
 exact Q14 hi hrow h1 h2 (.inl rfl) hS k
theorem Qv9 {γ:Type} {enc:γ->AV} {ls:List (List γ)} {x:List γ} {n:Int} {w j:Nat} {fl:Bool} (hj:st.objs[j]?=some (.fam w fl (eF enc ls))) (ha:lkI ls n=some x):st.sto (fid j n.toNat)=some (.row false false true fl w (x.map enc)):=by
 obtain ⟨_,_,h3⟩:=Xm ha
 exact X7 hj (by simp [eF,h3])
theorem Q8t {γ:Type} {enc:γ->AV} {ls:List (List γ)} {x:List γ} {y:γ} {n c:Int} {w j:Nat} {fl:Bool} (hi:Qcj P ops i st=some (.ref (fid j n.toNat) 0 x.length,c,w)) (hj:st.objs[j]?=some (.fam w fl (eF enc ls)))
  (ha:lkI ls n=some x) (hy:lkI x c=some y) (hb:Nat.blt j BIG=true) (hS:Zl ops i st (some (.ptr (fid j n.toNat) c.toNat 0)) []=some S) (k:RW P rd base ops (Q1 d [([],[j])]) (i+1) S Φ):RW P rd base ops d i st Φ:=by
 obtain ⟨h1,h2,_⟩:=Xm hy
 exact Q14 hi (Qv9 hj ha) h1 h2 (.inr ⟨Xr hb,_,rfl⟩) hS k
theorem Q3c {ob cl m c:Nat} {bx ro nr fl:Bool} {w:Nat} {cells:List AV} {y:AV} (hp:Jr ops i st=some (ob,m,c)) (hrow:st.sto ob=some (.row bx ro nr fl w cells)) (hy:cells[m]?=some y) (hcl:Qk5 cl ob)
  (hS:Qie P ops i st c y=some S) (k:RW P rd base ops (Q1 d [([],[cl])]) (i+1) S Φ):RW P rd base ops d i st Φ:=by
 unfold Qie at hS
 split at hS
 ·rename_i o ho
  split at hS
  ·rename_i t x hop
   split at hS
   ·rename_i T hT
    split at hS
    ·rename_i v hv
     have hx:evo (lk st.slots) x=some (.ptr ob m c):=by
      unfold Jr at hp
      rw [ho] at hp
      simp only [hop] at hp
      split at hp
      ·rename_i hx; cases hp; exact hx
      cases hp
     refine Qzr (v:=some v) (rds:=[ob]) ho ?_ hS (fun e he=>⟨cl,by simp,by simp at he; subst he; exact hcl⟩) k
     unfold Ze
     rw [hop]
     simp only [Zq,aT,eJ]
     unfold evalOp
     rw [hop]
     simp only [hT,hx,hrow,hy,hv,bK,Zi]
    ·cases hS
   ·cases hS
  ·cases hS
 ·cases hS
theorem Q8c {γ:Type} {enc:γ->AV} {ls:List (List γ)} {x:List γ} {n:Int} {ob j:Nat} (hp:Jr ops i st=some (ob,n.toNat,0)) (hrow:st.sto ob=some (.row false false false false 1 (Zs j 0 (eF enc ls))))
  (ha:lkI ls n=some x) (hS:Qie P ops i st 0 (.ref (fid j n.toNat) 0 x.length)=some S) (k:RW P rd base ops (Q1 d [([],[ob])]) (i+1) S Φ):RW P rd base ops d i st Φ:=by
 obtain ⟨h1,h2,h3⟩:=Xm ha
 exact Q3c hp hrow (by rw [Vg]; simp [eF,h3]) (.inl rfl) hS k
theorem Q7l {γ:Type} {enc:γ->AV} {ls:List (List γ)} {x:List γ} {n:Int} {ob j m q:Nat} (hp:Jr ops i st=some (ob,n.toNat,0)) (hrow:st.sto ob=some (.row false false false false 1 (Zs j 0 (eF enc ls))))
  (ha:lkI ls n=some x) (hv:Qct P ops i st=some (.ref m 0 q)) (hS:Zl ops i st none [(ob,.row false false false false 1 ((Zs j 0 (eF enc ls)).set n.toNat (.ref m 0 q)))]=some S) (hl:Nat.beq S.objs.length st.objs.length=true)
  (k:RW P rd base ops (Q1 d [([ob],[ob])]) (i+1) S Φ):RW P rd base ops d i st Φ:=by
 obtain ⟨h1,h2,h3⟩:=Xm ha
 obtain ⟨o,t,x0,y,T,ho,hop,hT,hx,hy,hc⟩:=J6 hp hv
 refine X6 (nf:=true) (fr:=st.objs.length) (rds:=[ob]) ho ?_ hS (aJ hl) k
 have hr:(Zs j 0 (eF enc ls))[n.toNat]?=some (.ref (fid j n.toNat) 0 x.length):=by rw [Vg]; simp [eF,h3]
 unfold Ze
 rw [hop]
 simp only [Zq,aT,eJ]
 unfold evalOp
 rw [hop]
 have hput:K8 (.ref (fid j n.toNat) 0 x.length) 0 (.ref m 0 q)=some (.ref m 0 q):=by simp [K8,AV.cell]
 simp only [hT,hx,hy,hrow,hr,hc,eK,Bool.or_true,Bool.true_or,hput,frz,Qae,List.contains_nil,aT,eJ,cU,Zi,Bool.false_and]
theorem Q15 {objs:List AObj} {o j:Nat} {xs xs':List (List AV)} (ho:objs[o]?=some (.refs j xs)) (he:Zs j 0 xs'=Zs j 0 xs):sto (objs.set o (.refs j xs'))=sto objs:=by
 have hlt:=(aD.1 ho).1
 funext k
 rcases bA k BIG with c | c
 ·rw [Zo c,Zo c]
  by_cases e:k=o
  ·subst e; rw [ho,bY hlt]; simp only [bK,AObj.plain,he]
  rw [bZ (Ne.symm e)]
 refine Qcs (fun q w fl ys=>?_) c
 by_cases e:q=o
 ·subst e; rw [ho,bY hlt]; simp
 rw [bZ (Ne.symm e)]
theorem Qm7 (j:Nat):∀(i:Nat) (xs:List (List AV)) (n:Nat) (l:List AV),(∀y,xs[n]?=some y->y.length=l.length)->Zs j i (xs.set n l)=Zs j i xs
 | _,[],_,_,_=>rfl
 | i,y::ys,0,l,h=>by simp only [List.set_cons_zero,Zs,h y rfl]
 | i,y::ys,n+1,l,h=>by simp only [List.set_cons_succ,Zs]; rw [Qm7 j (i+1) ys n l (fun z hz=>h z (by simpa using hz))]
def Q24 (ops:Array Oper) (i j o:Nat) (st:St) (x y:AObj):Option St :=
 match ops[i]? with
 | some op=>match Vv st.slots st.nt op.dst none with
  | some slots=>some ⟨slots,(st.objs.set j x).set o y,st.nt⟩
  | none=>none
 | none=>none
theorem Q53 {γ:Type} {enc:γ->AV} {ls:List (List γ)} {x:List γ} {y y':γ} {n m:Int} {w j q c:Nat} {fl:Bool} {v:AV} (hp:Jr ops i st=some (fid j n.toNat,m.toNat,c)) (hj:st.objs[j]?=some (.fam w fl (eF enc ls))) (hq:st.objs[q]?=some (.refs j (eF enc ls)))
  (ha:lkI ls n=some x) (hy:lkI x m=some y) (hb:Nat.blt j BIG=true) (hv:Qct P ops i st=some v) (hk:(v.nr && (v.scs || !fl))=true) (hput:K8 (enc y) c v=some (enc y'))
  (hS:Q24 ops i j q st (.fam w fl (eF enc (ls.set n.toNat (x.set m.toNat y')))) (.refs j (eF enc (ls.set n.toNat (x.set m.toNat y'))))=some S) (k:RW P rd base ops (Q1 d [([j],[j])]) (i+1) S Φ):RW P rd base ops d i st Φ:=by
 obtain ⟨h1,h2,h3⟩:=Xm hy
 obtain ⟨g1,g2,g3⟩:=Xm ha
 obtain ⟨o,t,x0,y0,T,ho,hop,hT,hx,hyv,hc⟩:=J6 hp hv
 obtain ⟨q1,q2⟩:=Js ho
 simp only [aE,aM,bG] at hk
 have hrow:=Qv9 (st:=st) hj ha
 have hfl:(fl && v.scs)=fl:=by
  rcases hk.2 with e | e
  ·simp [e]
  simp [e]
 have he:Ze P false noC st.sto st.objs.length (lk st.slots) o=some (.val ⟨none,[(fid j n.toNat,.row false false true fl w ((x.set m.toNat y').map enc))],st.objs.length,[fid j n.toNat]⟩):=by
  unfold Ze
  rw [hop]
  simp only [Zq,aT,eJ]
  unfold evalOp
  rw [hop]
  simp only [hT,hx,hyv,hrow,bD,h3,bK,hc,eK,hk.1,Bool.or_true,hput,frz,Qae,List.contains_nil,aT,eJ,cU,Zi,List.map_set,dW,hfl]
 unfold Q24 at hS
 rw [q1] at hS
 simp only at hS
 have hjq:q≠j:=fun e=>by subst e; rw [hj] at hq; cases hq
 split at hS
 ·rename_i slots hpd
  cases hS
  refine Qck (s:=([j],[j])) (st1:=⟨slots,(st.objs.set j (.fam w fl (eF enc (ls.set n.toNat (x.set m.toNat y'))))).set q (.refs j (eF enc (ls.set n.toNat (x.set m.toNat y')))),st.nt⟩) ⟨o,⟨none,[(fid j n.toNat,.row false false true fl w ((x.set m.toNat y').map enc))],st.objs.length,st.objs.length,[fid j n.toNat]⟩,q1,⟨ylL_ev noC_sound q2 he,rfl,by simp,?_,by simp,fun hb=>by simpa using hb,fun e=>(by cases e),hpd,rfl⟩,⟨fun e he=>?_,fun e he=>?_⟩⟩ k
  ·show sto ((st.objs.set j _).set q _)=_
   rw [Q15 (xs:=eF enc ls) (by rw [bZ hjq.symm]; exact hq),Qsu,Q4v hj (l:=x.map enc) (by simp [eF,g3])]
   ·rfl
   ·rw [Qsu]
    exact Qm7 _ _ _ _ _ (fun y hy=>by simp [eF,g3] at hy; subst hy; simp)
  ·simp at he; subst he; exact ⟨j,by simp,.inr ⟨Xr hb,_,rfl⟩⟩
  ·simp at he; subst he; exact ⟨j,by simp,.inr ⟨Xr hb,_,rfl⟩⟩
 ·cases hS
theorem exec_post {c:Code} {e:Xo} {st1:St} (h:Xi P rd base c st (.go e st')) (hw:Wk P base st' st1):Xi P rd base c st (.go e st1):=by
 intro B W0 D0 dl M ι a W n Q r hs hr hp
 refine h B W0 D0 dl M ι a W n Q r hs hr ⟨fun e' s he dl' M' ι' a' W' g1 g2 g3 g4=>?_,fun v he=>(by cases he)⟩
 cases he
 obtain ⟨M2,ι2,k1,k2,k3⟩:=hw _ _ _ _ _ _ _ _ g4
 exact hp.go e st1 rfl dl' M2 ι2 a' W' (g1.trans k1) (g2.trans k2) g3 k3
theorem Q36 {c:Code} (h:WP P rd base c st (fun out=>match out with | .go e s=>∃s1,Wk P base s s1/\Φ (.go e s1) | .pan v=>Φ (.pan v))):WP P rd base c st Φ:=by
 obtain ⟨out,h1,h2⟩:=h
 cases out with
 | pan v=>exact ⟨_,h1,h2⟩
 | go e s=>obtain ⟨s1,h3,h4⟩:=h2; exact ⟨_,exec_post h1 h3,h4⟩
theorem Qok {α R:Type} {enc:α->AV} {l:List α} {ob:Nat} {ro nr fl:Bool} {lo hi:Option AV} {a b:Int} {w:Nat} {A:Option R} {r:R} (hi':Qo7 P ops i st=some (.ref ob 0 l.length,lo,hi,none,w)) (hrow:st.sto ob=some (.row false ro nr fl w (l.map enc)))
  (ha:loI lo=some a) (hb:hiI l.length hi=some b) (hS:Zl ops i st (some (.ref ob a.toNat (b.toNat - a.toNat))) []=some S)
  (h:(if 0<=a/\a<=b/\b<=l.length then A else none)=some r) (k:(0<=a/\a<=b/\b<=(l.length:Int))->A=some r->RW P rd base ops (Q1 d [([],[ob])]) (i+1) S Φ):RW P rd base ops d i st Φ:=by
 by_cases hc:0<=a/\a<=b/\b<=(l.length:Int)
 ·exact Q7n hi' hrow ha hb hS h (fun h=>k hc h)
 ·rw [aI hc] at h; cases h
end
end Go.Ab
namespace Go.Ab
open Go.RowKit
open Go.ChangeShapes in
theorem post_of_below {H:Type} {enc:TypeId × Value->H} {P:Program} {f:Func} {s:ChangeSpec} {apart fresh handsOn again:Bool} {W W':World} {args:Array Value} {v:Value} {ds gs:List (DataW H)} {before pa pv:List MemPlace}
  (hW:DataW.Whole enc P f.params.toList s.vars apart W args.toList ds gs before)
  (hres:∀(b:Nat) (sp:Nat -> Bool) (hd:Bool),DataW.TrodAll enc P W' b sp hd f.resultTypes.toList (v.resultList f.resultTypes.size) (s.fn H (ds++gs)).results [])
  (hargs:∀sp:Nat -> Bool,(∀p∈before,sp p.block=true)->DataW.TrodAll enc P W' 0 sp true f.params.toList args.toList (s.fn H (ds++gs)).args pa)
  (hvars:∀sp:Nat -> Bool,(∀p∈before,sp p.block=true)->DataW.TrodVars enc P W' sp s.vars (s.fn H (ds++gs)).vars pv)
  (hps:before=pa++pv) (hb:Below W.heap.size W W')
  (hok:∀(j:Nat) (t:TypeId) (r:Value),f.resultTypes[j]?=some t->(v.resultList f.resultTypes.size)[j]?=some r->Value.okWide P W' .any 0 t r) :
  s.post enc P f apart fresh handsOn again W args v W':=by
 have hold:∀p∈before,(fun b=>decide (b < W.heap.size)) p.block=true:=fun p hp=>by simpa using hW.lt p hp
 have hlt:=hW.lt
 refine ⟨ds,gs,before,[],pa,pv,hW,hres _ _ _,hargs _ hold,hvars _ hold,World.keptBut_mono (fun p hp=>⟨hp,?_⟩) (hb.frame (·∈before)),fun _=>?_⟩
 ·rw [hps,bT] at hp
  exact Or.inr hp
 ·obtain ⟨_,_,_,_,_,hz,hn⟩:=hW
  refine ⟨hok,_,_,([]++pa)++pv,⟨[]++pa,pv,trodAll_append (hargs _ (fun _ _=>rfl)) (hres _ _ _),hvars _ (fun _ _=>rfl),rfl,?_,?_⟩,?_⟩
  ·intro b off hp
   have hm:MemPlace.cell b off∈before:=by rw [hps]; simpa using hp
   have h1:b < W.heap.size:=hlt _ hm
   rw [hb.frozen h1]
   exact hz b off hm
  ·intro ha
   have:=hn ha
   rw [hps] at this
   simpa using this
  ·intro p hp _
   rw [hps]
   simpa using hp
end Go.Ab
namespace Go.Ab
open Go.RowKit
theorem Qxd {M:CM} {ι:Inj} {v:Value} {fl:Bool} (h:Qa M ι v (.lst fl [])):Qa M ι v .nils\/Qa M ι v .emn:=by
 cases h with
 | lst0 a =>
  cases a with
  | none=>exact .inl .nils
  | some a=>exact .inr (.emn a 0)
 | lst b off cap=>exact .inr (.emn _ cap)
theorem Q3.nil {P:Program} {f:FuncId} {l1 l2:List AV} {fl:Bool} {out:Xk} (h1:Q3 P f (l1++.nils::l2) out) (h2:Q3 P f (l1++.emn::l2) out):Q3 P f (l1++.lst fl []::l2) out:=by
 intro W M vs hM hsz hr
 have hlt:l1.length < vs.size:=by simp at hsz; omega
 have h0:=hr l1.length vs[l1.length] (.lst fl []) (by simp [hlt]) (by simp)
 have other:∀y,Qa M noInj vs[l1.length] y->∀(j:Nat) (v:Value) (a:AV),vs[j]?=some v->(l1++y::l2)[j]?=some a->Qa M noInj v a:=by
  intro y hy j v a hv ha
  rcases Nat.lt_trichotomy j l1.length with c | c | c
  ·refine hr j v a hv ?_
   rw [aW c] at ha ⊢; exact ha
  ·subst c
   rw [aX (aZ _)] at ha
   simp at ha; subst ha
   rw [aL hlt] at hv; cases hv; exact hy
  refine hr j v a hv ?_
  rw [aX (by omega)] at ha ⊢
  rw [show j - l1.length=(j - l1.length - 1)+1 by omega] at ha ⊢
  simpa using ha
 rcases Qxd h0 with e | e
 ·exact h1 W M vs hM (by simpa using hsz) (other _ e)
 exact h2 W M vs hM (by simpa using hsz) (other _ e)
section
variable {P:Program} {base:Nat} {st st':St}
end
theorem Q3.froz {P:Program} {f:FuncId} {args:List AV} {v y:AV} {objs:List AObj} {ids:List Nat} (h:Q3 P f args (.ret v objs)) (hs:Qt (fun k=>objs[k]?) Qo v=some (y,ids)):Q3 P f args (.ret y []):=by
 intro W M vs hM hsz hr
 refine (h W M vs hM hsz hr).mono fun e W' he=>?_
 obtain ⟨u,M',ι',rfl,hg,hrel,hout,hv⟩:=he
 refine ⟨u,_,noInj,rfl,hg.trans (hrel.growC ids),⟨hrel.size,hrel.below,hrel.defs,Qcy hrel.agree,fun o bx nr fl w xs p k ho=>(by simp at ho),fun o bx ro nr fl w xs ho=>(by simp at ho),fun o fn sl ps as bd st pe ho=>(by simp at ho),fun o o' bx nr fl w xs bx' nr' fl' w' xs' p p' _ ho=>(by simp at ho),fun o o' fn sl ps as bd st pe fn' sl' ps' as' bd' st' pe' p p' _ ho=>(by simp at ho),fun o _=>.inl (by simp)⟩,fun _ _=>rfl,Yv hrel ids Qo v y ids u hs (fun k hk=>hk) hv⟩
section
variable {P:Program} {rd:Option Nat} {base:Nat} {ops:Array Oper} {st S:St} {Φ:AOut->Prop} {d:Option (List Sk)} {i:Nat}
def Q8x (P:Program) (ops:Array Oper) (i:Nat) (st:St):Option (AV × AV × Nat) :=
 match Z0 ops i st with
 | some o=>match o.op with
  | .call { callee:=.builtin .copy,args,argTypes }=>match args.toList,argTypes.toList with
   | [x,y],t::_=>match ti P t,evo (lk st.slots) x,evo (lk st.slots) y with
    | some T,some a,some b=>match T.kind with
     | .slice e=>match ti P e with
      | some E=>some (a,b,E.size)
      | none=>none
     | _=>none
    | _,_,_=>none
   | _,_=>none
  | _=>none
 | none=>none
theorem Qfs {σ:Sto} {α:Type} {enc:α->AV} {l:List α} {w ob:Nat} {a b:Int} {ro nr fl:Bool} (hrow:σ ob=some (.row false ro nr fl w (l.map enc))) (hc:0<=a/\a<=b/\b<=(l.length:Int)) :
  Vf σ w (.ref ob a.toNat (b.toNat - a.toNat))=some ((sub l a b).map enc,nr,fl,[ob]):=by
 have h1:Nat.ble (a.toNat + (b.toNat - a.toNat)) (l.map enc).length=true:=Nat.ble_eq_true_of_le (by simp; omega)
 simp [Vf,hrow,sub]
 omega
def Qsb (agg:Bool) (w:Nat) (cs:List AV):Option AV:=if agg then (if w<=cs.length then some (.agg (cs.take w)) else none) else cs.head?
def Qpv (P:Program) (ops:Array Oper) (i:Nat) (st:St):Option (List AV × Int × Nat × Nat × Bool) :=
 match Z0 ops i st with
 | some o=>match o.op with
  | .index t x ix=>match ti P t,evo (lk st.slots) x,evo (lk st.slots) ix with
   | some T,some (.agg cs),some (.int _ n)=>match T.kind with
    | .array len e=>match ti P e with
     | some E=>some (cs,n,len,E.size,E.agg)
     | none=>none
    | _=>none
   | _,_,_=>none
  | _=>none
 | none=>none
theorem Qsy {cs:List AV} {n:Int} {len w:Nat} {g:Bool} (h:Qpv P ops i st=some (cs,n,len,w,g)):∃o,Z0 ops i st=some o /\
  ∀v,0<=n->n.toNat < len->Qsb g w (cs.drop (n.toNat * w))=some v->Ze P false noC st.sto st.objs.length (lk st.slots) o=some (.val ⟨some v,[],st.objs.length,[]⟩):=by
 unfold Qpv at h
 split at h
 ·rename_i o ho
  split at h
  ·rename_i t x ix hop
   split at h
   ·rename_i T cs' k n' hT hx hix
    split at h
    ·rename_i len' e hk
     split at h
     ·rename_i E hE
      cases h
      refine ⟨o,ho,fun v h1 h2 hv=>?_⟩
      have hneg:¬ n < 0:=by omega
      unfold Ze
      rw [hop]
      simp only [Zq,aT,eJ]
      unfold evalOp
      rw [hop]
      have hv':Kq E (cs.drop (n.toNat * E.size))=some v:=hv
      simp only [hT,hx,hix,hk,asN,hneg,eJ,hE,blt_true h2,eK,hv',Zx,bK,Zi]
     ·cases h
    ·cases h
   ·cases h
  ·cases h
 ·cases h
theorem Qqy {α:Type} {enc:α->AV} {w:Nat} (hw:∀x,Nat.beq (enc x).flat.length w=true):∀(l:List α) (j:Nat) (a:α),l[j]?=some a->∃r,(l.flatMap fun x=>(enc x).flat).drop (j*w)=(enc a).flat ++ r
 | [],j,a,h=>by simp at h
 | x::xs,0,a,h=>by
  simp at h; subst h
  exact ⟨_,by simp [List.flatMap_cons]; rfl⟩
 | x::xs,j+1,a,h=>by
  obtain ⟨r,hr⟩:=Qqy hw xs j a (by simpa using h)
  refine ⟨r,?_⟩
  rw [List.flatMap_cons,List.drop_append,aJ (hw x),List.drop_of_length_le (by rw [aJ (hw x),dS]; omega),cU,show (j+1)*w - w=j*w by rw [dS]; omega]
  exact hr
theorem Qyl {g:Bool} {w:Nat} {cs r:List AV} {v:AV} (hl:cs.length=w) (h:Qsb g w cs=some v) (hne:cs≠[]):Qsb g w (cs++r)=some v:=by
 subst hl
 cases g with
 | true =>
  have h:(if cs.length<=cs.length then some (AV.agg (cs.take cs.length)) else none)=some v:=h
  show (if cs.length<=(cs++r).length then some (AV.agg ((cs++r).take cs.length)) else none)=some v
  rw [aH (by simp),List.take_append_of_le_length (aZ _)]
  rw [aH (aZ _)] at h; exact h
 | false =>
  cases cs with
  | nil=>exact absurd rfl hne
  | cons c cs=>exact h
theorem Q8p {α:Type} {enc:α->AV} {l:List α} {n:Int} {a:α} {w:Nat} {g:Bool} {v:AV} (hi:Qpv P ops i st=some (l.flatMap (fun x=>(enc x).flat),n,l.length,w,g)) (hw:∀x,Nat.beq (enc x).flat.length w=true) (h0:Nat.blt 0 w=true)
  (ha:lkI l n=some a) (hv:Qsb g w (enc a).flat = some v) (hS:Zl ops i st (some v) []=some S) (k:RW P rd base ops (Q1 d [([],[])]) (i+1) S Φ):RW P rd base ops d i st Φ:=by
 obtain ⟨h1,h2,h3⟩:=Xm ha
 obtain ⟨o,ho,hev⟩:=Qsy hi
 obtain ⟨r,hr⟩:=Qqy hw l _ a h3
 have hl:=aJ (hw a)
 refine X6 ho (hev v h1 h2 ?_) hS (Z6 hS) k
 rw [hr]
 exact Qyl hl hv (fun e=>by rw [e] at hl; simp at hl; rw [<-hl] at h0; cases h0)
end
end Go.Ab
namespace Go.Ab
open Go.RowKit
inductive Sh where
 | int (k:IntKind)
 | bool
 | str
 | slice (fl ag:Bool) (w:Nat) (e:Sh)
 | cat (a b:Sh)
 | unit
def Sh.scal:Sh->Bool
 | .slice ..=>false
 | .cat a b=>a.scal && b.scal
 | _=>true
def Sh.width:Sh->Nat
 | .cat a b=>a.width+b.width
 | .unit=>0
 | _=>1
def WT:Sh->List AV->Prop
 | .int k,cs=>∃n,cs=[.int k n]/\(Lit.int k n).wf=true
 | .bool,cs=>∃b,cs=[.bool b]
 | .str,cs=>∃s,cs=[.str s]/\s.size<=maxLen
 | .slice fl ag w e,cs=>∃xs,cs=[.lst fl xs]/\xs.length<=maxLen/\∀x∈xs,WT e x.flat /\ (if ag then x=.agg x.flat else x.cell=true)
 | .cat a b,cs=>∃x y,cs=x++y/\WT a x/\WT b y
 | .unit,cs=>cs=[]
def Qig (P:Program) (t:TypeId):Bool:=match P.underlying t with | some (.struct _)=>true | some (.array _ _)=>true | _=>false
def Qxv (s:Sh):Nat -> Sh
 | 0=>.unit
 | n+1=>.cat s (Qxv s n)
def Qkb (P:Program) (rec:TypeId->Option Sh):List Field->Nat -> Option Sh
 | [],_=>some .unit
 | f::r,o=>match rec f.type with
  | some s=>if Nat.beq f.offset o && Nat.beq s.width (P.cellsOf f.type) then (match Qkb P rec r (o+s.width) with | some q=>some (.cat s q) | none=>none) else none
  | none=>none
def Qi9 (P:Program):Nat -> TypeId->Option Sh
 | 0,_=>none
 | n+1,t=>match P.underlying t with
  | some .bool=>some .bool
  | some (.int k)=>some (.int k)
  | some .string=>some .str
  | some (.slice e)=>match Qi9 P n e with
   | some s=>if Nat.beq s.width (P.cellsOf e) && Nat.blt 0 (P.cellsOf e) && (Qig P e || Nat.beq s.width 1) then some (.slice s.scal (Qig P e) (P.cellsOf e) s) else none
   | none=>none
  | some (.struct fs)=>match Qkb P (Qi9 P n) fs.toList 0 with
   | some s=>if Nat.beq s.width (P.cellsOf t) then some s else none
   | none=>none
  | some (.array m e)=>match Qi9 P n e with
   | some s=>if Nat.beq s.width (P.cellsOf e) && Nat.beq (m*s.width) (P.cellsOf t) then some (Qxv s m) else none
   | none=>none
  | _=>none
theorem Qtv:∀{s:Sh} {cs:List AV},WT s cs->cs.length=s.width
 | .int k,cs,h=>by obtain ⟨n,rfl,_⟩:=h; rfl
 | .bool,cs,h=>by obtain ⟨n,rfl⟩:=h; rfl
 | .str,cs,h=>by obtain ⟨n,rfl,_⟩:=h; rfl
 | .slice _ _ _ _,cs,h=>by obtain ⟨n,rfl,_⟩:=h; rfl
 | .cat a b,cs,h=>by obtain ⟨x,y,rfl,h1,h2⟩:=h; simp [Sh.width,Qtv h1,Qtv h2]
 | .unit,cs,h=>by cases h; rfl
theorem Qpr:∀{s:Sh} {cs:List AV},WT s cs->s.scal=true->cs.all AV.sc=true
 | .int k,cs,h,_=>by obtain ⟨n,rfl,_⟩:=h; rfl
 | .bool,cs,h,_=>by obtain ⟨n,rfl⟩:=h; rfl
 | .str,cs,h,_=>by obtain ⟨n,rfl,_⟩:=h; rfl
 | .slice _ _ _ _,cs,h,hs=>by cases hs
 | .cat a b,cs,h,hs=>by
  obtain ⟨x,y,rfl,h1,h2⟩:=h
  simp only [Sh.scal,aE] at hs
  rw [List.all_append,Qpr h1 hs.1,Qpr h2 hs.2]; rfl
 | .unit,cs,h,_=>by cases h; rfl
def Qaq (M:CM) (cs:List Value) (avs:List AV):Prop:=avs.length=cs.length/\∀(j:Nat) (v:Value) (y:AV),cs[j]?=some v->avs[j]?=some y->Qa M noInj v y/\y.cell=true
theorem K0 {M:CM} {v:Value} {y:AV} (h:Qa M noInj v y) (hc:y.cell=true):Qaq M [v] [y]:=by
 refine ⟨rfl,fun j v' y' h1 h2=>?_⟩
 cases j with
 | zero=>cases h1; cases h2; exact ⟨h,hc⟩
 | succ j=>simp at h1
theorem Qi4 {M:CM} {a b:List Value} {x y:List AV} (h1:Qaq M a x) (h2:Qaq M b y):Qaq M (a++b) (x++y):=by
 refine ⟨by simp [h1.1,h2.1],fun j v z hv hz=>?_⟩
 rcases bA j a.length with hj | hj
 ·rw [aW hj] at hv
  rw [aW (by rw [h1.1]; exact hj)] at hz
  exact h1.2 j v z hv hz
 rw [aX hj] at hv
 rw [aX (by rw [h1.1]; exact hj),h1.1] at hz
 exact h2.2 _ v z hv hz
theorem Qvb {α:Type} {n:Nat} {Q:Nat -> α->Prop} (h:∀i,i < n->∃x,Q i x):∃xs:List α,xs.length=n/\∀i x,xs[i]?=some x->Q i x:=by
 induction n with
 | zero=>exact ⟨[],rfl,fun i x hx=>by simp at hx⟩
 | succ n ih =>
  obtain ⟨xs,h1,h2⟩:=ih fun i hi=>h i (by omega)
  obtain ⟨x,hx⟩:=h n (by omega)
  refine ⟨xs++[x],by simp [h1],fun i y hy=>?_⟩
  rcases bA i xs.length with hi | hi
  ·rw [aW hi] at hy; exact h2 i y hy
  rw [aX hi] at hy
  cases hk:i - xs.length with
  | zero =>
   rw [hk] at hy
   cases hy
   rw [show i=n by omega]; exact hx
  | succ k=>rw [hk] at hy; simp at hy
def Qbk (w:World) (hg:GlobIn w):CM:=⟨fun b o=>w.cell? ⟨b,o,none⟩,hg,fun _=>none,fun _ _=>none⟩
theorem Q1f {w:World} {hg:GlobIn w} {b o:Nat}:Qbk w hg b o=w.cell? ⟨b,o,none⟩:=rfl
theorem Qq5 {α β:Type} {f:α->Option β}:∀{l:List α} {r:List β},l.mapM f=some r->r.length=l.length/\∀(i:Nat) (a:α),l[i]?=some a->f a=r[i]?
 | [],r,h=>by simp at h; subst h; simp
 | a::l,r,h=>by
  simp only [List.mapM_cons,Option.pure_def,Option.bind_eq_bind,bR] at h
  obtain ⟨b,hb,bs,hbs,h⟩:=h
  cases h
  obtain ⟨h1,h2⟩:=Qq5 hbs
  refine ⟨by simp [h1],fun i x hx=>?_⟩
  cases i with
  | zero=>cases hx; simpa using hb
  | succ i=>simpa using h2 i x (by simpa using hx)
theorem Qty {w:World} {base:Nat} {a:Addr} {n:Nat} {row:List Value} (h:w.cells? base a n=some row):row.length=n/\∀i,i < n->w.cell? (a.add i)=row[i]?:=by
 unfold World.cells? at h
 split at h
 ·obtain ⟨h1,h2⟩:=Qq5 h
  refine ⟨by simpa using h1,fun i hi=>h2 i i (by simp [hi])⟩
 cases h
theorem Qy8 {w:World} {a:Addr} {v:Value} (h:w.cell? a=some v):a.spot=none:=by
 unfold World.cell? at h
 cases hs:a.spot with
 | none=>rfl
 | some s =>
  simp only [hs] at h
  split at h <;> simp at h
theorem Ql8 (a:Addr):a.add 0=a:=by simp [Addr.add]
theorem Qto (b off k:Nat):(⟨b,off,none⟩:Addr).add k=⟨b,off+k,none⟩:=by
 unfold Addr.add
 split
 ·rename_i h; subst h; rfl
 rfl
section
variable {H:Type} {enc:TypeId × Value->H} {P:Program} {w:World} {base:Nat} {hg:GlobIn w}
theorem Qot {cs:List Value} {m:Nat} {rec:TypeId->Option Sh} (ih:∀(t:TypeId) (s:Sh),rec t=some s->∀(cs:List Value) (x:DataW H × List MemPlace),DataW.trod enc P w base (fun _=>true) true m t cs=some x->∃avs,Qaq (Qbk w hg) cs avs/\WT s avs) :
  ∀(l:List Field) (o:Nat) (s:Sh),Qkb P rec l o=some s->(∀f∈l,∃x,DataW.trod enc P w base (fun _=>true) true m f.type ((cs.drop f.offset).take (P.cellsOf f.type))=some x)->∃avs,Qaq (Qbk w hg) ((cs.drop o).take s.width) avs/\WT s avs
 | [],o,s,h,_=>by
  cases h
  exact ⟨[],⟨by simp [Sh.width],fun j v y h1 h2=>by simp at h2⟩,rfl⟩
 | f::l,o,s,h,hf=>by
  unfold Qkb at h
  split at h
  rotate_left
  ·cases h
  rename_i s1 hs1
  split at h
  rotate_left
  ·cases h
  rename_i hc
  split at h
  rotate_left
  ·cases h
  rename_i q hq
  cases h
  simp only [aE] at hc
  have h1:=aJ hc.1
  have h2:=aJ hc.2
  obtain ⟨x,hx⟩:=hf f (by simp)
  rw [h1,<-h2] at hx
  obtain ⟨a1,c1,w1⟩:=ih _ _ hs1 _ _ hx
  obtain ⟨a2,c2,w2⟩:=Qot ih l (o+s1.width) q hq (fun g hg=>hf g (by simp [hg]))
  refine ⟨a1++a2,?_,a1,a2,rfl,w1,w2⟩
  have e:(cs.drop o).take (s1.width+q.width)=(cs.drop o).take s1.width++(cs.drop (o+s1.width)).take q.width:=by
   rw [List.take_add,List.drop_drop]
  simp only [Sh.width]
  rw [e]
  exact Qi4 c1 c2
theorem Qv6 {cs:List Value} {M:CM} {s:Sh} {n:Nat} (h:∀i,i < n->∃avs,Qaq M ((cs.drop (i*s.width)).take s.width) avs/\WT s avs):∀(k o:Nat),o+k=n->∃avs,Qaq M ((cs.drop (o*s.width)).take (k*s.width)) avs/\WT (Qxv s k) avs
 | 0,o,_=>⟨[],⟨by simp,fun j v y h1 h2=>by simp at h2⟩,rfl⟩
 | k+1,o,hk=>by
  obtain ⟨a1,c1,w1⟩:=h o (by omega)
  obtain ⟨a2,c2,w2⟩:=Qv6 h k (o+1) (by omega)
  refine ⟨a1++a2,?_,a1,a2,rfl,w1,w2⟩
  have e:(cs.drop (o*s.width)).take ((k+1)*s.width)=(cs.drop (o*s.width)).take s.width++(cs.drop ((o+1)*s.width)).take (k*s.width):=by
   rw [dS k,cI,List.take_add,List.drop_drop,dS o]
  rw [e]
  exact Qi4 c1 c2
theorem Qs9 (cs:List AV):(AV.agg cs).flat = cs:=rfl
theorem Qgn:∀(n:Nat) (t:TypeId) (s:Sh),Qi9 P n t=some s->∀(m:Nat) (cs:List Value) (x:DataW H × List MemPlace),DataW.trod enc P w base (fun _=>true) true m t cs=some x->∃avs,Qaq (Qbk w hg) cs avs/\WT s avs
 | 0,t,s,h=>by simp [Qi9] at h
 | n+1,t,s,h=>by
  intro m cs x hx
  unfold Qi9 at h
  split at h
  ·rename_i ht
   cases h
   obtain ⟨b,rfl,_⟩:=DataW.trod_bool ht hx
   exact ⟨[.bool b],K0 (.bool b) rfl,b,rfl⟩
  ·rename_i k ht
   cases h
   obtain ⟨z,rfl,_,hw⟩:=DataW.trod_int ht hx
   exact ⟨[.int k z],K0 (.int k z) rfl,z,rfl,hw⟩
  ·rename_i ht
   cases h
   obtain ⟨z,rfl,_,hw⟩:=DataW.trod_string ht hx
   exact ⟨[.str z],K0 (.str z) rfl,z,rfl,hw⟩
  ·rename_i e ht
   split at h
   rotate_left
   ·cases h
   rename_i s1 hs1
   split at h
   rotate_left
   ·cases h
   rename_i hc
   cases h
   simp only [aE,aM] at hc
   obtain ⟨⟨hw,hpos⟩,hag⟩:=hc
   have hw:=aJ hw
   have hpos:0 < P.cellsOf e:=by simpa using hpos
   rcases DataW.trod_slice ht hx with ⟨rfl,_⟩ | ⟨a,len,cap,elems,rest,n',_,rfl,_,hb,hl,hm,hlen,hel,hsp,_⟩
   ·exact ⟨[.lst s1.scal []],K0 (.lst0 none _) rfl,[],rfl,by simp,fun x hx=>by cases hx⟩
   have hsp:=hsp rfl
   have hspot:0 < cap->a.spot=none:=fun hcap=>by
    have key:∃row,w.cells? base a (P.cellsOf e)=some row:=by
     rcases dY len with h0 | h0
     ·have:=hsp.2 0 (by omega)
      rw [aG (by omega)] at this
      obtain ⟨row,h1,_⟩:=bR.1 this
      rw [h0,eH,Nat.zero_mul,Ql8] at h1
      exact ⟨row,h1⟩
     have:=hel 0 h0
     rw [aG (by omega)] at this
     obtain ⟨row,h1,_⟩:=bR.1 this
     rw [Nat.zero_mul,Ql8] at h1
     exact ⟨row,h1⟩
    obtain ⟨row,hk⟩:=key
    obtain ⟨h1,h2⟩:=Qty hk
    have h3:=h2 0 hpos
    rw [aG (by omega),Ql8] at h3
    exact Qy8 h3
   rcases dY cap with h0 | h0
   ·have hl0:len=0:=by omega
    subst h0; subst hl0
    exact ⟨[.lst s1.scal []],K0 (.lst0 _ _) rfl,[],rfl,by simp,fun x hx=>by cases hx⟩
   have hspot:=hspot h0
   obtain ⟨blk,off,spot⟩:=a
   simp only at hspot
   subst hspot
   have each:∀i,i < len->∃z:AV,z.shaped (P.cellsOf e)/\WT s1 z.flat /\ (if Qig P e then z=.agg z.flat else z.cell=true)/\∀(j:Nat) (y:AV),z.flat[j]?=some y->∃v,w.cell? ⟨blk,off+i*P.cellsOf e+j,none⟩=some v/\Qa (Qbk w hg) noInj v y:=by
    intro i hi
    have h1:=hel i hi
    rw [aG (by omega)] at h1
    obtain ⟨row,h2,h3⟩:=bR.1 h1
    obtain ⟨avs,c1,w1⟩:=Qgn n e s1 hs1 _ _ _ h3
    obtain ⟨g1,g2⟩:=Qty h2
    have hlen':=Qtv w1
    have cellv:∀(j:Nat) (y:AV),avs[j]?=some y->∃v,w.cell? ⟨blk,off+i*P.cellsOf e+j,none⟩=some v/\Qa (Qbk w hg) noInj v y/\y.cell=true:=fun j y hy=>by
     have hj:=(aD.1 hy).1
     have h5:=g2 j (by omega)
     have h6:row[j]?=some row[j]:=aG (by rw [<-c1.1]; exact hj)
     rw [h6] at h5
     refine ⟨_,?_,c1.2 j _ y h6 hy⟩
     rw [Qto,Qto] at h5
     exact h5
    by_cases ha:Qig P e=true
    ·refine ⟨.agg avs,⟨.inl rfl,by rw [Qs9]; omega,fun y hy=>?_⟩,w1,by rw [aH ha]; rfl,fun j y hy=>?_⟩
     ·rw [Qs9] at hy
      obtain ⟨j,hj⟩:=bQ.1 hy
      obtain ⟨_,_,_,h⟩:=cellv j y hj
      exact h
     obtain ⟨v,h1,h2,_⟩:=cellv j y hy
     exact ⟨v,h1,h2⟩
    have h1:s1.width=1:=by
     rcases hag with h | h
     ·exact absurd h ha
     exact aJ h
    obtain ⟨z,rfl⟩:∃z,avs=[z]:=by
     match avs,hlen' with
     | [z],_=>exact ⟨z,rfl⟩
     | [],h=>simp [h1] at h
     | _::_::_,h=>simp [h1] at h
    obtain ⟨v,hv,hr,hcell⟩:=cellv 0 z rfl
    have hflat : z.flat = [z]:=by cases z <;> simp_all [AV.flat,AV.cell]
    refine ⟨z,⟨.inr hcell,by rw [hflat]; simp; omega,fun y hy=>by rw [hflat] at hy; simp at hy; rw [hy]; exact hcell⟩,by rw [hflat]; exact w1,by rw [aI ha]; exact hcell,fun j y hy=>?_⟩
    rw [hflat] at hy
    cases j with
    | zero=>cases hy; exact ⟨v,by simpa using hv,hr⟩
    | succ j=>simp at hy
   obtain ⟨xs,hxl,hxs⟩:=Qvb each
   refine ⟨[.lst s1.scal xs],K0 ?_ rfl,xs,rfl,by omega,fun z hz=>?_⟩
   ·have:=Qa.lst (M:=Qbk w hg) (ι:=noInj) blk off cap (P.cellsOf e) s1.scal xs (fun i j=>(w.cell? ⟨blk,off+i*P.cellsOf e+j,none⟩).getD default) (by omega)
     (fun hfl z hz=>by
      obtain ⟨i,hi⟩:=bQ.1 hz
      exact Qpr (hxs i z hi).2.1 hfl)
     (fun z hz=>by
      obtain ⟨i,hi⟩:=bQ.1 hz
      exact (hxs i z hi).1)
     (fun i j z y hz hy=>by
      obtain ⟨v,h1,h2⟩:=(hxs i z hz).2.2.2 j y hy
      simp only [Q1f]
      rw [h1]; rfl)
     (fun i j z y hz hy=>by
      obtain ⟨v,h1,h2⟩:=(hxs i z hz).2.2.2 j y hy
      rw [h1]; exact h2)
    rwa [hxl] at this
   obtain ⟨i,hi⟩:=bQ.1 hz
   exact ⟨(hxs i z hi).2.1,(hxs i z hi).2.2.1⟩
  ·rename_i fs ht
   split at h
   rotate_left
   ·cases h
   rename_i s1 hs1
   split at h
   rotate_left
   ·cases h
   rename_i hw
   cases h
   have hw:=aJ hw
   obtain ⟨xs,n',_,_,hl,hxs,hf⟩:=DataW.trod_struct ht hx
   obtain ⟨avs,c1,w1⟩:=Qot (cs:=cs) (m:=n') (rec:=Qi9 P n) (fun t s hs cs x hx=>Qgn n t s hs _ _ _ hx) fs.toList 0 s hs1 (fun f hf'=>by
    obtain ⟨i,hi⟩:=bQ.1 hf'
    have h1:=hf i f (by simpa using hi)
    have hi':=(aD.1 hi).1
    rw [aG (by rw [hxs]; simpa using hi')] at h1
    exact ⟨_,h1⟩)
   refine ⟨avs,?_,w1⟩
   rw [List.drop_zero,List.take_of_length_le (by omega)] at c1
   exact c1
  ·rename_i m0 e ht
   split at h
   rotate_left
   ·cases h
   rename_i s1 hs1
   split at h
   rotate_left
   ·cases h
   rename_i hw
   cases h
   simp only [aE] at hw
   have h1:=aJ hw.1
   have h2:=aJ hw.2
   obtain ⟨xs,n',_,_,hl,hxs,hf⟩:=DataW.trod_array ht hx
   obtain ⟨avs,c1,w1⟩:=Qv6 (cs:=cs) (M:=Qbk w hg) (s:=s1) (n:=m0) (fun i hi=>by
    have h3:=hf i hi
    rw [aG (by omega),<-h1] at h3
    exact Qgn n e s1 hs1 _ _ _ h3) m0 0 (by omega)
   refine ⟨avs,?_,w1⟩
   rw [Nat.zero_mul,List.drop_zero,List.take_of_length_le (by omega)] at c1
   exact c1
  cases h
theorem arg_struct {t:TypeId} {s:Sh} {v:Value} {d:DataW H} {ps:List MemPlace} {b0:Nat} (n:Nat) (hs:Qi9 P n t=some s) (ha:Qig P t=true) (hok:Value.okWide P w .any b0 t v)
  (h:DataW.Trod enc P w base (fun _=>true) true t v d ps):∃avs,Qa (Qbk w hg) noInj v (.agg avs)/\WT s avs:=by
 obtain ⟨m,hm⟩:=h
 obtain ⟨avs,c1,w1⟩:=Qgn n t s hs m _ _ hm
 have hv:∃cs,v=.agg cs:=by
  unfold Qig at ha
  unfold Value.okWide at hok
  split at ha
  ·rename_i fs hfs
   rw [hfs] at hok
   obtain ⟨cs,h1,_⟩:=hok
   exact ⟨cs,h1⟩
  ·rename_i m0 e hfs
   rw [hfs] at hok
   obtain ⟨cs,h1,_⟩:=hok
   exact ⟨cs,h1⟩
  cases ha
 obtain ⟨cs,rfl⟩:=hv
 refine ⟨avs,.agg cs avs (by simpa [Value.cells] using c1.1.symm) (fun y hy=>?_) (fun j u y hu hy=>?_),w1⟩
 ·obtain ⟨j,hj⟩:=bQ.1 hy
  have hj':=(aD.1 hj).1
  rw [c1.1] at hj'
  exact (c1.2 j _ y (aG hj') hj).2
 ·exact (c1.2 j u y (by simpa [Value.cells] using hu) hy).1
end
theorem sameAt_of {W W':World} (h:∀b,b < W.heap.size->W'.heap[b]?=W.heap[b]?) {p:MemPlace} (hp:p.block < W.heap.size):W.sameAt W' p:=by
 cases p with
 | cell b off =>
  show W'.cell? ⟨b,off,none⟩=W.cell? ⟨b,off,none⟩
  unfold World.cell?
  rw [h b hp]
 | map b=>exact h b hp
theorem calls_args {P:Program} {f:FuncId} {args:List AV} {b:Bool} (h:Q3 P f args (.ret (.bool b) [])) {W:World} {hg:GlobIn W} {vs:Array Value} (hl:vs.size=args.length)
  (hr:∀(j:Nat) (v:Value) (a:AV),vs[j]?=some v->args[j]?=some a->Qa (Qbk W hg) noInj v a):Calls P f vs W fun e W'=>e=.returned (.bool b)/\Below W.heap.size W W'/\∀b,b < W.heap.size->W'.heap[b]?=W.heap[b]?:=by
 refine (h W (Qbk W hg) vs ⟨fun _ _ _ h=>h,fun b x h=>(by cases h),fun b o v h=>(by cases h)⟩ hl hr).mono fun e W' he=>?_
 obtain ⟨v,M',ι',he,_,hrel,_,hv⟩:=he
 cases hv
 exact ⟨he,hrel.below.toBelow,fun b hb=>hrel.below.block b hb⟩
theorem Qy2 {x:AV} (h:x.cell=true):x.flat = [x]:=by cases x <;> simp_all [AV.flat,AV.cell]
theorem Qs8 {α:Type} {enc:α->AV} {R:α->Prop} {xs:List AV} (h:∀x∈xs,∃a,x=enc a/\R a):∃l:List α,xs=l.map enc/\∀a∈l,R a:=by
 induction xs with
 | nil=>exact ⟨[],rfl,fun n hn=>by cases hn⟩
 | cons x xs ih =>
  obtain ⟨l,rfl,hl⟩:=ih fun y hy=>h y (by simp [hy])
  obtain ⟨a,rfl,ha⟩:=h x (by simp)
  refine ⟨a::l,rfl,fun m hm=>?_⟩
  rcases cC.1 hm with rfl | hm
  ·exact ha
  exact hl m hm
end Go.Ab
namespace Go.Ab
open Go.RowKit
def Qwk (P:Program) (t:TypeId):Bool:=match P.underlying t with | some (.int _)=>true | some .bool=>true | some .string=>true | some (.slice _)=>true | _=>false
section
variable {H:Type} {enc:TypeId × Value->H} {P:Program} {w:World} {base:Nat} {hg:GlobIn w}
theorem arg_cell {t:TypeId} {s:Sh} {v:Value} {d:DataW H} {ps:List MemPlace} {b0:Nat} (n:Nat) (hs:Qi9 P n t=some s) (ha:Qwk P t=true) (hok:Value.okWide P w .any b0 t v)
  (h:DataW.Trod enc P w base (fun _=>true) true t v d ps):∃y,Qa (Qbk w hg) noInj v y/\WT s [y]:=by
 obtain ⟨m,hm⟩:=h
 obtain ⟨avs,c1,w1⟩:=Qgn n t s hs m _ _ hm
 have hv:v.cells=#[v]:=by
  cases v with
  | agg cs =>
   exfalso
   unfold Qwk at ha
   unfold Value.okWide at hok
   split at ha <;> (rename_i hu; first | (rw [hu] at hok; unfold Cell.okWide at hok; rw [hu] at hok; unfold Cell.ok at hok; rw [hu] at hok; exact hok) | cases ha)
  | _=>rfl
 rw [hv] at c1
 obtain ⟨h1,h2⟩:=c1
 simp at h1
 obtain ⟨y,rfl⟩:∃y,avs=[y]:=List.length_eq_one_iff.1 h1
 exact ⟨y,(h2 0 v y rfl rfl).1,w1⟩
end
end Go.Ab
namespace Go.Ab
section
variable {P:Program} {rd:Option Nat} {base:Nat} {ops:Array Oper} {st S:St} {Φ:AOut->Prop} {d:Option (List Sk)} {i:Nat} {c y:Code}
theorem rga {id:Nat} (hm:P.follows .mixedOrders=true) (h:RW P rd base ops (some []) 0 st Φ) (hB:Qp0 ops=true:=by kernel_rfl):WP P rd base (.region id ops true) st Φ:=Q4k (by simp [hm]) (Qwn hB) h
def gt (o:Option St) (d:St):St:=match o with | some S=>S | none=>d
noncomputable def lx (P:Program) (ops:Array Oper) (i:Nat) (st:St) (hv he:List LK) (b:Bool):St:=gt (Qxe P false ops i st hv he b) st
theorem Q5c {o:Option St} {d:St} (h:o.isSome=true):o=some (gt o d):=by
 cases o with
 | none=>cases h
 | some S=>rfl
theorem sl (nf:Bool) (hv he:List LK) (b:Bool) (hn:nf=false) (hk:RW P rd base ops (Q1 d [Quf P nf ops i st]) (i+1) (lx P ops i st hv he b) Φ) (h:(Qxe P false ops i st hv he b).isSome=true:=by kernel_rfl):RW P rd base ops d i st Φ:=by
 subst hn; exact sgL false hv he b (Q5c h) hk
theorem kr {α:Sort _} {a b:α} (h:a=b:=by kernel_rfl):a=b:=h
def gt0 (o:Option St):St:=match o with | some S=>S | none=>⟨[],[],0⟩
theorem gE {o:Option St} (h:o.isSome=true:=by kernel_rfl):o=some (gt0 o):=by
 cases o with
 | none=>cases h
 | some S=>rfl
theorem gF {α:Type} {o:α->Option St} (h:∀x,(o x).isSome=true:=by (intro _; kernel_rfl)):∀x,o x=some (gt0 (o x)):=fun x=>gE (h x)
def Q3h (b:Bool):List Nat -> List (Nat × AV)->List (Nat × AV)
 | [],s=>s
 | t::ts,s=>Q3h b ts (setS s t (.bool b))
def pB (ts:List Nat) (b:Bool) (st:St):St:=⟨Q3h b ts st.slots,st.objs,st.nt⟩
def setLen (n:Nat):AV->AV
 | .ref o i _=>.ref o i n
 | .lin o i _=>.lin o i n
 | x=>x
def Q29 (n:Nat):List Nat -> List (Nat × AV)->List (Nat × AV)
 | [],s=>s
 | t::ts,s=>Q29 n ts (match lk s t with | some x=>setS s t (setLen n x) | none=>s)
def pL (ts:List Nat) (n:Nat) (st:St):St:=⟨Q29 n ts st.slots,st.objs,st.nt⟩
theorem rb (ts:List Nat) {R:Type} {b:Bool} {A B:Option R} {r:R} (h:(if b=true then A else B)=some r) (h1:b=true->A=some r->RW P rd base ops d i (pB ts true st) Φ) (h2:b=false->B=some r->RW P rd base ops d i (pB ts false st) Φ) (hS:st=pB ts b st:=by kernel_rfl):RW P rd base ops d i st Φ:=by
 rw [hS]; exact Q7x (S:=fun b=>pB ts b st) h h1 h2
theorem Q03 {n m:Nat} {S:Nat -> St} (hb:n=m) (h:RW P rd base ops d i (S m) Φ) (hS:st=S n:=by kernel_rfl):RW P rd base ops d i st Φ:=by rw [hS]; exact Q6a hb h
end
abbrev z1:List Int->AV:=eL true eI
abbrev z2:List (List Int)->AV:=eL false z1
abbrev zw:Int->Int:=IntKind.i64.wrap
abbrev zv:Int->Int:=IntKind.u64.wrap
abbrev zb:Int -> BitVec (IntKind.bits .u64):=BitVec.ofInt (IntKind.bits .u64)
abbrev zk:Nat:=IntKind.bits .u64
abbrev zp:Int×Int -> AV:=fun x=>.agg [vI x.1,vI x.2]
abbrev zq:Int×Int -> Int×Int -> Bool:=fun a b=>(a.1==b.1) && ((a.2==b.2) && true)
abbrev zt:Int->Nat := Int.toNat
abbrev zn {α:Type} (l:List α):Int:=(l.length:Int)
end Go.Ab
namespace Go.Ab
def Qa7 {σ ρ:Type} (F:(σ->Option ρ)->σ->Option ρ):Nat -> σ->Option ρ
 | 0,_=>none
 | n+1,s=>F (Qa7 F n) s
def Qf2 (P:Program) (N:Nat) (c:Code) {σ ρ:Type} (I:σ->St) (E:ρ->St) (d:σ->Option ρ):Prop :=
 ∀s x,d s=some x->WP P none N c (I s) (fun o=>o=.go .ret (E x)\/o=.go .normal (E x))
theorem Qyj {P:Program} {N:Nat} {c:Code} {σ ρ:Type} {I:σ->St} {E:ρ->St} {F:(σ->Option ρ)->σ->Option ρ}
  (step:∀d,Qf2 P N c I E d->∀s x,F d s=some x->WP P none N c (I s) (fun o=>o=.go .ret (E x)\/o=.go .normal (E x))):∀n,Qf2 P N c I E (Qa7 F n)
 | 0=>fun s x h=>by cases h
 | n+1=>fun s x h=>step _ (Qyj step n) s x h
section
variable {P:Program} {rd:Option Nat} {base:Nat} {ops:Array Oper} {st:St} {Φ:AOut->Prop} {i:Nat}
theorem Q6d {σ ρ R:Type} {N:Nat} {c:Code} {I:σ->St} {E:ρ->St} {d:σ->Option ρ} {K:ρ->Option R} {r:R} {f:FuncId} {fn:Func} {as0:List AV} (s0:σ)
  (hi:Zk ops i st=some (f,as0)) (hf:P.funcs[f]?=some fn) (hb:fn.body=some c) (hn:(fn.name == "runtime.NumGoroutine")=false) (hle:Nat.ble as0.length fn.ntmps=true)
  (h0:(⟨Vm 0 as0,st.objs,fn.ntmps⟩:St)=I s0) (hN:st.objs.length=N) (IH:Qf2 P N c I E d) (h:(d s0).bind K=some r)
  (k:∀x,K x=some r->∃S,Qij P fn ops i st (.go .ret (E x))=some S/\RW P rd base ops none (i+1) S Φ):RW P rd base ops none i st Φ:=by
 cases hx:d s0 with
 | none=>rw [hx] at h; cases h
 | some x =>
  rw [hx] at h
  refine Q7a hi hf hb hn hle ?_
  rw [h0,hN]
  obtain ⟨out,h1,h2⟩:=IH s0 x hx
  refine ⟨out,h1,?_⟩
  rcases h2 with rfl | rfl
  ·exact k x h
  obtain ⟨S,k1,k2⟩:=k x h
  exact ⟨S,by rw [<-k1]; rfl,k2⟩
end
section
variable {P:Program} {rd:Option Nat} {base:Nat} {ops:Array Oper} {st:St} {Φ:AOut->Prop} {i:Nat}
theorem Q8k {σ ρ R:Type} {N:Nat} {c:Code} {I:σ->St} {E:ρ->St} {F:(σ->Option ρ)->σ->Option ρ} {K:ρ->Option R} {r:R} {f:FuncId} {fn:Func} {as0:List AV} (s0:σ)
  (hi:Zk ops i st=some (f,as0)) (hf:P.funcs[f]?=some fn) (hb:fn.body=some c) (hn:(fn.name == "runtime.NumGoroutine")=false) (hle:Nat.ble as0.length fn.ntmps=true)
  (h0:(⟨Vm 0 as0,st.objs,fn.ntmps⟩:St)=I s0) (hN:st.objs.length=N) (h:(Qa7 F fuel s0).bind K=some r)
  (step:∀d,Qf2 P N c I E d->∀s x,F d s=some x->WP P none N c (I s) (fun o=>o=.go .ret (E x)\/o=.go .normal (E x)))
  (k:∀x,K x=some r->∃S,Qij P fn ops i st (.go .ret (E x))=some S/\RW P rd base ops none (i+1) S Φ):RW P rd base ops none i st Φ :=
 Q6d s0 hi hf hb hn hle h0 hN (Qyj step fuel) h k
end
theorem Qra {σ ρ:Type} {F:(σ->Option ρ)->σ->Option ρ} (I:σ->Prop) (m:σ->Nat) (Q:σ->ρ->Prop)
  (step:∀d s,I s->(∀s',I s'->m s' < m s->∃x,d s'=some x/\Q s' x)->∃x,F d s=some x/\Q s x):∀(n:Nat) (s:σ),I s->m s < n->∃x,Qa7 F n s=some x/\Q s x
 | 0,s,_,h=>by omega
 | n+1,s,hI,h=>step (Qa7 F n) s hI (fun s' h1 h2=>Qra I m Q step n s' h1 (by omega))
end Go.Ab
namespace Go.Ab
open Go.RowKit
def Qsr (P:Program) (f:FuncId) (az:List AV) (objs:List AObj) (r:AV) (objs':List AObj):Prop :=
 ∀(B:Nat) (W0 W:World) (D:List Nat) (M:CM) (ι:Inj) (vs:Array Value),Rel P B W0 D M ι (sto objs) W->D.Nodup->(∀k,¬ InB objs.length k->ι k=none)->objs.length<=BIG->vs.size=az.length ->
  (∀(j:Nat) (v:Value) (a:AV),vs[j]?=some v->az[j]?=some a->Qa M ι v a) ->
  Calls P f vs W fun e W'=>∃v M' ι',e=.returned v/\CM.Grow B M M'/\ι.le ι'/\Rel P B W0 D M' ι' (sto objs') W'/\(∀k,¬ InB objs'.length k->ι' k=none)/\objs'.length<=BIG/\Qa M' ι' v r
theorem Qxk {P:Program} {rd:Option Nat} {base:Nat} {o:Oper} {st:St} {g:Operand} {args:Array Operand} {ts:Array TypeId} {f:FuncId} {fn:Func} {first caps az:List AV} {x:AV} {objs':List AObj} {slots:List (Nat × AV)}
  (ho:o.op=.call { callee:=.value g,args,argTypes:=ts }) (hg:evo (lk st.slots) g=some (.fn (.func f) first caps)) (has:J3 (lk st.slots) args.toList=some az)
  (hf:P.funcs[f]?=some fn) (hb:fn.body.isSome=true) (hn:(fn.name == "runtime.NumGoroutine")=false)
  (h:Qsr P f (first++az++caps) st.objs x objs') (hput:Vv st.slots st.nt o.dst (some x)=some slots) :
  OpX P rd base o st (.go .normal ⟨slots,objs',st.nt⟩):=by
 intro B W0 D0 dl M ι a W n Q r hs hr' hp
 have hgv:=Qg hs.slots hg
 generalize hgu:a.eval g=gu at hgv
 cases hgv with
 | fn _ first' caps' _ _ hy hm h1 h2 hr1 hr2 =>
 obtain ⟨l1,e1⟩:=V0 hs.slots has
 refine ⟨fun _ _=>trivial,?_⟩
 rw [Oper.semAt_eq _ _ _ (by rw [ho]; simp)]
 have hrun:(execOp a.eval o).run P W=.ok (.enter f (first'++args.map a.eval++caps')) W:=by
  simp only [execOp,ho,resolve,hgu,Deferred.ofValue,Sem.run_bind,Sem.run_pure,Result.andThen_ok,invoke]
  exact Ji hf hb hn _ W
 rw [hrun,Oper.uponIn_enter]
 have hrep:∀(j:Nat) (v:Value) (y:AV),(first'++args.map a.eval++caps')[j]?=some v->(first++az++caps)[j]?=some y->Qa M ι v y :=
  Qjb h1 (by simpa using l1.symm) h2 hr1 (fun j v y hv hy=>by
   simp only [Array.getElem?_map,aR] at hv
   obtain ⟨w,hw,rfl⟩:=hv
   exact (e1 j w y (by simpa using hw) hy).2) hr2
 refine ⟨fun hd=>by simp [FW,Fence.wide] at hd,Qfk ((h B W0 W (dl++D0) M ι _ hs.rel hs.df.nd hs.new hs.big (by simp [h1,h2,l1]) hrep).mono ?_)⟩
 rintro e W' ⟨v,M',ι',rfl,g1,g2,g3,g4,g4b,g5⟩
 obtain ⟨k1,k2,k3⟩:=Qbb (u:=v) (hs.slots.mono g1.le g2) hs.nt hput (fun y hy=>by cases hy; exact g5)
 exact hp.go .normal _ rfl dl M' ι' _ W' g1 (g2.leB base) (List.suffix_refl _) ⟨g3,k1,k2,hs.df.put,g4,g4b⟩
def Qph (ops:Array Oper) (i:Nat) (st:St) (x:AV) (objs':List AObj):Option St :=
 match ops[i]? with
 | some o=>match Vv st.slots st.nt o.dst (some x) with
  | some slots=>some ⟨slots,objs',st.nt⟩
  | none=>none
 | none=>none
section
variable {P:Program} {rd:Option Nat} {base:Nat} {ops:Array Oper} {st:St} {Φ:AOut->Prop} {i:Nat}
theorem Q4d {f:FuncId} {fn:Func} {as0:List AV} {x:AV} {objs':List AObj} {S:St} (hi:Zk ops i st=some (f,as0)) (hf:P.funcs[f]?=some fn) (hb:fn.body.isSome=true) (hn:(fn.name == "runtime.NumGoroutine")=false)
  (h:Qsr P f as0 st.objs x objs') (hS:Qph ops i st x objs'=some S) (k:RW P rd base ops none (i+1) S Φ):RW P rd base ops none i st Φ:=by
 obtain ⟨o,g,args,ts,first,caps,as1,ho,hop,hg,has,rfl⟩:=Qbr hi
 obtain ⟨h1,h2⟩:=Js ho
 unfold Qph at hS
 rw [h1] at hS
 simp only at hS
 split at hS
 ·rename_i slots hp
  cases hS
  obtain ⟨out2,k1,k2⟩:=k
  have hi':i < ops.size:=(aY.1 h1).1
  refine ⟨out2,?_,k2⟩
  rw [Qfu hi']
  exact Qhe h1 h2 (Qxk hop hg has hf hb hn h hp) k1
 ·cases hS
end
end Go.Ab
namespace Go.Ab
open Go.RowKit
section
variable {P:Program} {ops:Array Oper} {G:Array Bool->Nat -> Foot} {Q:Slots->Sto->Prop} {s:Slots} {σ:Sto}
end
section
variable {P:Program} {ops:Array Oper} {G:Array Bool->Nat -> Foot} {s s':Slots} {σ:Sto} {B:Nat} {W0 W:World} {D:List Nat} {M:CM} {ι:Inj} {a:Act} {Q:Exit->Act->World->Prop} {QA:Slots->Sto->Prop}
end
section
variable {P:Program} {rd:Option Nat} {base:Nat} {ops ops0:Array Oper} {st st1 st2 st3:St}
theorem Qam.symm {F G:Foot} (h:Qam F G):Qam G F:=⟨h.b,h.a,fun e he e' he'=>Ne.symm (h.c e' he' e he)⟩
end
section
variable {P:Program} {rd:Option Nat} {base:Nat} {ops:Array Oper} {st st1 Sa Sb S3 S:St} {Φ:AOut->Prop} {i:Nat}
end
end Go.Ab
namespace Go.Ab
open Go.RowKit
theorem Q4f {α:Type} {vs:Array α} (h:vs.size=1):∃v0,vs=#[v0]:=by
 obtain ⟨l⟩:=vs
 match l,h with
 | [v0],_=>exact ⟨v0,rfl⟩
def Q0f (P:Program) (f:FuncId) (t1 t2:TypeId):Prop:=∀(g:FuncId) (gfn:Func) (caps:Array Value) (w:World) (x y:Int) (R:Ending->World->Prop),P.funcs[g]?=some gfn->gfn.body.isSome=true->(gfn.name == "runtime.NumGoroutine")=false ->
 Calls P g caps ((w.alloc (.cells #[.int .i64 0,.int .i64 0] t1)).alloc (.cells #[.int .i64 0] t2)) (fun e w'=>e=.returned (.agg #[.int .i64 x,.int .i64 y]) /\
  w'.cell? ⟨w.heap.size,0,none⟩=some (.int .i64 0)/\w'.cell? ⟨w.heap.size,1,none⟩=some (.int .i64 0)/\w'.cell? ⟨w.heap.size+1,0,none⟩=some (.int .i64 0) /\
  w'.frozen? ⟨w.heap.size,0,none⟩=false/\w'.frozen? ⟨w.heap.size,1,none⟩=false/\w'.frozen? ⟨w.heap.size+1,0,none⟩=false /\
  R (.returned (.tuple #[.agg #[.int .i64 x,.int .i64 y],.int .i64 0])) (((w'.setCell ⟨w.heap.size,0,none⟩ (.int .i64 x)).setCell ⟨w.heap.size,1,none⟩ (.int .i64 y)).setCell ⟨w.heap.size+1,0,none⟩ (.int .i64 0))) ->
 Calls P f #[.func (.func g) #[] caps] w R
section
variable {P:Program}
theorem Qsm {M:CM} {ι:Inj} {v:Value} {k:IntKind} {n:Int} (h:Qa M ι v (.int k n)):v=.int k n:=by cases h; rfl
theorem Que {W W':World} {M M':CM} (hag:Qbj M W) (hb:Zb W.heap.size W W') (hk:M'.blk=M.blk):∀b x,M'.blk b=some x->W'.heap[b]?=some x/\(∀c e f,x≠.cells c e f)/\∀d,x≠.deferred d:=fun b x hx=>by
 rw [hk] at hx
 obtain ⟨k1,k2,k3⟩:=hag.keep b x hx
 exact ⟨by rw [hb.block b (aY.1 k1).1]; exact k1,k2,k3⟩
theorem Qre {W W':World} {M M':CM} (hag:Qbj M W) (hb:Zb W.heap.size W W') (hk:M'.kc=M.kc):∀b o v,M'.kc b o=some v->W'.cell? ⟨b,o,none⟩=some v/\∀j,W'.frozen? ⟨b,j,none⟩=false:=fun b o v hx=>by
 rw [hk] at hx
 obtain ⟨k1,k2⟩:=hag.keepC b o v hx
 have hlt:=World.block_lt_of_cell? W _ k1
 exact ⟨by rw [hb.cell (p:=⟨b,o,none⟩) hlt]; exact k1,fun j=>by rw [hb.toBelow.frozen (p:=⟨b,j,none⟩) hlt]; exact k2 j⟩
theorem Q09 {W0 W':World} {M0' M:CM} {ι:Inj} (hag:Qbj M0' W0) (hk:M.blk=M0'.blk) (hkc:M.kc=M0'.kc) (hs:W0.heap.size<=W'.heap.size) (hb:Zb W0.heap.size W0 W') (ha:∀b o v,M b o=some v->W'.cell? ⟨b,o,none⟩=some v):Rel P W0.heap.size W0 [] M ι (fun k=>([]:List AObj)[k]?) W' :=
 ⟨hs,hb,fun r hr=>(by simp at hr),⟨ha,Que hag hb hk,Qre hag hb hkc⟩,fun o bx nr fl w xs p k ho=>(by simp at ho),fun o bx ro nr fl w xs ho=>(by simp at ho),fun o fn sl ps asg bd st pe ho=>(by simp at ho),fun o o' bx nr fl w xs bx' nr' fl' w' xs' p p' _ ho=>(by simp at ho),fun o o' fn sl ps asg bd st pe fn' sl' ps' asg' bd' st' pe' p p' _ ho=>(by simp at ho),fun o _=>.inl (by simp)⟩
theorem Qzf {f:FuncId} {t1 t2:TypeId} (raw:Q0f P f t1 t2) {g:FuncId} {gfn:Func} {capsA:List AV} {x y:Int} (hf:P.funcs[g]?=some gfn) (hb:gfn.body.isSome=true) (hn:(gfn.name == "runtime.NumGoroutine")=false)
  (h:Q3 P g capsA (.ret (.agg [.int .i64 x,.int .i64 y]) [])):Q3 P f [.fn (.func g) [] capsA] (.ret (.tup [.agg [.int .i64 x,.int .i64 y],.int .i64 0]) []):=by
 intro W M vs hag hsz hrep
 obtain ⟨v0,rfl⟩:=Q4f (vs:=vs) (by simp [hsz])
 have h0:=hrep 0 v0 _ rfl rfl
 cases h0 with
 | fn _ first' caps' _ _ hy hm h1 h2 hr1 hr2 =>
 have:first'=#[]:=by apply Array.eq_empty_of_size_eq_zero; simpa using h1
 subst this
 refine raw g gfn caps' W x y _ hf hb hn ?_
 have hcell:∀b o v,M b o=some v->b < W.heap.size:=fun b o v hv=>World.block_lt_of_cell? W _ (hag b o v hv)
 have hW1:Zb W.heap.size W ((W.alloc (.cells #[.int .i64 0,.int .i64 0] t1)).alloc (.cells #[.int .i64 0] t2)):=((Zb.refl _ W).alloc (aZ _) _).alloc (by simp) _
 generalize hW:(W.alloc (.cells #[.int .i64 0,.int .i64 0] t1)).alloc (.cells #[.int .i64 0] t2)=W1 at *
 have hsz1:W1.heap.size=W.heap.size+2:=by rw [<-hW]; simp
 have k1:W1.cell? ⟨W.heap.size,0,none⟩=some (.int .i64 0):=by rw [<-hW]; simp [go_sem]
 have k2:W1.cell? ⟨W.heap.size,1,none⟩=some (.int .i64 0):=by rw [<-hW]; simp [go_sem]
 have k3:W1.cell? ⟨W.heap.size+1,0,none⟩=some (.int .i64 0):=by rw [<-hW]; simp [go_sem]
 have z1:W1.frozen? ⟨W.heap.size,0,none⟩=false:=by rw [<-hW]; simp [go_sem]
 have z2:W1.frozen? ⟨W.heap.size,1,none⟩=false:=by rw [<-hW]; simp [go_sem]
 have z3:W1.frozen? ⟨W.heap.size+1,0,none⟩=false:=by rw [<-hW]; simp [go_sem]
 refine (h W1 M caps' ⟨fun b o v hv=>by rw [hW1.cell (p:=⟨b,o,none⟩) (hcell b o v hv)]; exact hag b o v hv,Que hag hW1 rfl,Qre hag hW1 rfl⟩ h2 (fun j v a hv ha=>hr2 j v a hv ha)).mono ?_
 rintro e W' ⟨v,M',ι',rfl,q1,q2,q3,q4⟩
 have hv:v=.agg #[.int .i64 x,.int .i64 y]:=by
  cases q4 with
  | agg cs' cs hl hc hr =>
  have hs2:cs'.size=2:=by simpa using hl
  have e0:=hr 0 (cs'[0]'(by omega)) (.int .i64 x) (by simp) rfl
  have e1:=hr 1 (cs'[1]'(by omega)) (.int .i64 y) (by simp) rfl
  have e0':cs'[0]'(by omega)=.int .i64 x:=Qsm e0
  have e1':cs'[1]'(by omega)=.int .i64 y:=Qsm e1
  congr 1
  apply Array.ext (by simp [hs2])
  intro i h3 h4
  have:i=0\/i=1:=by omega
  rcases this with rfl | rfl
  ·simpa using e0'
  simpa using e1'
 subst hv
 have hbel:=q2.below
 have same:∀(b o:Nat),b < W1.heap.size->W'.cell? ⟨b,o,none⟩=W1.cell? ⟨b,o,none⟩:=fun b o hlt=>hbel.cell (p:=⟨b,o,none⟩) hlt
 have samf:∀(b o:Nat),b < W1.heap.size->W'.frozen? ⟨b,o,none⟩=W1.frozen? ⟨b,o,none⟩:=fun b o hlt=>hbel.toBelow.frozen (p:=⟨b,o,none⟩) hlt
 refine ⟨rfl,by rw [same _ _ (by omega)]; exact k1,by rw [same _ _ (by omega)]; exact k2,by rw [same _ _ (by omega)]; exact k3,by rw [samf _ _ (by omega)]; exact z1,by rw [samf _ _ (by omega)]; exact z2,by rw [samf _ _ (by omega)]; exact z3,?_⟩
 have hle:W1.heap.size<=W'.heap.size:=q2.size
 refine ⟨_,M',noInj,rfl,q1.mono (by omega),Q09 hag q1.keep q1.keepC (by simp; omega) ?_ ?_,fun _ _=>rfl,?_⟩
 ·exact ((((hW1.trans (hbel.mono (by omega))).setCell (aZ _) _).setCell (aZ _) _).setCell (Nat.le_succ _) _)
 ·intro b o v hv
  have hne:∀p:Addr,(p.block=W.heap.size\/p.block=W.heap.size+1)->(⟨b,o,none⟩:Addr)≠p:=fun p hp e=>by
   subst e
   simp only at hp
   have hlt:b < W1.heap.size:=by omega
   rw [q1.old b o hlt] at hv
   have:=hcell b o v hv
   omega
  rw [World.cell?_setCell_other _ _ _ _ (hne ⟨W.heap.size+1,0,none⟩ (.inr rfl)).symm,World.cell?_setCell_other _ _ _ _ (hne ⟨W.heap.size,1,none⟩ (.inl rfl)).symm,World.cell?_setCell_other _ _ _ _ (hne ⟨W.heap.size,0,none⟩ (.inl rfl)).symm]
  exact q2.agree b o v hv
 ·refine .tup _ _ rfl (fun j u z hu hz=>?_)
  match j with
  | 0 =>
   simp at hu hz; subst hu; subst hz
   refine .agg _ _ rfl (fun c hc=>by simp at hc; rcases hc with rfl | rfl <;> rfl) (fun i u z hu hz=>?_)
   match i with
   | 0=>simp at hu hz; subst hu; subst hz; exact .int _ _
   | 1=>simp at hu hz; subst hu; subst hz; exact .int _ _
   | i+2=>simp at hu
  | 1=>simp at hu hz; subst hu; subst hz; exact .int _ _
  | j+2=>simp at hu
end
end Go.Ab
namespace Go.Ab
open Go.RowKit
def Q3b {α β:Type} (l:List α) (r:Option β) (f:α->List α->Option β):Option β:=match l with
 | []=>r
 | a::t=>f a t
section
variable {P:Program} {rd:Option Nat} {base:Nat} {ops:Array Oper} {Φ:AOut->Prop} {c:Code}
end
end Go.Ab
