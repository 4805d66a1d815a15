/- Rules. No conditions. -/
import Derived.Test.YtgogkahhifkocaaDoorEng6
import Derived.RowKit3
import Derived.ChangeSame
import Derived.ChangeArms
import Derived.OpenShut
import Derived.WideKeyArgs
set_option linter.all false
namespace Go.Ab
open Go.RowKit
section
variable {P:Program} {B:Nat} {W0 W:World} {D D0 dl:List Nat} {M:CM} {ι:Inj} {σ:Sto} {st st':St} {a:Act} {base:Nat}
theorem Rel.row1 (h:Rel P B W0 D M ι σ W) {o:Nat} {bx nr fl bx' nr' fl':Bool} {w:Nat} {xs xs':List AV} (hσ:σ o=some (.row bx false nr fl w xs)) (hl:xs'.length<=xs.length)
  (hs:∀x∈xs',AV.shaped x w) (hnr:nr'=true->AV.nrL xs'=true) (hfl:fl'=true->∀x∈xs',AV.scs x=true)
  (hc:∀(i j:Nat) (x' y':AV),xs'[i]?=some x'->x'.flat[j]?=some y'->∃x y,xs[i]?=some x/\x.flat[j]?=some y/\∀v,Qa M ι v y->Qa M ι v y') :
  Rel P B W0 D M ι (σ.put o (.row bx' false nr' fl' w xs')) W:=by
 obtain ⟨p,hp,hrow⟩:=h.row o _ _ _ _ _ _ hσ
 have key:=h.write (bx':=bx') (nr':=nr') (fl':=fl') (xs':=xs') hσ hp 0 [] (by simp) (bY hl hrow.len) hs hnr hfl (fun i j x y hi hj hlo hhi=>by simp at hhi)
  (fun i j x' y' hi hj _=>by
   obtain ⟨x,y,h1,h2,h3⟩:=hc i j x' y' hi hj
   obtain ⟨v,hv,hr⟩:=hrow.cells i j x y h1 h2
   exact ⟨v,by rw [<-cJ]; exact hv,h3 v hr⟩)
 exact key
theorem Rel.virts (h:Rel P B W0 D M ι σ W) (S:Nat -> Prop) [DecidablePred S] (w:Nat) (fl:Bool) (hw:0 < w) (hS:∀o,S o->ι o=none) :
  Rel P B W0 D M (fun o=>if S o then some ⟨B,0,w,0⟩ else ι o) (fun o=>if S o then some (.row false false true fl w []) else σ o) W:=by
 have hle:ι.le (fun o=>if S o then some ⟨B,0,w,0⟩ else ι o):=fun o p hp=>by
  by_cases e:S o
  ·rw [hS o e] at hp; cases hp
  simp [e,hp]
 refine ⟨h.size,h.below,h.defs,h.agree,fun k bx1 nr1 fl1 w1 xs1 q j hk hq hj=>?_,?_,?_,?_,?_,?_⟩
 ·by_cases e:S k
  ·simp only [e,eM] at hk hq; cases hk; cases hq; simp at hj
  ·simp only [e,eK] at hk hq; exact h.cool _ _ _ _ _ _ _ _ hk hq hj
 ·intro o bx ro nr fl' w' xs ho
  by_cases e:S o
  ·simp only [e,eM] at ho ⊢
   cases ho
   exact ⟨_,rfl,⟨rfl,hw,.inr rfl,bA _,by simp,by simp [AV.nrL],by simp,by simp,fun _=>⟨bA _,fun k hk=>by simp at hk⟩,fun hf=>by cases hf⟩⟩
  ·simp only [e,eK] at ho ⊢
   obtain ⟨q,hq,hr⟩:=h.row o bx ro nr fl' w' xs ho
   refine ⟨q,hq,⟨hr.pw,hr.pos,hr.cpos,hr.len,hr.shaped,hr.nr,hr.fl,fun i j x y hi hj=>?_,hr.own,hr.imm⟩⟩
   obtain ⟨v,hv,hrep⟩:=hr.cells i j x y hi hj
   exact ⟨v,hv,hrep.mono (CM.le_refl _) hle⟩
 ·intro o fn sl ps as bd st pe ho
  by_cases e:S o
  ·simp [e] at ho
  ·simp only [e,eK] at ho ⊢
   obtain ⟨q,nt,hq,hnt,hb,tmps,hsz,hrec,hsl⟩:=h.loop o fn sl ps as bd st pe ho
   exact ⟨q,nt,hq,hnt,hb,tmps,hsz,hrec,Qdw (CM.le_refl _) hle hsl⟩
 ·intro o o' bx nr fl1 w1 xs1 bx' nr' fl2 w2 xs2 p p' hne h1 h2 hp hp'
  by_cases e:S o
  ·simp only [e,eM] at hp
   cases hp
   right; left; simp
  ·by_cases e':S o'
   ·simp only [e',eM] at hp'
    cases hp'
    right; right; simp
   ·simp only [e,e',eK] at h1 h2 hp hp'
    exact h.apart _ _ _ _ _ _ _ _ _ _ _ _ _ _ hne h1 h2 hp hp'
 ·intro o o' fn sl ps as bd st pe fn' sl' ps' as' bd' st' pe' p p' hne h1 h2 hp hp'
  by_cases e:S o
  ·simp [e] at h1
  ·by_cases e':S o'
   ·simp [e'] at h2
   ·simp only [e,e',eK] at h1 h2 hp hp'
    exact h.loops _ _ _ _ _ _ _ _ _ _ _ _ _ _ _ _ _ _ hne h1 h2 hp hp'
 ·intro o ho
  by_cases e:S o
  ·simp [e] at ho
  ·simp only [e,eK] at ho ⊢
   exact h.used o ho
theorem Q6y (o w:Nat) (fl:Bool) {α γ:Type} {x0:α} {n:Nat} {enc1:α->AV} (enc:γ->AV) {nr0 fl0:Bool} (ho:st.objs[o]?=some (.row false false nr0 fl0 1 ((List.replicate n x0).map enc1))) (ha:Qhx (enc1 x0)=true)
  (hw:(Nat.blt 0 w && Nat.blt st.objs.length BIG)=true)
  (hS:(⟨st.slots,st.objs.set o (.refs st.objs.length ((List.replicate n ([]:List γ)).map fun l=>l.map enc))++[.fam w fl ((List.replicate n ([]:List γ)).map fun l=>l.map enc)],st.nt⟩:St)=st'):Wk P base st st':=by
 classical
 subst hS
 simp only [aE] at hw
 have hw0:=Xc hw.1
 have hbig:=Xc hw.2
 intro B W0 D0 dl M ι a W h
 have hol:o < st.objs.length:=(aD.1 ho).1
 have hob:=h.lt ho
 generalize hxs:((List.replicate n ([]:List γ)).map fun l=>l.map enc)=xs at *
 have hxl:xs.length=n:=by rw [<-hxs]; simp
 have hxe:∀(i:Nat) (l:List AV),xs[i]?=some l->l=[]:=fun i l hi=>by
  rw [<-hxs] at hi
  simp only [bF,cM] at hi
  split at hi
  ·simp at hi; exact hi
  cases hi
 have hS:∀id,(∃i,id=fid st.objs.length i)->ι id=none:=fun id hid=>h.new id (by
  obtain ⟨i,rfl⟩:=hid
  rintro (c | ⟨k,i',hk,e⟩)
  ·have:=Zj st.objs.length i; omega
  have:=(Yr e).1; omega)
 have r1:=h.rel.virts (fun id=>∃i,id=fid st.objs.length i) w fl hw0 hS
 have hle:ι.le (fun id=>if (∃i,id=fid st.objs.length i) then some ⟨B,0,w,0⟩ else ι id):=fun id p hp=>by
  by_cases e:∃i,id=fid st.objs.length i
  ·rw [hS id e] at hp; cases hp
  simp only [e,eK]; exact hp
 have hno:¬ ∃i,o=fid st.objs.length i:=fun ⟨i,e⟩=>by have:=Zj st.objs.length i; omega
 have hos:(fun id=>if (∃i,id=fid st.objs.length i) then some (AObj.row false false true fl w []) else sto st.objs id) o=some (.row false false nr0 fl0 1 ((List.replicate n x0).map enc1)):=by
  simp only [hno,eK]; exact Qha hob ho rfl
 have r2:=r1.row1 (bx':=false) (nr':=false) (fl':=false) (xs':=Qy st.objs.length 0 xs) hos (by simp [Zc,hxl]) (fun x hx=>by
   obtain ⟨i,hi⟩:=bT.1 hx
   rw [Xj] at hi
   cases hl:xs[i]? with
   | none=>rw [hl] at hi; cases hi
   | some l=>rw [hl] at hi; simp at hi; subst hi; exact ⟨.inr rfl,rfl,fun z hz=>by simp [AV.flat] at hz; subst hz; rfl⟩) (by simp) (by simp)
  (fun i c x' y' hi hc=>by
   rw [Xj] at hi
   cases hl:xs[i]? with
   | none=>rw [hl] at hi; cases hi
   | some l =>
    rw [hl] at hi
    have hl0:=hxe i l hl
    subst hl0
    simp only [bM,dS,List.length_nil,aK] at hi
    subst hi
    have hin:i < n:=by rw [<-hxl]; exact (aD.1 hl).1
    obtain ⟨p0,_,hrow0⟩:=h.rel.row o _ _ _ _ _ _ (Qha hob ho rfl)
    have hx0:((List.replicate n x0).map enc1)[i]?=some (enc1 x0):=by simp [hin]
    cases c with
    | succ c=>simp [AV.flat] at hc
    | zero =>
     simp only [AV.flat,eO,aK] at hc
     subst hc
     have hf:(enc1 x0).flat[0]?=some (enc1 x0):=by cases hz:enc1 x0 <;> simp [hz,Qhx] at ha <;> rfl
     refine ⟨_,_,hx0,hf,fun v hv=>?_⟩
     obtain ⟨ad,rfl⟩:=Qli ha hv
     exact .ref0 ad _ ⟨B,0,w,0⟩ (aH ⟨i,rfl⟩) rfl)
 have key:∀k,sto (st.objs.set o (.refs st.objs.length xs)++[.fam w fl xs]) k=Sto.put (fun id=>if (∃i,id=fid st.objs.length i) then some (AObj.row false false true fl w []) else sto st.objs id) o (.row false false false false 1 (Qy st.objs.length 0 xs)) k \/
   sto (st.objs.set o (.refs st.objs.length xs)++[.fam w fl xs]) k=none\/sto (st.objs.set o (.refs st.objs.length xs)++[.fam w fl xs]) k=some .dead:=by
  intro k
  have hget:∀m:Nat,m≠o->m≠st.objs.length->(st.objs.set o (AObj.refs st.objs.length xs)++[AObj.fam w fl xs])[m]?=st.objs[m]?:=fun m h1 h2=>by
   rcases bB m st.objs.length with c | c
   ·rw [aX (by simpa using c),cE (Ne.symm h1)]
   rw [dN (by simp; omega),dN c]
  have hgo:(st.objs.set o (AObj.refs st.objs.length xs)++[AObj.fam w fl xs])[o]?=some (.refs st.objs.length xs):=by
   rw [aX (by simpa using hol),cD hol]
  have hgj:(st.objs.set o (AObj.refs st.objs.length xs)++[AObj.fam w fl xs])[st.objs.length]?=some (.fam w fl xs):=by
   rw [aY (by simp)]; simp
  rcases bB k BIG with c | c
  ·have hnk:¬ ∃i,k=fid st.objs.length i:=fun ⟨i,e⟩=>by have:=Zj st.objs.length i; omega
   rw [Zb c]
   by_cases e:k=o
   ·subst e; left; rw [hgo,Sto.put_same]; rfl
   ·by_cases e2:k=st.objs.length
    ·subst e2; right; right; rw [hgj]; rfl
    ·left; rw [hget k e e2,Sto.put_ne _ _ e]; simp only [hnk,eK]; rw [Zb c]
  ·have eo:k≠o:=fun e=>by omega
   rw [Sto.put_ne _ _ eo]
   rcases Jr (st.objs.set o (AObj.refs st.objs.length xs)++[AObj.fam w fl xs]) k with ⟨c',_⟩ | ⟨_,⟨m,i,w',fl',ys,l,rfl,e2,e3,e4⟩ | e⟩
   ·omega
   ·left
    rw [e4]
    by_cases em:m=st.objs.length
    ·subst em
     rw [hgj] at e2; cases e2
     have:=hxe i l e3; subst this
     have hex:∃i',fid st.objs.length i=fid st.objs.length i':=⟨i,rfl⟩
     simp only [hex,eM]
    ·have hex:¬ ∃i',fid m i=fid st.objs.length i':=fun ⟨i',e⟩=>em (Yr e).1
     simp only [hex,eK]
     have emo:m≠o:=fun e=>by subst e; rw [hgo] at e2; cases e2
     rw [hget m emo em] at e2
     rw [Zy e2 e3]
   ·exact .inr (.inl e)
 refine ⟨M,_,.refl _ _,hle.leB base,⟨r2.forget key,h.slots.mono (CM.le_refl _) hle,h.nt,h.df,fun k hk=>?_,by simp; omega⟩⟩
 have hk:¬ InB (st.objs.length+1) k:=by simpa using hk
 have hex:¬ ∃i,k=fid st.objs.length i:=fun ⟨i,e⟩=>hk (.inr ⟨st.objs.length,i,Nat.lt_succ_self _,e⟩)
 simp only [hex,eK]
 exact h.new k (fun c=>hk (c.mono (Nat.le_succ _)))
def Qbw (m:Nat) (ids:List Nat):Bool:=ids.all fun k=>Nat.blt k BIG && !Nat.beq k m
def AObj.safe (m j:Nat):AObj->Bool
 | .row _ _ nr _ _ xs=>nr || Qbw m (AV.idsL xs)
 | .loop _ sl _ _ _ _ _=>Qbw m (AV.idsL (sl.map (·.2)))
 | .refs j' _=>!Nat.beq j' j
 | _=>true
def J9 (m j o:Nat):Nat -> List AObj->Bool
 | _,[]=>true
 | k,x::xs=>(Nat.beq k o || x.safe m j) && J9 m j o (k+1) xs
theorem Qdo {m j o:Nat}:∀{k:Nat} {xs:List AObj},J9 m j o k xs=true->∀(i:Nat) (x:AObj),xs[i]?=some x->k+i≠o->x.safe m j=true
 | _,[],_,i,x,h,_=>by simp at h
 | k,y::ys,h,i,x,hi,hne=>by
  simp only [J9,aE,aM] at h
  cases i with
  | zero =>
   simp at hi; subst hi
   rcases h.1 with e | e
   ·exact absurd (aJ e) hne
   exact e
  | succ i=>exact Qdo h.2 i x (by simpa using hi) (by omega)
def V1 (m:Nat) (s:List (Nat × AV)):List Nat -> List (Nat × AV)
 | []=>[]
 | t::ts=>match lk s t with
  | some x=>if Qbw m x.ids then (t,x)::V1 m s ts else V1 m s ts
  | none=>V1 m s ts
theorem Qbd {m:Nat} {s:List (Nat × AV)}:∀{ts:List Nat} {t:Nat} {x:AV},lk (V1 m s ts) t=some x->lk s t=some x/\Qbw m x.ids=true
 | [],t,x,h=>by simp [V1,lk] at h
 | t0::ts,t,x,h=>by
  simp only [V1] at h
  split at h
  ·rename_i y hy
   split at h
   ·rename_i hs
    simp only [lk] at h
    split at h
    ·rename_i e
     have e:=aJ e
     subst e; cases h; exact ⟨hy,hs⟩
    exact Qbd h
   exact Qbd h
  exact Qbd h
theorem Qf8 {m:Nat} {ids:List Nat} (h:Qbw m ids=true):∀k∈ids,k < BIG/\k≠m:=fun k hk=>by
 simp only [Qbw,bQ,aE,bI] at h
 obtain ⟨h1,h2⟩:=h k hk
 exact ⟨Xc h1,fun e=>by rw [e,eD] at h2; cases h2⟩
theorem Q2k {x y:AV} (h:y∈x.flat):∀o∈y.ids,o∈x.ids:=by
 cases x with
 | agg cs=>intro o ho; simp only [AV.ids,Qaf]; exact ⟨y,h,ho⟩
 | _=>simp only [AV.flat,bW] at h; subst h; exact fun o ho=>ho
theorem TrE.congr {ι':Inj} {x:AV} (h:∀o∈x.ids,ι' o=ι o):TrE M ι ι' x x :=
 ⟨fun _ h=>h,fun h=>h,fun j y hj=>⟨y,hj,fun v hv=>hv.congr (fun o ho=>h o (Q2k (aF hj) o ho)),fun v hv=>hv⟩⟩
theorem TrE.ref {ι':Inj} {o o' n:Nat} (h:∀p,ι o=some p->ι' o'=some p):TrE M ι ι' (.ref o 0 n) (.ref o' 0 n):=by
 refine ⟨fun w hw=>Qjr (f:=fun _=>some o') rfl hw,fun h=>(by cases h),fun c y' hc=>?_⟩
 cases c with
 | succ c=>simp [AV.flat] at hc
 | zero =>
  simp only [AV.flat,eO,aK] at hc
  subst hc
  refine ⟨_,rfl,fun v hv=>?_,fun v hv=>?_⟩
  ·obtain ⟨p,hp,hq⟩:=Qgh hv
   exact hq _ _ (h p hp)
  obtain ⟨p,hp,_⟩:=Qgh hv
  cases hp
theorem Sim.adopt (h:Sim P B W0 D0 dl M ι st a W) {o j m n w:Nat} {fl:Bool} {cells l:List AV} {xs xs':List (List AV)} {live:List Nat}
  (ho:st.objs[o]?=some (.row false false false false 1 cells)) (hj:st.objs[j]?=some (.fam w fl xs)) (hm:st.objs[m]?=some (.row false false true fl w l))
  (hlen:xs'.length=cells.length) (hn:cells[n]?=some (.ref m 0 l.length)) (hxn:xs'[n]?=some l)
  (hoth:∀(i:Nat) (c:AV),i≠n->cells[i]?=some c->∃l',xs'[i]?=some l'/\xs[i]?=some l'/\c=.ref (fid j i) 0 l'.length)
  (hsafe:J9 m j o 0 st.objs=true) (hbm:base<=m) (hbj:base<=j) :
  ∃ι',Inj.leB base ι ι'/\Sim P B W0 D0 dl M ι' ⟨V1 m st.slots live,((st.objs.set o (.refs j xs')).set j (.fam w fl xs')).set m .dead,st.nt⟩ a W:=by
 classical
 have hob:=h.lt ho
 have hjb:=h.lt hj
 have hmb:=h.lt hm
 have hoj:o≠j:=fun e=>by subst e; rw [ho] at hj; cases hj
 have hom:o≠m:=fun e=>by subst e; rw [ho] at hm; cases hm
 have hjm:j≠m:=fun e=>by subst e; rw [hj] at hm; cases hm
 have hol:=(aD.1 ho).1
 have hjl:=(aD.1 hj).1
 have hml:=(aD.1 hm).1
 have hfm:fid j n≠m:=fun e=>by have:=Zj j n; omega
 generalize hobjs:((st.objs.set o (.refs j xs')).set j (.fam w fl xs')).set m .dead=objs'
 have gO:objs'[o]?=some (.refs j xs'):=by rw [<-hobjs,cE hom.symm,cE hoj.symm,cD hol]
 have gJ:objs'[j]?=some (.fam w fl xs'):=by rw [<-hobjs,cE hjm.symm,cD (by simpa using hjl)]
 have gM:objs'[m]?=some .dead:=by rw [<-hobjs,cD (by simpa using hml)]
 have gE:∀k:Nat,k≠o->k≠j->k≠m->objs'[k]?=st.objs[k]?:=fun k h1 h2 h3=>by
  rw [<-hobjs,cE h3.symm,cE h2.symm,cE h1.symm]
 have gL:objs'.length=st.objs.length:=by rw [<-hobjs]; simp
 let g:Nat -> Option Nat := fun k=>if k=fid j n then some m else if k=m then none else some k
 have g1:g (fid j n)=some m:=aH rfl
 have g2:∀k,k≠fid j n->k≠m->g k=some k:=fun k e1 e2=>by simp only [g,e1,e2,eK]
 let ι':Inj:=fun k=>(g k).bind ι
 have i1:ι' (fid j n)=ι m:=by simp only [ι',g1,aC]
 have i2:∀k,k≠fid j n->k≠m->ι' k=ι k:=fun k e1 e2=>by simp only [ι',g2 k e1 e2,aC]
 have isafe:∀ids,Qbw m ids=true->∀k∈ids,ι' k=ι k:=fun ids hs k hk=>by
  obtain ⟨c1,c2⟩:=Qf8 hs k hk
  exact i2 k (fun e=>by have:=Zj j n; omega) c2
 have hobj:∀k x',sto objs' k=some x'->x'≠.dead->∃q x,g k=some q/\sto st.objs q=some x/\TrO M ι ι' x x':=by
  intro k x' hk hd
  rcases Jr objs' k with ⟨c,e⟩ | ⟨c,⟨q,i,w',fl',ys,z,rfl,e2,e3,e4⟩ | e⟩
  ·rw [e] at hk
   have hkf:k≠fid j n:=fun e=>by have:=Zj j n; omega
   by_cases ko:k=o
   ·subst ko
    rw [gO] at hk; cases hk
    refine ⟨k,_,g2 k hkf hom,Qha hob ho rfl,.row _ _ _ _ _ _ _ (by simp [Zc,hlen]) (fun e=>by cases e) (fun i c c' h1 h2=>?_)⟩
    rw [Xj] at h2
    by_cases ein:i=n
    ·subst ein
     rw [hn] at h1; cases h1
     rw [hxn] at h2
     simp only [bM,dS,aK] at h2
     subst h2
     exact .ref fun p hp=>by rw [i1]; exact hp
    obtain ⟨l',e1,_,rfl⟩:=hoth i c ein h1
    rw [e1] at h2
    simp only [bM,dS,aK] at h2
    subst h2
    exact .ref fun p hp=>by rw [i2 _ (fun e=>ein (Yr e).2) (fun e=>by have:=Zj j i; omega)]; exact hp
   by_cases kj:k=j
   ·subst kj; rw [gJ] at hk; cases hk; exact absurd rfl hd
   by_cases km:k=m
   ·subst km; rw [gM] at hk; cases hk; exact absurd rfl hd
   rw [gE k ko kj km] at hk
   cases hx:st.objs[k]? with
   | none=>rw [hx] at hk; cases hk
   | some x =>
    rw [hx] at hk
    simp only [bM,aK] at hk
    subst hk
    have hs:=Qdo hsafe k x hx (by omega)
    have hst:sto st.objs k=some x.plain:=by rw [Zb c,hx]; rfl
    refine ⟨k,_,g2 k hkf km,hst,?_⟩
    cases x with
    | dead=>exact absurd rfl hd
    | fam _ _ _=>exact absurd rfl hd
    | row bx ro nr fl0 w0 ys =>
     simp only [AObj.safe,aM] at hs
     rcases hs with hs | hs
     ·obtain ⟨_,_,hro⟩:=h.rel.row k _ _ _ _ _ _ hst
      exact .sameRow (hro.nr hs)
     exact .row _ _ _ _ _ _ _ rfl (fun _ e=>e) (fun i y y' h1 h2=>by
      rw [h1] at h2; cases h2
      exact TrE.congr fun o ho=>isafe _ hs o (Qaf.2 ⟨y,aF h1,ho⟩))
    | loop nt sl ps as bd s pe =>
     simp only [AObj.safe] at hs
     refine .loop _ _ _ _ _ _ _ _ (fun t y hy=>⟨y,hy,fun v hv=>hv.congr fun o ho=>isafe _ hs o (Qaf.2 ⟨y,?_,ho⟩)⟩)
     have:∀(s:List (Nat × AV)),lk s t=some y->y∈s.map (·.2):=fun s=>by
      induction s with
      | nil=>intro e; cases e
      | cons q r ih =>
       intro e
       obtain ⟨k0,v0⟩:=q
       simp only [lk] at e
       split at e
       ·cases e; simp
       simp [ih e]
     exact this sl hy
    | refs j' ys =>
     simp only [AObj.safe,bI] at hs
     have hjj:j'≠j:=fun e=>by rw [e,eD] at hs; cases hs
     refine .row _ _ _ _ _ _ _ rfl (fun _ e=>e) (fun i y y' h1 h2=>?_)
     rw [h1] at h2; cases h2
     rw [Xj] at h1
     cases hl:ys[i]? with
     | none=>rw [hl] at h1; cases h1
     | some l0 =>
      rw [hl] at h1
      simp only [bM,dS,aK] at h1
      subst h1
      exact .ref fun p hp=>by rw [i2 _ (fun e=>hjj (Yr e).1) (fun e=>by have:=Zj j' i; omega)]; exact hp
  ·rw [e4] at hk; cases hk
   have hfk:fid q i≠m:=fun e=>by have:=Zj q i; omega
   by_cases qj:q=j
   ·subst qj
    rw [gJ] at e2; cases e2
    by_cases ein:i=n
    ·subst ein
     rw [hxn] at e3; cases e3
     have hst:=Qha hmb hm rfl
     obtain ⟨_,_,hro⟩:=h.rel.row m _ _ _ _ _ _ hst
     exact ⟨m,_,g1,hst,.sameRow (hro.nr rfl)⟩
    have hil:i < cells.length:=by rw [<-hlen]; exact (aD.1 e3).1
    obtain ⟨l',e1,e5,_⟩:=hoth i _ ein (aG hil)
    rw [e1] at e3; cases e3
    have hst:=Zy hj e5
    obtain ⟨_,_,hro⟩:=h.rel.row _ _ _ _ _ _ _ hst
    exact ⟨_,_,g2 _ (fun e=>ein (Yr e).2) hfk,hst,.sameRow (hro.nr rfl)⟩
   have qo:q≠o:=fun e=>by subst e; rw [gO] at e2; cases e2
   have qm:q≠m:=fun e=>by subst e; rw [gM] at e2; cases e2
   rw [gE q qo qj qm] at e2
   have hst:=Zy e2 e3
   obtain ⟨_,_,hro⟩:=h.rel.row _ _ _ _ _ _ _ hst
   exact ⟨_,_,g2 _ (fun e=>qj (Yr e).1) hfk,hst,.sameRow (hro.nr rfl)⟩
  rw [e] at hk; cases hk
 have hrel:Rel P B W0 (dl++D0) M ι' (sto objs') W:=by
  refine h.rel.via g (fun k k' q e1 e2=>?_) (fun k q e=>by simp only [ι',e,aC]) hobj (fun k hk=>?_)
  ·by_cases c1:k=fid j n
   ·by_cases c2:k'=fid j n
    ·rw [c1,c2]
    by_cases c3:k'=m
    ·simp only [g,c3,Ne.symm hfm,eK,eM] at e2; cases e2
    rw [g2 k' c2 c3] at e2; cases e2; rw [c1,g1] at e1; cases e1; exact absurd rfl c3
   by_cases c3:k=m
   ·simp only [g,c3,Ne.symm hfm,eK,eM] at e1; cases e1
   rw [g2 k c1 c3] at e1; cases e1
   by_cases c2:k'=fid j n
   ·rw [c2,g1] at e2; cases e2; exact absurd rfl c3
   by_cases c4:k'=m
   ·simp only [g,c4,Ne.symm hfm,eK,eM] at e2; cases e2
   rw [g2 k' c2 c4] at e2; cases e2; rfl
  cases hx:sto objs' k with
  | none=>exact .inl rfl
  | some x' =>
   right
   by_cases hd:x'=.dead
   ·rw [hd]
   obtain ⟨q,x,e1,e2,e3⟩:=hobj k x' hx hd
   have:ι q=none:=by simpa only [ι',e1,aC] using hk
   rcases h.rel.used q this with e | e
   ·rw [e2] at e; cases e
   rw [e2] at e; cases e; exact absurd rfl e3.alive
 refine ⟨ι',fun k p hk hp=>?_,⟨hrel,fun t y hy=>?_,h.nt,h.df,fun k hk=>?_,by show objs'.length<=BIG; rw [gL]; exact h.big⟩⟩
 ·have h1:k≠m:=by
   rcases hk with hk | ⟨q,i,hq,rfl⟩
   ·omega
   ·have:=Zj q i; omega
  have h2:k≠fid j n:=by
   rcases hk with hk | ⟨q,i,hq,rfl⟩
   ·intro e
    have:=Zj j n; omega
   ·intro e; have:=(Yr e).1; omega
  rw [i2 k h2 h1]; exact hp
 ·obtain ⟨q1,q2⟩:=Qbd hy
  exact (h.slots t y q1).congr fun o ho=>isafe _ q2 o ho
 ·have hk:¬ InB objs'.length k:=hk
  rw [gL] at hk
  by_cases c1:k=fid j n
  ·exact absurd (.inr ⟨j,n,hjl,c1⟩) hk
  ·by_cases c2:k=m
   ·exact absurd (.inl (by omega)) hk
   ·rw [i2 k c1 c2]; exact h.new k hk
abbrev eF {γ:Type} (enc:γ->AV) (ls:List (List γ)):List (List AV):=ls.map fun l=>l.map enc
theorem Qo1 {γ:Type} (enc:γ->AV) (ls:List (List γ)) (n:Nat) (b:List γ):eF enc (ls.set n b)=(eF enc ls).set n (b.map enc):=by simp [eF,List.map_set]
theorem wk_adopt (o j m:Nat) {γ:Type} {enc:γ->AV} {ls:List (List γ)} {x b:List γ} {n:Int} {w:Nat} {fl:Bool} (live:List Nat)
  (ho:st.objs[o]?=some (.row false false false false 1 ((Qy j 0 (eF enc ls)).set n.toNat (.ref m 0 b.length)))) (hj:st.objs[j]?=some (.fam w fl (eF enc ls))) (hm:st.objs[m]?=some (.row false false true fl w (b.map enc)))
  (hx:lkI ls n=some x) (hc:(J9 m j o 0 st.objs && Nat.ble base m && Nat.ble base j)=true)
  (hS:(⟨V1 m st.slots live,((st.objs.set o (.refs j (eF enc (ls.set n.toNat b)))).set j (.fam w fl (eF enc (ls.set n.toNat b)))).set m .dead,st.nt⟩:St)=st'):Wk P base st st':=by
 subst hS
 simp only [aE] at hc
 intro B W0 D0 dl M ι a W h
 obtain ⟨_,h2,_⟩:=Zo hx
 obtain ⟨ι',g1,g2⟩:=h.adopt (base:=base) (n:=n.toNat) (xs':=eF enc (ls.set n.toNat b)) (live:=live) ho hj hm (by simp [Zc]) (by rw [cD (by simpa [Zc] using h2)]; simp) (by simp [eF,h2])
  (fun i c hi hcc=>by
   rw [cE (Ne.symm hi),Xj] at hcc
   cases hl:(eF enc ls)[i]? with
   | none=>rw [hl] at hcc; cases hcc
   | some l' =>
    rw [hl] at hcc
    simp only [bM,dS,aK] at hcc
    exact ⟨l',by rw [Qo1,cE (Ne.symm hi)]; exact hl,rfl,hcc.symm⟩) hc.1.1 (bP hc.1.2) (bP hc.2)
 exact ⟨M,ι',.refl _ _,g1,g2⟩
theorem wk_adoptA (o j m:Nat) {γ:Type} {enc:γ->AV} {ls:List (List γ)} {b:List γ} {w:Nat} {fl:Bool} (live:List Nat)
  (ho:st.objs[o]?=some (.row false false false false 1 (Qy j 0 (eF enc ls)++[.ref m 0 b.length]))) (hj:st.objs[j]?=some (.fam w fl (eF enc ls))) (hm:st.objs[m]?=some (.row false false true fl w (b.map enc)))
  (hc:(J9 m j o 0 st.objs && Nat.ble base m && Nat.ble base j)=true)
  (hS:(⟨V1 m st.slots live,((st.objs.set o (.refs j (eF enc (ls++[b])))).set j (.fam w fl (eF enc (ls++[b])))).set m .dead,st.nt⟩:St)=st'):Wk P base st st':=by
 subst hS
 simp only [aE] at hc
 intro B W0 D0 dl M ι a W h
 have hfl:(Qy j 0 (eF enc ls)).length=ls.length:=by simp [Zc,eF]
 obtain ⟨ι',g1,g2⟩:=h.adopt (base:=base) (n:=ls.length) (xs':=eF enc (ls++[b])) (live:=live) ho hj hm (by simp [Zc]) (by rw [aY (by omega),hfl]; simp) (by simp [eF])
  (fun i c hi hcc=>by
   have hil:i < ls.length:=by
    have:=(aD.1 hcc).1
    simp [Zc,eF] at this; omega
   rw [aX (by omega),Xj] at hcc
   have hl:(eF enc ls)[i]?=some (ls[i].map enc):=by simp [eF,hil]
   rw [hl] at hcc
   simp only [bM,dS,aK] at hcc
   exact ⟨_,by simp [eF,aX,hil],hl,hcc.symm⟩) hc.1.1 (bP hc.1.2) (bP hc.2)
 exact ⟨M,ι',.refl _ _,g1,g2⟩
theorem Qsa {σ:Sto} {all:List Nat}:∀(os:List Nat),(∀o∈os,∃bx ro fl w xs,σ o=some (.row bx ro true fl w xs))->∃es,Qay σ all os=some es
 | [],_=>⟨[],rfl⟩
 | o::os,h=>by
  obtain ⟨es,he⟩:=Qsa (all:=all) os (fun k hk=>h k (by simp [hk]))
  obtain ⟨bx,ro,fl,w,xs,ho⟩:=h o (by simp)
  exact ⟨(o,.row bx true true fl w xs)::es,by simp [Qay,ho,he]⟩
theorem Q3r (o j:Nat) {γ:Type} {enc:γ->AV} {ls:List (List γ)} {w:Nat} {fl:Bool} (ho:st.objs[o]?=some (.refs j (eF enc ls))) (hj:st.objs[j]?=some (.fam w fl (eF enc ls)))
  (hS:(⟨st.slots,(st.objs.set o (.row false false true false 1 (ls.map fun l=>eL fl enc l))).set j .dead,st.nt⟩:St)=st'):Wk P base st st':=by
 subst hS
 intro B W0 D0 dl M ι a W h
 have hob:=h.lt ho
 have hjb:=h.lt hj
 have hoj:o≠j:=fun e=>by subst e; rw [ho] at hj; cases hj
 have hol:=(aD.1 ho).1
 have hjl:=(aD.1 hj).1
 let ids:=(List.range ls.length).map (fid j)
 have hin:∀i l,(eF enc ls)[i]?=some l->sto st.objs (fid j i)=some (.row false false true fl w l):=fun i l hi=>Zy hj hi
 obtain ⟨es,hes⟩:=Qsa (σ:=sto st.objs) (all:=ids) ids (fun k hk=>by
  simp only [ids,cG,cR] at hk
  obtain ⟨i,hi,rfl⟩:=hk
  exact ⟨false,false,fl,w,_,hin i (ls[i].map enc) (by simp [eF,hi])⟩)
 have r1:=Qbm h.rel (ids:=ids) hes
 have hg:=h.rel.growC ids
 have hnid:∀k,k < BIG->k ∉ ids:=fun k hk hm=>by
  simp only [ids,cG,cR] at hm
  obtain ⟨i,_,rfl⟩:=hm
  have:=Zj j i; omega
 have hos0:sto st.objs o=some (.row false false false false 1 (Qy j 0 (eF enc ls))):=by rw [Zb hob,ho]; rfl
 have hos:(sto st.objs).puts es o=some (.row false false false false 1 (Qy j 0 (eF enc ls))):=by rw [Qbg hes (hnid o hob)]; exact hos0
 have r2:=r1.row1 (bx':=false) (nr':=true) (fl':=false) (xs':=ls.map fun l=>eL fl enc l) hos (by simp [Zc,eF]) (fun x hx=>by
   simp only [cG] at hx
   obtain ⟨l,_,rfl⟩:=hx
   exact ⟨.inr rfl,rfl,fun z hz=>by simp [AV.flat] at hz; subst hz; rfl⟩) (fun _=>Qz.2 fun x hx=>by
   simp only [cG] at hx
   obtain ⟨l,_,rfl⟩:=hx
   rfl) (by simp)
  (fun i c x' y' hi hc=>by
   simp only [bF,aS] at hi
   obtain ⟨l,hl,rfl⟩:=hi
   have hle:(eF enc ls)[i]?=some (l.map enc):=by simp [eF,hl]
   cases c with
   | succ c=>simp [AV.flat] at hc
   | zero =>
    simp only [AV.flat,eO,aK] at hc
    subst hc
    refine ⟨.ref (fid j i) 0 (l.map enc).length,.ref (fid j i) 0 (l.map enc).length,by rw [Xj,hle]; simp,rfl,fun v hv=>?_⟩
    have hv0:Qa M ι v (.ref (fid j i) 0 (l.map enc).length):=by
     obtain ⟨p,hp,_⟩:=Qgh hv
     generalize (l.map enc).length=q at *
     cases hv with
     | ref0 _ _ p hp hc=>exact .ref0 _ _ p hp hc
     | ref _ _ _ p off cap hp h1 h2 h3=>exact .ref _ _ _ p off cap hp h1 h2 h3
    have hsn:Qo (sto st.objs) Qk (.ref (fid j i) 0 (l.map enc).length)=some (.lst fl (l.map enc),[fid j i]):=by
     show Qo (sto st.objs) (Qk - 1+1) _=_
     simp only [Qo,hin i _ hle]
     simp [List.take_of_length_le]
    have:=Yz h.rel ids Qk _ _ _ v hsn (fun k hk=>by
     simp at hk; subst hk
     simp only [ids,cG,cR]
     exact ⟨i,(aD.1 hl).1,rfl⟩) hv0
    exact this.mono (CM.le_refl _) (Inj.noInj_le _))
 have key:∀k,sto ((st.objs.set o (.row false false true false 1 (ls.map fun l=>eL fl enc l))).set j .dead) k=((sto st.objs).puts es).put o (.row false false true false 1 (ls.map fun l=>eL fl enc l)) k \/
   sto ((st.objs.set o (.row false false true false 1 (ls.map fun l=>eL fl enc l))).set j .dead) k=none\/sto ((st.objs.set o (.row false false true false 1 (ls.map fun l=>eL fl enc l))).set j .dead) k=some .dead:=by
  intro k
  rcases bB k BIG with c | c
  ·rw [Zb c]
   by_cases ko:k=o
   ·subst ko; left; rw [Sto.put_same,cE hoj.symm,cD hol]; rfl
   ·by_cases kj:k=j
    ·subst kj; right; right; rw [cD (by simpa using hjl)]; rfl
    ·left; rw [Sto.put_ne _ _ ko,Qbg hes (hnid k c),cE (Ne.symm kj),cE (Ne.symm ko),Zb c]
  ·rcases Jr ((st.objs.set o (.row false false true false 1 (ls.map fun l=>eL fl enc l))).set j .dead) k with ⟨c',_⟩ | ⟨_,⟨q,i,w',fl',ys,z,rfl,e2,e3,e4⟩ | e⟩
   ·omega
   ·left
    have qj:q≠j:=fun e=>by subst e; rw [cD (by simpa using hjl)] at e2; cases e2
    have qo:q≠o:=fun e=>by subst e; rw [cE (Ne.symm qj),cD hol] at e2; cases e2
    rw [cE (Ne.symm qj),cE (Ne.symm qo)] at e2
    rw [e4,Sto.put_ne _ _ (fun e=>by have:=Zj q i; omega),Qbg hes (fun hm=>by
     simp only [ids,cG,cR] at hm
     obtain ⟨i',_,e⟩:=hm
     exact qj (Yr e).1.symm),Zy e2 e3]
   ·exact .inr (.inl e)
 exact ⟨_,ι,hg,.refl _ _,⟨r2.forget key,h.slots.mono hg.le (Inj.le_refl _),h.nt,h.df,fun k hk=>h.new k (by simpa using hk),by simpa using h.big⟩⟩
theorem Q7j (h:st=st'):Wk P base st st':=by subst h; exact Qwo
def Qz4 (o:Nat) (st:St):Option St :=
 match st.objs[o]? with
 | some (.row ..)=>some ⟨st.slots,st.objs.set o .dead,st.nt⟩
 | _=>none
theorem wk_dead (o:Nat) (h:Qz4 o st=some st'):Wk P base st st':=by
 unfold Qz4 at h
 split at h
 ·rename_i bx ro nr fl w xs ho
  cases h
  intro B W0 D0 dl M ι a W hs
  refine ⟨M,ι,.refl _ _,.refl _ _,⟨?_,hs.slots,hs.nt,hs.df,fun k hk=>hs.new k (by simpa using hk),by simpa using hs.big⟩⟩
  refine hs.rel.forget (fun k=>?_)
  show sto (st.objs.set o .dead) k=_\/sto (st.objs.set o .dead) k=_\/sto (st.objs.set o .dead) k=_
  rw [Qdf ho rfl rfl (hs.lt ho)]
  by_cases e:k=o
  ·subst e; right; right; exact Sto.put_same _ _ _
  left; rw [Sto.put_ne _ _ e]
 cases h
theorem Sim.steal (h:Sim P B W0 D0 dl M ι st a W) {o j n w:Nat} {fl:Bool} {l:List AV} {xs:List (List AV)} {live:List Nat} (hw:0 < w) (hbig:st.objs.length < BIG)
  (ho:st.objs[o]?=some (.refs j xs)) (hj:st.objs[j]?=some (.fam w fl xs)) (hn:xs[n]?=some l) (hsafe:J9 st.objs.length j o 0 st.objs=true) (hbj:base<=j) (hbs:base<=st.objs.length) :
  ∃ι',Inj.leB base ι ι'/\Sim P B W0 D0 dl M ι' ⟨V1 st.objs.length st.slots live,(st.objs.set o (.row false false false false 1 ((Qy j 0 (xs.set n [])).set n (.ref st.objs.length 0 l.length)))).set j (.fam w fl (xs.set n []))++[.row false false true fl w l],st.nt⟩ a W:=by
 classical
 have hob:=h.lt ho
 have hjb:=h.lt hj
 have hoj:o≠j:=fun e=>by subst e; rw [ho] at hj; cases hj
 have hol:=(aD.1 ho).1
 have hjl:=(aD.1 hj).1
 have hnl:=(aD.1 hn).1
 generalize hmm:st.objs.length=m at *
 have hom:o≠m:=by omega
 have hjm:j≠m:=by omega
 have hfm:∀k i,fid k i≠m:=fun k i e=>by have:=Zj k i; omega
 generalize hobjs:(st.objs.set o (.row false false false false 1 ((Qy j 0 (xs.set n [])).set n (.ref m 0 l.length)))).set j (.fam w fl (xs.set n []))++[.row false false true fl w l]=objs'
 have gO:objs'[o]?=some (.row false false false false 1 ((Qy j 0 (xs.set n [])).set n (.ref m 0 l.length))):=by
  rw [<-hobjs,aX (by simp; omega),cE hoj.symm,cD (by omega)]
 have gJ:objs'[j]?=some (.fam w fl (xs.set n [])):=by
  rw [<-hobjs,aX (by simp; omega),cD (by simp; omega)]
 have gM:objs'[m]?=some (.row false false true fl w l):=by
  rw [<-hobjs,aY (by simp; omega)]; simp [hmm]
 have gE:∀k:Nat,k≠o->k≠j->k≠m->objs'[k]?=st.objs[k]?:=fun k h1 h2 h3=>by
  rcases bB k m with c | c
  ·rw [<-hobjs,aX (by simp; omega),cE h2.symm,cE h1.symm]
  rw [<-hobjs,dN (by simp; omega),dN (by omega)]
 have gL:objs'.length=m+1:=by rw [<-hobjs]; simp [hmm]
 have hιm:ι m=none:=h.new m (InB.not (by omega) hbig)
 let g:Nat -> Option Nat := fun k=>if k=m then some (fid j n) else if k=fid j n then none else some k
 have g1:g m=some (fid j n):=aH rfl
 have g2:∀k,k≠fid j n->k≠m->g k=some k:=fun k e1 e2=>by simp only [g,e1,e2,eK]
 have g3:g (fid j n)=none:=by simp only [g,hfm j n,eK,eM]
 let ι1:Inj:=fun k=>(g k).bind ι
 have i1:ι1 m=ι (fid j n):=by simp only [ι1,g1,aC]
 have i2:∀k,k≠fid j n->k≠m->ι1 k=ι k:=fun k e1 e2=>by simp only [ι1,g2 k e1 e2,aC]
 have i3:ι1 (fid j n)=none:=by simp only [ι1,g3,Option.bind_none]
 have isafe:∀ids,Qbw m ids=true->∀k∈ids,ι1 k=ι k:=fun ids hs k hk=>by
  obtain ⟨c1,c2⟩:=Qf8 hs k hk
  exact i2 k (fun e=>by have:=Zj j n; omega) c2
 let σ1:Sto:=fun k=>if k=fid j n then none else sto objs' k
 have hobj:∀k x',σ1 k=some x'->x'≠.dead->∃q x,g k=some q/\sto st.objs q=some x/\TrO M ι ι1 x x':=by
  intro k x' hk0 hd
  have hkf:k≠fid j n:=fun e=>by subst e; simp [σ1] at hk0
  have hk:sto objs' k=some x':=by simpa only [σ1,hkf,eK] using hk0
  rcases Jr objs' k with ⟨c,e⟩ | ⟨c,⟨q,i,w',fl',ys,z,rfl,e2,e3,e4⟩ | e⟩
  ·rw [e] at hk
   by_cases ko:k=o
   ·subst ko
    rw [gO] at hk; cases hk
    refine ⟨k,.row false false false false 1 (Qy j 0 xs),g2 k hkf hom,by rw [Zb hob,ho]; rfl,.row _ _ _ _ _ _ _ (by simp [Zc]) (fun e=>by cases e) (fun i c c' h1 h2=>?_)⟩
    rw [Xj] at h1
    by_cases ein:i=n
    ·subst ein
     rw [hn] at h1
     rw [cD (by simpa [Zc] using hnl)] at h2
     simp only [bM,dS,aK] at h1 h2
     subst h1; subst h2
     exact .ref fun p hp=>by rw [i1]; exact hp
    rw [cE (Ne.symm ein),Xj,cE (Ne.symm ein)] at h2
    rw [h1] at h2; cases h2
    cases hl:xs[i]? with
    | none=>rw [hl] at h1; cases h1
    | some l0 =>
     rw [hl] at h1
     simp only [bM,dS,aK] at h1
     subst h1
     exact .ref fun p hp=>by rw [i2 _ (fun e=>ein (Yr e).2) (hfm j i)]; exact hp
   by_cases kj:k=j
   ·subst kj; rw [gJ] at hk; cases hk; exact absurd rfl hd
   by_cases km:k=m
   ·subst km; rw [gM] at hk; cases hk
    have hst:=Zy hj hn
    obtain ⟨_,_,hro⟩:=h.rel.row _ _ _ _ _ _ _ hst
    exact ⟨_,_,g1,hst,.sameRow (hro.nr rfl)⟩
   rw [gE k ko kj km] at hk
   cases hx:st.objs[k]? with
   | none=>rw [hx] at hk; cases hk
   | some x =>
    rw [hx] at hk
    simp only [bM,aK] at hk
    subst hk
    have hs:=Qdo hsafe k x hx (by omega)
    have hst:sto st.objs k=some x.plain:=by rw [Zb c,hx]; rfl
    refine ⟨k,_,g2 k hkf km,hst,?_⟩
    cases x with
    | dead=>exact absurd rfl hd
    | fam _ _ _=>exact absurd rfl hd
    | row bx ro nr fl0 w0 ys =>
     simp only [AObj.safe,aM] at hs
     rcases hs with hs | hs
     ·obtain ⟨_,_,hro⟩:=h.rel.row k _ _ _ _ _ _ hst
      exact .sameRow (hro.nr hs)
     exact .row _ _ _ _ _ _ _ rfl (fun _ e=>e) (fun i y y' h1 h2=>by
      rw [h1] at h2; cases h2
      exact TrE.congr fun o ho=>isafe _ hs o (Qaf.2 ⟨y,aF h1,ho⟩))
    | loop nt sl ps as bd s pe =>
     simp only [AObj.safe] at hs
     refine .loop _ _ _ _ _ _ _ _ (fun t y hy=>⟨y,hy,fun v hv=>hv.congr fun o ho=>isafe _ hs o (Qaf.2 ⟨y,?_,ho⟩)⟩)
     have:∀(s:List (Nat × AV)),lk s t=some y->y∈s.map (·.2):=fun s=>by
      induction s with
      | nil=>intro e; cases e
      | cons q r ih =>
       intro e
       obtain ⟨k0,v0⟩:=q
       simp only [lk] at e
       split at e
       ·cases e; simp
       simp [ih e]
     exact this sl hy
    | refs j' ys =>
     simp only [AObj.safe,bI] at hs
     have hjj:j'≠j:=fun e=>by rw [e,eD] at hs; cases hs
     refine .row _ _ _ _ _ _ _ rfl (fun _ e=>e) (fun i y y' h1 h2=>?_)
     rw [h1] at h2; cases h2
     rw [Xj] at h1
     cases hl:ys[i]? with
     | none=>rw [hl] at h1; cases h1
     | some l0 =>
      rw [hl] at h1
      simp only [bM,dS,aK] at h1
      subst h1
      exact .ref fun p hp=>by rw [i2 _ (fun e=>hjj (Yr e).1) (hfm j' i)]; exact hp
  ·rw [e4] at hk; cases hk
   by_cases qj:q=j
   ·subst qj
    rw [gJ] at e2; cases e2
    have ein:i≠n:=fun e=>hkf (by rw [e])
    rw [cE (Ne.symm ein)] at e3
    have hst:=Zy hj e3
    obtain ⟨_,_,hro⟩:=h.rel.row _ _ _ _ _ _ _ hst
    exact ⟨_,_,g2 _ hkf (hfm q i),hst,.sameRow (hro.nr rfl)⟩
   have qo:q≠o:=fun e=>by subst e; rw [gO] at e2; cases e2
   have qm:q≠m:=fun e=>by subst e; rw [gM] at e2; cases e2
   rw [gE q qo qj qm] at e2
   have hst:=Zy e2 e3
   obtain ⟨_,_,hro⟩:=h.rel.row _ _ _ _ _ _ _ hst
   exact ⟨_,_,g2 _ hkf (hfm q i),hst,.sameRow (hro.nr rfl)⟩
  rw [e] at hk; cases hk
 have hrel1:Rel P B W0 (dl++D0) M ι1 σ1 W:=by
  refine h.rel.via g (fun k k' q e1 e2=>?_) (fun k q e=>by simp only [ι1,e,aC]) hobj (fun k hk=>?_)
  ·have gs:∀k q,g k=some q->(k=m/\q=fid j n)\/(k≠m/\k≠fid j n/\q=k):=fun k q e=>by
    by_cases c1:k=m
    ·rw [c1,g1] at e; cases e; exact .inl ⟨c1,rfl⟩
    by_cases c2:k=fid j n
    ·rw [c2,g3] at e; cases e
    rw [g2 k c2 c1] at e; cases e; exact .inr ⟨c1,c2,rfl⟩
   rcases gs k q e1 with ⟨a1,a2⟩ | ⟨a1,a2,a3⟩
   ·rcases gs k' q e2 with ⟨b1,b2⟩ | ⟨b1,b2,b3⟩
    ·rw [a1,b1]
    exact absurd (b3.symm.trans a2) b2
   rcases gs k' q e2 with ⟨b1,b2⟩ | ⟨b1,b2,b3⟩
   ·exact absurd (a3.symm.trans b2) a2
   rw [<-a3,<-b3]
  cases hx:σ1 k with
  | none=>exact .inl rfl
  | some x' =>
   right
   by_cases hd:x'=.dead
   ·rw [hd]
   obtain ⟨q,x,e1,e2,e3⟩:=hobj k x' hx hd
   have:ι q=none:=by simpa only [ι1,e1,aC] using hk
   rcases h.rel.used q this with e | e
   ·rw [e2] at e; cases e
   rw [e2] at e; cases e; exact absurd rfl e3.alive
 have hrel2:=hrel1.virts (fun k=>k=fid j n) w fl hw (fun k e=>by rw [e]; exact i3)
 have hσ:(fun k=>if k=fid j n then some (AObj.row false false true fl w []) else σ1 k)=sto objs':=by
  funext k
  by_cases e:k=fid j n
  ·subst e
   simp only [eM]
   rw [Zy gJ (i:=n) (cD hnl)]
  simp only [e,eK,σ1]
 rw [hσ] at hrel2
 refine ⟨_,fun k p hk hp=>?_,⟨hrel2,fun t y hy=>?_,h.nt,h.df,fun k hk=>?_,by show objs'.length<=BIG; omega⟩⟩
 ·have h1:k≠m:=fun e=>by rw [e,hιm] at hp; cases hp
  have h2:k≠fid j n:=by
   rcases hk with hk | ⟨q,i,hq,rfl⟩
   ·intro e
    have:=Zj j n; omega
   intro e; have:=(Yr e).1; omega
  simp only [h2,eK]
  rw [i2 k h2 h1]; exact hp
 ·obtain ⟨q1,q2⟩:=Qbd hy
  refine (h.slots t y q1).congr fun o ho=>?_
  have h2:o≠fid j n:=fun e=>by have:=(Qf8 q2 o ho).1; have:=Zj j n; omega
  simp only [h2,eK]
  exact isafe _ q2 o ho
 ·have hk:¬ InB objs'.length k:=hk
  rw [gL] at hk
  have h2:k≠fid j n:=fun e=>hk (.inr ⟨j,n,by omega,e⟩)
  have h1:k≠m:=fun e=>hk (.inl (by omega))
  simp only [h2,eK]
  rw [i2 k h2 h1]; exact h.new k (fun c=>hk (c.mono (by omega)))
theorem Q18 (o j:Nat) {γ:Type} {enc:γ->AV} {ls:List (List γ)} {x:List γ} {n:Int} {w:Nat} {fl:Bool} (live:List Nat)
  (ho:st.objs[o]?=some (.refs j (eF enc ls))) (hj:st.objs[j]?=some (.fam w fl (eF enc ls))) (hx:lkI ls n=some x)
  (hc:(J9 st.objs.length j o 0 st.objs && Nat.ble base j && Nat.ble base st.objs.length && Nat.blt 0 w && Nat.blt st.objs.length BIG)=true)
  (hS:(⟨V1 st.objs.length st.slots live,(st.objs.set o (.row false false false false 1 ((Qy j 0 (eF enc (ls.set n.toNat []))).set n.toNat (.ref st.objs.length 0 x.length)))).set j (.fam w fl (eF enc (ls.set n.toNat [])))++[.row false false true fl w (x.map enc)],st.nt⟩:St)=st'):Wk P base st st':=by
 subst hS
 simp only [aE] at hc
 intro B W0 D0 dl M ι a W h
 obtain ⟨_,h2,h3⟩:=Zo hx
 obtain ⟨ι',g1,g2⟩:=h.steal (base:=base) (n:=n.toNat) (l:=x.map enc) (live:=live) (Xc hc.1.2) (Xc hc.2) ho hj (by simp [eF,h3]) hc.1.1.1.1 (bP hc.1.1.1.2) (bP hc.1.1.2)
 rw [bZ,show (eF enc ls).set n.toNat []=eF enc (ls.set n.toNat []) by rw [Qo1]; rfl] at g2
 exact ⟨M,ι',.refl _ _,g1,g2⟩
variable {rd:Option Nat} {ops:Array Oper} {S:St} {o:Oper} {out:AOut} {Φ:AOut->Prop} {d:Option (List Sk)} {i:Nat}
theorem Q0c {v:Option AV} {rds:List Nat} {s:Sk} (ho:Z5 ops i st=some o) (he:Zd P false noC st.sto st.objs.length (lk st.slots) o=some (.val ⟨v,[],st.objs.length,rds⟩))
  (hS:Ze ops i st v []=some S) (hc:∀e∈rds,∃c∈s.2,Qlx c e) (k:RW P rd base ops (Qt d [s]) (i+1) S Φ):RW P rd base ops d i st Φ:=by
 obtain ⟨h1,h2⟩:=K5 ho
 have hl:=Z6 hS
 unfold Ze at hS
 rw [h1] at hS
 simp only at hS
 split at hS
 ·rename_i objs slots ha hp
  cases hS
  exact Qdh ⟨o,_,h1,Qkv noC_sound h2 he ha hp hl,⟨fun e he=>(by cases he),hc⟩⟩ k
 ·cases hS
theorem Qya {ob cl len:Nat} {ro nr fl:Bool} {w:Nat} {cells:List AV} {n:Int} (hi:Qbu P ops i st=some (.ref ob 0 len,n,w)) (hrow:st.sto ob=some (.row false ro nr fl w cells)) (h1:0<=n) (h2:n.toNat < len) (hcl:Qlx cl ob)
  (hS:Ze ops i st (some (.ptr ob n.toNat 0)) []=some S) (k:RW P rd base ops (Qt d [([],[cl])]) (i+1) S Φ):RW P rd base ops d i st Φ:=by
 obtain ⟨o,t,x,ix,kk,T,e,E,ho,hop,hT,hk,hE,rfl,hx,hix⟩:=Qgv hi
 refine Q0c (v:=some (.ptr ob n.toNat 0)) (rds:=[ob]) ho ?_ hS (fun e he=>⟨cl,by simp,by simp at he; subst he; exact hcl⟩) k
 have hneg:¬ n < 0:=by omega
 unfold Zd
 rw [hop]
 simp only [Zm,aU,eK]
 unfold evalOp
 rw [hop]
 simp only [hT,hx,hix,hk,asN,hneg,eK,hE,hrow,blt_true h2,dY,decide_true,eM,Zg,dS]
theorem Qg9 {γ:Type} {enc:γ->AV} {ls:List (List γ)} {x:List γ} {n:Int} {ob j:Nat} (hi:Qbu P ops i st=some (.ref ob 0 ls.length,n,1)) (hrow:st.sto ob=some (.row false false false false 1 (Qy j 0 (eF enc ls))))
  (ha:lkI ls n=some x) (hS:Ze ops i st (some (.ptr ob n.toNat 0)) []=some S) (k:RW P rd base ops (Qt d [([],[ob])]) (i+1) S Φ):RW P rd base ops d i st Φ:=by
 obtain ⟨h1,h2,_⟩:=Zo ha
 exact Qya hi hrow h1 h2 (.inl rfl) hS k
theorem Qq5 {γ:Type} {enc:γ->AV} {ls:List (List γ)} {x:List γ} {n:Int} {w j:Nat} {fl:Bool} (hj:st.objs[j]?=some (.fam w fl (eF enc ls))) (ha:lkI ls n=some x):st.sto (fid j n.toNat)=some (.row false false true fl w (x.map enc)):=by
 obtain ⟨_,_,h3⟩:=Zo ha
 exact Zy hj (by simp [eF,h3])
theorem Qqd {γ:Type} {enc:γ->AV} {ls:List (List γ)} {x:List γ} {y:γ} {n c:Int} {w j:Nat} {fl:Bool} (hi:Qbu P ops i st=some (.ref (fid j n.toNat) 0 x.length,c,w)) (hj:st.objs[j]?=some (.fam w fl (eF enc ls)))
  (ha:lkI ls n=some x) (hy:lkI x c=some y) (hb:Nat.blt j BIG=true) (hS:Ze ops i st (some (.ptr (fid j n.toNat) c.toNat 0)) []=some S) (k:RW P rd base ops (Qt d [([],[j])]) (i+1) S Φ):RW P rd base ops d i st Φ:=by
 obtain ⟨h1,h2,_⟩:=Zo hy
 exact Qya hi (Qq5 hj ha) h1 h2 (.inr ⟨Xc hb,_,rfl⟩) hS k
theorem Qsu {ob cl m c:Nat} {bx ro nr fl:Bool} {w:Nat} {cells:List AV} {y:AV} (hp:Ja ops i st=some (ob,m,c)) (hrow:st.sto ob=some (.row bx ro nr fl w cells)) (hy:cells[m]?=some y) (hcl:Qlx cl ob)
  (hS:Qe3 P ops i st c y=some S) (k:RW P rd base ops (Qt d [([],[cl])]) (i+1) S Φ):RW P rd base ops d i st Φ:=by
 unfold Qe3 at hS
 split at hS
 ·rename_i o ho
  split at hS
  ·rename_i t x hop
   split at hS
   ·rename_i T hT
    split at hS
    ·rename_i v hv
     have hx:evo (lk st.slots) x=some (.ptr ob m c):=by
      unfold Ja at hp
      rw [ho] at hp
      simp only [hop] at hp
      split at hp
      ·rename_i hx; cases hp; exact hx
      cases hp
     refine Q0c (v:=some v) (rds:=[ob]) ho ?_ hS (fun e he=>⟨cl,by simp,by simp at he; subst he; exact hcl⟩) k
     unfold Zd
     rw [hop]
     simp only [Zm,aU,eK]
     unfold evalOp
     rw [hop]
     simp only [hT,hx,hrow,hy,hv,bM,Zg]
    ·cases hS
   ·cases hS
  ·cases hS
 ·cases hS
theorem Qeo {γ:Type} {enc:γ->AV} {ls:List (List γ)} {x:List γ} {n:Int} {ob j:Nat} (hp:Ja ops i st=some (ob,n.toNat,0)) (hrow:st.sto ob=some (.row false false false false 1 (Qy j 0 (eF enc ls))))
  (ha:lkI ls n=some x) (hS:Qe3 P ops i st 0 (.ref (fid j n.toNat) 0 x.length)=some S) (k:RW P rd base ops (Qt d [([],[ob])]) (i+1) S Φ):RW P rd base ops d i st Φ:=by
 obtain ⟨h1,h2,h3⟩:=Zo ha
 exact Qsu hp hrow (by rw [Xj]; simp [eF,h3]) (.inl rfl) hS k
theorem Q20 {γ:Type} {enc:γ->AV} {ls:List (List γ)} {x:List γ} {y:γ} {n m:Int} {w j c:Nat} {fl:Bool} (hp:Ja ops i st=some (fid j n.toNat,m.toNat,c)) (hj:st.objs[j]?=some (.fam w fl (eF enc ls)))
  (ha:lkI ls n=some x) (hy:lkI x m=some y) (hb:Nat.blt j BIG=true) (hS:Qe3 P ops i st c (enc y)=some S) (k:RW P rd base ops (Qt d [([],[j])]) (i+1) S Φ):RW P rd base ops d i st Φ:=by
 obtain ⟨h1,h2,h3⟩:=Zo hy
 exact Qsu hp (Qq5 hj ha) (by simp [h3]) (.inr ⟨Xc hb,_,rfl⟩) hS k
theorem Q56 {γ:Type} {enc:γ->AV} {ls:List (List γ)} {x:List γ} {n:Int} {ob j m q:Nat} (hp:Ja ops i st=some (ob,n.toNat,0)) (hrow:st.sto ob=some (.row false false false false 1 (Qy j 0 (eF enc ls))))
  (ha:lkI ls n=some x) (hv:Qb9 P ops i st=some (.ref m 0 q)) (hS:Ze ops i st none [(ob,.row false false false false 1 ((Qy j 0 (eF enc ls)).set n.toNat (.ref m 0 q)))]=some S) (hl:Nat.beq S.objs.length st.objs.length=true)
  (k:RW P rd base ops (Qt d [([ob],[ob])]) (i+1) S Φ):RW P rd base ops d i st Φ:=by
 obtain ⟨h1,h2,h3⟩:=Zo ha
 obtain ⟨o,t,x0,y,T,ho,hop,hT,hx,hy,hc⟩:=Jo hp hv
 refine X8 (nf:=true) (fr:=st.objs.length) (rds:=[ob]) ho ?_ hS (aJ hl) k
 have hr:(Qy j 0 (eF enc ls))[n.toNat]?=some (.ref (fid j n.toNat) 0 x.length):=by rw [Xj]; simp [eF,h3]
 unfold Zd
 rw [hop]
 simp only [Zm,aU,eK]
 unfold evalOp
 rw [hop]
 have hput:Kw (.ref (fid j n.toNat) 0 x.length) 0 (.ref m 0 q)=some (.ref m 0 q):=by simp [Kw,AV.cell]
 simp only [hT,hx,hy,hrow,hr,hc,eM,Bool.or_true,Bool.true_or,hput,frz,Qay,List.contains_nil,aU,eK,cW,Zg,Bool.false_and]
theorem Q2h {objs:List AObj} {o j:Nat} {xs xs':List (List AV)} (ho:objs[o]?=some (.refs j xs)) (he:Qy j 0 xs'=Qy j 0 xs):sto (objs.set o (.refs j xs'))=sto objs:=by
 have hlt:=(aD.1 ho).1
 funext k
 rcases bB k BIG with c | c
 ·rw [Zb c,Zb c]
  by_cases e:k=o
  ·subst e; rw [ho,cD hlt]; simp only [bM,AObj.plain,he]
  rw [cE (Ne.symm e)]
 refine Qdm (fun q w fl ys=>?_) c
 by_cases e:q=o
 ·subst e; rw [ho,cD hlt]; simp
 rw [cE (Ne.symm e)]
theorem Qno (j:Nat):∀(i:Nat) (xs:List (List AV)) (n:Nat) (l:List AV),(∀y,xs[n]?=some y->y.length=l.length)->Qy j i (xs.set n l)=Qy j i xs
 | _,[],_,_,_=>rfl
 | i,y::ys,0,l,h=>by simp only [List.set_cons_zero,Qy,h y rfl]
 | i,y::ys,n+1,l,h=>by simp only [List.set_cons_succ,Qy]; rw [Qno j (i+1) ys n l (fun z hz=>h z (by simpa using hz))]
def Q3e (ops:Array Oper) (i j o:Nat) (st:St) (x y:AObj):Option St :=
 match ops[i]? with
 | some op=>match J6 st.slots st.nt op.dst none with
  | some slots=>some ⟨slots,(st.objs.set j x).set o y,st.nt⟩
  | none=>none
 | none=>none
theorem Qo0 {γ:Type} {enc:γ->AV} {ls:List (List γ)} {x:List γ} {y y':γ} {n m:Int} {w j q c:Nat} {fl:Bool} {v:AV} (hp:Ja ops i st=some (fid j n.toNat,m.toNat,c)) (hj:st.objs[j]?=some (.fam w fl (eF enc ls))) (hq:st.objs[q]?=some (.refs j (eF enc ls)))
  (ha:lkI ls n=some x) (hy:lkI x m=some y) (hb:Nat.blt j BIG=true) (hv:Qb9 P ops i st=some v) (hk:(v.nr && (v.scs || !fl))=true) (hput:Kw (enc y) c v=some (enc y'))
  (hS:Q3e ops i j q st (.fam w fl (eF enc (ls.set n.toNat (x.set m.toNat y')))) (.refs j (eF enc (ls.set n.toNat (x.set m.toNat y'))))=some S) (k:RW P rd base ops (Qt d [([j],[j])]) (i+1) S Φ):RW P rd base ops d i st Φ:=by
 obtain ⟨h1,h2,h3⟩:=Zo hy
 obtain ⟨g1,g2,g3⟩:=Zo ha
 obtain ⟨o,t,x0,y0,T,ho,hop,hT,hx,hyv,hc⟩:=Jo hp hv
 obtain ⟨q1,q2⟩:=K5 ho
 simp only [aE,aM,bI] at hk
 have hrow:=Qq5 (st:=st) hj ha
 have hfl:(fl && v.scs)=fl:=by
  rcases hk.2 with e | e
  ·simp [e]
  simp [e]
 have he:Zd P false noC st.sto st.objs.length (lk st.slots) o=some (.val ⟨none,[(fid j n.toNat,.row false false true fl w ((x.set m.toNat y').map enc))],st.objs.length,[fid j n.toNat]⟩):=by
  unfold Zd
  rw [hop]
  simp only [Zm,aU,eK]
  unfold evalOp
  rw [hop]
  simp only [hT,hx,hyv,hrow,bF,h3,bM,hc,eM,hk.1,Bool.or_true,hput,frz,Qay,List.contains_nil,aU,eK,cW,Zg,List.map_set,dY,hfl]
 unfold Q3e at hS
 rw [q1] at hS
 simp only at hS
 have hjq:q≠j:=fun e=>by subst e; rw [hj] at hq; cases hq
 split at hS
 ·rename_i slots hpd
  cases hS
  refine Qdh (s:=([j],[j])) (st1:=⟨slots,(st.objs.set j (.fam w fl (eF enc (ls.set n.toNat (x.set m.toNat y'))))).set q (.refs j (eF enc (ls.set n.toNat (x.set m.toNat y')))),st.nt⟩) ⟨o,⟨none,[(fid j n.toNat,.row false false true fl w ((x.set m.toNat y').map enc))],st.objs.length,st.objs.length,[fid j n.toNat]⟩,q1,⟨ylL_ev noC_sound q2 he,rfl,by simp,?_,by simp,fun hb=>by simpa using hb,fun e=>(by cases e),hpd,rfl⟩,⟨fun e he=>?_,fun e he=>?_⟩⟩ k
  ·show sto ((st.objs.set j _).set q _)=_
   rw [Q2h (xs:=eF enc ls) (by rw [cE hjq.symm]; exact hq),Qo1,Q4e hj (l:=x.map enc) (by simp [eF,g3])]
   ·rfl
   ·rw [Qo1]
    exact Qno _ _ _ _ _ (fun y hy=>by simp [eF,g3] at hy; subst hy; simp)
  ·simp at he; subst he; exact ⟨j,by simp,.inr ⟨Xc hb,_,rfl⟩⟩
  ·simp at he; subst he; exact ⟨j,by simp,.inr ⟨Xc hb,_,rfl⟩⟩
 ·cases hS
theorem Q2j {R:Type} {cells ys:List AV} {len w bytes ob z:Nat} {nr fl nr' fl':Bool} {b:AV} {rds:List Nat} {A:Option R} {r:R} (nf:Bool) (hi:Qdc P ops i st=some (.ref ob 0 len,b,w,bytes)) (hrow:st.sto ob=some (.row false false nr fl w cells))
  (hc:cells.length=len) (hz:len+ys.length=z) (hel:Xz st.sto w b=some (ys,nr',fl',rds)) (hn:(nr' || nf)=true)
  (hS:Ze ops i st (some (.ref st.objs.length 0 z)) [(ob,.dead),(st.objs.length,.row false false (nr && nr') (fl && fl') w (cells++ys))]=some S) (hl:Nat.beq S.objs.length (st.objs.length+1)=true)
  (h:(if z*bytes<=140737488355328 then A else none)=some r) (k:A=some r->RW P rd base ops (Qt d [([ob,st.objs.length],rds++[ob])]) (i+1) S Φ):RW P rd base ops d i st Φ:=by
 subst hc
 split at h
 ·rename_i hroom
  obtain ⟨o,E,ho,hm,rfl,rfl,hz0,hb0,hw0,hev⟩:=Qhf hi
  refine X8 (nf:=nf) ho (hev nf _ _ _ _ ⟨some (.ref st.objs.length 0 z),[(ob,.dead),(st.objs.length,.row false false (nr && nr') (fl && fl') E.size (cells++ys))],st.objs.length+1,[ob]⟩ hel hn ?_) hS (aJ hl) (k h)
  have h1:Nat.beq (0+cells.length) cells.length=true:=by simp
  have h2:Nat.ble (0+cells.length) cells.length=true:=by simp
  have h3:Vh E.bytes z=true:=Qfx hb0 hroom
  simp only [absAppend,hrow,eD,h1,h2,hz0,h3,Bool.and_self,eM,List.drop_zero,aO,hz]
 ·cases h
theorem Qxd {R γ:Type} {enc:γ->AV} {ls:List (List γ)} {q:List γ} {bytes ob j tm m:Nat} {A:Option R} {r:R} (hi:Qdc P ops i st=some (.ref ob 0 ls.length,.ref tm 0 1,1,bytes)) (hrow:st.objs[ob]?=some (.refs j (eF enc ls))) (hb:(Nat.blt ob BIG && Nat.blt tm BIG)=true)
  (htm:st.objs[tm]?=some (.row false false false false 1 [.ref m 0 q.length]))
  (hS:Ze ops i st (some (.ref st.objs.length 0 (ls++[q]).length)) [(ob,.dead),(st.objs.length,.row false false false false 1 (Qy j 0 (eF enc ls)++[.ref m 0 q.length]))]=some S) (hl:Nat.beq S.objs.length (st.objs.length+1)=true)
  (h:(if (ls++[q]).length*bytes<=140737488355328 then A else none)=some r) (k:A=some r->RW P rd base ops (Qt d [([ob,st.objs.length],[tm]++[ob])]) (i+1) S Φ):RW P rd base ops d i st Φ:=by
 simp only [aE] at hb
 refine Q2j (cells:=Qy j 0 (eF enc ls)) (ys:=[.ref m 0 q.length]) (nr:=false) (fl:=false) (nr':=false) (fl':=false) (z:=(ls++[q]).length) true hi (by show Ab.sto st.objs ob=_; rw [Zb (Xc hb.1),hrow]; rfl) (by simp [Zc,eF]) (by simp) ?_ rfl hS hl h k
 have:st.sto tm=some (.row false false false false 1 [.ref m 0 q.length]):=by show Ab.sto st.objs tm=_; rw [Zb (Xc hb.2),htm]; rfl
 simp [Xz,this]
theorem Q7i {γ:Type} {enc:γ->AV} {ls:List (List γ)} {x:List γ} {n:Int} {ob j m q:Nat} (hp:Ja ops i st=some (ob,n.toNat,0)) (hrow:st.sto ob=some (.row false false false false 1 ((Qy j 0 (eF enc ls)).set n.toNat (.ref m 0 q))))
  (ha:lkI ls n=some x) (hS:Qe3 P ops i st 0 (.ref m 0 q)=some S) (k:RW P rd base ops (Qt d [([],[ob])]) (i+1) S Φ):RW P rd base ops d i st Φ:=by
 obtain ⟨h1,h2,h3⟩:=Zo ha
 exact Qsu hp hrow (cD (by simpa [Zc,eF] using h2)) (.inl rfl) hS k
theorem Q5o {γ:Type} {enc:γ->AV} {ls:List (List γ)} {x:List γ} {n:Int} {ob j m q:Nat} (hi:Qbu P ops i st=some (.ref ob 0 ls.length,n,1)) (hrow:st.sto ob=some (.row false false false false 1 ((Qy j 0 (eF enc ls)).set n.toNat (.ref m 0 q))))
  (ha:lkI ls n=some x) (hS:Ze ops i st (some (.ptr ob n.toNat 0)) []=some S) (k:RW P rd base ops (Qt d [([],[ob])]) (i+1) S Φ):RW P rd base ops d i st Φ:=by
 obtain ⟨h1,h2,_⟩:=Zo ha
 exact Qya hi hrow h1 h2 (.inl rfl) hS k
theorem Q4o {γ:Type} {enc:γ->AV} {ls:List (List γ)} {x:List γ} {n:Int} {ob j m0 q0 m q:Nat} (hp:Ja ops i st=some (ob,n.toNat,0)) (hrow:st.sto ob=some (.row false false false false 1 ((Qy j 0 (eF enc ls)).set n.toNat (.ref m0 0 q0))))
  (ha:lkI ls n=some x) (hv:Qb9 P ops i st=some (.ref m 0 q)) (hS:Ze ops i st none [(ob,.row false false false false 1 ((Qy j 0 (eF enc ls)).set n.toNat (.ref m 0 q)))]=some S) (hl:Nat.beq S.objs.length st.objs.length=true)
  (k:RW P rd base ops (Qt d [([ob],[ob])]) (i+1) S Φ):RW P rd base ops d i st Φ:=by
 obtain ⟨h1,h2,h3⟩:=Zo ha
 obtain ⟨o,t,x0,y,T,ho,hop,hT,hx,hy,hc⟩:=Jo hp hv
 refine X8 (nf:=true) (fr:=st.objs.length) (rds:=[ob]) ho ?_ hS (aJ hl) k
 have hr:((Qy j 0 (eF enc ls)).set n.toNat (.ref m0 0 q0))[n.toNat]?=some (.ref m0 0 q0):=cD (by simpa [Zc,eF] using h2)
 unfold Zd
 rw [hop]
 simp only [Zm,aU,eK]
 unfold evalOp
 rw [hop]
 have hput:Kw (.ref m0 0 q0) 0 (.ref m 0 q)=some (.ref m 0 q):=by simp [Kw,AV.cell]
 simp only [hT,hx,hy,hrow,hr,hc,eM,Bool.or_true,Bool.true_or,hput,frz,Qay,List.contains_nil,aU,eK,cW,Zg,Bool.false_and,List.set_set]
theorem exec_post {c:Code} {e:Xd} {st1:St} (h:Xf P rd base c st (.go e st')) (hw:Wk P base st' st1):Xf P rd base c st (.go e st1):=by
 intro B W0 D0 dl M ι a W n Q r hs hr hp
 refine h B W0 D0 dl M ι a W n Q r hs hr ⟨fun e' s he dl' M' ι' a' W' g1 g2 g3 g4=>?_,fun v he=>(by cases he)⟩
 cases he
 obtain ⟨M2,ι2,k1,k2,k3⟩:=hw _ _ _ _ _ _ _ _ g4
 exact hp.go e st1 rfl dl' M2 ι2 a' W' (g1.trans k1) (g2.trans k2) g3 k3
theorem Q4k {c:Code} (h:WP P rd base c st (fun out=>match out with | .go e s=>∃s1,Wk P base s s1/\Φ (.go e s1) | .pan v=>Φ (.pan v))):WP P rd base c st Φ:=by
 obtain ⟨out,h1,h2⟩:=h
 cases out with
 | pan v=>exact ⟨_,h1,h2⟩
 | go e s=>obtain ⟨s1,h3,h4⟩:=h2; exact ⟨_,exec_post h1 h3,h4⟩
theorem Qja {α R:Type} {enc:α->AV} {l:List α} {ob:Nat} {ro nr fl:Bool} {lo hi:Option AV} {a b:Int} {w:Nat} {A:Option R} {r:R} (hi':Qpm P ops i st=some (.ref ob 0 l.length,lo,hi,none,w)) (hrow:st.sto ob=some (.row false ro nr fl w (l.map enc)))
  (ha:loI lo=some a) (hb:hiI l.length hi=some b) (hS:Ze ops i st (some (.ref ob a.toNat (b.toNat - a.toNat))) []=some S)
  (h:(if 0<=a/\a<=b/\b<=l.length then A else none)=some r) (k:(0<=a/\a<=b/\b<=(l.length:Int))->A=some r->RW P rd base ops (Qt d [([],[ob])]) (i+1) S Φ):RW P rd base ops d i st Φ:=by
 by_cases hc:0<=a/\a<=b/\b<=(l.length:Int)
 ·exact Q5i hi' hrow ha hb hS h (fun h=>k hc h)
 ·rw [aI hc] at h; cases h
end
end Go.Ab
namespace Go.Ab
open Go.RowKit
open Go.ChangeShapes in
theorem post_of_below {H:Type} {enc:TypeId × Value->H} {P:Program} {f:Func} {s:ChangeSpec} {apart fresh handsOn again:Bool} {W W':World} {args:Array Value} {v:Value} {ds gs:List (DataW H)} {before pa pv:List MemPlace}
  (hW:DataW.Whole enc P f.params.toList s.vars apart W args.toList ds gs before)
  (hres:∀(b:Nat) (sp:Nat -> Bool) (hd:Bool),DataW.TrodAll enc P W' b sp hd f.resultTypes.toList (v.resultList f.resultTypes.size) (s.fn H (ds++gs)).results [])
  (hargs:∀sp:Nat -> Bool,(∀p∈before,sp p.block=true)->DataW.TrodAll enc P W' 0 sp true f.params.toList args.toList (s.fn H (ds++gs)).args pa)
  (hvars:∀sp:Nat -> Bool,(∀p∈before,sp p.block=true)->DataW.TrodVars enc P W' sp s.vars (s.fn H (ds++gs)).vars pv)
  (hps:before=pa++pv) (hb:Below W.heap.size W W')
  (hok:∀(j:Nat) (t:TypeId) (r:Value),f.resultTypes[j]?=some t->(v.resultList f.resultTypes.size)[j]?=some r->Value.okWide P W' .any 0 t r) :
  s.post enc P f apart fresh handsOn again W args v W':=by
 have hold:∀p∈before,(fun b=>decide (b < W.heap.size)) p.block=true:=fun p hp=>by simpa using hW.lt p hp
 have hlt:=hW.lt
 refine ⟨ds,gs,before,[],pa,pv,hW,hres _ _ _,hargs _ hold,hvars _ hold,World.keptBut_mono (fun p hp=>⟨hp,?_⟩) (hb.frame (·∈before)),fun _=>?_⟩
 ·rw [hps,bV] at hp
  exact Or.inr hp
 ·obtain ⟨_,_,_,_,_,hz,hn⟩:=hW
  refine ⟨hok,_,_,([]++pa)++pv,⟨[]++pa,pv,trodAll_append (hargs _ (fun _ _=>rfl)) (hres _ _ _),hvars _ (fun _ _=>rfl),rfl,?_,?_⟩,?_⟩
  ·intro b off hp
   have hm:MemPlace.cell b off∈before:=by rw [hps]; simpa using hp
   have h1:b < W.heap.size:=hlt _ hm
   rw [hb.frozen h1]
   exact hz b off hm
  ·intro ha
   have:=hn ha
   rw [hps] at this
   simpa using this
  ·intro p hp _
   rw [hps]
   simpa using hp
end Go.Ab
namespace Go.Ab
open Go.RowKit
theorem Qxa {M:CM} {ι:Inj} {v:Value} {fl:Bool} (h:Qa M ι v (.lst fl [])):Qa M ι v .nils\/Qa M ι v .emn:=by
 cases h with
 | lst0 a =>
  cases a with
  | none=>exact .inl .nils
  | some a=>exact .inr (.emn a 0)
 | lst b off cap=>exact .inr (.emn _ cap)
theorem Q3.nil {P:Program} {f:FuncId} {l1 l2:List AV} {fl:Bool} {out:Xg} (h1:Q3 P f (l1++.nils::l2) out) (h2:Q3 P f (l1++.emn::l2) out):Q3 P f (l1++.lst fl []::l2) out:=by
 intro W M vs hM hsz hr
 have hlt:l1.length < vs.size:=by simp at hsz; omega
 have h0:=hr l1.length vs[l1.length] (.lst fl []) (by simp [hlt]) (by simp)
 have other:∀y,Qa M noInj vs[l1.length] y->∀(j:Nat) (v:Value) (a:AV),vs[j]?=some v->(l1++y::l2)[j]?=some a->Qa M noInj v a:=by
  intro y hy j v a hv ha
  rcases Nat.lt_trichotomy j l1.length with c | c | c
  ·refine hr j v a hv ?_
   rw [aX c] at ha ⊢; exact ha
  ·subst c
   rw [aY (bA _)] at ha
   simp at ha; subst ha
   rw [aL hlt] at hv; cases hv; exact hy
  refine hr j v a hv ?_
  rw [aY (by omega)] at ha ⊢
  rw [show j - l1.length=(j - l1.length - 1)+1 by omega] at ha ⊢
  simpa using ha
 rcases Qxa h0 with e | e
 ·exact h1 W M vs hM (by simpa using hsz) (other _ e)
 exact h2 W M vs hM (by simpa using hsz) (other _ e)
section
variable {P:Program} {base:Nat} {st st':St}
end
theorem Q3.froz {P:Program} {f:FuncId} {args:List AV} {v y:AV} {objs:List AObj} {ids:List Nat} (h:Q3 P f args (.ret v objs)) (hs:Qo (fun k=>objs[k]?) Qk v=some (y,ids)):Q3 P f args (.ret y []):=by
 intro W M vs hM hsz hr
 refine (h W M vs hM hsz hr).mono fun e W' he=>?_
 obtain ⟨u,M',ι',rfl,hg,hrel,hout,hv⟩:=he
 refine ⟨u,_,noInj,rfl,hg.trans (hrel.growC ids),⟨hrel.size,hrel.below,hrel.defs,Qdr hrel.agree,fun o bx nr fl w xs p k ho=>(by simp at ho),fun o bx ro nr fl w xs ho=>(by simp at ho),fun o fn sl ps as bd st pe ho=>(by simp at ho),fun o o' bx nr fl w xs bx' nr' fl' w' xs' p p' _ ho=>(by simp at ho),fun o o' fn sl ps as bd st pe fn' sl' ps' as' bd' st' pe' p p' _ ho=>(by simp at ho),fun o _=>.inl (by simp)⟩,fun _ _=>rfl,Yz hrel ids Qk v y ids u hs (fun k hk=>hk) hv⟩
section
variable {P:Program} {rd:Option Nat} {base:Nat} {ops:Array Oper} {st S:St} {Φ:AOut->Prop} {d:Option (List Sk)} {i:Nat}
def Q8d (P:Program) (ops:Array Oper) (i:Nat) (st:St):Option (AV × AV × Nat) :=
 match Z5 ops i st with
 | some o=>match o.op with
  | .call { callee:=.builtin .copy,args,argTypes }=>match args.toList,argTypes.toList with
   | [x,y],t::_=>match ti P t,evo (lk st.slots) x,evo (lk st.slots) y with
    | some T,some a,some b=>match T.kind with
     | .slice e=>match ti P e with
      | some E=>some (a,b,E.size)
      | none=>none
     | _=>none
    | _,_,_=>none
   | _,_=>none
  | _=>none
 | none=>none
theorem Qf7 {σ:Sto} {α:Type} {enc:α->AV} {l:List α} {w ob:Nat} {a b:Int} {ro nr fl:Bool} (hrow:σ ob=some (.row false ro nr fl w (l.map enc))) (hc:0<=a/\a<=b/\b<=(l.length:Int)) :
  Xz σ w (.ref ob a.toNat (b.toNat - a.toNat))=some ((sub l a b).map enc,nr,fl,[ob]):=by
 have h1:Nat.ble (a.toNat + (b.toNat - a.toNat)) (l.map enc).length=true:=Nat.ble_eq_true_of_le (by simp; omega)
 simp [Xz,hrow,sub]
 omega
def Qs3 (agg:Bool) (w:Nat) (cs:List AV):Option AV:=if agg then (if w<=cs.length then some (.agg (cs.take w)) else none) else cs.head?
def Qrf (P:Program) (ops:Array Oper) (i:Nat) (st:St):Option (List AV × Int × Nat × Nat × Bool) :=
 match Z5 ops i st with
 | some o=>match o.op with
  | .index t x ix=>match ti P t,evo (lk st.slots) x,evo (lk st.slots) ix with
   | some T,some (.agg cs),some (.int _ n)=>match T.kind with
    | .array len e=>match ti P e with
     | some E=>some (cs,n,len,E.size,E.agg)
     | none=>none
    | _=>none
   | _,_,_=>none
  | _=>none
 | none=>none
theorem Qvc {cs:List AV} {n:Int} {len w:Nat} {g:Bool} (h:Qrf P ops i st=some (cs,n,len,w,g)):∃o,Z5 ops i st=some o /\
  ∀v,0<=n->n.toNat < len->Qs3 g w (cs.drop (n.toNat * w))=some v->Zd P false noC st.sto st.objs.length (lk st.slots) o=some (.val ⟨some v,[],st.objs.length,[]⟩):=by
 unfold Qrf at h
 split at h
 ·rename_i o ho
  split at h
  ·rename_i t x ix hop
   split at h
   ·rename_i T cs' k n' hT hx hix
    split at h
    ·rename_i len' e hk
     split at h
     ·rename_i E hE
      cases h
      refine ⟨o,ho,fun v h1 h2 hv=>?_⟩
      have hneg:¬ n < 0:=by omega
      unfold Zd
      rw [hop]
      simp only [Zm,aU,eK]
      unfold evalOp
      rw [hop]
      have hv':Qad E (cs.drop (n.toNat * E.size))=some v:=hv
      simp only [hT,hx,hix,hk,asN,hneg,eK,hE,blt_true h2,eM,hv',Zu,bM,Zg]
     ·cases h
    ·cases h
   ·cases h
  ·cases h
 ·cases h
theorem Qr0 {α:Type} {enc:α->AV} {w:Nat} (hw:∀x,Nat.beq (enc x).flat.length w=true):∀(l:List α) (j:Nat) (a:α),l[j]?=some a->∃r,(l.flatMap fun x=>(enc x).flat).drop (j*w)=(enc a).flat ++ r
 | [],j,a,h=>by simp at h
 | x::xs,0,a,h=>by
  simp at h; subst h
  exact ⟨_,by simp [List.flatMap_cons]; rfl⟩
 | x::xs,j+1,a,h=>by
  obtain ⟨r,hr⟩:=Qr0 hw xs j a (by simpa using h)
  refine ⟨r,?_⟩
  rw [List.flatMap_cons,List.drop_append,aJ (hw x),List.drop_of_length_le (by rw [aJ (hw x),dT]; omega),cW,show (j+1)*w - w=j*w by rw [dT]; omega]
  exact hr
theorem Qzk {g:Bool} {w:Nat} {cs r:List AV} {v:AV} (hl:cs.length=w) (h:Qs3 g w cs=some v) (hne:cs≠[]):Qs3 g w (cs++r)=some v:=by
 subst hl
 cases g with
 | true =>
  have h:(if cs.length<=cs.length then some (AV.agg (cs.take cs.length)) else none)=some v:=h
  show (if cs.length<=(cs++r).length then some (AV.agg ((cs++r).take cs.length)) else none)=some v
  rw [aH (by simp),List.take_append_of_le_length (bA _)]
  rw [aH (bA _)] at h; exact h
 | false =>
  cases cs with
  | nil=>exact absurd rfl hne
  | cons c cs=>exact h
theorem Qyb {α:Type} {enc:α->AV} {l:List α} {n:Int} {a:α} {w:Nat} {g:Bool} {v:AV} (hi:Qrf P ops i st=some (l.flatMap (fun x=>(enc x).flat),n,l.length,w,g)) (hw:∀x,Nat.beq (enc x).flat.length w=true) (h0:Nat.blt 0 w=true)
  (ha:lkI l n=some a) (hv:Qs3 g w (enc a).flat = some v) (hS:Ze ops i st (some v) []=some S) (k:RW P rd base ops (Qt d [([],[])]) (i+1) S Φ):RW P rd base ops d i st Φ:=by
 obtain ⟨h1,h2,h3⟩:=Zo ha
 obtain ⟨o,ho,hev⟩:=Qvc hi
 obtain ⟨r,hr⟩:=Qr0 hw l _ a h3
 have hl:=aJ (hw a)
 refine X8 ho (hev v h1 h2 ?_) hS (Z6 hS) k
 rw [hr]
 exact Qzk hl hv (fun e=>by rw [e] at hl; simp at hl; rw [<-hl] at h0; cases h0)
end
end Go.Ab
namespace Go.Ab
open Go.RowKit
inductive Sh where
 | int (k:IntKind)
 | bool
 | str
 | slice (fl ag:Bool) (w:Nat) (e:Sh)
 | cat (a b:Sh)
 | unit
def Sh.scal:Sh->Bool
 | .slice ..=>false
 | .cat a b=>a.scal && b.scal
 | _=>true
def Sh.width:Sh->Nat
 | .cat a b=>a.width+b.width
 | .unit=>0
 | _=>1
def WT:Sh->List AV->Prop
 | .int k,cs=>∃n,cs=[.int k n]/\(Lit.int k n).wf=true
 | .bool,cs=>∃b,cs=[.bool b]
 | .str,cs=>∃s,cs=[.str s]/\s.size<=maxLen
 | .slice fl ag w e,cs=>∃xs,cs=[.lst fl xs]/\xs.length<=maxLen/\∀x∈xs,WT e x.flat /\ (if ag then x=.agg x.flat else x.cell=true)
 | .cat a b,cs=>∃x y,cs=x++y/\WT a x/\WT b y
 | .unit,cs=>cs=[]
def Qi1 (P:Program) (t:TypeId):Bool:=match P.underlying t with | some (.struct _)=>true | some (.array _ _)=>true | _=>false
def Qw4 (s:Sh):Nat -> Sh
 | 0=>.unit
 | n+1=>.cat s (Qw4 s n)
def Qj3 (P:Program) (rec:TypeId->Option Sh):List Field->Nat -> Option Sh
 | [],_=>some .unit
 | f::r,o=>match rec f.type with
  | some s=>if Nat.beq f.offset o && Nat.beq s.width (P.cellsOf f.type) then (match Qj3 P rec r (o+s.width) with | some q=>some (.cat s q) | none=>none) else none
  | none=>none
def Qkc (P:Program):Nat -> TypeId->Option Sh
 | 0,_=>none
 | n+1,t=>match P.underlying t with
  | some .bool=>some .bool
  | some (.int k)=>some (.int k)
  | some .string=>some .str
  | some (.slice e)=>match Qkc P n e with
   | some s=>if Nat.beq s.width (P.cellsOf e) && Nat.blt 0 (P.cellsOf e) && (Qi1 P e || Nat.beq s.width 1) then some (.slice s.scal (Qi1 P e) (P.cellsOf e) s) else none
   | none=>none
  | some (.struct fs)=>match Qj3 P (Qkc P n) fs.toList 0 with
   | some s=>if Nat.beq s.width (P.cellsOf t) then some s else none
   | none=>none
  | some (.array m e)=>match Qkc P n e with
   | some s=>if Nat.beq s.width (P.cellsOf e) && Nat.beq (m*s.width) (P.cellsOf t) then some (Qw4 s m) else none
   | none=>none
  | _=>none
theorem Qu1:∀{s:Sh} {cs:List AV},WT s cs->cs.length=s.width
 | .int k,cs,h=>by obtain ⟨n,rfl,_⟩:=h; rfl
 | .bool,cs,h=>by obtain ⟨n,rfl⟩:=h; rfl
 | .str,cs,h=>by obtain ⟨n,rfl,_⟩:=h; rfl
 | .slice _ _ _ _,cs,h=>by obtain ⟨n,rfl,_⟩:=h; rfl
 | .cat a b,cs,h=>by obtain ⟨x,y,rfl,h1,h2⟩:=h; simp [Sh.width,Qu1 h1,Qu1 h2]
 | .unit,cs,h=>by cases h; rfl
theorem Qqm:∀{s:Sh} {cs:List AV},WT s cs->s.scal=true->cs.all AV.sc=true
 | .int k,cs,h,_=>by obtain ⟨n,rfl,_⟩:=h; rfl
 | .bool,cs,h,_=>by obtain ⟨n,rfl⟩:=h; rfl
 | .str,cs,h,_=>by obtain ⟨n,rfl,_⟩:=h; rfl
 | .slice _ _ _ _,cs,h,hs=>by cases hs
 | .cat a b,cs,h,hs=>by
  obtain ⟨x,y,rfl,h1,h2⟩:=h
  simp only [Sh.scal,aE] at hs
  rw [List.all_append,Qqm h1 hs.1,Qqm h2 hs.2]; rfl
 | .unit,cs,h,_=>by cases h; rfl
def Qbs (M:CM) (cs:List Value) (avs:List AV):Prop:=avs.length=cs.length/\∀(j:Nat) (v:Value) (y:AV),cs[j]?=some v->avs[j]?=some y->Qa M noInj v y/\y.cell=true
theorem Qat {M:CM} {v:Value} {y:AV} (h:Qa M noInj v y) (hc:y.cell=true):Qbs M [v] [y]:=by
 refine ⟨rfl,fun j v' y' h1 h2=>?_⟩
 cases j with
 | zero=>cases h1; cases h2; exact ⟨h,hc⟩
 | succ j=>simp at h1
theorem Qjb {M:CM} {a b:List Value} {x y:List AV} (h1:Qbs M a x) (h2:Qbs M b y):Qbs M (a++b) (x++y):=by
 refine ⟨by simp [h1.1,h2.1],fun j v z hv hz=>?_⟩
 rcases bB j a.length with hj | hj
 ·rw [aX hj] at hv
  rw [aX (by rw [h1.1]; exact hj)] at hz
  exact h1.2 j v z hv hz
 rw [aY hj] at hv
 rw [aY (by rw [h1.1]; exact hj),h1.1] at hz
 exact h2.2 _ v z hv hz
theorem Qvs {α:Type} {n:Nat} {Q:Nat -> α->Prop} (h:∀i,i < n->∃x,Q i x):∃xs:List α,xs.length=n/\∀i x,xs[i]?=some x->Q i x:=by
 induction n with
 | zero=>exact ⟨[],rfl,fun i x hx=>by simp at hx⟩
 | succ n ih =>
  obtain ⟨xs,h1,h2⟩:=ih fun i hi=>h i (by omega)
  obtain ⟨x,hx⟩:=h n (by omega)
  refine ⟨xs++[x],by simp [h1],fun i y hy=>?_⟩
  rcases bB i xs.length with hi | hi
  ·rw [aX hi] at hy; exact h2 i y hy
  rw [aY hi] at hy
  cases hk:i - xs.length with
  | zero =>
   rw [hk] at hy
   cases hy
   rw [show i=n by omega]; exact hx
  | succ k=>rw [hk] at hy; simp at hy
def Qcf (w:World) (hg:GlobIn w):CM:=⟨fun b o=>w.cell? ⟨b,o,none⟩,hg,fun _=>none,fun _ _=>none⟩
theorem Q1m {w:World} {hg:GlobIn w} {b o:Nat}:Qcf w hg b o=w.cell? ⟨b,o,none⟩:=rfl
theorem Qr9 {α β:Type} {f:α->Option β}:∀{l:List α} {r:List β},l.mapM f=some r->r.length=l.length/\∀(i:Nat) (a:α),l[i]?=some a->f a=r[i]?
 | [],r,h=>by simp at h; subst h; simp
 | a::l,r,h=>by
  simp only [List.mapM_cons,Option.pure_def,Option.bind_eq_bind,bU] at h
  obtain ⟨b,hb,bs,hbs,h⟩:=h
  cases h
  obtain ⟨h1,h2⟩:=Qr9 hbs
  refine ⟨by simp [h1],fun i x hx=>?_⟩
  cases i with
  | zero=>cases hx; simpa using hb
  | succ i=>simpa using h2 i x (by simpa using hx)
theorem Qve {w:World} {base:Nat} {a:Addr} {n:Nat} {row:List Value} (h:w.cells? base a n=some row):row.length=n/\∀i,i < n->w.cell? (a.add i)=row[i]?:=by
 unfold World.cells? at h
 split at h
 ·obtain ⟨h1,h2⟩:=Qr9 h
  refine ⟨by simpa using h1,fun i hi=>h2 i i (by simp [hi])⟩
 cases h
theorem Qy9 {w:World} {a:Addr} {v:Value} (h:w.cell? a=some v):a.spot=none:=by
 unfold World.cell? at h
 cases hs:a.spot with
 | none=>rfl
 | some s =>
  simp only [hs] at h
  split at h <;> simp at h
theorem Qmt (a:Addr):a.add 0=a:=by simp [Addr.add]
theorem Qvf (b off k:Nat):(⟨b,off,none⟩:Addr).add k=⟨b,off+k,none⟩:=by
 unfold Addr.add
 split
 ·rename_i h; subst h; rfl
 rfl
section
variable {H:Type} {enc:TypeId × Value->H} {P:Program} {w:World} {base:Nat} {hg:GlobIn w}
theorem Qpe {cs:List Value} {m:Nat} {rec:TypeId->Option Sh} (ih:∀(t:TypeId) (s:Sh),rec t=some s->∀(cs:List Value) (x:DataW H × List MemPlace),DataW.trod enc P w base (fun _=>true) true m t cs=some x->∃avs,Qbs (Qcf w hg) cs avs/\WT s avs) :
  ∀(l:List Field) (o:Nat) (s:Sh),Qj3 P rec l o=some s->(∀f∈l,∃x,DataW.trod enc P w base (fun _=>true) true m f.type ((cs.drop f.offset).take (P.cellsOf f.type))=some x)->∃avs,Qbs (Qcf w hg) ((cs.drop o).take s.width) avs/\WT s avs
 | [],o,s,h,_=>by
  cases h
  exact ⟨[],⟨by simp [Sh.width],fun j v y h1 h2=>by simp at h2⟩,rfl⟩
 | f::l,o,s,h,hf=>by
  unfold Qj3 at h
  split at h
  rotate_left
  ·cases h
  rename_i s1 hs1
  split at h
  rotate_left
  ·cases h
  rename_i hc
  split at h
  rotate_left
  ·cases h
  rename_i q hq
  cases h
  simp only [aE] at hc
  have h1:=aJ hc.1
  have h2:=aJ hc.2
  obtain ⟨x,hx⟩:=hf f (by simp)
  rw [h1,<-h2] at hx
  obtain ⟨a1,c1,w1⟩:=ih _ _ hs1 _ _ hx
  obtain ⟨a2,c2,w2⟩:=Qpe ih l (o+s1.width) q hq (fun g hg=>hf g (by simp [hg]))
  refine ⟨a1++a2,?_,a1,a2,rfl,w1,w2⟩
  have e:(cs.drop o).take (s1.width+q.width)=(cs.drop o).take s1.width++(cs.drop (o+s1.width)).take q.width:=by
   rw [List.take_add,List.drop_drop]
  simp only [Sh.width]
  rw [e]
  exact Qjb c1 c2
theorem Qwi {cs:List Value} {M:CM} {s:Sh} {n:Nat} (h:∀i,i < n->∃avs,Qbs M ((cs.drop (i*s.width)).take s.width) avs/\WT s avs):∀(k o:Nat),o+k=n->∃avs,Qbs M ((cs.drop (o*s.width)).take (k*s.width)) avs/\WT (Qw4 s k) avs
 | 0,o,_=>⟨[],⟨by simp,fun j v y h1 h2=>by simp at h2⟩,rfl⟩
 | k+1,o,hk=>by
  obtain ⟨a1,c1,w1⟩:=h o (by omega)
  obtain ⟨a2,c2,w2⟩:=Qwi h k (o+1) (by omega)
  refine ⟨a1++a2,?_,a1,a2,rfl,w1,w2⟩
  have e:(cs.drop (o*s.width)).take ((k+1)*s.width)=(cs.drop (o*s.width)).take s.width++(cs.drop ((o+1)*s.width)).take (k*s.width):=by
   rw [dT k,cK,List.take_add,List.drop_drop,dT o]
  rw [e]
  exact Qjb c1 c2
theorem Qtf (cs:List AV):(AV.agg cs).flat = cs:=rfl
theorem Qhb:∀(n:Nat) (t:TypeId) (s:Sh),Qkc P n t=some s->∀(m:Nat) (cs:List Value) (x:DataW H × List MemPlace),DataW.trod enc P w base (fun _=>true) true m t cs=some x->∃avs,Qbs (Qcf w hg) cs avs/\WT s avs
 | 0,t,s,h=>by simp [Qkc] at h
 | n+1,t,s,h=>by
  intro m cs x hx
  unfold Qkc at h
  split at h
  ·rename_i ht
   cases h
   obtain ⟨b,rfl,_⟩:=DataW.trod_bool ht hx
   exact ⟨[.bool b],Qat (.bool b) rfl,b,rfl⟩
  ·rename_i k ht
   cases h
   obtain ⟨z,rfl,_,hw⟩:=DataW.trod_int ht hx
   exact ⟨[.int k z],Qat (.int k z) rfl,z,rfl,hw⟩
  ·rename_i ht
   cases h
   obtain ⟨z,rfl,_,hw⟩:=DataW.trod_string ht hx
   exact ⟨[.str z],Qat (.str z) rfl,z,rfl,hw⟩
  ·rename_i e ht
   split at h
   rotate_left
   ·cases h
   rename_i s1 hs1
   split at h
   rotate_left
   ·cases h
   rename_i hc
   cases h
   simp only [aE,aM] at hc
   obtain ⟨⟨hw,hpos⟩,hag⟩:=hc
   have hw:=aJ hw
   have hpos:0 < P.cellsOf e:=by simpa using hpos
   rcases DataW.trod_slice ht hx with ⟨rfl,_⟩ | ⟨a,len,cap,elems,rest,n',_,rfl,_,hb,hl,hm,hlen,hel,hsp,_⟩
   ·exact ⟨[.lst s1.scal []],Qat (.lst0 none _) rfl,[],rfl,by simp,fun x hx=>by cases hx⟩
   have hsp:=hsp rfl
   have hspot:0 < cap->a.spot=none:=fun hcap=>by
    have key:∃row,w.cells? base a (P.cellsOf e)=some row:=by
     rcases eC len with h0 | h0
     ·have:=hsp.2 0 (by omega)
      rw [aG (by omega)] at this
      obtain ⟨row,h1,_⟩:=bU.1 this
      rw [h0,eJ,Nat.zero_mul,Qmt] at h1
      exact ⟨row,h1⟩
     have:=hel 0 h0
     rw [aG (by omega)] at this
     obtain ⟨row,h1,_⟩:=bU.1 this
     rw [Nat.zero_mul,Qmt] at h1
     exact ⟨row,h1⟩
    obtain ⟨row,hk⟩:=key
    obtain ⟨h1,h2⟩:=Qve hk
    have h3:=h2 0 hpos
    rw [aG (by omega),Qmt] at h3
    exact Qy9 h3
   rcases eC cap with h0 | h0
   ·have hl0:len=0:=by omega
    subst h0; subst hl0
    exact ⟨[.lst s1.scal []],Qat (.lst0 _ _) rfl,[],rfl,by simp,fun x hx=>by cases hx⟩
   have hspot:=hspot h0
   obtain ⟨blk,off,spot⟩:=a
   simp only at hspot
   subst hspot
   have each:∀i,i < len->∃z:AV,z.shaped (P.cellsOf e)/\WT s1 z.flat /\ (if Qi1 P e then z=.agg z.flat else z.cell=true)/\∀(j:Nat) (y:AV),z.flat[j]?=some y->∃v,w.cell? ⟨blk,off+i*P.cellsOf e+j,none⟩=some v/\Qa (Qcf w hg) noInj v y:=by
    intro i hi
    have h1:=hel i hi
    rw [aG (by omega)] at h1
    obtain ⟨row,h2,h3⟩:=bU.1 h1
    obtain ⟨avs,c1,w1⟩:=Qhb n e s1 hs1 _ _ _ h3
    obtain ⟨g1,g2⟩:=Qve h2
    have hlen':=Qu1 w1
    have cellv:∀(j:Nat) (y:AV),avs[j]?=some y->∃v,w.cell? ⟨blk,off+i*P.cellsOf e+j,none⟩=some v/\Qa (Qcf w hg) noInj v y/\y.cell=true:=fun j y hy=>by
     have hj:=(aD.1 hy).1
     have h5:=g2 j (by omega)
     have h6:row[j]?=some row[j]:=aG (by rw [<-c1.1]; exact hj)
     rw [h6] at h5
     refine ⟨_,?_,c1.2 j _ y h6 hy⟩
     rw [Qvf,Qvf] at h5
     exact h5
    by_cases ha:Qi1 P e=true
    ·refine ⟨.agg avs,⟨.inl rfl,by rw [Qtf]; omega,fun y hy=>?_⟩,w1,by rw [aH ha]; rfl,fun j y hy=>?_⟩
     ·rw [Qtf] at hy
      obtain ⟨j,hj⟩:=bT.1 hy
      obtain ⟨_,_,_,h⟩:=cellv j y hj
      exact h
     obtain ⟨v,h1,h2,_⟩:=cellv j y hy
     exact ⟨v,h1,h2⟩
    have h1:s1.width=1:=by
     rcases hag with h | h
     ·exact absurd h ha
     exact aJ h
    obtain ⟨z,rfl⟩:∃z,avs=[z]:=by
     match avs,hlen' with
     | [z],_=>exact ⟨z,rfl⟩
     | [],h=>simp [h1] at h
     | _::_::_,h=>simp [h1] at h
    obtain ⟨v,hv,hr,hcell⟩:=cellv 0 z rfl
    have hflat : z.flat = [z]:=by cases z <;> simp_all [AV.flat,AV.cell]
    refine ⟨z,⟨.inr hcell,by rw [hflat]; simp; omega,fun y hy=>by rw [hflat] at hy; simp at hy; rw [hy]; exact hcell⟩,by rw [hflat]; exact w1,by rw [aI ha]; exact hcell,fun j y hy=>?_⟩
    rw [hflat] at hy
    cases j with
    | zero=>cases hy; exact ⟨v,by simpa using hv,hr⟩
    | succ j=>simp at hy
   obtain ⟨xs,hxl,hxs⟩:=Qvs each
   refine ⟨[.lst s1.scal xs],Qat ?_ rfl,xs,rfl,by omega,fun z hz=>?_⟩
   ·have:=Qa.lst (M:=Qcf w hg) (ι:=noInj) blk off cap (P.cellsOf e) s1.scal xs (fun i j=>(w.cell? ⟨blk,off+i*P.cellsOf e+j,none⟩).getD default) (by omega)
     (fun hfl z hz=>by
      obtain ⟨i,hi⟩:=bT.1 hz
      exact Qqm (hxs i z hi).2.1 hfl)
     (fun z hz=>by
      obtain ⟨i,hi⟩:=bT.1 hz
      exact (hxs i z hi).1)
     (fun i j z y hz hy=>by
      obtain ⟨v,h1,h2⟩:=(hxs i z hz).2.2.2 j y hy
      simp only [Q1m]
      rw [h1]; rfl)
     (fun i j z y hz hy=>by
      obtain ⟨v,h1,h2⟩:=(hxs i z hz).2.2.2 j y hy
      rw [h1]; exact h2)
    rwa [hxl] at this
   obtain ⟨i,hi⟩:=bT.1 hz
   exact ⟨(hxs i z hi).2.1,(hxs i z hi).2.2.1⟩
  ·rename_i fs ht
   split at h
   rotate_left
   ·cases h
   rename_i s1 hs1
   split at h
   rotate_left
   ·cases h
   rename_i hw
   cases h
   have hw:=aJ hw
   obtain ⟨xs,n',_,_,hl,hxs,hf⟩:=DataW.trod_struct ht hx
   obtain ⟨avs,c1,w1⟩:=Qpe (cs:=cs) (m:=n') (rec:=Qkc P n) (fun t s hs cs x hx=>Qhb n t s hs _ _ _ hx) fs.toList 0 s hs1 (fun f hf'=>by
    obtain ⟨i,hi⟩:=bT.1 hf'
    have h1:=hf i f (by simpa using hi)
    have hi':=(aD.1 hi).1
    rw [aG (by rw [hxs]; simpa using hi')] at h1
    exact ⟨_,h1⟩)
   refine ⟨avs,?_,w1⟩
   rw [List.drop_zero,List.take_of_length_le (by omega)] at c1
   exact c1
  ·rename_i m0 e ht
   split at h
   rotate_left
   ·cases h
   rename_i s1 hs1
   split at h
   rotate_left
   ·cases h
   rename_i hw
   cases h
   simp only [aE] at hw
   have h1:=aJ hw.1
   have h2:=aJ hw.2
   obtain ⟨xs,n',_,_,hl,hxs,hf⟩:=DataW.trod_array ht hx
   obtain ⟨avs,c1,w1⟩:=Qwi (cs:=cs) (M:=Qcf w hg) (s:=s1) (n:=m0) (fun i hi=>by
    have h3:=hf i hi
    rw [aG (by omega),<-h1] at h3
    exact Qhb n e s1 hs1 _ _ _ h3) m0 0 (by omega)
   refine ⟨avs,?_,w1⟩
   rw [Nat.zero_mul,List.drop_zero,List.take_of_length_le (by omega)] at c1
   exact c1
  cases h
theorem arg_struct {t:TypeId} {s:Sh} {v:Value} {d:DataW H} {ps:List MemPlace} {b0:Nat} (n:Nat) (hs:Qkc P n t=some s) (ha:Qi1 P t=true) (hok:Value.okWide P w .any b0 t v)
  (h:DataW.Trod enc P w base (fun _=>true) true t v d ps):∃avs,Qa (Qcf w hg) noInj v (.agg avs)/\WT s avs:=by
 obtain ⟨m,hm⟩:=h
 obtain ⟨avs,c1,w1⟩:=Qhb n t s hs m _ _ hm
 have hv:∃cs,v=.agg cs:=by
  unfold Qi1 at ha
  unfold Value.okWide at hok
  split at ha
  ·rename_i fs hfs
   rw [hfs] at hok
   obtain ⟨cs,h1,_⟩:=hok
   exact ⟨cs,h1⟩
  ·rename_i m0 e hfs
   rw [hfs] at hok
   obtain ⟨cs,h1,_⟩:=hok
   exact ⟨cs,h1⟩
  cases ha
 obtain ⟨cs,rfl⟩:=hv
 refine ⟨avs,.agg cs avs (by simpa [Value.cells] using c1.1.symm) (fun y hy=>?_) (fun j u y hu hy=>?_),w1⟩
 ·obtain ⟨j,hj⟩:=bT.1 hy
  have hj':=(aD.1 hj).1
  rw [c1.1] at hj'
  exact (c1.2 j _ y (aG hj') hj).2
 ·exact (c1.2 j u y (by simpa [Value.cells] using hu) hy).1
end
theorem sameAt_of {W W':World} (h:∀b,b < W.heap.size->W'.heap[b]?=W.heap[b]?) {p:MemPlace} (hp:p.block < W.heap.size):W.sameAt W' p:=by
 cases p with
 | cell b off =>
  show W'.cell? ⟨b,off,none⟩=W.cell? ⟨b,off,none⟩
  unfold World.cell?
  rw [h b hp]
 | map b=>exact h b hp
theorem calls_args {P:Program} {f:FuncId} {args:List AV} {b:Bool} (h:Q3 P f args (.ret (.bool b) [])) {W:World} {hg:GlobIn W} {vs:Array Value} (hl:vs.size=args.length)
  (hr:∀(j:Nat) (v:Value) (a:AV),vs[j]?=some v->args[j]?=some a->Qa (Qcf W hg) noInj v a):Calls P f vs W fun e W'=>e=.returned (.bool b)/\Below W.heap.size W W'/\∀b,b < W.heap.size->W'.heap[b]?=W.heap[b]?:=by
 refine (h W (Qcf W hg) vs ⟨fun _ _ _ h=>h,fun b x h=>(by cases h),fun b o v h=>(by cases h)⟩ hl hr).mono fun e W' he=>?_
 obtain ⟨v,M',ι',he,_,hrel,_,hv⟩:=he
 cases hv
 exact ⟨he,hrel.below.toBelow,fun b hb=>hrel.below.block b hb⟩
theorem Qzh {x:AV} (h:x.cell=true):x.flat = [x]:=by cases x <;> simp_all [AV.flat,AV.cell]
theorem Quu {α:Type} {enc:α->AV} {R:α->Prop} {xs:List AV} (h:∀x∈xs,∃a,x=enc a/\R a):∃l:List α,xs=l.map enc/\∀a∈l,R a:=by
 induction xs with
 | nil=>exact ⟨[],rfl,fun n hn=>by cases hn⟩
 | cons x xs ih =>
  obtain ⟨l,rfl,hl⟩:=ih fun y hy=>h y (by simp [hy])
  obtain ⟨a,rfl,ha⟩:=h x (by simp)
  refine ⟨a::l,rfl,fun m hm=>?_⟩
  rcases cF.1 hm with rfl | hm
  ·exact ha
  exact hl m hm
end Go.Ab
namespace Go.Ab
open Go.RowKit
def Qwe (P:Program) (t:TypeId):Bool:=match P.underlying t with | some (.int _)=>true | some .bool=>true | some .string=>true | some (.slice _)=>true | _=>false
section
variable {H:Type} {enc:TypeId × Value->H} {P:Program} {w:World} {base:Nat} {hg:GlobIn w}
theorem arg_cell {t:TypeId} {s:Sh} {v:Value} {d:DataW H} {ps:List MemPlace} {b0:Nat} (n:Nat) (hs:Qkc P n t=some s) (ha:Qwe P t=true) (hok:Value.okWide P w .any b0 t v)
  (h:DataW.Trod enc P w base (fun _=>true) true t v d ps):∃y,Qa (Qcf w hg) noInj v y/\WT s [y]:=by
 obtain ⟨m,hm⟩:=h
 obtain ⟨avs,c1,w1⟩:=Qhb n t s hs m _ _ hm
 have hv:v.cells=#[v]:=by
  cases v with
  | agg cs =>
   exfalso
   unfold Qwe at ha
   unfold Value.okWide at hok
   split at ha <;> (rename_i hu; first | (rw [hu] at hok; unfold Cell.okWide at hok; rw [hu] at hok; unfold Cell.ok at hok; rw [hu] at hok; exact hok) | cases ha)
  | _=>rfl
 rw [hv] at c1
 obtain ⟨h1,h2⟩:=c1
 simp at h1
 obtain ⟨y,rfl⟩:∃y,avs=[y]:=List.length_eq_one_iff.1 h1
 exact ⟨y,(h2 0 v y rfl rfl).1,w1⟩
end
end Go.Ab
