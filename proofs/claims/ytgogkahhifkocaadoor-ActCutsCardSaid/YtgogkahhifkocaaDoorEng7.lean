/- Rules. No conditions. -/
import Derived.Test.YtgogkahhifkocaaDoorEng6
import Derived.RowKit3
import Derived.ChangeSame
import Derived.ChangeArms
import Derived.OpenShut
import Derived.WideKeyArgs
import Derived.Test.YtgogkahhifkocaaDoorEng5
import Derived.KernelRfl
set_option linter.all false
namespace Go.Ab
open Go.RowKit
section
variable {P:Program} {B:Nat} {W0 W:World} {D D0 dl:List Nat} {M:CM} {ι:Inj} {σ:Sto} {st st':St} {a:Act} {base:Nat}
theorem Rel.row1 (h:Rel P B W0 D M ι σ W) {o:Nat} {bx nr fl bx' nr' fl':Bool} {w:Nat} {xs xs':List AV} (hσ:σ o=some (.row bx false nr fl w xs)) (hl:xs'.length<=xs.length)
  (hs:∀x∈xs',AV.shaped x w) (hnr:nr'=true->AV.nrL xs'=true) (hfl:fl'=true->∀x∈xs',AV.scs x=true)
  (hc:∀(i j:Nat) (x' y':AV),xs'[i]?=some x'->x'.flat[j]?=some y'->∃x y,xs[i]?=some x/\x.flat[j]?=some y/\∀v,Qa M ι v y->Qa M ι v y') :
  Rel P B W0 D M ι (σ.put o (.row bx' false nr' fl' w xs')) W:=by
 obtain ⟨p,hp,hrow⟩:=h.row o _ _ _ _ _ _ hσ
 have key:=h.write (bx':=bx') (nr':=nr') (fl':=fl') (xs':=xs') hσ hp 0 [] (by simp) (bT hl hrow.len) hs hnr hfl (fun i j x y hi hj hlo hhi=>by simp at hhi)
  (fun i j x' y' hi hj _=>by
   obtain ⟨x,y,h1,h2,h3⟩:=hc i j x' y' hi hj
   obtain ⟨v,hv,hr⟩:=hrow.cells i j x y h1 h2
   exact ⟨v,by rw [<-cF]; exact hv,h3 v hr⟩)
 exact key
theorem Rel.virts (h:Rel P B W0 D M ι σ W) (S:Nat -> Prop) [DecidablePred S] (w:Nat) (fl:Bool) (hw:0 < w) (hS:∀o,S o->ι o=none) :
  Rel P B W0 D M (fun o=>if S o then some ⟨B,0,w,0⟩ else ι o) (fun o=>if S o then some (.row false false true fl w []) else σ o) W:=by
 have hle:ι.le (fun o=>if S o then some ⟨B,0,w,0⟩ else ι o):=fun o p hp=>by
  by_cases e:S o
  ·rw [hS o e] at hp; cases hp
  simp [e,hp]
 refine ⟨h.size,h.below,h.defs,h.agree,fun k bx1 nr1 fl1 w1 xs1 q j hk hq hj=>?_,?_,?_,?_,?_,?_⟩
 ·by_cases e:S k
  ·simp only [e,eC] at hk hq; cases hk; cases hq; simp at hj
  ·simp only [e,dZ] at hk hq; exact h.cool _ _ _ _ _ _ _ _ hk hq hj
 ·intro o bx ro nr fl' w' xs ho
  by_cases e:S o
  ·simp only [e,eC] at ho ⊢
   cases ho
   exact ⟨_,rfl,⟨rfl,hw,.inr rfl,aY _,by simp,by simp [AV.nrL],by simp,by simp,fun _=>⟨aY _,fun k hk=>by simp at hk⟩,fun hf=>by cases hf⟩⟩
  ·simp only [e,dZ] at ho ⊢
   obtain ⟨q,hq,hr⟩:=h.row o bx ro nr fl' w' xs ho
   refine ⟨q,hq,⟨hr.pw,hr.pos,hr.cpos,hr.len,hr.shaped,hr.nr,hr.fl,fun i j x y hi hj=>?_,hr.own,hr.imm⟩⟩
   obtain ⟨v,hv,hrep⟩:=hr.cells i j x y hi hj
   exact ⟨v,hv,hrep.mono (CM.le_refl _) hle⟩
 ·intro o fn sl ps as bd st pe ho
  by_cases e:S o
  ·simp [e] at ho
  ·simp only [e,dZ] at ho ⊢
   obtain ⟨q,nt,hq,hnt,hb,tmps,hsz,hrec,hsl⟩:=h.loop o fn sl ps as bd st pe ho
   exact ⟨q,nt,hq,hnt,hb,tmps,hsz,hrec,Qdo (CM.le_refl _) hle hsl⟩
 ·intro o o' bx nr fl1 w1 xs1 bx' nr' fl2 w2 xs2 p p' hne h1 h2 hp hp'
  by_cases e:S o
  ·simp only [e,eC] at hp
   cases hp
   right; left; simp
  ·by_cases e':S o'
   ·simp only [e',eC] at hp'
    cases hp'
    right; right; simp
   ·simp only [e,e',dZ] at h1 h2 hp hp'
    exact h.apart _ _ _ _ _ _ _ _ _ _ _ _ _ _ hne h1 h2 hp hp'
 ·intro o o' fn sl ps as bd st pe fn' sl' ps' as' bd' st' pe' p p' hne h1 h2 hp hp'
  by_cases e:S o
  ·simp [e] at h1
  ·by_cases e':S o'
   ·simp [e'] at h2
   ·simp only [e,e',dZ] at h1 h2 hp hp'
    exact h.loops _ _ _ _ _ _ _ _ _ _ _ _ _ _ _ _ _ _ hne h1 h2 hp hp'
 ·intro o ho
  by_cases e:S o
  ·simp [e] at ho
  ·simp only [e,dZ] at ho ⊢
   exact h.used o ho
theorem Q5q (o w:Nat) (fl:Bool) {α γ:Type} {x0:α} {n:Nat} {enc1:α->AV} (enc:γ->AV) {nr0 fl0:Bool} (ho:st.objs[o]?=some (.row false false nr0 fl0 1 ((List.replicate n x0).map enc1))) (ha:Qhy (enc1 x0)=true)
  (hw:(Nat.blt 0 w && Nat.blt st.objs.length BIG)=true)
  (hS:(⟨st.slots,st.objs.set o (.refs st.objs.length ((List.replicate n ([]:List γ)).map fun l=>l.map enc))++[.fam w fl ((List.replicate n ([]:List γ)).map fun l=>l.map enc)],st.nt⟩:St)=st'):Wk P base st st':=by
 classical
 subst hS
 simp only [aE] at hw
 have hw0:=Xr hw.1
 have hbig:=Xr hw.2
 intro B W0 D0 dl M ι a W h
 have hol:o < st.objs.length:=(aD.1 ho).1
 have hob:=h.lt ho
 generalize hxs:((List.replicate n ([]:List γ)).map fun l=>l.map enc)=xs at *
 have hxl:xs.length=n:=by rw [<-hxs]; simp
 have hxe:∀(i:Nat) (l:List AV),xs[i]?=some l->l=[]:=fun i l hi=>by
  rw [<-hxs] at hi
  simp only [bC,cI] at hi
  split at hi
  ·simp at hi; exact hi
  cases hi
 have hS:∀id,(∃i,id=fid st.objs.length i)->ι id=none:=fun id hid=>h.new id (by
  obtain ⟨i,rfl⟩:=hid
  rintro (c | ⟨k,i',hk,e⟩)
  ·have:=Zx st.objs.length i; omega
  have:=(Vh e).1; omega)
 have r1:=h.rel.virts (fun id=>∃i,id=fid st.objs.length i) w fl hw0 hS
 have hle:ι.le (fun id=>if (∃i,id=fid st.objs.length i) then some ⟨B,0,w,0⟩ else ι id):=fun id p hp=>by
  by_cases e:∃i,id=fid st.objs.length i
  ·rw [hS id e] at hp; cases hp
  simp only [e,dZ]; exact hp
 have hno:¬ ∃i,o=fid st.objs.length i:=fun ⟨i,e⟩=>by have:=Zx st.objs.length i; omega
 have hos:(fun id=>if (∃i,id=fid st.objs.length i) then some (AObj.row false false true fl w []) else sto st.objs id) o=some (.row false false nr0 fl0 1 ((List.replicate n x0).map enc1)):=by
  simp only [hno,dZ]; exact Qdg hob ho rfl
 have r2:=r1.row1 (bx':=false) (nr':=false) (fl':=false) (xs':=Zr st.objs.length 0 xs) hos (by simp [Y2,hxl]) (fun x hx=>by
   obtain ⟨i,hi⟩:=bO.1 hx
   rw [Y7] at hi
   cases hl:xs[i]? with
   | none=>rw [hl] at hi; cases hi
   | some l=>rw [hl] at hi; simp at hi; subst hi; exact ⟨.inr rfl,rfl,fun z hz=>by simp [AV.flat] at hz; subst hz; rfl⟩) (by simp) (by simp)
  (fun i c x' y' hi hc=>by
   rw [Y7] at hi
   cases hl:xs[i]? with
   | none=>rw [hl] at hi; cases hi
   | some l =>
    rw [hl] at hi
    have hl0:=hxe i l hl
    subst hl0
    simp only [bI,dN,List.length_nil,aK] at hi
    subst hi
    have hin:i < n:=by rw [<-hxl]; exact (aD.1 hl).1
    obtain ⟨p0,_,hrow0⟩:=h.rel.row o _ _ _ _ _ _ (Qdg hob ho rfl)
    have hx0:((List.replicate n x0).map enc1)[i]?=some (enc1 x0):=by simp [hin]
    cases c with
    | succ c=>simp [AV.flat] at hc
    | zero =>
     simp only [AV.flat,eG,aK] at hc
     subst hc
     have hf:(enc1 x0).flat[0]?=some (enc1 x0):=by cases hz:enc1 x0 <;> simp [hz,Qhy] at ha <;> rfl
     refine ⟨_,_,hx0,hf,fun v hv=>?_⟩
     obtain ⟨ad,rfl⟩:=Qld ha hv
     exact .ref0 ad _ ⟨B,0,w,0⟩ (aH ⟨i,rfl⟩) rfl)
 have key:∀k,sto (st.objs.set o (.refs st.objs.length xs)++[.fam w fl xs]) k=Sto.put (fun id=>if (∃i,id=fid st.objs.length i) then some (AObj.row false false true fl w []) else sto st.objs id) o (.row false false false false 1 (Zr st.objs.length 0 xs)) k \/
   sto (st.objs.set o (.refs st.objs.length xs)++[.fam w fl xs]) k=none\/sto (st.objs.set o (.refs st.objs.length xs)++[.fam w fl xs]) k=some .dead:=by
  intro k
  have hget:∀m:Nat,m≠o->m≠st.objs.length->(st.objs.set o (AObj.refs st.objs.length xs)++[AObj.fam w fl xs])[m]?=st.objs[m]?:=fun m h1 h2=>by
   rcases aZ m st.objs.length with c | c
   ·rw [aV (by simpa using c),bX (Ne.symm h1)]
   rw [dH (by simp; omega),dH c]
  have hgo:(st.objs.set o (AObj.refs st.objs.length xs)++[AObj.fam w fl xs])[o]?=some (.refs st.objs.length xs):=by
   rw [aV (by simpa using hol),bW hol]
  have hgj:(st.objs.set o (AObj.refs st.objs.length xs)++[AObj.fam w fl xs])[st.objs.length]?=some (.fam w fl xs):=by
   rw [aW (by simp)]; simp
  rcases aZ k BIG with c | c
  ·have hnk:¬ ∃i,k=fid st.objs.length i:=fun ⟨i,e⟩=>by have:=Zx st.objs.length i; omega
   rw [Zl c]
   by_cases e:k=o
   ·subst e; left; rw [hgo,Sto.put_same]; rfl
   ·by_cases e2:k=st.objs.length
    ·subst e2; right; right; rw [hgj]; rfl
    ·left; rw [hget k e e2,Sto.put_ne _ _ e]; simp only [hnk,dZ]; rw [Zl c]
  ·have eo:k≠o:=fun e=>by omega
   rw [Sto.put_ne _ _ eo]
   rcases J5 (st.objs.set o (AObj.refs st.objs.length xs)++[AObj.fam w fl xs]) k with ⟨c',_⟩ | ⟨_,⟨m,i,w',fl',ys,l,rfl,e2,e3,e4⟩ | e⟩
   ·omega
   ·left
    rw [e4]
    by_cases em:m=st.objs.length
    ·subst em
     rw [hgj] at e2; cases e2
     have:=hxe i l e3; subst this
     have hex:∃i',fid st.objs.length i=fid st.objs.length i':=⟨i,rfl⟩
     simp only [hex,eC]
    ·have hex:¬ ∃i',fid m i=fid st.objs.length i':=fun ⟨i',e⟩=>em (Vh e).1
     simp only [hex,dZ]
     have emo:m≠o:=fun e=>by subst e; rw [hgo] at e2; cases e2
     rw [hget m emo em] at e2
     rw [X8 e2 e3]
   ·exact .inr (.inl e)
 refine ⟨M,_,.refl _ _,hle.leB base,⟨r2.forget key,h.slots.mono (CM.le_refl _) hle,h.nt,h.df,fun k hk=>?_,by simp; omega⟩⟩
 have hk:¬ InB (st.objs.length+1) k:=by simpa using hk
 have hex:¬ ∃i,k=fid st.objs.length i:=fun ⟨i,e⟩=>hk (.inr ⟨st.objs.length,i,Nat.lt_succ_self _,e⟩)
 simp only [hex,dZ]
 exact h.new k (fun c=>hk (c.mono (Nat.le_succ _)))
def Qd3 (m:Nat) (ids:List Nat):Bool:=ids.all fun k=>Nat.blt k BIG && !Nat.beq k m
def AObj.safe (m j:Nat):AObj->Bool
 | .row _ _ nr _ _ xs=>nr || Qd3 m (AV.idsL xs)
 | .loop _ sl _ _ _ _ _=>Qd3 m (AV.idsL (sl.map (·.2)))
 | .refs j' _=>!Nat.beq j' j
 | _=>true
def Qgm (m j o:Nat):Nat -> List AObj->Bool
 | _,[]=>true
 | k,x::xs=>(Nat.beq k o || x.safe m j) && Qgm m j o (k+1) xs
theorem Qpo {m j o:Nat}:∀{k:Nat} {xs:List AObj},Qgm m j o k xs=true->∀(i:Nat) (x:AObj),xs[i]?=some x->k+i≠o->x.safe m j=true
 | _,[],_,i,x,h,_=>by simp at h
 | k,y::ys,h,i,x,hi,hne=>by
  simp only [Qgm,aE,aM] at h
  cases i with
  | zero =>
   simp at hi; subst hi
   rcases h.1 with e | e
   ·exact absurd (aJ e) hne
   exact e
  | succ i=>exact Qpo h.2 i x (by simpa using hi) (by omega)
def Jz (m:Nat) (s:List (Nat × AV)):List Nat -> List (Nat × AV)
 | []=>[]
 | t::ts=>match lk s t with
  | some x=>if Qd3 m x.ids then (t,x)::Jz m s ts else Jz m s ts
  | none=>Jz m s ts
theorem Qdi {m:Nat} {s:List (Nat × AV)}:∀{ts:List Nat} {t:Nat} {x:AV},lk (Jz m s ts) t=some x->lk s t=some x/\Qd3 m x.ids=true
 | [],t,x,h=>by simp [Jz,lk] at h
 | t0::ts,t,x,h=>by
  simp only [Jz] at h
  split at h
  ·rename_i y hy
   split at h
   ·rename_i hs
    simp only [lk] at h
    split at h
    ·rename_i e
     have e:=aJ e
     subst e; cases h; exact ⟨hy,hs⟩
    exact Qdi h
   exact Qdi h
  exact Qdi h
theorem Qyg {m:Nat} {ids:List Nat} (h:Qd3 m ids=true):∀k∈ids,k < BIG/\k≠m:=fun k hk=>by
 simp only [Qd3,bM,aE,bE] at h
 obtain ⟨h1,h2⟩:=h k hk
 exact ⟨Xr h1,fun e=>by rw [e,dU] at h2; cases h2⟩
theorem Q1i {x y:AV} (h:y∈x.flat):∀o∈y.ids,o∈x.ids:=by
 cases x with
 | agg cs=>intro o ho; simp only [AV.ids,Qcd]; exact ⟨y,h,ho⟩
 | _=>simp only [AV.flat,bR] at h; subst h; exact fun o ho=>ho
theorem TrE.congr {ι':Inj} {x:AV} (h:∀o∈x.ids,ι' o=ι o):TrE M ι ι' x x :=
 ⟨fun _ h=>h,fun h=>h,fun j y hj=>⟨y,hj,fun v hv=>hv.congr (fun o ho=>h o (Q1i (aF hj) o ho)),fun v hv=>hv⟩⟩
theorem TrE.ref {ι':Inj} {o o' n:Nat} (h:∀p,ι o=some p->ι' o'=some p):TrE M ι ι' (.ref o 0 n) (.ref o' 0 n):=by
 refine ⟨fun w hw=>Qjz (f:=fun _=>some o') rfl hw,fun h=>(by cases h),fun c y' hc=>?_⟩
 cases c with
 | succ c=>simp [AV.flat] at hc
 | zero =>
  simp only [AV.flat,eG,aK] at hc
  subst hc
  refine ⟨_,rfl,fun v hv=>?_,fun v hv=>?_⟩
  ·obtain ⟨p,hp,hq⟩:=Qge hv
   exact hq _ _ (h p hp)
  obtain ⟨p,hp,_⟩:=Qge hv
  cases hp
theorem Sim.adopt (h:Sim P B W0 D0 dl M ι st a W) {o j m n w:Nat} {fl:Bool} {cells l:List AV} {xs xs':List (List AV)} {live:List Nat}
  (ho:st.objs[o]?=some (.row false false false false 1 cells)) (hj:st.objs[j]?=some (.fam w fl xs)) (hm:st.objs[m]?=some (.row false false true fl w l))
  (hlen:xs'.length=cells.length) (hn:cells[n]?=some (.ref m 0 l.length)) (hxn:xs'[n]?=some l)
  (hoth:∀(i:Nat) (c:AV),i≠n->cells[i]?=some c->∃l',xs'[i]?=some l'/\xs[i]?=some l'/\c=.ref (fid j i) 0 l'.length)
  (hsafe:Qgm m j o 0 st.objs=true) (hbm:base<=m) (hbj:base<=j) :
  ∃ι',Inj.leB base ι ι'/\Sim P B W0 D0 dl M ι' ⟨Jz m st.slots live,((st.objs.set o (.refs j xs')).set j (.fam w fl xs')).set m .dead,st.nt⟩ a W:=by
 classical
 have hob:=h.lt ho
 have hjb:=h.lt hj
 have hmb:=h.lt hm
 have hoj:o≠j:=fun e=>by subst e; rw [ho] at hj; cases hj
 have hom:o≠m:=fun e=>by subst e; rw [ho] at hm; cases hm
 have hjm:j≠m:=fun e=>by subst e; rw [hj] at hm; cases hm
 have hol:=(aD.1 ho).1
 have hjl:=(aD.1 hj).1
 have hml:=(aD.1 hm).1
 have hfm:fid j n≠m:=fun e=>by have:=Zx j n; omega
 generalize hobjs:((st.objs.set o (.refs j xs')).set j (.fam w fl xs')).set m .dead=objs'
 have gO:objs'[o]?=some (.refs j xs'):=by rw [<-hobjs,bX hom.symm,bX hoj.symm,bW hol]
 have gJ:objs'[j]?=some (.fam w fl xs'):=by rw [<-hobjs,bX hjm.symm,bW (by simpa using hjl)]
 have gM:objs'[m]?=some .dead:=by rw [<-hobjs,bW (by simpa using hml)]
 have gE:∀k:Nat,k≠o->k≠j->k≠m->objs'[k]?=st.objs[k]?:=fun k h1 h2 h3=>by
  rw [<-hobjs,bX h3.symm,bX h2.symm,bX h1.symm]
 have gL:objs'.length=st.objs.length:=by rw [<-hobjs]; simp
 let g:Nat -> Option Nat := fun k=>if k=fid j n then some m else if k=m then none else some k
 have g1:g (fid j n)=some m:=aH rfl
 have g2:∀k,k≠fid j n->k≠m->g k=some k:=fun k e1 e2=>by simp only [g,e1,e2,dZ]
 let ι':Inj:=fun k=>(g k).bind ι
 have i1:ι' (fid j n)=ι m:=by simp only [ι',g1,aC]
 have i2:∀k,k≠fid j n->k≠m->ι' k=ι k:=fun k e1 e2=>by simp only [ι',g2 k e1 e2,aC]
 have isafe:∀ids,Qd3 m ids=true->∀k∈ids,ι' k=ι k:=fun ids hs k hk=>by
  obtain ⟨c1,c2⟩:=Qyg hs k hk
  exact i2 k (fun e=>by have:=Zx j n; omega) c2
 have hobj:∀k x',sto objs' k=some x'->x'≠.dead->∃q x,g k=some q/\sto st.objs q=some x/\TrO M ι ι' x x':=by
  intro k x' hk hd
  rcases J5 objs' k with ⟨c,e⟩ | ⟨c,⟨q,i,w',fl',ys,z,rfl,e2,e3,e4⟩ | e⟩
  ·rw [e] at hk
   have hkf:k≠fid j n:=fun e=>by have:=Zx j n; omega
   by_cases ko:k=o
   ·subst ko
    rw [gO] at hk; cases hk
    refine ⟨k,_,g2 k hkf hom,Qdg hob ho rfl,.row _ _ _ _ _ _ _ (by simp [Y2,hlen]) (fun e=>by cases e) (fun i c c' h1 h2=>?_)⟩
    rw [Y7] at h2
    by_cases ein:i=n
    ·subst ein
     rw [hn] at h1; cases h1
     rw [hxn] at h2
     simp only [bI,dN,aK] at h2
     subst h2
     exact .ref fun p hp=>by rw [i1]; exact hp
    obtain ⟨l',e1,_,rfl⟩:=hoth i c ein h1
    rw [e1] at h2
    simp only [bI,dN,aK] at h2
    subst h2
    exact .ref fun p hp=>by rw [i2 _ (fun e=>ein (Vh e).2) (fun e=>by have:=Zx j i; omega)]; exact hp
   by_cases kj:k=j
   ·subst kj; rw [gJ] at hk; cases hk; exact absurd rfl hd
   by_cases km:k=m
   ·subst km; rw [gM] at hk; cases hk; exact absurd rfl hd
   rw [gE k ko kj km] at hk
   cases hx:st.objs[k]? with
   | none=>rw [hx] at hk; cases hk
   | some x =>
    rw [hx] at hk
    simp only [bI,aK] at hk
    subst hk
    have hs:=Qpo hsafe k x hx (by omega)
    have hst:sto st.objs k=some x.plain:=by rw [Zl c,hx]; rfl
    refine ⟨k,_,g2 k hkf km,hst,?_⟩
    cases x with
    | dead=>exact absurd rfl hd
    | fam _ _ _=>exact absurd rfl hd
    | row bx ro nr fl0 w0 ys =>
     simp only [AObj.safe,aM] at hs
     rcases hs with hs | hs
     ·obtain ⟨_,_,hro⟩:=h.rel.row k _ _ _ _ _ _ hst
      exact .sameRow (hro.nr hs)
     exact .row _ _ _ _ _ _ _ rfl (fun _ e=>e) (fun i y y' h1 h2=>by
      rw [h1] at h2; cases h2
      exact TrE.congr fun o ho=>isafe _ hs o (Qcd.2 ⟨y,aF h1,ho⟩))
    | loop nt sl ps as bd s pe =>
     simp only [AObj.safe] at hs
     refine .loop _ _ _ _ _ _ _ _ (fun t y hy=>⟨y,hy,fun v hv=>hv.congr fun o ho=>isafe _ hs o (Qcd.2 ⟨y,?_,ho⟩)⟩)
     have:∀(s:List (Nat × AV)),lk s t=some y->y∈s.map (·.2):=fun s=>by
      induction s with
      | nil=>intro e; cases e
      | cons q r ih =>
       intro e
       obtain ⟨k0,v0⟩:=q
       simp only [lk] at e
       split at e
       ·cases e; simp
       simp [ih e]
     exact this sl hy
    | refs j' ys =>
     simp only [AObj.safe,bE] at hs
     have hjj:j'≠j:=fun e=>by rw [e,dU] at hs; cases hs
     refine .row _ _ _ _ _ _ _ rfl (fun _ e=>e) (fun i y y' h1 h2=>?_)
     rw [h1] at h2; cases h2
     rw [Y7] at h1
     cases hl:ys[i]? with
     | none=>rw [hl] at h1; cases h1
     | some l0 =>
      rw [hl] at h1
      simp only [bI,dN,aK] at h1
      subst h1
      exact .ref fun p hp=>by rw [i2 _ (fun e=>hjj (Vh e).1) (fun e=>by have:=Zx j' i; omega)]; exact hp
  ·rw [e4] at hk; cases hk
   have hfk:fid q i≠m:=fun e=>by have:=Zx q i; omega
   by_cases qj:q=j
   ·subst qj
    rw [gJ] at e2; cases e2
    by_cases ein:i=n
    ·subst ein
     rw [hxn] at e3; cases e3
     have hst:=Qdg hmb hm rfl
     obtain ⟨_,_,hro⟩:=h.rel.row m _ _ _ _ _ _ hst
     exact ⟨m,_,g1,hst,.sameRow (hro.nr rfl)⟩
    have hil:i < cells.length:=by rw [<-hlen]; exact (aD.1 e3).1
    obtain ⟨l',e1,e5,_⟩:=hoth i _ ein (aG hil)
    rw [e1] at e3; cases e3
    have hst:=X8 hj e5
    obtain ⟨_,_,hro⟩:=h.rel.row _ _ _ _ _ _ _ hst
    exact ⟨_,_,g2 _ (fun e=>ein (Vh e).2) hfk,hst,.sameRow (hro.nr rfl)⟩
   have qo:q≠o:=fun e=>by subst e; rw [gO] at e2; cases e2
   have qm:q≠m:=fun e=>by subst e; rw [gM] at e2; cases e2
   rw [gE q qo qj qm] at e2
   have hst:=X8 e2 e3
   obtain ⟨_,_,hro⟩:=h.rel.row _ _ _ _ _ _ _ hst
   exact ⟨_,_,g2 _ (fun e=>qj (Vh e).1) hfk,hst,.sameRow (hro.nr rfl)⟩
  rw [e] at hk; cases hk
 have hrel:Rel P B W0 (dl++D0) M ι' (sto objs') W:=by
  refine h.rel.via g (fun k k' q e1 e2=>?_) (fun k q e=>by simp only [ι',e,aC]) hobj (fun k hk=>?_)
  ·by_cases c1:k=fid j n
   ·by_cases c2:k'=fid j n
    ·rw [c1,c2]
    by_cases c3:k'=m
    ·simp only [g,c3,Ne.symm hfm,dZ,eC] at e2; cases e2
    rw [g2 k' c2 c3] at e2; cases e2; rw [c1,g1] at e1; cases e1; exact absurd rfl c3
   by_cases c3:k=m
   ·simp only [g,c3,Ne.symm hfm,dZ,eC] at e1; cases e1
   rw [g2 k c1 c3] at e1; cases e1
   by_cases c2:k'=fid j n
   ·rw [c2,g1] at e2; cases e2; exact absurd rfl c3
   by_cases c4:k'=m
   ·simp only [g,c4,Ne.symm hfm,dZ,eC] at e2; cases e2
   rw [g2 k' c2 c4] at e2; cases e2; rfl
  cases hx:sto objs' k with
  | none=>exact .inl rfl
  | some x' =>
   right
   by_cases hd:x'=.dead
   ·rw [hd]
   obtain ⟨q,x,e1,e2,e3⟩:=hobj k x' hx hd
   have:ι q=none:=by simpa only [ι',e1,aC] using hk
   rcases h.rel.used q this with e | e
   ·rw [e2] at e; cases e
   rw [e2] at e; cases e; exact absurd rfl e3.alive
 refine ⟨ι',fun k p hk hp=>?_,⟨hrel,fun t y hy=>?_,h.nt,h.df,fun k hk=>?_,by show objs'.length<=BIG; rw [gL]; exact h.big⟩⟩
 ·have h1:k≠m:=by
   rcases hk with hk | ⟨q,i,hq,rfl⟩
   ·omega
   ·have:=Zx q i; omega
  have h2:k≠fid j n:=by
   rcases hk with hk | ⟨q,i,hq,rfl⟩
   ·intro e
    have:=Zx j n; omega
   ·intro e; have:=(Vh e).1; omega
  rw [i2 k h2 h1]; exact hp
 ·obtain ⟨q1,q2⟩:=Qdi hy
  exact (h.slots t y q1).congr fun o ho=>isafe _ q2 o ho
 ·have hk:¬ InB objs'.length k:=hk
  rw [gL] at hk
  by_cases c1:k=fid j n
  ·exact absurd (.inr ⟨j,n,hjl,c1⟩) hk
  ·by_cases c2:k=m
   ·exact absurd (.inl (by omega)) hk
   ·rw [i2 k c1 c2]; exact h.new k hk
abbrev eF {γ:Type} (enc:γ->AV) (ls:List (List γ)):List (List AV):=ls.map fun l=>l.map enc
theorem Qts {γ:Type} (enc:γ->AV) (ls:List (List γ)) (n:Nat) (b:List γ):eF enc (ls.set n b)=(eF enc ls).set n (b.map enc):=by simp [eF,List.map_set]
theorem Q0x (o j m:Nat) {γ:Type} {enc:γ->AV} {ls:List (List γ)} {x b:List γ} {n:Int} {w:Nat} {fl:Bool} (live:List Nat)
  (ho:st.objs[o]?=some (.row false false false false 1 ((Zr j 0 (eF enc ls)).set n.toNat (.ref m 0 b.length)))) (hj:st.objs[j]?=some (.fam w fl (eF enc ls))) (hm:st.objs[m]?=some (.row false false true fl w (b.map enc)))
  (hx:lkI ls n=some x) (hc:(Qgm m j o 0 st.objs && Nat.ble base m && Nat.ble base j)=true)
  (hS:(⟨Jz m st.slots live,((st.objs.set o (.refs j (eF enc (ls.set n.toNat b)))).set j (.fam w fl (eF enc (ls.set n.toNat b)))).set m .dead,st.nt⟩:St)=st'):Wk P base st st':=by
 subst hS
 simp only [aE] at hc
 intro B W0 D0 dl M ι a W h
 obtain ⟨_,h2,_⟩:=Xl hx
 obtain ⟨ι',g1,g2⟩:=h.adopt (base:=base) (n:=n.toNat) (xs':=eF enc (ls.set n.toNat b)) (live:=live) ho hj hm (by simp [Y2]) (by rw [bW (by simpa [Y2] using h2)]; simp) (by simp [eF,h2])
  (fun i c hi hcc=>by
   rw [bX (Ne.symm hi),Y7] at hcc
   cases hl:(eF enc ls)[i]? with
   | none=>rw [hl] at hcc; cases hcc
   | some l' =>
    rw [hl] at hcc
    simp only [bI,dN,aK] at hcc
    exact ⟨l',by rw [Qts,bX (Ne.symm hi)]; exact hl,rfl,hcc.symm⟩) hc.1.1 (bL hc.1.2) (bL hc.2)
 exact ⟨M,ι',.refl _ _,g1,g2⟩
theorem Qrj {σ:Sto} {all:List Nat}:∀(os:List Nat),(∀o∈os,∃bx ro fl w xs,σ o=some (.row bx ro true fl w xs))->∃es,Qao σ all os=some es
 | [],_=>⟨[],rfl⟩
 | o::os,h=>by
  obtain ⟨es,he⟩:=Qrj (all:=all) os (fun k hk=>h k (by simp [hk]))
  obtain ⟨bx,ro,fl,w,xs,ho⟩:=h o (by simp)
  exact ⟨(o,.row bx true true fl w xs)::es,by simp [Qao,ho,he]⟩
theorem Q4a (o j:Nat) {γ:Type} {enc:γ->AV} {ls:List (List γ)} {w:Nat} {fl:Bool} (ho:st.objs[o]?=some (.refs j (eF enc ls))) (hj:st.objs[j]?=some (.fam w fl (eF enc ls)))
  (hS:(⟨st.slots,(st.objs.set o (.row false false true false 1 (ls.map fun l=>eL fl enc l))).set j .dead,st.nt⟩:St)=st'):Wk P base st st':=by
 subst hS
 intro B W0 D0 dl M ι a W h
 have hob:=h.lt ho
 have hjb:=h.lt hj
 have hoj:o≠j:=fun e=>by subst e; rw [ho] at hj; cases hj
 have hol:=(aD.1 ho).1
 have hjl:=(aD.1 hj).1
 let ids:=(List.range ls.length).map (fid j)
 have hin:∀i l,(eF enc ls)[i]?=some l->sto st.objs (fid j i)=some (.row false false true fl w l):=fun i l hi=>X8 hj hi
 obtain ⟨es,hes⟩:=Qrj (σ:=sto st.objs) (all:=ids) ids (fun k hk=>by
  simp only [ids,bZ,cL] at hk
  obtain ⟨i,hi,rfl⟩:=hk
  exact ⟨false,false,fl,w,_,hin i (ls[i].map enc) (by simp [eF,hi])⟩)
 have r1:=Qaj h.rel (ids:=ids) hes
 have hg:=h.rel.growC ids
 have hnid:∀k,k < BIG->k ∉ ids:=fun k hk hm=>by
  simp only [ids,bZ,cL] at hm
  obtain ⟨i,_,rfl⟩:=hm
  have:=Zx j i; omega
 have hos0:sto st.objs o=some (.row false false false false 1 (Zr j 0 (eF enc ls))):=by rw [Zl hob,ho]; rfl
 have hos:(sto st.objs).puts es o=some (.row false false false false 1 (Zr j 0 (eF enc ls))):=by rw [Qat hes (hnid o hob)]; exact hos0
 have r2:=r1.row1 (bx':=false) (nr':=true) (fl':=false) (xs':=ls.map fun l=>eL fl enc l) hos (by simp [Y2,eF]) (fun x hx=>by
   simp only [bZ] at hx
   obtain ⟨l,_,rfl⟩:=hx
   exact ⟨.inr rfl,rfl,fun z hz=>by simp [AV.flat] at hz; subst hz; rfl⟩) (fun _=>Q3.2 fun x hx=>by
   simp only [bZ] at hx
   obtain ⟨l,_,rfl⟩:=hx
   rfl) (by simp)
  (fun i c x' y' hi hc=>by
   simp only [bC,aQ] at hi
   obtain ⟨l,hl,rfl⟩:=hi
   have hle:(eF enc ls)[i]?=some (l.map enc):=by simp [eF,hl]
   cases c with
   | succ c=>simp [AV.flat] at hc
   | zero =>
    simp only [AV.flat,eG,aK] at hc
    subst hc
    refine ⟨.ref (fid j i) 0 (l.map enc).length,.ref (fid j i) 0 (l.map enc).length,by rw [Y7,hle]; simp,rfl,fun v hv=>?_⟩
    have hv0:Qa M ι v (.ref (fid j i) 0 (l.map enc).length):=by
     obtain ⟨p,hp,_⟩:=Qge hv
     generalize (l.map enc).length=q at *
     cases hv with
     | ref0 _ _ p hp hc=>exact .ref0 _ _ p hp hc
     | ref _ _ _ p off cap hp h1 h2 h3=>exact .ref _ _ _ p off cap hp h1 h2 h3
    have hsn:Qu (sto st.objs) Qp (.ref (fid j i) 0 (l.map enc).length)=some (.lst fl (l.map enc),[fid j i]):=by
     show Qu (sto st.objs) (Qp - 1+1) _=_
     simp only [Qu,hin i _ hle]
     simp [List.take_of_length_le]
    have:=Ys h.rel ids Qp _ _ _ v hsn (fun k hk=>by
     simp at hk; subst hk
     simp only [ids,bZ,cL]
     exact ⟨i,(aD.1 hl).1,rfl⟩) hv0
    exact this.mono (CM.le_refl _) (Inj.noInj_le _))
 have key:∀k,sto ((st.objs.set o (.row false false true false 1 (ls.map fun l=>eL fl enc l))).set j .dead) k=((sto st.objs).puts es).put o (.row false false true false 1 (ls.map fun l=>eL fl enc l)) k \/
   sto ((st.objs.set o (.row false false true false 1 (ls.map fun l=>eL fl enc l))).set j .dead) k=none\/sto ((st.objs.set o (.row false false true false 1 (ls.map fun l=>eL fl enc l))).set j .dead) k=some .dead:=by
  intro k
  rcases aZ k BIG with c | c
  ·rw [Zl c]
   by_cases ko:k=o
   ·subst ko; left; rw [Sto.put_same,bX hoj.symm,bW hol]; rfl
   ·by_cases kj:k=j
    ·subst kj; right; right; rw [bW (by simpa using hjl)]; rfl
    ·left; rw [Sto.put_ne _ _ ko,Qat hes (hnid k c),bX (Ne.symm kj),bX (Ne.symm ko),Zl c]
  ·rcases J5 ((st.objs.set o (.row false false true false 1 (ls.map fun l=>eL fl enc l))).set j .dead) k with ⟨c',_⟩ | ⟨_,⟨q,i,w',fl',ys,z,rfl,e2,e3,e4⟩ | e⟩
   ·omega
   ·left
    have qj:q≠j:=fun e=>by subst e; rw [bW (by simpa using hjl)] at e2; cases e2
    have qo:q≠o:=fun e=>by subst e; rw [bX (Ne.symm qj),bW hol] at e2; cases e2
    rw [bX (Ne.symm qj),bX (Ne.symm qo)] at e2
    rw [e4,Sto.put_ne _ _ (fun e=>by have:=Zx q i; omega),Qat hes (fun hm=>by
     simp only [ids,bZ,cL] at hm
     obtain ⟨i',_,e⟩:=hm
     exact qj (Vh e).1.symm),X8 e2 e3]
   ·exact .inr (.inl e)
 exact ⟨_,ι,hg,.refl _ _,⟨r2.forget key,h.slots.mono hg.le (Inj.le_refl _),h.nt,h.df,fun k hk=>h.new k (by simpa using hk),by simpa using h.big⟩⟩
theorem Q7s (h:st=st'):Wk P base st st':=by subst h; exact Qwe
variable {rd:Option Nat} {ops:Array Oper} {S:St} {o:Oper} {out:AOut} {Φ:AOut->Prop} {d:Option (List Sk)} {i:Nat}
theorem Qzq {v:Option AV} {rds:List Nat} {s:Sk} (ho:Zy ops i st=some o) (he:Zb P false noC st.sto st.objs.length (lk st.slots) o=some (.val ⟨v,[],st.objs.length,rds⟩))
  (hS:Zg ops i st v []=some S) (hc:∀e∈rds,∃c∈s.2,Qmn c e) (k:RW P rd base ops (Q2 d [s]) (i+1) S Φ):RW P rd base ops d i st Φ:=by
 obtain ⟨h1,h2⟩:=J1 ho
 have hl:=Z4 hS
 unfold Zg at hS
 rw [h1] at hS
 simp only at hS
 split at hS
 ·rename_i objs slots ha hp
  cases hS
  exact Qcl ⟨o,_,h1,Qkj noC_sound h2 he ha hp hl,⟨fun e he=>(by cases he),hc⟩⟩ k
 ·cases hS
theorem Q09 {ob cl len:Nat} {ro nr fl:Bool} {w:Nat} {cells:List AV} {n:Int} (hi:Qcr P ops i st=some (.ref ob 0 len,n,w)) (hrow:st.sto ob=some (.row false ro nr fl w cells)) (h1:0<=n) (h2:n.toNat < len) (hcl:Qmn cl ob)
  (hS:Zg ops i st (some (.ptr ob n.toNat 0)) []=some S) (k:RW P rd base ops (Q2 d [([],[cl])]) (i+1) S Φ):RW P rd base ops d i st Φ:=by
 obtain ⟨o,t,x,ix,kk,T,e,E,ho,hop,hT,hk,hE,rfl,hx,hix⟩:=Qg7 hi
 refine Qzq (v:=some (.ptr ob n.toNat 0)) (rds:=[ob]) ho ?_ hS (fun e he=>⟨cl,by simp,by simp at he; subst he; exact hcl⟩) k
 have hneg:¬ n < 0:=by omega
 unfold Zb
 rw [hop]
 simp only [Zp,aS,dZ]
 unfold evalOp
 rw [hop]
 simp only [hT,hx,hix,hk,asN,hneg,dZ,hE,hrow,blt_true h2,dS,decide_true,eC,Zf,dN]
theorem Q61 {γ:Type} {enc:γ->AV} {ls:List (List γ)} {x:List γ} {n:Int} {ob j:Nat} (hi:Qcr P ops i st=some (.ref ob 0 ls.length,n,1)) (hrow:st.sto ob=some (.row false false false false 1 (Zr j 0 (eF enc ls))))
  (ha:lkI ls n=some x) (hS:Zg ops i st (some (.ptr ob n.toNat 0)) []=some S) (k:RW P rd base ops (Q2 d [([],[ob])]) (i+1) S Φ):RW P rd base ops d i st Φ:=by
 obtain ⟨h1,h2,_⟩:=Xl ha
 exact Q09 hi hrow h1 h2 (.inl rfl) hS k
theorem Qwo {γ:Type} {enc:γ->AV} {ls:List (List γ)} {x:List γ} {n:Int} {w j:Nat} {fl:Bool} (hj:st.objs[j]?=some (.fam w fl (eF enc ls))) (ha:lkI ls n=some x):st.sto (fid j n.toNat)=some (.row false false true fl w (x.map enc)):=by
 obtain ⟨_,_,h3⟩:=Xl ha
 exact X8 hj (by simp [eF,h3])
theorem Q79 {γ:Type} {enc:γ->AV} {ls:List (List γ)} {x:List γ} {y:γ} {n c:Int} {w j:Nat} {fl:Bool} (hi:Qcr P ops i st=some (.ref (fid j n.toNat) 0 x.length,c,w)) (hj:st.objs[j]?=some (.fam w fl (eF enc ls)))
  (ha:lkI ls n=some x) (hy:lkI x c=some y) (hb:Nat.blt j BIG=true) (hS:Zg ops i st (some (.ptr (fid j n.toNat) c.toNat 0)) []=some S) (k:RW P rd base ops (Q2 d [([],[j])]) (i+1) S Φ):RW P rd base ops d i st Φ:=by
 obtain ⟨h1,h2,_⟩:=Xl hy
 exact Q09 hi (Qwo hj ha) h1 h2 (.inr ⟨Xr hb,_,rfl⟩) hS k
theorem Q29 {ob cl m c:Nat} {bx ro nr fl:Bool} {w:Nat} {cells:List AV} {y:AV} (hp:Jm ops i st=some (ob,m,c)) (hrow:st.sto ob=some (.row bx ro nr fl w cells)) (hy:cells[m]?=some y) (hcl:Qmn cl ob)
  (hS:Qiv P ops i st c y=some S) (k:RW P rd base ops (Q2 d [([],[cl])]) (i+1) S Φ):RW P rd base ops d i st Φ:=by
 unfold Qiv at hS
 split at hS
 ·rename_i o ho
  split at hS
  ·rename_i t x hop
   split at hS
   ·rename_i T hT
    split at hS
    ·rename_i v hv
     have hx:evo (lk st.slots) x=some (.ptr ob m c):=by
      unfold Jm at hp
      rw [ho] at hp
      simp only [hop] at hp
      split at hp
      ·rename_i hx; cases hp; exact hx
      cases hp
     refine Qzq (v:=some v) (rds:=[ob]) ho ?_ hS (fun e he=>⟨cl,by simp,by simp at he; subst he; exact hcl⟩) k
     unfold Zb
     rw [hop]
     simp only [Zp,aS,dZ]
     unfold evalOp
     rw [hop]
     simp only [hT,hx,hrow,hy,hv,bI,Zf]
    ·cases hS
   ·cases hS
  ·cases hS
 ·cases hS
theorem Q7e {γ:Type} {enc:γ->AV} {ls:List (List γ)} {x:List γ} {n:Int} {ob j:Nat} (hp:Jm ops i st=some (ob,n.toNat,0)) (hrow:st.sto ob=some (.row false false false false 1 (Zr j 0 (eF enc ls))))
  (ha:lkI ls n=some x) (hS:Qiv P ops i st 0 (.ref (fid j n.toNat) 0 x.length)=some S) (k:RW P rd base ops (Q2 d [([],[ob])]) (i+1) S Φ):RW P rd base ops d i st Φ:=by
 obtain ⟨h1,h2,h3⟩:=Xl ha
 exact Q29 hp hrow (by rw [Y7]; simp [eF,h3]) (.inl rfl) hS k
theorem Q6w {γ:Type} {enc:γ->AV} {ls:List (List γ)} {x:List γ} {n:Int} {ob j m q:Nat} (hp:Jm ops i st=some (ob,n.toNat,0)) (hrow:st.sto ob=some (.row false false false false 1 (Zr j 0 (eF enc ls))))
  (ha:lkI ls n=some x) (hv:Qdq P ops i st=some (.ref m 0 q)) (hS:Zg ops i st none [(ob,.row false false false false 1 ((Zr j 0 (eF enc ls)).set n.toNat (.ref m 0 q)))]=some S) (hl:Nat.beq S.objs.length st.objs.length=true)
  (k:RW P rd base ops (Q2 d [([ob],[ob])]) (i+1) S Φ):RW P rd base ops d i st Φ:=by
 obtain ⟨h1,h2,h3⟩:=Xl ha
 obtain ⟨o,t,x0,y,T,ho,hop,hT,hx,hy,hc⟩:=Kd hp hv
 refine X6 (nf:=true) (fr:=st.objs.length) (rds:=[ob]) ho ?_ hS (aJ hl) k
 have hr:(Zr j 0 (eF enc ls))[n.toNat]?=some (.ref (fid j n.toNat) 0 x.length):=by rw [Y7]; simp [eF,h3]
 unfold Zb
 rw [hop]
 simp only [Zp,aS,dZ]
 unfold evalOp
 rw [hop]
 have hput:Qad (.ref (fid j n.toNat) 0 x.length) 0 (.ref m 0 q)=some (.ref m 0 q):=by simp [Qad,AV.cell]
 simp only [hT,hx,hy,hrow,hr,hc,eC,Bool.or_true,Bool.true_or,hput,frz,Qao,List.contains_nil,aS,dZ,cR,Zf,Bool.false_and]
theorem Q2d {objs:List AObj} {o j:Nat} {xs xs':List (List AV)} (ho:objs[o]?=some (.refs j xs)) (he:Zr j 0 xs'=Zr j 0 xs):sto (objs.set o (.refs j xs'))=sto objs:=by
 have hlt:=(aD.1 ho).1
 funext k
 rcases aZ k BIG with c | c
 ·rw [Zl c,Zl c]
  by_cases e:k=o
  ·subst e; rw [ho,bW hlt]; simp only [bI,AObj.plain,he]
  rw [bX (Ne.symm e)]
 refine Qdc (fun q w fl ys=>?_) c
 by_cases e:q=o
 ·subst e; rw [ho,bW hlt]; simp
 rw [bX (Ne.symm e)]
theorem Qnm (j:Nat):∀(i:Nat) (xs:List (List AV)) (n:Nat) (l:List AV),(∀y,xs[n]?=some y->y.length=l.length)->Zr j i (xs.set n l)=Zr j i xs
 | _,[],_,_,_=>rfl
 | i,y::ys,0,l,h=>by simp only [List.set_cons_zero,Zr,h y rfl]
 | i,y::ys,n+1,l,h=>by simp only [List.set_cons_succ,Zr]; rw [Qnm j (i+1) ys n l (fun z hz=>h z (by simpa using hz))]
def Q2x (ops:Array Oper) (i j o:Nat) (st:St) (x y:AObj):Option St :=
 match ops[i]? with
 | some op=>match Vw st.slots st.nt op.dst none with
  | some slots=>some ⟨slots,(st.objs.set j x).set o y,st.nt⟩
  | none=>none
 | none=>none
theorem Q5s {γ:Type} {enc:γ->AV} {ls:List (List γ)} {x:List γ} {y y':γ} {n m:Int} {w j q c:Nat} {fl:Bool} {v:AV} (hp:Jm ops i st=some (fid j n.toNat,m.toNat,c)) (hj:st.objs[j]?=some (.fam w fl (eF enc ls))) (hq:st.objs[q]?=some (.refs j (eF enc ls)))
  (ha:lkI ls n=some x) (hy:lkI x m=some y) (hb:Nat.blt j BIG=true) (hv:Qdq P ops i st=some v) (hk:(v.nr && (v.scs || !fl))=true) (hput:Qad (enc y) c v=some (enc y'))
  (hS:Q2x ops i j q st (.fam w fl (eF enc (ls.set n.toNat (x.set m.toNat y')))) (.refs j (eF enc (ls.set n.toNat (x.set m.toNat y'))))=some S) (k:RW P rd base ops (Q2 d [([j],[j])]) (i+1) S Φ):RW P rd base ops d i st Φ:=by
 obtain ⟨h1,h2,h3⟩:=Xl hy
 obtain ⟨g1,g2,g3⟩:=Xl ha
 obtain ⟨o,t,x0,y0,T,ho,hop,hT,hx,hyv,hc⟩:=Kd hp hv
 obtain ⟨q1,q2⟩:=J1 ho
 simp only [aE,aM,bE] at hk
 have hrow:=Qwo (st:=st) hj ha
 have hfl:(fl && v.scs)=fl:=by
  rcases hk.2 with e | e
  ·simp [e]
  simp [e]
 have he:Zb P false noC st.sto st.objs.length (lk st.slots) o=some (.val ⟨none,[(fid j n.toNat,.row false false true fl w ((x.set m.toNat y').map enc))],st.objs.length,[fid j n.toNat]⟩):=by
  unfold Zb
  rw [hop]
  simp only [Zp,aS,dZ]
  unfold evalOp
  rw [hop]
  simp only [hT,hx,hyv,hrow,bC,h3,bI,hc,eC,hk.1,Bool.or_true,hput,frz,Qao,List.contains_nil,aS,dZ,cR,Zf,List.map_set,dS,hfl]
 unfold Q2x at hS
 rw [q1] at hS
 simp only at hS
 have hjq:q≠j:=fun e=>by subst e; rw [hj] at hq; cases hq
 split at hS
 ·rename_i slots hpd
  cases hS
  refine Qcl (s:=([j],[j])) (st1:=⟨slots,(st.objs.set j (.fam w fl (eF enc (ls.set n.toNat (x.set m.toNat y'))))).set q (.refs j (eF enc (ls.set n.toNat (x.set m.toNat y')))),st.nt⟩) ⟨o,⟨none,[(fid j n.toNat,.row false false true fl w ((x.set m.toNat y').map enc))],st.objs.length,st.objs.length,[fid j n.toNat]⟩,q1,⟨ylL_ev noC_sound q2 he,rfl,by simp,?_,by simp,fun hb=>by simpa using hb,fun e=>(by cases e),hpd,rfl⟩,⟨fun e he=>?_,fun e he=>?_⟩⟩ k
  ·show sto ((st.objs.set j _).set q _)=_
   rw [Q2d (xs:=eF enc ls) (by rw [bX hjq.symm]; exact hq),Qts,Q39 hj (l:=x.map enc) (by simp [eF,g3])]
   ·rfl
   ·rw [Qts]
    exact Qnm _ _ _ _ _ (fun y hy=>by simp [eF,g3] at hy; subst hy; simp)
  ·simp at he; subst he; exact ⟨j,by simp,.inr ⟨Xr hb,_,rfl⟩⟩
  ·simp at he; subst he; exact ⟨j,by simp,.inr ⟨Xr hb,_,rfl⟩⟩
 ·cases hS
theorem exec_post {c:Code} {e:Xk} {st1:St} (h:Xf P rd base c st (.go e st')) (hw:Wk P base st' st1):Xf P rd base c st (.go e st1):=by
 intro B W0 D0 dl M ι a W n Q r hs hr hp
 refine h B W0 D0 dl M ι a W n Q r hs hr ⟨fun e' s he dl' M' ι' a' W' g1 g2 g3 g4=>?_,fun v he=>(by cases he)⟩
 cases he
 obtain ⟨M2,ι2,k1,k2,k3⟩:=hw _ _ _ _ _ _ _ _ g4
 exact hp.go e st1 rfl dl' M2 ι2 a' W' (g1.trans k1) (g2.trans k2) g3 k3
theorem Q3l {c:Code} (h:WP P rd base c st (fun out=>match out with | .go e s=>∃s1,Wk P base s s1/\Φ (.go e s1) | .pan v=>Φ (.pan v))):WP P rd base c st Φ:=by
 obtain ⟨out,h1,h2⟩:=h
 cases out with
 | pan v=>exact ⟨_,h1,h2⟩
 | go e s=>obtain ⟨s1,h3,h4⟩:=h2; exact ⟨_,exec_post h1 h3,h4⟩
theorem Qpg {α R:Type} {enc:α->AV} {l:List α} {ob:Nat} {ro nr fl:Bool} {lo hi:Option AV} {a b:Int} {w:Nat} {A:Option R} {r:R} (hi':Qo8 P ops i st=some (.ref ob 0 l.length,lo,hi,none,w)) (hrow:st.sto ob=some (.row false ro nr fl w (l.map enc)))
  (ha:loI lo=some a) (hb:hiI l.length hi=some b) (hS:Zg ops i st (some (.ref ob a.toNat (b.toNat - a.toNat))) []=some S)
  (h:(if 0<=a/\a<=b/\b<=l.length then A else none)=some r) (k:(0<=a/\a<=b/\b<=(l.length:Int))->A=some r->RW P rd base ops (Q2 d [([],[ob])]) (i+1) S Φ):RW P rd base ops d i st Φ:=by
 by_cases hc:0<=a/\a<=b/\b<=(l.length:Int)
 ·exact Q4w hi' hrow ha hb hS h (fun h=>k hc h)
 ·rw [aI hc] at h; cases h
end
end Go.Ab
namespace Go.Ab
open Go.RowKit
open Go.ChangeShapes in
theorem post_of_below {H:Type} {enc:TypeId × Value->H} {P:Program} {f:Func} {s:ChangeSpec} {apart fresh handsOn again:Bool} {W W':World} {args:Array Value} {v:Value} {ds gs:List (DataW H)} {before pa pv:List MemPlace}
  (hW:DataW.Whole enc P f.params.toList s.vars apart W args.toList ds gs before)
  (hres:∀(b:Nat) (sp:Nat -> Bool) (hd:Bool),DataW.TrodAll enc P W' b sp hd f.resultTypes.toList (v.resultList f.resultTypes.size) (s.fn H (ds++gs)).results [])
  (hargs:∀sp:Nat -> Bool,(∀p∈before,sp p.block=true)->DataW.TrodAll enc P W' 0 sp true f.params.toList args.toList (s.fn H (ds++gs)).args pa)
  (hvars:∀sp:Nat -> Bool,(∀p∈before,sp p.block=true)->DataW.TrodVars enc P W' sp s.vars (s.fn H (ds++gs)).vars pv)
  (hps:before=pa++pv) (hb:Below W.heap.size W W')
  (hok:∀(j:Nat) (t:TypeId) (r:Value),f.resultTypes[j]?=some t->(v.resultList f.resultTypes.size)[j]?=some r->Value.okWide P W' .any 0 t r) :
  s.post enc P f apart fresh handsOn again W args v W':=by
 have hold:∀p∈before,(fun b=>decide (b < W.heap.size)) p.block=true:=fun p hp=>by simpa using hW.lt p hp
 have hlt:=hW.lt
 refine ⟨ds,gs,before,[],pa,pv,hW,hres _ _ _,hargs _ hold,hvars _ hold,World.keptBut_mono (fun p hp=>⟨hp,?_⟩) (hb.frame (·∈before)),fun _=>?_⟩
 ·rw [hps,bQ] at hp
  exact Or.inr hp
 ·obtain ⟨_,_,_,_,_,hz,hn⟩:=hW
  refine ⟨hok,_,_,([]++pa)++pv,⟨[]++pa,pv,trodAll_append (hargs _ (fun _ _=>rfl)) (hres _ _ _),hvars _ (fun _ _=>rfl),rfl,?_,?_⟩,?_⟩
  ·intro b off hp
   have hm:MemPlace.cell b off∈before:=by rw [hps]; simpa using hp
   have h1:b < W.heap.size:=hlt _ hm
   rw [hb.frozen h1]
   exact hz b off hm
  ·intro ha
   have:=hn ha
   rw [hps] at this
   simpa using this
  ·intro p hp _
   rw [hps]
   simpa using hp
end Go.Ab
namespace Go.Ab
open Go.RowKit
theorem Qxr {M:CM} {ι:Inj} {v:Value} {fl:Bool} (h:Qa M ι v (.lst fl [])):Qa M ι v .nils\/Qa M ι v .emn:=by
 cases h with
 | lst0 a =>
  cases a with
  | none=>exact .inl .nils
  | some a=>exact .inr (.emn a 0)
 | lst b off cap=>exact .inr (.emn _ cap)
theorem Q6.nil {P:Program} {f:FuncId} {l1 l2:List AV} {fl:Bool} {out:Xe} (h1:Q6 P f (l1++.nils::l2) out) (h2:Q6 P f (l1++.emn::l2) out):Q6 P f (l1++.lst fl []::l2) out:=by
 intro W M vs hM hsz hr
 have hlt:l1.length < vs.size:=by simp at hsz; omega
 have h0:=hr l1.length vs[l1.length] (.lst fl []) (by simp [hlt]) (by simp)
 have other:∀y,Qa M noInj vs[l1.length] y->∀(j:Nat) (v:Value) (a:AV),vs[j]?=some v->(l1++y::l2)[j]?=some a->Qa M noInj v a:=by
  intro y hy j v a hv ha
  rcases Nat.lt_trichotomy j l1.length with c | c | c
  ·refine hr j v a hv ?_
   rw [aV c] at ha ⊢; exact ha
  ·subst c
   rw [aW (aY _)] at ha
   simp at ha; subst ha
   rw [aL hlt] at hv; cases hv; exact hy
  refine hr j v a hv ?_
  rw [aW (by omega)] at ha ⊢
  rw [show j - l1.length=(j - l1.length - 1)+1 by omega] at ha ⊢
  simpa using ha
 rcases Qxr h0 with e | e
 ·exact h1 W M vs hM (by simpa using hsz) (other _ e)
 exact h2 W M vs hM (by simpa using hsz) (other _ e)
section
variable {P:Program} {base:Nat} {st st':St}
end
theorem Q6.froz {P:Program} {f:FuncId} {args:List AV} {v y:AV} {objs:List AObj} {ids:List Nat} (h:Q6 P f args (.ret v objs)) (hs:Qu (fun k=>objs[k]?) Qp v=some (y,ids)):Q6 P f args (.ret y []):=by
 intro W M vs hM hsz hr
 refine (h W M vs hM hsz hr).mono fun e W' he=>?_
 obtain ⟨u,M',ι',rfl,hg,hrel,hout,hv⟩:=he
 refine ⟨u,_,noInj,rfl,hg.trans (hrel.growC ids),⟨hrel.size,hrel.below,hrel.defs,Qdb hrel.agree,fun o bx nr fl w xs p k ho=>(by simp at ho),fun o bx ro nr fl w xs ho=>(by simp at ho),fun o fn sl ps as bd st pe ho=>(by simp at ho),fun o o' bx nr fl w xs bx' nr' fl' w' xs' p p' _ ho=>(by simp at ho),fun o o' fn sl ps as bd st pe fn' sl' ps' as' bd' st' pe' p p' _ ho=>(by simp at ho),fun o _=>.inl (by simp)⟩,fun _ _=>rfl,Ys hrel ids Qp v y ids u hs (fun k hk=>hk) hv⟩
section
variable {P:Program} {rd:Option Nat} {base:Nat} {ops:Array Oper} {st S:St} {Φ:AOut->Prop} {d:Option (List Sk)} {i:Nat}
def Q8e (P:Program) (ops:Array Oper) (i:Nat) (st:St):Option (AV × AV × Nat) :=
 match Zy ops i st with
 | some o=>match o.op with
  | .call { callee:=.builtin .copy,args,argTypes }=>match args.toList,argTypes.toList with
   | [x,y],t::_=>match ti P t,evo (lk st.slots) x,evo (lk st.slots) y with
    | some T,some a,some b=>match T.kind with
     | .slice e=>match ti P e with
      | some E=>some (a,b,E.size)
      | none=>none
     | _=>none
    | _,_,_=>none
   | _,_=>none
  | _=>none
 | none=>none
theorem Qga {σ:Sto} {α:Type} {enc:α->AV} {l:List α} {w ob:Nat} {a b:Int} {ro nr fl:Bool} (hrow:σ ob=some (.row false ro nr fl w (l.map enc))) (hc:0<=a/\a<=b/\b<=(l.length:Int)) :
  Y3 σ w (.ref ob a.toNat (b.toNat - a.toNat))=some ((sub l a b).map enc,nr,fl,[ob]):=by
 have h1:Nat.ble (a.toNat + (b.toNat - a.toNat)) (l.map enc).length=true:=Nat.ble_eq_true_of_le (by simp; omega)
 simp [Y3,hrow,sub]
 omega
def Qsm (agg:Bool) (w:Nat) (cs:List AV):Option AV:=if agg then (if w<=cs.length then some (.agg (cs.take w)) else none) else cs.head?
def Qqo (P:Program) (ops:Array Oper) (i:Nat) (st:St):Option (List AV × Int × Nat × Nat × Bool) :=
 match Zy ops i st with
 | some o=>match o.op with
  | .index t x ix=>match ti P t,evo (lk st.slots) x,evo (lk st.slots) ix with
   | some T,some (.agg cs),some (.int _ n)=>match T.kind with
    | .array len e=>match ti P e with
     | some E=>some (cs,n,len,E.size,E.agg)
     | none=>none
    | _=>none
   | _,_,_=>none
  | _=>none
 | none=>none
theorem Qth {cs:List AV} {n:Int} {len w:Nat} {g:Bool} (h:Qqo P ops i st=some (cs,n,len,w,g)):∃o,Zy ops i st=some o /\
  ∀v,0<=n->n.toNat < len->Qsm g w (cs.drop (n.toNat * w))=some v->Zb P false noC st.sto st.objs.length (lk st.slots) o=some (.val ⟨some v,[],st.objs.length,[]⟩):=by
 unfold Qqo at h
 split at h
 ·rename_i o ho
  split at h
  ·rename_i t x ix hop
   split at h
   ·rename_i T cs' k n' hT hx hix
    split at h
    ·rename_i len' e hk
     split at h
     ·rename_i E hE
      cases h
      refine ⟨o,ho,fun v h1 h2 hv=>?_⟩
      have hneg:¬ n < 0:=by omega
      unfold Zb
      rw [hop]
      simp only [Zp,aS,dZ]
      unfold evalOp
      rw [hop]
      have hv':Kx E (cs.drop (n.toNat * E.size))=some v:=hv
      simp only [hT,hx,hix,hk,asN,hneg,dZ,hE,blt_true h2,eC,hv',Zw,bI,Zf]
     ·cases h
    ·cases h
   ·cases h
  ·cases h
 ·cases h
theorem Qrd {α:Type} {enc:α->AV} {w:Nat} (hw:∀x,Nat.beq (enc x).flat.length w=true):∀(l:List α) (j:Nat) (a:α),l[j]?=some a->∃r,(l.flatMap fun x=>(enc x).flat).drop (j*w)=(enc a).flat ++ r
 | [],j,a,h=>by simp at h
 | x::xs,0,a,h=>by
  simp at h; subst h
  exact ⟨_,by simp [List.flatMap_cons]; rfl⟩
 | x::xs,j+1,a,h=>by
  obtain ⟨r,hr⟩:=Qrd hw xs j a (by simpa using h)
  refine ⟨r,?_⟩
  rw [List.flatMap_cons,List.drop_append,aJ (hw x),List.drop_of_length_le (by rw [aJ (hw x),dO]; omega),cR,show (j+1)*w - w=j*w by rw [dO]; omega]
  exact hr
theorem Qz0 {g:Bool} {w:Nat} {cs r:List AV} {v:AV} (hl:cs.length=w) (h:Qsm g w cs=some v) (hne:cs≠[]):Qsm g w (cs++r)=some v:=by
 subst hl
 cases g with
 | true =>
  have h:(if cs.length<=cs.length then some (AV.agg (cs.take cs.length)) else none)=some v:=h
  show (if cs.length<=(cs++r).length then some (AV.agg ((cs++r).take cs.length)) else none)=some v
  rw [aH (by simp),List.take_append_of_le_length (aY _)]
  rw [aH (aY _)] at h; exact h
 | false =>
  cases cs with
  | nil=>exact absurd rfl hne
  | cons c cs=>exact h
theorem Q70 {α:Type} {enc:α->AV} {l:List α} {n:Int} {a:α} {w:Nat} {g:Bool} {v:AV} (hi:Qqo P ops i st=some (l.flatMap (fun x=>(enc x).flat),n,l.length,w,g)) (hw:∀x,Nat.beq (enc x).flat.length w=true) (h0:Nat.blt 0 w=true)
  (ha:lkI l n=some a) (hv:Qsm g w (enc a).flat = some v) (hS:Zg ops i st (some v) []=some S) (k:RW P rd base ops (Q2 d [([],[])]) (i+1) S Φ):RW P rd base ops d i st Φ:=by
 obtain ⟨h1,h2,h3⟩:=Xl ha
 obtain ⟨o,ho,hev⟩:=Qth hi
 obtain ⟨r,hr⟩:=Qrd hw l _ a h3
 have hl:=aJ (hw a)
 refine X6 ho (hev v h1 h2 ?_) hS (Z4 hS) k
 rw [hr]
 exact Qz0 hl hv (fun e=>by rw [e] at hl; simp at hl; rw [<-hl] at h0; cases h0)
end
end Go.Ab
namespace Go.Ab
open Go.RowKit
inductive Sh where
 | int (k:IntKind)
 | bool
 | str
 | slice (fl ag:Bool) (w:Nat) (e:Sh)
 | cat (a b:Sh)
 | unit
def Sh.scal:Sh->Bool
 | .slice ..=>false
 | .cat a b=>a.scal && b.scal
 | _=>true
def Sh.width:Sh->Nat
 | .cat a b=>a.width+b.width
 | .unit=>0
 | _=>1
def WT:Sh->List AV->Prop
 | .int k,cs=>∃n,cs=[.int k n]/\(Lit.int k n).wf=true
 | .bool,cs=>∃b,cs=[.bool b]
 | .str,cs=>∃s,cs=[.str s]/\s.size<=maxLen
 | .slice fl ag w e,cs=>∃xs,cs=[.lst fl xs]/\xs.length<=maxLen/\∀x∈xs,WT e x.flat /\ (if ag then x=.agg x.flat else x.cell=true)
 | .cat a b,cs=>∃x y,cs=x++y/\WT a x/\WT b y
 | .unit,cs=>cs=[]
def Qje (P:Program) (t:TypeId):Bool:=match P.underlying t with | some (.struct _)=>true | some (.array _ _)=>true | _=>false
def Qw3 (s:Sh):Nat -> Sh
 | 0=>.unit
 | n+1=>.cat s (Qw3 s n)
def Qki (P:Program) (rec:TypeId->Option Sh):List Field->Nat -> Option Sh
 | [],_=>some .unit
 | f::r,o=>match rec f.type with
  | some s=>if Nat.beq f.offset o && Nat.beq s.width (P.cellsOf f.type) then (match Qki P rec r (o+s.width) with | some q=>some (.cat s q) | none=>none) else none
  | none=>none
def Qj3 (P:Program):Nat -> TypeId->Option Sh
 | 0,_=>none
 | n+1,t=>match P.underlying t with
  | some .bool=>some .bool
  | some (.int k)=>some (.int k)
  | some .string=>some .str
  | some (.slice e)=>match Qj3 P n e with
   | some s=>if Nat.beq s.width (P.cellsOf e) && Nat.blt 0 (P.cellsOf e) && (Qje P e || Nat.beq s.width 1) then some (.slice s.scal (Qje P e) (P.cellsOf e) s) else none
   | none=>none
  | some (.struct fs)=>match Qki P (Qj3 P n) fs.toList 0 with
   | some s=>if Nat.beq s.width (P.cellsOf t) then some s else none
   | none=>none
  | some (.array m e)=>match Qj3 P n e with
   | some s=>if Nat.beq s.width (P.cellsOf e) && Nat.beq (m*s.width) (P.cellsOf t) then some (Qw3 s m) else none
   | none=>none
  | _=>none
theorem Quc:∀{s:Sh} {cs:List AV},WT s cs->cs.length=s.width
 | .int k,cs,h=>by obtain ⟨n,rfl,_⟩:=h; rfl
 | .bool,cs,h=>by obtain ⟨n,rfl⟩:=h; rfl
 | .str,cs,h=>by obtain ⟨n,rfl,_⟩:=h; rfl
 | .slice _ _ _ _,cs,h=>by obtain ⟨n,rfl,_⟩:=h; rfl
 | .cat a b,cs,h=>by obtain ⟨x,y,rfl,h1,h2⟩:=h; simp [Sh.width,Quc h1,Quc h2]
 | .unit,cs,h=>by cases h; rfl
theorem Qqd:∀{s:Sh} {cs:List AV},WT s cs->s.scal=true->cs.all AV.sc=true
 | .int k,cs,h,_=>by obtain ⟨n,rfl,_⟩:=h; rfl
 | .bool,cs,h,_=>by obtain ⟨n,rfl⟩:=h; rfl
 | .str,cs,h,_=>by obtain ⟨n,rfl,_⟩:=h; rfl
 | .slice _ _ _ _,cs,h,hs=>by cases hs
 | .cat a b,cs,h,hs=>by
  obtain ⟨x,y,rfl,h1,h2⟩:=h
  simp only [Sh.scal,aE] at hs
  rw [List.all_append,Qqd h1 hs.1,Qqd h2 hs.2]; rfl
 | .unit,cs,h,_=>by cases h; rfl
def Qay (M:CM) (cs:List Value) (avs:List AV):Prop:=avs.length=cs.length/\∀(j:Nat) (v:Value) (y:AV),cs[j]?=some v->avs[j]?=some y->Qa M noInj v y/\y.cell=true
theorem K5 {M:CM} {v:Value} {y:AV} (h:Qa M noInj v y) (hc:y.cell=true):Qay M [v] [y]:=by
 refine ⟨rfl,fun j v' y' h1 h2=>?_⟩
 cases j with
 | zero=>cases h1; cases h2; exact ⟨h,hc⟩
 | succ j=>simp at h1
theorem Qim {M:CM} {a b:List Value} {x y:List AV} (h1:Qay M a x) (h2:Qay M b y):Qay M (a++b) (x++y):=by
 refine ⟨by simp [h1.1,h2.1],fun j v z hv hz=>?_⟩
 rcases aZ j a.length with hj | hj
 ·rw [aV hj] at hv
  rw [aV (by rw [h1.1]; exact hj)] at hz
  exact h1.2 j v z hv hz
 rw [aW hj] at hv
 rw [aW (by rw [h1.1]; exact hj),h1.1] at hz
 exact h2.2 _ v z hv hz
theorem Qvd {α:Type} {n:Nat} {Q:Nat -> α->Prop} (h:∀i,i < n->∃x,Q i x):∃xs:List α,xs.length=n/\∀i x,xs[i]?=some x->Q i x:=by
 induction n with
 | zero=>exact ⟨[],rfl,fun i x hx=>by simp at hx⟩
 | succ n ih =>
  obtain ⟨xs,h1,h2⟩:=ih fun i hi=>h i (by omega)
  obtain ⟨x,hx⟩:=h n (by omega)
  refine ⟨xs++[x],by simp [h1],fun i y hy=>?_⟩
  rcases aZ i xs.length with hi | hi
  ·rw [aV hi] at hy; exact h2 i y hy
  rw [aW hi] at hy
  cases hk:i - xs.length with
  | zero =>
   rw [hk] at hy
   cases hy
   rw [show i=n by omega]; exact hx
  | succ k=>rw [hk] at hy; simp at hy
def Qbr (w:World) (hg:GlobIn w):CM:=⟨fun b o=>w.cell? ⟨b,o,none⟩,hg,fun _=>none,fun _ _=>none⟩
theorem Q1o {w:World} {hg:GlobIn w} {b o:Nat}:Qbr w hg b o=w.cell? ⟨b,o,none⟩:=rfl
theorem Qq7 {α β:Type} {f:α->Option β}:∀{l:List α} {r:List β},l.mapM f=some r->r.length=l.length/\∀(i:Nat) (a:α),l[i]?=some a->f a=r[i]?
 | [],r,h=>by simp at h; subst h; simp
 | a::l,r,h=>by
  simp only [List.mapM_cons,Option.pure_def,Option.bind_eq_bind,bP] at h
  obtain ⟨b,hb,bs,hbs,h⟩:=h
  cases h
  obtain ⟨h1,h2⟩:=Qq7 hbs
  refine ⟨by simp [h1],fun i x hx=>?_⟩
  cases i with
  | zero=>cases hx; simpa using hb
  | succ i=>simpa using h2 i x (by simpa using hx)
theorem Qs9 {w:World} {base:Nat} {a:Addr} {n:Nat} {row:List Value} (h:w.cells? base a n=some row):row.length=n/\∀i,i < n->w.cell? (a.add i)=row[i]?:=by
 unfold World.cells? at h
 split at h
 ·obtain ⟨h1,h2⟩:=Qq7 h
  refine ⟨by simpa using h1,fun i hi=>h2 i i (by simp [hi])⟩
 cases h
theorem Qz8 {w:World} {a:Addr} {v:Value} (h:w.cell? a=some v):a.spot=none:=by
 unfold World.cell? at h
 cases hs:a.spot with
 | none=>rfl
 | some s =>
  simp only [hs] at h
  split at h <;> simp at h
theorem Qlf (a:Addr):a.add 0=a:=by simp [Addr.add]
theorem Qsw (b off k:Nat):(⟨b,off,none⟩:Addr).add k=⟨b,off+k,none⟩:=by
 unfold Addr.add
 split
 ·rename_i h; subst h; rfl
 rfl
section
variable {H:Type} {enc:TypeId × Value->H} {P:Program} {w:World} {base:Nat} {hg:GlobIn w}
theorem Qpf {cs:List Value} {m:Nat} {rec:TypeId->Option Sh} (ih:∀(t:TypeId) (s:Sh),rec t=some s->∀(cs:List Value) (x:DataW H × List MemPlace),DataW.trod enc P w base (fun _=>true) true m t cs=some x->∃avs,Qay (Qbr w hg) cs avs/\WT s avs) :
  ∀(l:List Field) (o:Nat) (s:Sh),Qki P rec l o=some s->(∀f∈l,∃x,DataW.trod enc P w base (fun _=>true) true m f.type ((cs.drop f.offset).take (P.cellsOf f.type))=some x)->∃avs,Qay (Qbr w hg) ((cs.drop o).take s.width) avs/\WT s avs
 | [],o,s,h,_=>by
  cases h
  exact ⟨[],⟨by simp [Sh.width],fun j v y h1 h2=>by simp at h2⟩,rfl⟩
 | f::l,o,s,h,hf=>by
  unfold Qki at h
  split at h
  rotate_left
  ·cases h
  rename_i s1 hs1
  split at h
  rotate_left
  ·cases h
  rename_i hc
  split at h
  rotate_left
  ·cases h
  rename_i q hq
  cases h
  simp only [aE] at hc
  have h1:=aJ hc.1
  have h2:=aJ hc.2
  obtain ⟨x,hx⟩:=hf f (by simp)
  rw [h1,<-h2] at hx
  obtain ⟨a1,c1,w1⟩:=ih _ _ hs1 _ _ hx
  obtain ⟨a2,c2,w2⟩:=Qpf ih l (o+s1.width) q hq (fun g hg=>hf g (by simp [hg]))
  refine ⟨a1++a2,?_,a1,a2,rfl,w1,w2⟩
  have e:(cs.drop o).take (s1.width+q.width)=(cs.drop o).take s1.width++(cs.drop (o+s1.width)).take q.width:=by
   rw [List.take_add,List.drop_drop]
  simp only [Sh.width]
  rw [e]
  exact Qim c1 c2
theorem Qwn {cs:List Value} {M:CM} {s:Sh} {n:Nat} (h:∀i,i < n->∃avs,Qay M ((cs.drop (i*s.width)).take s.width) avs/\WT s avs):∀(k o:Nat),o+k=n->∃avs,Qay M ((cs.drop (o*s.width)).take (k*s.width)) avs/\WT (Qw3 s k) avs
 | 0,o,_=>⟨[],⟨by simp,fun j v y h1 h2=>by simp at h2⟩,rfl⟩
 | k+1,o,hk=>by
  obtain ⟨a1,c1,w1⟩:=h o (by omega)
  obtain ⟨a2,c2,w2⟩:=Qwn h k (o+1) (by omega)
  refine ⟨a1++a2,?_,a1,a2,rfl,w1,w2⟩
  have e:(cs.drop (o*s.width)).take ((k+1)*s.width)=(cs.drop (o*s.width)).take s.width++(cs.drop ((o+1)*s.width)).take (k*s.width):=by
   rw [dO k,cG,List.take_add,List.drop_drop,dO o]
  rw [e]
  exact Qim c1 c2
theorem Quq (cs:List AV):(AV.agg cs).flat = cs:=rfl
theorem Qgz:∀(n:Nat) (t:TypeId) (s:Sh),Qj3 P n t=some s->∀(m:Nat) (cs:List Value) (x:DataW H × List MemPlace),DataW.trod enc P w base (fun _=>true) true m t cs=some x->∃avs,Qay (Qbr w hg) cs avs/\WT s avs
 | 0,t,s,h=>by simp [Qj3] at h
 | n+1,t,s,h=>by
  intro m cs x hx
  unfold Qj3 at h
  split at h
  ·rename_i ht
   cases h
   obtain ⟨b,rfl,_⟩:=DataW.trod_bool ht hx
   exact ⟨[.bool b],K5 (.bool b) rfl,b,rfl⟩
  ·rename_i k ht
   cases h
   obtain ⟨z,rfl,_,hw⟩:=DataW.trod_int ht hx
   exact ⟨[.int k z],K5 (.int k z) rfl,z,rfl,hw⟩
  ·rename_i ht
   cases h
   obtain ⟨z,rfl,_,hw⟩:=DataW.trod_string ht hx
   exact ⟨[.str z],K5 (.str z) rfl,z,rfl,hw⟩
  ·rename_i e ht
   split at h
   rotate_left
   ·cases h
   rename_i s1 hs1
   split at h
   rotate_left
   ·cases h
   rename_i hc
   cases h
   simp only [aE,aM] at hc
   obtain ⟨⟨hw,hpos⟩,hag⟩:=hc
   have hw:=aJ hw
   have hpos:0 < P.cellsOf e:=by simpa using hpos
   rcases DataW.trod_slice ht hx with ⟨rfl,_⟩ | ⟨a,len,cap,elems,rest,n',_,rfl,_,hb,hl,hm,hlen,hel,hsp,_⟩
   ·exact ⟨[.lst s1.scal []],K5 (.lst0 none _) rfl,[],rfl,by simp,fun x hx=>by cases hx⟩
   have hsp:=hsp rfl
   have hspot:0 < cap->a.spot=none:=fun hcap=>by
    have key:∃row,w.cells? base a (P.cellsOf e)=some row:=by
     rcases dT len with h0 | h0
     ·have:=hsp.2 0 (by omega)
      rw [aG (by omega)] at this
      obtain ⟨row,h1,_⟩:=bP.1 this
      rw [h0,dY,Nat.zero_mul,Qlf] at h1
      exact ⟨row,h1⟩
     have:=hel 0 h0
     rw [aG (by omega)] at this
     obtain ⟨row,h1,_⟩:=bP.1 this
     rw [Nat.zero_mul,Qlf] at h1
     exact ⟨row,h1⟩
    obtain ⟨row,hk⟩:=key
    obtain ⟨h1,h2⟩:=Qs9 hk
    have h3:=h2 0 hpos
    rw [aG (by omega),Qlf] at h3
    exact Qz8 h3
   rcases dT cap with h0 | h0
   ·have hl0:len=0:=by omega
    subst h0; subst hl0
    exact ⟨[.lst s1.scal []],K5 (.lst0 _ _) rfl,[],rfl,by simp,fun x hx=>by cases hx⟩
   have hspot:=hspot h0
   obtain ⟨blk,off,spot⟩:=a
   simp only at hspot
   subst hspot
   have each:∀i,i < len->∃z:AV,z.shaped (P.cellsOf e)/\WT s1 z.flat /\ (if Qje P e then z=.agg z.flat else z.cell=true)/\∀(j:Nat) (y:AV),z.flat[j]?=some y->∃v,w.cell? ⟨blk,off+i*P.cellsOf e+j,none⟩=some v/\Qa (Qbr w hg) noInj v y:=by
    intro i hi
    have h1:=hel i hi
    rw [aG (by omega)] at h1
    obtain ⟨row,h2,h3⟩:=bP.1 h1
    obtain ⟨avs,c1,w1⟩:=Qgz n e s1 hs1 _ _ _ h3
    obtain ⟨g1,g2⟩:=Qs9 h2
    have hlen':=Quc w1
    have cellv:∀(j:Nat) (y:AV),avs[j]?=some y->∃v,w.cell? ⟨blk,off+i*P.cellsOf e+j,none⟩=some v/\Qa (Qbr w hg) noInj v y/\y.cell=true:=fun j y hy=>by
     have hj:=(aD.1 hy).1
     have h5:=g2 j (by omega)
     have h6:row[j]?=some row[j]:=aG (by rw [<-c1.1]; exact hj)
     rw [h6] at h5
     refine ⟨_,?_,c1.2 j _ y h6 hy⟩
     rw [Qsw,Qsw] at h5
     exact h5
    by_cases ha:Qje P e=true
    ·refine ⟨.agg avs,⟨.inl rfl,by rw [Quq]; omega,fun y hy=>?_⟩,w1,by rw [aH ha]; rfl,fun j y hy=>?_⟩
     ·rw [Quq] at hy
      obtain ⟨j,hj⟩:=bO.1 hy
      obtain ⟨_,_,_,h⟩:=cellv j y hj
      exact h
     obtain ⟨v,h1,h2,_⟩:=cellv j y hy
     exact ⟨v,h1,h2⟩
    have h1:s1.width=1:=by
     rcases hag with h | h
     ·exact absurd h ha
     exact aJ h
    obtain ⟨z,rfl⟩:∃z,avs=[z]:=by
     match avs,hlen' with
     | [z],_=>exact ⟨z,rfl⟩
     | [],h=>simp [h1] at h
     | _::_::_,h=>simp [h1] at h
    obtain ⟨v,hv,hr,hcell⟩:=cellv 0 z rfl
    have hflat : z.flat = [z]:=by cases z <;> simp_all [AV.flat,AV.cell]
    refine ⟨z,⟨.inr hcell,by rw [hflat]; simp; omega,fun y hy=>by rw [hflat] at hy; simp at hy; rw [hy]; exact hcell⟩,by rw [hflat]; exact w1,by rw [aI ha]; exact hcell,fun j y hy=>?_⟩
    rw [hflat] at hy
    cases j with
    | zero=>cases hy; exact ⟨v,by simpa using hv,hr⟩
    | succ j=>simp at hy
   obtain ⟨xs,hxl,hxs⟩:=Qvd each
   refine ⟨[.lst s1.scal xs],K5 ?_ rfl,xs,rfl,by omega,fun z hz=>?_⟩
   ·have:=Qa.lst (M:=Qbr w hg) (ι:=noInj) blk off cap (P.cellsOf e) s1.scal xs (fun i j=>(w.cell? ⟨blk,off+i*P.cellsOf e+j,none⟩).getD default) (by omega)
     (fun hfl z hz=>by
      obtain ⟨i,hi⟩:=bO.1 hz
      exact Qqd (hxs i z hi).2.1 hfl)
     (fun z hz=>by
      obtain ⟨i,hi⟩:=bO.1 hz
      exact (hxs i z hi).1)
     (fun i j z y hz hy=>by
      obtain ⟨v,h1,h2⟩:=(hxs i z hz).2.2.2 j y hy
      simp only [Q1o]
      rw [h1]; rfl)
     (fun i j z y hz hy=>by
      obtain ⟨v,h1,h2⟩:=(hxs i z hz).2.2.2 j y hy
      rw [h1]; exact h2)
    rwa [hxl] at this
   obtain ⟨i,hi⟩:=bO.1 hz
   exact ⟨(hxs i z hi).2.1,(hxs i z hi).2.2.1⟩
  ·rename_i fs ht
   split at h
   rotate_left
   ·cases h
   rename_i s1 hs1
   split at h
   rotate_left
   ·cases h
   rename_i hw
   cases h
   have hw:=aJ hw
   obtain ⟨xs,n',_,_,hl,hxs,hf⟩:=DataW.trod_struct ht hx
   obtain ⟨avs,c1,w1⟩:=Qpf (cs:=cs) (m:=n') (rec:=Qj3 P n) (fun t s hs cs x hx=>Qgz n t s hs _ _ _ hx) fs.toList 0 s hs1 (fun f hf'=>by
    obtain ⟨i,hi⟩:=bO.1 hf'
    have h1:=hf i f (by simpa using hi)
    have hi':=(aD.1 hi).1
    rw [aG (by rw [hxs]; simpa using hi')] at h1
    exact ⟨_,h1⟩)
   refine ⟨avs,?_,w1⟩
   rw [List.drop_zero,List.take_of_length_le (by omega)] at c1
   exact c1
  ·rename_i m0 e ht
   split at h
   rotate_left
   ·cases h
   rename_i s1 hs1
   split at h
   rotate_left
   ·cases h
   rename_i hw
   cases h
   simp only [aE] at hw
   have h1:=aJ hw.1
   have h2:=aJ hw.2
   obtain ⟨xs,n',_,_,hl,hxs,hf⟩:=DataW.trod_array ht hx
   obtain ⟨avs,c1,w1⟩:=Qwn (cs:=cs) (M:=Qbr w hg) (s:=s1) (n:=m0) (fun i hi=>by
    have h3:=hf i hi
    rw [aG (by omega),<-h1] at h3
    exact Qgz n e s1 hs1 _ _ _ h3) m0 0 (by omega)
   refine ⟨avs,?_,w1⟩
   rw [Nat.zero_mul,List.drop_zero,List.take_of_length_le (by omega)] at c1
   exact c1
  cases h
theorem arg_struct {t:TypeId} {s:Sh} {v:Value} {d:DataW H} {ps:List MemPlace} {b0:Nat} (n:Nat) (hs:Qj3 P n t=some s) (ha:Qje P t=true) (hok:Value.okWide P w .any b0 t v)
  (h:DataW.Trod enc P w base (fun _=>true) true t v d ps):∃avs,Qa (Qbr w hg) noInj v (.agg avs)/\WT s avs:=by
 obtain ⟨m,hm⟩:=h
 obtain ⟨avs,c1,w1⟩:=Qgz n t s hs m _ _ hm
 have hv:∃cs,v=.agg cs:=by
  unfold Qje at ha
  unfold Value.okWide at hok
  split at ha
  ·rename_i fs hfs
   rw [hfs] at hok
   obtain ⟨cs,h1,_⟩:=hok
   exact ⟨cs,h1⟩
  ·rename_i m0 e hfs
   rw [hfs] at hok
   obtain ⟨cs,h1,_⟩:=hok
   exact ⟨cs,h1⟩
  cases ha
 obtain ⟨cs,rfl⟩:=hv
 refine ⟨avs,.agg cs avs (by simpa [Value.cells] using c1.1.symm) (fun y hy=>?_) (fun j u y hu hy=>?_),w1⟩
 ·obtain ⟨j,hj⟩:=bO.1 hy
  have hj':=(aD.1 hj).1
  rw [c1.1] at hj'
  exact (c1.2 j _ y (aG hj') hj).2
 ·exact (c1.2 j u y (by simpa [Value.cells] using hu) hy).1
end
theorem sameAt_of {W W':World} (h:∀b,b < W.heap.size->W'.heap[b]?=W.heap[b]?) {p:MemPlace} (hp:p.block < W.heap.size):W.sameAt W' p:=by
 cases p with
 | cell b off =>
  show W'.cell? ⟨b,off,none⟩=W.cell? ⟨b,off,none⟩
  unfold World.cell?
  rw [h b hp]
 | map b=>exact h b hp
theorem calls_args {P:Program} {f:FuncId} {args:List AV} {b:Bool} (h:Q6 P f args (.ret (.bool b) [])) {W:World} {hg:GlobIn W} {vs:Array Value} (hl:vs.size=args.length)
  (hr:∀(j:Nat) (v:Value) (a:AV),vs[j]?=some v->args[j]?=some a->Qa (Qbr W hg) noInj v a):Calls P f vs W fun e W'=>e=.returned (.bool b)/\Below W.heap.size W W'/\∀b,b < W.heap.size->W'.heap[b]?=W.heap[b]?:=by
 refine (h W (Qbr W hg) vs ⟨fun _ _ _ h=>h,fun b x h=>(by cases h),fun b o v h=>(by cases h)⟩ hl hr).mono fun e W' he=>?_
 obtain ⟨v,M',ι',he,_,hrel,_,hv⟩:=he
 cases hv
 exact ⟨he,hrel.below.toBelow,fun b hb=>hrel.below.block b hb⟩
theorem Qyr {x:AV} (h:x.cell=true):x.flat = [x]:=by cases x <;> simp_all [AV.flat,AV.cell]
theorem Qur {α:Type} {enc:α->AV} {R:α->Prop} {xs:List AV} (h:∀x∈xs,∃a,x=enc a/\R a):∃l:List α,xs=l.map enc/\∀a∈l,R a:=by
 induction xs with
 | nil=>exact ⟨[],rfl,fun n hn=>by cases hn⟩
 | cons x xs ih =>
  obtain ⟨l,rfl,hl⟩:=ih fun y hy=>h y (by simp [hy])
  obtain ⟨a,rfl,ha⟩:=h x (by simp)
  refine ⟨a::l,rfl,fun m hm=>?_⟩
  rcases bY.1 hm with rfl | hm
  ·exact ha
  exact hl m hm
end Go.Ab
namespace Go.Ab
open Go.RowKit
def Qv2 (P:Program) (t:TypeId):Bool:=match P.underlying t with | some (.int _)=>true | some .bool=>true | some .string=>true | some (.slice _)=>true | _=>false
section
variable {H:Type} {enc:TypeId × Value->H} {P:Program} {w:World} {base:Nat} {hg:GlobIn w}
theorem arg_cell {t:TypeId} {s:Sh} {v:Value} {d:DataW H} {ps:List MemPlace} {b0:Nat} (n:Nat) (hs:Qj3 P n t=some s) (ha:Qv2 P t=true) (hok:Value.okWide P w .any b0 t v)
  (h:DataW.Trod enc P w base (fun _=>true) true t v d ps):∃y,Qa (Qbr w hg) noInj v y/\WT s [y]:=by
 obtain ⟨m,hm⟩:=h
 obtain ⟨avs,c1,w1⟩:=Qgz n t s hs m _ _ hm
 have hv:v.cells=#[v]:=by
  cases v with
  | agg cs =>
   exfalso
   unfold Qv2 at ha
   unfold Value.okWide at hok
   split at ha <;> (rename_i hu; first | (rw [hu] at hok; unfold Cell.okWide at hok; rw [hu] at hok; unfold Cell.ok at hok; rw [hu] at hok; exact hok) | cases ha)
  | _=>rfl
 rw [hv] at c1
 obtain ⟨h1,h2⟩:=c1
 simp at h1
 obtain ⟨y,rfl⟩:∃y,avs=[y]:=List.length_eq_one_iff.1 h1
 exact ⟨y,(h2 0 v y rfl rfl).1,w1⟩
end
end Go.Ab
namespace Go.Ab
section
variable {P:Program} {rd:Option Nat} {base:Nat} {ops:Array Oper} {st S:St} {Φ:AOut->Prop} {d:Option (List Sk)} {i:Nat} {c y:Code}
theorem rga {id:Nat} (hm:P.follows .mixedOrders=true) (h:RW P rd base ops (some []) 0 st Φ) (hB:Qqa ops=true:=by kernel_rfl):WP P rd base (.region id ops true) st Φ:=Q3v (by simp [hm]) (Qvy hB) h
def gt (o:Option St) (d:St):St:=match o with | some S=>S | none=>d
noncomputable def lx (P:Program) (ops:Array Oper) (i:Nat) (st:St) (hv he:List LK) (b:Bool):St:=gt (Qw1 P false ops i st hv he b) st
theorem Q58 {o:Option St} {d:St} (h:o.isSome=true):o=some (gt o d):=by
 cases o with
 | none=>cases h
 | some S=>rfl
theorem sl (nf:Bool) (hv he:List LK) (b:Bool) (hn:nf=false) (hk:RW P rd base ops (Q2 d [Qsx P nf ops i st]) (i+1) (lx P ops i st hv he b) Φ) (h:(Qw1 P false ops i st hv he b).isSome=true:=by kernel_rfl):RW P rd base ops d i st Φ:=by
 subst hn; exact sgL false hv he b (Q58 h) hk
theorem kr {α:Sort _} {a b:α} (h:a=b:=by kernel_rfl):a=b:=h
def gt0 (o:Option St):St:=match o with | some S=>S | none=>⟨[],[],0⟩
theorem gE {o:Option St} (h:o.isSome=true:=by kernel_rfl):o=some (gt0 o):=by
 cases o with
 | none=>cases h
 | some S=>rfl
theorem gF {α:Type} {o:α->Option St} (h:∀x,(o x).isSome=true:=by (intro _; kernel_rfl)):∀x,o x=some (gt0 (o x)):=fun x=>gE (h x)
def Q2i (b:Bool):List Nat -> List (Nat × AV)->List (Nat × AV)
 | [],s=>s
 | t::ts,s=>Q2i b ts (setS s t (.bool b))
def pB (ts:List Nat) (b:Bool) (st:St):St:=⟨Q2i b ts st.slots,st.objs,st.nt⟩
def setLen (n:Nat):AV->AV
 | .ref o i _=>.ref o i n
 | .lin o i _=>.lin o i n
 | x=>x
def Q2r (n:Nat):List Nat -> List (Nat × AV)->List (Nat × AV)
 | [],s=>s
 | t::ts,s=>Q2r n ts (match lk s t with | some x=>setS s t (setLen n x) | none=>s)
def pL (ts:List Nat) (n:Nat) (st:St):St:=⟨Q2r n ts st.slots,st.objs,st.nt⟩
theorem rb (ts:List Nat) {R:Type} {b:Bool} {A B:Option R} {r:R} (h:(if b=true then A else B)=some r) (h1:b=true->A=some r->RW P rd base ops d i (pB ts true st) Φ) (h2:b=false->B=some r->RW P rd base ops d i (pB ts false st) Φ) (hS:st=pB ts b st:=by kernel_rfl):RW P rd base ops d i st Φ:=by
 rw [hS]; exact Q7r (S:=fun b=>pB ts b st) h h1 h2
theorem Q11 {n m:Nat} {S:Nat -> St} (hb:n=m) (h:RW P rd base ops d i (S m) Φ) (hS:st=S n:=by kernel_rfl):RW P rd base ops d i st Φ:=by rw [hS]; exact Q5g hb h
end
abbrev z1:List Int->AV:=eL true eI
abbrev z2:List (List Int)->AV:=eL false z1
abbrev zw:Int->Int:=IntKind.i64.wrap
abbrev zv:Int->Int:=IntKind.u64.wrap
abbrev zb:Int -> BitVec (IntKind.bits .u64):=BitVec.ofInt (IntKind.bits .u64)
abbrev zk:Nat:=IntKind.bits .u64
abbrev zp:Int×Int -> AV:=fun x=>.agg [vI x.1,vI x.2]
abbrev zq:Int×Int -> Int×Int -> Bool:=fun a b=>(a.1==b.1) && ((a.2==b.2) && true)
abbrev zt:Int->Nat := Int.toNat
abbrev zn {α:Type} (l:List α):Int:=(l.length:Int)
end Go.Ab
namespace Go.Ab
def Qdj {σ ρ:Type} (F:(σ->Option ρ)->σ->Option ρ):Nat -> σ->Option ρ
 | 0,_=>none
 | n+1,s=>F (Qdj F n) s
def Qgb (P:Program) (N:Nat) (c:Code) {σ ρ:Type} (I:σ->St) (E:ρ->St) (d:σ->Option ρ):Prop :=
 ∀s x,d s=some x->WP P none N c (I s) (fun o=>o=.go .ret (E x)\/o=.go .normal (E x))
theorem Q0f {P:Program} {N:Nat} {c:Code} {σ ρ:Type} {I:σ->St} {E:ρ->St} {F:(σ->Option ρ)->σ->Option ρ}
  (step:∀d,Qgb P N c I E d->∀s x,F d s=some x->WP P none N c (I s) (fun o=>o=.go .ret (E x)\/o=.go .normal (E x))):∀n,Qgb P N c I E (Qdj F n)
 | 0=>fun s x h=>by cases h
 | n+1=>fun s x h=>step _ (Q0f step n) s x h
section
variable {P:Program} {rd:Option Nat} {base:Nat} {ops:Array Oper} {st:St} {Φ:AOut->Prop} {i:Nat}
theorem Q67 {σ ρ R:Type} {N:Nat} {c:Code} {I:σ->St} {E:ρ->St} {d:σ->Option ρ} {K:ρ->Option R} {r:R} {f:FuncId} {fn:Func} {as0:List AV} (s0:σ)
  (hi:Zi ops i st=some (f,as0)) (hf:P.funcs[f]?=some fn) (hb:fn.body=some c) (hn:(fn.name == "runtime.NumGoroutine")=false) (hle:Nat.ble as0.length fn.ntmps=true)
  (h0:(⟨Vj 0 as0,st.objs,fn.ntmps⟩:St)=I s0) (hN:st.objs.length=N) (IH:Qgb P N c I E d) (h:(d s0).bind K=some r)
  (k:∀x,K x=some r->∃S,Qiw P fn ops i st (.go .ret (E x))=some S/\RW P rd base ops none (i+1) S Φ):RW P rd base ops none i st Φ:=by
 cases hx:d s0 with
 | none=>rw [hx] at h; cases h
 | some x =>
  rw [hx] at h
  refine Q4u hi hf hb hn hle ?_
  rw [h0,hN]
  obtain ⟨out,h1,h2⟩:=IH s0 x hx
  refine ⟨out,h1,?_⟩
  rcases h2 with rfl | rfl
  ·exact k x h
  obtain ⟨S,k1,k2⟩:=k x h
  exact ⟨S,by rw [<-k1]; rfl,k2⟩
end
section
variable {P:Program} {rd:Option Nat} {base:Nat} {ops:Array Oper} {st:St} {Φ:AOut->Prop} {i:Nat}
theorem Q73 {σ ρ R:Type} {N:Nat} {c:Code} {I:σ->St} {E:ρ->St} {F:(σ->Option ρ)->σ->Option ρ} {K:ρ->Option R} {r:R} {f:FuncId} {fn:Func} {as0:List AV} (s0:σ)
  (hi:Zi ops i st=some (f,as0)) (hf:P.funcs[f]?=some fn) (hb:fn.body=some c) (hn:(fn.name == "runtime.NumGoroutine")=false) (hle:Nat.ble as0.length fn.ntmps=true)
  (h0:(⟨Vj 0 as0,st.objs,fn.ntmps⟩:St)=I s0) (hN:st.objs.length=N) (h:(Qdj F fuel s0).bind K=some r)
  (step:∀d,Qgb P N c I E d->∀s x,F d s=some x->WP P none N c (I s) (fun o=>o=.go .ret (E x)\/o=.go .normal (E x)))
  (k:∀x,K x=some r->∃S,Qiw P fn ops i st (.go .ret (E x))=some S/\RW P rd base ops none (i+1) S Φ):RW P rd base ops none i st Φ :=
 Q67 s0 hi hf hb hn hle h0 hN (Q0f step fuel) h k
end
end Go.Ab
namespace Go.Ab
open Go.RowKit
def Qt8 (P:Program) (f:FuncId) (az:List AV) (objs:List AObj) (r:AV) (objs':List AObj):Prop :=
 ∀(B:Nat) (W0 W:World) (D:List Nat) (M:CM) (ι:Inj) (vs:Array Value),Rel P B W0 D M ι (sto objs) W->D.Nodup->(∀k,¬ InB objs.length k->ι k=none)->objs.length<=BIG->vs.size=az.length ->
  (∀(j:Nat) (v:Value) (a:AV),vs[j]?=some v->az[j]?=some a->Qa M ι v a) ->
  Calls P f vs W fun e W'=>∃v M' ι',e=.returned v/\CM.Grow B M M'/\ι.le ι'/\Rel P B W0 D M' ι' (sto objs') W'/\(∀k,¬ InB objs'.length k->ι' k=none)/\objs'.length<=BIG/\Qa M' ι' v r
theorem Qwv {P:Program} {rd:Option Nat} {base:Nat} {o:Oper} {st:St} {g:Operand} {args:Array Operand} {ts:Array TypeId} {f:FuncId} {fn:Func} {first caps az:List AV} {x:AV} {objs':List AObj} {slots:List (Nat × AV)}
  (ho:o.op=.call { callee:=.value g,args,argTypes:=ts }) (hg:evo (lk st.slots) g=some (.fn (.func f) first caps)) (has:Ka (lk st.slots) args.toList=some az)
  (hf:P.funcs[f]?=some fn) (hb:fn.body.isSome=true) (hn:(fn.name == "runtime.NumGoroutine")=false)
  (h:Qt8 P f (first++az++caps) st.objs x objs') (hput:Vw st.slots st.nt o.dst (some x)=some slots) :
  OpX P rd base o st (.go .normal ⟨slots,objs',st.nt⟩):=by
 intro B W0 D0 dl M ι a W n Q r hs hr' hp
 have hgv:=Qf hs.slots hg
 generalize hgu:a.eval g=gu at hgv
 cases hgv with
 | fn _ first' caps' _ _ hy hm h1 h2 hr1 hr2 =>
 obtain ⟨l1,e1⟩:=Vo hs.slots has
 refine ⟨fun _ _=>trivial,?_⟩
 rw [Oper.semAt_eq _ _ _ (by rw [ho]; simp)]
 have hrun:(execOp a.eval o).run P W=.ok (.enter f (first'++args.map a.eval++caps')) W:=by
  simp only [execOp,ho,resolve,hgu,Deferred.ofValue,Sem.run_bind,Sem.run_pure,Result.andThen_ok,invoke]
  exact Jj hf hb hn _ W
 rw [hrun,Oper.uponIn_enter]
 have hrep:∀(j:Nat) (v:Value) (y:AV),(first'++args.map a.eval++caps')[j]?=some v->(first++az++caps)[j]?=some y->Qa M ι v y :=
  Qj0 h1 (by simpa using l1.symm) h2 hr1 (fun j v y hv hy=>by
   simp only [Array.getElem?_map,aQ] at hv
   obtain ⟨w,hw,rfl⟩:=hv
   exact (e1 j w y (by simpa using hw) hy).2) hr2
 refine ⟨fun hd=>by simp [FW,Fence.wide] at hd,Qfw ((h B W0 W (dl++D0) M ι _ hs.rel hs.df.nd hs.new hs.big (by simp [h1,h2,l1]) hrep).mono ?_)⟩
 rintro e W' ⟨v,M',ι',rfl,g1,g2,g3,g4,g4b,g5⟩
 obtain ⟨k1,k2,k3⟩:=Qbm (u:=v) (hs.slots.mono g1.le g2) hs.nt hput (fun y hy=>by cases hy; exact g5)
 exact hp.go .normal _ rfl dl M' ι' _ W' g1 (g2.leB base) (List.suffix_refl _) ⟨g3,k1,k2,hs.df.put,g4,g4b⟩
def Qpq (ops:Array Oper) (i:Nat) (st:St) (x:AV) (objs':List AObj):Option St :=
 match ops[i]? with
 | some o=>match Vw st.slots st.nt o.dst (some x) with
  | some slots=>some ⟨slots,objs',st.nt⟩
  | none=>none
 | none=>none
section
variable {P:Program} {rd:Option Nat} {base:Nat} {ops:Array Oper} {st:St} {Φ:AOut->Prop} {i:Nat}
theorem Q3d {f:FuncId} {fn:Func} {as0:List AV} {x:AV} {objs':List AObj} {S:St} (hi:Zi ops i st=some (f,as0)) (hf:P.funcs[f]?=some fn) (hb:fn.body.isSome=true) (hn:(fn.name == "runtime.NumGoroutine")=false)
  (h:Qt8 P f as0 st.objs x objs') (hS:Qpq ops i st x objs'=some S) (k:RW P rd base ops none (i+1) S Φ):RW P rd base ops none i st Φ:=by
 obtain ⟨o,g,args,ts,first,caps,as1,ho,hop,hg,has,rfl⟩:=Qb0 hi
 obtain ⟨h1,h2⟩:=J1 ho
 unfold Qpq at hS
 rw [h1] at hS
 simp only at hS
 split at hS
 ·rename_i slots hp
  cases hS
  obtain ⟨out2,k1,k2⟩:=k
  have hi':i < ops.size:=(aX.1 h1).1
  refine ⟨out2,?_,k2⟩
  rw [Qfm hi']
  exact Qhp h1 h2 (Qwv hop hg has hf hb hn h hp) k1
 ·cases hS
end
end Go.Ab
namespace Go.Ab
open Go.RowKit
section
variable {P:Program} {ops:Array Oper} {G:Array Bool->Nat -> Foot} {Q:Slots->Sto->Prop} {s:Slots} {σ:Sto}
end
section
variable {P:Program} {ops:Array Oper} {G:Array Bool->Nat -> Foot} {s s':Slots} {σ:Sto} {B:Nat} {W0 W:World} {D:List Nat} {M:CM} {ι:Inj} {a:Act} {Q:Exit->Act->World->Prop} {QA:Slots->Sto->Prop}
end
section
variable {P:Program} {rd:Option Nat} {base:Nat} {ops ops0:Array Oper} {st st1 st2 st3:St}
theorem Qai.symm {F G:Foot} (h:Qai F G):Qai G F:=⟨h.b,h.a,fun e he e' he'=>Ne.symm (h.c e' he' e he)⟩
end
section
variable {P:Program} {rd:Option Nat} {base:Nat} {ops:Array Oper} {st st1 Sa Sb S3 S:St} {Φ:AOut->Prop} {i:Nat}
end
end Go.Ab
namespace Go.Ab
open Go.RowKit
theorem Q4r {α:Type} {vs:Array α} (h:vs.size=1):∃v0,vs=#[v0]:=by
 obtain ⟨l⟩:=vs
 match l,h with
 | [v0],_=>exact ⟨v0,rfl⟩
def Qze (P:Program) (f:FuncId) (t1 t2:TypeId):Prop:=∀(g:FuncId) (gfn:Func) (caps:Array Value) (w:World) (x y:Int) (R:Ending->World->Prop),P.funcs[g]?=some gfn->gfn.body.isSome=true->(gfn.name == "runtime.NumGoroutine")=false ->
 Calls P g caps ((w.alloc (.cells #[.int .i64 0,.int .i64 0] t1)).alloc (.cells #[.int .i64 0] t2)) (fun e w'=>e=.returned (.agg #[.int .i64 x,.int .i64 y]) /\
  w'.cell? ⟨w.heap.size,0,none⟩=some (.int .i64 0)/\w'.cell? ⟨w.heap.size,1,none⟩=some (.int .i64 0)/\w'.cell? ⟨w.heap.size+1,0,none⟩=some (.int .i64 0) /\
  w'.frozen? ⟨w.heap.size,0,none⟩=false/\w'.frozen? ⟨w.heap.size,1,none⟩=false/\w'.frozen? ⟨w.heap.size+1,0,none⟩=false /\
  R (.returned (.tuple #[.agg #[.int .i64 x,.int .i64 y],.int .i64 0])) (((w'.setCell ⟨w.heap.size,0,none⟩ (.int .i64 x)).setCell ⟨w.heap.size,1,none⟩ (.int .i64 y)).setCell ⟨w.heap.size+1,0,none⟩ (.int .i64 0))) ->
 Calls P f #[.func (.func g) #[] caps] w R
section
variable {P:Program}
theorem Qs7 {M:CM} {ι:Inj} {v:Value} {k:IntKind} {n:Int} (h:Qa M ι v (.int k n)):v=.int k n:=by cases h; rfl
theorem Qt3 {W W':World} {M M':CM} (hag:Qbu M W) (hb:Q8 W.heap.size W W') (hk:M'.blk=M.blk):∀b x,M'.blk b=some x->W'.heap[b]?=some x/\(∀c e f,x≠.cells c e f)/\∀d,x≠.deferred d:=fun b x hx=>by
 rw [hk] at hx
 obtain ⟨k1,k2,k3⟩:=hag.keep b x hx
 exact ⟨by rw [hb.block b (aX.1 k1).1]; exact k1,k2,k3⟩
theorem Qqx {W W':World} {M M':CM} (hag:Qbu M W) (hb:Q8 W.heap.size W W') (hk:M'.kc=M.kc):∀b o v,M'.kc b o=some v->W'.cell? ⟨b,o,none⟩=some v/\∀j,W'.frozen? ⟨b,j,none⟩=false:=fun b o v hx=>by
 rw [hk] at hx
 obtain ⟨k1,k2⟩:=hag.keepC b o v hx
 have hlt:=World.block_lt_of_cell? W _ k1
 exact ⟨by rw [hb.cell (p:=⟨b,o,none⟩) hlt]; exact k1,fun j=>by rw [hb.toBelow.frozen (p:=⟨b,j,none⟩) hlt]; exact k2 j⟩
theorem Q04 {W0 W':World} {M0' M:CM} {ι:Inj} (hag:Qbu M0' W0) (hk:M.blk=M0'.blk) (hkc:M.kc=M0'.kc) (hs:W0.heap.size<=W'.heap.size) (hb:Q8 W0.heap.size W0 W') (ha:∀b o v,M b o=some v->W'.cell? ⟨b,o,none⟩=some v):Rel P W0.heap.size W0 [] M ι (fun k=>([]:List AObj)[k]?) W' :=
 ⟨hs,hb,fun r hr=>(by simp at hr),⟨ha,Qt3 hag hb hk,Qqx hag hb hkc⟩,fun o bx nr fl w xs p k ho=>(by simp at ho),fun o bx ro nr fl w xs ho=>(by simp at ho),fun o fn sl ps asg bd st pe ho=>(by simp at ho),fun o o' bx nr fl w xs bx' nr' fl' w' xs' p p' _ ho=>(by simp at ho),fun o o' fn sl ps asg bd st pe fn' sl' ps' asg' bd' st' pe' p p' _ ho=>(by simp at ho),fun o _=>.inl (by simp)⟩
theorem Qzv {f:FuncId} {t1 t2:TypeId} (raw:Qze P f t1 t2) {g:FuncId} {gfn:Func} {capsA:List AV} {x y:Int} (hf:P.funcs[g]?=some gfn) (hb:gfn.body.isSome=true) (hn:(gfn.name == "runtime.NumGoroutine")=false)
  (h:Q6 P g capsA (.ret (.agg [.int .i64 x,.int .i64 y]) [])):Q6 P f [.fn (.func g) [] capsA] (.ret (.tup [.agg [.int .i64 x,.int .i64 y],.int .i64 0]) []):=by
 intro W M vs hag hsz hrep
 obtain ⟨v0,rfl⟩:=Q4r (vs:=vs) (by simp [hsz])
 have h0:=hrep 0 v0 _ rfl rfl
 cases h0 with
 | fn _ first' caps' _ _ hy hm h1 h2 hr1 hr2 =>
 have:first'=#[]:=by apply Array.eq_empty_of_size_eq_zero; simpa using h1
 subst this
 refine raw g gfn caps' W x y _ hf hb hn ?_
 have hcell:∀b o v,M b o=some v->b < W.heap.size:=fun b o v hv=>World.block_lt_of_cell? W _ (hag b o v hv)
 have hW1:Q8 W.heap.size W ((W.alloc (.cells #[.int .i64 0,.int .i64 0] t1)).alloc (.cells #[.int .i64 0] t2)):=((Q8.refl _ W).alloc (aY _) _).alloc (by simp) _
 generalize hW:(W.alloc (.cells #[.int .i64 0,.int .i64 0] t1)).alloc (.cells #[.int .i64 0] t2)=W1 at *
 have hsz1:W1.heap.size=W.heap.size+2:=by rw [<-hW]; simp
 have k1:W1.cell? ⟨W.heap.size,0,none⟩=some (.int .i64 0):=by rw [<-hW]; simp [go_sem]
 have k2:W1.cell? ⟨W.heap.size,1,none⟩=some (.int .i64 0):=by rw [<-hW]; simp [go_sem]
 have k3:W1.cell? ⟨W.heap.size+1,0,none⟩=some (.int .i64 0):=by rw [<-hW]; simp [go_sem]
 have z1:W1.frozen? ⟨W.heap.size,0,none⟩=false:=by rw [<-hW]; simp [go_sem]
 have z2:W1.frozen? ⟨W.heap.size,1,none⟩=false:=by rw [<-hW]; simp [go_sem]
 have z3:W1.frozen? ⟨W.heap.size+1,0,none⟩=false:=by rw [<-hW]; simp [go_sem]
 refine (h W1 M caps' ⟨fun b o v hv=>by rw [hW1.cell (p:=⟨b,o,none⟩) (hcell b o v hv)]; exact hag b o v hv,Qt3 hag hW1 rfl,Qqx hag hW1 rfl⟩ h2 (fun j v a hv ha=>hr2 j v a hv ha)).mono ?_
 rintro e W' ⟨v,M',ι',rfl,q1,q2,q3,q4⟩
 have hv:v=.agg #[.int .i64 x,.int .i64 y]:=by
  cases q4 with
  | agg cs' cs hl hc hr =>
  have hs2:cs'.size=2:=by simpa using hl
  have e0:=hr 0 (cs'[0]'(by omega)) (.int .i64 x) (by simp) rfl
  have e1:=hr 1 (cs'[1]'(by omega)) (.int .i64 y) (by simp) rfl
  have e0':cs'[0]'(by omega)=.int .i64 x:=Qs7 e0
  have e1':cs'[1]'(by omega)=.int .i64 y:=Qs7 e1
  congr 1
  apply Array.ext (by simp [hs2])
  intro i h3 h4
  have:i=0\/i=1:=by omega
  rcases this with rfl | rfl
  ·simpa using e0'
  simpa using e1'
 subst hv
 have hbel:=q2.below
 have same:∀(b o:Nat),b < W1.heap.size->W'.cell? ⟨b,o,none⟩=W1.cell? ⟨b,o,none⟩:=fun b o hlt=>hbel.cell (p:=⟨b,o,none⟩) hlt
 have samf:∀(b o:Nat),b < W1.heap.size->W'.frozen? ⟨b,o,none⟩=W1.frozen? ⟨b,o,none⟩:=fun b o hlt=>hbel.toBelow.frozen (p:=⟨b,o,none⟩) hlt
 refine ⟨rfl,by rw [same _ _ (by omega)]; exact k1,by rw [same _ _ (by omega)]; exact k2,by rw [same _ _ (by omega)]; exact k3,by rw [samf _ _ (by omega)]; exact z1,by rw [samf _ _ (by omega)]; exact z2,by rw [samf _ _ (by omega)]; exact z3,?_⟩
 have hle:W1.heap.size<=W'.heap.size:=q2.size
 refine ⟨_,M',noInj,rfl,q1.mono (by omega),Q04 hag q1.keep q1.keepC (by simp; omega) ?_ ?_,fun _ _=>rfl,?_⟩
 ·exact ((((hW1.trans (hbel.mono (by omega))).setCell (aY _) _).setCell (aY _) _).setCell (Nat.le_succ _) _)
 ·intro b o v hv
  have hne:∀p:Addr,(p.block=W.heap.size\/p.block=W.heap.size+1)->(⟨b,o,none⟩:Addr)≠p:=fun p hp e=>by
   subst e
   simp only at hp
   have hlt:b < W1.heap.size:=by omega
   rw [q1.old b o hlt] at hv
   have:=hcell b o v hv
   omega
  rw [World.cell?_setCell_other _ _ _ _ (hne ⟨W.heap.size+1,0,none⟩ (.inr rfl)).symm,World.cell?_setCell_other _ _ _ _ (hne ⟨W.heap.size,1,none⟩ (.inl rfl)).symm,World.cell?_setCell_other _ _ _ _ (hne ⟨W.heap.size,0,none⟩ (.inl rfl)).symm]
  exact q2.agree b o v hv
 ·refine .tup _ _ rfl (fun j u z hu hz=>?_)
  match j with
  | 0 =>
   simp at hu hz; subst hu; subst hz
   refine .agg _ _ rfl (fun c hc=>by simp at hc; rcases hc with rfl | rfl <;> rfl) (fun i u z hu hz=>?_)
   match i with
   | 0=>simp at hu hz; subst hu; subst hz; exact .int _ _
   | 1=>simp at hu hz; subst hu; subst hz; exact .int _ _
   | i+2=>simp at hu
  | 1=>simp at hu hz; subst hu; subst hz; exact .int _ _
  | j+2=>simp at hu
end
end Go.Ab
namespace Go.Ab
open Go.RowKit
def Q2q {α β:Type} (l:List α) (r:Option β) (f:α->List α->Option β):Option β:=match l with
 | []=>r
 | a::t=>f a t
section
variable {P:Program} {rd:Option Nat} {base:Nat} {ops:Array Oper} {Φ:AOut->Prop} {c:Code}
end
end Go.Ab
