/- Rules. No conditions. -/
import Derived.Test.YtojklbpplceiiaaDoorEng7
set_option linter.all false
namespace Go.Ab
open Go.RowKit
def Qpf:AObj->Bool
 | .row _ _ _ _ _ _=>true
 | .loop _ _ _ _ _ _ _=>true
 | .dead=>true
 | _=>false
def Qs3:AObj->Bool
 | .row _ _ _ _ _ _=>true
 | .loop _ _ _ _ _ _ _=>true
 | _=>false
def Qde (N:Nat):AObj->Prop
 | .row _ _ nr _ _ xs=>nr=true\/∀x∈xs,∀y∈x.flat,∀o∈y.ids,o < N
 | .loop _ sl _ _ _ _ _=>∀p∈sl,∀o∈p.2.ids,o < N
 | .dead=>True
 | _=>False
def Qst (N:Nat):AObj->Bool
 | .row _ _ nr _ _ xs=>nr || xs.all fun x=>x.flat.all fun y=>y.ids.all fun o=>Nat.blt o N
 | .loop _ sl _ _ _ _ _=>sl.all fun p=>p.2.ids.all fun o=>Nat.blt o N
 | .dead=>true
 | _=>false
theorem Q40 {N:Nat} {x:AObj} (h:Qst N x=true):Qde N x:=by
 cases x with
 | row bx ro nr fl w xs =>
  simp only [Qst,aN,bU] at h
  exact h.imp id fun h x hx y hy o ho=>Kl (h x hx y hy o ho)
 | loop nt sl ps as bd st pe =>
  simp only [Qst,bU] at h
  exact fun p hp o ho=>Kl (h p hp o ho)
 | dead=>trivial
 | fam=>cases h
 | refs=>cases h
theorem Qlt {N:Nat} {x:AObj} (h:Qde N x):Qpf x=true:=by cases x <;> first | rfl | exact h.elim
theorem Qx0 {objs:List AObj} (h:∀x∈objs,Qpf x=true) (id:Nat):Qa9 objs id=none:=by
 unfold Qa9
 rw [dif_neg]
 rintro ⟨y,k,i,w,fl,xs,l,_,hk,_⟩
 have:=h _ (aF hk)
 cases this
theorem Qpd {x:AObj} (h:Qpf x=true):x.plain=x:=by cases x <;> first | rfl | cases h
theorem Qvi {objs:List AObj} (h:∀x∈objs,Qpf x=true) (hb:objs.length<=BIG) (id:Nat):sto objs id=objs[id]?:=by
 by_cases hi:id < BIG
 ·rw [Xz hi]
  cases e:objs[id]? with
  | none=>rfl
  | some x=>simp [Qpd (h x (aF e))]
 rw [Qkk (by omega),Qx0 h,dU (by omega)]
theorem Qvv:∀{l:List (Nat × AV)} {t:Nat} {x:AV},lk l t=some x->∃p∈l,p.2=x
 | [],t,x,h=>by cases h
 | (k,y)::r,t,x,h=>by
  unfold lk at h
  split at h
  ·cases h; exact ⟨(k,y),by simp,rfl⟩
  obtain ⟨p,hp,e⟩:=Qvv h
  exact ⟨p,cR _ hp,e⟩
section
variable {P:Program} {B N:Nat} {W0 W:World} {D:List Nat} {M:CM} {ι:Inj} {σ:Sto}
def Qiq (N:Nat) (ι:Inj) (σ:Sto) (b:Nat):Prop:=∃k p fn sl ps as bd st pe,¬ k < N/\σ k=some (.loop fn sl ps as bd st pe)/\ι k=some p/\p.blk=b
def Qdf (N:Nat) (ι:Inj) (σ:Sto) (b o:Nat):Prop:=∃k p bx nr fl w xs j,¬ k < N/\σ k=some (.row bx false nr fl w xs)/\ι k=some p/\p.blk=b/\o=p.base+j/\j < p.cap*w
open Classical in
noncomputable def Ql9 (N:Nat) (ι:Inj) (σ:Sto) (W:World) (M:CM):CM :=
 ⟨M.f,M.ok,fun b=>if Qiq N ι σ b then W.heap[b]? else M.blk b,fun b o=>if Qdf N ι σ b o then W.cell? ⟨b,o,none⟩ else M.kc b o⟩
theorem Qm8 (h:Rel P B W0 D M ι σ W) {b:Nat} (hb:Qiq N ι σ b):M.blk b=none/\∃l,W.heap[b]?=some (Qch l):=by
 obtain ⟨k,p,fn,sl,ps,as,bd,st,pe,_,hk,hp',rfl⟩:=hb
 obtain ⟨q,nt1,hq,hb1,_,tmps,_,hrec,_⟩:=h.loop k _ _ _ _ _ _ _ hk
 rw [hp'] at hq; cases hq
 exact ⟨hb1,_,hrec⟩
theorem Qfc (h:Rel P B W0 D M ι σ W) {b o:Nat} (hb:Qdf N ι σ b o):M.kc b o=none/\M b o=none/\(∃v,W.cell? ⟨b,o,none⟩=some v)/\∀j,W.frozen? ⟨b,j,none⟩=false:=by
 obtain ⟨k,p,bx,nr,fl,w,xs,j,_,hk,hp',rfl,rfl,hj⟩:=hb
 obtain ⟨q,hq,hr⟩:=h.row k _ _ _ _ _ _ hk
 rw [hp'] at hq; cases hq
 have c:=h.cool k bx nr fl w xs p j hk hp' hj
 obtain ⟨o1,o2⟩:=(hr.own rfl).2 j hj
 exact ⟨c.2,o2,dY.1 o1,c.1⟩
open Classical in
theorem Rel.hide (h:Rel P B W0 D M ι σ W) (hA:∀k x,k < N->σ k=some x->Qde N x) :
  Rel P B W0 D (Ql9 N ι σ W M) (fun k=>if k < N then ι k else none) (fun k=>if k < N then σ k else none) W:=by
 have hM1:M.le (Ql9 N ι σ W M):=fun _ _ _ h=>h
 have blk1:∀b,(Ql9 N ι σ W M).blk b=if Qiq N ι σ b then W.heap[b]? else M.blk b:=fun b=>rfl
 have kc1:∀b o,(Ql9 N ι σ W M).kc b o=if Qdf N ι σ b o then W.cell? ⟨b,o,none⟩ else M.kc b o:=fun b o=>rfl
 have low:∀{k:Nat} {x:AObj},(if k < N then σ k else none)=some x->k < N/\σ k=some x:=fun {k x} hk=>by
  by_cases e:k < N
  ·rw [aH e] at hk; exact ⟨e,hk⟩
  rw [aJ e] at hk; cases hk
 have lowi:∀{k:Nat} {p:Place},k < N->(if k < N then ι k else none)=some p->ι k=some p:=fun e hk=>by rw [aH e] at hk; exact hk
 have rep1:∀{v:Value} {y:AV},(∀o∈y.ids,o < N)->Qb M ι v y->Qb (Ql9 N ι σ W M) (fun k=>if k < N then ι k else none) v y:=fun hi h=>(h.congr fun o ho=>aH (hi o ho)).mono hM1 (Inj.le_refl _)
 refine ⟨h.size,h.below,h.defs,⟨h.agree.cell,fun b x hb=>?_,fun b o v hb=>?_⟩,fun o bx nr fl w xs p k ho hp' hk=>?_,fun o bx ro nr fl w xs ho=>?_,fun o fn sl ps as bd st pe ho=>?_,fun o o' bx nr fl w xs bx' nr' fl' w' xs' p p' hne h1 h2 h3 h4=>?_,fun o o' fn sl ps as bd st pe fn' sl' ps' as' bd' st' pe' p p' hne h1 h2 h3 h4=>?_,fun o ho=>?_⟩
 ·rw [blk1] at hb
  by_cases hd:Qiq N ι σ b
  ·rw [aH hd] at hb
   obtain ⟨_,l,hl⟩:=Qm8 h hd
   rw [hl] at hb; cases hb
   exact ⟨hl,fun c e f=>Qk7 c e f,fun d he=>Qij (x:=d) (by rw [he])⟩
  ·rw [aJ hd] at hb; exact h.agree.keep b x hb
 ·rw [kc1] at hb
  by_cases hd:Qdf N ι σ b o
  ·rw [aH hd] at hb
   exact ⟨hb,(Qfc h hd).2.2.2⟩
  ·rw [aJ hd] at hb; exact h.agree.keepC b o v hb
 ·obtain ⟨l1,ho⟩:=low ho
  have hp':=lowi l1 hp'
  have c:=h.cool o bx nr fl w xs p k ho hp' hk
  refine ⟨c.1,?_⟩
  rw [kc1,aJ]
  ·exact c.2
  ·rintro ⟨k2,p2,bx2,nr2,fl2,w2,xs2,j2,n2,hk2,hp2,hb2,ho2,hj2⟩
   obtain ⟨q,hq,hr⟩:=h.row o _ _ _ _ _ _ ho
   rw [hp'] at hq; cases hq
   obtain ⟨q,hq,hr2⟩:=h.row k2 _ _ _ _ _ _ hk2
   rw [hp2] at hq; cases hq
   have hpw:=hr.pw
   have hpw2:=hr2.pw
   rcases h.apart o k2 _ _ _ _ _ _ _ _ _ _ _ _ (fun e=>n2 (e ▸ l1)) ho hk2 hp' hp2 with a | a | a
   ·exact a hb2.symm
   ·rw [hpw] at a; omega
   ·rw [hpw2] at a; omega
 ·obtain ⟨l1,ho⟩:=low ho
  obtain ⟨p,hp',hrow⟩:=h.row o bx ro nr fl w xs ho
  refine ⟨p,by rw [aH l1]; exact hp',hrow.pw,hrow.pos,hrow.cpos,hrow.len,hrow.shaped,hrow.nr,hrow.fl,fun i j x y hi hj=>?_,hrow.own,fun hro i j x y hi hj=>?_⟩
  ·obtain ⟨v,hv,hrep⟩:=hrow.cells i j x y hi hj
   refine ⟨v,hv,?_⟩
   rcases hA o _ l1 ho with hn | hn
   ·exact (hrep.of_nr (AV.nr_flat (Qp.1 (hrow.nr hn) x (aF hi)) y (aF hj))).mono hM1 (Inj.le_refl _)
   ·exact rep1 (hn x (aF hi) y (aF hj)) hrep
  ·obtain ⟨v,hv,hrep⟩:=hrow.imm hro i j x y hi hj
   exact ⟨v,hv,hrep.mono hM1 (Inj.le_refl _)⟩
 ·obtain ⟨l1,ho⟩:=low ho
  obtain ⟨p,nt1,hp',hb1,hB1,tmps,hsz,hrec,hsl1⟩:=h.loop o fn sl ps as bd st pe ho
  refine ⟨p,nt1,by rw [aH l1]; exact hp',?_,hB1,tmps,hsz,hrec,fun t x hx=>?_⟩
  ·rw [blk1,aJ]
   ·exact hb1
   ·rintro ⟨k,q,fn',sl',ps',as',bd',st',pe',hk,hk',hq,hqb⟩
    exact h.loops o k _ _ _ _ _ _ _ _ _ _ _ _ _ _ _ _ (fun e=>hk (e ▸ l1)) ho hk' hp' hq hqb.symm
  ·obtain ⟨q,hq,rfl⟩:=Qvv hx
   exact rep1 (hA o _ l1 ho q hq) (hsl1 t _ hx)
 ·obtain ⟨l1,h1⟩:=low h1
  obtain ⟨l2,h2⟩:=low h2
  exact h.apart o o' bx nr fl w xs bx' nr' fl' w' xs' p p' hne h1 h2 (lowi l1 h3) (lowi l2 h4)
 ·obtain ⟨l1,h1⟩:=low h1
  obtain ⟨l2,h2⟩:=low h2
  exact h.loops o o' fn sl ps as bd st pe fn' sl' ps' as' bd' st' pe' p p' hne h1 h2 (lowi l1 h3) (lowi l2 h4)
 ·by_cases l1:o < N
  ·rw [aH l1] at ho ⊢; exact h.used o ho
  ·exact .inl (aJ l1)
open Classical in
theorem Rel.unhide {W':World} {M':CM} {ι':Inj} {σ':Sto} (h:Rel P B W0 D M ι σ W) (h':Rel P B W0 D M' ι' (fun k=>if k < N then σ' k else none) W') (hG:CM.Grow B (Ql9 N ι σ W M) M') (hι:∀k,k < N->ι' k=ι k)
  (hA:∀k x,k < N->σ' k=some x->Qde N x) :
  ∃M2:CM,CM.Grow B M M2/\M'.le M2/\Rel P B W0 D M2 ι (fun k=>if k < N then σ' k else σ k) W':=by
 let M2:CM:=⟨M'.f,M'.ok,M.blk,M.kc⟩
 have hM2:M'.le M2:=fun _ _ _ h=>h
 have hMM2:M.le M2:=fun b o v h=>hG.le b o v h
 have blk':∀b,M'.blk b=if Qiq N ι σ b then W.heap[b]? else M.blk b:=fun b=>by rw [hG.keep]; rfl
 have kc':∀b o,M'.kc b o=if Qdf N ι σ b o then W.cell? ⟨b,o,none⟩ else M.kc b o:=fun b o=>by rw [hG.keepC]; rfl
 have notB:∀b,M'.blk b=none->¬ Qiq N ι σ b/\M.blk b=none:=fun b hb=>by
  rw [blk'] at hb
  by_cases hd:Qiq N ι σ b
  ·rw [aH hd] at hb
   obtain ⟨_,l,hl⟩:=Qm8 h hd
   rw [hl] at hb; cases hb
  rw [aJ hd] at hb; exact ⟨hd,hb⟩
 have notC:∀b o,M'.kc b o=none->¬ Qdf N ι σ b o/\M.kc b o=none:=fun b o hb=>by
  rw [kc'] at hb
  by_cases hd:Qdf N ι σ b o
  ·rw [aH hd] at hb
   obtain ⟨_,_,⟨v,hv⟩,_⟩:=Qfc h hd
   rw [hv] at hb; cases hb
  rw [aJ hd] at hb; exact ⟨hd,hb⟩
 have low:∀{k:Nat} {x:AObj},k < N->(if k < N then σ' k else σ k)=some x->(if k < N then σ' k else none)=some x/\σ' k=some x:=fun e hk=>by
  rw [aH e] at hk ⊢; exact ⟨hk,hk⟩
 have high:∀{k:Nat} {x:AObj},¬ k < N->(if k < N then σ' k else σ k)=some x->σ k=some x:=fun e hk=>by rw [aJ e] at hk; exact hk
 have repl:∀{v:Value} {y:AV},(∀o∈y.ids,o < N)->Qb M' ι' v y->Qb M2 ι v y:=fun hi h=>(h.congr fun o ho=>(hι o (hi o ho)).symm).mono hM2 (Inj.le_refl _)
 refine ⟨M2,⟨hMM2,hG.old,rfl,rfl,fun b o v hv=>?_⟩,hM2,h'.size,h'.below,h'.defs,⟨h'.agree.cell,fun b x hb=>?_,fun b o v hb=>?_⟩,fun o bx nr fl w xs p k ho hp' hk=>?_,fun o bx ro nr fl w xs ho=>?_,fun o fn sl ps as bd st pe ho=>?_,fun o o' bx nr fl w xs bx' nr' fl' w' xs' p p' hne h1 h2 h3 h4=>?_,fun o o' fn sl ps as bd st pe fn' sl' ps' as' bd' st' pe' p p' hne h1 h2 h3 h4=>?_,fun o ho=>?_⟩
 ·by_cases hd:Qdf N ι σ b o
  ·rw [(Qfc h hd).1] at hv; cases hv
  ·exact hG.keepF b o v (by show (if Qdf N ι σ b o then _ else _)=_; rw [aJ hd]; exact hv)
 ·have hb':M.blk b=some x:=hb
  refine h'.agree.keep b x ?_
  rw [blk']
  by_cases hd:Qiq N ι σ b
  ·rw [(Qm8 h hd).1] at hb'; cases hb'
  ·rw [aJ hd]; exact hb'
 ·have hb':M.kc b o=some v:=hb
  refine h'.agree.keepC b o v ?_
  rw [kc']
  by_cases hd:Qdf N ι σ b o
  ·rw [(Qfc h hd).1] at hb'; cases hb'
  ·rw [aJ hd]; exact hb'
 ·by_cases hl:o < N
  ·obtain ⟨ho1,ho2⟩:=low hl ho
   have c:=h'.cool o bx nr fl w xs p k ho1 (by rw [hι o hl]; exact hp') hk
   exact ⟨c.1,(notC _ _ c.2).2⟩
  ·have ho:=high hl ho
   have hd:Qdf N ι σ p.blk (p.base+k):=⟨o,p,bx,nr,fl,w,xs,k,hl,ho,hp',rfl,rfl,hk⟩
   obtain ⟨s1,s2,⟨v,hv⟩,s4⟩:=Qfc h hd
   exact ⟨(h'.agree.keepC _ _ v (by rw [kc',aH hd]; exact hv)).2,s1⟩
 ·by_cases hl:o < N
  ·obtain ⟨ho1,ho2⟩:=low hl ho
   obtain ⟨p,hp',hrow⟩:=h'.row o bx ro nr fl w xs ho1
   refine ⟨p,by rw [<-hι o hl]; exact hp',hrow.pw,hrow.pos,hrow.cpos,hrow.len,hrow.shaped,hrow.nr,hrow.fl,fun i j x y hi hj=>?_,hrow.own,fun hro i j x y hi hj=>?_⟩
   ·obtain ⟨v,hv,hrep⟩:=hrow.cells i j x y hi hj
    refine ⟨v,hv,?_⟩
    rcases hA o _ hl ho2 with hn | hn
    ·exact (hrep.of_nr (AV.nr_flat (Qp.1 (hrow.nr hn) x (aF hi)) y (aF hj))).mono hM2 (Inj.le_refl _)
    ·exact repl (hn x (aF hi) y (aF hj)) hrep
   ·obtain ⟨v,hv,hrep⟩:=hrow.imm hro i j x y hi hj
    exact ⟨v,hv,hrep.mono hM2 (Inj.le_refl _)⟩
  ·have ho:=high hl ho
   obtain ⟨p,hp',hrow⟩:=h.row o bx ro nr fl w xs ho
   cases ro with
   | true =>
    have himm:∀(i j:Nat) (x y:AV),xs[i]?=some x->x.flat[j]?=some y->∃v,M2 p.blk (p.base+i*w+j)=some v/\Qb M2 noInj v y:=fun i j x y hi hj=>by
     obtain ⟨v,hv,hrep⟩:=hrow.imm rfl i j x y hi hj
     exact ⟨v,hMM2 _ _ _ hv,hrep.mono hMM2 (Inj.le_refl _)⟩
    refine ⟨p,hp',hrow.pw,hrow.pos,hrow.cpos,hrow.len,hrow.shaped,hrow.nr,hrow.fl,fun i j x y hi hj=>?_,fun h=>(by cases h),fun _=>himm⟩
    obtain ⟨v,hv,hrep⟩:=himm i j x y hi hj
    exact ⟨v,h'.agree.cell _ _ _ hv,hrep.mono (CM.le_refl _) (Inj.noInj_le _)⟩
   | false =>
    have kept:∀k,k < p.cap*w->∀v,W.cell? ⟨p.blk,p.base+k,none⟩=some v->W'.cell? ⟨p.blk,p.base+k,none⟩=some v:=fun k hk v hv =>
     (h'.agree.keepC _ _ v (by rw [kc',aH ⟨o,p,bx,nr,fl,w,xs,k,hl,ho,hp',rfl,rfl,hk⟩]; exact hv)).1
    refine ⟨p,hp',hrow.pw,hrow.pos,hrow.cpos,hrow.len,hrow.shaped,hrow.nr,hrow.fl,fun i j x y hi hj=>?_,fun _=>⟨(hrow.own rfl).1,fun k hk=>?_⟩,fun h=>(by cases h)⟩
    ·obtain ⟨v,hv,hrep⟩:=hrow.cells i j x y hi hj
     have hi':=(aD.1 hi).1
     have hj':=(aD.1 hj).1
     rw [(hrow.shaped x (aF hi)).len] at hj'
     have hlt:i*w+j < p.cap*w:=by
      have h1:(i+1)*w<=p.cap*w:=aU _ (by have:=hrow.len; omega)
      rw [eD] at h1; omega
     have:=kept (i*w+j) hlt v (by rw [<-cN]; exact hv)
     exact ⟨v,by rw [cN]; exact this,hrep.mono hMM2 (Inj.le_refl _)⟩
    obtain ⟨o1,o2⟩:=(hrow.own rfl).2 k hk
    obtain ⟨v,hv⟩:=dY.1 o1
    refine ⟨by rw [kept k hk v hv]; rfl,?_⟩
    have hd:Qdf N ι σ p.blk (p.base+k):=⟨o,p,bx,nr,fl,w,xs,k,hl,ho,hp',rfl,rfl,hk⟩
    have:=hG.keepF p.blk (p.base+k) v (by show (if Qdf N ι σ p.blk (p.base+k) then _ else _)=_; rw [aH hd]; exact hv)
    exact this.trans o2
 ·by_cases hl:o < N
  ·obtain ⟨ho1,ho2⟩:=low hl ho
   obtain ⟨p,nt1,hp',hb1,hB1,tmps,hsz,hrec,hsl1⟩:=h'.loop o fn sl ps as bd st pe ho1
   refine ⟨p,nt1,by rw [<-hι o hl]; exact hp',(notB _ hb1).2,hB1,tmps,hsz,hrec,fun t x hx=>?_⟩
   obtain ⟨q,hq,rfl⟩:=Qvv hx
   exact repl (hA o _ hl ho2 q hq) (hsl1 t _ hx)
  ·have ho:=high hl ho
   obtain ⟨p,nt1,hp',hb1,hB1,tmps,hsz,hrec,hsl1⟩:=h.loop o fn sl ps as bd st pe ho
   refine ⟨p,nt1,hp',hb1,hB1,tmps,hsz,?_,fun t x hx=>(hsl1 t x hx).mono hMM2 (Inj.le_refl _)⟩
   exact (h'.agree.keep p.blk _ (by rw [blk',aH ⟨o,p,fn,sl,ps,as,bd,st,pe,hl,ho,hp',rfl⟩]; exact hrec)).1
 ·have cellOf:∀{k bx nr fl w xs q},¬ k < N->σ k=some (.row bx false nr fl w xs)->ι k=some q->∀j,j < q.cap*q.w->Qdf N ι σ q.blk (q.base+j):=fun {k bx nr fl w xs q} hk h1 hq j hj=>by
   obtain ⟨q',hq',hr⟩:=h.row k _ _ _ _ _ _ h1
   rw [hq] at hq'; cases hq'
   exact ⟨k,q,bx,nr,fl,w,xs,j,hk,h1,hq,rfl,rfl,by rw [<-hr.pw]; exact hj⟩
  have free:∀{k bx nr fl w xs q},k < N->(if k < N then σ' k else σ k)=some (.row bx false nr fl w xs)->ι k=some q->∀j,j < q.cap*q.w->¬ Qdf N ι σ q.blk (q.base+j):=fun {k bx nr fl w xs q} hk h1 hq j hj=>by
   obtain ⟨h1,_⟩:=low hk h1
   obtain ⟨q',hq',hr⟩:=h'.row k _ _ _ _ _ _ h1
   rw [hι k hk,hq] at hq'; cases hq'
   exact (notC _ _ (h'.cool k bx nr fl w xs q j h1 (by rw [hι k hk]; exact hq) (by rw [<-hr.pw]; exact hj)).2).1
  have mixed:∀{k bx nr fl w xs q k2 bx2 nr2 fl2 w2 xs2 q2},k < N->¬ k2 < N->(if k < N then σ' k else σ k)=some (.row bx false nr fl w xs)->(if k2 < N then σ' k2 else σ k2)=some (.row bx2 false nr2 fl2 w2 xs2)->ι k=some q->ι k2=some q2 ->
    q.blk≠q2.blk\/q.base+q.cap*q.w<=q2.base\/q2.base+q2.cap*q2.w<=q.base:=fun {k bx nr fl w xs q k2 bx2 nr2 fl2 w2 xs2 q2} l1 l2 h1 h2 h3 h4=>by
   apply Classical.byContradiction
   intro hno
   have hblk:q.blk=q2.blk:=Classical.byContradiction fun e=>hno (.inl e)
   have a1:¬ q.base+q.cap*q.w<=q2.base:=fun e=>hno (.inr (.inl e))
   have a2:¬ q2.base+q2.cap*q2.w<=q.base:=fun e=>hno (.inr (.inr e))
   have n1:0 < q.cap*q.w:=by
    obtain ⟨q',hq',hr⟩:=h'.row k _ _ _ _ _ _ (low l1 h1).1
    rw [hι k l1,h3] at hq'; cases hq'
    rcases hr.cpos with e | e
    ·exact Nat.mul_pos e (by rw [hr.pw]; exact hr.pos)
    ·rcases eN (q.cap*q.w) with z | z
     ·omega
     ·exact z
   have n2:0 < q2.cap*q2.w:=by
    obtain ⟨q',hq',hr⟩:=h.row k2 _ _ _ _ _ _ (high l2 h2)
    rw [h4] at hq'; cases hq'
    rcases hr.cpos with e | e
    ·exact Nat.mul_pos e (by rw [hr.pw]; exact hr.pos)
    ·rcases eN (q2.cap*q2.w) with z | z
     ·omega
     ·exact z
   have c1:=cellOf l2 (high l2 h2) h4
   have c2:=free l1 h1 h3
   rcases Nat.le_total q.base q2.base with e | e
   ·have:=c2 (q2.base - q.base) (by omega)
    rw [show q.base+(q2.base - q.base)=q2.base+0 by omega,hblk] at this
    exact this (c1 0 (by omega))
   ·have:=c2 0 (by omega)
    rw [hblk,show q.base+0=q2.base+(q.base - q2.base) by omega] at this
    exact this (c1 (q.base - q2.base) (by omega))
  by_cases l1:o < N
  ·by_cases l2:o' < N
   ·exact h'.apart o o' bx nr fl w xs bx' nr' fl' w' xs' p p' hne (low l1 h1).1 (low l2 h2).1 (by rw [hι o l1]; exact h3) (by rw [hι o' l2]; exact h4)
   ·exact mixed l1 l2 h1 h2 h3 h4
  ·by_cases l2:o' < N
   ·rcases mixed l2 l1 h2 h1 h4 h3 with a | a | a
    ·exact .inl (Ne.symm a)
    ·exact .inr (.inr a)
    ·exact .inr (.inl a)
   ·exact h.apart o o' bx nr fl w xs bx' nr' fl' w' xs' p p' hne (high l1 h1) (high l2 h2) h3 h4
 ·have free:∀{k fn sl ps as bd st pe q},k < N->(if k < N then σ' k else σ k)=some (.loop fn sl ps as bd st pe)->ι k=some q->¬ Qiq N ι σ q.blk:=fun {k fn sl ps as bd st pe q} hk h1 hq=>by
   obtain ⟨h1,_⟩:=low hk h1
   obtain ⟨p,nt1,hp',hb1,_⟩:=h'.loop _ _ _ _ _ _ _ _ h1
   rw [hι k hk,hq] at hp'; cases hp'
   exact (notB _ hb1).1
  have one:∀{k fn sl ps as bd st pe q},¬ k < N->(if k < N then σ' k else σ k)=some (.loop fn sl ps as bd st pe)->ι k=some q->Qiq N ι σ q.blk:=fun hk h1 hq=>⟨_,_,_,_,_,_,_,_,_,hk,high hk h1,hq,rfl⟩
  by_cases l1:o < N
  ·by_cases l2:o' < N
   ·exact h'.loops o o' fn sl ps as bd st pe fn' sl' ps' as' bd' st' pe' p p' hne (low l1 h1).1 (low l2 h2).1 (by rw [hι o l1]; exact h3) (by rw [hι o' l2]; exact h4)
   ·exact fun e=>free l1 h1 h3 (e ▸ one l2 h2 h4)
  ·by_cases l2:o' < N
   ·exact fun e=>free l2 h2 h4 (e ▸ one l1 h1 h3)
   ·exact h.loops o o' fn sl ps as bd st pe fn' sl' ps' as' bd' st' pe' p p' hne (high l1 h1) (high l2 h2) h3 h4
 ·by_cases hl:o < N
  ·rw [aH hl]
   have:=h'.used o (by rw [hι o hl]; exact ho)
   rw [aH hl] at this
   exact this
  ·rw [aJ hl]; exact h.used o ho
end
end Go.Ab
namespace Go.Ab
open Go.RowKit
theorem Qw5:∀D:List Nat,∃D':List Nat,D'.Nodup/\∀r,r∈D'↔r∈D
 | []=>⟨[],List.nodup_nil,fun r=>Iff.rfl⟩
 | x::D=>by
  obtain ⟨D',h1,h2⟩:=Qw5 D
  by_cases hx:x∈D'
  ·exact ⟨D',h1,fun r=>by rw [h2,cI]; exact ⟨.inr,fun h=>h.elim (fun e=>by subst e; exact (h2 _).1 hx) id⟩⟩
  exact ⟨x::D',List.nodup_cons.2 ⟨hx,h1⟩,fun r=>by rw [cI,cI,h2]⟩
theorem Qlp:∀{es:List (Nat × AObj)} {objs objs':List AObj},Z7 objs es=some objs'->(∀y∈es,y.1 < objs.length)->objs'.length=objs.length
 | [],objs,objs',h,_=>by cases h; rfl
 | (o,x)::es,objs,objs',h,hl=>by
  simp only [Z7] at h
  split at h
  ·split at h
   ·split at h
    ·cases h
    rw [Qlp h (fun y hy=>by rw [cF]; exact hl y (cR _ hy)),cF]
   rename_i hn
   have:=hl (o,x) (by simp)
   rw [aG this] at hn; cases hn
  cases h
section
variable {P:Program} {ops:Array Oper} {o:Oper}
theorem Q5s {g:Operand} {args:Array Operand} {ts:Array TypeId} {f:FuncId} {fn:Func} {c:Code} {first caps as:List AV} {e:Zh} {x:AV} {s:Slots} {σ:Sto} {N n:Nat} {A A':List AObj} {sl':List (Nat × AV)} {nt':Nat} {eff:List (Nat × AObj)}
  (hw:X0 ops s o=some true) (ho:o.op=.call { callee:=.value g,args,argTypes:=ts }) (hg:evo s g=some (.fn (.func f) first caps)) (has:Kc s args.toList=some as)
  (hf:P.funcs[f]?=some fn) (hb:fn.body=some c) (hn:(fn.name == "runtime.NumGoroutine")=false) (hle:(first++as++caps).length<=fn.ntmps)
  (hσ:∀k,k < N->σ k=A[k]?) (hN:A.length=N) (hN':A'.length=N) (hbig:N<=BIG) (hlive:∀y∈A,Qs3 y=true) (hA:∀y∈A,Qde N y) (hA':∀y∈A',Qde N y)
  (hids:∀a∈first++as++caps,∀k∈a.ids,k < N)
  (h:Xh P none N c ⟨Vc 0 (first++as++caps),A,fn.ntmps⟩ (.go e ⟨sl',A',nt'⟩)) (hend:e.ends=true) (hr:resultA P fn ⟨sl',A',nt'⟩=some x) (hx:x.nr=true)
  (heff:∀k,k < N->Sto.puts (fun k=>A[k]?) eff k=A'[k]?) (heff2:∀y∈eff,y.1 < N) :
  YlL P ops o ⟨some x,eff,n,n,List.range N⟩ s σ:=by
 intro s' σ' hs' hσ'
 have hl:=Qfh (ops:=ops) hs'
 rw [ho] at hl
 have hg':evo s' g=some (.fn (.func f) first caps):=by rw [hl g (by simp [Op.operands,Call.operands])]; exact hg
 have has':Kc s' args.toList=some as:=by rw [evos_congr (fun y hy=>hl y (by simp [Op.operands,Call.operands]; exact .inr (by simpa using hy)))]; exact has
 refine .inl ⟨by rw [Jt hs']; exact hw,?_⟩
 intro B W0 D M ι a W nn Q r next hrel hsl hfree hpost
 simp only at hfree hpost
 have hσN:∀k,k < N->σ' k=A[k]?:=fun k hk=>by rw [hσ' k (cX.2 hk)]; exact hσ k hk
 have hgv:=Qe hsl hg'
 generalize hgu:a.eval g=gu at hgv
 cases hgv with
 | fn _ first' caps' _ _ hy hm h1 h2 hr1 hr2 =>
 obtain ⟨l1,e1⟩:=V2 hsl has'
 refine ⟨fun _ _=>trivial,?_⟩
 rw [Oper.semAt_eq _ _ _ (by rw [ho]; simp)]
 have hrun:(execOp a.eval o).run P W=.ok (.enter f (first'++args.map a.eval++caps')) W:=by
  simp only [execOp,ho,resolve,hgu,Deferred.ofValue,Sem.run_bind,Sem.run_pure,Result.andThen_ok,invoke]
  exact Ju hf (by rw [hb]; rfl) hn _ W
 rw [hrun,Oper.uponIn_enter]
 have hrep:∀(j:Nat) (v:Value) (y:AV),(first'++args.map a.eval++caps')[j]?=some v->(first++as++caps)[j]?=some y->Qb M ι v y :=
  Qg0 h1 (by simpa using l1.symm) h2 hr1 (fun j v y hv hy=>by
   simp only [Array.getElem?_map,aT] at hv
   obtain ⟨w,hw,rfl⟩:=hv
   exact (e1 j w y (by simpa using hw) hy).2) hr2
 have hsz:(first'++args.map a.eval++caps').size=(first++as++caps).length:=by simp [h1,h2,l1]
 have hOk:∀k x,k < N->σ' k=some x->Qde N x:=fun k x hk hx=>by
  rw [hσN k hk] at hx; exact hA x (aF hx)
 have hhide:=hrel.hide (N:=N) hOk
 have hsA:sto A=fun k=>if k < N then σ' k else none:=funext fun k=>by
  rw [Qvi (fun y hy=>Qlt (hA y hy)) (by omega)]
  by_cases hk:k < N
  ·rw [aH hk,hσN k hk]
  rw [aJ hk,dU (by omega)]
 rw [<-hsA] at hhide
 obtain ⟨D0,hnd,hmem⟩:=Qw5 D
 have hhide0:=hhide.mem (D':=D0) (fun r hr=>(hmem r).1 hr)
 have hM1:M.le (Ql9 N ι σ' W M):=fun _ _ _ h=>h
 refine ⟨fun hd=>by simp [FW,Fence.wide] at hd,Qef ?_⟩
 refine callsIn_wide.1 (callsIn_of_wp_marks (F:=FW none) (n:=0) hf hb trivial ?_)
 refine h B W0 D0 [] (Ql9 N ι σ' W M) (fun k=>if k < N then ι k else none) _ W 0 _ none ⟨hhide0,Qcj fn.ntmps (fun j v y hv hy=>?_) hsz,by rw [Array.size_append,Array.size_replicate]; show _=fn.ntmps; omega,⟨rfl,fun r hr=>by simp at hr,by simpa using hnd⟩,fun k hk=>?_,by show A.length<=BIG; omega⟩ rfl ⟨?_,fun v hv=>by cases hv⟩
 ·have hi:=hids y (aF hy)
  exact ((hrep j v y hv hy).congr fun o ho=>aH (hi o ho)).mono hM1 (Inj.le_refl _)
 ·exact aJ (fun hlt=>hk (.inl (by show k < A.length; omega)))
 intro e' st'' he dl' M' ι' a' W' g1 g2 g3 g4
 cases he
 have hex:e.exit'=.normal\/e.exit'=.ret:=by cases e <;> simp_all [Zh.ends,Zh.exit']
 have cut:∀R,LeavesInM (FW none) 0 P fn a'.tmps R a'.defers .returning W'->bodyPostM (FW none) 0 P fn R e.exit' a' W':=fun R hR=>by
  rcases hex with e1 | e1 <;> rw [e1] <;> exact hR
 apply cut
 rw [g4.df.defs]
 refine Qex (by simp) dl' W' g4.rel g4.df.nd g4.df.old (fun W2 h2=>?_)
 obtain ⟨v,k1,k2⟩:=Qcz h2 g4.slots hr
 refine ⟨v,k1,?_⟩
 have hι:∀k,k < N->ι' k=ι k:=fun k hk=>by
  have hlv:∃p,ι k=some p:=by
   have hAk:A[k]?=some (A[k]'(by omega)):=aG (by omega)
   have hk':=hσN k hk
   rw [hAk] at hk'
   have hlv:=hlive _ (aF hAk)
   cases hy:A[k]'(by omega) with
   | row bx ro nr fl w xs=>rw [hy] at hk'; obtain ⟨p,hp,_⟩:=hrel.row k _ _ _ _ _ _ hk'; exact ⟨p,hp⟩
   | loop nt sl ps as bd st pe=>rw [hy] at hk'; obtain ⟨p,_,hp,_⟩:=hrel.loop k _ _ _ _ _ _ _ hk'; exact ⟨p,hp⟩
   | _=>rw [hy] at hlv; cases hlv
  obtain ⟨p,hp⟩:=hlv
  rw [hp]
  exact g2 k p (.inl hk) (by show (if k < N then ι k else none)=_; rw [aH hk]; exact hp)
 have h2':=h2.mem (D':=D) (fun r hr=>(hmem r).2 hr)
 have hsA':sto A'=fun k=>if k < N then (fun k=>A'[k]?) k else none:=funext fun k=>by
  rw [Qvi (fun y hy=>Qlt (hA' y hy)) (by omega)]
  by_cases hk:k < N
  ·rw [aH hk]
  rw [aJ hk,dU (by omega)]
 rw [show (⟨sl',A',nt'⟩:St).objs=A' from rfl,hsA'] at h2'
 obtain ⟨M2,q1,q2,q3⟩:=hrel.unhide h2' g1 hι (fun k y hk hy=>hA' y (aF hy))
 refine hpost v W2 M2 ι q1 (Inj.le_refl _) (fun _ _=>rfl) ?_ (fun y hy=>?_)
 ·have:(fun k=>if k < N then (fun k=>A'[k]?) k else σ' k)=σ'.puts eff:=funext fun k=>by
   by_cases hk:k < N
   ·rw [aH hk]
    show A'[k]?=_
    rw [<-heff k hk]
    exact Qgi eff k (.inl (hσN k hk).symm)
   ·rw [aJ hk]
    exact (Qeo (fun y hy e=>hk (by rw [<-e]; exact heff2 y hy))).symm
  rw [<-this]; exact q3
 ·cases hy
  exact (k2.of_nr hx).mono q2 (Inj.noInj_le _)
end
section
variable {P:Program} {rd:Option Nat} {base:Nat} {ops:Array Oper} {d:Option (List Sk)} {st S:St} {Φ:AOut->Prop} {i:Nat}
noncomputable def Qlu (P:Program) (fn:Func) (ops:Array Oper) (i:Nat) (st:St) (eff:List (Nat × AObj)) (st':St):Option St :=
 match resultA P fn st',ops[i]? with
 | some x,some o=>match J7 st.slots st.nt o.dst (some x),Z7 st.objs eff with
  | some slots,some objs=>if x.nr then some ⟨slots,objs,st.nt⟩ else none
  | _,_=>none
 | _,_=>none
theorem Q83 {σ ρ R:Type} {N:Nat} {c:Code} {I:σ->St} {E:ρ->St} {F:σ->Option ρ} {K:ρ->Option R} {r:R} {f:FuncId} {fn:Func} {as0:List AV} (s0:σ) (A H:List AObj) (eff:ρ->List (Nat × AObj)) (S:ρ->St)
  (hi:Zz ops i st=some (f,as0)) (hf:P.funcs[f]?=some fn) (hb:fn.body=some c) (hn:(fn.name == "runtime.NumGoroutine")=false) (hle:Nat.ble as0.length fn.ntmps=true)
  (hsp:st.objs=A++H) (h0:(⟨Vc 0 as0,A,fn.ntmps⟩:St)=I s0) (hN:A.length=N) (hbig:Nat.ble N BIG=true) (hlive:A.all Qs3=true) (hA:∀y∈A,Qde N y) (hE:∀x,(E x).objs.length=N) (hA':∀x,∀y∈(E x).objs,Qde N y)
  (hsl:(as0.all fun a=>a.ids.all fun o=>Nat.blt o N)=true)
  (heff:∀x,∀k,k < N->Sto.puts (fun k=>A[k]?) (eff x) k=(E x).objs[k]?) (hefl:∀x,∀y∈eff x,y.1 < N) (w:List Nat) (hw:∀x,(eff x).map (·.1)=w) (hlow:Nat.ble st.objs.length BIG=true)
  (IH:Qh7 P N c I E F) (h:(F s0).bind K=some r) (hS:∀x,Qlu P fn ops i st (eff x) (E x)=some (S x))
  (k:∀x,K x=some r->RW P rd base ops (Zc d [(w,List.range N)]) (i+1) (S x) Φ):RW P rd base ops d i st Φ:=by
 obtain ⟨o,g,args,ts,first,caps,as1,ho,hop,hg,has,rfl⟩:=Qax hi
 obtain ⟨h1,h2⟩:=Yo ho
 cases hx:F s0 with
 | none=>rw [hx] at h; cases h
 | some x =>
  rw [hx] at h
  obtain ⟨out,hex,hout⟩:=IH s0 x hx
  rw [<-h0] at hex
  have hsx:=hS x
  unfold Qlu at hsx
  split at hsx
  rotate_left
  ·cases hsx
  rename_i y o' hr ho'
  rw [h1] at ho'; cases ho'
  split at hsx
  rotate_left
  ·cases hsx
  rename_i slots objs hp ha
  split at hsx
  rotate_left
  ·cases hsx
  rename_i hy
  have hsS:S x=⟨slots,objs,st.nt⟩:=(dR hsx).symm
  have hks:=k x h
  rw [hsS] at hks
  obtain ⟨p1,p2,p3⟩:=Jr _ _ _ ha
  have hNl:N<=st.objs.length:=by rw [hsp,aP]; omega
  have hbig':N<=BIG:=bT hbig
  have hAsimp:∀z∈A,Qpf z=true:=fun z hz=>Qlt (hA z hz)
  have hσ:∀k,k < N->sto st.objs k=A[k]?:=fun k hk=>by
   have hkb:k < BIG:=by omega
   rw [Xz hkb,hsp,aY (by omega)]
   cases e:A[k]? with
   | none=>rfl
   | some z=>simp [Qpd (hAsimp z (aF e))]
  have hids:∀a∈first++as1++caps,∀k∈a.ids,k < N:=fun a ha k hk=>Kl (bU.1 (bU.1 hsl a ha) k hk)
  have hout':∃e,out=.go e (E x)/\e.ends=true:=by
   rcases hout with he | he
   ·exact ⟨_,he,rfl⟩
   exact ⟨_,he,rfl⟩
  obtain ⟨e,rfl,hend⟩:=hout'
  have hlen:objs.length=st.objs.length:=Qlp ha (fun y hy=>by have:=hefl x y hy; omega)
  refine Qb7 (s:=(w,List.range N)) ⟨o,⟨some y,eff x,st.objs.length,st.objs.length,List.range N⟩,h1,?_,Qvl (by simp [Foot.sk,hw x])⟩ hks
  refine Qkv (Q5s (e:=e) (sl':=(E x).slots) (nt':=(E x).nt) (A:=A) (A':=(E x).objs) h2 hop hg has hf hb hn (bT hle) hσ hN (hE x) hbig' (fun z hz=>bU.1 hlive z hz) hA (hA' x) hids hex hend hr hy (heff x) (hefl x)) rfl ?_ ha hp rfl
  show st.objs.length=objs.length
  exact hlen.symm
end
end Go.Ab
namespace Go.Ab
open Go.RowKit
theorem Qny:∀(es:List (AV × AV)) (i:Nat),Qey i (Xi i es)=some es
 | [],i=>rfl
 | (k,v)::r,i=>by
  simp only [Xi,Qey]
  rw [show Nat.beq i i=true from eO i,show Nat.beq (i+1) (i+1)=true from eO _]
  simp [Qny r (i+2)]
theorem Qro (es:List (AV × AV)):Qe6 (mapO es)=some es:=by
 simp [Qe6,mapO,Qny]
section
variable {P:Program} {α:Type} {enc:α->AV} {kk:IntKind} {kt:TypeId}
end
section
variable {P:Program} {rd:Option Nat} {base:Nat} {ops:Array Oper} {d:Option (List Sk)} {st S:St} {Φ:AOut->Prop} {i:Nat}
theorem Qk0 {P:Program} {nf:Bool} {C:FuncId->List AV->Option Xx} {σ:Sto} {fr:Nat} {s:Slots} {o:Oper} {r:Res}:(Xf P nf C σ fr s o=some (.val r))=(evalOp P nf C σ fr s o=some (.val r)):=by
 apply propext
 unfold Xf
 split
 ·exact Iff.rfl
 cases evalOp P nf C σ fr s o with
 | none=>exact Iff.rfl
 | some y=>cases y <;> simp [Yy]
end
end Go.Ab
namespace Go.Ab
open Go.RowKit
section
variable {P:Program} {rd:Option Nat} {base:Nat} {ops:Array Oper} {d:Option (List Sk)} {st S1 S:St} {Φ:AOut->Prop} {i:Nat}
noncomputable def Qxk (P:Program) (ops:Array Oper) (i:Nat) (st:St):Option (List AV × Int × Nat) :=
 match Z9 ops i st with
 | some o=>match o.op with
  | .indexAddr t x ix=>match ti P t,evo (lk st.slots) x,evo (lk st.slots) ix with
   | some T,some (.fz cs),some (.int _ n)=>match T.kind with
    | .array len e=>match ti P e with
     | some E=>if Nat.beq E.size 1 then some (cs,n,len) else none
     | none=>none
    | _=>none
   | _,_,_=>none
  | _=>none
 | none=>none
noncomputable def Qwt (P:Program) (ops:Array Oper) (i:Nat) (st:St):Option (List AV) :=
 match Z9 ops i st with
 | some o=>match o.op with
  | .load t x=>match ti P t,evo (lk st.slots) x with
   | some T,some (.fz cs)=>if T.agg then none else some cs
   | _,_=>none
  | _=>none
 | none=>none
theorem Q81 {l:List Int} {n a:Int} {kk:IntKind} {len:Nat} {cells:List AV} (hi:Qxk P ops i st=some (cells,n,len)) (hc:cells=l.map (AV.int kk)) (hlen:l.length=len) (ha:lkI l n=some a)
  (h1:Xk ops i st (some (.fz ((l.map (AV.int kk)).drop n.toNat))) []=some S1) (hl:Qwt P ops (i+1) S1=some ((l.map (AV.int kk)).drop n.toNat)) (hS:Xk ops (i+1) S1 (some (.int kk a)) []=some S)
  (k:RW P rd base ops (Zc (Zc d [([],[])]) [([],[])]) (i+1+1) S Φ):RW P rd base ops d i st Φ:=by
 obtain ⟨g1,g2,g3⟩:=Qi3 ha
 subst hc
 have s1:∃o,Z9 ops i st=some o/\Xf P false noC st.sto st.objs.length (lk st.slots) o=some (.val ⟨some (.fz ((l.map (AV.int kk)).drop n.toNat)),[],st.objs.length,[]⟩):=by
  unfold Qxk at hi
  split at hi
  rotate_left
  ·cases hi
  rename_i o ho
  split at hi
  rotate_left
  ·cases hi
  rename_i t x ix hop
  split at hi
  rotate_left
  ·cases hi
  rename_i T cs' k' n' hT hx hix
  split at hi
  rotate_left
  ·cases hi
  rename_i len' e hk
  split at hi
  ·rename_i E hE
   split at hi
   ·rename_i hsz
    have hsz:=aK hsz
    cases hi
    refine ⟨o,ho,?_⟩
    rw [Qk0]
    have hneg:¬ n < 0:=by omega
    simp only [evalOp,hop,hT,hx,hix,hk,hE,asN,hneg,eT]
    rw [aH (Qll (by omega)),hsz,Nat.mul_one]
    rfl
   cases hi
  cases hi
 obtain ⟨o,ho,he⟩:=s1
 refine J2 ho he h1 (X3 h1) ?_
 have s2:∃o,Z9 ops (i+1) S1=some o/\Xf P false noC S1.sto S1.objs.length (lk S1.slots) o=some (.val ⟨some (.int kk a),[],S1.objs.length,[]⟩):=by
  unfold Qwt at hl
  split at hl
  rotate_left
  ·cases hl
  rename_i o ho
  split at hl
  rotate_left
  ·cases hl
  rename_i t x hop
  split at hl
  rotate_left
  ·cases hl
  rename_i T cs hT hx
  split at hl
  ·cases hl
  rename_i hag
  have hcs:=dR hl
  refine ⟨o,ho,?_⟩
  rw [Qk0]
  have hag':T.agg=false:=by simpa using hag
  have hd:(l.map (AV.int kk)).drop n.toNat = AV.int kk a::(l.map (AV.int kk)).drop (n.toNat + 1):=by
   rw [eR (by simpa using g2)]
   congr 1
   rw [List.getElem_map]
   congr 1
   have:=aD.1 g3
   exact this.2
  simp only [evalOp,hop,hT,hx,hcs,hd]
  simp [Qbj,hag',Z8]
 obtain ⟨o2,ho2,he2⟩:=s2
 exact J2 ho2 he2 hS (X3 hS) k
end
end Go.Ab
namespace Go.Ab
open Go.RowKit
def Qow (o:Nat) (m:AObj):List Nat -> List AObj->List AObj
 | k::ks,y::ys=>(if Nat.beq k o then m else y)::Qow o m ks ys
 | _,ys=>ys
theorem Qkj {f:Nat -> Option Nat} {objs:List AObj} {o:Nat} {e m:AObj} (hm:m.ren f=some m) (ho:o < objs.length):∀(ks:List Nat) (os:List AObj),K2 f (objs.set o e) ks=some os->K2 f (objs.set o m) ks=some (Qow o m ks os)
 | [],os,h=>by simp [K2] at h; subst h; rfl
 | k::ks,os,h=>by
  simp only [K2] at h ⊢
  by_cases c:o=k
  ·subst c
   rw [cG ho] at h ⊢
   simp only at h ⊢
   cases hx:e.ren f with
   | none=>rw [hx] at h; cases h
   | some y =>
    rw [hx] at h
    cases hr:K2 f (objs.set o e) ks with
    | none=>rw [hr] at h; cases h
    | some os' =>
     rw [hr] at h
     have ih:=Qkj hm ho ks os' hr
     cases h
     rw [ih,hm]
     simp [Qow]
  rw [cH c] at h ⊢
  cases hk:objs[k]? with
  | none=>rw [hk] at h; cases h
  | some x =>
   rw [hk] at h
   simp only at h ⊢
   cases hx:x.ren f with
   | none=>rw [hx] at h; cases h
   | some y =>
    rw [hx] at h
    cases hr:K2 f (objs.set o e) ks with
    | none=>rw [hr] at h; cases h
    | some os' =>
     rw [hr] at h
     have ih:=Qkj hm ho ks os' hr
     cases h
     rw [ih]
     have:Nat.beq k o=false:=by
      cases e2:Nat.beq k o with
      | false=>rfl
      | true=>exact absurd (aK e2).symm c
     simp [Qow,this]
def Q3y (base:Nat) (live keep:List Nat) (o:Nat) (m:AObj) (st:St):Option St :=
 match Qk2 base live keep ⟨st.slots,st.objs.set o (mapO []),st.nt⟩ with
 | some s=>some ⟨s.slots,Qow o m (List.range base++keep) s.objs,s.nt⟩
 | none=>none
end Go.Ab
namespace Go.Ab
open Go.RowKit
def Ko {κ α:Type} (ke:κ->AV) (enc:α->AV) (p:κ × α):AV × AV:=(ke p.1,enc p.2)
def mapK {κ α:Type} (ke:κ->AV) (enc:α->AV) (l:List (κ × α)):AObj:=mapO (l.map (Ko ke enc))
def Q6 {κ α:Type} (e:κ->κ->Bool):List (κ × α)->κ->Option α
 | [],_=>none
 | p::r,n=>if e n p.1 then some p.2 else Q6 e r n
def kput {κ α:Type} (e:κ->κ->Bool):List (κ × α)->κ->α->List (κ × α)
 | [],n,v=>[(n,v)]
 | p::r,n,v=>if e n p.1 then (n,v)::r else p::kput e r n v
section
variable {P:Program} {κ α:Type} {ke:κ->AV} {enc:α->AV} {e:κ->κ->Bool} {kt:TypeId}
theorem Qj1 (hk:∀a b,Y6 P kt (ke a) (ke b)=some (e a b)) {n:κ}:∀(l:List (κ × α)) (i:Nat),Q6 e l n=none->K9 (Y6 P kt) (ke n) (l.map (Ko ke enc)) i=some none
 | [],i,_=>rfl
 | p::r,i,h=>by
  unfold Q6 at h
  split at h
  ·cases h
  rename_i hc
  simp only [dN,Ko,K9,hk]
  rw [show e n p.1=false by simpa using hc]
  exact Qj1 hk r (i+1) h
theorem Qkq (hk:∀a b,Y6 P kt (ke a) (ke b)=some (e a b)) {n:κ} {v:α}:∀(l:List (κ × α)) (i:Nat),Q6 e l n=some v->∃j,K9 (Y6 P kt) (ke n) (l.map (Ko ke enc)) i=some (some (i+j,enc v))/\∀w,(l.map (Ko ke enc)).set j (Ko ke enc (n,w))=(kput e l n w).map (Ko ke enc)
 | [],i,h=>by cases h
 | p::r,i,h=>by
  unfold Q6 at h
  split at h
  ·rename_i hc
   cases h
   refine ⟨0,?_,fun w=>?_⟩
   ·simp only [dN,Ko,K9,hk,hc,eS]
   simp only [kput,hc,eU,dN,List.set_cons_zero]
  rename_i hc
  have hc':e n p.1=false:=by simpa using hc
  obtain ⟨j,h1,h2⟩:=Qkq hk r (i+1) h
  refine ⟨j+1,?_,fun w=>?_⟩
  ·simp only [dN,Ko,K9,hk,hc']
   rw [show i+(j+1)=i+1+j by omega]
   exact h1
  simp only [kput,hc',dN,List.set_cons_succ,h2 w]
  simp
theorem Qr9 {n:κ} {w:α}:∀(l:List (κ × α)),Q6 e l n=none->l.map (Ko ke enc)++[Ko ke enc (n,w)]=(kput e l n w).map (Ko ke enc)
 | [],_=>rfl
 | p::r,h=>by
  unfold Q6 at h
  split at h
  ·cases h
  rename_i hc
  have hc':e n p.1=false:=by simpa using hc
  simp only [kput,hc',dN,dS,Qr9 r h]
  simp
end
section
variable {P:Program} {rd:Option Nat} {base:Nat} {ops:Array Oper} {d:Option (List Sk)} {st S:St} {Φ:AOut->Prop} {i:Nat}
noncomputable def Qw2 (P:Program) (ops:Array Oper) (i:Nat) (st:St):Option (Nat × TypeId × AV × Bool × AV) :=
 match Z9 ops i st with
 | some o=>match o.op with
  | .lookup t x ix c=>match ti P t,evo (lk st.slots) x,evo (lk st.slots) ix with
   | some T,some (.mp ob),some k=>match T.kind with
    | .map kt et=>match (ti P et).bind (·.zero) with
     | some z=>some (ob,kt,k,c,z)
     | _=>none
    | _=>none
   | _,_,_=>none
  | _=>none
 | none=>none
noncomputable def Qxn (P:Program) (ops:Array Oper) (i:Nat) (st:St):Option (Nat × TypeId × AV × AV) :=
 match Z9 ops i st with
 | some o=>match o.op with
  | .mapUpdate t m x y | .insert t m x y=>match ti P t,evo (lk st.slots) m,evo (lk st.slots) x,evo (lk st.slots) y with
   | some T,some (.mp ob),some k,some v=>match T.kind with
    | .map kt _=>some (ob,kt,k,v)
    | _=>none
   | _,_,_,_=>none
  | _=>none
 | none=>none
theorem Qs5 {κ α:Type} {ke:κ->AV} {enc:α->AV} {e:κ->κ->Bool} {l:List (κ × α)} {n:κ} {z:α} {ob:Nat} {kt:TypeId} {c:Bool} (hi:Qw2 P ops i st=some (ob,kt,ke n,c,enc z)) (hk:∀a b,Y6 P kt (ke a) (ke b)=some (e a b)) (hrow:st.sto ob=some (mapK ke enc l)) (hok:∀v,(enc v).okv=true)
  (hS:Xk ops i st (some (if c then .tup [enc ((Q6 e l n).getD z),.bool (Q6 e l n).isSome] else enc ((Q6 e l n).getD z))) []=some S) (k:RW P rd base ops (Zc d [([],[ob])]) (i+1) S Φ):RW P rd base ops d i st Φ:=by
 unfold Qw2 at hi
 split at hi
 ·rename_i o ho
  split at hi
  ·rename_i t x ix c' hop
   split at hi
   ·rename_i T ob' k' hT hx hix
    split at hi
    ·rename_i kt et hkind
     split at hi
     ·rename_i z' hz
      cases hi
      refine J2 (nf:=false) (v:=some (if c then .tup [enc ((Q6 e l n).getD z),.bool (Q6 e l n).isSome] else enc ((Q6 e l n).getD z))) (eff:=[]) (fr:=st.objs.length) (rds:=[ob]) ho ?_ hS (X3 hS) k
      rw [Qk0]
      simp only [evalOp,hop]
      unfold Qhl
      have hes:(st.sto ob).bind Qe6=some (l.map (Ko ke enc)):=by rw [hrow]; exact Qro _
      simp only [hT,hx,hix,hkind,hes,hk,hz]
      cases hg:Q6 e l n with
      | none =>
       rw [Qj1 hk l 0 hg]
       simp only [hok,eU,Option.getD_none,Option.isSome_none]
      | some v =>
       obtain ⟨j,h1,_⟩:=Qkq (enc:=enc) hk l 0 hg
       rw [h1]
       simp only [hok,eU,cY,dQ]
     ·cases hi
    ·cases hi
   ·cases hi
  ·cases hi
 ·cases hi
theorem Xn {κ α:Type} {ke:κ->AV} {enc:α->AV} {e:κ->κ->Bool} {l:List (κ × α)} {n:κ} {v:α} {ob:Nat} {kt:TypeId} (hi:Qxn P ops i st=some (ob,kt,ke n,enc v)) (hk:∀a b,Y6 P kt (ke a) (ke b)=some (e a b)) (hrow:st.sto ob=some (mapK ke enc l))
  (hS:Xk ops i st none [(ob,mapK ke enc (kput e l n v))]=some S) (hl:Nat.beq S.objs.length st.objs.length=true) (k:RW P rd base ops (Zc d [([ob],[ob])]) (i+1) S Φ):RW P rd base ops d i st Φ:=by
 have main:∃o,Z9 ops i st=some o/\Xf P false noC st.sto st.objs.length (lk st.slots) o=some (.val ⟨none,[(ob,mapK ke enc (kput e l n v))],st.objs.length,[ob]⟩):=by
  unfold Qxn at hi
  split at hi
  rotate_left
  ·cases hi
  rename_i o ho
  have step:∀(t:TypeId) (m x y:Operand),(o.op=.mapUpdate t m x y\/o.op=.insert t m x y)->(match ti P t,evo (lk st.slots) m,evo (lk st.slots) x,evo (lk st.slots) y with
    | some T,some (.mp ob),some k,some v=>match T.kind with
     | .map kt _=>some (ob,kt,k,v)
     | _=>none
    | _,_,_,_=>none)=some (ob,kt,ke n,enc v)->Xf P false noC st.sto st.objs.length (lk st.slots) o=some (.val ⟨none,[(ob,mapK ke enc (kput e l n v))],st.objs.length,[ob]⟩):=fun t m x y hop hi=>by
   split at hi
   ·rename_i T ob' k' v' hT hm hx hy
    split at hi
    ·rename_i kt et hkind
     cases hi
     rw [Qk0]
     have hev:evalOp P false noC st.sto st.objs.length (lk st.slots) o=Qe7 P st.sto st.objs.length (lk st.slots) t m x y:=by
      rcases hop with hop | hop <;> simp only [evalOp,hop]
     rw [hev]
     unfold Qe7
     have hes:(st.sto ob).bind Qe6=some (l.map (Ko ke enc)):=by rw [hrow]; exact Qro _
     simp only [hT,hm,hx,hy,hkind,hes,hk]
     cases hg:Q6 e l n with
     | none =>
      rw [Qj1 hk l 0 hg]
      simp only
      rw [show (ke n,enc v)=Ko ke enc (n,v) from rfl,Qr9 l hg]
      rfl
     | some u =>
      obtain ⟨j,h1,h2⟩:=Qkq (enc:=enc) hk l 0 hg
      rw [h1]
      simp only [eC]
      rw [show (ke n,enc v)=Ko ke enc (n,v) from rfl,h2]
      rfl
    ·cases hi
   ·cases hi
  refine ⟨o,ho,?_⟩
  split at hi
  ·rename_i t m x y hop; exact step t m x y (.inl hop) hi
  ·rename_i t m x y hop; exact step t m x y (.inr hop) hi
  cases hi
 obtain ⟨o,ho,he⟩:=main
 exact J2 ho he hS (aK hl) k
end
section
variable {P:Program} {κ α:Type} {ke:κ->AV} {enc:α->AV} {e:κ->κ->Bool} {kt:TypeId}
end
section
variable {P:Program} {rd:Option Nat} {base:Nat} {ops:Array Oper} {d:Option (List Sk)} {st S:St} {Φ:AOut->Prop} {i:Nat}
end
theorem Qrs {κ α:Type} {ke:κ->AV} {enc:α->AV} {f:Nat -> Option Nat} (hk:∀v,(ke v).ren f=some (ke v)) (he:∀v,(enc v).ren f=some (enc v)):∀(l:List (κ × α)) (i:Nat),Qol f (Xi i (l.map (Ko ke enc)))=some (Xi i (l.map (Ko ke enc)))
 | [],i=>rfl
 | x::l,i=>by
  simp only [dN,Ko,Xi,Qol,he]
  have h2:=Qrs hk he l (i+2)
  rw [hk]
  simp only [h2]
theorem Q1n {κ α:Type} {ke:κ->AV} {enc:α->AV} {f:Nat -> Option Nat} (hk:∀v,(ke v).ren f=some (ke v)) (he:∀v,(enc v).ren f=some (enc v)) (l:List (κ × α)):(mapK ke enc l).ren f=some (mapK ke enc l):=by
 show AObj.ren f (.loop _ _ _ _ _ _ _)=_
 simp only [AObj.ren,Qrs hk he l 0]
 rfl
theorem wk_gcK {P:Program} {base:Nat} {st st':St} {live keep:List Nat} (o:Nat) {κ α:Type} (ke:κ->AV) (enc:α->AV) (L:List (κ × α)) (hK:∀f a,(ke a).ren f=some (ke a)) (hE:∀f a,(enc a).ren f=some (enc a)) (ho:st.objs[o]?=some (mapK ke enc L))
  (h:Q3y base live keep o (mapK ke enc L) st=some st'):Wk P base st st':=by
 refine wk_gc (live:=live) (keep:=keep) ?_
 unfold Q3y at h
 have hself:st.objs.set o (mapK ke enc L)=st.objs:=by
  obtain ⟨h1,h2⟩:=aD.1 ho
  apply List.ext_getElem?
  intro i
  by_cases e:o=i
  ·subst e; rw [cG h1,ho]
  rw [cH e]
 cases hg:Qk2 base live keep ⟨st.slots,st.objs.set o (mapO []),st.nt⟩ with
 | none=>rw [hg] at h; cases h
 | some s =>
  rw [hg] at h
  cases h
  unfold Qk2 at hg ⊢
  simp only at hg ⊢
  split at hg
  ·rename_i hc
   rw [aH hc]
   split at hg
   ·rename_i os hos
    cases hg
    have:=Qkj (Q1n (ke:=ke) (fun a=>hK _ a) (fun a=>hE _ a) L) (aD.1 ho).1 _ _ hos
    rw [hself] at this
    rw [this]
   cases hg
  cases hg
theorem Q1d {N:Nat} {κ α:Type} {ke:κ->AV} {enc:α->AV} {l:List (κ × α)} (hk:∀v,(ke v).ids=[]) (he:∀v,(enc v).ids=[]):Qde N (mapK ke enc l):=by
 show ∀p∈Xi 0 (l.map (Ko ke enc)),∀o∈p.2.ids,o < N
 have:∀(l:List (κ × α)) (i:Nat),∀p∈Xi i (l.map (Ko ke enc)),p.2.ids=[]:=by
  intro l
  induction l with
  | nil=>intro i p hp; cases hp
  | cons x l ih =>
   intro i p hp
   simp only [dN,Ko,Xi,cI] at hp
   rcases hp with rfl | rfl | hp
   ·exact hk _
   ·exact he _
   exact ih (i+2) p hp
 intro p hp o ho
 rw [this l 0 p hp] at ho
 cases ho
theorem Qa4 {N:Nat} {A:List AObj} (k:Nat) {κ α:Type} (ke:κ->AV) (enc:α->AV) (l:List (κ × α)) (hA:A[k]?=some (mapK ke enc l)) (hk:∀v,(ke v).ids=[]) (he:∀v,(enc v).ids=[]) (h:(A.set k .dead).all (Qst N)=true):∀y∈A,Qde N y:=fun y hy=>by
 obtain ⟨j,hj⟩:=bW.1 hy
 by_cases e:k=j
 ·subst e
  rw [hA] at hj
  cases hj
  exact Q1d hk he
 exact Q40 (bU.1 h y (aF (by rw [cH e]; exact hj)))
end Go.Ab
namespace Go.Ab
open Go.RowKit
theorem Qu9:∀(es:List (Nat × AObj)) (A A':List AObj),Z7 A es=some A'->(∀y∈es,y.1 < A.length)->∀k,Sto.puts (fun k=>A[k]?) es k=A'[k]?
 | [],A,A',h,_,k=>by cases h; rfl
 | (o,x)::es,A,A',h,hl,k=>by
  simp only [Z7] at h
  split at h
  rotate_left
  ·cases h
  have ho:=hl (o,x) (by simp)
  rw [aG ho] at h
  simp only at h
  split at h
  ·cases h
  have ih:=Qu9 es _ A' h (fun y hy=>by rw [cF]; exact hl y (cR _ hy)) k
  rw [<-ih]
  show Sto.puts _ es k=_
  congr 1
  funext j
  by_cases e:j=o
  ·subst e; simp [Sto.put,cG ho]
  simp [Sto.put,e,cH (fun h=>e h.symm)]
section
variable {P:Program} {rd:Option Nat} {base:Nat} {ops:Array Oper} {d:Option (List Sk)} {st:St} {Φ:AOut->Prop} {i:Nat}
theorem Q8z {σ ρ R:Type} {N:Nat} {c:Code} {I:σ->St} {E:ρ->St} {F:σ->Option ρ} {K:ρ->Option R} {r:R} {f:FuncId} {fn:Func} {as0:List AV} (s0:σ) (eff:ρ->List (Nat × AObj)) (S:ρ->St) (w:List Nat)
  (hi:Zz ops i st=some (f,as0)) (hf:P.funcs[f]?=some fn) (hb:fn.body=some c) (hn:(fn.name == "runtime.NumGoroutine")=false) (hle:Nat.ble as0.length fn.ntmps=true)
  (h0:(⟨Vc 0 as0,st.objs.take N,fn.ntmps⟩:St)=I s0) (hN:Nat.ble N st.objs.length=true) (hbig:Nat.ble st.objs.length BIG=true) (hlive:(st.objs.take N).all Qs3=true) (hA:∀y∈st.objs.take N,Qde N y) (hE:∀x,Nat.beq (E x).objs.length N=true) (hA':∀x,∀y∈(E x).objs,Qde N y)
  (hsl:(as0.all fun a=>a.ids.all fun o=>Nat.blt o N)=true)
  (heff:∀x,Z7 (st.objs.take N) (eff x)=some (E x).objs) (hw:∀x,(eff x).map (·.1)=w) (hwl:(w.all fun o=>Nat.blt o N)=true)
  (IH:Qh7 P N c I E F) (h:(F s0).bind K=some r) (hS:∀x,Qlu P fn ops i st (eff x) (E x)=some (S x))
  (k:∀x,K x=some r->RW P rd base ops (Zc d [(w,List.range N)]) (i+1) (S x) Φ):RW P rd base ops d i st Φ:=by
 have hNl:N<=st.objs.length:=bT hN
 have hlA:(st.objs.take N).length=N:=by rw [cZ]; omega
 have hel:∀x,∀y∈eff x,y.1 < N:=fun x y hy=>by
  have:y.1∈(eff x).map (·.1):=List.mem_map_of_mem hy
  rw [hw x] at this
  exact Kl (bU.1 hwl _ this)
 refine Q83 s0 (st.objs.take N) (st.objs.drop N) eff S hi hf hb hn hle (List.take_append_drop N st.objs).symm h0 hlA ?_ hlive hA (fun x=>aK (hE x)) hA' hsl (fun x k _=>Qu9 _ _ _ (heff x) (fun y hy=>by rw [hlA]; exact hel x y hy) k) hel w hw hbig IH h hS k
 have:=bT hbig
 exact Nat.ble_eq_true_of_le (by omega)
end
end Go.Ab
namespace Go.Ab
open Go.RowKit
section
variable {P:Program} {ops:Array Oper} {o:Oper}
theorem Qt5 {s:Slots} {σ:Sto} {fr:Nat} {v:Option AV} {eff:List (Nat × AObj)} {rds:List Nat} (hw:X0 ops s o=some true) (hnd:∀c,o.op≠.defer c)
  (hd:∀s' σ',(∀x∈o.op.operands,evo s' x=evo s x)->(∀k∈rds,σ' k=σ k)->∀B W0 D M ι a W,Rel P B W0 D M ι σ' W->Qg M ι s' a.tmps->Q4 P B W0 D M ι σ' fr a o W ⟨v,eff,fr,rds⟩) :
  YlL P ops o ⟨v,eff,fr,fr,rds⟩ s σ:=by
 intro s' σ' hs hσ
 refine .inl ⟨by rw [Jt hs]; exact hw,?_⟩
 intro B W0 D M ι a W n Q r next hrel hsl hfree hpost
 refine Qko (hd s' σ' (Qfh hs) hσ B W0 D M ι a W hrel hsl) hnd ⟨fun res' hr v W' M' ι' g1 g2 g3 g4 g5=>?_,fun pv hpv=>by cases hpv⟩
 cases hr
 exact hpost v W' M' ι' g1 g2 (fun k hk=>g3 k (bD k fr |>.imp_right fun h1=>h1)) g4 g5
theorem Q1x {s:Slots} {σ:Sto} {fr ob:Nat} {v:Option AV} {rds:List Nat} {x:AObj} (hw:X0 ops s o=some true) (hy:YlL P ops o ⟨v,[],fr,fr,rds⟩ s σ) (hx:σ ob=some x) (hin:ob∈rds):YlL P ops o ⟨v,[(ob,x)],fr,fr,rds⟩ s σ:=by
 intro s' σ' hs hσ
 rcases hy s' σ' hs hσ with ⟨h1,h2⟩ | ⟨h1,_⟩
 ·refine .inl ⟨h1,fun B W0 D M ι a W n Q r next hrel hsl hfree hpost=>h2 B W0 D M ι a W n Q r next hrel hsl hfree fun v W' M' ι' g1 g2 g3 g4 g5=>hpost v W' M' ι' g1 g2 g3 ?_ g5⟩
  have:σ'.puts [(ob,x)]=σ':=funext fun k=>by
   show (σ'.put ob x) k=σ' k
   by_cases e:k=ob
   ·subst e; rw [Sto.put_same,hσ k hin,hx]
   rw [Sto.put_ne _ _ e]
  show Rel P B W0 D M' ι' (σ'.puts [(ob,x)]) W'
  rw [this]; exact g4
 rw [Jt hs,hw] at h1; cases h1
end
section
variable {P:Program} {rd:Option Nat} {base:Nat} {ops:Array Oper} {d:Option (List Sk)} {st S:St} {Φ:AOut->Prop} {i:Nat}
theorem Qxs {v:Option AV} {eff:List (Nat × AObj)} {rds:List Nat} {o:Oper} (ho:Z9 ops i st=some o) (hy:YlL P ops o ⟨v,eff,st.objs.length,st.objs.length,rds⟩ (lk st.slots) st.sto)
  (hS:Xk ops i st v eff=some S) (hl:S.objs.length=st.objs.length) (k:RW P rd base ops (Zc d [(eff.map (·.1),rds)]) (i+1) S Φ):RW P rd base ops d i st Φ:=by
 obtain ⟨h1,h2⟩:=Yo ho
 unfold Xk at hS
 rw [h1] at hS
 simp only at hS
 split at hS
 ·rename_i objs slots ha hp
  cases hS
  exact Qb7 (s:=(eff.map (·.1),rds)) ⟨o,_,h1,Qkv hy rfl hl.symm ha hp rfl,Qvl (by simp [Foot.sk])⟩ k
 ·cases hS
theorem Q6x {α R:Type} {enc:α->AV} {l:List α} {ob n:Nat} {ro nr fl:Bool} {lo hi:Option AV} {a b:Int} {w:Nat} {A:Option R} {r:R} (hi':Qfm P ops i st=some (.ref ob 0 n,lo,hi,none,w)) (hrow:st.sto ob=some (.row false ro nr fl w (l.map enc)))
  (ha:loI lo=some a) (hb:hiI n hi=some b) (hS:Xk ops i st (some (.ref ob a.toNat (b.toNat - a.toNat))) []=some S)
  (h:(if 0<=a/\a<=b/\b<=l.length then A else none)=some r) (k:(0<=a/\a<=b/\b<=(l.length:Int))->A=some r->RW P rd base ops (Zc d [([],[ob])]) (i+1) S Φ):RW P rd base ops d i st Φ:=by
 split at h
 ·rename_i hc
  obtain ⟨c1,c2,c3⟩:=hc
  obtain ⟨o,ho,hm,hev⟩:=Qi2 hi'
  refine J2 (nf:=false) ho (hev (.ref ob a.toNat (b.toNat - a.toNat)) [ob] ?_) hS (X3 hS) (k ⟨c1,c2,c3⟩ h)
  have g1:Nat.ble a.toNat b.toNat = true:=Jv (by omega)
  have g2:Nat.ble b.toNat (l.map enc).length=true:=Jv (by rw [cE]; omega)
  simp only [J9,hrow,Qq2 ha c1,Qq6 hb (by omega),eC,g1,g2,eO,Bool.and_self,eU]
 ·cases h
theorem Q43 {α R:Type} {enc:α->AV} {l:List α} {ob:Nat} {ro nr fl:Bool} {k1 k2 k3:IntKind} {a b c:Int} {w:Nat} {A:Option R} {r:R} (hi':Qfm P ops i st=some (.ref ob 0 l.length,some (.int k1 a),some (.int k2 b),some (.int k3 c),w)) (hrow:st.sto ob=some (.row false ro nr fl w (l.map enc)))
  (hS:Xk ops i st none []=some S)
  (h:(if 0<=a/\a<=b/\b<=c/\c<=l.length then A else none)=some r) (k:A=some r->RW P rd base ops (Zc d [([],[ob])]) (i+1) S Φ):RW P rd base ops d i st Φ:=by
 split at h
 ·rename_i hc
  obtain ⟨c1,c2,c3,c4⟩:=hc
  have main:∃o,Z9 ops i st=some o/\YlL P ops o ⟨none,[],st.objs.length,st.objs.length,[ob]⟩ (lk st.slots) st.sto:=by
   unfold Qfm at hi'
   split at hi'
   rotate_left
   ·cases hi'
   rename_i o ho
   split at hi'
   rotate_left
   ·cases hi'
   rename_i t x lo hh mx hop
   split at hi'
   ·cases hi'
   split at hi'
   rotate_left
   ·cases hi'
   rename_i T a' l' h' m' hT hx h1 h2 h3
   split at hi'
   rotate_left
   ·cases hi'
   rename_i e hk
   split at hi'
   rotate_left
   ·cases hi'
   rename_i E hE
   cases hi'
   refine ⟨o,ho,Qt5 (Yo ho).2 (by rw [hop]; simp) fun s' σ' hs' hσ' B W0 D M ι act W hrel hsl=>?_⟩
   have ev:∀y∈o.op.operands,evo s' y=evo (lk st.slots) y:=hs'
   rw [hop] at ev
   have evx:evo s' x=some (.ref ob 0 l.length):=by rw [ev x (by simp [Op.operands])]; exact hx
   have evl:∀(q:Option Operand) (z:Option AV),(∀u,q=some u->u∈(Op.slice t x lo hh mx).operands)->Kp (lk st.slots) q=some z->Kp s' q=some z:=fun q z hq hz=>by
    cases q with
    | none=>exact hz
    | some u=>simp only [Kp] at hz ⊢; rw [ev u (hq u rfl)]; exact hz
   have e1:=evl lo _ (fun u hu=>by subst hu; simp [Op.operands]) h1
   have e2:=evl hh _ (fun u hu=>by subst hu; simp [Op.operands]) h2
   have e3:=evl mx _ (fun u hu=>by subst hu; simp [Op.operands]) h3
   obtain ⟨d0,i0,g1,g2,g3,_⟩:=Zo hT
   rw [g3] at hk; rw [Zd hk] at g1
   obtain ⟨d1,i1,q1,q2,q3,q4,_⟩:=Zo hE
   have hσ0:σ' ob=some (.row false ro nr fl E.size (l.map enc)):=by rw [hσ' ob (by simp)]; exact hrow
   obtain ⟨p,hp,hro⟩:=hrel.row _ _ _ _ _ _ _ hσ0
   have hlen:l.length<=p.cap:=by have:=hro.len; simpa using this
   have o1:Yf (some (AV.int k1 a)) 0=some a.toNat := by simp [Yf,asN]; omega
   have o2:∀n,Yf (some (AV.int k2 b)) n=some b.toNat := fun n=>by simp [Yf,asN]; omega
   have o3:Yf (some (AV.int k3 c)) 0=some c.toNat := by simp [Yf,asN]; omega
   have run:∃v,(execOp act.eval o).run P W=.ok (.value v) W:=by
    have hv:=Qe hsl evx
    have go:∀(bs:Option Addr) (cap:Nat),act.eval x=.slice bs l.length cap->c.toNat <= cap->∃v,(execOp act.eval o).run P W=.ok (.value v) W:=fun bs cap hb hcap=>by
     have hsb:=Vv (P:=P) hsl e1 e2 e3 (len:=l.length) (cap:=cap) o1 (o2 _) (.inr ⟨rfl,rfl,o3⟩) (by omega) (by omega) hcap W
     have hr0:(Instr.sliceAt t (act.eval x) (lo.map act.eval) (hh.map act.eval) (mx.map act.eval)).run P W=.ok (.slice (if c.toNat = a.toNat then bs else bs.map (·.add (a.toNat * E.size))) (b.toNat - a.toNat) (c.toNat - a.toNat)) W:=by
      simp only [Instr.sliceAt,Sem.run_bind,run_underlying g1,Result.andThen_ok,Instr.slice,hb,hsb,Xq q2,q4,Sem.run_pure]
     exact ⟨_,by simp [execOp,hop,hr0]; rfl⟩
    generalize hu:act.eval x=u at hv
    generalize hn:l.length=n at hv
    cases hv with
    | ref0 ad _ p' hp' hz =>
     rw [hp] at hp'; cases hp'
     rw [hn] at hlen
     exact go _ 0 (by rw [hu,hn]) (by omega)
    | ref _ _ _ p' off cap hp' hi'' hcap hoff =>
     rw [hp] at hp'; cases hp'
     rw [<-hn] at hu
     exact go _ cap hu (by omega)
   obtain ⟨v,hv⟩:=run
   exact ⟨v,W,M,ι,.inl hv,.refl _ _,Inj.le_refl _,fun _ _=>rfl,hrel,fun y hy=>by cases hy⟩
  obtain ⟨o,ho,hy⟩:=main
  exact Qxs ho hy hS (X3 hS) (k h)
 ·cases h
theorem Q8t {α R:Type} {enc:α->AV} {l m:List α} {w bytes ob n0:Nat} {nr fl:Bool} {b:AV} {rds:List Nat} {A:Option R} {r:R} (hi:Qjw P ops i st=some (.ref ob 0 n0,b,w,bytes)) (hrow:st.sto ob=some (.row false false nr fl w (l.map enc)))
  (hel:Vj st.sto w b=some (m.map enc,nr,fl,rds)) (hn:nr=true)
  (hS:Xk ops i st (some (.ref ob 0 (n0+m.length))) [(ob,.row false false nr fl w ((ovr l n0 m).map enc))]=some S) (hl:Nat.beq S.objs.length st.objs.length=true)
  (h:(if n0 < l.length/\n0+m.length<=l.length then A else none)=some r) (k:(n0 < l.length/\n0+m.length<=l.length)->A=some r->RW P rd base ops (Zc d [([ob],rds++[ob])]) (i+1) S Φ):RW P rd base ops d i st Φ:=by
 split at h
 ·rename_i hc
  obtain ⟨o,E,ho,hm,rfl,rfl,hz,hb0,hw0,hev⟩:=Qhk hi
  have h1:Nat.ble (0+n0) (l.map enc).length=true:=Jv (by rw [cE]; omega)
  have h2:Nat.beq (0+n0) (l.map enc).length=false:=by
   cases e:Nat.beq (0+n0) (l.map enc).length with
   | false=>rfl
   | true=>have:=aK e; rw [cE] at this; omega
  have h2':(Nat.beq n0 l.length)=false:=by simpa using h2
  have h1':Nat.ble n0 l.length=true:=by simpa using h1
  by_cases hm0:m=[]
  ·subst hm0
   have he:=hev false _ _ _ _ ⟨some (.ref ob 0 n0),[],st.objs.length,[ob]⟩ hel (by simp [hn]) (by
    simp [absAppend,hrow,h1',h2'])
   have hy:=Qvo Qdj (Yo ho).2 he
   have hy2:=Q1x (ob:=ob) (Yo ho).2 hy hrow (by simp)
   have hm':(ovr l n0 ([]:List α)).map enc=l.map enc:=rfl
   rw [hm'] at hS
   exact Qxs ho hy2 hS (aK hl) (k hc h)
  ·have hne:(m.map enc).isEmpty=false:=by simp [hm0]
   have h3:Nat.ble (0+n0+(m.map enc).length) (l.map enc).length=true:=Jv (by simp; omega)
   refine J2 (nf:=false) ho (hev false _ _ _ _ ⟨some (.ref ob 0 (n0+m.length)),[(ob,.row false false nr fl E.size ((ovr l n0 m).map enc))],st.objs.length,[ob]⟩ hel (by simp [hn]) ?_) hS (aK hl) (k hc h)
   have h4:=Qqi enc m l n0
   have hm1:m.isEmpty=false:=by simpa using hm0
   have h3':Nat.ble (n0+m.length) l.length=true:=by simpa using h3
   simp [absAppend,hrow,h1',h2',hm0,h3',h4]
 ·cases h
theorem Qz9 {α:Type} {l:List α} {n:Nat} (h:n<=l.length):n=(l.take n).length:=by
 rw [cZ]; omega
end
end Go.Ab
