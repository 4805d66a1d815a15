/- Rules on plain values. No conditions. -/
import Derived.Test.YtokcpkcoahlkjaaEng8
set_option linter.all false
namespace Go.Ab
open Go.RowKit
def Qrd:AObj→Bool
 | .row _ _ _ _ _ _=>true
 | .loop _ _ _ _ _ _ _=>true
 | .dead=>true
 | _=>false
def Qtl:AObj→Bool
 | .row _ _ _ _ _ _=>true
 | .loop _ _ _ _ _ _ _=>true
 | _=>false
def Qga (N:Nat):AObj→Prop
 | .row _ _ nr _ _ xs=>nr=true∨∀x∈xs,∀y∈x.flat,∀o∈y.ids,o < N
 | .loop _ sl _ _ _ _ _=>∀p∈sl,∀o∈p.2.ids,o < N
 | .dead=>True
 | _=>False
theorem Qnm {N:Nat} {x:AObj} (h:Qga N x):Qrd x=true:=by cases x <;> first | rfl | exact h.elim
theorem Qy4 {objs:List AObj} (h:∀x∈objs,Qrd x=true) (id:Nat):Qck objs id=none:=by
 unfold Qck
 rw [dif_neg]
 rintro ⟨y,k,i,w,fl,xs,l,_,hk,_⟩
 have:=h _ (List.mem_of_getElem? hk)
 cases this
theorem Qqd {x:AObj} (h:Qrd x=true):x.plain=x:=by cases x <;> first | rfl | cases h
theorem Qu0 {objs:List AObj} (h:∀x∈objs,Qrd x=true) (hb:objs.length≤BIG) (id:Nat):sto objs id=objs[id]?:=by
 by_cases hi:id < BIG
 ·rw [Zg hi]
  cases e:objs[id]? with
  | none=>rfl
  | some x=>simp [Qqd (h x (List.mem_of_getElem? e))]
 ·rw [Qpi (by omega),Qy4 h,List.getElem?_eq_none (by omega)]
theorem Qud:∀{l:List (Nat × AV)} {t:Nat} {x:AV},lk l t=some x→∃p∈l,p.2=x
 | [],t,x,h=>by cases h
 | (k,y)::r,t,x,h=>by
  unfold lk at h
  split at h
  ·cases h; exact ⟨(k,y),by simp,rfl⟩
  ·obtain ⟨p,hp,e⟩:=Qud h
   exact ⟨p,List.mem_cons_of_mem _ hp,e⟩
section
variable {P:Program} {B N:Nat} {W0 W:World} {D:List Nat} {M:CM} {ι:Inj} {σ:Sto}
def Qiu (N:Nat) (ι:Inj) (σ:Sto) (b:Nat):Prop:=∃k p fn sl ps as bd st pe,¬ k < N∧σ k=some (.loop fn sl ps as bd st pe)∧ι k=some p∧p.blk=b
def Qdb (N:Nat) (ι:Inj) (σ:Sto) (b o:Nat):Prop:=∃k p bx nr fl w xs j,¬ k < N∧σ k=some (.row bx false nr fl w xs)∧ι k=some p∧p.blk=b∧o=p.base+j∧j < p.cap*w
open Classical in
noncomputable def Qng (N:Nat) (ι:Inj) (σ:Sto) (W:World) (M:CM):CM :=
 ⟨M.f,M.ok,fun b=>if Qiu N ι σ b then W.heap[b]? else M.blk b,fun b o=>if Qdb N ι σ b o then W.cell? ⟨b,o,none⟩ else M.kc b o⟩
theorem Qni (h:Rel P B W0 D M ι σ W) {b:Nat} (hb:Qiu N ι σ b):M.blk b=none∧∃l,W.heap[b]?=some (Qdf l):=by
 obtain ⟨k,p,fn,sl,ps,as,bd,st,pe,_,hk,hp',rfl⟩:=hb
 obtain ⟨q,nt1,hq,hb1,_,tmps,_,hrec,_⟩:=h.loop k _ _ _ _ _ _ _ hk
 rw [hp'] at hq; cases hq
 exact ⟨hb1,_,hrec⟩
theorem Qfu (h:Rel P B W0 D M ι σ W) {b o:Nat} (hb:Qdb N ι σ b o):M.kc b o=none∧M b o=none∧(∃v,W.cell? ⟨b,o,none⟩=some v)∧W.frozen? ⟨b,o,none⟩=false:=by
 obtain ⟨k,p,bx,nr,fl,w,xs,j,_,hk,hp',rfl,rfl,hj⟩:=hb
 obtain ⟨q,hq,hr⟩:=h.row k _ _ _ _ _ _ hk
 rw [hp'] at hq; cases hq
 have c:=h.cool k bx nr fl w xs p j hk hp' hj
 obtain ⟨o1,o2⟩:=(hr.own rfl).2 j hj
 exact ⟨c.2,o2,Option.isSome_iff_exists.1 o1,c.1⟩
open Classical in
theorem Rel.hide (h:Rel P B W0 D M ι σ W) (hA:∀k x,k < N→σ k=some x→Qga N x) :
  Rel P B W0 D (Qng N ι σ W M) (fun k=>if k < N then ι k else none) (fun k=>if k < N then σ k else none) W:=by
 have hM1:M.le (Qng N ι σ W M):=fun _ _ _ h=>h
 have blk1:∀b,(Qng N ι σ W M).blk b=if Qiu N ι σ b then W.heap[b]? else M.blk b:=fun b=>rfl
 have kc1:∀b o,(Qng N ι σ W M).kc b o=if Qdb N ι σ b o then W.cell? ⟨b,o,none⟩ else M.kc b o:=fun b o=>rfl
 have low:∀{k:Nat} {x:AObj},(if k < N then σ k else none)=some x→k < N∧σ k=some x:=fun {k x} hk=>by
  by_cases e:k < N
  ·rw [if_pos e] at hk; exact ⟨e,hk⟩
  ·rw [if_neg e] at hk; cases hk
 have lowi:∀{k:Nat} {p:Place},k < N→(if k < N then ι k else none)=some p→ι k=some p:=fun e hk=>by rw [if_pos e] at hk; exact hk
 have rep1:∀{v:Value} {y:AV},(∀o∈y.ids,o < N)→Qa M ι v y→Qa (Qng N ι σ W M) (fun k=>if k < N then ι k else none) v y:=fun hi h=>(h.congr fun o ho=>if_pos (hi o ho)).mono hM1 (Inj.le_refl _)
 refine ⟨h.size,h.below,h.defs,⟨h.agree.cell,fun b x hb=>?_,fun b o v hb=>?_⟩,fun o bx nr fl w xs p k ho hp' hk=>?_,fun o bx ro nr fl w xs ho=>?_,fun o fn sl ps as bd st pe ho=>?_,fun o o' bx nr fl w xs bx' nr' fl' w' xs' p p' hne h1 h2 h3 h4=>?_,fun o o' fn sl ps as bd st pe fn' sl' ps' as' bd' st' pe' p p' hne h1 h2 h3 h4=>?_,fun o ho=>?_⟩
 ·rw [blk1] at hb
  by_cases hd:Qiu N ι σ b
  ·rw [if_pos hd] at hb
   obtain ⟨_,l,hl⟩:=Qni h hd
   rw [hl] at hb; cases hb
   exact ⟨hl,fun c e f=>Qlx c e f,fun d he=>Qi7 (x:=d) (by rw [he])⟩
  ·rw [if_neg hd] at hb; exact h.agree.keep b x hb
 ·rw [kc1] at hb
  by_cases hd:Qdb N ι σ b o
  ·rw [if_pos hd] at hb
   exact ⟨hb,(Qfu h hd).2.2.2⟩
  ·rw [if_neg hd] at hb; exact h.agree.keepC b o v hb
 ·obtain ⟨l1,ho⟩:=low ho
  have hp':=lowi l1 hp'
  have c:=h.cool o bx nr fl w xs p k ho hp' hk
  refine ⟨c.1,?_⟩
  rw [kc1,if_neg]
  ·exact c.2
  ·rintro ⟨k2,p2,bx2,nr2,fl2,w2,xs2,j2,n2,hk2,hp2,hb2,ho2,hj2⟩
   obtain ⟨q,hq,hr⟩:=h.row o _ _ _ _ _ _ ho
   rw [hp'] at hq; cases hq
   obtain ⟨q,hq,hr2⟩:=h.row k2 _ _ _ _ _ _ hk2
   rw [hp2] at hq; cases hq
   have hpw:=hr.pw
   have hpw2:=hr2.pw
   rcases h.apart o k2 _ _ _ _ _ _ _ _ _ _ _ _ (fun e=>n2 (e ▸ l1)) ho hk2 hp' hp2 with a | a | a
   ·exact a hb2.symm
   ·rw [hpw] at a; omega
   ·rw [hpw2] at a; omega
 ·obtain ⟨l1,ho⟩:=low ho
  obtain ⟨p,hp',hrow⟩:=h.row o bx ro nr fl w xs ho
  refine ⟨p,by rw [if_pos l1]; exact hp',hrow.pw,hrow.pos,hrow.cpos,hrow.len,hrow.shaped,hrow.nr,hrow.fl,fun i j x y hi hj=>?_,hrow.own,fun hro i j x y hi hj=>?_⟩
  ·obtain ⟨v,hv,hrep⟩:=hrow.cells i j x y hi hj
   refine ⟨v,hv,?_⟩
   rcases hA o _ l1 ho with hn | hn
   ·exact (hrep.of_nr (AV.nr_flat (Q5.1 (hrow.nr hn) x (List.mem_of_getElem? hi)) y (List.mem_of_getElem? hj))).mono hM1 (Inj.le_refl _)
   ·exact rep1 (hn x (List.mem_of_getElem? hi) y (List.mem_of_getElem? hj)) hrep
  ·obtain ⟨v,hv,hrep⟩:=hrow.imm hro i j x y hi hj
   exact ⟨v,hv,hrep.mono hM1 (Inj.le_refl _)⟩
 ·obtain ⟨l1,ho⟩:=low ho
  obtain ⟨p,nt1,hp',hb1,hB1,tmps,hsz,hrec,hsl1⟩:=h.loop o fn sl ps as bd st pe ho
  refine ⟨p,nt1,by rw [if_pos l1]; exact hp',?_,hB1,tmps,hsz,hrec,fun t x hx=>?_⟩
  ·rw [blk1,if_neg]
   ·exact hb1
   ·rintro ⟨k,q,fn',sl',ps',as',bd',st',pe',hk,hk',hq,hqb⟩
    exact h.loops o k _ _ _ _ _ _ _ _ _ _ _ _ _ _ _ _ (fun e=>hk (e ▸ l1)) ho hk' hp' hq hqb.symm
  ·obtain ⟨q,hq,rfl⟩:=Qud hx
   exact rep1 (hA o _ l1 ho q hq) (hsl1 t _ hx)
 ·obtain ⟨l1,h1⟩:=low h1
  obtain ⟨l2,h2⟩:=low h2
  exact h.apart o o' bx nr fl w xs bx' nr' fl' w' xs' p p' hne h1 h2 (lowi l1 h3) (lowi l2 h4)
 ·obtain ⟨l1,h1⟩:=low h1
  obtain ⟨l2,h2⟩:=low h2
  exact h.loops o o' fn sl ps as bd st pe fn' sl' ps' as' bd' st' pe' p p' hne h1 h2 (lowi l1 h3) (lowi l2 h4)
 ·by_cases l1:o < N
  ·rw [if_pos l1] at ho ⊢; exact h.used o ho
  ·exact .inl (if_neg l1)
open Classical in
theorem Rel.unhide {W':World} {M':CM} {ι':Inj} {σ':Sto} (h:Rel P B W0 D M ι σ W) (h':Rel P B W0 D M' ι' (fun k=>if k < N then σ' k else none) W') (hG:CM.Grow B (Qng N ι σ W M) M') (hι:∀k,k < N→ι' k=ι k)
  (hA:∀k x,k < N→σ' k=some x→Qga N x) :
  ∃M2:CM,CM.Grow B M M2∧M'.le M2∧Rel P B W0 D M2 ι (fun k=>if k < N then σ' k else σ k) W':=by
 let M2:CM:=⟨M'.f,M'.ok,M.blk,M.kc⟩
 have hM2:M'.le M2:=fun _ _ _ h=>h
 have hMM2:M.le M2:=fun b o v h=>hG.le b o v h
 have blk':∀b,M'.blk b=if Qiu N ι σ b then W.heap[b]? else M.blk b:=fun b=>by rw [hG.keep]; rfl
 have kc':∀b o,M'.kc b o=if Qdb N ι σ b o then W.cell? ⟨b,o,none⟩ else M.kc b o:=fun b o=>by rw [hG.keepC]; rfl
 have notB:∀b,M'.blk b=none→¬ Qiu N ι σ b∧M.blk b=none:=fun b hb=>by
  rw [blk'] at hb
  by_cases hd:Qiu N ι σ b
  ·rw [if_pos hd] at hb
   obtain ⟨_,l,hl⟩:=Qni h hd
   rw [hl] at hb; cases hb
  ·rw [if_neg hd] at hb; exact ⟨hd,hb⟩
 have notC:∀b o,M'.kc b o=none→¬ Qdb N ι σ b o∧M.kc b o=none:=fun b o hb=>by
  rw [kc'] at hb
  by_cases hd:Qdb N ι σ b o
  ·rw [if_pos hd] at hb
   obtain ⟨_,_,⟨v,hv⟩,_⟩:=Qfu h hd
   rw [hv] at hb; cases hb
  ·rw [if_neg hd] at hb; exact ⟨hd,hb⟩
 have low:∀{k:Nat} {x:AObj},k < N→(if k < N then σ' k else σ k)=some x→(if k < N then σ' k else none)=some x∧σ' k=some x:=fun e hk=>by
  rw [if_pos e] at hk ⊢; exact ⟨hk,hk⟩
 have high:∀{k:Nat} {x:AObj},¬ k < N→(if k < N then σ' k else σ k)=some x→σ k=some x:=fun e hk=>by rw [if_neg e] at hk; exact hk
 have repl:∀{v:Value} {y:AV},(∀o∈y.ids,o < N)→Qa M' ι' v y→Qa M2 ι v y:=fun hi h=>(h.congr fun o ho=>(hι o (hi o ho)).symm).mono hM2 (Inj.le_refl _)
 refine ⟨M2,⟨hMM2,hG.old,rfl,rfl,fun b o v hv=>?_⟩,hM2,h'.size,h'.below,h'.defs,⟨h'.agree.cell,fun b x hb=>?_,fun b o v hb=>?_⟩,fun o bx nr fl w xs p k ho hp' hk=>?_,fun o bx ro nr fl w xs ho=>?_,fun o fn sl ps as bd st pe ho=>?_,fun o o' bx nr fl w xs bx' nr' fl' w' xs' p p' hne h1 h2 h3 h4=>?_,fun o o' fn sl ps as bd st pe fn' sl' ps' as' bd' st' pe' p p' hne h1 h2 h3 h4=>?_,fun o ho=>?_⟩
 ·by_cases hd:Qdb N ι σ b o
  ·rw [(Qfu h hd).1] at hv; cases hv
  ·exact hG.keepF b o v (by show (if Qdb N ι σ b o then _ else _)=_; rw [if_neg hd]; exact hv)
 ·have hb':M.blk b=some x:=hb
  refine h'.agree.keep b x ?_
  rw [blk']
  by_cases hd:Qiu N ι σ b
  ·rw [(Qni h hd).1] at hb'; cases hb'
  ·rw [if_neg hd]; exact hb'
 ·have hb':M.kc b o=some v:=hb
  refine h'.agree.keepC b o v ?_
  rw [kc']
  by_cases hd:Qdb N ι σ b o
  ·rw [(Qfu h hd).1] at hb'; cases hb'
  ·rw [if_neg hd]; exact hb'
 ·by_cases hl:o < N
  ·obtain ⟨ho1,ho2⟩:=low hl ho
   have c:=h'.cool o bx nr fl w xs p k ho1 (by rw [hι o hl]; exact hp') hk
   exact ⟨c.1,(notC _ _ c.2).2⟩
  ·have ho:=high hl ho
   have hd:Qdb N ι σ p.blk (p.base+k):=⟨o,p,bx,nr,fl,w,xs,k,hl,ho,hp',rfl,rfl,hk⟩
   obtain ⟨s1,s2,⟨v,hv⟩,s4⟩:=Qfu h hd
   exact ⟨(h'.agree.keepC _ _ v (by rw [kc',if_pos hd]; exact hv)).2,s1⟩
 ·by_cases hl:o < N
  ·obtain ⟨ho1,ho2⟩:=low hl ho
   obtain ⟨p,hp',hrow⟩:=h'.row o bx ro nr fl w xs ho1
   refine ⟨p,by rw [←hι o hl]; exact hp',hrow.pw,hrow.pos,hrow.cpos,hrow.len,hrow.shaped,hrow.nr,hrow.fl,fun i j x y hi hj=>?_,hrow.own,fun hro i j x y hi hj=>?_⟩
   ·obtain ⟨v,hv,hrep⟩:=hrow.cells i j x y hi hj
    refine ⟨v,hv,?_⟩
    rcases hA o _ hl ho2 with hn | hn
    ·exact (hrep.of_nr (AV.nr_flat (Q5.1 (hrow.nr hn) x (List.mem_of_getElem? hi)) y (List.mem_of_getElem? hj))).mono hM2 (Inj.le_refl _)
    ·exact repl (hn x (List.mem_of_getElem? hi) y (List.mem_of_getElem? hj)) hrep
   ·obtain ⟨v,hv,hrep⟩:=hrow.imm hro i j x y hi hj
    exact ⟨v,hv,hrep.mono hM2 (Inj.le_refl _)⟩
  ·have ho:=high hl ho
   obtain ⟨p,hp',hrow⟩:=h.row o bx ro nr fl w xs ho
   cases ro with
   | true =>
    have himm:∀(i j:Nat) (x y:AV),xs[i]?=some x→x.flat[j]?=some y→∃v,M2 p.blk (p.base+i*w+j)=some v∧Qa M2 noInj v y:=fun i j x y hi hj=>by
     obtain ⟨v,hv,hrep⟩:=hrow.imm rfl i j x y hi hj
     exact ⟨v,hMM2 _ _ _ hv,hrep.mono hMM2 (Inj.le_refl _)⟩
    refine ⟨p,hp',hrow.pw,hrow.pos,hrow.cpos,hrow.len,hrow.shaped,hrow.nr,hrow.fl,fun i j x y hi hj=>?_,fun h=>(by cases h),fun _=>himm⟩
    obtain ⟨v,hv,hrep⟩:=himm i j x y hi hj
    exact ⟨v,h'.agree.cell _ _ _ hv,hrep.mono (CM.le_refl _) (Inj.noInj_le _)⟩
   | false =>
    have kept:∀k,k < p.cap*w→∀v,W.cell? ⟨p.blk,p.base+k,none⟩=some v→W'.cell? ⟨p.blk,p.base+k,none⟩=some v:=fun k hk v hv =>
     (h'.agree.keepC _ _ v (by rw [kc',if_pos ⟨o,p,bx,nr,fl,w,xs,k,hl,ho,hp',rfl,rfl,hk⟩]; exact hv)).1
    refine ⟨p,hp',hrow.pw,hrow.pos,hrow.cpos,hrow.len,hrow.shaped,hrow.nr,hrow.fl,fun i j x y hi hj=>?_,fun _=>⟨(hrow.own rfl).1,fun k hk=>?_⟩,fun h=>(by cases h)⟩
    ·obtain ⟨v,hv,hrep⟩:=hrow.cells i j x y hi hj
     have hi':=(List.getElem?_eq_some_iff.1 hi).1
     have hj':=(List.getElem?_eq_some_iff.1 hj).1
     rw [(hrow.shaped x (List.mem_of_getElem? hi)).len] at hj'
     have hlt:i*w+j < p.cap*w:=by
      have h1:(i+1)*w≤p.cap*w:=Nat.mul_le_mul_right _ (by have:=hrow.len; omega)
      rw [Nat.succ_mul] at h1; omega
     have:=kept (i*w+j) hlt v (by rw [←Nat.add_assoc]; exact hv)
     exact ⟨v,by rw [Nat.add_assoc]; exact this,hrep.mono hMM2 (Inj.le_refl _)⟩
    ·obtain ⟨o1,o2⟩:=(hrow.own rfl).2 k hk
     obtain ⟨v,hv⟩:=Option.isSome_iff_exists.1 o1
     refine ⟨by rw [kept k hk v hv]; rfl,?_⟩
     have hd:Qdb N ι σ p.blk (p.base+k):=⟨o,p,bx,nr,fl,w,xs,k,hl,ho,hp',rfl,rfl,hk⟩
     have:=hG.keepF p.blk (p.base+k) v (by show (if Qdb N ι σ p.blk (p.base+k) then _ else _)=_; rw [if_pos hd]; exact hv)
     exact this.trans o2
 ·by_cases hl:o < N
  ·obtain ⟨ho1,ho2⟩:=low hl ho
   obtain ⟨p,nt1,hp',hb1,hB1,tmps,hsz,hrec,hsl1⟩:=h'.loop o fn sl ps as bd st pe ho1
   refine ⟨p,nt1,by rw [←hι o hl]; exact hp',(notB _ hb1).2,hB1,tmps,hsz,hrec,fun t x hx=>?_⟩
   obtain ⟨q,hq,rfl⟩:=Qud hx
   exact repl (hA o _ hl ho2 q hq) (hsl1 t _ hx)
  ·have ho:=high hl ho
   obtain ⟨p,nt1,hp',hb1,hB1,tmps,hsz,hrec,hsl1⟩:=h.loop o fn sl ps as bd st pe ho
   refine ⟨p,nt1,hp',hb1,hB1,tmps,hsz,?_,fun t x hx=>(hsl1 t x hx).mono hMM2 (Inj.le_refl _)⟩
   exact (h'.agree.keep p.blk _ (by rw [blk',if_pos ⟨o,p,fn,sl,ps,as,bd,st,pe,hl,ho,hp',rfl⟩]; exact hrec)).1
 ·have cellOf:∀{k bx nr fl w xs q},¬ k < N→σ k=some (.row bx false nr fl w xs)→ι k=some q→∀j,j < q.cap*q.w→Qdb N ι σ q.blk (q.base+j):=fun {k bx nr fl w xs q} hk h1 hq j hj=>by
   obtain ⟨q',hq',hr⟩:=h.row k _ _ _ _ _ _ h1
   rw [hq] at hq'; cases hq'
   exact ⟨k,q,bx,nr,fl,w,xs,j,hk,h1,hq,rfl,rfl,by rw [←hr.pw]; exact hj⟩
  have free:∀{k bx nr fl w xs q},k < N→(if k < N then σ' k else σ k)=some (.row bx false nr fl w xs)→ι k=some q→∀j,j < q.cap*q.w→¬ Qdb N ι σ q.blk (q.base+j):=fun {k bx nr fl w xs q} hk h1 hq j hj=>by
   obtain ⟨h1,_⟩:=low hk h1
   obtain ⟨q',hq',hr⟩:=h'.row k _ _ _ _ _ _ h1
   rw [hι k hk,hq] at hq'; cases hq'
   exact (notC _ _ (h'.cool k bx nr fl w xs q j h1 (by rw [hι k hk]; exact hq) (by rw [←hr.pw]; exact hj)).2).1
  have mixed:∀{k bx nr fl w xs q k2 bx2 nr2 fl2 w2 xs2 q2},k < N→¬ k2 < N→(if k < N then σ' k else σ k)=some (.row bx false nr fl w xs)→(if k2 < N then σ' k2 else σ k2)=some (.row bx2 false nr2 fl2 w2 xs2)→ι k=some q→ι k2=some q2 →
    q.blk≠q2.blk∨q.base+q.cap*q.w≤q2.base∨q2.base+q2.cap*q2.w≤q.base:=fun {k bx nr fl w xs q k2 bx2 nr2 fl2 w2 xs2 q2} l1 l2 h1 h2 h3 h4=>by
   apply Classical.byContradiction
   intro hno
   have hblk:q.blk=q2.blk:=Classical.byContradiction fun e=>hno (.inl e)
   have a1:¬ q.base+q.cap*q.w≤q2.base:=fun e=>hno (.inr (.inl e))
   have a2:¬ q2.base+q2.cap*q2.w≤q.base:=fun e=>hno (.inr (.inr e))
   have n1:0 < q.cap*q.w:=by
    obtain ⟨q',hq',hr⟩:=h'.row k _ _ _ _ _ _ (low l1 h1).1
    rw [hι k l1,h3] at hq'; cases hq'
    rcases hr.cpos with e | e
    ·exact Nat.mul_pos e (by rw [hr.pw]; exact hr.pos)
    ·rcases Nat.eq_zero_or_pos (q.cap*q.w) with z | z
     ·omega
     ·exact z
   have n2:0 < q2.cap*q2.w:=by
    obtain ⟨q',hq',hr⟩:=h.row k2 _ _ _ _ _ _ (high l2 h2)
    rw [h4] at hq'; cases hq'
    rcases hr.cpos with e | e
    ·exact Nat.mul_pos e (by rw [hr.pw]; exact hr.pos)
    ·rcases Nat.eq_zero_or_pos (q2.cap*q2.w) with z | z
     ·omega
     ·exact z
   have c1:=cellOf l2 (high l2 h2) h4
   have c2:=free l1 h1 h3
   rcases Nat.le_total q.base q2.base with e | e
   ·have:=c2 (q2.base - q.base) (by omega)
    rw [show q.base+(q2.base - q.base)=q2.base+0 by omega,hblk] at this
    exact this (c1 0 (by omega))
   ·have:=c2 0 (by omega)
    rw [hblk,show q.base+0=q2.base+(q.base - q2.base) by omega] at this
    exact this (c1 (q.base - q2.base) (by omega))
  by_cases l1:o < N
  ·by_cases l2:o' < N
   ·exact h'.apart o o' bx nr fl w xs bx' nr' fl' w' xs' p p' hne (low l1 h1).1 (low l2 h2).1 (by rw [hι o l1]; exact h3) (by rw [hι o' l2]; exact h4)
   ·exact mixed l1 l2 h1 h2 h3 h4
  ·by_cases l2:o' < N
   ·rcases mixed l2 l1 h2 h1 h4 h3 with a | a | a
    ·exact .inl (Ne.symm a)
    ·exact .inr (.inr a)
    ·exact .inr (.inl a)
   ·exact h.apart o o' bx nr fl w xs bx' nr' fl' w' xs' p p' hne (high l1 h1) (high l2 h2) h3 h4
 ·have free:∀{k fn sl ps as bd st pe q},k < N→(if k < N then σ' k else σ k)=some (.loop fn sl ps as bd st pe)→ι k=some q→¬ Qiu N ι σ q.blk:=fun {k fn sl ps as bd st pe q} hk h1 hq=>by
   obtain ⟨h1,_⟩:=low hk h1
   obtain ⟨p,nt1,hp',hb1,_⟩:=h'.loop _ _ _ _ _ _ _ _ h1
   rw [hι k hk,hq] at hp'; cases hp'
   exact (notB _ hb1).1
  have one:∀{k fn sl ps as bd st pe q},¬ k < N→(if k < N then σ' k else σ k)=some (.loop fn sl ps as bd st pe)→ι k=some q→Qiu N ι σ q.blk:=fun hk h1 hq=>⟨_,_,_,_,_,_,_,_,_,hk,high hk h1,hq,rfl⟩
  by_cases l1:o < N
  ·by_cases l2:o' < N
   ·exact h'.loops o o' fn sl ps as bd st pe fn' sl' ps' as' bd' st' pe' p p' hne (low l1 h1).1 (low l2 h2).1 (by rw [hι o l1]; exact h3) (by rw [hι o' l2]; exact h4)
   ·exact fun e=>free l1 h1 h3 (e ▸ one l2 h2 h4)
  ·by_cases l2:o' < N
   ·exact fun e=>free l2 h2 h4 (e ▸ one l1 h1 h3)
   ·exact h.loops o o' fn sl ps as bd st pe fn' sl' ps' as' bd' st' pe' p p' hne (high l1 h1) (high l2 h2) h3 h4
 ·by_cases hl:o < N
  ·rw [if_pos hl]
   have:=h'.used o (by rw [hι o hl]; exact ho)
   rw [if_pos hl] at this
   exact this
  ·rw [if_neg hl]; exact h.used o ho
end
end Go.Ab
namespace Go.Ab
open Go.RowKit
theorem Qxd:∀D:List Nat,∃D':List Nat,D'.Nodup∧∀r,r∈D'↔r∈D
 | []=>⟨[],List.nodup_nil,fun r=>Iff.rfl⟩
 | x::D=>by
  obtain ⟨D',h1,h2⟩:=Qxd D
  by_cases hx:x∈D'
  ·exact ⟨D',h1,fun r=>by rw [h2,List.mem_cons]; exact ⟨.inr,fun h=>h.elim (fun e=>by subst e; exact (h2 _).1 hx) id⟩⟩
  ·exact ⟨x::D',List.nodup_cons.2 ⟨hx,h1⟩,fun r=>by rw [List.mem_cons,List.mem_cons,h2]⟩
theorem Qnu:∀{es:List (Nat × AObj)} {objs objs':List AObj},Z9 objs es=some objs'→(∀y∈es,y.1 < objs.length)→objs'.length=objs.length
 | [],objs,objs',h,_=>by cases h; rfl
 | (o,x)::es,objs,objs',h,hl=>by
  simp only [Z9] at h
  split at h
  ·split at h
   ·split at h
    ·cases h
    ·rw [Qnu h (fun y hy=>by rw [List.length_set]; exact hl y (List.mem_cons_of_mem _ hy)),List.length_set]
   ·rename_i hn
    have:=hl (o,x) (by simp)
    rw [List.getElem?_eq_getElem this] at hn; cases hn
  ·cases h
section
variable {P:Program} {ops:Array Oper} {o:Oper}
theorem Q4w {g:Operand} {args:Array Operand} {ts:Array TypeId} {f:FuncId} {fn:Func} {c:Code} {first caps as:List AV} {e:Xt} {x:AV} {s:Slots} {σ:Sto} {N n:Nat} {A A':List AObj} {sl':List (Nat × AV)} {nt':Nat} {eff:List (Nat × AObj)}
  (hw:X7 ops s o=some true) (ho:o.op=.call { callee:=.value g,args,argTypes:=ts }) (hg:evo s g=some (.fn (.func f) first caps)) (has:K2 s args.toList=some as)
  (hf:P.funcs[f]?=some fn) (hb:fn.body=some c) (hn:(fn.name == "runtime.NumGoroutine")=false) (hle:(first++as++caps).length≤fn.ntmps)
  (hσ:∀k,k < N→σ k=A[k]?) (hN:A.length=N) (hN':A'.length=N) (hbig:N≤BIG) (hlive:∀y∈A,Qtl y=true) (hA:∀y∈A,Qga N y) (hA':∀y∈A',Qga N y)
  (hids:∀a∈first++as++caps,∀k∈a.ids,k < N)
  (h:Xs P none N c ⟨Jv 0 (first++as++caps),A,fn.ntmps⟩ (.go e ⟨sl',A',nt'⟩)) (hend:e.ends=true) (hr:resultA P fn ⟨sl',A',nt'⟩=some x) (hx:x.nr=true)
  (heff:∀k,k < N→Sto.puts (fun k=>A[k]?) eff k=A'[k]?) (heff2:∀y∈eff,y.1 < N) :
  YlL P ops o ⟨some x,eff,n,n,List.range N⟩ s σ:=by
 intro s' σ' hs' hσ'
 have hl:=Qsq (ops:=ops) hs'
 rw [ho] at hl
 have hg':evo s' g=some (.fn (.func f) first caps):=by rw [hl g (by simp [Op.operands,Call.operands])]; exact hg
 have has':K2 s' args.toList=some as:=by rw [evos_congr (fun y hy=>hl y (by simp [Op.operands,Call.operands]; exact .inr (by simpa using hy)))]; exact has
 refine .inl ⟨by rw [Qf1 hs']; exact hw,?_⟩
 intro B W0 D M ι a W nn Q r next hrel hsl hfree hpost
 simp only at hfree hpost
 have hσN:∀k,k < N→σ' k=A[k]?:=fun k hk=>by rw [hσ' k (List.mem_range.2 hk)]; exact hσ k hk
 have hgv:=Qh hsl hg'
 generalize hgu:a.eval g=gu at hgv
 cases hgv with
 | fn _ first' caps' _ _ hy hm h1 h2 hr1 hr2 =>
 obtain ⟨l1,e1⟩:=J8 hsl has'
 refine ⟨fun _ _=>trivial,?_⟩
 rw [Oper.semAt_eq _ _ _ (by rw [ho]; simp)]
 have hrun:(execOp a.eval o).run P W=.ok (.enter f (first'++args.map a.eval++caps')) W:=by
  simp only [execOp,ho,resolve,hgu,Deferred.ofValue,Sem.run_bind,Sem.run_pure,Result.andThen_ok,invoke]
  exact J3 hf (by rw [hb]; rfl) hn _ W
 rw [hrun,Oper.uponIn_enter]
 have hrep:∀(j:Nat) (v:Value) (y:AV),(first'++args.map a.eval++caps')[j]?=some v→(first++as++caps)[j]?=some y→Qa M ι v y :=
  Qpe h1 (by simpa using l1.symm) h2 hr1 (fun j v y hv hy=>by
   simp only [Array.getElem?_map,Option.map_eq_some_iff] at hv
   obtain ⟨w,hw,rfl⟩:=hv
   exact (e1 j w y (by simpa using hw) hy).2) hr2
 have hsz:(first'++args.map a.eval++caps').size=(first++as++caps).length:=by simp [h1,h2,l1]
 have hOk:∀k x,k < N→σ' k=some x→Qga N x:=fun k x hk hx=>by
  rw [hσN k hk] at hx; exact hA x (List.mem_of_getElem? hx)
 have hhide:=hrel.hide (N:=N) hOk
 have hsA:sto A=fun k=>if k < N then σ' k else none:=funext fun k=>by
  rw [Qu0 (fun y hy=>Qnm (hA y hy)) (by omega)]
  by_cases hk:k < N
  ·rw [if_pos hk,hσN k hk]
  ·rw [if_neg hk,List.getElem?_eq_none (by omega)]
 rw [←hsA] at hhide
 obtain ⟨D0,hnd,hmem⟩:=Qxd D
 have hhide0:=hhide.mem (D':=D0) (fun r hr=>(hmem r).1 hr)
 have hM1:M.le (Qng N ι σ' W M):=fun _ _ _ h=>h
 refine ⟨fun hd=>by simp [FW,Fence.wide] at hd,Qk2 ?_⟩
 refine callsIn_wide.1 (callsIn_of_wp_marks (F:=FW none) (n:=0) hf hb trivial ?_)
 refine h B W0 D0 [] (Qng N ι σ' W M) (fun k=>if k < N then ι k else none) _ W 0 _ none ⟨hhide0,Qfn fn.ntmps (fun j v y hv hy=>?_) hsz,by rw [Array.size_append,Array.size_replicate]; show _=fn.ntmps; omega,⟨rfl,fun r hr=>by simp at hr,by simpa using hnd⟩,fun k hk=>?_,by show A.length≤BIG; omega⟩ rfl ⟨?_,fun v hv=>by cases hv⟩
 ·have hi:=hids y (List.mem_of_getElem? hy)
  exact ((hrep j v y hv hy).congr fun o ho=>if_pos (hi o ho)).mono hM1 (Inj.le_refl _)
 ·exact if_neg (fun hlt=>hk (.inl (by show k < A.length; omega)))
 intro e' st'' he dl' M' ι' a' W' g1 g2 g3 g4
 cases he
 have hex:e.exit'=.normal∨e.exit'=.ret:=by cases e <;> simp_all [Xt.ends,Xt.exit']
 have cut:∀R,LeavesInM (FW none) 0 P fn a'.tmps R a'.defers .returning W'→bodyPostM (FW none) 0 P fn R e.exit' a' W':=fun R hR=>by
  rcases hex with e1 | e1 <;> rw [e1] <;> exact hR
 apply cut
 rw [g4.df.defs]
 refine Qgw (by simp) dl' W' g4.rel g4.df.nd g4.df.old (fun W2 h2=>?_)
 obtain ⟨v,k1,k2⟩:=Qf9 h2 g4.slots hr
 refine ⟨v,k1,?_⟩
 have hι:∀k,k < N→ι' k=ι k:=fun k hk=>by
  have hlv:∃p,ι k=some p:=by
   have hAk:A[k]?=some (A[k]'(by omega)):=List.getElem?_eq_getElem (by omega)
   have hk':=hσN k hk
   rw [hAk] at hk'
   have hlv:=hlive _ (List.mem_of_getElem? hAk)
   cases hy:A[k]'(by omega) with
   | row bx ro nr fl w xs=>rw [hy] at hk'; obtain ⟨p,hp,_⟩:=hrel.row k _ _ _ _ _ _ hk'; exact ⟨p,hp⟩
   | loop nt sl ps as bd st pe=>rw [hy] at hk'; obtain ⟨p,_,hp,_⟩:=hrel.loop k _ _ _ _ _ _ _ hk'; exact ⟨p,hp⟩
   | _=>rw [hy] at hlv; cases hlv
  obtain ⟨p,hp⟩:=hlv
  rw [hp]
  exact g2 k p (.inl hk) (by show (if k < N then ι k else none)=_; rw [if_pos hk]; exact hp)
 have h2':=h2.mem (D':=D) (fun r hr=>(hmem r).2 hr)
 have hsA':sto A'=fun k=>if k < N then (fun k=>A'[k]?) k else none:=funext fun k=>by
  rw [Qu0 (fun y hy=>Qnm (hA' y hy)) (by omega)]
  by_cases hk:k < N
  ·rw [if_pos hk]
  ·rw [if_neg hk,List.getElem?_eq_none (by omega)]
 rw [show (⟨sl',A',nt'⟩:St).objs=A' from rfl,hsA'] at h2'
 obtain ⟨M2,q1,q2,q3⟩:=hrel.unhide h2' g1 hι (fun k y hk hy=>hA' y (List.mem_of_getElem? hy))
 refine hpost v W2 M2 ι q1 (Inj.le_refl _) (fun _ _=>rfl) ?_ (fun y hy=>?_)
 ·have:(fun k=>if k < N then (fun k=>A'[k]?) k else σ' k)=σ'.puts eff:=funext fun k=>by
   by_cases hk:k < N
   ·rw [if_pos hk]
    show A'[k]?=_
    rw [←heff k hk]
    exact Qge eff k (.inl (hσN k hk).symm)
   ·rw [if_neg hk]
    exact (Qbi (fun y hy e=>hk (by rw [←e]; exact heff2 y hy))).symm
  rw [←this]; exact q3
 ·cases hy
  exact (k2.of_nr hx).mono q2 (Inj.noInj_le _)
end
section
variable {P:Program} {rd:Option Nat} {base:Nat} {ops:Array Oper} {d:Option (List Sk)} {st S:St} {Φ:AOut→Prop} {i:Nat}
noncomputable def Qmf (P:Program) (fn:Func) (ops:Array Oper) (i:Nat) (st:St) (eff:List (Nat × AObj)) (st':St):Option St :=
 match resultA P fn st',ops[i]? with
 | some x,some o=>match Jz st.slots st.nt o.dst (some x),Z9 st.objs eff with
  | some slots,some objs=>if x.nr then some ⟨slots,objs,st.nt⟩ else none
  | _,_=>none
 | _,_=>none
theorem Q7w {σ ρ R:Type} {N:Nat} {c:Code} {I:σ→St} {E:ρ→St} {F:σ→Option ρ} {K:ρ→Option R} {r:R} {f:FuncId} {fn:Func} {as0:List AV} (s0:σ) (A H:List AObj) (eff:ρ→List (Nat × AObj)) (S:ρ→St)
  (hi:Z1 ops i st=some (f,as0)) (hf:P.funcs[f]?=some fn) (hb:fn.body=some c) (hn:(fn.name == "runtime.NumGoroutine")=false) (hle:Nat.ble as0.length fn.ntmps=true)
  (hsp:st.objs=A++H) (h0:(⟨Jv 0 as0,A,fn.ntmps⟩:St)=I s0) (hN:A.length=N) (hbig:Nat.ble N BIG=true) (hlive:A.all Qtl=true) (hA:∀y∈A,Qga N y) (hE:∀x,(E x).objs.length=N) (hA':∀x,∀y∈(E x).objs,Qga N y)
  (hsl:(as0.all fun a=>a.ids.all fun o=>Nat.blt o N)=true)
  (heff:∀x,∀k,k < N→Sto.puts (fun k=>A[k]?) (eff x) k=(E x).objs[k]?) (hefl:∀x,∀y∈eff x,y.1 < N) (w:List Nat) (hw:∀x,(eff x).map (·.1)=w) (hlow:Nat.ble st.objs.length BIG=true)
  (IH:Qln P N c I E F) (h:(F s0).bind K=some r) (hS:∀x,Qmf P fn ops i st (eff x) (E x)=some (S x))
  (k:∀x,K x=some r→RW P rd base ops (Q6 d [(w,List.range N)]) (i+1) (S x) Φ):RW P rd base ops d i st Φ:=by
 obtain ⟨o,g,args,ts,first,caps,as1,ho,hop,hg,has,rfl⟩:=Qf0 hi
 obtain ⟨h1,h2⟩:=Jg ho
 cases hx:F s0 with
 | none=>rw [hx] at h; cases h
 | some x =>
  rw [hx] at h
  obtain ⟨out,hex,hout⟩:=IH s0 x hx
  rw [←h0] at hex
  have hsx:=hS x
  unfold Qmf at hsx
  split at hsx
  ·rename_i y o' hr ho'
   rw [h1] at ho'; cases ho'
   split at hsx
   ·rename_i slots objs hp ha
    split at hsx
    ·rename_i hy
     have hsS:S x=⟨slots,objs,st.nt⟩:=(Option.some.inj hsx).symm
     have hks:=k x h
     rw [hsS] at hks
     obtain ⟨p1,p2,p3⟩:=V9 _ _ _ ha
     have hNl:N≤st.objs.length:=by rw [hsp,List.length_append]; omega
     have hbig':N≤BIG:=Nat.le_of_ble_eq_true hbig
     have hAsimp:∀z∈A,Qrd z=true:=fun z hz=>Qnm (hA z hz)
     have hσ:∀k,k < N→sto st.objs k=A[k]?:=fun k hk=>by
      have hkb:k < BIG:=by omega
      rw [Zg hkb,hsp,List.getElem?_append_left (by omega)]
      cases e:A[k]? with
      | none=>rfl
      | some z=>simp [Qqd (hAsimp z (List.mem_of_getElem? e))]
     have hids:∀a∈first++as1++caps,∀k∈a.ids,k < N:=fun a ha k hk=>Xn (List.all_eq_true.1 (List.all_eq_true.1 hsl a ha) k hk)
     have hout':∃e,out=.go e (E x)∧e.ends=true:=by
      rcases hout with he | he
      ·exact ⟨_,he,rfl⟩
      ·exact ⟨_,he,rfl⟩
     obtain ⟨e,rfl,hend⟩:=hout'
     have hlen:objs.length=st.objs.length:=Qnu ha (fun y hy=>by have:=hefl x y hy; omega)
     refine Qdv (s:=(w,List.range N)) ⟨o,⟨some y,eff x,st.objs.length,st.objs.length,List.range N⟩,h1,?_,Q1y (by simp [Foot.sk,hw x])⟩ hks
     refine Qv9 (Q4w (e:=e) (sl':=(E x).slots) (nt':=(E x).nt) (A:=A) (A':=(E x).objs) h2 hop hg has hf hb hn (Nat.le_of_ble_eq_true hle) hσ hN (hE x) hbig' (fun z hz=>List.all_eq_true.1 hlive z hz) hA (hA' x) hids hex hend hr hy (heff x) (hefl x)) rfl ?_ ha hp rfl
     show st.objs.length=objs.length
     exact hlen.symm
    ·cases hsx
   ·cases hsx
  ·cases hsx
end
end Go.Ab
namespace Go.Ab
open Go.RowKit
theorem Qv3:∀(es:List (Nat × AObj)) (A A':List AObj),Z9 A es=some A'→(∀y∈es,y.1 < A.length)→∀k,Sto.puts (fun k=>A[k]?) es k=A'[k]?
 | [],A,A',h,_,k=>by cases h; rfl
 | (o,x)::es,A,A',h,hl,k=>by
  simp only [Z9] at h
  split at h
  ·have ho:=hl (o,x) (by simp)
   rw [List.getElem?_eq_getElem ho] at h
   simp only at h
   split at h
   ·cases h
   ·have ih:=Qv3 es _ A' h (fun y hy=>by rw [List.length_set]; exact hl y (List.mem_cons_of_mem _ hy)) k
    rw [←ih]
    show Sto.puts _ es k=_
    congr 1
    funext j
    by_cases e:j=o
    ·subst e; simp [Sto.put,List.getElem?_set_self ho]
    ·simp [Sto.put,e,List.getElem?_set_ne (fun h=>e h.symm)]
  ·cases h
section
variable {P:Program} {rd:Option Nat} {base:Nat} {ops:Array Oper} {d:Option (List Sk)} {st:St} {Φ:AOut→Prop} {i:Nat}
theorem Q7v {σ ρ R:Type} {N:Nat} {c:Code} {I:σ→St} {E:ρ→St} {F:σ→Option ρ} {K:ρ→Option R} {r:R} {f:FuncId} {fn:Func} {as0:List AV} (s0:σ) (eff:ρ→List (Nat × AObj)) (S:ρ→St) (w:List Nat)
  (hi:Z1 ops i st=some (f,as0)) (hf:P.funcs[f]?=some fn) (hb:fn.body=some c) (hn:(fn.name == "runtime.NumGoroutine")=false) (hle:Nat.ble as0.length fn.ntmps=true)
  (h0:(⟨Jv 0 as0,st.objs.take N,fn.ntmps⟩:St)=I s0) (hN:Nat.ble N st.objs.length=true) (hbig:Nat.ble st.objs.length BIG=true) (hlive:(st.objs.take N).all Qtl=true) (hA:∀y∈st.objs.take N,Qga N y) (hE:∀x,Nat.beq (E x).objs.length N=true) (hA':∀x,∀y∈(E x).objs,Qga N y)
  (hsl:(as0.all fun a=>a.ids.all fun o=>Nat.blt o N)=true)
  (heff:∀x,Z9 (st.objs.take N) (eff x)=some (E x).objs) (hw:∀x,(eff x).map (·.1)=w) (hwl:(w.all fun o=>Nat.blt o N)=true)
  (IH:Qln P N c I E F) (h:(F s0).bind K=some r) (hS:∀x,Qmf P fn ops i st (eff x) (E x)=some (S x))
  (k:∀x,K x=some r→RW P rd base ops (Q6 d [(w,List.range N)]) (i+1) (S x) Φ):RW P rd base ops d i st Φ:=by
 have hNl:N≤st.objs.length:=Nat.le_of_ble_eq_true hN
 have hlA:(st.objs.take N).length=N:=by rw [List.length_take]; omega
 have hel:∀x,∀y∈eff x,y.1 < N:=fun x y hy=>by
  have:y.1∈(eff x).map (·.1):=List.mem_map_of_mem hy
  rw [hw x] at this
  exact Xn (List.all_eq_true.1 hwl _ this)
 refine Q7w s0 (st.objs.take N) (st.objs.drop N) eff S hi hf hb hn hle (List.take_append_drop N st.objs).symm h0 hlA ?_ hlive hA (fun x=>Nat.eq_of_beq_eq_true (hE x)) hA' hsl (fun x k _=>Qv3 _ _ _ (heff x) (fun y hy=>by rw [hlA]; exact hel x y hy) k) hel w hw hbig IH h hS k
 have:=Nat.le_of_ble_eq_true hbig
 exact Nat.ble_eq_true_of_le (by omega)
end
end Go.Ab
namespace Go.Ab
open Go.RowKit
@[reducible] def nlE {α:Type} (fl:Bool) (enc:α→AV):List α→AV
 | []=>.nils
 | a::l=>.lst fl ((a::l).map enc)
section
variable {P:Program} {rd:Option Nat} {base:Nat} {ops:Array Oper} {d:Option (List Sk)} {Φ:AOut→Prop} {i:Nat}
variable {st:St} {ops:Array Oper}
theorem Q6c {α R:Type} {G:Option (List α)} {A:Option R} {B:α→List α→Option R} {f:FuncId} {as0 us:List AV} {ids:List Nat} {fl:Bool} {enc:α→AV} {S0:St} {S1:α→List α→St} {r:R} (hi:Z1 ops i st=some (f,as0)) (hb:Qgs P f=true)
  (hsn:Qy (Qw st.sto Qq) as0=some (us,ids)) (hc:∀x,G=some x→Qx P f us (.ret (nlE fl enc x) [])) (h0:Qd4 ops i st ids .nils []=some S0) (h1:∀a t,Qd4 ops i st ids (.lst fl ((a::t).map enc)) []=some (S1 a t))
  (h:(G.bind fun x=>Q35 x A B)=some r) (k0:A=some r→RW P rd base ops (Q6 d [Qjv st ids .nils []]) (i+1) S0 Φ)
  (k1:∀a t,B a t=some r→RW P rd base ops (Q6 d [Qjv st ids (.lst fl ((a::t).map enc)) []]) (i+1) (S1 a t) Φ):RW P rd base ops d i st Φ:=by
 cases hg:G with
 | none=>rw [hg] at h; cases h
 | some x =>
  rw [hg] at h
  cases x with
  | nil=>exact Qrl hi hb hsn (hc [] hg) h0 (k0 h)
  | cons a t=>exact Qrl hi hb hsn (hc (a::t) hg) (h1 a t) (k1 a t h)
end
end Go.Ab
namespace Go.Ab
open Go.RowKit
theorem Xh.trans {ops:Array Oper} {i m k:Nat} (h:Xh ops i m) (h2:Xh ops m k):Xh ops i k:=by
 induction h2 with
 | one hj he hb hon=>exact .more hj he hb (hon ▸ h)
 | more hj he hb _ ih=>exact .more hj he hb ih
section
variable {F:Fence} {n:Nat} {P:Program} {ops:Array Oper} {Q Q':Exit→Act→World→Prop}
end
section
variable {P:Program} {rd:Option Nat} {base:Nat} {ops:Array Oper} {st st':St} {Φ:AOut→Prop}
def Q7x (P:Program) (rd:Option Nat) (base:Nat) (ops:Array Oper) (j:Nat) (Φ:AOut→Prop):AOut→Prop
 | .go .normal st'=>RW P rd base ops none j st' Φ
 | _=>False
end
end Go.Ab
namespace Go.Ab
inductive Fr where
 | seq (y:Code)
 | blk (id:Nat)
 | inl (fn:Func) (ops:Array Oper) (i:Nat) (st:St) (rd:Option Nat) (base:Nat)
 | inN (fn:Func) (ops:Array Oper) (d:Option (List Sk)) (i:Nat) (st:St) (rd:Option Nat) (base:Nat)
 | rng (fn:Func) (st:St) (rd:Option Nat) (base:Nat)
 | yA (l nt:Nat) (body:Code) (ops:Array Oper) (i:Nat) (st:St) (rd:Option Nat) (base:Nat)
 | yB (l:Nat) (ops:Array Oper) (i:Nat) (st:St) (rd:Option Nat) (base:Nat)
 | lp (c:Code)
 | cut (o:Array Oper) (j:Nat)
inductive Pos where
 | lw (c:Code)
 | code (c:Code)
 | ops (o:Array Oper) (d:Option (List Sk)) (i:Nat)
 | out (e:Xt)
structure Cf where
 pos:Pos
 fr:List Fr
 st:St
 rd:Option Nat
 base:Nat
def Phi (P:Program) (Ω:AOut→Prop):List Fr→Option Nat → Nat → AOut→Prop
 | [],_,_=>Ω
 | .seq y::r,rd,b=>Qty (fun s=>WP P rd b y s (Phi P Ω r rd b)) (Phi P Ω r rd b)
 | .blk id::r,rd,b=>Qua id (Phi P Ω r rd b)
 | .inl fn ops i st rd b::r,_,_=>fun out=>∃S,Qkc P fn ops i st out=some S∧RW P rd b ops none (i+1) S (Phi P Ω r rd b)
 | .inN fn ops d i st rd b::r,_,_=>fun out=>∃S,Qzz P fn ops i st out=some S∧RW P rd b ops (Q6 d (Q4l st S)) (i+1) S (Phi P Ω r rd b)
 | .rng fn st rd b::r,_,_=>fun out0=>∃out,Kt P fn st out0=some out∧Phi P Ω r rd b out
 | .yA l nt body ops i st rd b::r,_,_=>fun outA=>∃SA,Qp0 l nt outA=some SA∧WP P (some l) st.objs.length body SA (fun outB=>∃S,Qnv ops i l st outB=some S∧RW P rd b ops none (i+1) S (Phi P Ω r rd b))
 | .yB l ops i st rd b::r,_,_=>fun outB=>∃S,Qnv ops i l st outB=some S∧RW P rd b ops none (i+1) S (Phi P Ω r rd b)
 | .lp c::r,rd,b=>Qty (fun s=>LWP P rd b c s (Phi P Ω r rd b)) (Phi P Ω r rd b)
 | .cut o j::r,rd,b=>Q7x P rd b o j (Phi P Ω r rd b)
def Gl (P:Program) (Ω:AOut→Prop):Cf→Prop
 | ⟨.code x,fr,st,rd,b⟩=>WP P rd b x st (Phi P Ω fr rd b)
 | ⟨.ops o d i,fr,st,rd,b⟩=>RW P rd b o d i st (Phi P Ω fr rd b)
 | ⟨.out e,fr,st,rd,b⟩=>Phi P Ω fr rd b (.go e st)
 | ⟨.lw x,fr,st,rd,b⟩=>LWP P rd b x st (Phi P Ω fr rd b)
noncomputable def ctl (P:Program):Cf→Option Cf
 | ⟨.code x,fr,st,rd,b⟩=>match x with
  | .seq x y=>some ⟨.code x,.seq y::fr,st,rd,b⟩
  | .block id x=>some ⟨.code x,.blk id::fr,st,rd,b⟩
  | .scope x=>some ⟨.code x,fr,st,rd,b⟩
  | .skip=>some ⟨.out .normal,fr,st,rd,b⟩
  | .label _=>some ⟨.out .normal,fr,st,rd,b⟩
  | .region _ o false=>some ⟨.ops o none 0,fr,st,rd,b⟩
  | _=>none
 | ⟨.ops o d i,fr,st,rd,b⟩=>if Nat.beq i o.size then match d with
   | none=>some ⟨.out .normal,fr,st,rd,b⟩
   | some acc=>if Qd2 o.toList acc then some ⟨.out .normal,fr,st,rd,b⟩ else none
  else none
 | ⟨.out e,fr,st,rd,b⟩=>match fr with
  | []=>none
  | .seq y::r=>match e with
   | .normal=>some ⟨.code y,r,st,rd,b⟩
   | e=>some ⟨.out e,r,st,rd,b⟩
  | .blk id::r=>match e with
   | .exit j=>if Nat.beq j id then some ⟨.out .normal,r,st,rd,b⟩ else some ⟨.out (.exit j),r,st,rd,b⟩
   | e=>some ⟨.out e,r,st,rd,b⟩
  | .inl fn ops i st0 rd0 b0::r=>match Qkc P fn ops i st0 (.go e st) with
   | some S=>some ⟨.ops ops none (i+1),r,S,rd0,b0⟩
   | none=>none
  | .inN fn ops d i st0 rd0 b0::r=>match Qzz P fn ops i st0 (.go e st) with
   | some S=>some ⟨.ops ops (Q6 d (Q4l st0 S)) (i+1),r,S,rd0,b0⟩
   | none=>none
  | .rng fn st0 rd0 b0::r=>match Kt P fn st0 (.go e st) with
   | some (.go e' S)=>some ⟨.out e',r,S,rd0,b0⟩
   | _=>none
  | .yA l nt body ops i st0 rd0 b0::r=>match Qp0 l nt (.go e st) with
   | some S=>some ⟨.code body,.yB l ops i st0 rd0 b0::r,S,some l,st0.objs.length⟩
   | none=>none
  | .yB l ops i st0 rd0 b0::r=>match Qnv ops i l st0 (.go e st) with
   | some S=>some ⟨.ops ops none (i+1),r,S,rd0,b0⟩
   | none=>none
  | .lp c::r=>match e with
   | .normal=>some ⟨.lw c,r,st,rd,b⟩
   | e=>some ⟨.out e,r,st,rd,b⟩
  | .cut o j::r=>match e with
   | .normal=>some ⟨.ops o none j,r,st,rd,b⟩
   | _=>none
 | ⟨.lw _,_,_,_,_⟩=>none
noncomputable def stp (P:Program):Cf→Option Cf
 | ⟨.code x,fr,st,rd,b⟩=>match x with
  | .cond op x y=>match evo (lk st.slots) op with
   | some (.bool v)=>match v with
    | true=>some ⟨.code x,fr,st,rd,b⟩
    | false=>some ⟨.code y,fr,st,rd,b⟩
   | _=>none
  | .region _ o true=>if P.follows .mixedOrders && Qyc o then some ⟨.ops o (some []) 0,fr,st,rd,b⟩ else none
  | .ret=>some ⟨.out .ret,fr,st,rd,b⟩
  | .exit j=>some ⟨.out (.exit j),fr,st,rd,b⟩
  | _=>none
 | ⟨.ops o d i,fr,st,rd,b⟩=>match Qc4 P false o 1 i st with
  | some S=>some ⟨.ops o (Q6 d (Qrc P false o 1 i st)) (i+1),fr,S,rd,b⟩
  | none=>none
 | ⟨.out _,_,_,_,_⟩=>none
 | ⟨.lw _,_,_,_,_⟩=>none
noncomputable def settle (P:Program):Nat → Cf→Cf
 | 0,c=>c
 | n+1,c=>match ctl P c with
  | some c'=>settle P n c'
  | none=>c
noncomputable def go (P:Program):Nat → Cf→Option Cf
 | 0,c=>some (settle P 1000 c)
 | n+1,c=>match stp P (settle P 1000 c) with
  | some c'=>go P n c'
  | none=>none
def Cf.bad:Cf:=⟨.out .normal,[],⟨[],[],0⟩,none,0⟩
noncomputable def gg (P:Program) (n:Nat) (c:Cf):Cf:=match go P n c with | some c=>c | none=>.bad
section
variable {P:Program} {Ω:AOut→Prop} {c c':Cf}
theorem Q6x (h:ctl P c=some c') (g:Gl P Ω c'):Gl P Ω c:=by
 obtain ⟨pos,fr,st,rd,b⟩:=c
 cases pos with
 | code x =>
  simp only [ctl] at h
  split at h
  ·cases h; exact Xi g
  ·cases h; exact Qhn g
  ·cases h; exact Q27 g
  ·cases h; exact wp_skip g
  ·cases h; exact Q3j g
  ·cases h; exact Vz g
  ·cases h
 | ops o d i =>
  simp only [ctl] at h
  split at h
  ·rename_i hi
   have hi:=Nat.eq_of_beq_eq_true hi
   cases d with
   | none=>cases h; exact Ye hi g
   | some acc =>
    simp only at h
    split at h
    ·rename_i hc; cases h; exact Quo (rd:=rd) (base:=b) hi hc g
    ·cases h
  ·cases h
 | out e =>
  simp only [ctl] at h
  split at h
  ·cases h
  ·split at h
   ·cases h; exact g
   ·rename_i hne
    cases h
    cases e with
    | normal=>exact absurd rfl hne
    | exit j=>exact g
    | ret=>exact g
  ·split at h
   ·rename_i j
    split at h
    ·rename_i hj
     cases h
     show Phi P Ω _ _ _ (AOut.inBlock _ (.go (.exit j) st))
     simp only [AOut.inBlock,hj,if_true]; exact g
    ·rename_i hj
     cases h
     show Phi P Ω _ _ _ (AOut.inBlock _ (.go (.exit j) st))
     simp only [AOut.inBlock,hj,if_false]; exact g
   ·rename_i hne
    cases h
    cases e with
    | normal=>exact g
    | exit j=>exact absurd rfl (hne j)
    | ret=>exact g
  ·split at h
   ·rename_i hS; cases h; exact ⟨_,hS,g⟩
   ·cases h
  ·split at h
   ·rename_i hS; cases h; exact ⟨_,hS,g⟩
   ·cases h
  ·split at h
   ·rename_i hS; cases h; exact ⟨_,hS,g⟩
   ·cases h
  ·split at h
   ·rename_i hS; cases h; exact ⟨_,hS,g⟩
   ·cases h
  ·split at h
   ·rename_i hS; cases h; exact ⟨_,hS,g⟩
   ·cases h
  ·split at h
   ·cases h; exact g
   ·rename_i hne
    cases h
    cases e with
    | normal=>exact absurd rfl hne
    | exit j=>exact g
    | ret=>exact g
  ·split at h
   ·cases h; exact g
   ·cases h
 | lw x=>cases h
theorem Q61 (h:stp P c=some c') (g:Gl P Ω c'):Gl P Ω c:=by
 obtain ⟨pos,fr,st,rd,b⟩:=c
 cases pos with
 | code x =>
  simp only [stp] at h
  split at h
  ·split at h
   ·rename_i v he
    cases v with
    | true=>cases h; exact Qwg he g
    | false=>cases h; exact Qvg he g
   ·cases h
  ·split at h
   ·rename_i hm
    simp only [Bool.and_eq_true] at hm
    cases h; exact rga hm.1 g hm.2
   ·cases h
  ·cases h; exact Qu6 g
  ·cases h; exact Qr5 g
  ·cases h
 | ops o d i =>
  simp only [stp] at h
  split at h
  ·rename_i S hS; cases h; exact sg false 1 _ hS rfl g
  ·cases h
 | out e=>cases h
 | lw x=>cases h
theorem Qnk:∀(n:Nat) (c:Cf),Gl P Ω (settle P n c)→Gl P Ω c
 | 0,c,g=>g
 | n+1,c,g=>by
  unfold settle at g
  split at g
  ·rename_i c' hc; exact Q6x hc (Qnk n c' g)
  ·exact g
theorem Qkk:∀(n:Nat) (c c':Cf),go P n c=some c'→Gl P Ω c'→Gl P Ω c
 | 0,c,c',h,g=>by unfold go at h; cases h; exact Qnk _ _ g
 | n+1,c,c',h,g=>by
  unfold go at h
  split at h
  ·rename_i c1 hc; exact Qnk _ _ (Q61 hc (Qkk n c1 c' h g))
  ·cases h
theorem Qks {n:Nat} (h:(go P n c).isSome=true) (g:Gl P Ω (gg P n c)):Gl P Ω c:=by
 unfold gg at g
 split at g
 ·rename_i c1 hc; exact Qkk n c c1 hc g
 ·rename_i hn; rw [hn] at h; cases h
def Cf.o (c:Cf):Array Oper:=match c.pos with | .ops o _ _=>o | _=>#[]
def Cf.d (c:Cf):Option (List Sk):=match c.pos with | .ops _ d _=>d | _=>none
def Cf.i (c:Cf):Nat := match c.pos with | .ops _ _ i=>i | _=>0
def Cf.isO (c:Cf):Bool:=match c.pos with | .ops _ _ _=>true | _=>false
def Cf.x (c:Cf):Code:=match c.pos with | .code x=>x | _=>.skip
def Cf.isX (c:Cf):Bool:=match c.pos with | .code _=>true | _=>false
def Cf.free (c:Cf):Bool:=match c.pos with | .code _=>true | .ops _ none _=>true | .lw _=>true | _=>false
def Cf.nx (c:Cf) (s:List Sk) (S:St):Cf:=⟨.ops c.o (Q6 c.d s) (c.i+1),c.fr,S,c.rd,c.base⟩
def Cf.to (c:Cf) (S:St):Cf:=⟨c.pos,c.fr,S,c.rd,c.base⟩
noncomputable def goO (P:Program) (n:Nat) (c:Cf):Bool:=match go P n c with | some c=>c.isO | none=>false
noncomputable def goX (P:Program) (n:Nat) (c:Cf):Bool:=match go P n c with | some c=>c.isX | none=>false
noncomputable def goF (P:Program) (n:Nat) (c:Cf):Bool:=match go P n c with | some c=>c.free | none=>false
theorem Qb5 {n:Nat} (h:goO P n c=true) (g:(gg P n c).isO=true→Gl P Ω (gg P n c)):Gl P Ω c:=by
 unfold goO at h
 split at h
 ·rename_i c1 hc; exact Qks (by rw [hc]; rfl) (g (by unfold gg; rw [hc]; exact h))
 ·cases h
theorem Q63 {n:Nat} (h:goX P n c=true) (g:(gg P n c).isX=true→Gl P Ω (gg P n c)):Gl P Ω c:=by
 unfold goX at h
 split at h
 ·rename_i c1 hc; exact Qks (by rw [hc]; rfl) (g (by unfold gg; rw [hc]; exact h))
 ·cases h
theorem Q58 {n:Nat} (h:goF P n c=true) (g:(gg P n c).free=true→Gl P Ω (gg P n c)):Gl P Ω c:=by
 unfold goF at h
 split at h
 ·rename_i c1 hc; exact Qks (by rw [hc]; rfl) (g (by unfold gg; rw [hc]; exact h))
 ·cases h
theorem Qb0 (h:c.isO=true) (g:RW P c.rd c.base c.o c.d c.i c.st (Phi P Ω c.fr c.rd c.base)):Gl P Ω c:=by
 obtain ⟨pos,fr,st,rd,b⟩:=c
 cases pos with
 | ops o d i=>exact g
 | _=>cases h
theorem Q5r (h:c.isX=true) (g:WP P c.rd c.base c.x c.st (Phi P Ω c.fr c.rd c.base)):Gl P Ω c:=by
 obtain ⟨pos,fr,st,rd,b⟩:=c
 cases pos with
 | code x=>exact g
 | _=>cases h
theorem Q7e {S:St} (h:c.free=true) (hw:Wk P c.base c.st S) (g:Gl P Ω (c.to S)):Gl P Ω c:=by
 obtain ⟨pos,fr,st,rd,b⟩:=c
 cases pos with
 | code x=>exact Q4g hw g
 | ops o d i =>
  cases d with
  | none=>exact Q4e hw g
  | some _=>cases h
 | out _=>cases h
 | lw x=>exact Qkf hw g
end
def Cf.cut (j:Nat) (c:Cf):Cf:=match c.pos with | .code (.region _ o true)=>⟨.ops (o.extract 0 j) (some []) 0,.cut o j::c.fr,c.st,c.rd,c.base⟩ | _=>c
def Hl {R:Type} (P:Program) (Ω:R→AOut→Prop) (c:Cf) (D:Option R):Prop:=∀r,D=some r→Gl P (Ω r) c
section
variable {P:Program} {R:Type} {Ω:R→AOut→Prop} {c:Cf} {D A B:Option R}
theorem hnn:Hl P Ω c none:=fun _ h=>by cases h
theorem hbd {α:Type} {o:Option α} {K:α→Option R} (k:∀a,o=some a→Hl P Ω c (K a)):Hl P Ω c (o.bind K):=fun r h=>Ki h fun a q h=>k a q r h
theorem hop (n:Nat) {S:St} {s:List Sk} (rule:∀Φ:AOut→Prop,RW P (gg P n c).rd (gg P n c).base (gg P n c).o (Q6 (gg P n c).d s) ((gg P n c).i+1) S Φ→RW P (gg P n c).rd (gg P n c).base (gg P n c).o (gg P n c).d (gg P n c).i (gg P n c).st Φ)
  (k:Hl P Ω ((gg P n c).nx s S) D) (e:goO P n c=true:=by kernel_rfl):Hl P Ω c D:=fun r h=>Qb5 e fun hO=>Qb0 hO (rule _ (k r h))
theorem hoh (n:Nat) {S:St} {s:List Sk} (rule:∀(Φ:AOut→Prop) (r:R),D=some r→(A=some r→RW P (gg P n c).rd (gg P n c).base (gg P n c).o (Q6 (gg P n c).d s) ((gg P n c).i+1) S Φ)→RW P (gg P n c).rd (gg P n c).base (gg P n c).o (gg P n c).d (gg P n c).i (gg P n c).st Φ)
  (k:Hl P Ω ((gg P n c).nx s S) A) (e:goO P n c=true:=by kernel_rfl):Hl P Ω c D:=fun r h=>Qb5 e fun hO=>Qb0 hO (rule _ r h fun h=>k r h)
theorem hwk (n:Nat) {S:St} (w:Wk P (gg P n c).base (gg P n c).st S) (k:Hl P Ω ((gg P n c).to S) D) (e:goF P n c=true:=by kernel_rfl):Hl P Ω c D:=fun r h=>Q58 e fun hF=>Q7e hF w (k r h)
theorem hbq (n:Nat) (ts:List Nat) {b:Bool} (k:b=true→Hl P Ω ((gg P n c).to (pB ts true (gg P n c).st)) A) (k':b=false→Hl P Ω ((gg P n c).to (pB ts false (gg P n c).st)) B)
  (e:(go P n c).isSome=true:=by kernel_rfl) (hS:(gg P n c).st=pB ts b (gg P n c).st:=by kernel_rfl):Hl P Ω c (if b=true then A else B):=fun r h=>Qks e (by
 have ht:gg P n c=(gg P n c).to (pB ts b (gg P n c).st):=by rw [←hS]; rfl
 rw [ht]
 cases b with
 | true=>exact k rfl r (by simpa using h)
 | false=>exact k' rfl r (by simpa using h))
theorem hbr (n:Nat) (ts:List Nat) {b:Bool} (k:Hl P Ω ((gg P n c).to (pB ts true (gg P n c).st)) A) (k':Hl P Ω ((gg P n c).to (pB ts false (gg P n c).st)) B)
  (e:(go P n c).isSome=true:=by kernel_rfl) (hS:(gg P n c).st=pB ts b (gg P n c).st:=by kernel_rfl):Hl P Ω c (if b=true then A else B):=hbq n ts (fun _=>k) (fun _=>k') e hS
theorem hkb (n:Nat) (ts:List Nat) {b b':Bool} (hb:b=b') (k:Hl P Ω ((gg P n c).to (pB ts b' (gg P n c).st)) D) (e:(go P n c).isSome=true:=by kernel_rfl) (hS:(gg P n c).st=pB ts b (gg P n c).st:=by kernel_rfl):Hl P Ω c D:=fun r h=>Qks e (by
 have ht:gg P n c=(gg P n c).to (pB ts b (gg P n c).st):=by rw [←hS]; rfl
 rw [ht,hb]; exact k r h)
theorem hkn (n:Nat) {α:Type} {x y:α} (S:α→St) (hb:x=y) (k:Hl P Ω ((gg P n c).to (S y)) D) (e:(go P n c).isSome=true:=by kernel_rfl) (hS:(gg P n c).st=S x:=by kernel_rfl):Hl P Ω c D:=fun r h=>Qks e (by
 have ht:gg P n c=(gg P n c).to (S x):=by rw [←hS]; rfl
 rw [ht,hb]; exact k r h)
theorem hkl (n:Nat) (ts:List Nat) {x y:Nat} (hb:x=y) (k:Hl P Ω ((gg P n c).to (pL ts y (gg P n c).st)) D) (e:(go P n c).isSome=true:=by kernel_rfl) (hS:(gg P n c).st=pL ts x (gg P n c).st:=by kernel_rfl):Hl P Ω c D:=hkn n (fun x=>pL ts x (gg P n c).st) hb k e hS
theorem ls {α:Type} (l:List α) (i:Nat) (a:α):l.length=(l.set i a).length:=by simp
theorem hqi (n:Nat) {x m:Int} (S:Int→St) (k:x=m→Hl P Ω ((gg P n c).to (S m)) A) (k':x≠m→Hl P Ω (gg P n c) B) (e:(go P n c).isSome=true:=by kernel_rfl) (hS:(gg P n c).st=S x:=by kernel_rfl):Hl P Ω c (if x=m then A else B):=fun r h=>Qks e (by
 by_cases hx:x=m
 ·have ht:gg P n c=(gg P n c).to (S x):=by rw [←hS]; rfl
  rw [ht,hx]; exact k hx r (by simpa [hx] using h)
 ·exact k' hx r (by simpa [hx] using h))
theorem hqe (n:Nat) {x m:Int} (S:Int→St) (k:Hl P Ω ((gg P n c).to (S m)) A) (e:(go P n c).isSome=true:=by kernel_rfl) (hS:(gg P n c).st=S x:=by kernel_rfl):Hl P Ω c (if x=m then A else none):=hqi n S (fun _=>k) (fun _=>hnn) e hS
structure Wt where
 i:Nat
 n:Nat
 xs:List AV
 ys:List AV
 h:i+n≤xs.length∧(xs.drop i).take n=ys
def F {α:Type} (enc:α→AV) (l:List α):Option Wt:=some ⟨0,l.length,l.map enc,l.map enc,by simp [List.take_of_length_le]⟩
def Fp {α:Type} (enc:α→AV) (l:List α) {a b:Int} (h:0≤a∧a≤b∧b≤l.length):Option Wt:=some ⟨a.toNat,b.toNat - a.toNat,l.map enc,(sub l a b).map enc,by
 refine ⟨by simp; omega,?_⟩
 simp [sub,List.map_take,List.map_drop]⟩
def Qjb (f:AV→List (Option Wt)→Option (AV × List Nat × List ((Nat × Nat × List AV) × Wt) × List (Option Wt))):List AV→List (Option Wt)→Option (List AV × List Nat × List ((Nat × Nat × List AV) × Wt) × List (Option Wt))
 | [],ws=>some ([],[],[],ws)
 | x::xs,ws=>match f x ws with
  | some (y,a,e,ws1)=>match Qjb f xs ws1 with
   | some (ys,b,e',ws2)=>some (y::ys,a++b,e++e',ws2)
   | none=>none
  | none=>none
def snW (σ:Sto):Nat → AV→List (Option Wt)→Option (AV × List Nat × List ((Nat × Nat × List AV) × Wt) × List (Option Wt))
 | 0,_,_=>none
 | d+1,a,ws=>match a with
  | .ref o i n=>match ws with
   | some w::ws=>match σ o with
    | some (.row _ _ true fl _ xs)=>some (.lst fl w.ys,[o],[((i,n,xs),w)],ws)
    | _=>none
   | ws=>match Qw σ (d+1) (.ref o i n) with
    | some (y,ids)=>some (y,ids,[],ws.tail)
    | none=>none
  | .agg cs=>match Qjb (snW σ d) cs ws with | some (ys,r)=>some (.agg ys,r) | none=>none
  | .tup cs=>match Qjb (snW σ d) cs ws with | some (ys,r)=>some (.tup ys,r) | none=>none
  | .ptr o i c=>match ws with
   | some w::ws=>match σ o with
    | some (.row _ _ _ _ _ xs)=>match Qjb (snW σ d) xs (some w::ws) with
     | some (ys,ids,e,ws')=>match ys[i]? with
      | some y=>some (.fz (y.flat.drop c),o::ids,e,ws')
      | none=>none
     | none=>none
    | _=>none
   | ws=>match Qw σ (d+1) (.ptr o i c) with
    | some (y,ids)=>some (y,ids,[],ws)
    | none=>none
  | .fn f a b=>match ws with
   | some w::ws=>match Qjb (snW σ d) a (some w::ws) with
    | some (x,i,e,ws1)=>match Qjb (snW σ d) b ws1 with
     | some (y,j,e',ws2)=>some (.fn f x y,i++j,e++e',ws2)
     | none=>none
    | none=>none
   | ws=>match Qw σ (d+1) (.fn f a b) with
    | some (y,ids)=>some (y,ids,[],ws)
    | none=>none
  | a=>match Qw σ (d+1) a with
   | some (y,ids)=>some (y,ids,[],ws)
   | none=>none
def eqW (e:List ((Nat × Nat × List AV) × Wt)):Prop:=e.map (·.1)=e.map fun p=>(p.2.i,p.2.n,p.2.xs)
theorem Qk1 {a b:List ((Nat × Nat × List AV) × Wt)} (h:eqW (a++b)):eqW a∧eqW b:=by
 unfold eqW at h ⊢
 rw [List.map_append,List.map_append] at h
 exact List.append_inj h (by simp)
theorem Qdq {f:AV→List (Option Wt)→Option (AV × List Nat × List ((Nat × Nat × List AV) × Wt) × List (Option Wt))} {g:AV→Option (AV × List Nat)}
  (hf:∀x ws y a e ws',f x ws=some (y,a,e,ws')→eqW e→g x=some (y,a)):∀(xs:List AV) (ws:List (Option Wt)) ys b e ws',Qjb f xs ws=some (ys,b,e,ws')→eqW e→Qy g xs=some (ys,b)
 | [],ws,ys,b,e,ws',h,he=>by simp only [Qjb,Option.some.injEq,Prod.mk.injEq] at h; obtain ⟨rfl,rfl,rfl,rfl⟩:=h; rfl
 | x::xs,ws,ys,b,e,ws',h,he=>by
  simp only [Qjb] at h
  split at h
  ·rename_i y a e1 ws1 h1
   split at h
   ·rename_i ys2 b2 e2 ws2 h2
    simp only [Option.some.injEq,Prod.mk.injEq] at h
    obtain ⟨rfl,rfl,rfl,rfl⟩:=h
    obtain ⟨g1,g2⟩:=Qk1 he
    simp only [Qy,hf _ _ _ _ _ _ h1 g1,Qdq hf xs _ _ _ _ _ h2 g2]
   ·cases h
  ·cases h
theorem Qb4 {σ:Sto}:∀(d:Nat) (x:AV) (ws:List (Option Wt)) y a e ws',snW σ d x ws=some (y,a,e,ws')→eqW e→Qw σ d x=some (y,a)
 | 0,x,ws,y,a,e,ws',h,he=>by cases h
 | d+1,x,ws,y,a,e,ws',h,he=>by
  unfold snW at h
  split at h
  ·rename_i o i n
   split at h
   ·rename_i w ws0
    split at h
    ·rename_i xs hσ
     simp only [Option.some.injEq,Prod.mk.injEq] at h
     obtain ⟨rfl,rfl,rfl,rfl⟩:=h
     simp only [eqW,List.map_cons,List.map_nil,List.cons.injEq,Prod.mk.injEq,and_true] at he
     obtain ⟨e1,e2,e3⟩:=he
     subst e1 e2 e3
     simp [Qw,hσ,w.h.1,w.h.2]
    ·cases h
   ·split at h
    ·rename_i hs
     simp only [Option.some.injEq,Prod.mk.injEq] at h
     obtain ⟨rfl,rfl,rfl,rfl⟩:=h; exact hs
    ·cases h
  ·split at h
   ·rename_i ys r hm
    simp only [Option.some.injEq,Prod.mk.injEq] at h
    obtain ⟨rfl,rfl⟩:=h
    have:=Qdq (Qb4 d) _ _ _ _ _ _ hm he
    simp only [Qw,this]
   ·cases h
  ·split at h
   ·rename_i ys r hm
    simp only [Option.some.injEq,Prod.mk.injEq] at h
    obtain ⟨rfl,rfl⟩:=h
    have:=Qdq (Qb4 d) _ _ _ _ _ _ hm he
    simp only [Qw,this]
   ·cases h
  ·split at h
   ·split at h
    ·rename_i hσ
     split at h
     ·rename_i hm
      split at h
      ·rename_i y hy
       simp only [Option.some.injEq,Prod.mk.injEq] at h
       obtain ⟨rfl,rfl,rfl,rfl⟩:=h
       have:=Qdq (Qb4 d) _ _ _ _ _ _ hm he
       simp only [Qw,hσ,this,hy]
      ·cases h
     ·cases h
    ·cases h
   ·split at h
    ·rename_i hs
     simp only [Option.some.injEq,Prod.mk.injEq] at h
     obtain ⟨rfl,rfl,rfl,rfl⟩:=h; exact hs
    ·cases h
  ·split at h
   ·split at h
    ·rename_i hm
     split at h
     ·rename_i hm2
      simp only [Option.some.injEq,Prod.mk.injEq] at h
      obtain ⟨rfl,rfl,rfl,rfl⟩:=h
      obtain ⟨g1,g2⟩:=Qk1 he
      have h1:=Qdq (Qb4 d) _ _ _ _ _ _ hm g1
      have h2:=Qdq (Qb4 d) _ _ _ _ _ _ hm2 g2
      simp only [Qw,h1,h2]
     ·cases h
    ·cases h
   ·split at h
    ·rename_i hs
     simp only [Option.some.injEq,Prod.mk.injEq] at h
     obtain ⟨rfl,rfl,rfl,rfl⟩:=h; exact hs
    ·cases h
  ·split at h
   ·rename_i hs
    simp only [Option.some.injEq,Prod.mk.injEq] at h
    obtain ⟨rfl,rfl,rfl,rfl⟩:=h; exact hs
   ·cases h
noncomputable def Cf.sn (c:Cf) (ws:List (Option Wt)):Option (List AV × List Nat × List ((Nat × Nat × List AV) × Wt) × List (Option Wt)):=match Z1 c.o c.i c.st with
 | some (_,as0)=>Qjb (snW c.st.sto Qq) as0 ws
 | none=>none
noncomputable def Cf.ids (c:Cf) (ws:List (Option Wt)):List Nat := match c.sn ws with | some x=>x.2.1 | none=>[]
noncomputable def Cf.eqs (c:Cf) (ws:List (Option Wt)):List ((Nat × Nat × List AV) × Wt):=match c.sn ws with | some x=>x.2.2.1 | none=>[]
noncomputable def Cf.us (c:Cf) (ws:List (Option Wt)):Option (List AV):=(c.sn ws).map (·.1)
noncomputable def Cf.cl (c:Cf) (ws:List (Option Wt)) (r:AV) (objs:List AObj):Cf:=c.nx [Qjv c.st (c.ids ws) r objs] (gt0 (Qd4 c.o c.i c.st (c.ids ws) r objs))
theorem hcl (n:Nat) (ws:List (Option Wt)) {α:Type} {G:Option α} {K:α→Option R} {f:FuncId} {us:List AV} {rv:α→AV} {ro:α→List AObj} (C:∀x,G=some x→Qx P f us (.ret (rv x) (ro x)))
  (k:∀x,G=some x→Hl P Ω ((gg P n c).cl ws (rv x) (ro x)) (K x)) (e:goO P n c=true:=by kernel_rfl) (hb:Qgs P f=true:=by kernel_rfl)
  (hi:(Z1 (gg P n c).o (gg P n c).i (gg P n c).st).map (·.1)=some f:=by kernel_rfl) (hu:(gg P n c).us ws=some us:=by kernel_rfl) (hw:((gg P n c).eqs ws).map (·.1)=((gg P n c).eqs ws).map (fun p=>(p.2.i,p.2.n,p.2.xs)):=by kernel_rfl)
  (hS:∀x,(Qd4 (gg P n c).o (gg P n c).i (gg P n c).st ((gg P n c).ids ws) (rv x) (ro x)).isSome=true:=by (intro _; kernel_rfl)):Hl P Ω c (G.bind K):=fun r h=>Qb5 e fun hO=>Qb0 hO (by
 generalize gg P n c=c' at *
 have hsn:∃as0,Z1 c'.o c'.i c'.st=some (f,as0)∧Qy (Qw c'.st.sto Qq) as0=some (us,c'.ids ws):=by
  cases hc:Z1 c'.o c'.i c'.st with
  | none=>rw [hc] at hi; cases hi
  | some y =>
   obtain ⟨g,as0⟩:=y
   rw [hc] at hi
   simp only [Option.map_some,Option.some.injEq] at hi
   subst hi
   refine ⟨as0,rfl,?_⟩
   unfold Cf.us at hu
   unfold Cf.ids; unfold Cf.eqs at hw
   cases hs:c'.sn ws with
   | none=>rw [hs] at hu; cases hu
   | some z =>
    obtain ⟨ys,ids,es,ws'⟩:=z
    rw [hs] at hu hw
    simp only [Option.map_some,Option.some.injEq] at hu
    subst hu
    unfold Cf.sn at hs
    rw [hc] at hs
    exact Qdq (Qb4 Qq) _ _ _ _ _ _ hs hw
 obtain ⟨as0,h1,h2⟩:=hsn
 exact Qtm h1 hb h2 C (fun x=>gE (hS x)) h fun x q h=>k x q r h)
theorem hcn (n:Nat) (ws:List (Option Wt)) {α:Type} {G:Option (List α)} {B:α→List α→Option R} {f:FuncId} {us:List AV} {fl:Bool} {enc:α→AV} (C:∀x,G=some x→Qx P f us (.ret (nlE fl enc x) []))
  (k:Hl P Ω ((gg P n c).cl ws .nils []) A) (k':∀a t,Hl P Ω ((gg P n c).cl ws (.lst fl ((a::t).map enc)) []) (B a t)) (e:goO P n c=true:=by kernel_rfl) (hb:Qgs P f=true:=by kernel_rfl)
  (hi:(Z1 (gg P n c).o (gg P n c).i (gg P n c).st).map (·.1)=some f:=by kernel_rfl) (hu:(gg P n c).us ws=some us:=by kernel_rfl) (hw:((gg P n c).eqs ws).map (·.1)=((gg P n c).eqs ws).map (fun p=>(p.2.i,p.2.n,p.2.xs)):=by kernel_rfl)
  (h0:(Qd4 (gg P n c).o (gg P n c).i (gg P n c).st ((gg P n c).ids ws) .nils []).isSome=true:=by kernel_rfl)
  (h1:∀a t,(Qd4 (gg P n c).o (gg P n c).i (gg P n c).st ((gg P n c).ids ws) (.lst fl ((a::t).map enc)) []).isSome=true:=by (intro _ _; kernel_rfl)):Hl P Ω c (G.bind fun x=>Q35 x A B):=fun r h=>Qb5 e fun hO=>Qb0 hO (by
 generalize gg P n c=c' at *
 have hsn:∃as0,Z1 c'.o c'.i c'.st=some (f,as0)∧Qy (Qw c'.st.sto Qq) as0=some (us,c'.ids ws):=by
  cases hc:Z1 c'.o c'.i c'.st with
  | none=>rw [hc] at hi; cases hi
  | some y =>
   obtain ⟨g,as0⟩:=y
   rw [hc] at hi
   simp only [Option.map_some,Option.some.injEq] at hi
   subst hi
   refine ⟨as0,rfl,?_⟩
   unfold Cf.us at hu
   unfold Cf.ids; unfold Cf.eqs at hw
   cases hs:c'.sn ws with
   | none=>rw [hs] at hu; cases hu
   | some z =>
    obtain ⟨ys,ids,es,ws'⟩:=z
    rw [hs] at hu hw
    simp only [Option.map_some,Option.some.injEq] at hu
    subst hu
    unfold Cf.sn at hs
    rw [hc] at hs
    exact Qdq (Qb4 Qq) _ _ _ _ _ _ hs hw
 obtain ⟨as0,g1,g2⟩:=hsn
 exact Q6c g1 hb g2 C (gE h0) (fun a t=>gE (h1 a t)) h (fun h=>k r h) fun a t h=>k' a t r h)
theorem hoa (n:Nat) {α:Type} {G:Option α} {K:α→Option R} {S:α→St} {s:α→List Sk}
  (rule:∀(Φ:AOut→Prop) (r:R),G.bind K=some r→(∀x,G=some x→K x=some r→RW P (gg P n c).rd (gg P n c).base (gg P n c).o (Q6 (gg P n c).d (s x)) ((gg P n c).i+1) (S x) Φ)→RW P (gg P n c).rd (gg P n c).base (gg P n c).o (gg P n c).d (gg P n c).i (gg P n c).st Φ)
  (k:∀x,G=some x→Hl P Ω ((gg P n c).nx (s x) (S x)) (K x)) (e:goO P n c=true:=by kernel_rfl):Hl P Ω c (G.bind K):=fun r h=>Qb5 e fun hO=>Qb0 hO (rule _ r h fun x q h=>k x q r h)
theorem hob (n:Nat) {α:Type} {G:Option α} {K:α→Option R} {S:α→St} {s:α→List Sk}
  (rule:∀(Φ:AOut→Prop) (r:R),G.bind K=some r→(∀x,K x=some r→RW P (gg P n c).rd (gg P n c).base (gg P n c).o (Q6 (gg P n c).d (s x)) ((gg P n c).i+1) (S x) Φ)→RW P (gg P n c).rd (gg P n c).base (gg P n c).o (gg P n c).d (gg P n c).i (gg P n c).st Φ)
  (k:∀x,Hl P Ω ((gg P n c).nx (s x) (S x)) (K x)) (e:goO P n c=true:=by kernel_rfl):Hl P Ω c (G.bind K):=fun r h=>Qb5 e fun hO=>Qb0 hO (rule _ r h fun x h=>k x r h)
theorem hoq (n:Nat) {C:Prop} {S:St} {s:List Sk} (rule:∀(Φ:AOut→Prop) (r:R),D=some r→(C→A=some r→RW P (gg P n c).rd (gg P n c).base (gg P n c).o (Q6 (gg P n c).d s) ((gg P n c).i+1) S Φ)→RW P (gg P n c).rd (gg P n c).base (gg P n c).o (gg P n c).d (gg P n c).i (gg P n c).st Φ)
  (k:C→Hl P Ω ((gg P n c).nx s S) A) (e:goO P n c=true:=by kernel_rfl):Hl P Ω c D:=fun r h=>Qb5 e fun hO=>Qb0 hO (rule _ r h fun q h=>k q r h)
def RdI {σ ρ:Type} (P:Program) (base:Nat) (I:σ→St) (E:ρ→Xt × St) (o:Qm σ ρ):AOut→Prop:=Qff P base I (fun v out=>out=.go (E v).1 (E v).2) o
def Cf.lb (c:Cf):Code:=match c.x with | .loop x=>x | _=>.skip
noncomputable def goL (P:Program) (n:Nat) (c:Cf):Bool:=match go P n c with | some c=>(match c.pos with | .code (.loop _)=>true | _=>false) | none=>false
def Cf.at' (c:Cf) (x:Code) (S:St):Cf:=⟨.code x,[],S,c.rd,c.base⟩
def Cf.ex (c:Cf) (y:Xt × St):Cf:=⟨.out y.1,c.fr,y.2,c.rd,c.base⟩
theorem Q0f {n:Nat} (h:goL P n c=true) {Ψ:AOut→Prop} (g:WP P (gg P n c).rd (gg P n c).base (.loop (gg P n c).lb) (gg P n c).st (Phi P Ψ (gg P n c).fr (gg P n c).rd (gg P n c).base)):Gl P Ψ c:=by
 unfold goL at h
 split at h
 ·rename_i c1 hc
  have hg:gg P n c=c1:=by unfold gg; rw [hc]
  rw [hg] at g
  refine Qkk n c c1 hc ?_
  obtain ⟨pos,fr,st,rd,b⟩:=c1
  cases pos with
  | code x=>cases x <;> first | exact g | cases h
  | _=>cases h
 ·cases h
theorem hlp (n:Nat) {σ ρ:Type} {N:Nat} {body:σ→Option (Qm σ ρ)} {K:ρ→Option R} {s0:σ} (I:σ→St) (E:ρ→Xt × St) (w:Wk P (gg P n c).base (gg P n c).st (I s0))
  (b:∀s,Hl P (RdI P (gg P n c).base I E) ((gg P n c).at' (gg P n c).lb (I s)) (body s)) (k:∀x,Hl P Ω ((gg P n c).ex (E x)) (K x)) (e:goL P n c=true:=by kernel_rfl):Hl P Ω c ((Qd N body s0).bind K):=fun r h =>
 Q0f e (Qvh s0 w h (fun s o ho=>b s o ho) fun x hx out ho=>by subst ho; exact k x r hx)
theorem hsm {α β:Type} {D:α ⊕ β→Option R} {C:α ⊕ β→Cf} (k:∀x,Hl P Ω (C (.inl x)) (D (.inl x))) (k':∀x,Hl P Ω (C (.inr x)) (D (.inr x))):∀x,Hl P Ω (C x) (D x)
 | .inl x=>k x
 | .inr x=>k' x
theorem wkv {base:Nat} {st:St} {α:Type} {x y:α} (S:α→St) (hb:x=y) (hS:st=S x:=by kernel_rfl):Wk P base st (S y):=by rw [hS,hb]; exact Qx0
theorem wz {base:Nat} {st S:St} (keep:List Nat) (h:Qez base (S.slots.map (·.1)) keep st=some S:=by kernel_rfl):Wk P base st S:=Zd h
theorem wl {base:Nat} {st:St} (live keep:List Nat) (h:(Qez base live keep st).isSome=true:=by kernel_rfl):Wk P base st (gt0 (Qez base live keep st)):=Zd (gE h)
noncomputable def goN (P:Program) (n:Nat) (c:Cf):Bool:=match go P n c with | some ⟨.out .normal,[],_,_,_⟩=>true | _=>false
noncomputable def goE (P:Program) (n:Nat) (c:Cf):Option AOut:=match go P n c with | some ⟨.out e,[],st,_,_⟩=>some (.go e st) | _=>none
theorem hnx (n:Nat) {σ ρ:Type} {b0:Nat} {I:σ→St} {E:ρ→Xt × St} {s':σ} (w:Wk P b0 (gg P n c).st (I s')) (e:goN P n c=true:=by kernel_rfl):Hl P (RdI P b0 I E) c (some (.next s')):=fun r h=>by
 cases h
 unfold goN at e
 split at e
 ·rename_i st rd b hc
  refine Qkk n c _ hc ⟨_,rfl,?_⟩
  have:(gg P n c).st=st:=by unfold gg; rw [hc]
  rw [←this]; exact w
 ·cases e
theorem hdn (n:Nat) {σ ρ:Type} {b0:Nat} {I:σ→St} {E:ρ→Xt × St} {v:ρ} (e:goE P n c=some (.go (E v).1 (E v).2):=by kernel_rfl) (hn:(AOut.go (E v).1 (E v).2).normal=false:=by kernel_rfl):Hl P (RdI P b0 I E) c (some (.done v)):=fun r h=>by
 cases h
 unfold goE at e
 split at e
 ·rename_i ex st rd b hc
  cases e
  exact Qkk n c _ hc ⟨rfl,hn⟩
 ·cases e
theorem hdx (n:Nat) {σ ρ:Type} {b0:Nat} {I:σ→St} {E:ρ→Xt × St} {v:ρ} (w:Wk P (gg P n c).base (gg P n c).st (E v).2) (f:goF P n c=true:=by kernel_rfl) (e:goE P 1 ((gg P n c).to (E v).2)=some (.go (E v).1 (E v).2):=by kernel_rfl)
  (hn:(AOut.go (E v).1 (E v).2).normal=false:=by kernel_rfl):Hl P (RdI P b0 I E) c (some (.done v)):=hwk n w (hdn 1 e hn) f
theorem hrt (n:Nat) {fn:Func} {hss:List (List LK)} {rv:R→AV} {ro:R→List AObj} {v:R} (e:(goE P n c).bind (Qc8 P fn hss)=some (rv v,ro v):=by kernel_rfl):Hl P (fun x out=>Qc8 P fn hss out=some (rv x,ro x)) c (some v):=fun r h=>by
 cases h
 unfold goE at e
 split at e
 ·rename_i ex st rd b hc
  exact Qkk n c _ hc e
 ·cases e
def Ct {R:Type} (P:Program) (f:FuncId) (args:List AV) (D:Option R) (rv:R→AV) (ro:R→List AObj):Prop:=∀x,D=some x→Qx P f args (.ret (rv x) (ro x))
def Func.cd (fn:Func):Code:=fn.body.getD .skip
theorem hfn (hss:List (List LK)) {f:FuncId} {fn:Func} {args:List AV} (hf:P.funcs[f]?=some fn) {rv:R→AV} {ro:R→List AObj}
  (k:Hl P (fun x out=>Qc8 P fn hss out=some (rv x,ro x)) ⟨.code (Func.cd fn),[],st0 fn.ntmps args,none,0⟩ D) (hb:fn.body.isSome=true:=by kernel_rfl) (hn:(fn.name == "runtime.NumGoroutine")=false:=by decide +kernel) (hle:Nat.ble args.length fn.ntmps=true:=by kernel_rfl):Ct P f args D rv ro:=fun x h=>by
 cases hc:fn.body with
 | none=>rw [hc] at hb; cases hb
 | some cd=>have:=k x h; simp only [Func.cd,hc] at this; exact Q4o hss hf hc hn hle this
noncomputable def Cf.as (c:Cf):List AV:=match Z1 c.o c.i c.st with | some (_,zs)=>zs | none=>[]
noncomputable def Cf.fid (c:Cf):Option FuncId:=(Z1 c.o c.i c.st).map (·.1)
noncomputable def Cf.il (c:Cf) (fn:Func):Cf:=⟨.code (Func.cd fn),.inl fn c.o c.i c.st c.rd c.base::c.fr,⟨Jv 0 c.as,c.st.objs,fn.ntmps⟩,none,c.st.objs.length⟩
theorem Q16 {f:FuncId} (h:c.fid=some f):Z1 c.o c.i c.st=some (f,c.as):=by
 unfold Cf.fid at h
 unfold Cf.as
 cases hc:Z1 c.o c.i c.st with
 | none=>rw [hc] at h; cases h
 | some y=>rw [hc] at h; simp only [Option.map_some,Option.some.injEq] at h; subst h; rfl
theorem Qzi {fn:Func} (h:fn.body.isSome=true):fn.body=some (Func.cd fn):=by
 unfold Func.cd
 cases hc:fn.body with
 | none=>rw [hc] at h; cases h
 | some x=>rfl
theorem hil (n:Nat) {f:FuncId} {fn:Func} (hf:P.funcs[f]?=some fn) (k:Hl P Ω ((gg P n c).il fn) D) (e:goO P n c=true:=by kernel_rfl) (hi:(gg P n c).fid=some f:=by kernel_rfl) (hd:(gg P n c).d=none:=by kernel_rfl)
  (hb:fn.body.isSome=true:=by kernel_rfl) (hn:(fn.name == "runtime.NumGoroutine")=false:=by decide +kernel) (hle:Nat.ble (gg P n c).as.length fn.ntmps=true:=by kernel_rfl):Hl P Ω c D:=fun r h=>Qb5 e fun hO=>Qb0 hO (by
 rw [hd]; exact Qyi (Q16 hi) hf (Qzi hb) hn hle (k r h))
noncomputable def Cf.rg (c:Cf):Option (FuncId × List AV × List AV × List Tmp × Code × Code):=match c.x with
 | .rangeFunc g ps a b=>match evo (lk c.st.slots) g with
  | some (.fn (.func f) first caps)=>some (f,first,caps,ps.toList,a,b)
  | _=>none
 | _=>none
noncomputable def Cf.rS (c:Cf) (fn:Func):Cf:=match c.rg with
 | some (_,first,caps,ps,a,b)=>⟨.code (Func.cd fn),.rng fn c.st c.rd c.base::c.fr,Qn1 c.st ps a b first caps fn.ntmps,none,c.st.objs.length+1⟩
 | none=>.bad
noncomputable def Cf.rL (c:Cf):Nat := match c.rg with
 | some (_,first,caps,_)=>(first++[AV.yld c.st.objs.length]++caps).length
 | none=>0
theorem hrg (n:Nat) {f:FuncId} {fn:Func} (hf:P.funcs[f]?=some fn) (k:Hl P Ω ((gg P n c).rS fn) D) (e:goX P n c=true:=by kernel_rfl) (hi:(gg P n c).rg.map (·.1)=some f:=by kernel_rfl)
  (hb:fn.body.isSome=true:=by kernel_rfl) (hn:(fn.name == "runtime.NumGoroutine")=false:=by decide +kernel) (hle:Nat.ble (gg P n c).rL fn.ntmps=true:=by kernel_rfl) (hr:Q2t (gg P n c).rd (gg P n c).st.objs=true:=by kernel_rfl):Hl P Ω c D:=fun r h=>Q63 e fun hX=>Q5r hX (by
 have k:=k r h
 generalize gg P n c=c' at *
 cases hc:c'.rg with
 | none=>rw [hc] at hi; cases hi
 | some y =>
  obtain ⟨g,first,caps,ps,a,b⟩:=y
  rw [hc] at hi
  simp only [Option.map_some,Option.some.injEq] at hi
  subst hi
  unfold Cf.rL at hle
  unfold Cf.rS at k
  rw [hc] at hle k
  unfold Cf.rg at hc
  split at hc
  ·rename_i g' ps' a' b' hx
   split at hc
   ·rename_i he
    cases hc
    rw [hx]
    exact Q26 he hf (Qzi hb) hn hle hr k
   ·cases hc
  ·cases hc)
noncomputable def Cf.yi (c:Cf):Option (Nat × Nat × List AV × List (Nat × AV) × List Tmp × Code × Code):=match Qrv c.o c.i c.st with
 | some (l,us)=>match c.st.objs[l]? with
  | some (.loop nt sl ps a b .ready _)=>some (l,nt,us,sl,ps,a,b)
  | _=>none
 | none=>none
noncomputable def Cf.yS (c:Cf):Cf:=match c.yi with
 | some (l,nt,us,sl,ps,a,b)=>⟨.code a,.yA l nt b c.o c.i c.st c.rd c.base::c.fr,⟨Qn5 sl ps us,c.st.objs,nt⟩,some l,c.st.objs.length⟩
 | none=>.bad
noncomputable def Cf.yb (c:Cf):Bool:=match c.yi with
 | some (l,nt,us,sl,ps,a,b)=>Nat.beq us.length ps.length && ps.all fun t=>Nat.blt t nt
 | none=>false
theorem hyl (n:Nat) (k:Hl P Ω (gg P n c).yS D) (e:goO P n c=true:=by kernel_rfl) (hd:(gg P n c).d=none:=by kernel_rfl) (hy:(gg P n c).yb=true:=by kernel_rfl):Hl P Ω c D:=fun r h=>Qb5 e fun hO=>Qb0 hO (by
 have k:=k r h
 generalize gg P n c=c' at *
 rw [hd]
 cases hc:c'.yi with
 | none=>unfold Cf.yb at hy; rw [hc] at hy; cases hy
 | some y =>
  obtain ⟨l,nt,us,sl,ps,a,b⟩:=y
  unfold Cf.yb at hy
  unfold Cf.yS at k
  rw [hc] at hy k
  unfold Cf.yi at hc
  split at hc
  ·rename_i hi
   split at hc
   ·rename_i hl
    cases hc
    exact Q7z hi hl hy k
   ·cases hc
  ·cases hc)
noncomputable def Qkm (t:Nat) (ws:List (Option Wt)) (st:St):Option (Option St × List ((Nat × Nat × List AV) × Wt)):=match lk st.slots t with
 | some x=>match snW st.sto Qq x ws with
  | some (y,ids,es,_)=>some (Qpf t y ids st,es)
  | none=>none
 | none=>none
noncomputable def Qkn (o i:Nat) (ws:List (Option Wt)) (st:St):Option (Option St × List ((Nat × Nat × List AV) × Wt)):=match st.sto o with
 | some (.row _ _ _ _ _ xs)=>match xs[i]? with
  | some x=>match snW st.sto Qq x ws with
   | some (y,ids,es,_)=>if hasN ids o then none else some (Qjx o i y ids st,es)
   | none=>none
  | none=>none
 | _=>none
noncomputable def sn1 (x:Option (Option St × List ((Nat × Nat × List AV) × Wt))):Option St:=match x with | some (s,_)=>s | none=>none
noncomputable def sn2 (x:Option (Option St × List ((Nat × Nat × List AV) × Wt))):List ((Nat × Nat × List AV) × Wt):=match x with | some (_,e)=>e | none=>[]
theorem wsk {base:Nat} {st S:St} (t:Nat) (ws:List (Option Wt)) (h:sn1 (Qkm t ws st)=some S:=by kernel_rfl) (he:(sn2 (Qkm t ws st)).map (·.1)=(sn2 (Qkm t ws st)).map (fun p=>(p.2.i,p.2.n,p.2.xs)):=by kernel_rfl):Wk P base st S:=by
 cases hs:Qkm t ws st with
 | none=>rw [hs] at h; cases h
 | some z =>
  obtain ⟨s,es⟩:=z
  rw [hs] at h he
  unfold Qkm at hs
  split at hs
  ·rename_i x hx
   split at hs
   ·rename_i y ids es' ws' hsn
    cases hs
    exact Q5k t hx (Qb4 Qq _ _ _ _ _ _ hsn he) h
   ·cases hs
  ·cases hs
theorem wsn {base:Nat} {st:St} (t:Nat) (ws:List (Option Wt)) (h:(sn1 (Qkm t ws st)).isSome=true:=by kernel_rfl) (he:(sn2 (Qkm t ws st)).map (·.1)=(sn2 (Qkm t ws st)).map (fun p=>(p.2.i,p.2.n,p.2.xs)):=by kernel_rfl):Wk P base st (gt0 (sn1 (Qkm t ws st))):=wsk t ws (gE h) he
theorem wok {base:Nat} {st S:St} (o i:Nat) (ws:List (Option Wt)) (h:sn1 (Qkn o i ws st)=some S:=by kernel_rfl) (he:(sn2 (Qkn o i ws st)).map (·.1)=(sn2 (Qkn o i ws st)).map (fun p=>(p.2.i,p.2.n,p.2.xs)):=by kernel_rfl):Wk P base st S:=by
 cases hs:Qkn o i ws st with
 | none=>rw [hs] at h; cases h
 | some z =>
  obtain ⟨s,es⟩:=z
  rw [hs] at h he
  unfold Qkn at hs
  split at hs
  ·rename_i ho
   split at hs
   ·rename_i x hx
    split at hs
    ·rename_i y ids es' ws' hsn
     split at hs
     ·cases hs
     ·rename_i hn
      cases hs
      exact Qug o i ho hx (by simpa using hn) (Qb4 Qq _ _ _ _ _ _ hsn he) h
    ·cases hs
   ·cases hs
  ·cases hs
theorem won {base:Nat} {st:St} (o i:Nat) (ws:List (Option Wt)) (h:(sn1 (Qkn o i ws st)).isSome=true:=by kernel_rfl) (he:(sn2 (Qkn o i ws st)).map (·.1)=(sn2 (Qkn o i ws st)).map (fun p=>(p.2.i,p.2.n,p.2.xs)):=by kernel_rfl):Wk P base st (gt0 (sn1 (Qkn o i ws st))):=wok o i ws (gE h) he
noncomputable def Qpb (o i:Nat) (A:AV) (ws:List (Option Wt)) (st:St):Option (Option St × List ((Nat × Nat × List AV) × Wt)):=match snW st.sto Qq A ws with
 | some (y,ids,es,_)=>if hasN ids o then none else some (Qjx o i y ids st,es)
 | none=>none
theorem wcl {base:Nat} {st:St} (o:Nat) (ws:List (Option Wt)) {α:Type} {enc:α→AV} {L:List α} {n:Int} {a:α} {A:AV} {bx ro nr fl:Bool} {w:Nat} (ha:lkI L n=some a) (ho:st.sto o=some (.row bx ro nr fl w (hole enc L n A)):=by kernel_rfl)
  (h:(sn1 (Qpb o n.toNat A ws st)).isSome=true:=by kernel_rfl) (he:(sn2 (Qpb o n.toNat A ws st)).map (·.1)=(sn2 (Qpb o n.toNat A ws st)).map (fun p=>(p.2.i,p.2.n,p.2.xs)):=by kernel_rfl):Wk P base st (gt0 (sn1 (Qpb o n.toNat A ws st))):=by
 have h:=gE h
 revert h he
 generalize gt0 (sn1 (Qpb o n.toNat A ws st))=S
 cases hs:Qpb o n.toNat A ws st with
 | none=>intro _ h; cases h
 | some z =>
  obtain ⟨s,es⟩:=z
  intro he h
  unfold Qpb at hs
  split at hs
  ·rename_i y ids es' ws' hsn
   split at hs
   ·cases hs
   ·rename_i hn
    cases hs
    exact Q30 o ha ho (by simpa using hn) (Qb4 Qq _ _ _ _ _ _ hsn he) h
  ·cases hs
def snP (σ:Sto):List (Nat × AV)→List (Option Wt)→Option (List (Nat × AV) × List Nat × List ((Nat × Nat × List AV) × Wt))
 | [],_=>some ([],[],[])
 | (i,x)::r,ws=>if x.nr then match snP σ r ws with
   | some (ys,b,e)=>some ((i,x)::ys,b,e)
   | none=>none
  else match snW σ Qq x ws with
   | some (y,a,e,ws)=>match snP σ r ws with
    | some (ys,b,e')=>some ((i,y)::ys,a++b,e++e')
    | none=>none
   | none=>none
theorem Qwn {σ:Sto}:∀(ps:List (Nat × AV)) (ws:List (Option Wt)) ys b e,snP σ ps ws=some (ys,b,e)→eqW e→Z5 σ ps=some (ys,b)
 | [],ws,ys,b,e,h,he=>by cases h; rfl
 | (i,x)::r,ws,ys,b,e,h,he=>by
  unfold snP at h
  split at h
  ·rename_i hx
   split at h
   ·rename_i ys2 b2 e2 h2
    cases h
    exact Qwq hx (Qwn r _ _ _ _ h2 he)
   ·cases h
  ·rename_i hx
   split at h
   ·rename_i y a e1 ws1 h1
    split at h
    ·rename_i ys2 b2 e2 h2
     cases h
     obtain ⟨g1,g2⟩:=Qk1 he
     exact Qwp (by simpa using hx) (Qb4 _ _ _ _ _ _ _ h1 g1) (Qwn r _ _ _ _ h2 g2) rfl
    ·cases h
   ·cases h
noncomputable def Cf.bs (P:Program) (c:Cf) (he:List LK) (b:Bool) (ws:List (Option Wt)):Option (St × List (Nat × AObj) × List Nat × List ((Nat × Nat × List AV) × Wt)):=match Qum P c.o c.i c.st with
 | some ps=>match snP c.st.sto ps ws with
  | some (parts,ids,e)=>match Q2i P c.o c.i c.st he b parts ids with
   | some (S,es)=>some (S,es,ids,e)
   | none=>none
  | none=>none
 | none=>none
noncomputable def Cf.bS (P:Program) (c:Cf) (he:List LK) (b:Bool) (ws:List (Option Wt)):Cf:=match c.bs P he b ws with
 | some (S,es,ids,_)=>c.nx [(es.map (·.1),ids)] S
 | none=>.bad
noncomputable def Cf.be (P:Program) (c:Cf) (he:List LK) (b:Bool) (ws:List (Option Wt)):List ((Nat × Nat × List AV) × Wt):=match c.bs P he b ws with
 | some (_,_,_,e)=>e
 | none=>[]
theorem hbs (n:Nat) (he:List LK) (b:Bool) (ws:List (Option Wt)) (k:Hl P Ω ((gg P n c).bS P he b ws) D) (e:goO P n c=true:=by kernel_rfl) (h:((gg P n c).bs P he b ws).isSome=true:=by kernel_rfl)
  (hw:((gg P n c).be P he b ws).map (·.1)=((gg P n c).be P he b ws).map (fun p=>(p.2.i,p.2.n,p.2.xs)):=by kernel_rfl):Hl P Ω c D:=fun r hr=>Qb5 e fun hO=>by
 have k:=k r hr
 revert k h hw
 unfold Cf.bS Cf.be
 generalize gg P n c=c' at *
 cases hs:c'.bs P he b ws with
 | none=>intro h; cases h
 | some z =>
  obtain ⟨S,es,ids,eq⟩:=z
  intro h hw k
  refine Qb0 hO ?_
  unfold Cf.bs at hs
  split at hs
  ·rename_i ps hi
   split at hs
   ·rename_i parts ids' e' hp
    split at hs
    ·rename_i S' es' hS
     cases hs
     exact bsR he b hi (Qwn _ _ _ _ _ hp hw) hS k
    ·cases hs
   ·cases hs
  ·cases hs
def Qnc:Code→List Bool→List Fr→Code × List Fr
 | .seq a b,w::ws,fr=>if w then Qnc b ws fr else Qnc a ws (.seq b::fr)
 | .block id x,_::ws,fr=>Qnc x ws (.blk id::fr)
 | .scope x,_::ws,fr=>Qnc x ws fr
 | .cond _ x y,w::ws,fr=>if w then Qnc y ws fr else Qnc x ws fr
 | c,_,fr=>(c,fr)
noncomputable def atW (P:Program) (fn:Func) (way:List Bool) (S:St):Cf:=settle P 1000 ⟨.code (Qnc (Func.cd fn) way []).1,(Qnc (Func.cd fn) way []).2,S,none,0⟩
theorem hjn (n:Nat) {c':Cf} (h:Hl P Ω c' D) (w:Wk P (gg P n c).base (gg P n c).st c'.st) (f:goF P n c=true:=by kernel_rfl) (e:(gg P n c).to c'.st=c':=by kernel_rfl):Hl P Ω c D:=hwk n w (by rw [e]; exact h) f
def Cf.lc (c:Cf) (S:St):Cf:=⟨.code c.lb,.lp c.lb::c.fr,S,c.rd,c.base⟩
theorem hst (n:Nat) {σ ρ:Type} {N:Nat} {cnd:σ→Bool} {body:σ→Option (Qm σ ρ)} {K:σ ⊕ ρ→Option R} {s0:σ} (I:σ→St) (E:ρ→Xt × St) (w:Wk P (gg P n c).base (gg P n c).st (I s0))
  (b:∀s,Hl P (RdI P (gg P n c).base I E) ((gg P n c).at' (gg P n c).lb (I s)) (body s)) (k1:∀y,Hl P Ω ((gg P n c).lc (I y)) (K (.inl y))) (k2:∀x,Hl P Ω ((gg P n c).ex (E x)) (K (.inr x))) (e:goL P n c=true:=by kernel_rfl):Hl P Ω c ((Qd N (Qbk cnd body) s0).bind K):=fun r h =>
 Q0f e (Q0e s0 w h (fun s o ho=>b s o ho) (fun y hy=>Qha (k1 y r hy)) fun x hx out ho=>by subst ho; exact k2 x r hx)
def Cf.lw (c:Cf):Code:=match c.pos with | .lw x=>x | _=>.skip
noncomputable def Qyq (P:Program) (n:Nat) (c:Cf):Bool:=match go P n c with | some c=>(match c.pos with | .lw _=>true | _=>false) | none=>false
theorem Q41 {n:Nat} (h:Qyq P n c=true) {Ψ:AOut→Prop} (g:LWP P (gg P n c).rd (gg P n c).base (gg P n c).lw (gg P n c).st (Phi P Ψ (gg P n c).fr (gg P n c).rd (gg P n c).base)):Gl P Ψ c:=by
 unfold Qyq at h
 split at h
 ·rename_i c1 hc
  have hg:gg P n c=c1:=by unfold gg; rw [hc]
  rw [hg] at g
  refine Qkk n c c1 hc ?_
  obtain ⟨pos,fr,st,rd,b⟩:=c1
  cases pos with
  | lw x=>exact g
  | _=>cases h
 ·cases h
theorem hlq (n:Nat) {σ ρ:Type} {N:Nat} {body:σ→Option (Qm σ ρ)} {K:ρ→Option R} {s0:σ} (I:σ→St) (E:ρ→Xt × St) (w:Wk P (gg P n c).base (gg P n c).st (I s0))
  (b:∀s,Hl P (RdI P (gg P n c).base I E) ((gg P n c).at' (gg P n c).lw (I s)) (body s)) (k:∀x,Hl P Ω ((gg P n c).ex (E x)) (K x)) (e:Qyq P n c=true:=by kernel_rfl):Hl P Ω c ((Qd N body s0).bind K):=fun r h =>
 Q41 e (Qx7 s0 w h (fun s o ho=>b s o ho) fun x hx out ho=>by subst ho; exact k x r hx)
def Cf.rb (fn:Func) (N:Nat) (S:St):Cf:=⟨.code (Func.cd fn),[],S,none,N⟩
theorem hri (n N:Nat) {σ ρ:Type} {F:σ→Option ρ} {K:ρ→Option R} {s0:σ} {I:σ→St} {E:ρ→St} (eff:ρ→List (Nat × AObj)) (w:List Nat) {f:FuncId} {fn:Func} (hf:P.funcs[f]?=some fn)
  (hA:∀y∈(gg P n c).st.objs.take N,Qga N y) (hA':∀x,∀y∈(E x).objs,Qga N y) (IH:Qln P N (Func.cd fn) I E F)
  (k:∀x,Hl P Ω ((gg P n c).nx [(w,List.range N)] (gt0 (Qmf P fn (gg P n c).o (gg P n c).i (gg P n c).st (eff x) (E x)))) (K x)) (e:goO P n c=true:=by kernel_rfl) (hi:(gg P n c).fid=some f:=by kernel_rfl)
  (hb:fn.body.isSome=true:=by kernel_rfl) (hn:(fn.name == "runtime.NumGoroutine")=false:=by decide +kernel) (hle:Nat.ble (gg P n c).as.length fn.ntmps=true:=by kernel_rfl)
  (h0:(⟨Jv 0 (gg P n c).as,(gg P n c).st.objs.take N,fn.ntmps⟩:St)=I s0:=by kernel_rfl) (hN:Nat.ble N (gg P n c).st.objs.length=true:=by kernel_rfl) (hbig:Nat.ble (gg P n c).st.objs.length BIG=true:=by kernel_rfl) (hlive:((gg P n c).st.objs.take N).all Qtl=true:=by kernel_rfl)
  (hE:∀x,Nat.beq (E x).objs.length N=true:=by (intro _; kernel_rfl)) (hsl:((gg P n c).as.all fun a=>a.ids.all fun o=>Nat.blt o N)=true:=by kernel_rfl) (heff:∀x,Z9 ((gg P n c).st.objs.take N) (eff x)=some (E x).objs:=by (intro _; kernel_rfl))
  (hw:∀x,(eff x).map (·.1)=w:=by (intro _; rfl)) (hwl:(w.all fun o=>Nat.blt o N)=true:=by kernel_rfl) (hS:∀x,(Qmf P fn (gg P n c).o (gg P n c).i (gg P n c).st (eff x) (E x)).isSome=true:=by (intro _; kernel_rfl)):Hl P Ω c ((F s0).bind K):=fun r h=>Qb5 e fun hO=>Qb0 hO
 (Q7v s0 eff _ w (Q16 hi) hf (Qzi hb) hn hle h0 hN hbig hlive hA hE hA' hsl heff hw hwl IH h (fun x=>gE (hS x)) fun x hx=>k x r hx)
end
attribute [irreducible] Hl Gl Phi ctl stp settle go gg goO goX goF goL goN goE Cf.o Cf.d Cf.i Cf.isO Cf.x Cf.isX Cf.free Cf.nx Cf.to Cf.sn Cf.ids Cf.eqs Cf.us Cf.cl Cf.lb Cf.at' Cf.ex Cf.as Cf.fid Cf.il Cf.rg Cf.rS Cf.rL Cf.yi Cf.yS Cf.yb Cf.bs Cf.bS Cf.be Cf.lc Cf.lw Qyq atW Cf.rb RdI Func.cd
end Go.Ab
