/- Rules on plain values. No conditions. -/
import Derived.Test.YtojklbpplceiiaaDoorEng6
set_option linter.all false
namespace Go.Ab
open Go.RowKit
section
variable {P:Program} {rd:Option Nat} {base:Nat} {ops:Array Oper} {st S:St} {Φ:AOut→Prop} {d:Option (List Sk)} {i:Nat} {c:Code}
theorem Qm2 {σ ρ1 ρ2:Type} {body:σ→Option (Qm σ (ρ1 ⊕ ρ2))} {I:σ→St} {H:ρ1→St} {Ex:ρ2→AOut→Prop}
  (stop:∀s y,body s=some (.done (.inl y))→H y=I s)
  (round:∀s o,body s=some o→(∃y,o=.done (.inl y))∨WP P rd base c (I s) (fun out=>match o with
   | .next s'=>∃st1,out=.go .normal st1∧Wk P base st1 (I s')
   | .done (.inl _)=>False
   | .done (.inr x)=>Ex x out∧out.normal=false)) :
  ∀(n:Nat) (s:σ) (x:ρ1 ⊕ ρ2),Qe n body s=some x→(∀y,x=.inl y→LWP P rd base c (H y) Φ)→(∀z,x=.inr z→∀out,Ex z out→Φ out)→LWP P rd base c (I s) Φ
 | 0,s,x,h,_,_=>by cases h
 | n+1,s,x,h,h1,h2=>by
  simp only [Qe] at h
  split at h
  ·rename_i s' hb
   rcases round s _ hb with ⟨y,e⟩ | hr
   ·cases e
   ·refine Qbv (hr.mono fun out ho=>?_)
    obtain ⟨st1,rfl,hw⟩:=ho
    exact Qf4 hw (Qm2 stop round n s' x h h1 h2)
  ·rename_i x' hb
   cases h
   cases x with
   | inl y =>
    have:=h1 y rfl
    rw [stop s y hb] at this
    exact this
   | inr z =>
    rcases round s _ hb with ⟨y,e⟩ | hr
    ·cases e
    ·refine Qbv (hr.mono fun out ho=>?_)
     obtain ⟨g1,g2⟩:=ho
     have g3:=h2 z rfl out g1
     cases out with
     | pan v=>exact g3
     | go e st1=>cases e <;> first | exact g3 | simp [AOut.normal] at g2
  ·cases h
def Qru {σ ρ:Type}:Qm σ ρ→Qm σ (σ ⊕ ρ)
 | .next s=>.next s
 | .done x=>.done (.inr x)
def Qga {σ ρ:Type} (cnd:σ→Bool) (body:σ→Option (Qm σ ρ)) (s:σ):Option (Qm σ (σ ⊕ ρ)):=if cnd s=true then some (.done (.inl s)) else (body s).map Qru
theorem Qpy {σ ρ R:Type} {n:Nat} {cnd:σ→Bool} {body:σ→Option (Qm σ ρ)} {I:σ→St} {Ex:ρ→AOut→Prop} {K:σ ⊕ ρ→Option R} {r:R} (s0:σ) (hw:Wk P base st (I s0)) (h:(Qe n (Qga cnd body) s0).bind K=some r)
  (round:∀s o,body s=some o→WP P rd base c (I s) (Qel P base I Ex o))
  (k1:∀y,K (.inl y)=some r→LWP P rd base c (I y) Φ) (k2:∀z,K (.inr z)=some r→∀out,Ex z out→Φ out):WP P rd base (.loop c) st Φ:=by
 cases hx:Qe n (Qga cnd body) s0 with
 | none=>rw [hx] at h; cases h
 | some x =>
  rw [hx] at h
  have hb:∀s o,Qga cnd body s=some o→(o=.done (.inl s))∨∃o',body s=some o'∧o=Qru o':=fun s o ho=>by
   unfold Qga at ho
   split at ho
   ·cases ho; exact .inl rfl
   ·simp only [Option.map_eq_some_iff] at ho
    obtain ⟨o',e1,e2⟩:=ho
    exact .inr ⟨o',e1,e2.symm⟩
  refine Qn0 (Qf4 hw (Qm2 (H:=I) (Ex:=Ex) (fun s y e=>?_) (fun s o e=>?_) n s0 x hx (fun y e=>?_) (fun z e=>?_)))
  ·rcases hb s _ e with e1 | ⟨o',_,e1⟩
   ·cases e1; rfl
   ·cases o' <;> cases e1
  ·rcases hb s _ e with e1 | ⟨o',e1,e2⟩
   ·exact .inl ⟨s,e1⟩
   ·subst e2
    refine .inr ((round s o' e1).mono fun out ho=>?_)
    cases o' with
    | next s'=>exact ho
    | done x=>exact ho
  ·subst e; exact k1 y h
  ·subst e; exact k2 z h
end
end Go.Ab
namespace Go.Ab
open Go.RowKit
def Qja:AObj→Bool
 | .row _ _ _ _ _ _=>true
 | .loop _ _ _ _ _ _ _=>true
 | .dead=>true
 | _=>false
def Qlc:AObj→Bool
 | .row _ _ _ _ _ _=>true
 | .loop _ _ _ _ _ _ _=>true
 | _=>false
def V7 (N:Nat):AObj→Prop
 | .row _ _ nr _ _ xs=>nr=true∨∀x∈xs,∀y∈x.flat,∀o∈y.ids,o < N
 | .loop _ sl _ _ _ _ _=>∀p∈sl,∀o∈p.2.ids,o < N
 | .dead=>True
 | _=>False
def Qk9 (N:Nat):AObj→Bool
 | .row _ _ nr _ _ xs=>nr || xs.all fun x=>x.flat.all fun y=>y.ids.all fun o=>Nat.blt o N
 | .loop _ sl _ _ _ _ _=>sl.all fun p=>p.2.ids.all fun o=>Nat.blt o N
 | .dead=>true
 | _=>false
theorem Qsm {N:Nat} {x:AObj} (h:Qk9 N x=true):V7 N x:=by
 cases x with
 | row bx ro nr fl w xs =>
  simp only [Qk9,Bool.or_eq_true,List.all_eq_true] at h
  exact h.imp id fun h x hx y hy o ho=>Ya (h x hx y hy o ho)
 | loop nt sl ps as bd st pe =>
  simp only [Qk9,List.all_eq_true] at h
  exact fun p hp o ho=>Ya (h p hp o ho)
 | dead=>trivial
 | fam=>cases h
 | refs=>cases h
theorem Qfw {N:Nat} {x:AObj} (h:V7 N x):Qja x=true:=by cases x <;> first | rfl | exact h.elim
theorem Qob {objs:List AObj} (h:∀x∈objs,Qja x=true) (id:Nat):Vg objs id=none:=by
 unfold Vg
 rw [dif_neg]
 rintro ⟨y,k,i,w,fl,xs,l,_,hk,_⟩
 have:=h _ (List.mem_of_getElem? hk)
 cases this
theorem Qjb {x:AObj} (h:Qja x=true):x.plain=x:=by cases x <;> first | rfl | cases h
theorem Qma {objs:List AObj} (h:∀x∈objs,Qja x=true) (hb:objs.length≤BIG) (id:Nat):sto objs id=objs[id]?:=by
 by_cases hi:id < BIG
 ·rw [Z9 hi]
  cases e:objs[id]? with
  | none=>rfl
  | some x=>simp [Qjb (h x (List.mem_of_getElem? e))]
 ·rw [Qhw (by omega),Qob h,List.getElem?_eq_none (by omega)]
theorem Qmf:∀{l:List (Nat × AV)} {t:Nat} {x:AV},lk l t=some x→∃p∈l,p.2=x
 | [],t,x,h=>by cases h
 | (k,y)::r,t,x,h=>by
  unfold lk at h
  split at h
  ·cases h; exact ⟨(k,y),by simp,rfl⟩
  ·obtain ⟨p,hp,e⟩:=Qmf h
   exact ⟨p,List.mem_cons_of_mem _ hp,e⟩
section
variable {P:Program} {B N:Nat} {W0 W:World} {D:List Nat} {M:CM} {ι:Inj} {σ:Sto}
def Qcy (N:Nat) (ι:Inj) (σ:Sto) (b:Nat):Prop:=∃k p fn sl ps as bd st pe,¬ k < N∧σ k=some (.loop fn sl ps as bd st pe)∧ι k=some p∧p.blk=b
def Jd (N:Nat) (ι:Inj) (σ:Sto) (b o:Nat):Prop:=∃k p bx nr fl w xs j,¬ k < N∧σ k=some (.row bx false nr fl w xs)∧ι k=some p∧p.blk=b∧o=p.base+j∧j < p.cap*w
open Classical in
noncomputable def Qgi (N:Nat) (ι:Inj) (σ:Sto) (W:World) (M:CM):CM :=
 ⟨M.f,M.ok,fun b=>if Qcy N ι σ b then W.heap[b]? else M.blk b,fun b o=>if Jd N ι σ b o then W.cell? ⟨b,o,none⟩ else M.kc b o⟩
theorem Qgq (h:Rel P B W0 D M ι σ W) {b:Nat} (hb:Qcy N ι σ b):M.blk b=none∧∃l,W.heap[b]?=some (Vp l):=by
 obtain ⟨k,p,fn,sl,ps,as,bd,st,pe,_,hk,hp',rfl⟩:=hb
 obtain ⟨q,nt1,hq,hb1,_,tmps,_,hrec,_⟩:=h.loop k _ _ _ _ _ _ _ hk
 rw [hp'] at hq; cases hq
 exact ⟨hb1,_,hrec⟩
theorem Kr (h:Rel P B W0 D M ι σ W) {b o:Nat} (hb:Jd N ι σ b o):M.kc b o=none∧M b o=none∧(∃v,W.cell? ⟨b,o,none⟩=some v)∧W.frozen? ⟨b,o,none⟩=false:=by
 obtain ⟨k,p,bx,nr,fl,w,xs,j,_,hk,hp',rfl,rfl,hj⟩:=hb
 obtain ⟨q,hq,hr⟩:=h.row k _ _ _ _ _ _ hk
 rw [hp'] at hq; cases hq
 have c:=h.cool k bx nr fl w xs p j hk hp' hj
 obtain ⟨o1,o2⟩:=(hr.own rfl).2 j hj
 exact ⟨c.2,o2,Option.isSome_iff_exists.1 o1,c.1⟩
open Classical in
theorem Rel.hide (h:Rel P B W0 D M ι σ W) (hA:∀k x,k < N→σ k=some x→V7 N x) :
  Rel P B W0 D (Qgi N ι σ W M) (fun k=>if k < N then ι k else none) (fun k=>if k < N then σ k else none) W:=by
 have hM1:M.le (Qgi N ι σ W M):=fun _ _ _ h=>h
 have blk1:∀b,(Qgi N ι σ W M).blk b=if Qcy N ι σ b then W.heap[b]? else M.blk b:=fun b=>rfl
 have kc1:∀b o,(Qgi N ι σ W M).kc b o=if Jd N ι σ b o then W.cell? ⟨b,o,none⟩ else M.kc b o:=fun b o=>rfl
 have low:∀{k:Nat} {x:AObj},(if k < N then σ k else none)=some x→k < N∧σ k=some x:=fun {k x} hk=>by
  by_cases e:k < N
  ·rw [if_pos e] at hk; exact ⟨e,hk⟩
  ·rw [if_neg e] at hk; cases hk
 have lowi:∀{k:Nat} {p:Place},k < N→(if k < N then ι k else none)=some p→ι k=some p:=fun e hk=>by rw [if_pos e] at hk; exact hk
 have rep1:∀{v:Value} {y:AV},(∀o∈y.ids,o < N)→Qa M ι v y→Qa (Qgi N ι σ W M) (fun k=>if k < N then ι k else none) v y:=fun hi h=>(h.congr fun o ho=>if_pos (hi o ho)).mono hM1 (Inj.le_refl _)
 refine ⟨h.size,h.below,h.defs,⟨h.agree.cell,fun b x hb=>?_,fun b o v hb=>?_⟩,fun o bx nr fl w xs p k ho hp' hk=>?_,fun o bx ro nr fl w xs ho=>?_,fun o fn sl ps as bd st pe ho=>?_,fun o o' bx nr fl w xs bx' nr' fl' w' xs' p p' hne h1 h2 h3 h4=>?_,fun o o' fn sl ps as bd st pe fn' sl' ps' as' bd' st' pe' p p' hne h1 h2 h3 h4=>?_,fun o ho=>?_⟩
 ·rw [blk1] at hb
  by_cases hd:Qcy N ι σ b
  ·rw [if_pos hd] at hb
   obtain ⟨_,l,hl⟩:=Qgq h hd
   rw [hl] at hb; cases hb
   exact ⟨hl,fun c e f=>Qfi c e f,fun d he=>Qcw (x:=d) (by rw [he])⟩
  ·rw [if_neg hd] at hb; exact h.agree.keep b x hb
 ·rw [kc1] at hb
  by_cases hd:Jd N ι σ b o
  ·rw [if_pos hd] at hb
   exact ⟨hb,(Kr h hd).2.2.2⟩
  ·rw [if_neg hd] at hb; exact h.agree.keepC b o v hb
 ·obtain ⟨l1,ho⟩:=low ho
  have hp':=lowi l1 hp'
  have c:=h.cool o bx nr fl w xs p k ho hp' hk
  refine ⟨c.1,?_⟩
  rw [kc1,if_neg]
  ·exact c.2
  ·rintro ⟨k2,p2,bx2,nr2,fl2,w2,xs2,j2,n2,hk2,hp2,hb2,ho2,hj2⟩
   obtain ⟨q,hq,hr⟩:=h.row o _ _ _ _ _ _ ho
   rw [hp'] at hq; cases hq
   obtain ⟨q,hq,hr2⟩:=h.row k2 _ _ _ _ _ _ hk2
   rw [hp2] at hq; cases hq
   have hpw:=hr.pw
   have hpw2:=hr2.pw
   rcases h.apart o k2 _ _ _ _ _ _ _ _ _ _ _ _ (fun e=>n2 (e ▸ l1)) ho hk2 hp' hp2 with a | a | a
   ·exact a hb2.symm
   ·rw [hpw] at a; omega
   ·rw [hpw2] at a; omega
 ·obtain ⟨l1,ho⟩:=low ho
  obtain ⟨p,hp',hrow⟩:=h.row o bx ro nr fl w xs ho
  refine ⟨p,by rw [if_pos l1]; exact hp',hrow.pw,hrow.pos,hrow.cpos,hrow.len,hrow.shaped,hrow.nr,hrow.fl,fun i j x y hi hj=>?_,hrow.own,fun hro i j x y hi hj=>?_⟩
  ·obtain ⟨v,hv,hrep⟩:=hrow.cells i j x y hi hj
   refine ⟨v,hv,?_⟩
   rcases hA o _ l1 ho with hn | hn
   ·exact (hrep.of_nr (AV.nr_flat (Ql.1 (hrow.nr hn) x (List.mem_of_getElem? hi)) y (List.mem_of_getElem? hj))).mono hM1 (Inj.le_refl _)
   ·exact rep1 (hn x (List.mem_of_getElem? hi) y (List.mem_of_getElem? hj)) hrep
  ·obtain ⟨v,hv,hrep⟩:=hrow.imm hro i j x y hi hj
   exact ⟨v,hv,hrep.mono hM1 (Inj.le_refl _)⟩
 ·obtain ⟨l1,ho⟩:=low ho
  obtain ⟨p,nt1,hp',hb1,hB1,tmps,hsz,hrec,hsl1⟩:=h.loop o fn sl ps as bd st pe ho
  refine ⟨p,nt1,by rw [if_pos l1]; exact hp',?_,hB1,tmps,hsz,hrec,fun t x hx=>?_⟩
  ·rw [blk1,if_neg]
   ·exact hb1
   ·rintro ⟨k,q,fn',sl',ps',as',bd',st',pe',hk,hk',hq,hqb⟩
    exact h.loops o k _ _ _ _ _ _ _ _ _ _ _ _ _ _ _ _ (fun e=>hk (e ▸ l1)) ho hk' hp' hq hqb.symm
  ·obtain ⟨q,hq,rfl⟩:=Qmf hx
   exact rep1 (hA o _ l1 ho q hq) (hsl1 t _ hx)
 ·obtain ⟨l1,h1⟩:=low h1
  obtain ⟨l2,h2⟩:=low h2
  exact h.apart o o' bx nr fl w xs bx' nr' fl' w' xs' p p' hne h1 h2 (lowi l1 h3) (lowi l2 h4)
 ·obtain ⟨l1,h1⟩:=low h1
  obtain ⟨l2,h2⟩:=low h2
  exact h.loops o o' fn sl ps as bd st pe fn' sl' ps' as' bd' st' pe' p p' hne h1 h2 (lowi l1 h3) (lowi l2 h4)
 ·by_cases l1:o < N
  ·rw [if_pos l1] at ho ⊢; exact h.used o ho
  ·exact .inl (if_neg l1)
open Classical in
theorem Rel.unhide {W':World} {M':CM} {ι':Inj} {σ':Sto} (h:Rel P B W0 D M ι σ W) (h':Rel P B W0 D M' ι' (fun k=>if k < N then σ' k else none) W') (hG:CM.Grow B (Qgi N ι σ W M) M') (hι:∀k,k < N→ι' k=ι k)
  (hA:∀k x,k < N→σ' k=some x→V7 N x) :
  ∃M2:CM,CM.Grow B M M2∧M'.le M2∧Rel P B W0 D M2 ι (fun k=>if k < N then σ' k else σ k) W':=by
 let M2:CM:=⟨M'.f,M'.ok,M.blk,M.kc⟩
 have hM2:M'.le M2:=fun _ _ _ h=>h
 have hMM2:M.le M2:=fun b o v h=>hG.le b o v h
 have blk':∀b,M'.blk b=if Qcy N ι σ b then W.heap[b]? else M.blk b:=fun b=>by rw [hG.keep]; rfl
 have kc':∀b o,M'.kc b o=if Jd N ι σ b o then W.cell? ⟨b,o,none⟩ else M.kc b o:=fun b o=>by rw [hG.keepC]; rfl
 have notB:∀b,M'.blk b=none→¬ Qcy N ι σ b∧M.blk b=none:=fun b hb=>by
  rw [blk'] at hb
  by_cases hd:Qcy N ι σ b
  ·rw [if_pos hd] at hb
   obtain ⟨_,l,hl⟩:=Qgq h hd
   rw [hl] at hb; cases hb
  ·rw [if_neg hd] at hb; exact ⟨hd,hb⟩
 have notC:∀b o,M'.kc b o=none→¬ Jd N ι σ b o∧M.kc b o=none:=fun b o hb=>by
  rw [kc'] at hb
  by_cases hd:Jd N ι σ b o
  ·rw [if_pos hd] at hb
   obtain ⟨_,_,⟨v,hv⟩,_⟩:=Kr h hd
   rw [hv] at hb; cases hb
  ·rw [if_neg hd] at hb; exact ⟨hd,hb⟩
 have low:∀{k:Nat} {x:AObj},k < N→(if k < N then σ' k else σ k)=some x→(if k < N then σ' k else none)=some x∧σ' k=some x:=fun e hk=>by
  rw [if_pos e] at hk ⊢; exact ⟨hk,hk⟩
 have high:∀{k:Nat} {x:AObj},¬ k < N→(if k < N then σ' k else σ k)=some x→σ k=some x:=fun e hk=>by rw [if_neg e] at hk; exact hk
 have repl:∀{v:Value} {y:AV},(∀o∈y.ids,o < N)→Qa M' ι' v y→Qa M2 ι v y:=fun hi h=>(h.congr fun o ho=>(hι o (hi o ho)).symm).mono hM2 (Inj.le_refl _)
 refine ⟨M2,⟨hMM2,hG.old,rfl,rfl,fun b o v hv=>?_⟩,hM2,h'.size,h'.below,h'.defs,⟨h'.agree.cell,fun b x hb=>?_,fun b o v hb=>?_⟩,fun o bx nr fl w xs p k ho hp' hk=>?_,fun o bx ro nr fl w xs ho=>?_,fun o fn sl ps as bd st pe ho=>?_,fun o o' bx nr fl w xs bx' nr' fl' w' xs' p p' hne h1 h2 h3 h4=>?_,fun o o' fn sl ps as bd st pe fn' sl' ps' as' bd' st' pe' p p' hne h1 h2 h3 h4=>?_,fun o ho=>?_⟩
 ·by_cases hd:Jd N ι σ b o
  ·rw [(Kr h hd).1] at hv; cases hv
  ·exact hG.keepF b o v (by show (if Jd N ι σ b o then _ else _)=_; rw [if_neg hd]; exact hv)
 ·have hb':M.blk b=some x:=hb
  refine h'.agree.keep b x ?_
  rw [blk']
  by_cases hd:Qcy N ι σ b
  ·rw [(Qgq h hd).1] at hb'; cases hb'
  ·rw [if_neg hd]; exact hb'
 ·have hb':M.kc b o=some v:=hb
  refine h'.agree.keepC b o v ?_
  rw [kc']
  by_cases hd:Jd N ι σ b o
  ·rw [(Kr h hd).1] at hb'; cases hb'
  ·rw [if_neg hd]; exact hb'
 ·by_cases hl:o < N
  ·obtain ⟨ho1,ho2⟩:=low hl ho
   have c:=h'.cool o bx nr fl w xs p k ho1 (by rw [hι o hl]; exact hp') hk
   exact ⟨c.1,(notC _ _ c.2).2⟩
  ·have ho:=high hl ho
   have hd:Jd N ι σ p.blk (p.base+k):=⟨o,p,bx,nr,fl,w,xs,k,hl,ho,hp',rfl,rfl,hk⟩
   obtain ⟨s1,s2,⟨v,hv⟩,s4⟩:=Kr h hd
   exact ⟨(h'.agree.keepC _ _ v (by rw [kc',if_pos hd]; exact hv)).2,s1⟩
 ·by_cases hl:o < N
  ·obtain ⟨ho1,ho2⟩:=low hl ho
   obtain ⟨p,hp',hrow⟩:=h'.row o bx ro nr fl w xs ho1
   refine ⟨p,by rw [←hι o hl]; exact hp',hrow.pw,hrow.pos,hrow.cpos,hrow.len,hrow.shaped,hrow.nr,hrow.fl,fun i j x y hi hj=>?_,hrow.own,fun hro i j x y hi hj=>?_⟩
   ·obtain ⟨v,hv,hrep⟩:=hrow.cells i j x y hi hj
    refine ⟨v,hv,?_⟩
    rcases hA o _ hl ho2 with hn | hn
    ·exact (hrep.of_nr (AV.nr_flat (Ql.1 (hrow.nr hn) x (List.mem_of_getElem? hi)) y (List.mem_of_getElem? hj))).mono hM2 (Inj.le_refl _)
    ·exact repl (hn x (List.mem_of_getElem? hi) y (List.mem_of_getElem? hj)) hrep
   ·obtain ⟨v,hv,hrep⟩:=hrow.imm hro i j x y hi hj
    exact ⟨v,hv,hrep.mono hM2 (Inj.le_refl _)⟩
  ·have ho:=high hl ho
   obtain ⟨p,hp',hrow⟩:=h.row o bx ro nr fl w xs ho
   cases ro with
   | true =>
    have himm:∀(i j:Nat) (x y:AV),xs[i]?=some x→x.flat[j]?=some y→∃v,M2 p.blk (p.base+i*w+j)=some v∧Qa M2 noInj v y:=fun i j x y hi hj=>by
     obtain ⟨v,hv,hrep⟩:=hrow.imm rfl i j x y hi hj
     exact ⟨v,hMM2 _ _ _ hv,hrep.mono hMM2 (Inj.le_refl _)⟩
    refine ⟨p,hp',hrow.pw,hrow.pos,hrow.cpos,hrow.len,hrow.shaped,hrow.nr,hrow.fl,fun i j x y hi hj=>?_,fun h=>(by cases h),fun _=>himm⟩
    obtain ⟨v,hv,hrep⟩:=himm i j x y hi hj
    exact ⟨v,h'.agree.cell _ _ _ hv,hrep.mono (CM.le_refl _) (Inj.noInj_le _)⟩
   | false =>
    have kept:∀k,k < p.cap*w→∀v,W.cell? ⟨p.blk,p.base+k,none⟩=some v→W'.cell? ⟨p.blk,p.base+k,none⟩=some v:=fun k hk v hv =>
     (h'.agree.keepC _ _ v (by rw [kc',if_pos ⟨o,p,bx,nr,fl,w,xs,k,hl,ho,hp',rfl,rfl,hk⟩]; exact hv)).1
    refine ⟨p,hp',hrow.pw,hrow.pos,hrow.cpos,hrow.len,hrow.shaped,hrow.nr,hrow.fl,fun i j x y hi hj=>?_,fun _=>⟨(hrow.own rfl).1,fun k hk=>?_⟩,fun h=>(by cases h)⟩
    ·obtain ⟨v,hv,hrep⟩:=hrow.cells i j x y hi hj
     have hi':=(List.getElem?_eq_some_iff.1 hi).1
     have hj':=(List.getElem?_eq_some_iff.1 hj).1
     rw [(hrow.shaped x (List.mem_of_getElem? hi)).len] at hj'
     have hlt:i*w+j < p.cap*w:=by
      have h1:(i+1)*w≤p.cap*w:=Nat.mul_le_mul_right _ (by have:=hrow.len; omega)
      rw [Nat.succ_mul] at h1; omega
     have:=kept (i*w+j) hlt v (by rw [←Nat.add_assoc]; exact hv)
     exact ⟨v,by rw [Nat.add_assoc]; exact this,hrep.mono hMM2 (Inj.le_refl _)⟩
    ·obtain ⟨o1,o2⟩:=(hrow.own rfl).2 k hk
     obtain ⟨v,hv⟩:=Option.isSome_iff_exists.1 o1
     refine ⟨by rw [kept k hk v hv]; rfl,?_⟩
     have hd:Jd N ι σ p.blk (p.base+k):=⟨o,p,bx,nr,fl,w,xs,k,hl,ho,hp',rfl,rfl,hk⟩
     have:=hG.keepF p.blk (p.base+k) v (by show (if Jd N ι σ p.blk (p.base+k) then _ else _)=_; rw [if_pos hd]; exact hv)
     exact this.trans o2
 ·by_cases hl:o < N
  ·obtain ⟨ho1,ho2⟩:=low hl ho
   obtain ⟨p,nt1,hp',hb1,hB1,tmps,hsz,hrec,hsl1⟩:=h'.loop o fn sl ps as bd st pe ho1
   refine ⟨p,nt1,by rw [←hι o hl]; exact hp',(notB _ hb1).2,hB1,tmps,hsz,hrec,fun t x hx=>?_⟩
   obtain ⟨q,hq,rfl⟩:=Qmf hx
   exact repl (hA o _ hl ho2 q hq) (hsl1 t _ hx)
  ·have ho:=high hl ho
   obtain ⟨p,nt1,hp',hb1,hB1,tmps,hsz,hrec,hsl1⟩:=h.loop o fn sl ps as bd st pe ho
   refine ⟨p,nt1,hp',hb1,hB1,tmps,hsz,?_,fun t x hx=>(hsl1 t x hx).mono hMM2 (Inj.le_refl _)⟩
   exact (h'.agree.keep p.blk _ (by rw [blk',if_pos ⟨o,p,fn,sl,ps,as,bd,st,pe,hl,ho,hp',rfl⟩]; exact hrec)).1
 ·have cellOf:∀{k bx nr fl w xs q},¬ k < N→σ k=some (.row bx false nr fl w xs)→ι k=some q→∀j,j < q.cap*q.w→Jd N ι σ q.blk (q.base+j):=fun {k bx nr fl w xs q} hk h1 hq j hj=>by
   obtain ⟨q',hq',hr⟩:=h.row k _ _ _ _ _ _ h1
   rw [hq] at hq'; cases hq'
   exact ⟨k,q,bx,nr,fl,w,xs,j,hk,h1,hq,rfl,rfl,by rw [←hr.pw]; exact hj⟩
  have free:∀{k bx nr fl w xs q},k < N→(if k < N then σ' k else σ k)=some (.row bx false nr fl w xs)→ι k=some q→∀j,j < q.cap*q.w→¬ Jd N ι σ q.blk (q.base+j):=fun {k bx nr fl w xs q} hk h1 hq j hj=>by
   obtain ⟨h1,_⟩:=low hk h1
   obtain ⟨q',hq',hr⟩:=h'.row k _ _ _ _ _ _ h1
   rw [hι k hk,hq] at hq'; cases hq'
   exact (notC _ _ (h'.cool k bx nr fl w xs q j h1 (by rw [hι k hk]; exact hq) (by rw [←hr.pw]; exact hj)).2).1
  have mixed:∀{k bx nr fl w xs q k2 bx2 nr2 fl2 w2 xs2 q2},k < N→¬ k2 < N→(if k < N then σ' k else σ k)=some (.row bx false nr fl w xs)→(if k2 < N then σ' k2 else σ k2)=some (.row bx2 false nr2 fl2 w2 xs2)→ι k=some q→ι k2=some q2 →
    q.blk≠q2.blk∨q.base+q.cap*q.w≤q2.base∨q2.base+q2.cap*q2.w≤q.base:=fun {k bx nr fl w xs q k2 bx2 nr2 fl2 w2 xs2 q2} l1 l2 h1 h2 h3 h4=>by
   apply Classical.byContradiction
   intro hno
   have hblk:q.blk=q2.blk:=Classical.byContradiction fun e=>hno (.inl e)
   have a1:¬ q.base+q.cap*q.w≤q2.base:=fun e=>hno (.inr (.inl e))
   have a2:¬ q2.base+q2.cap*q2.w≤q.base:=fun e=>hno (.inr (.inr e))
   have n1:0 < q.cap*q.w:=by
    obtain ⟨q',hq',hr⟩:=h'.row k _ _ _ _ _ _ (low l1 h1).1
    rw [hι k l1,h3] at hq'; cases hq'
    rcases hr.cpos with e | e
    ·exact Nat.mul_pos e (by rw [hr.pw]; exact hr.pos)
    ·rcases Nat.eq_zero_or_pos (q.cap*q.w) with z | z
     ·omega
     ·exact z
   have n2:0 < q2.cap*q2.w:=by
    obtain ⟨q',hq',hr⟩:=h.row k2 _ _ _ _ _ _ (high l2 h2)
    rw [h4] at hq'; cases hq'
    rcases hr.cpos with e | e
    ·exact Nat.mul_pos e (by rw [hr.pw]; exact hr.pos)
    ·rcases Nat.eq_zero_or_pos (q2.cap*q2.w) with z | z
     ·omega
     ·exact z
   have c1:=cellOf l2 (high l2 h2) h4
   have c2:=free l1 h1 h3
   rcases Nat.le_total q.base q2.base with e | e
   ·have:=c2 (q2.base - q.base) (by omega)
    rw [show q.base+(q2.base - q.base)=q2.base+0 by omega,hblk] at this
    exact this (c1 0 (by omega))
   ·have:=c2 0 (by omega)
    rw [hblk,show q.base+0=q2.base+(q.base - q2.base) by omega] at this
    exact this (c1 (q.base - q2.base) (by omega))
  by_cases l1:o < N
  ·by_cases l2:o' < N
   ·exact h'.apart o o' bx nr fl w xs bx' nr' fl' w' xs' p p' hne (low l1 h1).1 (low l2 h2).1 (by rw [hι o l1]; exact h3) (by rw [hι o' l2]; exact h4)
   ·exact mixed l1 l2 h1 h2 h3 h4
  ·by_cases l2:o' < N
   ·rcases mixed l2 l1 h2 h1 h4 h3 with a | a | a
    ·exact .inl (Ne.symm a)
    ·exact .inr (.inr a)
    ·exact .inr (.inl a)
   ·exact h.apart o o' bx nr fl w xs bx' nr' fl' w' xs' p p' hne (high l1 h1) (high l2 h2) h3 h4
 ·have free:∀{k fn sl ps as bd st pe q},k < N→(if k < N then σ' k else σ k)=some (.loop fn sl ps as bd st pe)→ι k=some q→¬ Qcy N ι σ q.blk:=fun {k fn sl ps as bd st pe q} hk h1 hq=>by
   obtain ⟨h1,_⟩:=low hk h1
   obtain ⟨p,nt1,hp',hb1,_⟩:=h'.loop _ _ _ _ _ _ _ _ h1
   rw [hι k hk,hq] at hp'; cases hp'
   exact (notB _ hb1).1
  have one:∀{k fn sl ps as bd st pe q},¬ k < N→(if k < N then σ' k else σ k)=some (.loop fn sl ps as bd st pe)→ι k=some q→Qcy N ι σ q.blk:=fun hk h1 hq=>⟨_,_,_,_,_,_,_,_,_,hk,high hk h1,hq,rfl⟩
  by_cases l1:o < N
  ·by_cases l2:o' < N
   ·exact h'.loops o o' fn sl ps as bd st pe fn' sl' ps' as' bd' st' pe' p p' hne (low l1 h1).1 (low l2 h2).1 (by rw [hι o l1]; exact h3) (by rw [hι o' l2]; exact h4)
   ·exact fun e=>free l1 h1 h3 (e ▸ one l2 h2 h4)
  ·by_cases l2:o' < N
   ·exact fun e=>free l2 h2 h4 (e ▸ one l1 h1 h3)
   ·exact h.loops o o' fn sl ps as bd st pe fn' sl' ps' as' bd' st' pe' p p' hne (high l1 h1) (high l2 h2) h3 h4
 ·by_cases hl:o < N
  ·rw [if_pos hl]
   have:=h'.used o (by rw [hι o hl]; exact ho)
   rw [if_pos hl] at this
   exact this
  ·rw [if_neg hl]; exact h.used o ho
end
end Go.Ab
namespace Go.Ab
open Go.RowKit
theorem Qn4:∀D:List Nat,∃D':List Nat,D'.Nodup∧∀r,r∈D'↔r∈D
 | []=>⟨[],List.nodup_nil,fun r=>Iff.rfl⟩
 | x::D=>by
  obtain ⟨D',h1,h2⟩:=Qn4 D
  by_cases hx:x∈D'
  ·exact ⟨D',h1,fun r=>by rw [h2,List.mem_cons]; exact ⟨.inr,fun h=>h.elim (fun e=>by subst e; exact (h2 _).1 hx) id⟩⟩
  ·exact ⟨x::D',List.nodup_cons.2 ⟨hx,h1⟩,fun r=>by rw [List.mem_cons,List.mem_cons,h2]⟩
theorem Qfk:∀{es:List (Nat × AObj)} {objs objs':List AObj},Zk objs es=some objs'→(∀y∈es,y.1 < objs.length)→objs'.length=objs.length
 | [],objs,objs',h,_=>by cases h; rfl
 | (o,x)::es,objs,objs',h,hl=>by
  simp only [Zk] at h
  split at h
  ·split at h
   ·split at h
    ·cases h
    ·rw [Qfk h (fun y hy=>by rw [List.length_set]; exact hl y (List.mem_cons_of_mem _ hy)),List.length_set]
   ·rename_i hn
    have:=hl (o,x) (by simp)
    rw [List.getElem?_eq_getElem this] at hn; cases hn
  ·cases h
section
variable {P:Program} {ops:Array Oper} {o:Oper}
theorem Qsb {g:Operand} {args:Array Operand} {ts:Array TypeId} {f:FuncId} {fn:Func} {c:Code} {first caps as:List AV} {e:Zc} {x:AV} {s:Slots} {σ:Sto} {N n:Nat} {A A':List AObj} {sl':List (Nat × AV)} {nt':Nat} {eff:List (Nat × AObj)}
  (hw:Z8 ops s o=some true) (ho:o.op=.call { callee:=.value g,args,argTypes:=ts }) (hg:evo s g=some (.fn (.func f) first caps)) (has:Ye s args.toList=some as)
  (hf:P.funcs[f]?=some fn) (hb:fn.body=some c) (hn:(fn.name == "runtime.NumGoroutine")=false) (hle:(first++as++caps).length≤fn.ntmps)
  (hσ:∀k,k < N→σ k=A[k]?) (hN:A.length=N) (hN':A'.length=N) (hbig:N≤BIG) (hlive:∀y∈A,Qlc y=true) (hA:∀y∈A,V7 N y) (hA':∀y∈A',V7 N y)
  (hids:∀a∈first++as++caps,∀k∈a.ids,k < N)
  (h:Zp P none N c ⟨Xr 0 (first++as++caps),A,fn.ntmps⟩ (.go e ⟨sl',A',nt'⟩)) (hend:e.ends=true) (hr:resultA P fn ⟨sl',A',nt'⟩=some x) (hx:x.nr=true)
  (heff:∀k,k < N→Sto.puts (fun k=>A[k]?) eff k=A'[k]?) (heff2:∀y∈eff,y.1 < N) :
  YlL P ops o ⟨some x,eff,n,n,List.range N⟩ s σ:=by
 intro s' σ' hs' hσ'
 have hl:=Qks (ops:=ops) hs'
 rw [ho] at hl
 have hg':evo s' g=some (.fn (.func f) first caps):=by rw [hl g (by simp [Op.operands,Call.operands])]; exact hg
 have has':Ye s' args.toList=some as:=by rw [evos_congr (fun y hy=>hl y (by simp [Op.operands,Call.operands]; exact .inr (by simpa using hy)))]; exact has
 refine .inl ⟨by rw [Qab hs']; exact hw,?_⟩
 intro B W0 D M ι a W nn Q r next hrel hsl hfree hpost
 simp only at hfree hpost
 have hσN:∀k,k < N→σ' k=A[k]?:=fun k hk=>by rw [hσ' k (List.mem_range.2 hk)]; exact hσ k hk
 have hgv:=Qc hsl hg'
 generalize hgu:a.eval g=gu at hgv
 cases hgv with
 | fn _ first' caps' _ _ hy hm h1 h2 hr1 hr2 =>
 obtain ⟨l1,e1⟩:=Xs hsl has'
 refine ⟨fun _ _=>trivial,?_⟩
 rw [Oper.semAt_eq _ _ _ (by rw [ho]; simp)]
 have hrun:(execOp a.eval o).run P W=.ok (.enter f (first'++args.map a.eval++caps')) W:=by
  simp only [execOp,ho,resolve,hgu,Deferred.ofValue,Sem.run_bind,Sem.run_pure,Result.andThen_ok,invoke]
  exact X4 hf (by rw [hb]; rfl) hn _ W
 rw [hrun,Oper.uponIn_enter]
 have hrep:∀(j:Nat) (v:Value) (y:AV),(first'++args.map a.eval++caps')[j]?=some v→(first++as++caps)[j]?=some y→Qa M ι v y :=
  Qe6 h1 (by simpa using l1.symm) h2 hr1 (fun j v y hv hy=>by
   simp only [Array.getElem?_map,Option.map_eq_some_iff] at hv
   obtain ⟨w,hw,rfl⟩:=hv
   exact (e1 j w y (by simpa using hw) hy).2) hr2
 have hsz:(first'++args.map a.eval++caps').size=(first++as++caps).length:=by simp [h1,h2,l1]
 have hOk:∀k x,k < N→σ' k=some x→V7 N x:=fun k x hk hx=>by
  rw [hσN k hk] at hx; exact hA x (List.mem_of_getElem? hx)
 have hhide:=hrel.hide (N:=N) hOk
 have hsA:sto A=fun k=>if k < N then σ' k else none:=funext fun k=>by
  rw [Qma (fun y hy=>Qfw (hA y hy)) (by omega)]
  by_cases hk:k < N
  ·rw [if_pos hk,hσN k hk]
  ·rw [if_neg hk,List.getElem?_eq_none (by omega)]
 rw [←hsA] at hhide
 obtain ⟨D0,hnd,hmem⟩:=Qn4 D
 have hhide0:=hhide.mem (D':=D0) (fun r hr=>(hmem r).1 hr)
 have hM1:M.le (Qgi N ι σ' W M):=fun _ _ _ h=>h
 refine ⟨fun hd=>by simp [FW,Fence.wide] at hd,Qap ?_⟩
 refine callsIn_wide.1 (callsIn_of_wp_marks (F:=FW none) (n:=0) hf hb trivial ?_)
 refine h B W0 D0 [] (Qgi N ι σ' W M) (fun k=>if k < N then ι k else none) _ W 0 _ none ⟨hhide0,Km fn.ntmps (fun j v y hv hy=>?_) hsz,by rw [Array.size_append,Array.size_replicate]; show _=fn.ntmps; omega,⟨rfl,fun r hr=>by simp at hr,by simpa using hnd⟩,fun k hk=>?_,by show A.length≤BIG; omega⟩ rfl ⟨?_,fun v hv=>by cases hv⟩
 ·have hi:=hids y (List.mem_of_getElem? hy)
  exact ((hrep j v y hv hy).congr fun o ho=>if_pos (hi o ho)).mono hM1 (Inj.le_refl _)
 ·exact if_neg (fun hlt=>hk (.inl (by show k < A.length; omega)))
 intro e' st'' he dl' M' ι' a' W' g1 g2 g3 g4
 cases he
 have hex:e.exit'=.normal∨e.exit'=.ret:=by cases e <;> simp_all [Zc.ends,Zc.exit']
 have cut:∀R,LeavesInM (FW none) 0 P fn a'.tmps R a'.defers .returning W'→bodyPostM (FW none) 0 P fn R e.exit' a' W':=fun R hR=>by
  rcases hex with e1 | e1 <;> rw [e1] <;> exact hR
 apply cut
 rw [g4.df.defs]
 refine Qa5 (by simp) dl' W' g4.rel g4.df.nd g4.df.old (fun W2 h2=>?_)
 obtain ⟨v,k1,k2⟩:=Qaa h2 g4.slots hr
 refine ⟨v,k1,?_⟩
 have hι:∀k,k < N→ι' k=ι k:=fun k hk=>by
  have hlv:∃p,ι k=some p:=by
   have hAk:A[k]?=some (A[k]'(by omega)):=List.getElem?_eq_getElem (by omega)
   have hk':=hσN k hk
   rw [hAk] at hk'
   have hlv:=hlive _ (List.mem_of_getElem? hAk)
   cases hy:A[k]'(by omega) with
   | row bx ro nr fl w xs=>rw [hy] at hk'; obtain ⟨p,hp,_⟩:=hrel.row k _ _ _ _ _ _ hk'; exact ⟨p,hp⟩
   | loop nt sl ps as bd st pe=>rw [hy] at hk'; obtain ⟨p,_,hp,_⟩:=hrel.loop k _ _ _ _ _ _ _ hk'; exact ⟨p,hp⟩
   | _=>rw [hy] at hlv; cases hlv
  obtain ⟨p,hp⟩:=hlv
  rw [hp]
  exact g2 k p (.inl hk) (by show (if k < N then ι k else none)=_; rw [if_pos hk]; exact hp)
 have h2':=h2.mem (D':=D) (fun r hr=>(hmem r).2 hr)
 have hsA':sto A'=fun k=>if k < N then (fun k=>A'[k]?) k else none:=funext fun k=>by
  rw [Qma (fun y hy=>Qfw (hA' y hy)) (by omega)]
  by_cases hk:k < N
  ·rw [if_pos hk]
  ·rw [if_neg hk,List.getElem?_eq_none (by omega)]
 rw [show (⟨sl',A',nt'⟩:St).objs=A' from rfl,hsA'] at h2'
 obtain ⟨M2,q1,q2,q3⟩:=hrel.unhide h2' g1 hι (fun k y hk hy=>hA' y (List.mem_of_getElem? hy))
 refine hpost v W2 M2 ι q1 (Inj.le_refl _) (fun _ _=>rfl) ?_ (fun y hy=>?_)
 ·have:(fun k=>if k < N then (fun k=>A'[k]?) k else σ' k)=σ'.puts eff:=funext fun k=>by
   by_cases hk:k < N
   ·rw [if_pos hk]
    show A'[k]?=_
    rw [←heff k hk]
    exact Qau eff k (.inl (hσN k hk).symm)
   ·rw [if_neg hk]
    exact (Ka (fun y hy e=>hk (by rw [←e]; exact heff2 y hy))).symm
  rw [←this]; exact q3
 ·cases hy
  exact (k2.of_nr hx).mono q2 (Inj.noInj_le _)
end
section
variable {P:Program} {rd:Option Nat} {base:Nat} {ops:Array Oper} {d:Option (List Sk)} {st S:St} {Φ:AOut→Prop} {i:Nat}
noncomputable def Qgo (P:Program) (fn:Func) (ops:Array Oper) (i:Nat) (st:St) (eff:List (Nat × AObj)) (st':St):Option St :=
 match resultA P fn st',ops[i]? with
 | some x,some o=>match X0 st.slots st.nt o.dst (some x),Zk st.objs eff with
  | some slots,some objs=>if x.nr then some ⟨slots,objs,st.nt⟩ else none
  | _,_=>none
 | _,_=>none
theorem Quk {σ ρ R:Type} {N:Nat} {c:Code} {I:σ→St} {E:ρ→St} {F:σ→Option ρ} {K:ρ→Option R} {r:R} {f:FuncId} {fn:Func} {as0:List AV} (s0:σ) (A H:List AObj) (eff:ρ→List (Nat × AObj)) (S:ρ→St)
  (hi:Zh ops i st=some (f,as0)) (hf:P.funcs[f]?=some fn) (hb:fn.body=some c) (hn:(fn.name == "runtime.NumGoroutine")=false) (hle:Nat.ble as0.length fn.ntmps=true)
  (hsp:st.objs=A++H) (h0:(⟨Xr 0 as0,A,fn.ntmps⟩:St)=I s0) (hN:A.length=N) (hbig:Nat.ble N BIG=true) (hlive:A.all Qlc=true) (hA:∀y∈A,V7 N y) (hE:∀x,(E x).objs.length=N) (hA':∀x,∀y∈(E x).objs,V7 N y)
  (hsl:(as0.all fun a=>a.ids.all fun o=>Nat.blt o N)=true)
  (heff:∀x,∀k,k < N→Sto.puts (fun k=>A[k]?) (eff x) k=(E x).objs[k]?) (hefl:∀x,∀y∈eff x,y.1 < N) (w:List Nat) (hw:∀x,(eff x).map (·.1)=w) (hlow:Nat.ble st.objs.length BIG=true)
  (IH:Qco P N c I E F) (h:(F s0).bind K=some r) (hS:∀x,Qgo P fn ops i st (eff x) (E x)=some (S x))
  (k:∀x,K x=some r→RW P rd base ops (Zg d [(w,List.range N)]) (i+1) (S x) Φ):RW P rd base ops d i st Φ:=by
 obtain ⟨o,g,args,ts,first,caps,as1,ho,hop,hg,has,rfl⟩:=Vz hi
 obtain ⟨h1,h2⟩:=Va ho
 cases hx:F s0 with
 | none=>rw [hx] at h; cases h
 | some x =>
  rw [hx] at h
  obtain ⟨out,hex,hout⟩:=IH s0 x hx
  rw [←h0] at hex
  have hsx:=hS x
  unfold Qgo at hsx
  split at hsx
  ·rename_i y o' hr ho'
   rw [h1] at ho'; cases ho'
   split at hsx
   ·rename_i slots objs hp ha
    split at hsx
    ·rename_i hy
     have hsS:S x=⟨slots,objs,st.nt⟩:=(Option.some.inj hsx).symm
     have hks:=k x h
     rw [hsS] at hks
     obtain ⟨p1,p2,p3⟩:=X2 _ _ _ ha
     have hNl:N≤st.objs.length:=by rw [hsp,List.length_append]; omega
     have hbig':N≤BIG:=Nat.le_of_ble_eq_true hbig
     have hAsimp:∀z∈A,Qja z=true:=fun z hz=>Qfw (hA z hz)
     have hσ:∀k,k < N→sto st.objs k=A[k]?:=fun k hk=>by
      have hkb:k < BIG:=by omega
      rw [Z9 hkb,hsp,List.getElem?_append_left (by omega)]
      cases e:A[k]? with
      | none=>rfl
      | some z=>simp [Qjb (hAsimp z (List.mem_of_getElem? e))]
     have hids:∀a∈first++as1++caps,∀k∈a.ids,k < N:=fun a ha k hk=>Ya (List.all_eq_true.1 (List.all_eq_true.1 hsl a ha) k hk)
     have hout':∃e,out=.go e (E x)∧e.ends=true:=by
      rcases hout with he | he
      ·exact ⟨_,he,rfl⟩
      ·exact ⟨_,he,rfl⟩
     obtain ⟨e,rfl,hend⟩:=hout'
     have hlen:objs.length=st.objs.length:=Qfk ha (fun y hy=>by have:=hefl x y hy; omega)
     refine Qbb (s:=(w,List.range N)) ⟨o,⟨some y,eff x,st.objs.length,st.objs.length,List.range N⟩,h1,?_,Qqg (by simp [Foot.sk,hw x])⟩ hks
     refine Qme (Qsb (e:=e) (sl':=(E x).slots) (nt':=(E x).nt) (A:=A) (A':=(E x).objs) h2 hop hg has hf hb hn (Nat.le_of_ble_eq_true hle) hσ hN (hE x) hbig' (fun z hz=>List.all_eq_true.1 hlive z hz) hA (hA' x) hids hex hend hr hy (heff x) (hefl x)) rfl ?_ ha hp rfl
     show st.objs.length=objs.length
     exact hlen.symm
    ·cases hsx
   ·cases hsx
  ·cases hsx
end
end Go.Ab
namespace Go.Ab
open Go.RowKit
theorem Qht:∀(es:List (AV × AV)) (i:Nat),J7 i (Zi i es)=some es
 | [],i=>rfl
 | (k,v)::r,i=>by
  simp only [Zi,J7]
  rw [show Nat.beq i i=true from Nat.beq_refl i,show Nat.beq (i+1) (i+1)=true from Nat.beq_refl _]
  simp [Qht r (i+2)]
theorem Qkm (es:List (AV × AV)):Ko (mapO es)=some es:=by
 simp [Ko,mapO,Qht]
section
variable {P:Program} {α:Type} {enc:α→AV} {kk:IntKind} {kt:TypeId}
end
section
variable {P:Program} {rd:Option Nat} {base:Nat} {ops:Array Oper} {d:Option (List Sk)} {st S:St} {Φ:AOut→Prop} {i:Nat}
theorem Qe1 {P:Program} {nf:Bool} {C:FuncId→List AV→Option Zr} {σ:Sto} {fr:Nat} {s:Slots} {o:Oper} {r:Res}:(Zx P nf C σ fr s o=some (.val r))=(evalOp P nf C σ fr s o=some (.val r)):=by
 apply propext
 unfold Zx
 split
 ·exact Iff.rfl
 ·cases evalOp P nf C σ fr s o with
  | none=>exact Iff.rfl
  | some y=>cases y <;> simp [Xm]
end
end Go.Ab
namespace Go.Ab
open Go.RowKit
section
variable {P:Program} {rd:Option Nat} {base:Nat} {ops:Array Oper} {d:Option (List Sk)} {st S1 S:St} {Φ:AOut→Prop} {i:Nat}
noncomputable def Qn2 (P:Program) (ops:Array Oper) (i:Nat) (st:St):Option (List AV × Int × Nat) :=
 match Z5 ops i st with
 | some o=>match o.op with
  | .indexAddr t x ix=>match ti P t,evo (lk st.slots) x,evo (lk st.slots) ix with
   | some T,some (.fz cs),some (.int _ n)=>match T.kind with
    | .array len e=>match ti P e with
     | some E=>if Nat.beq E.size 1 then some (cs,n,len) else none
     | none=>none
    | _=>none
   | _,_,_=>none
  | _=>none
 | none=>none
noncomputable def Qn1 (P:Program) (ops:Array Oper) (i:Nat) (st:St):Option (List AV) :=
 match Z5 ops i st with
 | some o=>match o.op with
  | .load t x=>match ti P t,evo (lk st.slots) x with
   | some T,some (.fz cs)=>if T.agg then none else some cs
   | _,_=>none
  | _=>none
 | none=>none
theorem Qur {l:List Int} {n a:Int} {kk:IntKind} {len:Nat} {cells:List AV} (hi:Qn2 P ops i st=some (cells,n,len)) (hc:cells=l.map (AV.int kk)) (hlen:l.length=len) (ha:lkI l n=some a)
  (h1:Xn ops i st (some (.fz ((l.map (AV.int kk)).drop n.toNat))) []=some S1) (hl:Qn1 P ops (i+1) S1=some ((l.map (AV.int kk)).drop n.toNat)) (hS:Xn ops (i+1) S1 (some (.int kk a)) []=some S)
  (k:RW P rd base ops (Zg (Zg d [([],[])]) [([],[])]) (i+1+1) S Φ):RW P rd base ops d i st Φ:=by
 obtain ⟨g1,g2,g3⟩:=Qgx ha
 subst hc
 have s1:∃o,Z5 ops i st=some o∧Zx P false noC st.sto st.objs.length (lk st.slots) o=some (.val ⟨some (.fz ((l.map (AV.int kk)).drop n.toNat)),[],st.objs.length,[]⟩):=by
  unfold Qn2 at hi
  split at hi
  ·rename_i o ho
   split at hi
   ·rename_i t x ix hop
    split at hi
    ·rename_i T cs' k' n' hT hx hix
     split at hi
     ·rename_i len' e hk
      split at hi
      ·rename_i E hE
       split at hi
       ·rename_i hsz
        have hsz:=Nat.eq_of_beq_eq_true hsz
        cases hi
        refine ⟨o,ho,?_⟩
        rw [Qe1]
        have hneg:¬ n < 0:=by omega
        simp only [evalOp,hop,hT,hx,hix,hk,hE,asN,hneg,if_false]
        rw [if_pos (Qgk (by omega)),hsz,Nat.mul_one]
        rfl
       ·cases hi
      ·cases hi
     ·cases hi
    ·cases hi
   ·cases hi
  ·cases hi
 obtain ⟨o,ho,he⟩:=s1
 refine Vy ho he h1 (X8 h1) ?_
 have s2:∃o,Z5 ops (i+1) S1=some o∧Zx P false noC S1.sto S1.objs.length (lk S1.slots) o=some (.val ⟨some (.int kk a),[],S1.objs.length,[]⟩):=by
  unfold Qn1 at hl
  split at hl
  ·rename_i o ho
   split at hl
   ·rename_i t x hop
    split at hl
    ·rename_i T cs hT hx
     split at hl
     ·cases hl
     ·rename_i hag
      have hcs:=Option.some.inj hl
      refine ⟨o,ho,?_⟩
      rw [Qe1]
      have hag':T.agg=false:=by simpa using hag
      have hd:(l.map (AV.int kk)).drop n.toNat = AV.int kk a::(l.map (AV.int kk)).drop (n.toNat + 1):=by
       rw [List.drop_eq_getElem_cons (by simpa using g2)]
       congr 1
       rw [List.getElem_map]
       congr 1
       have:=List.getElem?_eq_some_iff.1 g3
       exact this.2
      simp only [evalOp,hop,hT,hx,hcs,hd]
      simp [Vk,hag',Zl]
    ·cases hl
   ·cases hl
  ·cases hl
 obtain ⟨o2,ho2,he2⟩:=s2
 exact Vy ho2 he2 hS (X8 hS) k
end
end Go.Ab
namespace Go.Ab
open Go.RowKit
def Qji (o:Nat) (m:AObj):List Nat → List AObj→List AObj
 | k::ks,y::ys=>(if Nat.beq k o then m else y)::Qji o m ks ys
 | _,ys=>ys
theorem Qej {f:Nat → Option Nat} {objs:List AObj} {o:Nat} {e m:AObj} (hm:m.ren f=some m) (ho:o < objs.length):∀(ks:List Nat) (os:List AObj),Yc f (objs.set o e) ks=some os→Yc f (objs.set o m) ks=some (Qji o m ks os)
 | [],os,h=>by simp [Yc] at h; subst h; rfl
 | k::ks,os,h=>by
  simp only [Yc] at h ⊢
  by_cases c:o=k
  ·subst c
   rw [List.getElem?_set_self ho] at h ⊢
   simp only at h ⊢
   cases hx:e.ren f with
   | none=>rw [hx] at h; cases h
   | some y =>
    rw [hx] at h
    cases hr:Yc f (objs.set o e) ks with
    | none=>rw [hr] at h; cases h
    | some os' =>
     rw [hr] at h
     have ih:=Qej hm ho ks os' hr
     cases h
     rw [ih,hm]
     simp [Qji]
  ·rw [List.getElem?_set_ne c] at h ⊢
   cases hk:objs[k]? with
   | none=>rw [hk] at h; cases h
   | some x =>
    rw [hk] at h
    simp only at h ⊢
    cases hx:x.ren f with
    | none=>rw [hx] at h; cases h
    | some y =>
     rw [hx] at h
     cases hr:Yc f (objs.set o e) ks with
     | none=>rw [hr] at h; cases h
     | some os' =>
      rw [hr] at h
      have ih:=Qej hm ho ks os' hr
      cases h
      rw [ih]
      have:Nat.beq k o=false:=by
       cases e2:Nat.beq k o with
       | false=>rfl
       | true=>exact absurd (Nat.eq_of_beq_eq_true e2).symm c
      simp [Qji,this]
def Qry (base:Nat) (live keep:List Nat) (o:Nat) (m:AObj) (st:St):Option St :=
 match Qev base live keep ⟨st.slots,st.objs.set o (mapO []),st.nt⟩ with
 | some s=>some ⟨s.slots,Qji o m (List.range base++keep) s.objs,s.nt⟩
 | none=>none
end Go.Ab
namespace Go.Ab
open Go.RowKit
def X1 {κ α:Type} (ke:κ→AV) (enc:α→AV) (p:κ × α):AV × AV:=(ke p.1,enc p.2)
def mapK {κ α:Type} (ke:κ→AV) (enc:α→AV) (l:List (κ × α)):AObj:=mapO (l.map (X1 ke enc))
def Xo {κ α:Type} (e:κ→κ→Bool):List (κ × α)→κ→Option α
 | [],_=>none
 | p::r,n=>if e n p.1 then some p.2 else Xo e r n
def kput {κ α:Type} (e:κ→κ→Bool):List (κ × α)→κ→α→List (κ × α)
 | [],n,v=>[(n,v)]
 | p::r,n,v=>if e n p.1 then (n,v)::r else p::kput e r n v
section
variable {P:Program} {κ α:Type} {ke:κ→AV} {enc:α→AV} {e:κ→κ→Bool} {kt:TypeId}
theorem Qet (hk:∀a b,Xe P kt (ke a) (ke b)=some (e a b)) {n:κ}:∀(l:List (κ × α)) (i:Nat),Xo e l n=none→Yh (Xe P kt) (ke n) (l.map (X1 ke enc)) i=some none
 | [],i,_=>rfl
 | p::r,i,h=>by
  unfold Xo at h
  split at h
  ·cases h
  ·rename_i hc
   simp only [List.map_cons,X1,Yh,hk]
   rw [show e n p.1=false by simpa using hc]
   exact Qet hk r (i+1) h
theorem Qfa (hk:∀a b,Xe P kt (ke a) (ke b)=some (e a b)) {n:κ} {v:α}:∀(l:List (κ × α)) (i:Nat),Xo e l n=some v→∃j,Yh (Xe P kt) (ke n) (l.map (X1 ke enc)) i=some (some (i+j,enc v))∧∀w,(l.map (X1 ke enc)).set j (X1 ke enc (n,w))=(kput e l n w).map (X1 ke enc)
 | [],i,h=>by cases h
 | p::r,i,h=>by
  unfold Xo at h
  split at h
  ·rename_i hc
   cases h
   refine ⟨0,?_,fun w=>?_⟩
   ·simp only [List.map_cons,X1,Yh,hk,hc,Nat.add_zero]
   ·simp only [kput,hc,if_true,List.map_cons,List.set_cons_zero]
  ·rename_i hc
   have hc':e n p.1=false:=by simpa using hc
   obtain ⟨j,h1,h2⟩:=Qfa hk r (i+1) h
   refine ⟨j+1,?_,fun w=>?_⟩
   ·simp only [List.map_cons,X1,Yh,hk,hc']
    rw [show i+(j+1)=i+1+j by omega]
    exact h1
   ·simp only [kput,hc',List.map_cons,List.set_cons_succ,h2 w]
    simp
theorem Qkg {n:κ} {w:α}:∀(l:List (κ × α)),Xo e l n=none→l.map (X1 ke enc)++[X1 ke enc (n,w)]=(kput e l n w).map (X1 ke enc)
 | [],_=>rfl
 | p::r,h=>by
  unfold Xo at h
  split at h
  ·cases h
  ·rename_i hc
   have hc':e n p.1=false:=by simpa using hc
   simp only [kput,hc',List.map_cons,List.cons_append,Qkg r h]
   simp
end
section
variable {P:Program} {rd:Option Nat} {base:Nat} {ops:Array Oper} {d:Option (List Sk)} {st S:St} {Φ:AOut→Prop} {i:Nat}
noncomputable def Qn3 (P:Program) (ops:Array Oper) (i:Nat) (st:St):Option (Nat × TypeId × AV × Bool × AV) :=
 match Z5 ops i st with
 | some o=>match o.op with
  | .lookup t x ix c=>match ti P t,evo (lk st.slots) x,evo (lk st.slots) ix with
   | some T,some (.mp ob),some k=>match T.kind with
    | .map kt et=>match (ti P et).bind (·.zero) with
     | some z=>some (ob,kt,k,c,z)
     | _=>none
    | _=>none
   | _,_,_=>none
  | _=>none
 | none=>none
noncomputable def Qnv (P:Program) (ops:Array Oper) (i:Nat) (st:St):Option (Nat × TypeId × AV × AV) :=
 match Z5 ops i st with
 | some o=>match o.op with
  | .mapUpdate t m x y | .insert t m x y=>match ti P t,evo (lk st.slots) m,evo (lk st.slots) x,evo (lk st.slots) y with
   | some T,some (.mp ob),some k,some v=>match T.kind with
    | .map kt _=>some (ob,kt,k,v)
    | _=>none
   | _,_,_,_=>none
  | _=>none
 | none=>none
theorem Qk8 {κ α:Type} {ke:κ→AV} {enc:α→AV} {e:κ→κ→Bool} {l:List (κ × α)} {n:κ} {z:α} {ob:Nat} {kt:TypeId} {c:Bool} (hi:Qn3 P ops i st=some (ob,kt,ke n,c,enc z)) (hk:∀a b,Xe P kt (ke a) (ke b)=some (e a b)) (hrow:st.sto ob=some (mapK ke enc l)) (hok:∀v,(enc v).okv=true)
  (hS:Xn ops i st (some (if c then .tup [enc ((Xo e l n).getD z),.bool (Xo e l n).isSome] else enc ((Xo e l n).getD z))) []=some S) (k:RW P rd base ops (Zg d [([],[ob])]) (i+1) S Φ):RW P rd base ops d i st Φ:=by
 unfold Qn3 at hi
 split at hi
 ·rename_i o ho
  split at hi
  ·rename_i t x ix c' hop
   split at hi
   ·rename_i T ob' k' hT hx hix
    split at hi
    ·rename_i kt et hkind
     split at hi
     ·rename_i z' hz
      cases hi
      refine Vy (nf:=false) (v:=some (if c then .tup [enc ((Xo e l n).getD z),.bool (Xo e l n).isSome] else enc ((Xo e l n).getD z))) (eff:=[]) (fr:=st.objs.length) (rds:=[ob]) ho ?_ hS (X8 hS) k
      rw [Qe1]
      simp only [evalOp,hop]
      unfold Qbu
      have hes:(st.sto ob).bind Ko=some (l.map (X1 ke enc)):=by rw [hrow]; exact Qkm _
      simp only [hT,hx,hix,hkind,hes,hk,hz]
      cases hg:Xo e l n with
      | none =>
       rw [Qet hk l 0 hg]
       simp only [hok,if_true,Option.getD_none,Option.isSome_none]
      | some v =>
       obtain ⟨j,h1,_⟩:=Qfa (enc:=enc) hk l 0 hg
       rw [h1]
       simp only [hok,if_true,Option.getD_some,Option.isSome_some]
     ·cases hi
    ·cases hi
   ·cases hi
  ·cases hi
 ·cases hi
theorem Zn {κ α:Type} {ke:κ→AV} {enc:α→AV} {e:κ→κ→Bool} {l:List (κ × α)} {n:κ} {v:α} {ob:Nat} {kt:TypeId} (hi:Qnv P ops i st=some (ob,kt,ke n,enc v)) (hk:∀a b,Xe P kt (ke a) (ke b)=some (e a b)) (hrow:st.sto ob=some (mapK ke enc l))
  (hS:Xn ops i st none [(ob,mapK ke enc (kput e l n v))]=some S) (hl:Nat.beq S.objs.length st.objs.length=true) (k:RW P rd base ops (Zg d [([ob],[ob])]) (i+1) S Φ):RW P rd base ops d i st Φ:=by
 have main:∃o,Z5 ops i st=some o∧Zx P false noC st.sto st.objs.length (lk st.slots) o=some (.val ⟨none,[(ob,mapK ke enc (kput e l n v))],st.objs.length,[ob]⟩):=by
  unfold Qnv at hi
  split at hi
  ·rename_i o ho
   have step:∀(t:TypeId) (m x y:Operand),(o.op=.mapUpdate t m x y∨o.op=.insert t m x y)→(match ti P t,evo (lk st.slots) m,evo (lk st.slots) x,evo (lk st.slots) y with
     | some T,some (.mp ob),some k,some v=>match T.kind with
      | .map kt _=>some (ob,kt,k,v)
      | _=>none
     | _,_,_,_=>none)=some (ob,kt,ke n,enc v)→Zx P false noC st.sto st.objs.length (lk st.slots) o=some (.val ⟨none,[(ob,mapK ke enc (kput e l n v))],st.objs.length,[ob]⟩):=fun t m x y hop hi=>by
    split at hi
    ·rename_i T ob' k' v' hT hm hx hy
     split at hi
     ·rename_i kt et hkind
      cases hi
      rw [Qe1]
      have hev:evalOp P false noC st.sto st.objs.length (lk st.slots) o=Kl P st.sto st.objs.length (lk st.slots) t m x y:=by
       rcases hop with hop | hop <;> simp only [evalOp,hop]
      rw [hev]
      unfold Kl
      have hes:(st.sto ob).bind Ko=some (l.map (X1 ke enc)):=by rw [hrow]; exact Qkm _
      simp only [hT,hm,hx,hy,hkind,hes,hk]
      cases hg:Xo e l n with
      | none =>
       rw [Qet hk l 0 hg]
       simp only
       rw [show (ke n,enc v)=X1 ke enc (n,v) from rfl,Qkg l hg]
       rfl
      | some u =>
       obtain ⟨j,h1,h2⟩:=Qfa (enc:=enc) hk l 0 hg
       rw [h1]
       simp only [Nat.zero_add]
       rw [show (ke n,enc v)=X1 ke enc (n,v) from rfl,h2]
       rfl
     ·cases hi
    ·cases hi
   refine ⟨o,ho,?_⟩
   split at hi
   ·rename_i t m x y hop; exact step t m x y (.inl hop) hi
   ·rename_i t m x y hop; exact step t m x y (.inr hop) hi
   ·cases hi
  ·cases hi
 obtain ⟨o,ho,he⟩:=main
 exact Vy ho he hS (Nat.eq_of_beq_eq_true hl) k
end
section
variable {P:Program} {κ α:Type} {ke:κ→AV} {enc:α→AV} {e:κ→κ→Bool} {kt:TypeId}
end
section
variable {P:Program} {rd:Option Nat} {base:Nat} {ops:Array Oper} {d:Option (List Sk)} {st S:St} {Φ:AOut→Prop} {i:Nat}
end
theorem Qkp {κ α:Type} {ke:κ→AV} {enc:α→AV} {f:Nat → Option Nat} (hk:∀v,(ke v).ren f=some (ke v)) (he:∀v,(enc v).ren f=some (enc v)):∀(l:List (κ × α)) (i:Nat),Qh4 f (Zi i (l.map (X1 ke enc)))=some (Zi i (l.map (X1 ke enc)))
 | [],i=>rfl
 | x::l,i=>by
  simp only [List.map_cons,X1,Zi,Qh4,he]
  have h2:=Qkp hk he l (i+2)
  rw [hk]
  simp only [h2]
theorem Qrh {κ α:Type} {ke:κ→AV} {enc:α→AV} {f:Nat → Option Nat} (hk:∀v,(ke v).ren f=some (ke v)) (he:∀v,(enc v).ren f=some (enc v)) (l:List (κ × α)):(mapK ke enc l).ren f=some (mapK ke enc l):=by
 show AObj.ren f (.loop _ _ _ _ _ _ _)=_
 simp only [AObj.ren,Qkp hk he l 0]
 rfl
theorem wk_gcK {P:Program} {base:Nat} {st st':St} {live keep:List Nat} (o:Nat) {κ α:Type} (ke:κ→AV) (enc:α→AV) (L:List (κ × α)) (hK:∀f a,(ke a).ren f=some (ke a)) (hE:∀f a,(enc a).ren f=some (enc a)) (ho:st.objs[o]?=some (mapK ke enc L))
  (h:Qry base live keep o (mapK ke enc L) st=some st'):Wk P base st st':=by
 refine wk_gc (live:=live) (keep:=keep) ?_
 unfold Qry at h
 have hself:st.objs.set o (mapK ke enc L)=st.objs:=by
  obtain ⟨h1,h2⟩:=List.getElem?_eq_some_iff.1 ho
  apply List.ext_getElem?
  intro i
  by_cases e:o=i
  ·subst e; rw [List.getElem?_set_self h1,ho]
  ·rw [List.getElem?_set_ne e]
 cases hg:Qev base live keep ⟨st.slots,st.objs.set o (mapO []),st.nt⟩ with
 | none=>rw [hg] at h; cases h
 | some s =>
  rw [hg] at h
  cases h
  unfold Qev at hg ⊢
  simp only at hg ⊢
  split at hg
  ·rename_i hc
   rw [if_pos hc]
   split at hg
   ·rename_i os hos
    cases hg
    have:=Qej (Qrh (ke:=ke) (fun a=>hK _ a) (fun a=>hE _ a) L) (List.getElem?_eq_some_iff.1 ho).1 _ _ hos
    rw [hself] at this
    rw [this]
   ·cases hg
  ·cases hg
theorem Qp6 {N:Nat} {κ α:Type} {ke:κ→AV} {enc:α→AV} {l:List (κ × α)} (hk:∀v,(ke v).ids=[]) (he:∀v,(enc v).ids=[]):V7 N (mapK ke enc l):=by
 show ∀p∈Zi 0 (l.map (X1 ke enc)),∀o∈p.2.ids,o < N
 have:∀(l:List (κ × α)) (i:Nat),∀p∈Zi i (l.map (X1 ke enc)),p.2.ids=[]:=by
  intro l
  induction l with
  | nil=>intro i p hp; cases hp
  | cons x l ih =>
   intro i p hp
   simp only [List.map_cons,X1,Zi,List.mem_cons] at hp
   rcases hp with rfl | rfl | hp
   ·exact hk _
   ·exact he _
   ·exact ih (i+2) p hp
 intro p hp o ho
 rw [this l 0 p hp] at ho
 cases ho
theorem Y1 {N:Nat} {A:List AObj} (k:Nat) {κ α:Type} (ke:κ→AV) (enc:α→AV) (l:List (κ × α)) (hA:A[k]?=some (mapK ke enc l)) (hk:∀v,(ke v).ids=[]) (he:∀v,(enc v).ids=[]) (h:(A.set k .dead).all (Qk9 N)=true):∀y∈A,V7 N y:=fun y hy=>by
 obtain ⟨j,hj⟩:=List.mem_iff_getElem?.1 hy
 by_cases e:k=j
 ·subst e
  rw [hA] at hj
  cases hj
  exact Qp6 hk he
 ·exact Qsm (List.all_eq_true.1 h y (List.mem_of_getElem? (by rw [List.getElem?_set_ne e]; exact hj)))
end Go.Ab
namespace Go.Ab
open Go.RowKit
theorem Ql8:∀(es:List (Nat × AObj)) (A A':List AObj),Zk A es=some A'→(∀y∈es,y.1 < A.length)→∀k,Sto.puts (fun k=>A[k]?) es k=A'[k]?
 | [],A,A',h,_,k=>by cases h; rfl
 | (o,x)::es,A,A',h,hl,k=>by
  simp only [Zk] at h
  split at h
  ·have ho:=hl (o,x) (by simp)
   rw [List.getElem?_eq_getElem ho] at h
   simp only at h
   split at h
   ·cases h
   ·have ih:=Ql8 es _ A' h (fun y hy=>by rw [List.length_set]; exact hl y (List.mem_cons_of_mem _ hy)) k
    rw [←ih]
    show Sto.puts _ es k=_
    congr 1
    funext j
    by_cases e:j=o
    ·subst e; simp [Sto.put,List.getElem?_set_self ho]
    ·simp [Sto.put,e,List.getElem?_set_ne (fun h=>e h.symm)]
  ·cases h
section
variable {P:Program} {rd:Option Nat} {base:Nat} {ops:Array Oper} {d:Option (List Sk)} {st:St} {Φ:AOut→Prop} {i:Nat}
theorem Quv {σ ρ R:Type} {N:Nat} {c:Code} {I:σ→St} {E:ρ→St} {F:σ→Option ρ} {K:ρ→Option R} {r:R} {f:FuncId} {fn:Func} {as0:List AV} (s0:σ) (eff:ρ→List (Nat × AObj)) (S:ρ→St) (w:List Nat)
  (hi:Zh ops i st=some (f,as0)) (hf:P.funcs[f]?=some fn) (hb:fn.body=some c) (hn:(fn.name == "runtime.NumGoroutine")=false) (hle:Nat.ble as0.length fn.ntmps=true)
  (h0:(⟨Xr 0 as0,st.objs.take N,fn.ntmps⟩:St)=I s0) (hN:Nat.ble N st.objs.length=true) (hbig:Nat.ble st.objs.length BIG=true) (hlive:(st.objs.take N).all Qlc=true) (hA:∀y∈st.objs.take N,V7 N y) (hE:∀x,Nat.beq (E x).objs.length N=true) (hA':∀x,∀y∈(E x).objs,V7 N y)
  (hsl:(as0.all fun a=>a.ids.all fun o=>Nat.blt o N)=true)
  (heff:∀x,Zk (st.objs.take N) (eff x)=some (E x).objs) (hw:∀x,(eff x).map (·.1)=w) (hwl:(w.all fun o=>Nat.blt o N)=true)
  (IH:Qco P N c I E F) (h:(F s0).bind K=some r) (hS:∀x,Qgo P fn ops i st (eff x) (E x)=some (S x))
  (k:∀x,K x=some r→RW P rd base ops (Zg d [(w,List.range N)]) (i+1) (S x) Φ):RW P rd base ops d i st Φ:=by
 have hNl:N≤st.objs.length:=Nat.le_of_ble_eq_true hN
 have hlA:(st.objs.take N).length=N:=by rw [List.length_take]; omega
 have hel:∀x,∀y∈eff x,y.1 < N:=fun x y hy=>by
  have:y.1∈(eff x).map (·.1):=List.mem_map_of_mem hy
  rw [hw x] at this
  exact Ya (List.all_eq_true.1 hwl _ this)
 refine Quk s0 (st.objs.take N) (st.objs.drop N) eff S hi hf hb hn hle (List.take_append_drop N st.objs).symm h0 hlA ?_ hlive hA (fun x=>Nat.eq_of_beq_eq_true (hE x)) hA' hsl (fun x k _=>Ql8 _ _ _ (heff x) (fun y hy=>by rw [hlA]; exact hel x y hy) k) hel w hw hbig IH h hS k
 have:=Nat.le_of_ble_eq_true hbig
 exact Nat.ble_eq_true_of_le (by omega)
end
end Go.Ab
