/- Rules. No conditions. -/
import Derived.Test.YtojklbpplceiiaaDoorEng6
import Derived.RowKit3
import Derived.ChangeSame
import Derived.ChangeArms
import Derived.OpenShut
import Derived.WideKeyArgs
import Derived.Test.YtojklbpplceiiaaDoorEng5
import Derived.KernelRfl
set_option linter.all false
namespace Go.Ab
open Go.RowKit
section
variable {P:Program} {B:Nat} {W0 W W1:World} {D:List Nat} {M M1:CM} {ι ι1:Inj} {σ σ' σ1:Sto}
theorem Rel.dead (h:Rel P B W0 D M ι σ W) (hσ:∀k,σ' k=σ k\/σ' k=none\/σ' k=some .dead):Rel P B W0 D M ι σ' W:=by
 have back:∀k x,σ' k=some x->x≠.dead->σ k=some x:=fun k x hk hx=>by
  rcases hσ k with e | e | e
  ·rw [<-e]; exact hk
  ·rw [e] at hk; cases hk
  rw [e] at hk; cases hk; exact absurd rfl hx
 refine ⟨h.size,h.below,h.defs,h.agree,fun o bx nr fl w xs p k ho=>h.cool o bx nr fl w xs p k (back _ _ ho (by simp)),fun o bx ro nr fl w xs ho=>h.row o bx ro nr fl w xs (back _ _ ho (by simp)),fun o fn sl ps as bd st pe ho=>h.loop o fn sl ps as bd st pe (back _ _ ho (by simp)),
  fun o o' bx nr fl w xs bx' nr' fl' w' xs' p p' hne h1 h2=>h.apart o o' bx nr fl w xs bx' nr' fl' w' xs' p p' hne (back _ _ h1 (by simp)) (back _ _ h2 (by simp)),
  fun o o' fn sl ps as bd st pe fn' sl' ps' as' bd' st' pe' p p' hne h1 h2=>h.loops o o' fn sl ps as bd st pe fn' sl' ps' as' bd' st' pe' p p' hne (back _ _ h1 (by simp)) (back _ _ h2 (by simp)),fun o ho=>?_⟩
 rcases hσ o with e | e
 ·rw [e]; exact h.used o ho
 exact e
open Classical in
theorem Rel.join {N:Nat -> Prop} (h:Rel P B W0 D M ι σ W) (h1:Rel P W.heap.size W [] M1 ι1 σ1 W1) (hM:CM.Grow W.heap.size M M1) (n0:∀k,N k->ι k=none)
  (nl:∀k fn sl ps as bd st pe,N k->σ1 k≠some (.loop fn sl ps as bd st pe))
  (nc:∀k bx ro nr fl w xs,N k->σ1 k=some (.row bx ro nr fl w xs)->nr=true\/∀x∈xs,∀y∈x.flat,∀o∈y.ids,N o) :
  Rel P B W0 D M1 (fun k=>if N k then ι1 k else ι k) (fun k=>if N k then σ1 k else σ k) W1:=by
 have hrel:=h.old h1.below
 have hle:ι.le (fun k=>if N k then ι1 k else ι k):=fun k q hk=>by
  by_cases e:N k
  ·rw [n0 k e] at hk; cases hk
  simp only [e,eT]; exact hk
 have hold:∀k bx nr fl w xs p,σ k=some (.row bx false nr fl w xs)->ι k=some p->p.blk < W.heap.size\/(p.cap=0/\p.base=0):=by
  intro k bx nr fl w xs p hk hp
  obtain ⟨q,hq,hr⟩:=h.row k _ _ _ _ _ _ hk
  rw [hp] at hq; cases hq
  rcases eN p.cap with hz | hz
  ·exact .inr ⟨hz,by rcases hr.cpos with h4 | h4 <;> omega⟩
  left
  obtain ⟨v,hv⟩:=dY.1 ((hr.own rfl).2 0 (Nat.mul_pos hz hr.pos)).1
  exact World.block_lt_of_cell? W _ hv
 refine ⟨hrel.size,hrel.below,hrel.defs,h1.agree,fun k bx1 nr1 fl1 w1 xs1 q j hk hq hj=>?_,?_,?_,?_,?_,?_⟩
 ·by_cases e:N k
  ·simp only [e,eU] at hk hq; exact h1.cool _ _ _ _ _ _ _ _ hk hq hj
  ·simp only [e,eT] at hk hq; rw [hM.keepC]; exact hrel.cool _ _ _ _ _ _ _ _ hk hq hj
 ·intro k bx ro nr fl w xs hk
  by_cases e:N k
  ·simp only [e,eU] at hk ⊢
   obtain ⟨p,hp,hr⟩:=h1.row k _ _ _ _ _ _ hk
   refine ⟨p,hp,⟨hr.pw,hr.pos,hr.cpos,hr.len,hr.shaped,hr.nr,hr.fl,fun i j x y hi hj=>?_,fun hro=>⟨cD h.size (hr.own hro).1,(hr.own hro).2⟩,hr.imm⟩⟩
   obtain ⟨v,hv,hrep⟩:=hr.cells i j x y hi hj
   refine ⟨v,hv,?_⟩
   have hxm:=aF hi
   have hym:=aF hj
   rcases nc k bx ro nr fl w xs e hk with c | c
   ·exact hrep.of_nr (AV.nr_flat (Qp.1 (hr.nr c) x hxm) y hym)
   ·exact hrep.congr (fun o ho=>by rw [aH (c x hxm y hym o ho)])
  ·simp only [e,eT] at hk ⊢
   obtain ⟨p,hp,hr⟩:=hrel.row k bx ro nr fl w xs hk
   refine ⟨p,hp,⟨hr.pw,hr.pos,hr.cpos,hr.len,hr.shaped,hr.nr,hr.fl,fun i j x y hi hj=>?_,fun hro=>⟨(hr.own hro).1,fun m hm=>⟨((hr.own hro).2 m hm).1,?_⟩⟩,fun hro i j x y hi hj=>?_⟩⟩
   ·obtain ⟨v,hv,hrep⟩:=hr.cells i j x y hi hj
    exact ⟨v,hv,hrep.mono hM.le hle⟩
   ·subst hro
    rcases hold k _ _ _ _ _ p hk hp with hq | ⟨hz,_⟩
    ·rw [hM.old _ _ hq]; exact ((hr.own rfl).2 m hm).2
    ·rw [hz] at hm; simp at hm
   ·obtain ⟨v,hv,hrep⟩:=hr.imm hro i j x y hi hj
    exact ⟨v,hM.le _ _ _ hv,hrep.mono hM.le (Inj.le_refl _)⟩
 ·intro k fn sl ps as bd st pe hk
  by_cases e:N k
  ·simp only [e,eU] at hk; exact absurd hk (nl k _ _ _ _ _ _ _ e)
  ·simp only [e,eT] at hk ⊢
   obtain ⟨q,nt,hq,hnt,hb,tmps,hsz,hrec,hsl⟩:=hrel.loop k fn sl ps as bd st pe hk
   exact ⟨q,nt,hq,by rw [hM.keep]; exact hnt,hb,tmps,hsz,hrec,Qec hM.le hle hsl⟩
 ·intro k k' bx nr fl w xs bx' nr' fl' w' xs' q q' hkk hk hk' hq hq'
  by_cases e:N k
  ·simp only [e,eU] at hk hq
   by_cases e':N k'
   ·simp only [e',eU] at hk' hq'
    exact h1.apart k k' _ _ _ _ _ _ _ _ _ _ _ _ hkk hk hk' hq hq'
   ·simp only [e',eT] at hk' hq'
    obtain ⟨p,hp,hr⟩:=h1.row k _ _ _ _ _ _ hk
    rw [hp] at hq; cases hq
    rcases hold k' _ _ _ _ _ q' hk' hq' with hq2 | ⟨hz,hb⟩
    ·left
     have:=(hr.own rfl).1
     omega
    ·right; right
     rw [hz,hb]; simp
  ·simp only [e,eT] at hk hq
   by_cases e':N k'
   ·simp only [e',eU] at hk' hq'
    obtain ⟨p',hp',hr'⟩:=h1.row k' _ _ _ _ _ _ hk'
    rw [hp'] at hq'; cases hq'
    rcases hold k _ _ _ _ _ q hk hq with hq2 | ⟨hz,hb⟩
    ·left
     have:=(hr'.own rfl).1
     omega
    ·right; left
     rw [hz,hb]; simp
   ·simp only [e',eT] at hk' hq'
    exact h.apart _ _ _ _ _ _ _ _ _ _ _ _ _ _ hkk hk hk' hq hq'
 ·intro k k' fn sl ps as bd st pe fn' sl' ps' as' bd' st' pe' q q' hkk hk hk' hq hq'
  by_cases e:N k
  ·simp only [e,eU] at hk; exact absurd hk (nl k _ _ _ _ _ _ _ e)
  ·by_cases e':N k'
   ·simp only [e',eU] at hk'; exact absurd hk' (nl k' _ _ _ _ _ _ _ e')
   ·simp only [e,e',eT] at hk hq hk' hq'
    exact h.loops _ _ _ _ _ _ _ _ _ _ _ _ _ _ _ _ _ _ hkk hk hk' hq hq'
 ·intro k hk
  by_cases e:N k
  ·simp only [e,eU] at hk ⊢; exact h1.used k hk
  ·simp only [e,eT] at hk ⊢; exact h.used k hk
end
def famEff (k w:Nat) (fl:Bool):Nat -> List (List AV)->List (Nat × AObj)
 | _,[]=>[]
 | i,l::r=>(fid k i,.row false false true fl w l)::famEff k w fl (i+1) r
def effAt:Nat -> List AObj->List (Nat × AObj)
 | _,[]=>[]
 | k,x::r=>(k,x.plain)::((match x with | .fam w fl xs=>famEff k w fl 0 xs | _=>[])++effAt (k+1) r)
theorem Qks {k w:Nat} {fl:Bool} {id:Nat} {y:AObj}:∀{i:Nat} {xs:List (List AV)},(id,y)∈famEff k w fl i xs↔∃j l,xs[j]?=some l/\id=fid k (i+j)/\y=.row false false true fl w l
 | i,[]=>by simp [famEff]
 | i,l::r=>by
  simp only [famEff,cI,aX,Qks (i:=i+1) (xs:=r)]
  constructor
  ·rintro (⟨rfl,rfl⟩ | ⟨j,l',h1,rfl,rfl⟩)
   ·exact ⟨0,l,rfl,rfl,rfl⟩
   exact ⟨j+1,l',by simpa using h1,by congr 1; omega,rfl⟩
  rintro ⟨j,l',h1,rfl,rfl⟩
  cases j with
  | zero=>simp at h1; subst h1; exact .inl ⟨rfl,rfl⟩
  | succ j=>exact .inr ⟨j,l',by simpa using h1,by congr 1; omega,rfl⟩
theorem Qfj {id:Nat} {y:AObj}:∀{k:Nat} {xs:List AObj},(id,y)∈effAt k xs↔∃j x,xs[j]?=some x/\((id=k+j/\y=x.plain)\/∃w fl ls i l,x=.fam w fl ls/\ls[i]?=some l/\id=fid (k+j) i/\y=.row false false true fl w l)
 | k,[]=>by simp [effAt]
 | k,x::r=>by
  simp only [effAt,cI,bY,aX,Qfj (k:=k+1) (xs:=r)]
  constructor
  ·rintro (⟨rfl,rfl⟩ | h | ⟨j,x',h1,h2⟩)
   ·exact ⟨0,x,rfl,.inl ⟨rfl,rfl⟩⟩
   ·split at h
    ·rename_i w fl xs
     obtain ⟨j,l,h1,rfl,rfl⟩:=Qks.1 h
     exact ⟨0,_,rfl,.inr ⟨w,fl,xs,j,l,rfl,h1,by simp,rfl⟩⟩
    cases h
   refine ⟨j+1,x',by simpa using h1,?_⟩
   rw [show k+(j+1)=k+1+j by omega]; exact h2
  rintro ⟨j,x',h1,h2⟩
  cases j with
  | zero =>
   simp at h1; subst h1
   rcases h2 with ⟨rfl,rfl⟩ | ⟨w,fl,ls,i,l,rfl,h3,rfl,rfl⟩
   ·exact .inl ⟨rfl,rfl⟩
   exact .inr (.inl (Qks.2 ⟨i,l,h3,by simp,rfl⟩))
  | succ j =>
   refine .inr (.inr ⟨j,x',by simpa using h1,?_⟩)
   rw [show k+1+j=k+(j+1) by omega]; exact h2
theorem Qy8 {k:Nat} {xs:List AObj} (h:effAt k xs=[]):xs=[]:=by cases xs <;> simp_all [effAt]
section
variable {objs new:List AObj}
theorem Ql2 (j:Nat):(objs++new)[objs.length+j]?=new[j]?:=by
 rw [aZ (by omega),show objs.length+j - objs.length=j by omega]
theorem Qr6 {id:Nat} {y:AObj} (hb:objs.length+new.length<=BIG) (h:(id,y)∈effAt objs.length new):InR objs.length (objs.length+new.length) id/\sto (objs++new) id=some y:=by
 obtain ⟨j,x,h1,h2⟩:=Qfj.1 h
 have hj:j < new.length:=(aD.1 h1).1
 rcases h2 with ⟨rfl,rfl⟩ | ⟨w,fl,ls,i,l,rfl,h3,rfl,rfl⟩
 ·exact ⟨.inl (by omega),by rw [Xz (by omega),Ql2,h1]; rfl⟩
 exact ⟨.inr ⟨_,i,by omega,by omega,rfl⟩,Qdt (by rw [Ql2]; exact h1) h3⟩
theorem Q1c {id:Nat} (hb:objs.length+new.length<=BIG) (h:∀e∈effAt objs.length new,e.1≠id):(InR objs.length (objs.length+new.length) id->sto (objs++new) id=none)/\sto (objs++new) id=sto objs id:=by
 have hno:∀j x,new[j]?=some x->objs.length+j≠id:=fun j x hj e=>h (objs.length+j,x.plain) (Qfj.2 ⟨j,x,hj,.inl ⟨rfl,rfl⟩⟩) e
 have hfam:∀k w fl ls i l,id=fid k i->(objs++new)[k]?=some (.fam w fl ls)->ls[i]?=some l->k < objs.length:=fun k w fl ls i l e h1 h2=>by
  rcases bD k objs.length with c | c
  ·exact c
  obtain ⟨j,rfl⟩:=Nat.exists_eq_add_of_le c
  rw [Ql2] at h1
  exact absurd e.symm (h (fid (objs.length+j) i,_) (Qfj.2 ⟨j,_,h1,.inr ⟨w,fl,ls,i,l,rfl,h2,rfl,rfl⟩⟩))
 constructor
 ·intro hin
  rcases hin with ⟨c1,c2⟩ | ⟨k,i,c1,c2,rfl⟩
  ·exact absurd (Nat.add_sub_cancel' c1) (hno (id - objs.length) (new[id - objs.length]'(by omega)) (aG (by omega)))
  exact Qqy (fun w fl xs l e1 e2=>by have:=hfam k w fl xs i l rfl e1 e2; omega)
 rcases bD id BIG with c | c
 ·rw [Xz c,Xz c]
  rcases bD id objs.length with d | d
  ·rw [aY d]
  obtain ⟨j,rfl⟩:=Nat.exists_eq_add_of_le d
  rw [Ql2,dU d]
  cases hj:new[j]? with
  | none=>rfl
  | some x=>exact absurd rfl (hno j x hj)
 rcases Qah (objs++new) id with ⟨d,_⟩ | ⟨_,⟨k,i,w,fl,xs,l,rfl,e2,e3,e4⟩ | e⟩
 ·omega
 ·have hk:=hfam k w fl xs i l rfl e2 e3
  rw [e4,Qdt (by rw [aY hk] at e2; exact e2) e3]
 rw [e]
 rcases Qah objs id with ⟨d,_⟩ | ⟨_,⟨k,i,w,fl,xs,l,rfl,e2,e3,e4⟩ | e'⟩
 ·omega
 ·have hk:k < objs.length:=(aD.1 e2).1
  rw [Qdt (objs:=objs++new) (by rw [aY hk]; exact e2) e3] at e; cases e
 rw [e']
theorem Q4e (hb:objs.length+new.length<=BIG):sto (objs++new)=(sto objs).puts (effAt objs.length new):=by
 funext id
 rcases (sto objs).puts_at (effAt objs.length new) id with ⟨h1,h2⟩ | ⟨y,h1,h2⟩
 ·rw [h1]; exact (Q1c hb h2).2
 rw [h1]; exact (Qr6 hb h2).2
end
def Qqs (n m o:Nat):Bool:=Nat.ble n o && Nat.blt o m
def Qm9 (n m:Nat):AObj->Bool
 | .row _ _ nr _ _ xs=>nr || xs.all fun x=>x.flat.all fun y=>y.ids.all (Qqs n m)
 | .refs j _=>Qqs n m j
 | .fam _ _ _=>true
 | .dead=>true
 | .loop ..=>false
def Qsz:Nat -> List AObj->Bool
 | 0,_=>true
 | n+1,.dead::r=>Qsz n r
 | _,_=>false
theorem Qp2:∀{n:Nat} {objs:List AObj},Qsz n objs=true->objs=List.replicate n .dead++objs.drop n
 | 0,objs,_=>by simp
 | n+1,[],h=>by cases h
 | n+1,x::r,h=>by
  cases x <;> simp only [Qsz] at h <;> first | (cases h; done) | skip
  rw [List.replicate_succ,List.drop_succ_cons,dS,<-Qp2 h]
theorem Qnj {n m o:Nat} (h:Qqs n m o=true):n<=o/\o < m:=by
 simp only [Qqs,aE] at h
 exact ⟨bT h.1,Kl h.2⟩
section
variable {P:Program} {ops:Array Oper} {st st':St} {o:Oper} {rd:Option Nat} {base:Nat} {Φ:AOut->Prop} {d:Option (List Sk)} {i:Nat}
theorem Qn0 {k:Nat} {x:AV}:∀{i:Nat} {xs:List (List AV)},x∈Qa5 k i xs->∃j n,x=.ref (fid k j) 0 n
 | _,[],h=>by cases h
 | i,l::r,h=>by
  simp only [Qa5,cI] at h
  rcases h with rfl | h
  ·exact ⟨_,_,rfl⟩
  exact Qn0 h
theorem Q3a {n:Nat} (k:Nat):sto (List.replicate n AObj.dead) k=none\/sto (List.replicate n AObj.dead) k=some .dead:=by
 rcases Qah (List.replicate n AObj.dead) k with ⟨_,e⟩ | ⟨_,⟨j,i,w,fl,xs,l,_,e2,_⟩ | e⟩
 ·rw [e]
  rcases bD k n with h | h
  ·right; rw [cQ,aH h]; rfl
  left; rw [dU (by simpa using h)]; rfl
 ·rw [cQ] at e2
  split at e2 <;> cases e2
 exact .inl e
theorem Qv8 {f:FuncId} {fn:Func} {c:Code} {as0:List AV} {n:Nat} {e:Zh} {x:AV} {vs:Array Value} {W:World} {M:CM} (hf:P.funcs[f]?=some fn) (hb:fn.body=some c) (hle:as0.length<=fn.ntmps) (hn:n<=BIG)
  (h:Xh P none n c ⟨Vc 0 as0,List.replicate n .dead,fn.ntmps⟩ (.go e st')) (hend:e.ends=true) (hr:resultA P fn st'=some x)
  (hag:Qeg M W) (hsz:vs.size=as0.length) (hrep:∀(j:Nat) (v:Value) (a:AV),vs[j]?=some v->as0[j]?=some a->Qb M noInj v a) :
  Calls P f vs W fun ee W'=>∃v M' ι',ee=.returned v/\CM.Grow W.heap.size M M'/\Rel P W.heap.size W [] M' ι' (sto st'.objs) W'/\(∀k,¬ InB st'.objs.length k->ι' k=none)/\Qb M' ι' v x:=by
 refine callsIn_wide.1 (callsIn_of_wp_marks (F:=FW none) (n:=0) hf hb trivial ?_)
 have h0:Rel P W.heap.size W [] M noInj (sto (List.replicate n AObj.dead)) W:=(Qm2 hag).dead (fun k=>.inr (Q3a k))
 refine h W.heap.size W [] [] M noInj _ W 0 _ none ⟨h0,Qcj fn.ntmps hrep hsz,by simp; omega,⟨rfl,fun r hr=>by simp at hr,List.nodup_nil⟩,fun _ _=>rfl,by simpa using hn⟩ rfl ⟨?_,fun v hv=>by cases hv⟩
 intro e' st'' he dl' M' ι' a' W' g1 g2 g3 g4
 cases he
 have hex:e.exit'=.normal\/e.exit'=.ret:=by cases e <;> simp_all [Zh.ends,Zh.exit']
 have cut:∀R,LeavesInM (FW none) 0 P fn a'.tmps R a'.defers .returning W'->bodyPostM (FW none) 0 P fn R e.exit' a' W':=fun R hR=>by
  rcases hex with e1 | e1 <;> rw [e1] <;> exact hR
 apply cut
 rw [g4.df.defs]
 refine Qex (by simp) dl' W' g4.rel g4.df.nd g4.df.old (fun W2 h2=>?_)
 obtain ⟨v,k1,k2⟩:=Qcz h2 g4.slots hr
 exact ⟨v,k1,v,M',ι',rfl,g1,h2,g4.new,k2⟩
open Classical in
theorem Q5e {g:Operand} {args:Array Operand} {ts:Array TypeId} {f:FuncId} {fn:Func} {c:Code} {first caps as:List AV} {e:Zh} {x:AV} {s:Slots} {σ:Sto} {n:Nat} {new:List AObj}
  (hw:X0 ops s o=some true) (ho:o.op=.call { callee:=.value g,args,argTypes:=ts }) (hg:evo s g=some (.fn (.func f) first caps)) (has:Kc s args.toList=some as) (hnr:AV.nrL (first++as++caps)=true)
  (hf:P.funcs[f]?=some fn) (hb:fn.body=some c) (hn:(fn.name == "runtime.NumGoroutine")=false) (hle:(first++as++caps).length<=fn.ntmps)
  (h:Xh P none n c ⟨Vc 0 (first++as++caps),List.replicate n .dead,fn.ntmps⟩ (.go e st')) (hend:e.ends=true) (hr:resultA P fn st'=some x)
  (hob:st'.objs=List.replicate n .dead++new) (hbig:n+new.length<=BIG) (hok:new.all (Qm9 n (n+new.length))=true) (hxi:x.ids.all (Qqs n (n+new.length))=true) :
  YlL P ops o ⟨some x,effAt n new,n,n+new.length,[]⟩ s σ:=by
 intro s' σ' hs' hσ'
 have hl:=Qfh (ops:=ops) hs'
 rw [ho] at hl
 have hg':evo s' g=some (.fn (.func f) first caps):=by rw [hl g (by simp [Op.operands,Call.operands])]; exact hg
 have has':Kc s' args.toList=some as:=by rw [evos_congr (fun y hy=>hl y (by simp [Op.operands,Call.operands]; exact .inr (by simpa using hy)))]; exact has
 refine .inl ⟨by rw [Jt hs']; exact hw,?_⟩
 intro B W0 D M ι a W nn Q r next hrel hsl hfree hpost
 simp only at hfree hpost
 have hgv:=Qe hsl hg'
 generalize hgu:a.eval g=gu at hgv
 cases hgv with
 | fn _ first' caps' _ _ hy hm h1 h2 hr1 hr2 =>
 obtain ⟨l1,e1⟩:=V2 hsl has'
 refine ⟨fun _ _=>trivial,?_⟩
 rw [Oper.semAt_eq _ _ _ (by rw [ho]; simp)]
 have hrun:(execOp a.eval o).run P W=.ok (.enter f (first'++args.map a.eval++caps')) W:=by
  simp only [execOp,ho,resolve,hgu,Deferred.ofValue,Sem.run_bind,Sem.run_pure,Result.andThen_ok,invoke]
  exact Ju hf (by rw [hb]; rfl) hn _ W
 rw [hrun,Oper.uponIn_enter]
 have hrep:∀(j:Nat) (v:Value) (y:AV),(first'++args.map a.eval++caps')[j]?=some v->(first++as++caps)[j]?=some y->Qb M ι v y :=
  Qg0 h1 (by simpa using l1.symm) h2 hr1 (fun j v y hv hy=>by
   simp only [Array.getElem?_map,aT] at hv
   obtain ⟨w,hw,rfl⟩:=hv
   exact (e1 j w y (by simpa using hw) hy).2) hr2
 have hsz:(first'++args.map a.eval++caps').size=(first++as++caps).length:=by simp [h1,h2,l1]
 refine ⟨fun hd=>by simp [FW,Fence.wide] at hd,Qef ((Qv8 hf hb hle (by omega) h hend hr hrel.agree hsz (fun j v y hv hy=>(hrep j v y hv hy).of_nr (Qp.1 hnr y (aF hy)))).mono ?_)⟩
 rintro ee W1 ⟨v,M1,ι1,rfl,q1,q2,q3,q4⟩
 have hlen:(List.replicate n AObj.dead).length=n:=cK
 have hob2:st'.objs.length=n+new.length:=by rw [hob]; simp
 rw [hob] at q2
 have hb':(List.replicate n AObj.dead).length+new.length<=BIG:=by rw [hlen]; exact hbig
 have new_at : ∀k y,InR n (n+new.length) k->sto (List.replicate n AObj.dead++new) k=some y->y≠.dead->(∃j x,k=n+j/\new[j]?=some x/\y=x.plain)\/(∃w fl l,y=.row false false true fl w l):=by
  intro k y hk hy hd
  rcases Qah (List.replicate n AObj.dead++new) k with ⟨c,e⟩ | ⟨c,⟨j,i,w,fl,xs,l,_,_,_,e4⟩ | e⟩
  ·rw [e] at hy
   rcases hk with ⟨c1,c2⟩ | ⟨j,i,_,_,rfl⟩
   ·obtain ⟨j,rfl⟩:=Nat.exists_eq_add_of_le c1
    have:=Ql2 (objs:=List.replicate n AObj.dead) (new:=new) j
    rw [hlen] at this
    rw [this] at hy
    simp only [aT] at hy
    obtain ⟨x,hx,rfl⟩:=hy
    exact .inl ⟨j,x,rfl,hx,rfl⟩
   have:=J4 j i; omega
  ·rw [e4] at hy; cases hy; exact .inr ⟨_,_,_,rfl⟩
  rw [e] at hy; cases hy
 have hok':∀j x,new[j]?=some x->Qm9 n (n+new.length) x=true:=fun j x hj=>bU.1 hok x (aF hj)
 have key:=Rel.join (N:=InR n (n+new.length)) hrel q2 q1 hfree
  (fun k fn' sl ps as' bd st2 pe hk hl'=>by
   rcases new_at k _ hk hl' (by simp) with ⟨j,x,rfl,hx,e⟩ | ⟨w,fl,l,e⟩
   ·have:=hok' j x hx
    cases x <;> simp_all [Qm9,AObj.plain]
   cases e)
  (fun k bx ro nr fl w xs hk hl'=>by
   rcases new_at k _ hk hl' (by simp) with ⟨j,x,rfl,hx,e⟩ | ⟨w',fl',l,e⟩
   ·have:=hok' j x hx
    cases x with
    | row bx' ro' nr' fl' w' xs' =>
     simp only [AObj.plain] at e
     cases e
     simp only [Qm9,aN] at this
     refine this.imp (fun h=>h) (fun h z hz y hy o' ho'=>.inl (Qnj ?_))
     exact bU.1 (bU.1 (bU.1 h z hz) y hy) o' ho'
    | refs j' xs' =>
     simp only [AObj.plain] at e
     cases e
     simp only [Qm9] at this
     right
     intro z hz y hy o' ho'
     obtain ⟨q,n',rfl⟩:=Qn0 hz
     simp only [AV.flat,bZ] at hy
     subst hy
     simp only [AV.ids,bZ] at ho'
     subst ho'
     exact .inr ⟨j',q,(Qnj this).1,(Qnj this).2,rfl⟩
    | _=>simp [AObj.plain] at e
   cases e; exact .inl rfl)
 have hle2:ι.le (fun k=>if InR n (n+new.length) k then ι1 k else ι k):=fun k q hk=>by
  by_cases e:InR n (n+new.length) k
  ·rw [hfree k e] at hk; cases hk
  simp only [e,eT]; exact hk
 refine hpost v W1 M1 _ (q1.mono hrel.size) hle2 (fun k hk=>by simp only [hk,eT]) ?_ (fun y hy=>by cases hy; exact q4.congr (fun o' ho'=>by rw [aH (.inl (Qnj (bU.1 hxi o' ho')))]))
 refine key.dead (fun k=>?_)
 rcases σ'.puts_at (effAt n new) k with ⟨p1,p2⟩ | ⟨y,p1,p2⟩
 ·by_cases e:InR n (n+new.length) k
  ·right; rw [p1]; exact hrel.used k (hfree k e)
  ·left; rw [p1]; simp only [e,eT]
 ·have:=Qr6 (objs:=List.replicate n AObj.dead) hb' (by rw [hlen]; exact p2)
  rw [hlen] at this
  left; rw [p1]; simp only [this.1,eU]; exact this.2.symm
noncomputable def Qqa (P:Program) (fn:Func) (ops:Array Oper) (i:Nat) (st:St):AOut->Option St
 | .go e st'=>if e.ends && Qsz st.objs.length st'.objs && Nat.ble st'.objs.length BIG && (st'.objs.drop st.objs.length).all (Qm9 st.objs.length st'.objs.length) then match resultA P fn st',ops[i]? with
   | some x,some o=>match J7 st.slots st.nt o.dst (some x) with
    | some slots=>if x.ids.all (Qqs st.objs.length st'.objs.length) then some ⟨slots,st.objs++st'.objs.drop st.objs.length,st.nt⟩ else none
    | none=>none
   | _,_=>none
  else none
 | .pan _=>none
def Qy4 (st S:St):List Sk:=[(List.range' st.objs.length (S.objs.length - st.objs.length),[])]
theorem Q8v {f:FuncId} {fn:Func} {c:Code} {as0:List AV} (hi:Zz ops i st=some (f,as0)) (hnr:AV.nrL as0=true) (hf:P.funcs[f]?=some fn) (hb:fn.body=some c) (hn:(fn.name == "runtime.NumGoroutine")=false) (hle:Nat.ble as0.length fn.ntmps=true)
  (h:WP P none st.objs.length c ⟨Vc 0 as0,List.replicate st.objs.length .dead,fn.ntmps⟩ (fun out=>∃S,Qqa P fn ops i st out=some S/\RW P rd base ops (Zc d (Qy4 st S)) (i+1) S Φ)):RW P rd base ops d i st Φ:=by
 obtain ⟨o,g,args,ts,first,caps,as1,ho,hop,hg,has,rfl⟩:=Qax hi
 obtain ⟨h1,h2⟩:=Yo ho
 obtain ⟨out,hx,S,hS,k⟩:=h
 unfold Qqa at hS
 split at hS
 ·rename_i e st'
  split at hS
  ·rename_i hc
   simp only [aE] at hc
   obtain ⟨⟨⟨c1,c2⟩,c3⟩,c4⟩:=hc
   split at hS
   ·rename_i x o' hr ho'
    rw [h1] at ho'; cases ho'
    split at hS
    ·rename_i slots hp
     split at hS
     ·rename_i hxi
      cases hS
      have hob:=Qp2 c2
      have hl:st'.objs.length=st.objs.length+(st'.objs.drop st.objs.length).length:=by
       have:=congrArg List.length hob
       rw [aP,cK] at this
       exact this
      have hbig:st.objs.length+(st'.objs.drop st.objs.length).length<=BIG:=by rw [<-hl]; exact bT c3
      refine Qb7 (st1:=⟨slots,st.objs++st'.objs.drop st.objs.length,st.nt⟩) (s:=(List.range' st.objs.length ((st.objs++st'.objs.drop st.objs.length).length - st.objs.length),[])) ⟨o,⟨some x,effAt st.objs.length (st'.objs.drop st.objs.length),st.objs.length,st.objs.length+(st'.objs.drop st.objs.length).length,[]⟩,h1,?_,?_⟩ k
      ·refine ⟨Q5e h2 hop hg has hnr hf hb hn (bT hle) hx c1 hr hob hbig (by rw [<-hl]; exact c4) (by rw [<-hl]; exact hxi),rfl,by simp,Q4e hbig,by simp,fun _=>by simpa using hbig,fun he=>?_,hp,rfl⟩
       have:=Qy8 he
       simp [this]
      ·refine ⟨fun e' he'=>?_,fun e' he'=>by cases he'⟩
       obtain ⟨j,y,q1,q2⟩:=Qfj.1 he'
       have hj:=(aD.1 q1).1
       refine ⟨st.objs.length+j,?_,?_⟩
       ·simp only [List.mem_range'_1,aP]; omega
       ·rcases q2 with ⟨q,_⟩ | ⟨w,fl,ls,i',l,_,_,q,_⟩
        ·exact .inl q
        ·exact .inr ⟨by omega,i',q⟩
     ·cases hS
    ·cases hS
   ·cases hS
  ·cases hS
 ·cases hS
end
end Go.Ab
namespace Go.Ab
open Go.RowKit
section
variable {P:Program} {B:Nat} {W0 W:World} {D D0 dl:List Nat} {M:CM} {ι:Inj} {σ:Sto} {st st':St} {a:Act} {base:Nat}
theorem Rel.row1 (h:Rel P B W0 D M ι σ W) {o:Nat} {bx nr fl bx' nr' fl':Bool} {w:Nat} {xs xs':List AV} (hσ:σ o=some (.row bx false nr fl w xs)) (hl:xs'.length<=xs.length)
  (hs:∀x∈xs',AV.shaped x w) (hnr:nr'=true->AV.nrL xs'=true) (hfl:fl'=true->∀x∈xs',AV.scs x=true)
  (hc:∀(i j:Nat) (x' y':AV),xs'[i]?=some x'->x'.flat[j]?=some y'->∃x y,xs[i]?=some x/\x.flat[j]?=some y/\∀v,Qb M ι v y->Qb M ι v y') :
  Rel P B W0 D M ι (σ.put o (.row bx' false nr' fl' w xs')) W:=by
 obtain ⟨p,hp,hrow⟩:=h.row o _ _ _ _ _ _ hσ
 have key:=h.write (bx':=bx') (nr':=nr') (fl':=fl') (xs':=xs') hσ hp 0 [] (by simp) (cD hl hrow.len) hs hnr hfl (fun i j x y hi hj hlo hhi=>by simp at hhi)
  (fun i j x' y' hi hj _=>by
   obtain ⟨x,y,h1,h2,h3⟩:=hc i j x' y' hi hj
   obtain ⟨v,hv,hr⟩:=hrow.cells i j x y h1 h2
   exact ⟨v,by rw [<-cN]; exact hv,h3 v hr⟩)
 exact key
theorem Q2y {x y:AV} (h:y∈x.flat):∀o∈y.ids,o∈x.ids:=by
 cases x with
 | agg cs=>intro o ho; simp only [AV.ids,Qg5]; exact ⟨y,h,ho⟩
 | _=>simp only [AV.flat,bZ] at h; subst h; exact fun o ho=>ho
theorem TrE.congr {ι':Inj} {x:AV} (h:∀o∈x.ids,ι' o=ι o):TrE M ι ι' x x :=
 ⟨fun _ h=>h,fun h=>h,fun j y hj=>⟨y,hj,fun v hv=>hv.congr (fun o ho=>h o (Q2y (aF hj) o ho)),fun v hv=>hv⟩⟩
theorem TrE.ref {ι':Inj} {o o' n:Nat} (h:∀p,ι o=some p->ι' o'=some p):TrE M ι ι' (.ref o 0 n) (.ref o' 0 n):=by
 refine ⟨fun w hw=>Qj6 (f:=fun _=>some o') rfl hw,fun h=>(by cases h),fun c y' hc=>?_⟩
 cases c with
 | succ c=>simp [AV.flat] at hc
 | zero =>
  simp only [AV.flat,eX,aL] at hc
  subst hc
  refine ⟨_,rfl,fun v hv=>?_,fun v hv=>?_⟩
  ·obtain ⟨p,hp,hq⟩:=Qju hv
   exact hq _ _ (h p hp)
  obtain ⟨p,hp,_⟩:=Qju hv
  cases hp
theorem Qwu (m q:Nat) {α:Type} {enc:α->AV} {l:List α} {nr fl:Bool} {w:Nat} (hm:st.objs[m]?=some (.row false false nr fl w (l.map enc))) (hS:(⟨st.slots,st.objs.set m (.row false false nr fl w ((l.take q).map enc)),st.nt⟩:St)=st'):Wk P base st st':=by
 subst hS
 intro B W0 D0 dl M ι a W hs
 have hb:=hs.lt hm
 have hst:=Qp8 hb hm rfl
 obtain ⟨p,hp,hrow⟩:=hs.rel.row m _ _ _ _ _ _ hst
 have hmem:∀x∈(l.take q).map enc,x∈l.map enc:=fun x hx=>by
  simp only [cJ] at hx ⊢
  obtain ⟨y,hy,e⟩:=hx
  exact ⟨y,bM hy,e⟩
 refine ⟨M,ι,.refl _ _,.refl _ _,⟨?_,hs.slots,hs.nt,hs.df,fun k hk=>hs.new k (by simpa using hk),by simpa using hs.big⟩⟩
 show Rel P B W0 (dl++D0) M ι (sto (st.objs.set m _)) W
 rw [Qdo hm rfl rfl hb]
 refine hs.rel.row1 hst (by simp; omega) (fun x hx=>hrow.shaped x (hmem x hx)) (fun hn=>Qp.2 fun x hx=>Qp.1 (hrow.nr hn) x (hmem x hx)) (fun hf x hx=>hrow.fl hf x (hmem x hx))
  (fun i c x' y' hi hc=>⟨x',y',?_,hc,fun v hv=>hv⟩)
 simp only [bH,eF] at hi ⊢
 split at hi
 ·exact hi
 cases hi
variable {rd:Option Nat} {ops:Array Oper} {S:St} {o:Oper} {out:AOut} {Φ:AOut->Prop} {d:Option (List Sk)} {i:Nat}
theorem exec_post {c:Code} {e:Zh} {st1:St} (h:Xh P rd base c st (.go e st')) (hw:Wk P base st' st1):Xh P rd base c st (.go e st1):=by
 intro B W0 D0 dl M ι a W n Q r hs hr hp
 refine h B W0 D0 dl M ι a W n Q r hs hr ⟨fun e' s he dl' M' ι' a' W' g1 g2 g3 g4=>?_,fun v he=>(by cases he)⟩
 cases he
 obtain ⟨M2,ι2,k1,k2,k3⟩:=hw _ _ _ _ _ _ _ _ g4
 exact hp.go e st1 rfl dl' M2 ι2 a' W' (g1.trans k1) (g2.trans k2) g3 k3
theorem Q5a {c:Code} (h:WP P rd base c st (fun out=>match out with | .go e s=>∃s1,Wk P base s s1/\Φ (.go e s1) | .pan v=>Φ (.pan v))):WP P rd base c st Φ:=by
 obtain ⟨out,h1,h2⟩:=h
 cases out with
 | pan v=>exact ⟨_,h1,h2⟩
 | go e s=>obtain ⟨s1,h3,h4⟩:=h2; exact ⟨_,exec_post h1 h3,h4⟩
theorem Qvh {α R:Type} {enc:α->AV} {l:List α} {ob:Nat} {ro nr fl:Bool} {lo hi:Option AV} {a b:Int} {w:Nat} {A:Option R} {r:R} (hi':Qfm P ops i st=some (.ref ob 0 l.length,lo,hi,none,w)) (hrow:st.sto ob=some (.row false ro nr fl w (l.map enc)))
  (ha:loI lo=some a) (hb:hiI l.length hi=some b) (hS:Xk ops i st (some (.ref ob a.toNat (b.toNat - a.toNat))) []=some S)
  (h:(if 0<=a/\a<=b/\b<=l.length then A else none)=some r) (k:(0<=a/\a<=b/\b<=(l.length:Int))->A=some r->RW P rd base ops (Zc d [([],[ob])]) (i+1) S Φ):RW P rd base ops d i st Φ:=by
 by_cases hc:0<=a/\a<=b/\b<=(l.length:Int)
 ·exact Q6y hi' hrow ha hb hS h (fun h=>k hc h)
 ·rw [aJ hc] at h; cases h
end
end Go.Ab
namespace Go.Ab
open Go.RowKit
open Go.ChangeShapes in
theorem post_of_below {H:Type} {enc:TypeId × Value->H} {P:Program} {f:Func} {s:ChangeSpec} {apart fresh handsOn again:Bool} {W W':World} {args:Array Value} {v:Value} {ds gs:List (DataW H)} {before pa pv:List MemPlace}
  (hW:DataW.Whole enc P f.params.toList s.vars apart W args.toList ds gs before)
  (hres:∀(b:Nat) (sp:Nat -> Bool) (hd:Bool),DataW.TrodAll enc P W' b sp hd f.resultTypes.toList (v.resultList f.resultTypes.size) (s.fn H (ds++gs)).results [])
  (hargs:∀sp:Nat -> Bool,(∀p∈before,sp p.block=true)->DataW.TrodAll enc P W' 0 sp true f.params.toList args.toList (s.fn H (ds++gs)).args pa)
  (hvars:∀sp:Nat -> Bool,(∀p∈before,sp p.block=true)->DataW.TrodVars enc P W' sp s.vars (s.fn H (ds++gs)).vars pv)
  (hps:before=pa++pv) (hb:Below W.heap.size W W')
  (hok:∀(j:Nat) (t:TypeId) (r:Value),f.resultTypes[j]?=some t->(v.resultList f.resultTypes.size)[j]?=some r->Value.okWide P W' .any 0 t r) :
  s.post enc P f apart fresh handsOn again W args v W':=by
 have hold:∀p∈before,(fun b=>decide (b < W.heap.size)) p.block=true:=fun p hp=>by simpa using hW.lt p hp
 have hlt:=hW.lt
 refine ⟨ds,gs,before,[],pa,pv,hW,hres _ _ _,hargs _ hold,hvars _ hold,World.keptBut_mono (fun p hp=>⟨hp,?_⟩) (hb.frame (·∈before)),fun _=>?_⟩
 ·rw [hps,bY] at hp
  exact Or.inr hp
 ·obtain ⟨_,_,_,_,_,hz,hn⟩:=hW
  refine ⟨hok,_,_,([]++pa)++pv,⟨[]++pa,pv,trodAll_append (hargs _ (fun _ _=>rfl)) (hres _ _ _),hvars _ (fun _ _=>rfl),rfl,?_,?_⟩,?_⟩
  ·intro b off hp
   have hm:MemPlace.cell b off∈before:=by rw [hps]; simpa using hp
   have h1:b < W.heap.size:=hlt _ hm
   rw [hb.frozen h1]
   exact hz b off hm
  ·intro ha
   have:=hn ha
   rw [hps] at this
   simpa using this
  ·intro p hp _
   rw [hps]
   simpa using hp
end Go.Ab
namespace Go.Ab
open Go.RowKit
theorem Qxu {M:CM} {ι:Inj} {v:Value} {fl:Bool} (h:Qb M ι v (.lst fl [])):Qb M ι v .nils\/Qb M ι v .emn:=by
 cases h with
 | lst0 a =>
  cases a with
  | none=>exact .inl .nils
  | some a=>exact .inr (.emn a 0)
 | lst b off cap=>exact .inr (.emn _ cap)
theorem Za.nil {P:Program} {f:FuncId} {l1 l2:List AV} {fl:Bool} {out:Xx} (h1:Za P f (l1++.nils::l2) out) (h2:Za P f (l1++.emn::l2) out):Za P f (l1++.lst fl []::l2) out:=by
 intro W M vs hM hsz hr
 have hlt:l1.length < vs.size:=by simp at hsz; omega
 have h0:=hr l1.length vs[l1.length] (.lst fl []) (by simp [hlt]) (by simp)
 have other:∀y,Qb M noInj vs[l1.length] y->∀(j:Nat) (v:Value) (a:AV),vs[j]?=some v->(l1++y::l2)[j]?=some a->Qb M noInj v a:=by
  intro y hy j v a hv ha
  rcases Nat.lt_trichotomy j l1.length with c | c | c
  ·refine hr j v a hv ?_
   rw [aY c] at ha ⊢; exact ha
  ·subst c
   rw [aZ (bC _)] at ha
   simp at ha; subst ha
   rw [aM hlt] at hv; cases hv; exact hy
  refine hr j v a hv ?_
  rw [aZ (by omega)] at ha ⊢
  rw [show j - l1.length=(j - l1.length - 1)+1 by omega] at ha ⊢
  simpa using ha
 rcases Qxu h0 with e | e
 ·exact h1 W M vs hM (by simpa using hsz) (other _ e)
 exact h2 W M vs hM (by simpa using hsz) (other _ e)
section
variable {P:Program} {base:Nat} {st st':St}
end
theorem Za.froz {P:Program} {f:FuncId} {args:List AV} {v y:AV} {objs:List AObj} {ids:List Nat} (h:Za P f args (.ret v objs)) (hs:Qt (fun k=>objs[k]?) Qr v=some (y,ids)):Za P f args (.ret y []):=by
 intro W M vs hM hsz hr
 refine (h W M vs hM hsz hr).mono fun e W' he=>?_
 obtain ⟨u,M',ι',rfl,hg,hrel,hout,hv⟩:=he
 refine ⟨u,_,noInj,rfl,hg.trans (hrel.growC ids),⟨hrel.size,hrel.below,hrel.defs,Qd7 hrel.agree,fun o bx nr fl w xs p k ho=>(by simp at ho),fun o bx ro nr fl w xs ho=>(by simp at ho),fun o fn sl ps as bd st pe ho=>(by simp at ho),fun o o' bx nr fl w xs bx' nr' fl' w' xs' p p' _ ho=>(by simp at ho),fun o o' fn sl ps as bd st pe fn' sl' ps' as' bd' st' pe' p p' _ ho=>(by simp at ho),fun o _=>.inl (by simp)⟩,fun _ _=>rfl,V0 hrel ids Qr v y ids u hs (fun k hk=>hk) hv⟩
def ovr {α:Type} (l:List α) (i:Nat):List α->List α
 | []=>l
 | y::ys=>ovr (l.set i y) (i+1) ys
theorem Qgl {α:Type}:∀(m l:List α) (i:Nat),l.length=(ovr l i m).length
 | [],l,i=>rfl
 | y::ys,l,i=>by simp only [ovr]; rw [<-Qgl ys (l.set i y) (i+1),cF]
theorem Qqi {α:Type} (enc:α->AV):∀(m l:List α) (i:Nat),Kr (l.map enc) i (m.map enc)=(ovr l i m).map enc
 | [],l,i=>rfl
 | y::ys,l,i=>by
  simp only [dN,Kr,ovr]
  rw [<-Qqi enc ys (l.set i y) (i+1),List.map_set]
section
variable {P:Program} {rd:Option Nat} {base:Nat} {ops:Array Oper} {st S:St} {Φ:AOut->Prop} {d:Option (List Sk)} {i:Nat}
def Q9f (P:Program) (ops:Array Oper) (i:Nat) (st:St):Option (AV × AV × Nat) :=
 match Z9 ops i st with
 | some o=>match o.op with
  | .call { callee:=.builtin .copy,args,argTypes }=>match args.toList,argTypes.toList with
   | [x,y],t::_=>match ti P t,evo (lk st.slots) x,evo (lk st.slots) y with
    | some T,some a,some b=>match T.kind with
     | .slice e=>match ti P e with
      | some E=>some (a,b,E.size)
      | none=>none
     | _=>none
    | _,_,_=>none
   | _,_=>none
  | _=>none
 | none=>none
theorem Qx4 {σ:Sto} {α:Type} {enc:α->AV} {l:List α} {w ob:Nat} {a b:Int} {ro nr fl:Bool} (hrow:σ ob=some (.row false ro nr fl w (l.map enc))) (hc:0<=a/\a<=b/\b<=(l.length:Int)) :
  Vj σ w (.ref ob a.toNat (b.toNat - a.toNat))=some ((sub l a b).map enc,nr,fl,[ob]):=by
 have h1:Nat.ble (a.toNat + (b.toNat - a.toNat)) (l.map enc).length=true:=Nat.ble_eq_true_of_le (by simp; omega)
 simp [Vj,hrow,sub]
 omega
def Qsq (agg:Bool) (w:Nat) (cs:List AV):Option AV:=if agg then (if w<=cs.length then some (.agg (cs.take w)) else none) else cs.head?
def Qq7 (P:Program) (ops:Array Oper) (i:Nat) (st:St):Option (List AV × Int × Nat × Nat × Bool) :=
 match Z9 ops i st with
 | some o=>match o.op with
  | .index t x ix=>match ti P t,evo (lk st.slots) x,evo (lk st.slots) ix with
   | some T,some (.agg cs),some (.int _ n)=>match T.kind with
    | .array len e=>match ti P e with
     | some E=>some (cs,n,len,E.size,E.agg)
     | none=>none
    | _=>none
   | _,_,_=>none
  | _=>none
 | none=>none
theorem Qvk {cs:List AV} {n:Int} {len w:Nat} {g:Bool} (h:Qq7 P ops i st=some (cs,n,len,w,g)):∃o,Z9 ops i st=some o /\
  ∀v,0<=n->n.toNat < len->Qsq g w (cs.drop (n.toNat * w))=some v->Xf P false noC st.sto st.objs.length (lk st.slots) o=some (.val ⟨some v,[],st.objs.length,[]⟩):=by
 unfold Qq7 at h
 split at h
 ·rename_i o ho
  split at h
  ·rename_i t x ix hop
   split at h
   ·rename_i T cs' k n' hT hx hix
    split at h
    ·rename_i len' e hk
     split at h
     ·rename_i E hE
      cases h
      refine ⟨o,ho,fun v h1 h2 hv=>?_⟩
      have hneg:¬ n < 0:=by omega
      unfold Xf
      rw [hop]
      simp only [Y8,aV,eT]
      unfold evalOp
      rw [hop]
      have hv':Qbj E (cs.drop (n.toNat * E.size))=some v:=hv
      simp only [hT,hx,hix,hk,asN,hneg,eT,hE,blt_true h2,eU,hv',Z8,bP,Yy]
     ·cases h
    ·cases h
   ·cases h
  ·cases h
 ·cases h
theorem Qr1 {α:Type} {enc:α->AV} {w:Nat} (hw:∀x,Nat.beq (enc x).flat.length w=true):∀(l:List α) (j:Nat) (a:α),l[j]?=some a->∃r,(l.flatMap fun x=>(enc x).flat).drop (j*w)=(enc a).flat ++ r
 | [],j,a,h=>by simp at h
 | x::xs,0,a,h=>by
  simp at h; subst h
  exact ⟨_,by simp [List.flatMap_cons]; rfl⟩
 | x::xs,j+1,a,h=>by
  obtain ⟨r,hr⟩:=Qr1 hw xs j a (by simpa using h)
  refine ⟨r,?_⟩
  rw [List.flatMap_cons,List.drop_append,aK (hw x),List.drop_of_length_le (by rw [aK (hw x),eD]; omega),dC,show (j+1)*w - w=j*w by rw [eD]; omega]
  exact hr
theorem Q0k {g:Bool} {w:Nat} {cs r:List AV} {v:AV} (hl:cs.length=w) (h:Qsq g w cs=some v) (hne:cs≠[]):Qsq g w (cs++r)=some v:=by
 subst hl
 cases g with
 | true =>
  have h:(if cs.length<=cs.length then some (AV.agg (cs.take cs.length)) else none)=some v:=h
  show (if cs.length<=(cs++r).length then some (AV.agg ((cs++r).take cs.length)) else none)=some v
  rw [aH (by simp),List.take_append_of_le_length (bC _)]
  rw [aH (bC _)] at h; exact h
 | false =>
  cases cs with
  | nil=>exact absurd rfl hne
  | cons c cs=>exact h
theorem Q6n {α:Type} {enc:α->AV} {l:List α} {n:Int} {a:α} {w:Nat} {g:Bool} {v:AV} (hi:Qq7 P ops i st=some (l.flatMap (fun x=>(enc x).flat),n,l.length,w,g)) (hw:∀x,Nat.beq (enc x).flat.length w=true) (h0:Nat.blt 0 w=true)
  (ha:lkI l n=some a) (hv:Qsq g w (enc a).flat = some v) (hS:Xk ops i st (some v) []=some S) (k:RW P rd base ops (Zc d [([],[])]) (i+1) S Φ):RW P rd base ops d i st Φ:=by
 obtain ⟨h1,h2,h3⟩:=Qi3 ha
 obtain ⟨o,ho,hev⟩:=Qvk hi
 obtain ⟨r,hr⟩:=Qr1 hw l _ a h3
 have hl:=aK (hw a)
 refine J2 ho (hev v h1 h2 ?_) hS (X3 hS) k
 rw [hr]
 exact Q0k hl hv (fun e=>by rw [e] at hl; simp at hl; rw [<-hl] at h0; cases h0)
end
end Go.Ab
namespace Go.Ab
open Go.RowKit
theorem Qon {P:Program} {t u ty e:TypeId} {ts:Array TypeId} {i:TypeInfo} {z:Value} {k ku:IntKind} (h0:ts[0]?=some t) (h1:ts[1]?=some u) (ht:P.underlying t=some (.slice e)) (hu:P.underlying u=some (.int ku)) (hi:P.info? e=some i) (hz:i.zero=some z)
  (n:Nat) (hn:0 < n) (hs:0 < i.size) (h63:(n:Int)<=140737488355328) (hb:n*i.bytes<=140737488355328) (W:World) :
  (Builtin.append_ ts ty #[.slice none 0 0,.int k n]).run P W=.ok (.slice (some ⟨W.heap.size,0,none⟩) n (grownCap W n 0 e)) (W.drew.alloc (.cells (Builtin.zeroCells z.cells n++Builtin.zeroCells z.cells (grownCap W n 0 e - n)) e)):=by
 have hn0:n≠0:=by omega
 have hs0:i.size≠0:=by omega
 have hw:IntKind.i64.wrap (n:Int)=n:=by
  simp only [IntKind.wrap,IntKind.signed,IntKind.bits]
  simp; omega
 have h63':¬ (9223372036854775807 < (n:Int)):=by omega
 have hneg:¬ ((n:Int) < 0):=by omega
 have hb2:¬ (281474976710656 < (n:Int)*(i.bytes:Int)):=by
  have:((n*i.bytes:Nat):Int)<=140737488355328:=by omega
  rw [Int.natCast_mul] at this; omega
 have h48':¬ (281474976710656 < Builtin.nextslicecap n 0*i.bytes):=by rw [nextslicecap_zero hn]; omega
 simp [Builtin.append_,h0,h1,run_underlying ht,run_underlying hu,sizeOf,typeInfo,zeroValue,hi,hz,asInt,asIntOf,hw,hneg,hb2,hn0,hs0,h63',h48',Question.forced,run_firstCells_none,newRow,grownCap]
 intro he
 exact absurd he (Nat.mul_ne_zero hn0 hs0)
theorem Qn9 {P:Program} {t u ty e:TypeId} {ts:Array TypeId} {i:TypeInfo} {k ku:IntKind} (h0:ts[0]?=some t) (h1:ts[1]?=some u) (ht:P.underlying t=some (.slice e)) (hu:P.underlying u=some (.int ku)) (hi:P.info? e=some i) (W:World) :
  (Builtin.append_ ts ty #[.slice none 0 0,.int k 0]).run P W=.ok (.slice none 0 0) W:=by
 have hw:IntKind.i64.wrap (0:Int)=0:=by decide
 simp [Builtin.append_,h0,h1,run_underlying ht,run_underlying hu,sizeOf,typeInfo,hi,asInt,asIntOf,hw]
section
variable {P:Program} {rd:Option Nat} {base:Nat} {ops:Array Oper} {st S:St} {Φ:AOut->Prop} {d:Option (List Sk)} {i:Nat}
theorem Qy0 {B:Nat} {W0 W:World} {D:List Nat} {M:CM} {ι:Inj} {σ:Sto} {a:Act} {fr:Nat} {o:Oper} {x y:Operand} {ts:Array TypeId} {t u e:TypeId} {E:TI} {z:AV} {k ku:IntKind} {n:Nat} (h:Rel P B W0 D M ι σ W)
  (ho:o.op=.call { callee:=.builtin .append,args:=#[x,y],argTypes:=ts }) (h0:ts[0]?=some t) (h1:ts[1]?=some u) (ht:P.underlying t=some (.slice e)) (hu:P.underlying u=some (.int ku)) (hE:ti P e=some E) (hz:E.zero=some z)
  (hzok:E.zok=true) (hx:a.eval x=.slice none 0 0) (hy:a.eval y=.int k n) (hroom:Vk E.bytes n=true) (hpos:0 < E.size) (hfr:ι fr=none) :
  Q4 P B W0 D M ι σ fr a o W ⟨some (.ref fr 0 n),[(fr,.row false false z.nr z.scs E.size (List.replicate n z))],fr+1,[]⟩:=by
 obtain ⟨cs,hrun⟩:=Yv (P:=P) (W:=W) (a:=a) ho
 obtain ⟨i,zv,hi,hzv,h4,hrep,hsh⟩:=Qba hE hz
 obtain ⟨i',zv',hi',hzv',hsz,hby,hzs⟩:=Qta hE hzok
 rw [hi] at hi'; cases hi'
 rw [hzv] at hzv'; cases hzv'
 obtain ⟨r1,r2⟩:=Qwv hroom
 rcases eN n with hn | hn
 ·subst hn
  refine ⟨.slice none 0 0,W,M,ι.put fr ⟨B,0,E.size,0⟩,.inl ?_,.refl _ _,Inj.le_put _ hfr,fun k hk=>Inj.put_ne _ _ (by simp at hk; omega),h.virt hfr hpos,fun y hy=>by cases hy; exact .ref0 _ _ _ (Inj.put_same _ _ _) rfl⟩
  rw [hrun]
  simp only [builtin,List.map_toArray,dN,dO,Sem.run_bind,hx,hy]
  have:=Qn9 (P:=P) (ty:=o.type) (k:=k) h0 h1 ht hu hi W
  simp only [Int.natCast_zero] at *
  simp only [this,Result.andThen_ok,Sem.run_pure]
 ·have hap:=Qon (P:=P) (ty:=o.type) (k:=k) h0 h1 ht hu hi hzv n hn (by rw [<-h4]; exact hpos) (by omega) (by rw [<-hby]; exact r1) W
  have hge:=grownCap_ge W n 0 e
  have key:=h.drew.allocRow (o:=fr) (bx:=false) (nr:=z.nr) (fl:=z.scs) hfr (Builtin.zeroCells zv.cells n++Builtin.zeroCells zv.cells (grownCap W n 0 e - n)) e (w:=E.size) (cap:=grownCap W n 0 e) (xs:=List.replicate n z) hpos (by omega)
   (by simp only [Array.size_append,size_zeroCells,hzs]; rw [<-eG]; congr 1; omega) (by simpa using hge)
   (fun x hx=>by have:=dZ hx; subst this; rw [<-hzs]; exact hsh)
   (fun hnr=>by rw [Qp]; intro x hx; have:=dZ hx; subst this; exact hnr)
   (fun hf x hx=>by have:=dZ hx; subst this; exact hf)
   (fun a' j y q hi' hj=>by
    obtain ⟨w,hw,hr⟩:=Qf6 (hrep M ι) hsh (bC n) a' j y q hi' hj
    rw [hzs] at hw
    have hlt:=(bA.1 hw).1
    refine ⟨w,?_,hr⟩
    rw [eH (by simp only [size_zeroCells,hzs]; simpa [hzs] using hlt)]
    simp only [Builtin.zeroCells,hzs]
    exact hw)
  refine ⟨.slice (some ⟨W.heap.size,0,none⟩) n (grownCap W n 0 e),_,M,_,.inl ?_,.refl _ _,Inj.le_put _ hfr,fun k hk=>Inj.put_ne _ _ (by simp at hk; omega),key,fun y hy=>?_⟩
  ·rw [hrun]
   simp only [builtin,List.map_toArray,dN,dO,Sem.run_bind,hx,hy,hap,Result.andThen_ok,Sem.run_pure]
  ·cases hy
   exact .ref fr 0 _ ⟨W.drew.heap.size,0,E.size,grownCap W n 0 e⟩ 0 _ (Inj.put_same _ _ _) (by simpa using hge) (by simp) (.inl (by simp))
def Qw0 (P:Program) (ops:Array Oper) (i:Nat) (st:St):Option (AV × Int × AV × Nat × Nat) :=
 match Z9 ops i st with
 | some o=>match o.op with
  | .call { callee:=.builtin .append,args,argTypes }=>match args.toList,argTypes.toList with
   | [x,y],t::u::_=>match ti P t,ti P u,evo (lk st.slots) x,evo (lk st.slots) y with
    | some T,some U,some a,some (.int _ n)=>match T.kind,U.kind with
     | .slice e,.int _=>match ti P e with
      | some E=>match E.zero with
       | some z=>if E.zok && Nat.blt 0 E.bytes && Nat.blt 0 E.size then some (a,n,z,E.size,E.bytes) else none
       | none=>none
      | none=>none
     | _,_=>none
    | _,_,_,_=>none
   | _,_=>none
  | _=>none
 | none=>none
theorem Q8s {α R:Type} {enc:α->AV} {z:α} {z0:AV} {n:Int} {w bytes:Nat} {A:Option R} {r:R} (he:List LK) (b:Bool) (hi:Qw0 P ops i st=some (.nils,n,z0,w,bytes)) (hz0:Qx he z0=enc z)
  (hS:Xk ops i st (some (.ref st.objs.length 0 (List.replicate n.toNat z).length)) [(st.objs.length,.row false false z0.nr (b && z0.scs) w ((List.replicate n.toNat z).map enc))]=some S) (hl:Nat.beq S.objs.length (st.objs.length+1)=true)
  (h:(if 0<=n/\n*bytes<=140737488355328 then A else none)=some r) (k:A=some r->RW P rd base ops (Zc d [([st.objs.length],[])]) (i+1) S Φ):RW P rd base ops d i st Φ:=by
 split at h
 ·rename_i hc
  obtain ⟨c1,c2⟩:=hc
  have k:=k h
  unfold Qw0 at hi
  split at hi
  ·rename_i o ho
   split at hi
   ·rename_i args ts hop
    split at hi
    ·rename_i x y t u tr ha hts
     split at hi
     ·rename_i T U a' kk n' hT hU hx hy
      split at hi
      ·rename_i e ku hk hku
       split at hi
       ·rename_i E hE
        split at hi
        ·rename_i zz hz
         split at hi
         ·rename_i hcc
          simp only [aE] at hcc
          obtain ⟨⟨q1,q2⟩,q3⟩:=hcc
          cases hi
          obtain ⟨d1,i1,g1,g2,g3,_⟩:=Zo hT
          obtain ⟨d2,i2,g1',g2',g3',_⟩:=Zo hU
          rw [g3] at hk; rw [Zd hk] at g1
          have hku':P.underlying u=some (.int ku):=by
           rw [g3'] at hku
           cases d2 <;> simp [Vs] at hku
           rw [g1',hku]
          have hargs:=Q2r ha
          subst hargs
          obtain ⟨o1,o2⟩:=Yo ho
          have hroom:Vk E.bytes n.toNat = true:=by
           refine Qge (Yr q2) ?_
           have:((n.toNat * E.bytes:Nat):Int)<=140737488355328:=by rw [Int.natCast_mul,Int.toNat_of_nonneg c1]; exact c2
           omega
          unfold Xk at hS
          rw [o1] at hS
          simp only at hS
          split at hS
          ·rename_i objs slots hap hp
           cases hS
           have hlen:=aK hl
           simp only at hlen
           refine Qb7 (st1:=⟨slots,objs,st.nt⟩) (s:=([st.objs.length],[])) ⟨o,⟨some (.ref st.objs.length 0 (List.replicate n.toNat z).length),[(st.objs.length,.row false false z0.nr (b && z0.scs) E.size ((List.replicate n.toNat z).map enc))],st.objs.length,st.objs.length+1,[]⟩,o1,Qkv ?_ rfl hlen.symm hap hp rfl,Qjd _⟩ k
           have hy0:YlL P ops o ⟨some (.ref st.objs.length 0 n.toNat),[(st.objs.length,.row false false z0.nr z0.scs E.size (List.replicate n.toNat z0))],st.objs.length,st.objs.length+1,[]⟩ (lk st.slots) (sto st.objs):=?_
           ·have e1:(List.replicate n.toNat z0).map (Qx he)=(List.replicate n.toNat z).map enc:=by simp [List.map_replicate,hz0]
            have hy1:=Qr2 [] he b hy0
            simp only [Yp,e1,bP,Qx,cK] at hy1
            rw [cK]
            exact hy1
           intro s' σ' hs' hσ'
           have hloc:=Qfh (ops:=ops) hs'
           rw [hop] at hloc
           refine .inl ⟨by rw [Jt hs']; exact o2,?_⟩
           intro B W0 D M ι a W nn Q r' next hrel hsl hfree hpost
           have hx':=Qe hsl (show evo s' x=some AV.nils by rw [hloc x (by simp [Op.operands,Call.operands])]; exact hx)
           have hy':=Qe hsl (show evo s' y=some (AV.int kk n) by rw [hloc y (by simp [Op.operands,Call.operands])]; exact hy)
           have hn:a.eval y=.int kk (n.toNat : Int):=by rw [hy'.int_inv,Int.toNat_of_nonneg c1]
           have hdone:=Qy0 (fr:=st.objs.length) hrel hop (by have:=congrArg (fun l=>l[0]?) hts; simpa using this) (by have:=congrArg (fun l=>l[1]?) hts; simpa using this) g1 hku' hE hz q1 hx'.nils_inv hn hroom (Yr q3) (hfree _ (.inl ⟨bC _,Nat.lt_succ_self _⟩))
           refine Qko hdone (by rw [hop]; simp) ⟨fun res hr v W' M' ι' g1 g2 g3 g4 g5=>?_,fun pv hpv=>by cases hpv⟩
           cases hr
           exact hpost v W' M' ι' g1 g2 (fun k hk=>g3 k (bD k st.objs.length |>.imp_right fun h1=>Nat.le_of_not_lt fun h2=>hk (.inl ⟨h1,h2⟩))) g4 g5
          ·cases hS
         ·cases hi
        ·cases hi
       ·cases hi
      ·cases hi
     ·cases hi
    ·cases hi
   ·cases hi
  ·cases hi
 ·cases h
end
end Go.Ab
namespace Go.Ab
open Go.RowKit
inductive Sh where
 | int (k:IntKind)
 | bool
 | str
 | slice (fl ag:Bool) (w:Nat) (e:Sh)
 | cat (a b:Sh)
 | unit
def Sh.scal:Sh->Bool
 | .slice ..=>false
 | .cat a b=>a.scal && b.scal
 | _=>true
def Sh.width:Sh->Nat
 | .cat a b=>a.width+b.width
 | .unit=>0
 | _=>1
def WT:Sh->List AV->Prop
 | .int k,cs=>∃n,cs=[.int k n]/\(Lit.int k n).wf=true
 | .bool,cs=>∃b,cs=[.bool b]
 | .str,cs=>∃s,cs=[.str s]/\s.size<=maxLen
 | .slice fl ag w e,cs=>∃xs,cs=[.lst fl xs]/\xs.length<=maxLen/\∀x∈xs,WT e x.flat /\ (if ag then x=.agg x.flat else x.cell=true)
 | .cat a b,cs=>∃x y,cs=x++y/\WT a x/\WT b y
 | .unit,cs=>cs=[]
def Qjb (P:Program) (t:TypeId):Bool:=match P.underlying t with | some (.struct _)=>true | some (.array _ _)=>true | _=>false
def Qy3 (s:Sh):Nat -> Sh
 | 0=>.unit
 | n+1=>.cat s (Qy3 s n)
def Qkl (P:Program) (rec:TypeId->Option Sh):List Field->Nat -> Option Sh
 | [],_=>some .unit
 | f::r,o=>match rec f.type with
  | some s=>if Nat.beq f.offset o && Nat.beq s.width (P.cellsOf f.type) then (match Qkl P rec r (o+s.width) with | some q=>some (.cat s q) | none=>none) else none
  | none=>none
def Qj0 (P:Program):Nat -> TypeId->Option Sh
 | 0,_=>none
 | n+1,t=>match P.underlying t with
  | some .bool=>some .bool
  | some (.int k)=>some (.int k)
  | some .string=>some .str
  | some (.slice e)=>match Qj0 P n e with
   | some s=>if Nat.beq s.width (P.cellsOf e) && Nat.blt 0 (P.cellsOf e) && (Qjb P e || Nat.beq s.width 1) then some (.slice s.scal (Qjb P e) (P.cellsOf e) s) else none
   | none=>none
  | some (.struct fs)=>match Qkl P (Qj0 P n) fs.toList 0 with
   | some s=>if Nat.beq s.width (P.cellsOf t) then some s else none
   | none=>none
  | some (.array m e)=>match Qj0 P n e with
   | some s=>if Nat.beq s.width (P.cellsOf e) && Nat.beq (m*s.width) (P.cellsOf t) then some (Qy3 s m) else none
   | none=>none
  | _=>none
theorem Quw:∀{s:Sh} {cs:List AV},WT s cs->cs.length=s.width
 | .int k,cs,h=>by obtain ⟨n,rfl,_⟩:=h; rfl
 | .bool,cs,h=>by obtain ⟨n,rfl⟩:=h; rfl
 | .str,cs,h=>by obtain ⟨n,rfl,_⟩:=h; rfl
 | .slice _ _ _ _,cs,h=>by obtain ⟨n,rfl,_⟩:=h; rfl
 | .cat a b,cs,h=>by obtain ⟨x,y,rfl,h1,h2⟩:=h; simp [Sh.width,Quw h1,Quw h2]
 | .unit,cs,h=>by cases h; rfl
theorem Qqd:∀{s:Sh} {cs:List AV},WT s cs->s.scal=true->cs.all AV.sc=true
 | .int k,cs,h,_=>by obtain ⟨n,rfl,_⟩:=h; rfl
 | .bool,cs,h,_=>by obtain ⟨n,rfl⟩:=h; rfl
 | .str,cs,h,_=>by obtain ⟨n,rfl,_⟩:=h; rfl
 | .slice _ _ _ _,cs,h,hs=>by cases hs
 | .cat a b,cs,h,hs=>by
  obtain ⟨x,y,rfl,h1,h2⟩:=h
  simp only [Sh.scal,aE] at hs
  rw [List.all_append,Qqd h1 hs.1,Qqd h2 hs.2]; rfl
 | .unit,cs,h,_=>by cases h; rfl
def Qcd (M:CM) (cs:List Value) (avs:List AV):Prop:=avs.length=cs.length/\∀(j:Nat) (v:Value) (y:AV),cs[j]?=some v->avs[j]?=some y->Qb M noInj v y/\y.cell=true
theorem Qbb {M:CM} {v:Value} {y:AV} (h:Qb M noInj v y) (hc:y.cell=true):Qcd M [v] [y]:=by
 refine ⟨rfl,fun j v' y' h1 h2=>?_⟩
 cases j with
 | zero=>cases h1; cases h2; exact ⟨h,hc⟩
 | succ j=>simp at h1
theorem Qjr {M:CM} {a b:List Value} {x y:List AV} (h1:Qcd M a x) (h2:Qcd M b y):Qcd M (a++b) (x++y):=by
 refine ⟨by simp [h1.1,h2.1],fun j v z hv hz=>?_⟩
 rcases bD j a.length with hj | hj
 ·rw [aY hj] at hv
  rw [aY (by rw [h1.1]; exact hj)] at hz
  exact h1.2 j v z hv hz
 rw [aZ hj] at hv
 rw [aZ (by rw [h1.1]; exact hj),h1.1] at hz
 exact h2.2 _ v z hv hz
theorem Qv7 {α:Type} {n:Nat} {Q:Nat -> α->Prop} (h:∀i,i < n->∃x,Q i x):∃xs:List α,xs.length=n/\∀i x,xs[i]?=some x->Q i x:=by
 induction n with
 | zero=>exact ⟨[],rfl,fun i x hx=>by simp at hx⟩
 | succ n ih =>
  obtain ⟨xs,h1,h2⟩:=ih fun i hi=>h i (by omega)
  obtain ⟨x,hx⟩:=h n (by omega)
  refine ⟨xs++[x],by simp [h1],fun i y hy=>?_⟩
  rcases bD i xs.length with hi | hi
  ·rw [aY hi] at hy; exact h2 i y hy
  rw [aZ hi] at hy
  cases hk:i - xs.length with
  | zero =>
   rw [hk] at hy
   cases hy
   rw [show i=n by omega]; exact hx
  | succ k=>rw [hk] at hy; simp at hy
def Qc1 (w:World) (hg:GlobIn w):CM:=⟨fun b o=>w.cell? ⟨b,o,none⟩,hg,fun _=>none,fun _ _=>none⟩
theorem Q11 {w:World} {hg:GlobIn w} {b o:Nat}:Qc1 w hg b o=w.cell? ⟨b,o,none⟩:=rfl
theorem Qri {α β:Type} {f:α->Option β}:∀{l:List α} {r:List β},l.mapM f=some r->r.length=l.length/\∀(i:Nat) (a:α),l[i]?=some a->f a=r[i]?
 | [],r,h=>by simp at h; subst h; simp
 | a::l,r,h=>by
  simp only [List.mapM_cons,Option.pure_def,Option.bind_eq_bind,bX] at h
  obtain ⟨b,hb,bs,hbs,h⟩:=h
  cases h
  obtain ⟨h1,h2⟩:=Qri hbs
  refine ⟨by simp [h1],fun i x hx=>?_⟩
  cases i with
  | zero=>cases hx; simpa using hb
  | succ i=>simpa using h2 i x (by simpa using hx)
theorem Qtg {w:World} {base:Nat} {a:Addr} {n:Nat} {row:List Value} (h:w.cells? base a n=some row):row.length=n/\∀i,i < n->w.cell? (a.add i)=row[i]?:=by
 unfold World.cells? at h
 split at h
 ·obtain ⟨h1,h2⟩:=Qri h
  refine ⟨by simpa using h1,fun i hi=>h2 i i (by simp [hi])⟩
 cases h
theorem Q0x {w:World} {a:Addr} {v:Value} (h:w.cell? a=some v):a.spot=none:=by
 unfold World.cell? at h
 cases hs:a.spot with
 | none=>rfl
 | some s =>
  simp only [hs] at h
  split at h <;> simp at h
theorem Qlq (a:Addr):a.add 0=a:=by simp [Addr.add]
theorem Qu2 (b off k:Nat):(⟨b,off,none⟩:Addr).add k=⟨b,off+k,none⟩:=by
 unfold Addr.add
 split
 ·rename_i h; subst h; rfl
 rfl
section
variable {H:Type} {enc:TypeId × Value->H} {P:Program} {w:World} {base:Nat} {hg:GlobIn w}
theorem Qpt {cs:List Value} {m:Nat} {rec:TypeId->Option Sh} (ih:∀(t:TypeId) (s:Sh),rec t=some s->∀(cs:List Value) (x:DataW H × List MemPlace),DataW.trod enc P w base (fun _=>true) true m t cs=some x->∃avs,Qcd (Qc1 w hg) cs avs/\WT s avs) :
  ∀(l:List Field) (o:Nat) (s:Sh),Qkl P rec l o=some s->(∀f∈l,∃x,DataW.trod enc P w base (fun _=>true) true m f.type ((cs.drop f.offset).take (P.cellsOf f.type))=some x)->∃avs,Qcd (Qc1 w hg) ((cs.drop o).take s.width) avs/\WT s avs
 | [],o,s,h,_=>by
  cases h
  exact ⟨[],⟨by simp [Sh.width],fun j v y h1 h2=>by simp at h2⟩,rfl⟩
 | f::l,o,s,h,hf=>by
  unfold Qkl at h
  split at h
  rotate_left
  ·cases h
  rename_i s1 hs1
  split at h
  rotate_left
  ·cases h
  rename_i hc
  split at h
  rotate_left
  ·cases h
  rename_i q hq
  cases h
  simp only [aE] at hc
  have h1:=aK hc.1
  have h2:=aK hc.2
  obtain ⟨x,hx⟩:=hf f (by simp)
  rw [h1,<-h2] at hx
  obtain ⟨a1,c1,w1⟩:=ih _ _ hs1 _ _ hx
  obtain ⟨a2,c2,w2⟩:=Qpt ih l (o+s1.width) q hq (fun g hg=>hf g (by simp [hg]))
  refine ⟨a1++a2,?_,a1,a2,rfl,w1,w2⟩
  have e:(cs.drop o).take (s1.width+q.width)=(cs.drop o).take s1.width++(cs.drop (o+s1.width)).take q.width:=by
   rw [List.take_add,List.drop_drop]
  simp only [Sh.width]
  rw [e]
  exact Qjr c1 c2
theorem Qw1 {cs:List Value} {M:CM} {s:Sh} {n:Nat} (h:∀i,i < n->∃avs,Qcd M ((cs.drop (i*s.width)).take s.width) avs/\WT s avs):∀(k o:Nat),o+k=n->∃avs,Qcd M ((cs.drop (o*s.width)).take (k*s.width)) avs/\WT (Qy3 s k) avs
 | 0,o,_=>⟨[],⟨by simp,fun j v y h1 h2=>by simp at h2⟩,rfl⟩
 | k+1,o,hk=>by
  obtain ⟨a1,c1,w1⟩:=h o (by omega)
  obtain ⟨a2,c2,w2⟩:=Qw1 h k (o+1) (by omega)
  refine ⟨a1++a2,?_,a1,a2,rfl,w1,w2⟩
  have e:(cs.drop (o*s.width)).take ((k+1)*s.width)=(cs.drop (o*s.width)).take s.width++(cs.drop ((o+1)*s.width)).take (k*s.width):=by
   rw [eD k,cO,List.take_add,List.drop_drop,eD o]
  rw [e]
  exact Qjr c1 c2
theorem Qtr (cs:List AV):(AV.agg cs).flat = cs:=rfl
theorem Qhp:∀(n:Nat) (t:TypeId) (s:Sh),Qj0 P n t=some s->∀(m:Nat) (cs:List Value) (x:DataW H × List MemPlace),DataW.trod enc P w base (fun _=>true) true m t cs=some x->∃avs,Qcd (Qc1 w hg) cs avs/\WT s avs
 | 0,t,s,h=>by simp [Qj0] at h
 | n+1,t,s,h=>by
  intro m cs x hx
  unfold Qj0 at h
  split at h
  ·rename_i ht
   cases h
   obtain ⟨b,rfl,_⟩:=DataW.trod_bool ht hx
   exact ⟨[.bool b],Qbb (.bool b) rfl,b,rfl⟩
  ·rename_i k ht
   cases h
   obtain ⟨z,rfl,_,hw⟩:=DataW.trod_int ht hx
   exact ⟨[.int k z],Qbb (.int k z) rfl,z,rfl,hw⟩
  ·rename_i ht
   cases h
   obtain ⟨z,rfl,_,hw⟩:=DataW.trod_string ht hx
   exact ⟨[.str z],Qbb (.str z) rfl,z,rfl,hw⟩
  ·rename_i e ht
   split at h
   rotate_left
   ·cases h
   rename_i s1 hs1
   split at h
   rotate_left
   ·cases h
   rename_i hc
   cases h
   simp only [aE,aN] at hc
   obtain ⟨⟨hw,hpos⟩,hag⟩:=hc
   have hw:=aK hw
   have hpos:0 < P.cellsOf e:=by simpa using hpos
   rcases DataW.trod_slice ht hx with ⟨rfl,_⟩ | ⟨a,len,cap,elems,rest,n',_,rfl,_,hb,hl,hm,hlen,hel,hsp,_⟩
   ·exact ⟨[.lst s1.scal []],Qbb (.lst0 none _) rfl,[],rfl,by simp,fun x hx=>by cases hx⟩
   have hsp:=hsp rfl
   have hspot:0 < cap->a.spot=none:=fun hcap=>by
    have key:∃row,w.cells? base a (P.cellsOf e)=some row:=by
     rcases eN len with h0 | h0
     ·have:=hsp.2 0 (by omega)
      rw [aG (by omega)] at this
      obtain ⟨row,h1,_⟩:=bX.1 this
      rw [h0,eS,Nat.zero_mul,Qlq] at h1
      exact ⟨row,h1⟩
     have:=hel 0 h0
     rw [aG (by omega)] at this
     obtain ⟨row,h1,_⟩:=bX.1 this
     rw [Nat.zero_mul,Qlq] at h1
     exact ⟨row,h1⟩
    obtain ⟨row,hk⟩:=key
    obtain ⟨h1,h2⟩:=Qtg hk
    have h3:=h2 0 hpos
    rw [aG (by omega),Qlq] at h3
    exact Q0x h3
   rcases eN cap with h0 | h0
   ·have hl0:len=0:=by omega
    subst h0; subst hl0
    exact ⟨[.lst s1.scal []],Qbb (.lst0 _ _) rfl,[],rfl,by simp,fun x hx=>by cases hx⟩
   have hspot:=hspot h0
   obtain ⟨blk,off,spot⟩:=a
   simp only at hspot
   subst hspot
   have each:∀i,i < len->∃z:AV,z.shaped (P.cellsOf e)/\WT s1 z.flat /\ (if Qjb P e then z=.agg z.flat else z.cell=true)/\∀(j:Nat) (y:AV),z.flat[j]?=some y->∃v,w.cell? ⟨blk,off+i*P.cellsOf e+j,none⟩=some v/\Qb (Qc1 w hg) noInj v y:=by
    intro i hi
    have h1:=hel i hi
    rw [aG (by omega)] at h1
    obtain ⟨row,h2,h3⟩:=bX.1 h1
    obtain ⟨avs,c1,w1⟩:=Qhp n e s1 hs1 _ _ _ h3
    obtain ⟨g1,g2⟩:=Qtg h2
    have hlen':=Quw w1
    have cellv:∀(j:Nat) (y:AV),avs[j]?=some y->∃v,w.cell? ⟨blk,off+i*P.cellsOf e+j,none⟩=some v/\Qb (Qc1 w hg) noInj v y/\y.cell=true:=fun j y hy=>by
     have hj:=(aD.1 hy).1
     have h5:=g2 j (by omega)
     have h6:row[j]?=some row[j]:=aG (by rw [<-c1.1]; exact hj)
     rw [h6] at h5
     refine ⟨_,?_,c1.2 j _ y h6 hy⟩
     rw [Qu2,Qu2] at h5
     exact h5
    by_cases ha:Qjb P e=true
    ·refine ⟨.agg avs,⟨.inl rfl,by rw [Qtr]; omega,fun y hy=>?_⟩,w1,by rw [aH ha]; rfl,fun j y hy=>?_⟩
     ·rw [Qtr] at hy
      obtain ⟨j,hj⟩:=bW.1 hy
      obtain ⟨_,_,_,h⟩:=cellv j y hj
      exact h
     obtain ⟨v,h1,h2,_⟩:=cellv j y hy
     exact ⟨v,h1,h2⟩
    have h1:s1.width=1:=by
     rcases hag with h | h
     ·exact absurd h ha
     exact aK h
    obtain ⟨z,rfl⟩:∃z,avs=[z]:=by
     match avs,hlen' with
     | [z],_=>exact ⟨z,rfl⟩
     | [],h=>simp [h1] at h
     | _::_::_,h=>simp [h1] at h
    obtain ⟨v,hv,hr,hcell⟩:=cellv 0 z rfl
    have hflat : z.flat = [z]:=by cases z <;> simp_all [AV.flat,AV.cell]
    refine ⟨z,⟨.inr hcell,by rw [hflat]; simp; omega,fun y hy=>by rw [hflat] at hy; simp at hy; rw [hy]; exact hcell⟩,by rw [hflat]; exact w1,by rw [aJ ha]; exact hcell,fun j y hy=>?_⟩
    rw [hflat] at hy
    cases j with
    | zero=>cases hy; exact ⟨v,by simpa using hv,hr⟩
    | succ j=>simp at hy
   obtain ⟨xs,hxl,hxs⟩:=Qv7 each
   refine ⟨[.lst s1.scal xs],Qbb ?_ rfl,xs,rfl,by omega,fun z hz=>?_⟩
   ·have:=Qb.lst (M:=Qc1 w hg) (ι:=noInj) blk off cap (P.cellsOf e) s1.scal xs (fun i j=>(w.cell? ⟨blk,off+i*P.cellsOf e+j,none⟩).getD default) (by omega)
     (fun hfl z hz=>by
      obtain ⟨i,hi⟩:=bW.1 hz
      exact Qqd (hxs i z hi).2.1 hfl)
     (fun z hz=>by
      obtain ⟨i,hi⟩:=bW.1 hz
      exact (hxs i z hi).1)
     (fun i j z y hz hy=>by
      obtain ⟨v,h1,h2⟩:=(hxs i z hz).2.2.2 j y hy
      simp only [Q11]
      rw [h1]; rfl)
     (fun i j z y hz hy=>by
      obtain ⟨v,h1,h2⟩:=(hxs i z hz).2.2.2 j y hy
      rw [h1]; exact h2)
    rwa [hxl] at this
   obtain ⟨i,hi⟩:=bW.1 hz
   exact ⟨(hxs i z hi).2.1,(hxs i z hi).2.2.1⟩
  ·rename_i fs ht
   split at h
   rotate_left
   ·cases h
   rename_i s1 hs1
   split at h
   rotate_left
   ·cases h
   rename_i hw
   cases h
   have hw:=aK hw
   obtain ⟨xs,n',_,_,hl,hxs,hf⟩:=DataW.trod_struct ht hx
   obtain ⟨avs,c1,w1⟩:=Qpt (cs:=cs) (m:=n') (rec:=Qj0 P n) (fun t s hs cs x hx=>Qhp n t s hs _ _ _ hx) fs.toList 0 s hs1 (fun f hf'=>by
    obtain ⟨i,hi⟩:=bW.1 hf'
    have h1:=hf i f (by simpa using hi)
    have hi':=(aD.1 hi).1
    rw [aG (by rw [hxs]; simpa using hi')] at h1
    exact ⟨_,h1⟩)
   refine ⟨avs,?_,w1⟩
   rw [List.drop_zero,List.take_of_length_le (by omega)] at c1
   exact c1
  ·rename_i m0 e ht
   split at h
   rotate_left
   ·cases h
   rename_i s1 hs1
   split at h
   rotate_left
   ·cases h
   rename_i hw
   cases h
   simp only [aE] at hw
   have h1:=aK hw.1
   have h2:=aK hw.2
   obtain ⟨xs,n',_,_,hl,hxs,hf⟩:=DataW.trod_array ht hx
   obtain ⟨avs,c1,w1⟩:=Qw1 (cs:=cs) (M:=Qc1 w hg) (s:=s1) (n:=m0) (fun i hi=>by
    have h3:=hf i hi
    rw [aG (by omega),<-h1] at h3
    exact Qhp n e s1 hs1 _ _ _ h3) m0 0 (by omega)
   refine ⟨avs,?_,w1⟩
   rw [Nat.zero_mul,List.drop_zero,List.take_of_length_le (by omega)] at c1
   exact c1
  cases h
theorem arg_struct {t:TypeId} {s:Sh} {v:Value} {d:DataW H} {ps:List MemPlace} {b0:Nat} (n:Nat) (hs:Qj0 P n t=some s) (ha:Qjb P t=true) (hok:Value.okWide P w .any b0 t v)
  (h:DataW.Trod enc P w base (fun _=>true) true t v d ps):∃avs,Qb (Qc1 w hg) noInj v (.agg avs)/\WT s avs:=by
 obtain ⟨m,hm⟩:=h
 obtain ⟨avs,c1,w1⟩:=Qhp n t s hs m _ _ hm
 have hv:∃cs,v=.agg cs:=by
  unfold Qjb at ha
  unfold Value.okWide at hok
  split at ha
  ·rename_i fs hfs
   rw [hfs] at hok
   obtain ⟨cs,h1,_⟩:=hok
   exact ⟨cs,h1⟩
  ·rename_i m0 e hfs
   rw [hfs] at hok
   obtain ⟨cs,h1,_⟩:=hok
   exact ⟨cs,h1⟩
  cases ha
 obtain ⟨cs,rfl⟩:=hv
 refine ⟨avs,.agg cs avs (by simpa [Value.cells] using c1.1.symm) (fun y hy=>?_) (fun j u y hu hy=>?_),w1⟩
 ·obtain ⟨j,hj⟩:=bW.1 hy
  have hj':=(aD.1 hj).1
  rw [c1.1] at hj'
  exact (c1.2 j _ y (aG hj') hj).2
 ·exact (c1.2 j u y (by simpa [Value.cells] using hu) hy).1
end
theorem sameAt_of {W W':World} (h:∀b,b < W.heap.size->W'.heap[b]?=W.heap[b]?) {p:MemPlace} (hp:p.block < W.heap.size):W.sameAt W' p:=by
 cases p with
 | cell b off =>
  show W'.cell? ⟨b,off,none⟩=W.cell? ⟨b,off,none⟩
  unfold World.cell?
  rw [h b hp]
 | map b=>exact h b hp
theorem calls_args {P:Program} {f:FuncId} {args:List AV} {b:Bool} (h:Za P f args (.ret (.bool b) [])) {W:World} {hg:GlobIn W} {vs:Array Value} (hl:vs.size=args.length)
  (hr:∀(j:Nat) (v:Value) (a:AV),vs[j]?=some v->args[j]?=some a->Qb (Qc1 W hg) noInj v a):Calls P f vs W fun e W'=>e=.returned (.bool b)/\Below W.heap.size W W'/\∀b,b < W.heap.size->W'.heap[b]?=W.heap[b]?:=by
 refine (h W (Qc1 W hg) vs ⟨fun _ _ _ h=>h,fun b x h=>(by cases h),fun b o v h=>(by cases h)⟩ hl hr).mono fun e W' he=>?_
 obtain ⟨v,M',ι',he,_,hrel,_,hv⟩:=he
 cases hv
 exact ⟨he,hrel.below.toBelow,fun b hb=>hrel.below.block b hb⟩
theorem Q8q {x:AV} (h:x.cell=true):x.flat = [x]:=by cases x <;> simp_all [AV.flat,AV.cell]
theorem Q14 {α:Type} {enc:α->AV} {R:α->Prop} {xs:List AV} (h:∀x∈xs,∃a,x=enc a/\R a):∃l:List α,xs=l.map enc/\∀a∈l,R a:=by
 induction xs with
 | nil=>exact ⟨[],rfl,fun n hn=>by cases hn⟩
 | cons x xs ih =>
  obtain ⟨l,rfl,hl⟩:=ih fun y hy=>h y (by simp [hy])
  obtain ⟨a,rfl,ha⟩:=h x (by simp)
  refine ⟨a::l,rfl,fun m hm=>?_⟩
  rcases cI.1 hm with rfl | hm
  ·exact ha
  exact hl m hm
end Go.Ab
namespace Go.Ab
open Go.RowKit
def Qw6 (P:Program) (t:TypeId):Bool:=match P.underlying t with | some (.int _)=>true | some .bool=>true | some .string=>true | some (.slice _)=>true | _=>false
section
variable {H:Type} {enc:TypeId × Value->H} {P:Program} {w:World} {base:Nat} {hg:GlobIn w}
theorem arg_cell {t:TypeId} {s:Sh} {v:Value} {d:DataW H} {ps:List MemPlace} {b0:Nat} (n:Nat) (hs:Qj0 P n t=some s) (ha:Qw6 P t=true) (hok:Value.okWide P w .any b0 t v)
  (h:DataW.Trod enc P w base (fun _=>true) true t v d ps):∃y,Qb (Qc1 w hg) noInj v y/\WT s [y]:=by
 obtain ⟨m,hm⟩:=h
 obtain ⟨avs,c1,w1⟩:=Qhp n t s hs m _ _ hm
 have hv:v.cells=#[v]:=by
  cases v with
  | agg cs =>
   exfalso
   unfold Qw6 at ha
   unfold Value.okWide at hok
   split at ha <;> (rename_i hu; first | (rw [hu] at hok; unfold Cell.okWide at hok; rw [hu] at hok; unfold Cell.ok at hok; rw [hu] at hok; exact hok) | cases ha)
  | _=>rfl
 rw [hv] at c1
 obtain ⟨h1,h2⟩:=c1
 simp at h1
 obtain ⟨y,rfl⟩:∃y,avs=[y]:=List.length_eq_one_iff.1 h1
 exact ⟨y,(h2 0 v y rfl rfl).1,w1⟩
end
end Go.Ab
namespace Go.Ab
section
variable {P:Program} {rd:Option Nat} {base:Nat} {ops:Array Oper} {st S:St} {Φ:AOut->Prop} {d:Option (List Sk)} {i:Nat} {c y:Code}
theorem rga {id:Nat} (hm:P.follows .mixedOrders=true) (h:RW P rd base ops (some []) 0 st Φ) (hB:Qqj ops=true:=by kernel_rfl):WP P rd base (.region id ops true) st Φ:=Q4p (by simp [hm]) (Qxf hB) h
def gt (o:Option St) (d:St):St:=match o with | some S=>S | none=>d
noncomputable def lx (P:Program) (ops:Array Oper) (i:Nat) (st:St) (hv he:List LK) (b:Bool):St:=gt (Qxy P false ops i st hv he b) st
theorem Q58 {o:Option St} {d:St} (h:o.isSome=true):o=some (gt o d):=by
 cases o with
 | none=>cases h
 | some S=>rfl
theorem sl (nf:Bool) (hv he:List LK) (b:Bool) (hn:nf=false) (hk:RW P rd base ops (Zc d [Qvf P nf ops i st]) (i+1) (lx P ops i st hv he b) Φ) (h:(Qxy P false ops i st hv he b).isSome=true:=by kernel_rfl):RW P rd base ops d i st Φ:=by
 subst hn; exact sgL false hv he b (Q58 h) hk
theorem kr {α:Sort _} {a b:α} (h:a=b:=by kernel_rfl):a=b:=h
def gt0 (o:Option St):St:=match o with | some S=>S | none=>⟨[],[],0⟩
theorem gE {o:Option St} (h:o.isSome=true:=by kernel_rfl):o=some (gt0 o):=by
 cases o with
 | none=>cases h
 | some S=>rfl
def Q3r (b:Bool):List Nat -> List (Nat × AV)->List (Nat × AV)
 | [],s=>s
 | t::ts,s=>Q3r b ts (setS s t (.bool b))
def pB (ts:List Nat) (b:Bool) (st:St):St:=⟨Q3r b ts st.slots,st.objs,st.nt⟩
def setLen (n:Nat):AV->AV
 | .ref o i _=>.ref o i n
 | .lin o i _=>.lin o i n
 | x=>x
def Q3n (n:Nat):List Nat -> List (Nat × AV)->List (Nat × AV)
 | [],s=>s
 | t::ts,s=>Q3n n ts (match lk s t with | some x=>setS s t (setLen n x) | none=>s)
def pL (ts:List Nat) (n:Nat) (st:St):St:=⟨Q3n n ts st.slots,st.objs,st.nt⟩
theorem rb (ts:List Nat) {R:Type} {b:Bool} {A B:Option R} {r:R} (h:(if b=true then A else B)=some r) (h1:b=true->A=some r->RW P rd base ops d i (pB ts true st) Φ) (h2:b=false->B=some r->RW P rd base ops d i (pB ts false st) Φ) (hS:st=pB ts b st:=by kernel_rfl):RW P rd base ops d i st Φ:=by
 rw [hS]; exact Q8o (S:=fun b=>pB ts b st) h h1 h2
end
abbrev z1:List Int->AV:=eL true eI
abbrev z2:List (List Int)->AV:=eL false z1
abbrev zw:Int->Int:=IntKind.i64.wrap
abbrev zv:Int->Int:=IntKind.u64.wrap
abbrev zb:Int -> BitVec (IntKind.bits .u64):=BitVec.ofInt (IntKind.bits .u64)
abbrev zk:Nat:=IntKind.bits .u64
abbrev zp:Int×Int -> AV:=fun x=>.agg [vI x.1,vI x.2]
abbrev zq:Int×Int -> Int×Int -> Bool:=fun a b=>(a.1==b.1) && ((a.2==b.2) && true)
abbrev zt:Int->Nat := Int.toNat
abbrev zn {α:Type} (l:List α):Int:=(l.length:Int)
end Go.Ab
namespace Go.Ab
def Qj5 {σ ρ:Type} (F:(σ->Option ρ)->σ->Option ρ):Nat -> σ->Option ρ
 | 0,_=>none
 | n+1,s=>F (Qj5 F n) s
def Qh7 (P:Program) (N:Nat) (c:Code) {σ ρ:Type} (I:σ->St) (E:ρ->St) (d:σ->Option ρ):Prop :=
 ∀s x,d s=some x->WP P none N c (I s) (fun o=>o=.go .ret (E x)\/o=.go .normal (E x))
theorem Qy9 {P:Program} {N:Nat} {c:Code} {σ ρ:Type} {I:σ->St} {E:ρ->St} {F:(σ->Option ρ)->σ->Option ρ}
  (step:∀d,Qh7 P N c I E d->∀s x,F d s=some x->WP P none N c (I s) (fun o=>o=.go .ret (E x)\/o=.go .normal (E x))):∀n,Qh7 P N c I E (Qj5 F n)
 | 0=>fun s x h=>by cases h
 | n+1=>fun s x h=>step _ (Qy9 step n) s x h
section
variable {P:Program} {rd:Option Nat} {base:Nat} {ops:Array Oper} {st:St} {Φ:AOut->Prop} {i:Nat}
theorem Q86 {σ ρ R:Type} {N:Nat} {c:Code} {I:σ->St} {E:ρ->St} {d:σ->Option ρ} {K:ρ->Option R} {r:R} {f:FuncId} {fn:Func} {as0:List AV} (s0:σ)
  (hi:Zz ops i st=some (f,as0)) (hf:P.funcs[f]?=some fn) (hb:fn.body=some c) (hn:(fn.name == "runtime.NumGoroutine")=false) (hle:Nat.ble as0.length fn.ntmps=true)
  (h0:(⟨Vc 0 as0,st.objs,fn.ntmps⟩:St)=I s0) (hN:st.objs.length=N) (IH:Qh7 P N c I E d) (h:(d s0).bind K=some r)
  (k:∀x,K x=some r->∃S,Qi9 P fn ops i st (.go .ret (E x))=some S/\RW P rd base ops none (i+1) S Φ):RW P rd base ops none i st Φ:=by
 cases hx:d s0 with
 | none=>rw [hx] at h; cases h
 | some x =>
  rw [hx] at h
  refine Q6f hi hf hb hn hle ?_
  rw [h0,hN]
  obtain ⟨out,h1,h2⟩:=IH s0 x hx
  refine ⟨out,h1,?_⟩
  rcases h2 with rfl | rfl
  ·exact k x h
  obtain ⟨S,k1,k2⟩:=k x h
  exact ⟨S,by rw [<-k1]; rfl,k2⟩
end
section
variable {P:Program} {rd:Option Nat} {base:Nat} {ops:Array Oper} {st:St} {Φ:AOut->Prop} {i:Nat}
theorem Q82 {σ ρ R:Type} {N:Nat} {c:Code} {I:σ->St} {E:ρ->St} {F:(σ->Option ρ)->σ->Option ρ} {K:ρ->Option R} {r:R} {f:FuncId} {fn:Func} {as0:List AV} (s0:σ)
  (hi:Zz ops i st=some (f,as0)) (hf:P.funcs[f]?=some fn) (hb:fn.body=some c) (hn:(fn.name == "runtime.NumGoroutine")=false) (hle:Nat.ble as0.length fn.ntmps=true)
  (h0:(⟨Vc 0 as0,st.objs,fn.ntmps⟩:St)=I s0) (hN:st.objs.length=N) (h:(Qj5 F fuel s0).bind K=some r)
  (step:∀d,Qh7 P N c I E d->∀s x,F d s=some x->WP P none N c (I s) (fun o=>o=.go .ret (E x)\/o=.go .normal (E x)))
  (k:∀x,K x=some r->∃S,Qi9 P fn ops i st (.go .ret (E x))=some S/\RW P rd base ops none (i+1) S Φ):RW P rd base ops none i st Φ :=
 Q86 s0 hi hf hb hn hle h0 hN (Qy9 step fuel) h k
end
theorem Qr8 {σ ρ:Type} {F:(σ->Option ρ)->σ->Option ρ} (I:σ->Prop) (m:σ->Nat) (Q:σ->ρ->Prop)
  (step:∀d s,I s->(∀s',I s'->m s' < m s->∃x,d s'=some x/\Q s' x)->∃x,F d s=some x/\Q s x):∀(n:Nat) (s:σ),I s->m s < n->∃x,Qj5 F n s=some x/\Q s x
 | 0,s,_,h=>by omega
 | n+1,s,hI,h=>step (Qj5 F n) s hI (fun s' h1 h2=>Qr8 I m Q step n s' h1 (by omega))
end Go.Ab
namespace Go.Ab
open Go.RowKit
def Qul (P:Program) (f:FuncId) (az:List AV) (objs:List AObj) (r:AV) (objs':List AObj):Prop :=
 ∀(B:Nat) (W0 W:World) (D:List Nat) (M:CM) (ι:Inj) (vs:Array Value),Rel P B W0 D M ι (sto objs) W->D.Nodup->(∀k,¬ InB objs.length k->ι k=none)->objs.length<=BIG->vs.size=az.length ->
  (∀(j:Nat) (v:Value) (a:AV),vs[j]?=some v->az[j]?=some a->Qb M ι v a) ->
  Calls P f vs W fun e W'=>∃v M' ι',e=.returned v/\CM.Grow B M M'/\ι.le ι'/\Rel P B W0 D M' ι' (sto objs') W'/\(∀k,¬ InB objs'.length k->ι' k=none)/\objs'.length<=BIG/\Qb M' ι' v r
theorem Qxv {P:Program} {rd:Option Nat} {base:Nat} {o:Oper} {st:St} {g:Operand} {args:Array Operand} {ts:Array TypeId} {f:FuncId} {fn:Func} {first caps az:List AV} {x:AV} {objs':List AObj} {slots:List (Nat × AV)}
  (ho:o.op=.call { callee:=.value g,args,argTypes:=ts }) (hg:evo (lk st.slots) g=some (.fn (.func f) first caps)) (has:Kc (lk st.slots) args.toList=some az)
  (hf:P.funcs[f]?=some fn) (hb:fn.body.isSome=true) (hn:(fn.name == "runtime.NumGoroutine")=false)
  (h:Qul P f (first++az++caps) st.objs x objs') (hput:J7 st.slots st.nt o.dst (some x)=some slots) :
  OpX P rd base o st (.go .normal ⟨slots,objs',st.nt⟩):=by
 intro B W0 D0 dl M ι a W n Q r hs hr' hp
 have hgv:=Qe hs.slots hg
 generalize hgu:a.eval g=gu at hgv
 cases hgv with
 | fn _ first' caps' _ _ hy hm h1 h2 hr1 hr2 =>
 obtain ⟨l1,e1⟩:=V2 hs.slots has
 refine ⟨fun _ _=>trivial,?_⟩
 rw [Oper.semAt_eq _ _ _ (by rw [ho]; simp)]
 have hrun:(execOp a.eval o).run P W=.ok (.enter f (first'++args.map a.eval++caps')) W:=by
  simp only [execOp,ho,resolve,hgu,Deferred.ofValue,Sem.run_bind,Sem.run_pure,Result.andThen_ok,invoke]
  exact Ju hf hb hn _ W
 rw [hrun,Oper.uponIn_enter]
 have hrep:∀(j:Nat) (v:Value) (y:AV),(first'++args.map a.eval++caps')[j]?=some v->(first++az++caps)[j]?=some y->Qb M ι v y :=
  Qg0 h1 (by simpa using l1.symm) h2 hr1 (fun j v y hv hy=>by
   simp only [Array.getElem?_map,aT] at hv
   obtain ⟨w,hw,rfl⟩:=hv
   exact (e1 j w y (by simpa using hw) hy).2) hr2
 refine ⟨fun hd=>by simp [FW,Fence.wide] at hd,Qef ((h B W0 W (dl++D0) M ι _ hs.rel hs.df.nd hs.new hs.big (by simp [h1,h2,l1]) hrep).mono ?_)⟩
 rintro e W' ⟨v,M',ι',rfl,g1,g2,g3,g4,g4b,g5⟩
 obtain ⟨k1,k2,k3⟩:=Qct (u:=v) (hs.slots.mono g1.le g2) hs.nt hput (fun y hy=>by cases hy; exact g5)
 exact hp.go .normal _ rfl dl M' ι' _ W' g1 (g2.leB base) (List.suffix_refl _) ⟨g3,k1,k2,hs.df.put,g4,g4b⟩
def Qo4 (ops:Array Oper) (i:Nat) (st:St) (x:AV) (objs':List AObj):Option St :=
 match ops[i]? with
 | some o=>match J7 st.slots st.nt o.dst (some x) with
  | some slots=>some ⟨slots,objs',st.nt⟩
  | none=>none
 | none=>none
section
variable {P:Program} {rd:Option Nat} {base:Nat} {ops:Array Oper} {st:St} {Φ:AOut->Prop} {i:Nat}
theorem Q5i {f:FuncId} {fn:Func} {as0:List AV} {x:AV} {objs':List AObj} {S:St} (hi:Zz ops i st=some (f,as0)) (hf:P.funcs[f]?=some fn) (hb:fn.body.isSome=true) (hn:(fn.name == "runtime.NumGoroutine")=false)
  (h:Qul P f as0 st.objs x objs') (hS:Qo4 ops i st x objs'=some S) (k:RW P rd base ops none (i+1) S Φ):RW P rd base ops none i st Φ:=by
 obtain ⟨o,g,args,ts,first,caps,as1,ho,hop,hg,has,rfl⟩:=Qax hi
 obtain ⟨h1,h2⟩:=Yo ho
 unfold Qo4 at hS
 rw [h1] at hS
 simp only at hS
 split at hS
 ·rename_i slots hp
  cases hS
  obtain ⟨out2,k1,k2⟩:=k
  have hi':i < ops.size:=(bA.1 h1).1
  refine ⟨out2,?_,k2⟩
  rw [Qf7 hi']
  exact Qic h1 h2 (Qxv hop hg has hf hb hn h hp) k1
 ·cases hS
end
end Go.Ab
namespace Go.Ab
open Go.RowKit
section
variable {P:Program} {ops:Array Oper} {G:Array Bool->Nat -> Foot} {Q:Slots->Sto->Prop} {s:Slots} {σ:Sto}
end
section
variable {P:Program} {ops:Array Oper} {G:Array Bool->Nat -> Foot} {s s':Slots} {σ:Sto} {B:Nat} {W0 W:World} {D:List Nat} {M:CM} {ι:Inj} {a:Act} {Q:Exit->Act->World->Prop} {QA:Slots->Sto->Prop}
end
section
variable {P:Program} {rd:Option Nat} {base:Nat} {ops ops0:Array Oper} {st st1 st2 st3:St}
theorem Qbw.symm {F G:Foot} (h:Qbw F G):Qbw G F:=⟨h.b,h.a,fun e he e' he'=>Ne.symm (h.c e' he' e he)⟩
end
section
variable {P:Program} {rd:Option Nat} {base:Nat} {ops:Array Oper} {st st1 Sa Sb S3 S:St} {Φ:AOut->Prop} {i:Nat}
end
end Go.Ab
namespace Go.Ab
open Go.RowKit
section
variable {P:Program} {base:Nat} {st st':St}
end
theorem Qxp {M:CM} {ι:Inj} {v:Value} {fl:Bool} {xs:List AV} (hs:List LK) (h:Qb M ι v (.lst fl xs)):Qb M ι v (.lst false (xs.map (Qx hs))):=by
 cases h with
 | lst0=>exact .lst0 _ _
 | lst b off cap w _ _ f hcap hfl hc hM hr =>
  have key:∀(i j:Nat) (x y:AV),(xs.map (Qx hs))[i]?=some x->x.flat[j]?=some y->∃x0 y0 h,xs[i]?=some x0/\x0.flat[j]?=some y0/\y=LK.ap h y0:=fun i j x y hi hj=>by
   rw [bH,aT] at hi
   obtain ⟨x0,e1,rfl⟩:=hi
   have hsh:=hc x0 (aF e1)
   obtain ⟨hs',e2,_⟩:=Qdz hs (x:=x0) hsh.form
   rw [e2] at hj
   obtain ⟨h,y0,e3,e4⟩:=Qi8 hs' _ j y hj
   exact ⟨x0,y0,h,e1,e3,e4⟩
  have:=Qb.lst (M:=M) (ι:=ι) b off cap w false (xs.map (Qx hs)) f (by simpa using hcap) (fun h=>by cases h) (fun x hx=>by
   simp only [cJ] at hx
   obtain ⟨z,hz,rfl⟩:=hx
   exact Qja hs (hc z hz)) (fun i j x y hi hj=>by
   obtain ⟨x0,y0,h,e1,e2,_⟩:=key i j x y hi hj
   exact hM i j x0 y0 e1 e2) (fun i j x y hi hj=>by
   obtain ⟨x0,y0,h,e1,e2,rfl⟩:=key i j x y hi hj
   exact LK.ap_rep h (hr i j x0 y0 e1 e2))
  simpa using this
def Qlj (x y:AV):Prop:=∀(M:CM) (v:Value),Qb M noInj v x->Qb M noInj v y
theorem Qlj.refl {x:AV}:Qlj x x:=fun _ _ h=>h
theorem Qlj.lst {fl:Bool} {xs ys:List AV} (hs:List LK) (h:xs.map (Qx hs)=ys):Qlj (.lst fl xs) (.lst false ys):=fun M v hr=>by subst h; exact Qxp hs hr
inductive Qnt:List AV->List AV->Prop
 | nil:Qnt [] []
 | cons {x y:AV} {xs ys:List AV} (h:Qlj x y) (hc:y.cell=x.cell) (k:Qnt xs ys):Qnt (x::xs) (y::ys)
theorem Qnt.at {xs ys:List AV} (h:Qnt xs ys):xs.length=ys.length/\∀(j:Nat) (y:AV),ys[j]?=some y->∃x,xs[j]?=some x/\Qlj x y/\y.cell=x.cell:=by
 induction h with
 | nil=>exact ⟨rfl,fun j y h=>by simp at h⟩
 | cons h hc k ih =>
  refine ⟨by simp [ih.1],fun j y hj=>?_⟩
  cases j with
  | zero=>simp at hj; subst hj; exact ⟨_,rfl,h,hc⟩
  | succ j=>exact ih.2 j y (by simpa using hj)
theorem Qlj.agg {xs ys:List AV} (h:Qnt xs ys):Qlj (.agg xs) (.agg ys):=fun M v hr=>by
 cases hr with
 | agg cs' _ hsz hc hrr =>
  obtain ⟨hl,hat⟩:=h.at
  refine .agg cs' _ (by rw [<-hl]; exact hsz) (fun y hy=>?_) (fun j v y hv hy=>?_)
  ·obtain ⟨j,hj,rfl⟩:=bE.1 hy
   obtain ⟨x,e1,_,e3⟩:=hat j _ (aG hj)
   rw [e3]; exact hc x (aF e1)
  obtain ⟨x,e1,e2,_⟩:=hat j y hy
  exact e2 M v (hrr j v x hv e1)
section
variable {P:Program} {rd:Option Nat} {base:Nat} {ops:Array Oper} {st S:St} {Φ:AOut->Prop} {d:Option (List Sk)} {i:Nat}
end
end Go.Ab
namespace Go.Ab
open Go.RowKit
section
variable {P:Program} {rd:Option Nat} {base:Nat} {ops:Array Oper} {st S:St} {Φ:AOut->Prop} {d:Option (List Sk)} {i:Nat} {c:Code}
theorem Qvt {σ ρ1 ρ2:Type} {body:σ->Option (Qd σ (ρ1 ⊕ ρ2))} {I:σ->St} {H:ρ1->St} {Ex:ρ2->AOut->Prop}
  (stop:∀s y,body s=some (.done (.inl y))->H y=I s)
  (round:∀s o,body s=some o->(∃y,o=.done (.inl y))\/WP P rd base c (I s) (fun out=>match o with
   | .next s'=>∃st1,out=.go .normal st1/\Wk P base st1 (I s')
   | .done (.inl _)=>False
   | .done (.inr x)=>Ex x out/\out.normal=false)) :
  ∀(n:Nat) (s:σ) (x:ρ1 ⊕ ρ2),Qa n body s=some x->(∀y,x=.inl y->LWP P rd base c (H y) Φ)->(∀z,x=.inr z->∀out,Ex z out->Φ out)->LWP P rd base c (I s) Φ
 | 0,s,x,h,_,_=>by cases h
 | n+1,s,x,h,h1,h2=>by
  simp only [Qa] at h
  split at h
  ·rename_i s' hb
   rcases round s _ hb with ⟨y,e⟩ | hr
   ·cases e
   refine Qha (hr.mono fun out ho=>?_)
   obtain ⟨st1,rfl,hw⟩:=ho
   exact Ql1 hw (Qvt stop round n s' x h h1 h2)
  ·rename_i x' hb
   cases h
   cases x with
   | inl y =>
    have:=h1 y rfl
    rw [stop s y hb] at this
    exact this
   | inr z =>
    rcases round s _ hb with ⟨y,e⟩ | hr
    ·cases e
    refine Qha (hr.mono fun out ho=>?_)
    obtain ⟨g1,g2⟩:=ho
    have g3:=h2 z rfl out g1
    cases out with
    | pan v=>exact g3
    | go e st1=>cases e <;> first | exact g3 | simp [AOut.normal] at g2
  cases h
def Q3u {σ ρ:Type}:Qd σ ρ->Qd σ (σ ⊕ ρ)
 | .next s=>.next s
 | .done x=>.done (.inr x)
def Qli {σ ρ:Type} (cnd:σ->Bool) (body:σ->Option (Qd σ ρ)) (s:σ):Option (Qd σ (σ ⊕ ρ)):=if cnd s=true then some (.done (.inl s)) else (body s).map Q3u
theorem Qzw {σ ρ R:Type} {n:Nat} {cnd:σ->Bool} {body:σ->Option (Qd σ ρ)} {I:σ->St} {Ex:ρ->AOut->Prop} {K:σ ⊕ ρ->Option R} {r:R} (s0:σ) (hw:Wk P base st (I s0)) (h:(Qa n (Qli cnd body) s0).bind K=some r)
  (round:∀s o,body s=some o->WP P rd base c (I s) (Qka P base I Ex o))
  (k1:∀y,K (.inl y)=some r->LWP P rd base c (I y) Φ) (k2:∀z,K (.inr z)=some r->∀out,Ex z out->Φ out):WP P rd base (.loop c) st Φ:=by
 cases hx:Qa n (Qli cnd body) s0 with
 | none=>rw [hx] at h; cases h
 | some x =>
  rw [hx] at h
  have hb:∀s o,Qli cnd body s=some o->(o=.done (.inl s))\/∃o',body s=some o'/\o=Q3u o':=fun s o ho=>by
   unfold Qli at ho
   split at ho
   ·cases ho; exact .inl rfl
   simp only [aT] at ho
   obtain ⟨o',e1,e2⟩:=ho
   exact .inr ⟨o',e1,e2.symm⟩
  refine Qxh (Ql1 hw (Qvt (H:=I) (Ex:=Ex) (fun s y e=>?_) (fun s o e=>?_) n s0 x hx (fun y e=>?_) (fun z e=>?_)))
  ·rcases hb s _ e with e1 | ⟨o',_,e1⟩
   ·cases e1; rfl
   cases o' <;> cases e1
  ·rcases hb s _ e with e1 | ⟨o',e1,e2⟩
   ·exact .inl ⟨s,e1⟩
   subst e2
   refine .inr ((round s o' e1).mono fun out ho=>?_)
   cases o' with
   | next s'=>exact ho
   | done x=>exact ho
  ·subst e; exact k1 y h
  subst e; exact k2 z h
end
end Go.Ab
