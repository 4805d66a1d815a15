/- Rules on plain values. No conditions. -/
import Derived.Test.YtojklbpplceiiaaDoorEng6
import Derived.RowKit3
import Derived.ChangeSame
import Derived.ChangeArms
import Derived.OpenShut
import Derived.WideKeyArgs
import Derived.Test.YtojklbpplceiiaaDoorEng5
import Derived.KernelRfl
set_option linter.all false
namespace Go.Ab
open Go.RowKit
section
variable {P:Program} {B:Nat} {W0 W W1:World} {D:List Nat} {M M1:CM} {ι ι1:Inj} {σ σ' σ1:Sto}
theorem Rel.dead (h:Rel P B W0 D M ι σ W) (hσ:∀k,σ' k=σ k∨σ' k=none∨σ' k=some .dead):Rel P B W0 D M ι σ' W:=by
 have back:∀k x,σ' k=some x→x≠.dead→σ k=some x:=fun k x hk hx=>by
  rcases hσ k with e | e | e
  ·rw [←e]; exact hk
  ·rw [e] at hk; cases hk
  ·rw [e] at hk; cases hk; exact absurd rfl hx
 refine ⟨h.size,h.below,h.defs,h.agree,fun o bx nr fl w xs p k ho=>h.cool o bx nr fl w xs p k (back _ _ ho (by simp)),fun o bx ro nr fl w xs ho=>h.row o bx ro nr fl w xs (back _ _ ho (by simp)),fun o fn sl ps as bd st pe ho=>h.loop o fn sl ps as bd st pe (back _ _ ho (by simp)),
  fun o o' bx nr fl w xs bx' nr' fl' w' xs' p p' hne h1 h2=>h.apart o o' bx nr fl w xs bx' nr' fl' w' xs' p p' hne (back _ _ h1 (by simp)) (back _ _ h2 (by simp)),
  fun o o' fn sl ps as bd st pe fn' sl' ps' as' bd' st' pe' p p' hne h1 h2=>h.loops o o' fn sl ps as bd st pe fn' sl' ps' as' bd' st' pe' p p' hne (back _ _ h1 (by simp)) (back _ _ h2 (by simp)),fun o ho=>?_⟩
 rcases hσ o with e | e
 ·rw [e]; exact h.used o ho
 ·exact e
open Classical in
theorem Rel.join {N:Nat → Prop} (h:Rel P B W0 D M ι σ W) (h1:Rel P W.heap.size W [] M1 ι1 σ1 W1) (hM:CM.Grow W.heap.size M M1) (n0:∀k,N k→ι k=none)
  (nl:∀k fn sl ps as bd st pe,N k→σ1 k≠some (.loop fn sl ps as bd st pe))
  (nc:∀k bx ro nr fl w xs,N k→σ1 k=some (.row bx ro nr fl w xs)→nr=true∨∀x∈xs,∀y∈x.flat,∀o∈y.ids,N o) :
  Rel P B W0 D M1 (fun k=>if N k then ι1 k else ι k) (fun k=>if N k then σ1 k else σ k) W1:=by
 have hrel:=h.old h1.below
 have hle:ι.le (fun k=>if N k then ι1 k else ι k):=fun k q hk=>by
  by_cases e:N k
  ·rw [n0 k e] at hk; cases hk
  ·simp only [e,if_false]; exact hk
 have hold:∀k bx nr fl w xs p,σ k=some (.row bx false nr fl w xs)→ι k=some p→p.blk < W.heap.size∨(p.cap=0∧p.base=0):=by
  intro k bx nr fl w xs p hk hp
  obtain ⟨q,hq,hr⟩:=h.row k _ _ _ _ _ _ hk
  rw [hp] at hq; cases hq
  rcases Nat.eq_zero_or_pos p.cap with hz | hz
  ·exact .inr ⟨hz,by rcases hr.cpos with h4 | h4 <;> omega⟩
  left
  obtain ⟨v,hv⟩:=Option.isSome_iff_exists.1 ((hr.own rfl).2 0 (Nat.mul_pos hz hr.pos)).1
  exact World.block_lt_of_cell? W _ hv
 refine ⟨hrel.size,hrel.below,hrel.defs,h1.agree,fun k bx1 nr1 fl1 w1 xs1 q j hk hq hj=>?_,?_,?_,?_,?_,?_⟩
 ·by_cases e:N k
  ·simp only [e,if_true] at hk hq; exact h1.cool _ _ _ _ _ _ _ _ hk hq hj
  ·simp only [e,if_false] at hk hq; rw [hM.keepC]; exact hrel.cool _ _ _ _ _ _ _ _ hk hq hj
 ·intro k bx ro nr fl w xs hk
  by_cases e:N k
  ·simp only [e,if_true] at hk ⊢
   obtain ⟨p,hp,hr⟩:=h1.row k _ _ _ _ _ _ hk
   refine ⟨p,hp,⟨hr.pw,hr.pos,hr.cpos,hr.len,hr.shaped,hr.nr,hr.fl,fun i j x y hi hj=>?_,fun hro=>⟨Nat.le_trans h.size (hr.own hro).1,(hr.own hro).2⟩,hr.imm⟩⟩
   obtain ⟨v,hv,hrep⟩:=hr.cells i j x y hi hj
   refine ⟨v,hv,?_⟩
   have hxm:=List.mem_of_getElem? hi
   have hym:=List.mem_of_getElem? hj
   rcases nc k bx ro nr fl w xs e hk with c | c
   ·exact hrep.of_nr (AV.nr_flat (Qq.1 (hr.nr c) x hxm) y hym)
   ·exact hrep.congr (fun o ho=>by rw [if_pos (c x hxm y hym o ho)])
  ·simp only [e,if_false] at hk ⊢
   obtain ⟨p,hp,hr⟩:=hrel.row k bx ro nr fl w xs hk
   refine ⟨p,hp,⟨hr.pw,hr.pos,hr.cpos,hr.len,hr.shaped,hr.nr,hr.fl,fun i j x y hi hj=>?_,fun hro=>⟨(hr.own hro).1,fun m hm=>⟨((hr.own hro).2 m hm).1,?_⟩⟩,fun hro i j x y hi hj=>?_⟩⟩
   ·obtain ⟨v,hv,hrep⟩:=hr.cells i j x y hi hj
    exact ⟨v,hv,hrep.mono hM.le hle⟩
   ·subst hro
    rcases hold k _ _ _ _ _ p hk hp with hq | ⟨hz,_⟩
    ·rw [hM.old _ _ hq]; exact ((hr.own rfl).2 m hm).2
    ·rw [hz] at hm; simp at hm
   ·obtain ⟨v,hv,hrep⟩:=hr.imm hro i j x y hi hj
    exact ⟨v,hM.le _ _ _ hv,hrep.mono hM.le (Inj.le_refl _)⟩
 ·intro k fn sl ps as bd st pe hk
  by_cases e:N k
  ·simp only [e,if_true] at hk; exact absurd hk (nl k _ _ _ _ _ _ _ e)
  ·simp only [e,if_false] at hk ⊢
   obtain ⟨q,nt,hq,hnt,hb,tmps,hsz,hrec,hsl⟩:=hrel.loop k fn sl ps as bd st pe hk
   exact ⟨q,nt,hq,by rw [hM.keep]; exact hnt,hb,tmps,hsz,hrec,Qc7 hM.le hle hsl⟩
 ·intro k k' bx nr fl w xs bx' nr' fl' w' xs' q q' hkk hk hk' hq hq'
  by_cases e:N k
  ·simp only [e,if_true] at hk hq
   by_cases e':N k'
   ·simp only [e',if_true] at hk' hq'
    exact h1.apart k k' _ _ _ _ _ _ _ _ _ _ _ _ hkk hk hk' hq hq'
   ·simp only [e',if_false] at hk' hq'
    obtain ⟨p,hp,hr⟩:=h1.row k _ _ _ _ _ _ hk
    rw [hp] at hq; cases hq
    rcases hold k' _ _ _ _ _ q' hk' hq' with hq2 | ⟨hz,hb⟩
    ·left
     have:=(hr.own rfl).1
     omega
    ·right; right
     rw [hz,hb]; simp
  ·simp only [e,if_false] at hk hq
   by_cases e':N k'
   ·simp only [e',if_true] at hk' hq'
    obtain ⟨p',hp',hr'⟩:=h1.row k' _ _ _ _ _ _ hk'
    rw [hp'] at hq'; cases hq'
    rcases hold k _ _ _ _ _ q hk hq with hq2 | ⟨hz,hb⟩
    ·left
     have:=(hr'.own rfl).1
     omega
    ·right; left
     rw [hz,hb]; simp
   ·simp only [e',if_false] at hk' hq'
    exact h.apart _ _ _ _ _ _ _ _ _ _ _ _ _ _ hkk hk hk' hq hq'
 ·intro k k' fn sl ps as bd st pe fn' sl' ps' as' bd' st' pe' q q' hkk hk hk' hq hq'
  by_cases e:N k
  ·simp only [e,if_true] at hk; exact absurd hk (nl k _ _ _ _ _ _ _ e)
  ·by_cases e':N k'
   ·simp only [e',if_true] at hk'; exact absurd hk' (nl k' _ _ _ _ _ _ _ e')
   ·simp only [e,e',if_false] at hk hq hk' hq'
    exact h.loops _ _ _ _ _ _ _ _ _ _ _ _ _ _ _ _ _ _ hkk hk hk' hq hq'
 ·intro k hk
  by_cases e:N k
  ·simp only [e,if_true] at hk ⊢; exact h1.used k hk
  ·simp only [e,if_false] at hk ⊢; exact h.used k hk
end
def famEff (k w:Nat) (fl:Bool):Nat → List (List AV)→List (Nat × AObj)
 | _,[]=>[]
 | i,l::r=>(fid k i,.row false false true fl w l)::famEff k w fl (i+1) r
def effAt:Nat → List AObj→List (Nat × AObj)
 | _,[]=>[]
 | k,x::r=>(k,x.plain)::((match x with | .fam w fl xs=>famEff k w fl 0 xs | _=>[])++effAt (k+1) r)
theorem Qj8 {k w:Nat} {fl:Bool} {id:Nat} {y:AObj}:∀{i:Nat} {xs:List (List AV)},(id,y)∈famEff k w fl i xs↔∃j l,xs[j]?=some l∧id=fid k (i+j)∧y=.row false false true fl w l
 | i,[]=>by simp [famEff]
 | i,l::r=>by
  simp only [famEff,List.mem_cons,Prod.mk.injEq,Qj8 (i:=i+1) (xs:=r)]
  constructor
  ·rintro (⟨rfl,rfl⟩ | ⟨j,l',h1,rfl,rfl⟩)
   ·exact ⟨0,l,rfl,rfl,rfl⟩
   ·exact ⟨j+1,l',by simpa using h1,by congr 1; omega,rfl⟩
  ·rintro ⟨j,l',h1,rfl,rfl⟩
   cases j with
   | zero=>simp at h1; subst h1; exact .inl ⟨rfl,rfl⟩
   | succ j=>exact .inr ⟨j,l',by simpa using h1,by congr 1; omega,rfl⟩
theorem Qey {id:Nat} {y:AObj}:∀{k:Nat} {xs:List AObj},(id,y)∈effAt k xs↔∃j x,xs[j]?=some x∧((id=k+j∧y=x.plain)∨∃w fl ls i l,x=.fam w fl ls∧ls[i]?=some l∧id=fid (k+j) i∧y=.row false false true fl w l)
 | k,[]=>by simp [effAt]
 | k,x::r=>by
  simp only [effAt,List.mem_cons,List.mem_append,Prod.mk.injEq,Qey (k:=k+1) (xs:=r)]
  constructor
  ·rintro (⟨rfl,rfl⟩ | h | ⟨j,x',h1,h2⟩)
   ·exact ⟨0,x,rfl,.inl ⟨rfl,rfl⟩⟩
   ·split at h
    ·rename_i w fl xs
     obtain ⟨j,l,h1,rfl,rfl⟩:=Qj8.1 h
     exact ⟨0,_,rfl,.inr ⟨w,fl,xs,j,l,rfl,h1,by simp,rfl⟩⟩
    ·cases h
   ·refine ⟨j+1,x',by simpa using h1,?_⟩
    rw [show k+(j+1)=k+1+j by omega]; exact h2
  ·rintro ⟨j,x',h1,h2⟩
   cases j with
   | zero =>
    simp at h1; subst h1
    rcases h2 with ⟨rfl,rfl⟩ | ⟨w,fl,ls,i,l,rfl,h3,rfl,rfl⟩
    ·exact .inl ⟨rfl,rfl⟩
    ·exact .inr (.inl (Qj8.2 ⟨i,l,h3,by simp,rfl⟩))
   | succ j =>
    refine .inr (.inr ⟨j,x',by simpa using h1,?_⟩)
    rw [show k+1+j=k+(j+1) by omega]; exact h2
theorem Qx6 {k:Nat} {xs:List AObj} (h:effAt k xs=[]):xs=[]:=by cases xs <;> simp_all [effAt]
section
variable {objs new:List AObj}
theorem Qlg (j:Nat):(objs++new)[objs.length+j]?=new[j]?:=by
 rw [List.getElem?_append_right (by omega),show objs.length+j - objs.length=j by omega]
theorem Qql {id:Nat} {y:AObj} (hb:objs.length+new.length≤BIG) (h:(id,y)∈effAt objs.length new):InR objs.length (objs.length+new.length) id∧sto (objs++new) id=some y:=by
 obtain ⟨j,x,h1,h2⟩:=Qey.1 h
 have hj:j < new.length:=(List.getElem?_eq_some_iff.1 h1).1
 rcases h2 with ⟨rfl,rfl⟩ | ⟨w,fl,ls,i,l,rfl,h3,rfl,rfl⟩
 ·exact ⟨.inl (by omega),by rw [Xp (by omega),Qlg,h1]; rfl⟩
 ·exact ⟨.inr ⟨_,i,by omega,by omega,rfl⟩,Qcr (by rw [Qlg]; exact h1) h3⟩
theorem Qxu {id:Nat} (hb:objs.length+new.length≤BIG) (h:∀e∈effAt objs.length new,e.1≠id):(InR objs.length (objs.length+new.length) id→sto (objs++new) id=none)∧sto (objs++new) id=sto objs id:=by
 have hno:∀j x,new[j]?=some x→objs.length+j≠id:=fun j x hj e=>h (objs.length+j,x.plain) (Qey.2 ⟨j,x,hj,.inl ⟨rfl,rfl⟩⟩) e
 have hfam:∀k w fl ls i l,id=fid k i→(objs++new)[k]?=some (.fam w fl ls)→ls[i]?=some l→k < objs.length:=fun k w fl ls i l e h1 h2=>by
  rcases Nat.lt_or_ge k objs.length with c | c
  ·exact c
  ·obtain ⟨j,rfl⟩:=Nat.exists_eq_add_of_le c
   rw [Qlg] at h1
   exact absurd e.symm (h (fid (objs.length+j) i,_) (Qey.2 ⟨j,_,h1,.inr ⟨w,fl,ls,i,l,rfl,h2,rfl,rfl⟩⟩))
 constructor
 ·intro hin
  rcases hin with ⟨c1,c2⟩ | ⟨k,i,c1,c2,rfl⟩
  ·exact absurd (Nat.add_sub_cancel' c1) (hno (id - objs.length) (new[id - objs.length]'(by omega)) (List.getElem?_eq_getElem (by omega)))
  ·exact Qp5 (fun w fl xs l e1 e2=>by have:=hfam k w fl xs i l rfl e1 e2; omega)
 ·rcases Nat.lt_or_ge id BIG with c | c
  ·rw [Xp c,Xp c]
   rcases Nat.lt_or_ge id objs.length with d | d
   ·rw [List.getElem?_append_left d]
   ·obtain ⟨j,rfl⟩:=Nat.exists_eq_add_of_le d
    rw [Qlg,List.getElem?_eq_none d]
    cases hj:new[j]? with
    | none=>rfl
    | some x=>exact absurd rfl (hno j x hj)
  ·rcases Kv (objs++new) id with ⟨d,_⟩ | ⟨_,⟨k,i,w,fl,xs,l,rfl,e2,e3,e4⟩ | e⟩
   ·omega
   ·have hk:=hfam k w fl xs i l rfl e2 e3
    rw [e4,Qcr (by rw [List.getElem?_append_left hk] at e2; exact e2) e3]
   ·rw [e]
    rcases Kv objs id with ⟨d,_⟩ | ⟨_,⟨k,i,w,fl,xs,l,rfl,e2,e3,e4⟩ | e'⟩
    ·omega
    ·have hk:k < objs.length:=(List.getElem?_eq_some_iff.1 e2).1
     rw [Qcr (objs:=objs++new) (by rw [List.getElem?_append_left hk]; exact e2) e3] at e; cases e
    ·rw [e']
theorem Q2i (hb:objs.length+new.length≤BIG):sto (objs++new)=(sto objs).puts (effAt objs.length new):=by
 funext id
 rcases (sto objs).puts_at (effAt objs.length new) id with ⟨h1,h2⟩ | ⟨y,h1,h2⟩
 ·rw [h1]; exact (Qxu hb h2).2
 ·rw [h1]; exact (Qql hb h2).2
end
def Qp1 (n m o:Nat):Bool:=Nat.ble n o && Nat.blt o m
def Qmj (n m:Nat):AObj→Bool
 | .row _ _ nr _ _ xs=>nr || xs.all fun x=>x.flat.all fun y=>y.ids.all (Qp1 n m)
 | .refs j _=>Qp1 n m j
 | .fam _ _ _=>true
 | .dead=>true
 | .loop ..=>false
def Qrl:Nat → List AObj→Bool
 | 0,_=>true
 | n+1,.dead::r=>Qrl n r
 | _,_=>false
theorem Qo8:∀{n:Nat} {objs:List AObj},Qrl n objs=true→objs=List.replicate n .dead++objs.drop n
 | 0,objs,_=>by simp
 | n+1,[],h=>by cases h
 | n+1,x::r,h=>by
  cases x <;> simp only [Qrl] at h <;> first | (cases h; done) | skip
  rw [List.replicate_succ,List.drop_succ_cons,List.cons_append,←Qo8 h]
theorem Ql9 {n m o:Nat} (h:Qp1 n m o=true):n≤o∧o < m:=by
 simp only [Qp1,Bool.and_eq_true] at h
 exact ⟨Nat.le_of_ble_eq_true h.1,Jm h.2⟩
section
variable {P:Program} {ops:Array Oper} {st st':St} {o:Oper} {rd:Option Nat} {base:Nat} {Φ:AOut→Prop} {d:Option (List Sk)} {i:Nat}
theorem Qm2 {k:Nat} {x:AV}:∀{i:Nat} {xs:List (List AV)},x∈Qae k i xs→∃j n,x=.ref (fid k j) 0 n
 | _,[],h=>by cases h
 | i,l::r,h=>by
  simp only [Qae,List.mem_cons] at h
  rcases h with rfl | h
  ·exact ⟨_,_,rfl⟩
  ·exact Qm2 h
theorem Q0p {n:Nat} (k:Nat):sto (List.replicate n AObj.dead) k=none∨sto (List.replicate n AObj.dead) k=some .dead:=by
 rcases Kv (List.replicate n AObj.dead) k with ⟨_,e⟩ | ⟨_,⟨j,i,w,fl,xs,l,_,e2,_⟩ | e⟩
 ·rw [e]
  rcases Nat.lt_or_ge k n with h | h
  ·right; rw [List.getElem?_replicate,if_pos h]; rfl
  ·left; rw [List.getElem?_eq_none (by simpa using h)]; rfl
 ·rw [List.getElem?_replicate] at e2
  split at e2 <;> cases e2
 ·exact .inl e
theorem Qul {f:FuncId} {fn:Func} {c:Code} {as0:List AV} {n:Nat} {e:Zg} {x:AV} {vs:Array Value} {W:World} {M:CM} (hf:P.funcs[f]?=some fn) (hb:fn.body=some c) (hle:as0.length≤fn.ntmps) (hn:n≤BIG)
  (h:Z7 P none n c ⟨Y1 0 as0,List.replicate n .dead,fn.ntmps⟩ (.go e st')) (hend:e.ends=true) (hr:resultA P fn st'=some x)
  (hag:Qdl M W) (hsz:vs.size=as0.length) (hrep:∀(j:Nat) (v:Value) (a:AV),vs[j]?=some v→as0[j]?=some a→Qa M noInj v a) :
  Calls P f vs W fun ee W'=>∃v M' ι',ee=.returned v∧CM.Grow W.heap.size M M'∧Rel P W.heap.size W [] M' ι' (sto st'.objs) W'∧(∀k,¬ InB st'.objs.length k→ι' k=none)∧Qa M' ι' v x:=by
 refine callsIn_wide.1 (callsIn_of_wp_marks (F:=FW none) (n:=0) hf hb trivial ?_)
 have h0:Rel P W.heap.size W [] M noInj (sto (List.replicate n AObj.dead)) W:=(Qkp hag).dead (fun k=>.inr (Q0p k))
 refine h W.heap.size W [] [] M noInj _ W 0 _ none ⟨h0,Qbt fn.ntmps hrep hsz,by simp; omega,⟨rfl,fun r hr=>by simp at hr,List.nodup_nil⟩,fun _ _=>rfl,by simpa using hn⟩ rfl ⟨?_,fun v hv=>by cases hv⟩
 intro e' st'' he dl' M' ι' a' W' g1 g2 g3 g4
 cases he
 have hex:e.exit'=.normal∨e.exit'=.ret:=by cases e <;> simp_all [Zg.ends,Zg.exit']
 have cut:∀R,LeavesInM (FW none) 0 P fn a'.tmps R a'.defers .returning W'→bodyPostM (FW none) 0 P fn R e.exit' a' W':=fun R hR=>by
  rcases hex with e1 | e1 <;> rw [e1] <;> exact hR
 apply cut
 rw [g4.df.defs]
 refine Qd4 (by simp) dl' W' g4.rel g4.df.nd g4.df.old (fun W2 h2=>?_)
 obtain ⟨v,k1,k2⟩:=Qb5 h2 g4.slots hr
 exact ⟨v,k1,v,M',ι',rfl,g1,h2,g4.new,k2⟩
open Classical in
theorem Q2x {g:Operand} {args:Array Operand} {ts:Array TypeId} {f:FuncId} {fn:Func} {c:Code} {first caps as:List AV} {e:Zg} {x:AV} {s:Slots} {σ:Sto} {n:Nat} {new:List AObj}
  (hw:Yd ops s o=some true) (ho:o.op=.call { callee:=.value g,args,argTypes:=ts }) (hg:evo s g=some (.fn (.func f) first caps)) (has:Jv s args.toList=some as) (hnr:AV.nrL (first++as++caps)=true)
  (hf:P.funcs[f]?=some fn) (hb:fn.body=some c) (hn:(fn.name == "runtime.NumGoroutine")=false) (hle:(first++as++caps).length≤fn.ntmps)
  (h:Z7 P none n c ⟨Y1 0 (first++as++caps),List.replicate n .dead,fn.ntmps⟩ (.go e st')) (hend:e.ends=true) (hr:resultA P fn st'=some x)
  (hob:st'.objs=List.replicate n .dead++new) (hbig:n+new.length≤BIG) (hok:new.all (Qmj n (n+new.length))=true) (hxi:x.ids.all (Qp1 n (n+new.length))=true) :
  YlL P ops o ⟨some x,effAt n new,n,n+new.length,[]⟩ s σ:=by
 intro s' σ' hs' hσ'
 have hl:=Qly (ops:=ops) hs'
 rw [ho] at hl
 have hg':evo s' g=some (.fn (.func f) first caps):=by rw [hl g (by simp [Op.operands,Call.operands])]; exact hg
 have has':Jv s' args.toList=some as:=by rw [evos_congr (fun y hy=>hl y (by simp [Op.operands,Call.operands]; exact .inr (by simpa using hy)))]; exact has
 refine .inl ⟨by rw [Qb3 hs']; exact hw,?_⟩
 intro B W0 D M ι a W nn Q r next hrel hsl hfree hpost
 simp only at hfree hpost
 have hgv:=Qf hsl hg'
 generalize hgu:a.eval g=gu at hgv
 cases hgv with
 | fn _ first' caps' _ _ hy hm h1 h2 hr1 hr2 =>
 obtain ⟨l1,e1⟩:=Vl hsl has'
 refine ⟨fun _ _=>trivial,?_⟩
 rw [Oper.semAt_eq _ _ _ (by rw [ho]; simp)]
 have hrun:(execOp a.eval o).run P W=.ok (.enter f (first'++args.map a.eval++caps')) W:=by
  simp only [execOp,ho,resolve,hgu,Deferred.ofValue,Sem.run_bind,Sem.run_pure,Result.andThen_ok,invoke]
  exact V9 hf (by rw [hb]; rfl) hn _ W
 rw [hrun,Oper.uponIn_enter]
 have hrep:∀(j:Nat) (v:Value) (y:AV),(first'++args.map a.eval++caps')[j]?=some v→(first++as++caps)[j]?=some y→Qa M ι v y :=
  Qf9 h1 (by simpa using l1.symm) h2 hr1 (fun j v y hv hy=>by
   simp only [Array.getElem?_map,Option.map_eq_some_iff] at hv
   obtain ⟨w,hw,rfl⟩:=hv
   exact (e1 j w y (by simpa using hw) hy).2) hr2
 have hsz:(first'++args.map a.eval++caps').size=(first++as++caps).length:=by simp [h1,h2,l1]
 refine ⟨fun hd=>by simp [FW,Fence.wide] at hd,Qc4 ((Qul hf hb hle (by omega) h hend hr hrel.agree hsz (fun j v y hv hy=>(hrep j v y hv hy).of_nr (Qq.1 hnr y (List.mem_of_getElem? hy)))).mono ?_)⟩
 rintro ee W1 ⟨v,M1,ι1,rfl,q1,q2,q3,q4⟩
 have hlen:(List.replicate n AObj.dead).length=n:=List.length_replicate
 have hob2:st'.objs.length=n+new.length:=by rw [hob]; simp
 rw [hob] at q2
 have hb':(List.replicate n AObj.dead).length+new.length≤BIG:=by rw [hlen]; exact hbig
 have new_at : ∀k y,InR n (n+new.length) k→sto (List.replicate n AObj.dead++new) k=some y→y≠.dead→(∃j x,k=n+j∧new[j]?=some x∧y=x.plain)∨(∃w fl l,y=.row false false true fl w l):=by
  intro k y hk hy hd
  rcases Kv (List.replicate n AObj.dead++new) k with ⟨c,e⟩ | ⟨c,⟨j,i,w,fl,xs,l,_,_,_,e4⟩ | e⟩
  ·rw [e] at hy
   rcases hk with ⟨c1,c2⟩ | ⟨j,i,_,_,rfl⟩
   ·obtain ⟨j,rfl⟩:=Nat.exists_eq_add_of_le c1
    have:=Qlg (objs:=List.replicate n AObj.dead) (new:=new) j
    rw [hlen] at this
    rw [this] at hy
    simp only [Option.map_eq_some_iff] at hy
    obtain ⟨x,hx,rfl⟩:=hy
    exact .inl ⟨j,x,rfl,hx,rfl⟩
   ·have:=Jg j i; omega
  ·rw [e4] at hy; cases hy; exact .inr ⟨_,_,_,rfl⟩
  ·rw [e] at hy; cases hy
 have hok':∀j x,new[j]?=some x→Qmj n (n+new.length) x=true:=fun j x hj=>List.all_eq_true.1 hok x (List.mem_of_getElem? hj)
 have key:=Rel.join (N:=InR n (n+new.length)) hrel q2 q1 hfree
  (fun k fn' sl ps as' bd st2 pe hk hl'=>by
   rcases new_at k _ hk hl' (by simp) with ⟨j,x,rfl,hx,e⟩ | ⟨w,fl,l,e⟩
   ·have:=hok' j x hx
    cases x <;> simp_all [Qmj,AObj.plain]
   ·cases e)
  (fun k bx ro nr fl w xs hk hl'=>by
   rcases new_at k _ hk hl' (by simp) with ⟨j,x,rfl,hx,e⟩ | ⟨w',fl',l,e⟩
   ·have:=hok' j x hx
    cases x with
    | row bx' ro' nr' fl' w' xs' =>
     simp only [AObj.plain] at e
     cases e
     simp only [Qmj,Bool.or_eq_true] at this
     refine this.imp (fun h=>h) (fun h z hz y hy o' ho'=>.inl (Ql9 ?_))
     exact List.all_eq_true.1 (List.all_eq_true.1 (List.all_eq_true.1 h z hz) y hy) o' ho'
    | refs j' xs' =>
     simp only [AObj.plain] at e
     cases e
     simp only [Qmj] at this
     right
     intro z hz y hy o' ho'
     obtain ⟨q,n',rfl⟩:=Qm2 hz
     simp only [AV.flat,List.mem_singleton] at hy
     subst hy
     simp only [AV.ids,List.mem_singleton] at ho'
     subst ho'
     exact .inr ⟨j',q,(Ql9 this).1,(Ql9 this).2,rfl⟩
    | _=>simp [AObj.plain] at e
   ·cases e; exact .inl rfl)
 have hle2:ι.le (fun k=>if InR n (n+new.length) k then ι1 k else ι k):=fun k q hk=>by
  by_cases e:InR n (n+new.length) k
  ·rw [hfree k e] at hk; cases hk
  ·simp only [e,if_false]; exact hk
 refine hpost v W1 M1 _ (q1.mono hrel.size) hle2 (fun k hk=>by simp only [hk,if_false]) ?_ (fun y hy=>by cases hy; exact q4.congr (fun o' ho'=>by rw [if_pos (.inl (Ql9 (List.all_eq_true.1 hxi o' ho')))]))
 refine key.dead (fun k=>?_)
 rcases σ'.puts_at (effAt n new) k with ⟨p1,p2⟩ | ⟨y,p1,p2⟩
 ·by_cases e:InR n (n+new.length) k
  ·right; rw [p1]; exact hrel.used k (hfree k e)
  ·left; rw [p1]; simp only [e,if_false]
 ·have:=Qql (objs:=List.replicate n AObj.dead) hb' (by rw [hlen]; exact p2)
  rw [hlen] at this
  left; rw [p1]; simp only [this.1,if_true]; exact this.2.symm
noncomputable def Qox (P:Program) (fn:Func) (ops:Array Oper) (i:Nat) (st:St):AOut→Option St
 | .go e st'=>if e.ends && Qrl st.objs.length st'.objs && Nat.ble st'.objs.length BIG && (st'.objs.drop st.objs.length).all (Qmj st.objs.length st'.objs.length) then match resultA P fn st',ops[i]? with
   | some x,some o=>match Jt st.slots st.nt o.dst (some x) with
    | some slots=>if x.ids.all (Qp1 st.objs.length st'.objs.length) then some ⟨slots,st.objs++st'.objs.drop st.objs.length,st.nt⟩ else none
    | none=>none
   | _,_=>none
  else none
 | .pan _=>none
def Qwa (st S:St):List Sk:=[(List.range' st.objs.length (S.objs.length - st.objs.length),[])]
theorem Q61 {f:FuncId} {fn:Func} {c:Code} {as0:List AV} (hi:Zu ops i st=some (f,as0)) (hnr:AV.nrL as0=true) (hf:P.funcs[f]?=some fn) (hb:fn.body=some c) (hn:(fn.name == "runtime.NumGoroutine")=false) (hle:Nat.ble as0.length fn.ntmps=true)
  (h:WP P none st.objs.length c ⟨Y1 0 as0,List.replicate st.objs.length .dead,fn.ntmps⟩ (fun out=>∃S,Qox P fn ops i st out=some S∧RW P rd base ops (Zp d (Qwa st S)) (i+1) S Φ)):RW P rd base ops d i st Φ:=by
 obtain ⟨o,g,args,ts,first,caps,as1,ho,hop,hg,has,rfl⟩:=Qac hi
 obtain ⟨h1,h2⟩:=Ku ho
 obtain ⟨out,hx,S,hS,k⟩:=h
 unfold Qox at hS
 split at hS
 ·rename_i e st'
  split at hS
  ·rename_i hc
   simp only [Bool.and_eq_true] at hc
   obtain ⟨⟨⟨c1,c2⟩,c3⟩,c4⟩:=hc
   split at hS
   ·rename_i x o' hr ho'
    rw [h1] at ho'; cases ho'
    split at hS
    ·rename_i slots hp
     split at hS
     ·rename_i hxi
      cases hS
      have hob:=Qo8 c2
      have hl:st'.objs.length=st.objs.length+(st'.objs.drop st.objs.length).length:=by
       have:=congrArg List.length hob
       rw [List.length_append,List.length_replicate] at this
       exact this
      have hbig:st.objs.length+(st'.objs.drop st.objs.length).length≤BIG:=by rw [←hl]; exact Nat.le_of_ble_eq_true c3
      refine Qd7 (st1:=⟨slots,st.objs++st'.objs.drop st.objs.length,st.nt⟩) (s:=(List.range' st.objs.length ((st.objs++st'.objs.drop st.objs.length).length - st.objs.length),[])) ⟨o,⟨some x,effAt st.objs.length (st'.objs.drop st.objs.length),st.objs.length,st.objs.length+(st'.objs.drop st.objs.length).length,[]⟩,h1,?_,?_⟩ k
      ·refine ⟨Q2x h2 hop hg has hnr hf hb hn (Nat.le_of_ble_eq_true hle) hx c1 hr hob hbig (by rw [←hl]; exact c4) (by rw [←hl]; exact hxi),rfl,by simp,Q2i hbig,by simp,fun _=>by simpa using hbig,fun he=>?_,hp,rfl⟩
       have:=Qx6 he
       simp [this]
      ·refine ⟨fun e' he'=>?_,fun e' he'=>by cases he'⟩
       obtain ⟨j,y,q1,q2⟩:=Qey.1 he'
       have hj:=(List.getElem?_eq_some_iff.1 q1).1
       refine ⟨st.objs.length+j,?_,?_⟩
       ·simp only [List.mem_range'_1,List.length_append]; omega
       ·rcases q2 with ⟨q,_⟩ | ⟨w,fl,ls,i',l,_,_,q,_⟩
        ·exact .inl q
        ·exact .inr ⟨by omega,i',q⟩
     ·cases hS
    ·cases hS
   ·cases hS
  ·cases hS
 ·cases hS
end
end Go.Ab
namespace Go.Ab
open Go.RowKit
section
variable {P:Program} {B:Nat} {W0 W:World} {D D0 dl:List Nat} {M:CM} {ι:Inj} {σ:Sto} {st st':St} {a:Act} {base:Nat}
theorem Q0f {x y:AV} (h:y∈x.flat):∀o∈y.ids,o∈x.ids:=by
 cases x with
 | agg cs=>intro o ho; simp only [AV.ids,Qgg]; exact ⟨y,h,ho⟩
 | _=>simp only [AV.flat,List.mem_singleton] at h; subst h; exact fun o ho=>ho
theorem TrE.congr {ι':Inj} {x:AV} (h:∀o∈x.ids,ι' o=ι o):TrE M ι ι' x x :=
 ⟨fun _ h=>h,fun h=>h,fun j y hj=>⟨y,hj,fun v hv=>hv.congr (fun o ho=>h o (Q0f (List.mem_of_getElem? hj) o ho)),fun v hv=>hv⟩⟩
theorem TrE.ref {ι':Inj} {o o' n:Nat} (h:∀p,ι o=some p→ι' o'=some p):TrE M ι ι' (.ref o 0 n) (.ref o' 0 n):=by
 refine ⟨fun w hw=>Qj0 (f:=fun _=>some o') rfl hw,fun h=>(by cases h),fun c y' hc=>?_⟩
 cases c with
 | succ c=>simp [AV.flat] at hc
 | zero =>
  simp only [AV.flat,List.getElem?_cons_zero,Option.some.injEq] at hc
  subst hc
  refine ⟨_,rfl,fun v hv=>?_,fun v hv=>?_⟩
  ·obtain ⟨p,hp,hq⟩:=Qh6 hv
   exact hq _ _ (h p hp)
  ·obtain ⟨p,hp,_⟩:=Qh6 hv
   cases hp
variable {rd:Option Nat} {ops:Array Oper} {S:St} {o:Oper} {out:AOut} {Φ:AOut→Prop} {d:Option (List Sk)} {i:Nat}
theorem exec_post {c:Code} {e:Zg} {st1:St} (h:Z7 P rd base c st (.go e st')) (hw:Wk P base st' st1):Z7 P rd base c st (.go e st1):=by
 intro B W0 D0 dl M ι a W n Q r hs hr hp
 refine h B W0 D0 dl M ι a W n Q r hs hr ⟨fun e' s he dl' M' ι' a' W' g1 g2 g3 g4=>?_,fun v he=>(by cases he)⟩
 cases he
 obtain ⟨M2,ι2,k1,k2,k3⟩:=hw _ _ _ _ _ _ _ _ g4
 exact hp.go e st1 rfl dl' M2 ι2 a' W' (g1.trans k1) (g2.trans k2) g3 k3
theorem Q2u {c:Code} (h:WP P rd base c st (fun out=>match out with | .go e s=>∃s1,Wk P base s s1∧Φ (.go e s1) | .pan v=>Φ (.pan v))):WP P rd base c st Φ:=by
 obtain ⟨out,h1,h2⟩:=h
 cases out with
 | pan v=>exact ⟨_,h1,h2⟩
 | go e s=>obtain ⟨s1,h3,h4⟩:=h2; exact ⟨_,exec_post h1 h3,h4⟩
end
end Go.Ab
namespace Go.Ab
open Go.RowKit
open Go.ChangeShapes in
theorem post_of_below {H:Type} {enc:TypeId × Value→H} {P:Program} {f:Func} {s:ChangeSpec} {apart fresh handsOn again:Bool} {W W':World} {args:Array Value} {v:Value} {ds gs:List (DataW H)} {before pa pv:List MemPlace}
  (hW:DataW.Whole enc P f.params.toList s.vars apart W args.toList ds gs before)
  (hres:∀(b:Nat) (sp:Nat → Bool) (hd:Bool),DataW.TrodAll enc P W' b sp hd f.resultTypes.toList (v.resultList f.resultTypes.size) (s.fn H (ds++gs)).results [])
  (hargs:∀sp:Nat → Bool,(∀p∈before,sp p.block=true)→DataW.TrodAll enc P W' 0 sp true f.params.toList args.toList (s.fn H (ds++gs)).args pa)
  (hvars:∀sp:Nat → Bool,(∀p∈before,sp p.block=true)→DataW.TrodVars enc P W' sp s.vars (s.fn H (ds++gs)).vars pv)
  (hps:before=pa++pv) (hb:Below W.heap.size W W')
  (hok:∀(j:Nat) (t:TypeId) (r:Value),f.resultTypes[j]?=some t→(v.resultList f.resultTypes.size)[j]?=some r→Value.okWide P W' .any 0 t r) :
  s.post enc P f apart fresh handsOn again W args v W':=by
 have hold:∀p∈before,(fun b=>decide (b < W.heap.size)) p.block=true:=fun p hp=>by simpa using hW.lt p hp
 have hlt:=hW.lt
 refine ⟨ds,gs,before,[],pa,pv,hW,hres _ _ _,hargs _ hold,hvars _ hold,World.keptBut_mono (fun p hp=>⟨hp,?_⟩) (hb.frame (·∈before)),fun _=>?_⟩
 ·rw [hps,List.mem_append] at hp
  exact Or.inr hp
 ·obtain ⟨_,_,_,_,_,hz,hn⟩:=hW
  refine ⟨hok,_,_,([]++pa)++pv,⟨[]++pa,pv,trodAll_append (hargs _ (fun _ _=>rfl)) (hres _ _ _),hvars _ (fun _ _=>rfl),rfl,?_,?_⟩,?_⟩
  ·intro b off hp
   have hm:MemPlace.cell b off∈before:=by rw [hps]; simpa using hp
   have h1:b < W.heap.size:=hlt _ hm
   rw [hb.frozen h1]
   exact hz b off hm
  ·intro ha
   have:=hn ha
   rw [hps] at this
   simpa using this
  ·intro p hp _
   rw [hps]
   simpa using hp
end Go.Ab
namespace Go.Ab
open Go.RowKit
theorem Qwz {M:CM} {ι:Inj} {v:Value} {fl:Bool} (h:Qa M ι v (.lst fl [])):Qa M ι v .nils∨Qa M ι v .emn:=by
 cases h with
 | lst0 a =>
  cases a with
  | none=>exact .inl .nils
  | some a=>exact .inr (.emn a 0)
 | lst b off cap=>exact .inr (.emn _ cap)
theorem Q4.nil {P:Program} {f:FuncId} {l1 l2:List AV} {fl:Bool} {out:Xm} (h1:Q4 P f (l1++.nils::l2) out) (h2:Q4 P f (l1++.emn::l2) out):Q4 P f (l1++.lst fl []::l2) out:=by
 intro W M vs hM hsz hr
 have hlt:l1.length < vs.size:=by simp at hsz; omega
 have h0:=hr l1.length vs[l1.length] (.lst fl []) (by simp [hlt]) (by simp)
 have other:∀y,Qa M noInj vs[l1.length] y→∀(j:Nat) (v:Value) (a:AV),vs[j]?=some v→(l1++y::l2)[j]?=some a→Qa M noInj v a:=by
  intro y hy j v a hv ha
  rcases Nat.lt_trichotomy j l1.length with c | c | c
  ·refine hr j v a hv ?_
   rw [List.getElem?_append_left c] at ha ⊢; exact ha
  ·subst c
   rw [List.getElem?_append_right (Nat.le_refl _)] at ha
   simp at ha; subst ha
   rw [Array.getElem?_eq_getElem hlt] at hv; cases hv; exact hy
  ·refine hr j v a hv ?_
   rw [List.getElem?_append_right (by omega)] at ha ⊢
   rw [show j - l1.length=(j - l1.length - 1)+1 by omega] at ha ⊢
   simpa using ha
 rcases Qwz h0 with e | e
 ·exact h1 W M vs hM (by simpa using hsz) (other _ e)
 ·exact h2 W M vs hM (by simpa using hsz) (other _ e)
section
variable {P:Program} {base:Nat} {st st':St}
end
theorem Q4.froz {P:Program} {f:FuncId} {args:List AV} {v y:AV} {objs:List AObj} {ids:List Nat} (h:Q4 P f args (.ret v objs)) (hs:Qr (fun k=>objs[k]?) Qp v=some (y,ids)):Q4 P f args (.ret y []):=by
 intro W M vs hM hsz hr
 refine (h W M vs hM hsz hr).mono fun e W' he=>?_
 obtain ⟨u,M',ι',rfl,hg,hrel,hout,hv⟩:=he
 refine ⟨u,_,noInj,rfl,hg.trans (hrel.growC ids),⟨hrel.size,hrel.below,hrel.defs,Qdm hrel.agree,fun o bx nr fl w xs p k ho=>(by simp at ho),fun o bx ro nr fl w xs ho=>(by simp at ho),fun o fn sl ps as bd st pe ho=>(by simp at ho),fun o o' bx nr fl w xs bx' nr' fl' w' xs' p p' _ ho=>(by simp at ho),fun o o' fn sl ps as bd st pe fn' sl' ps' as' bd' st' pe' p p' _ ho=>(by simp at ho),fun o _=>.inl (by simp)⟩,fun _ _=>rfl,Vm hrel ids Qp v y ids u hs (fun k hk=>hk) hv⟩
section
variable {P:Program} {rd:Option Nat} {base:Nat} {ops:Array Oper} {st S:St} {Φ:AOut→Prop} {d:Option (List Sk)} {i:Nat}
def Q7b (P:Program) (ops:Array Oper) (i:Nat) (st:St):Option (AV × AV × Nat) :=
 match X2 ops i st with
 | some o=>match o.op with
  | .call { callee:=.builtin .copy,args,argTypes }=>match args.toList,argTypes.toList with
   | [x,y],t::_=>match ti P t,evo (lk st.slots) x,evo (lk st.slots) y with
    | some T,some a,some b=>match T.kind with
     | .slice e=>match ti P e with
      | some E=>some (a,b,E.size)
      | none=>none
     | _=>none
    | _,_,_=>none
   | _,_=>none
  | _=>none
 | none=>none
def Qrv (agg:Bool) (w:Nat) (cs:List AV):Option AV:=if agg then (if w≤cs.length then some (.agg (cs.take w)) else none) else cs.head?
def Qpj (P:Program) (ops:Array Oper) (i:Nat) (st:St):Option (List AV × Int × Nat × Nat × Bool) :=
 match X2 ops i st with
 | some o=>match o.op with
  | .index t x ix=>match ti P t,evo (lk st.slots) x,evo (lk st.slots) ix with
   | some T,some (.agg cs),some (.int _ n)=>match T.kind with
    | .array len e=>match ti P e with
     | some E=>some (cs,n,len,E.size,E.agg)
     | none=>none
    | _=>none
   | _,_,_=>none
  | _=>none
 | none=>none
theorem Qt2 {cs:List AV} {n:Int} {len w:Nat} {g:Bool} (h:Qpj P ops i st=some (cs,n,len,w,g)):∃o,X2 ops i st=some o ∧
  ∀v,0≤n→n.toNat < len→Qrv g w (cs.drop (n.toNat * w))=some v→Xf P false noC st.sto st.objs.length (lk st.slots) o=some (.val ⟨some v,[],st.objs.length,[]⟩):=by
 unfold Qpj at h
 split at h
 ·rename_i o ho
  split at h
  ·rename_i t x ix hop
   split at h
   ·rename_i T cs' k n' hT hx hix
    split at h
    ·rename_i len' e hk
     split at h
     ·rename_i E hE
      cases h
      refine ⟨o,ho,fun v h1 h2 hv=>?_⟩
      have hneg:¬ n < 0:=by omega
      unfold Xf
      rw [hop]
      simp only [V0,Bool.false_eq_true,if_false]
      unfold evalOp
      rw [hop]
      have hv':Qaq E (cs.drop (n.toNat * E.size))=some v:=hv
      simp only [hT,hx,hix,hk,asN,hneg,if_false,hE,blt_true h2,if_true,hv',Z4,Option.map_some,Y6]
     ·cases h
    ·cases h
   ·cases h
  ·cases h
 ·cases h
theorem Qqu {α:Type} {enc:α→AV} {w:Nat} (hw:∀x,Nat.beq (enc x).flat.length w=true):∀(l:List α) (j:Nat) (a:α),l[j]?=some a→∃r,(l.flatMap fun x=>(enc x).flat).drop (j*w)=(enc a).flat ++ r
 | [],j,a,h=>by simp at h
 | x::xs,0,a,h=>by
  simp at h; subst h
  exact ⟨_,by simp [List.flatMap_cons]; rfl⟩
 | x::xs,j+1,a,h=>by
  obtain ⟨r,hr⟩:=Qqu hw xs j a (by simpa using h)
  refine ⟨r,?_⟩
  rw [List.flatMap_cons,List.drop_append,Nat.eq_of_beq_eq_true (hw x),List.drop_of_length_le (by rw [Nat.eq_of_beq_eq_true (hw x),Nat.succ_mul]; omega),List.nil_append,show (j+1)*w - w=j*w by rw [Nat.succ_mul]; omega]
  exact hr
theorem Qy8 {g:Bool} {w:Nat} {cs r:List AV} {v:AV} (hl:cs.length=w) (h:Qrv g w cs=some v) (hne:cs≠[]):Qrv g w (cs++r)=some v:=by
 subst hl
 cases g with
 | true =>
  have h:(if cs.length≤cs.length then some (AV.agg (cs.take cs.length)) else none)=some v:=h
  show (if cs.length≤(cs++r).length then some (AV.agg ((cs++r).take cs.length)) else none)=some v
  rw [if_pos (by simp),List.take_append_of_le_length (Nat.le_refl _)]
  rw [if_pos (Nat.le_refl _)] at h; exact h
 | false =>
  cases cs with
  | nil=>exact absurd rfl hne
  | cons c cs=>exact h
theorem Q6x {α:Type} {enc:α→AV} {l:List α} {n:Int} {a:α} {w:Nat} {g:Bool} {v:AV} (hi:Qpj P ops i st=some (l.flatMap (fun x=>(enc x).flat),n,l.length,w,g)) (hw:∀x,Nat.beq (enc x).flat.length w=true) (h0:Nat.blt 0 w=true)
  (ha:lkI l n=some a) (hv:Qrv g w (enc a).flat = some v) (hS:Vb ops i st (some v) []=some S) (k:RW P rd base ops (Zp d [([],[])]) (i+1) S Φ):RW P rd base ops d i st Φ:=by
 obtain ⟨h1,h2,h3⟩:=Qis ha
 obtain ⟨o,ho,hev⟩:=Qt2 hi
 obtain ⟨r,hr⟩:=Qqu hw l _ a h3
 have hl:=Nat.eq_of_beq_eq_true (hw a)
 refine K8 ho (hev v h1 h2 ?_) hS (Vp hS) k
 rw [hr]
 exact Qy8 hl hv (fun e=>by rw [e] at hl; simp at hl; rw [←hl] at h0; cases h0)
end
end Go.Ab
namespace Go.Ab
open Go.RowKit
inductive Sh where
 | int (k:IntKind)
 | bool
 | str
 | slice (fl ag:Bool) (w:Nat) (e:Sh)
 | cat (a b:Sh)
 | unit
def Sh.scal:Sh→Bool
 | .slice ..=>false
 | .cat a b=>a.scal && b.scal
 | _=>true
def Sh.width:Sh→Nat
 | .cat a b=>a.width+b.width
 | .unit=>0
 | _=>1
def WT:Sh→List AV→Prop
 | .int k,cs=>∃n,cs=[.int k n]∧(Lit.int k n).wf=true
 | .bool,cs=>∃b,cs=[.bool b]
 | .str,cs=>∃s,cs=[.str s]∧s.size≤maxLen
 | .slice fl ag w e,cs=>∃xs,cs=[.lst fl xs]∧xs.length≤maxLen∧∀x∈xs,WT e x.flat ∧ (if ag then x=.agg x.flat else x.cell=true)
 | .cat a b,cs=>∃x y,cs=x++y∧WT a x∧WT b y
 | .unit,cs=>cs=[]
def Qh9 (P:Program) (t:TypeId):Bool:=match P.underlying t with | some (.struct _)=>true | some (.array _ _)=>true | _=>false
def Qxh (s:Sh):Nat → Sh
 | 0=>.unit
 | n+1=>.cat s (Qxh s n)
def Qjh (P:Program) (rec:TypeId→Option Sh):List Field→Nat → Option Sh
 | [],_=>some .unit
 | f::r,o=>match rec f.type with
  | some s=>if Nat.beq f.offset o && Nat.beq s.width (P.cellsOf f.type) then (match Qjh P rec r (o+s.width) with | some q=>some (.cat s q) | none=>none) else none
  | none=>none
def Qlx (P:Program):Nat → TypeId→Option Sh
 | 0,_=>none
 | n+1,t=>match P.underlying t with
  | some .bool=>some .bool
  | some (.int k)=>some (.int k)
  | some .string=>some .str
  | some (.slice e)=>match Qlx P n e with
   | some s=>if Nat.beq s.width (P.cellsOf e) && Nat.blt 0 (P.cellsOf e) && (Qh9 P e || Nat.beq s.width 1) then some (.slice s.scal (Qh9 P e) (P.cellsOf e) s) else none
   | none=>none
  | some (.struct fs)=>match Qjh P (Qlx P n) fs.toList 0 with
   | some s=>if Nat.beq s.width (P.cellsOf t) then some s else none
   | none=>none
  | some (.array m e)=>match Qlx P n e with
   | some s=>if Nat.beq s.width (P.cellsOf e) && Nat.beq (m*s.width) (P.cellsOf t) then some (Qxh s m) else none
   | none=>none
  | _=>none
theorem Qte:∀{s:Sh} {cs:List AV},WT s cs→cs.length=s.width
 | .int k,cs,h=>by obtain ⟨n,rfl,_⟩:=h; rfl
 | .bool,cs,h=>by obtain ⟨n,rfl⟩:=h; rfl
 | .str,cs,h=>by obtain ⟨n,rfl,_⟩:=h; rfl
 | .slice _ _ _ _,cs,h=>by obtain ⟨n,rfl,_⟩:=h; rfl
 | .cat a b,cs,h=>by obtain ⟨x,y,rfl,h1,h2⟩:=h; simp [Sh.width,Qte h1,Qte h2]
 | .unit,cs,h=>by cases h; rfl
theorem Qpw:∀{s:Sh} {cs:List AV},WT s cs→s.scal=true→cs.all AV.sc=true
 | .int k,cs,h,_=>by obtain ⟨n,rfl,_⟩:=h; rfl
 | .bool,cs,h,_=>by obtain ⟨n,rfl⟩:=h; rfl
 | .str,cs,h,_=>by obtain ⟨n,rfl,_⟩:=h; rfl
 | .slice _ _ _ _,cs,h,hs=>by cases hs
 | .cat a b,cs,h,hs=>by
  obtain ⟨x,y,rfl,h1,h2⟩:=h
  simp only [Sh.scal,Bool.and_eq_true] at hs
  rw [List.all_append,Qpw h1 hs.1,Qpw h2 hs.2]; rfl
 | .unit,cs,h,_=>by cases h; rfl
def Qbh (M:CM) (cs:List Value) (avs:List AV):Prop:=avs.length=cs.length∧∀(j:Nat) (v:Value) (y:AV),cs[j]?=some v→avs[j]?=some y→Qa M noInj v y∧y.cell=true
theorem Qaf {M:CM} {v:Value} {y:AV} (h:Qa M noInj v y) (hc:y.cell=true):Qbh M [v] [y]:=by
 refine ⟨rfl,fun j v' y' h1 h2=>?_⟩
 cases j with
 | zero=>cases h1; cases h2; exact ⟨h,hc⟩
 | succ j=>simp at h1
theorem Qip {M:CM} {a b:List Value} {x y:List AV} (h1:Qbh M a x) (h2:Qbh M b y):Qbh M (a++b) (x++y):=by
 refine ⟨by simp [h1.1,h2.1],fun j v z hv hz=>?_⟩
 rcases Nat.lt_or_ge j a.length with hj | hj
 ·rw [List.getElem?_append_left hj] at hv
  rw [List.getElem?_append_left (by rw [h1.1]; exact hj)] at hz
  exact h1.2 j v z hv hz
 ·rw [List.getElem?_append_right hj] at hv
  rw [List.getElem?_append_right (by rw [h1.1]; exact hj),h1.1] at hz
  exact h2.2 _ v z hv hz
theorem Quq {α:Type} {n:Nat} {Q:Nat → α→Prop} (h:∀i,i < n→∃x,Q i x):∃xs:List α,xs.length=n∧∀i x,xs[i]?=some x→Q i x:=by
 induction n with
 | zero=>exact ⟨[],rfl,fun i x hx=>by simp at hx⟩
 | succ n ih =>
  obtain ⟨xs,h1,h2⟩:=ih fun i hi=>h i (by omega)
  obtain ⟨x,hx⟩:=h n (by omega)
  refine ⟨xs++[x],by simp [h1],fun i y hy=>?_⟩
  rcases Nat.lt_or_ge i xs.length with hi | hi
  ·rw [List.getElem?_append_left hi] at hy; exact h2 i y hy
  ·rw [List.getElem?_append_right hi] at hy
   cases hk:i - xs.length with
   | zero =>
    rw [hk] at hy
    cases hy
    rw [show i=n by omega]; exact hx
   | succ k=>rw [hk] at hy; simp at hy
def Qc0 (w:World) (hg:GlobIn w):CM:=⟨fun b o=>w.cell? ⟨b,o,none⟩,hg,fun _=>none,fun _ _=>none⟩
theorem Q0h {w:World} {hg:GlobIn w} {b o:Nat}:Qc0 w hg b o=w.cell? ⟨b,o,none⟩:=rfl
theorem Qq2 {α β:Type} {f:α→Option β}:∀{l:List α} {r:List β},l.mapM f=some r→r.length=l.length∧∀(i:Nat) (a:α),l[i]?=some a→f a=r[i]?
 | [],r,h=>by simp at h; subst h; simp
 | a::l,r,h=>by
  simp only [List.mapM_cons,Option.pure_def,Option.bind_eq_bind,Option.bind_eq_some_iff] at h
  obtain ⟨b,hb,bs,hbs,h⟩:=h
  cases h
  obtain ⟨h1,h2⟩:=Qq2 hbs
  refine ⟨by simp [h1],fun i x hx=>?_⟩
  cases i with
  | zero=>cases hx; simpa using hb
  | succ i=>simpa using h2 i x (by simpa using hx)
theorem Qtz {w:World} {base:Nat} {a:Addr} {n:Nat} {row:List Value} (h:w.cells? base a n=some row):row.length=n∧∀i,i < n→w.cell? (a.add i)=row[i]?:=by
 unfold World.cells? at h
 split at h
 ·obtain ⟨h1,h2⟩:=Qq2 h
  refine ⟨by simpa using h1,fun i hi=>h2 i i (by simp [hi])⟩
 ·cases h
theorem Qzh {w:World} {a:Addr} {v:Value} (h:w.cell? a=some v):a.spot=none:=by
 unfold World.cell? at h
 cases hs:a.spot with
 | none=>rfl
 | some s =>
  simp only [hs] at h
  split at h <;> simp at h
theorem Qk3 (a:Addr):a.add 0=a:=by simp [Addr.add]
theorem Qtu (b off k:Nat):(⟨b,off,none⟩:Addr).add k=⟨b,off+k,none⟩:=by
 unfold Addr.add
 split
 ·rename_i h; subst h; rfl
 ·rfl
section
variable {H:Type} {enc:TypeId × Value→H} {P:Program} {w:World} {base:Nat} {hg:GlobIn w}
theorem Qo0 {cs:List Value} {m:Nat} {rec:TypeId→Option Sh} (ih:∀(t:TypeId) (s:Sh),rec t=some s→∀(cs:List Value) (x:DataW H × List MemPlace),DataW.trod enc P w base (fun _=>true) true m t cs=some x→∃avs,Qbh (Qc0 w hg) cs avs∧WT s avs) :
  ∀(l:List Field) (o:Nat) (s:Sh),Qjh P rec l o=some s→(∀f∈l,∃x,DataW.trod enc P w base (fun _=>true) true m f.type ((cs.drop f.offset).take (P.cellsOf f.type))=some x)→∃avs,Qbh (Qc0 w hg) ((cs.drop o).take s.width) avs∧WT s avs
 | [],o,s,h,_=>by
  cases h
  exact ⟨[],⟨by simp [Sh.width],fun j v y h1 h2=>by simp at h2⟩,rfl⟩
 | f::l,o,s,h,hf=>by
  unfold Qjh at h
  split at h
  ·rename_i s1 hs1
   split at h
   ·rename_i hc
    split at h
    ·rename_i q hq
     cases h
     simp only [Bool.and_eq_true] at hc
     have h1:=Nat.eq_of_beq_eq_true hc.1
     have h2:=Nat.eq_of_beq_eq_true hc.2
     obtain ⟨x,hx⟩:=hf f (by simp)
     rw [h1,←h2] at hx
     obtain ⟨a1,c1,w1⟩:=ih _ _ hs1 _ _ hx
     obtain ⟨a2,c2,w2⟩:=Qo0 ih l (o+s1.width) q hq (fun g hg=>hf g (by simp [hg]))
     refine ⟨a1++a2,?_,a1,a2,rfl,w1,w2⟩
     have e:(cs.drop o).take (s1.width+q.width)=(cs.drop o).take s1.width++(cs.drop (o+s1.width)).take q.width:=by
      rw [List.take_add,List.drop_drop]
     simp only [Sh.width]
     rw [e]
     exact Qip c1 c2
    ·cases h
   ·cases h
  ·cases h
theorem Qvt {cs:List Value} {M:CM} {s:Sh} {n:Nat} (h:∀i,i < n→∃avs,Qbh M ((cs.drop (i*s.width)).take s.width) avs∧WT s avs):∀(k o:Nat),o+k=n→∃avs,Qbh M ((cs.drop (o*s.width)).take (k*s.width)) avs∧WT (Qxh s k) avs
 | 0,o,_=>⟨[],⟨by simp,fun j v y h1 h2=>by simp at h2⟩,rfl⟩
 | k+1,o,hk=>by
  obtain ⟨a1,c1,w1⟩:=h o (by omega)
  obtain ⟨a2,c2,w2⟩:=Qvt h k (o+1) (by omega)
  refine ⟨a1++a2,?_,a1,a2,rfl,w1,w2⟩
  have e:(cs.drop (o*s.width)).take ((k+1)*s.width)=(cs.drop (o*s.width)).take s.width++(cs.drop ((o+1)*s.width)).take (k*s.width):=by
   rw [Nat.succ_mul k,Nat.add_comm,List.take_add,List.drop_drop,Nat.succ_mul o]
  rw [e]
  exact Qip c1 c2
theorem Qt4 (cs:List AV):(AV.agg cs).flat = cs:=rfl
theorem Qjb:∀(n:Nat) (t:TypeId) (s:Sh),Qlx P n t=some s→∀(m:Nat) (cs:List Value) (x:DataW H × List MemPlace),DataW.trod enc P w base (fun _=>true) true m t cs=some x→∃avs,Qbh (Qc0 w hg) cs avs∧WT s avs
 | 0,t,s,h=>by simp [Qlx] at h
 | n+1,t,s,h=>by
  intro m cs x hx
  unfold Qlx at h
  split at h
  ·rename_i ht
   cases h
   obtain ⟨b,rfl,_⟩:=DataW.trod_bool ht hx
   exact ⟨[.bool b],Qaf (.bool b) rfl,b,rfl⟩
  ·rename_i k ht
   cases h
   obtain ⟨z,rfl,_,hw⟩:=DataW.trod_int ht hx
   exact ⟨[.int k z],Qaf (.int k z) rfl,z,rfl,hw⟩
  ·rename_i ht
   cases h
   obtain ⟨z,rfl,_,hw⟩:=DataW.trod_string ht hx
   exact ⟨[.str z],Qaf (.str z) rfl,z,rfl,hw⟩
  ·rename_i e ht
   split at h
   ·rename_i s1 hs1
    split at h
    ·rename_i hc
     cases h
     simp only [Bool.and_eq_true,Bool.or_eq_true] at hc
     obtain ⟨⟨hw,hpos⟩,hag⟩:=hc
     have hw:=Nat.eq_of_beq_eq_true hw
     have hpos:0 < P.cellsOf e:=by simpa using hpos
     rcases DataW.trod_slice ht hx with ⟨rfl,_⟩ | ⟨a,len,cap,elems,rest,n',_,rfl,_,hb,hl,hm,hlen,hel,hsp,_⟩
     ·exact ⟨[.lst s1.scal []],Qaf (.lst0 none _) rfl,[],rfl,by simp,fun x hx=>by cases hx⟩
     ·have hsp:=hsp rfl
      have hspot:0 < cap→a.spot=none:=fun hcap=>by
       have key:∃row,w.cells? base a (P.cellsOf e)=some row:=by
        rcases Nat.eq_zero_or_pos len with h0 | h0
        ·have:=hsp.2 0 (by omega)
         rw [List.getElem?_eq_getElem (by omega)] at this
         obtain ⟨row,h1,_⟩:=Option.bind_eq_some_iff.1 this
         rw [h0,Nat.add_zero,Nat.zero_mul,Qk3] at h1
         exact ⟨row,h1⟩
        ·have:=hel 0 h0
         rw [List.getElem?_eq_getElem (by omega)] at this
         obtain ⟨row,h1,_⟩:=Option.bind_eq_some_iff.1 this
         rw [Nat.zero_mul,Qk3] at h1
         exact ⟨row,h1⟩
       obtain ⟨row,hk⟩:=key
       obtain ⟨h1,h2⟩:=Qtz hk
       have h3:=h2 0 hpos
       rw [List.getElem?_eq_getElem (by omega),Qk3] at h3
       exact Qzh h3
      rcases Nat.eq_zero_or_pos cap with h0 | h0
      ·have hl0:len=0:=by omega
       subst h0; subst hl0
       exact ⟨[.lst s1.scal []],Qaf (.lst0 _ _) rfl,[],rfl,by simp,fun x hx=>by cases hx⟩
      ·have hspot:=hspot h0
       obtain ⟨blk,off,spot⟩:=a
       simp only at hspot
       subst hspot
       have each:∀i,i < len→∃z:AV,z.shaped (P.cellsOf e)∧WT s1 z.flat ∧ (if Qh9 P e then z=.agg z.flat else z.cell=true)∧∀(j:Nat) (y:AV),z.flat[j]?=some y→∃v,w.cell? ⟨blk,off+i*P.cellsOf e+j,none⟩=some v∧Qa (Qc0 w hg) noInj v y:=by
        intro i hi
        have h1:=hel i hi
        rw [List.getElem?_eq_getElem (by omega)] at h1
        obtain ⟨row,h2,h3⟩:=Option.bind_eq_some_iff.1 h1
        obtain ⟨avs,c1,w1⟩:=Qjb n e s1 hs1 _ _ _ h3
        obtain ⟨g1,g2⟩:=Qtz h2
        have hlen':=Qte w1
        have cellv:∀(j:Nat) (y:AV),avs[j]?=some y→∃v,w.cell? ⟨blk,off+i*P.cellsOf e+j,none⟩=some v∧Qa (Qc0 w hg) noInj v y∧y.cell=true:=fun j y hy=>by
         have hj:=(List.getElem?_eq_some_iff.1 hy).1
         have h5:=g2 j (by omega)
         have h6:row[j]?=some row[j]:=List.getElem?_eq_getElem (by rw [←c1.1]; exact hj)
         rw [h6] at h5
         refine ⟨_,?_,c1.2 j _ y h6 hy⟩
         rw [Qtu,Qtu] at h5
         exact h5
        by_cases ha:Qh9 P e=true
        ·refine ⟨.agg avs,⟨.inl rfl,by rw [Qt4]; omega,fun y hy=>?_⟩,w1,by rw [if_pos ha]; rfl,fun j y hy=>?_⟩
         ·rw [Qt4] at hy
          obtain ⟨j,hj⟩:=List.mem_iff_getElem?.1 hy
          obtain ⟨_,_,_,h⟩:=cellv j y hj
          exact h
         ·obtain ⟨v,h1,h2,_⟩:=cellv j y hy
          exact ⟨v,h1,h2⟩
        ·have h1:s1.width=1:=by
          rcases hag with h | h
          ·exact absurd h ha
          ·exact Nat.eq_of_beq_eq_true h
         obtain ⟨z,rfl⟩:∃z,avs=[z]:=by
          match avs,hlen' with
          | [z],_=>exact ⟨z,rfl⟩
          | [],h=>simp [h1] at h
          | _::_::_,h=>simp [h1] at h
         obtain ⟨v,hv,hr,hcell⟩:=cellv 0 z rfl
         have hflat : z.flat = [z]:=by cases z <;> simp_all [AV.flat,AV.cell]
         refine ⟨z,⟨.inr hcell,by rw [hflat]; simp; omega,fun y hy=>by rw [hflat] at hy; simp at hy; rw [hy]; exact hcell⟩,by rw [hflat]; exact w1,by rw [if_neg ha]; exact hcell,fun j y hy=>?_⟩
         rw [hflat] at hy
         cases j with
         | zero=>cases hy; exact ⟨v,by simpa using hv,hr⟩
         | succ j=>simp at hy
       obtain ⟨xs,hxl,hxs⟩:=Quq each
       refine ⟨[.lst s1.scal xs],Qaf ?_ rfl,xs,rfl,by omega,fun z hz=>?_⟩
       ·have:=Qa.lst (M:=Qc0 w hg) (ι:=noInj) blk off cap (P.cellsOf e) s1.scal xs (fun i j=>(w.cell? ⟨blk,off+i*P.cellsOf e+j,none⟩).getD default) (by omega)
         (fun hfl z hz=>by
          obtain ⟨i,hi⟩:=List.mem_iff_getElem?.1 hz
          exact Qpw (hxs i z hi).2.1 hfl)
         (fun z hz=>by
          obtain ⟨i,hi⟩:=List.mem_iff_getElem?.1 hz
          exact (hxs i z hi).1)
         (fun i j z y hz hy=>by
          obtain ⟨v,h1,h2⟩:=(hxs i z hz).2.2.2 j y hy
          simp only [Q0h]
          rw [h1]; rfl)
         (fun i j z y hz hy=>by
          obtain ⟨v,h1,h2⟩:=(hxs i z hz).2.2.2 j y hy
          rw [h1]; exact h2)
        rwa [hxl] at this
       ·obtain ⟨i,hi⟩:=List.mem_iff_getElem?.1 hz
        exact ⟨(hxs i z hi).2.1,(hxs i z hi).2.2.1⟩
    ·cases h
   ·cases h
  ·rename_i fs ht
   split at h
   ·rename_i s1 hs1
    split at h
    ·rename_i hw
     cases h
     have hw:=Nat.eq_of_beq_eq_true hw
     obtain ⟨xs,n',_,_,hl,hxs,hf⟩:=DataW.trod_struct ht hx
     obtain ⟨avs,c1,w1⟩:=Qo0 (cs:=cs) (m:=n') (rec:=Qlx P n) (fun t s hs cs x hx=>Qjb n t s hs _ _ _ hx) fs.toList 0 s hs1 (fun f hf'=>by
      obtain ⟨i,hi⟩:=List.mem_iff_getElem?.1 hf'
      have h1:=hf i f (by simpa using hi)
      have hi':=(List.getElem?_eq_some_iff.1 hi).1
      rw [List.getElem?_eq_getElem (by rw [hxs]; simpa using hi')] at h1
      exact ⟨_,h1⟩)
     refine ⟨avs,?_,w1⟩
     rw [List.drop_zero,List.take_of_length_le (by omega)] at c1
     exact c1
    ·cases h
   ·cases h
  ·rename_i m0 e ht
   split at h
   ·rename_i s1 hs1
    split at h
    ·rename_i hw
     cases h
     simp only [Bool.and_eq_true] at hw
     have h1:=Nat.eq_of_beq_eq_true hw.1
     have h2:=Nat.eq_of_beq_eq_true hw.2
     obtain ⟨xs,n',_,_,hl,hxs,hf⟩:=DataW.trod_array ht hx
     obtain ⟨avs,c1,w1⟩:=Qvt (cs:=cs) (M:=Qc0 w hg) (s:=s1) (n:=m0) (fun i hi=>by
      have h3:=hf i hi
      rw [List.getElem?_eq_getElem (by omega),←h1] at h3
      exact Qjb n e s1 hs1 _ _ _ h3) m0 0 (by omega)
     refine ⟨avs,?_,w1⟩
     rw [Nat.zero_mul,List.drop_zero,List.take_of_length_le (by omega)] at c1
     exact c1
    ·cases h
   ·cases h
  ·cases h
theorem arg_struct {t:TypeId} {s:Sh} {v:Value} {d:DataW H} {ps:List MemPlace} {b0:Nat} (n:Nat) (hs:Qlx P n t=some s) (ha:Qh9 P t=true) (hok:Value.okWide P w .any b0 t v)
  (h:DataW.Trod enc P w base (fun _=>true) true t v d ps):∃avs,Qa (Qc0 w hg) noInj v (.agg avs)∧WT s avs:=by
 obtain ⟨m,hm⟩:=h
 obtain ⟨avs,c1,w1⟩:=Qjb n t s hs m _ _ hm
 have hv:∃cs,v=.agg cs:=by
  unfold Qh9 at ha
  unfold Value.okWide at hok
  split at ha
  ·rename_i fs hfs
   rw [hfs] at hok
   obtain ⟨cs,h1,_⟩:=hok
   exact ⟨cs,h1⟩
  ·rename_i m0 e hfs
   rw [hfs] at hok
   obtain ⟨cs,h1,_⟩:=hok
   exact ⟨cs,h1⟩
  ·cases ha
 obtain ⟨cs,rfl⟩:=hv
 refine ⟨avs,.agg cs avs (by simpa [Value.cells] using c1.1.symm) (fun y hy=>?_) (fun j u y hu hy=>?_),w1⟩
 ·obtain ⟨j,hj⟩:=List.mem_iff_getElem?.1 hy
  have hj':=(List.getElem?_eq_some_iff.1 hj).1
  rw [c1.1] at hj'
  exact (c1.2 j _ y (List.getElem?_eq_getElem hj') hj).2
 ·exact (c1.2 j u y (by simpa [Value.cells] using hu) hy).1
end
theorem sameAt_of {W W':World} (h:∀b,b < W.heap.size→W'.heap[b]?=W.heap[b]?) {p:MemPlace} (hp:p.block < W.heap.size):W.sameAt W' p:=by
 cases p with
 | cell b off =>
  show W'.cell? ⟨b,off,none⟩=W.cell? ⟨b,off,none⟩
  unfold World.cell?
  rw [h b hp]
 | map b=>exact h b hp
theorem calls_args {P:Program} {f:FuncId} {args:List AV} {b:Bool} (h:Q4 P f args (.ret (.bool b) [])) {W:World} {hg:GlobIn W} {vs:Array Value} (hl:vs.size=args.length)
  (hr:∀(j:Nat) (v:Value) (a:AV),vs[j]?=some v→args[j]?=some a→Qa (Qc0 W hg) noInj v a):Calls P f vs W fun e W'=>e=.returned (.bool b)∧Below W.heap.size W W'∧∀b,b < W.heap.size→W'.heap[b]?=W.heap[b]?:=by
 refine (h W (Qc0 W hg) vs ⟨fun _ _ _ h=>h,fun b x h=>(by cases h),fun b o v h=>(by cases h)⟩ hl hr).mono fun e W' he=>?_
 obtain ⟨v,M',ι',he,_,hrel,_,hv⟩:=he
 cases hv
 exact ⟨he,hrel.below.toBelow,fun b hb=>hrel.below.block b hb⟩
theorem Q6m {x:AV} (h:x.cell=true):x.flat = [x]:=by cases x <;> simp_all [AV.flat,AV.cell]
end Go.Ab
namespace Go.Ab
section
variable {P:Program} {rd:Option Nat} {base:Nat} {ops:Array Oper} {st S:St} {Φ:AOut→Prop} {d:Option (List Sk)} {i:Nat} {c y:Code}
theorem rga {id:Nat} (hm:P.follows .mixedOrders=true) (h:RW P rd base ops (some []) 0 st Φ) (hB:Qp8 ops=true:=by kernel_rfl):WP P rd base (.region id ops true) st Φ:=Q2o (by simp [hm]) (Qvi hB) h
def gt (o:Option St) (d:St):St:=match o with | some S=>S | none=>d
noncomputable def lx (P:Program) (ops:Array Oper) (i:Nat) (st:St) (hv he:List LK) (b:Bool):St:=gt (Qw8 P false ops i st hv he b) st
theorem Q44 {o:Option St} {d:St} (h:o.isSome=true):o=some (gt o d):=by
 cases o with
 | none=>cases h
 | some S=>rfl
theorem sl (nf:Bool) (hv he:List LK) (b:Bool) (hn:nf=false) (hk:RW P rd base ops (Zp d [Qsg P nf ops i st]) (i+1) (lx P ops i st hv he b) Φ) (h:(Qw8 P false ops i st hv he b).isSome=true:=by kernel_rfl):RW P rd base ops d i st Φ:=by
 subst hn; exact sgL false hv he b (Q44 h) hk
theorem kr {α:Sort _} {a b:α} (h:a=b:=by kernel_rfl):a=b:=h
def gt0 (o:Option St):St:=match o with | some S=>S | none=>⟨[],[],0⟩
theorem gE {o:Option St} (h:o.isSome=true:=by kernel_rfl):o=some (gt0 o):=by
 cases o with
 | none=>cases h
 | some S=>rfl
def Q15 (b:Bool):List Nat → List (Nat × AV)→List (Nat × AV)
 | [],s=>s
 | t::ts,s=>Q15 b ts (setS s t (.bool b))
def pB (ts:List Nat) (b:Bool) (st:St):St:=⟨Q15 b ts st.slots,st.objs,st.nt⟩
def setLen (n:Nat):AV→AV
 | .ref o i _=>.ref o i n
 | .lin o i _=>.lin o i n
 | x=>x
def Q19 (n:Nat):List Nat → List (Nat × AV)→List (Nat × AV)
 | [],s=>s
 | t::ts,s=>Q19 n ts (match lk s t with | some x=>setS s t (setLen n x) | none=>s)
def pL (ts:List Nat) (n:Nat) (st:St):St:=⟨Q19 n ts st.slots,st.objs,st.nt⟩
theorem rb (ts:List Nat) {R:Type} {b:Bool} {A B:Option R} {r:R} (h:(if b=true then A else B)=some r) (h1:b=true→A=some r→RW P rd base ops d i (pB ts true st) Φ) (h2:b=false→B=some r→RW P rd base ops d i (pB ts false st) Φ) (hS:st=pB ts b st:=by kernel_rfl):RW P rd base ops d i st Φ:=by
 rw [hS]; exact Q6k (S:=fun b=>pB ts b st) h h1 h2
end
abbrev z1:List Int→AV:=eL true eI
abbrev z2:List (List Int)→AV:=eL false z1
abbrev zw:Int→Int:=IntKind.i64.wrap
abbrev zv:Int→Int:=IntKind.u64.wrap
abbrev zb:Int → BitVec (IntKind.bits .u64):=BitVec.ofInt (IntKind.bits .u64)
abbrev zk:Nat:=IntKind.bits .u64
abbrev zp:Int×Int → AV:=fun x=>.agg [vI x.1,vI x.2]
abbrev zq:Int×Int → Int×Int → Bool:=fun a b=>(a.1==b.1) && ((a.2==b.2) && true)
abbrev zt:Int→Nat := Int.toNat
abbrev zn {α:Type} (l:List α):Int:=(l.length:Int)
end Go.Ab
namespace Go.Ab
def Qj4 {σ ρ:Type} (F:(σ→Option ρ)→σ→Option ρ):Nat → σ→Option ρ
 | 0,_=>none
 | n+1,s=>F (Qj4 F n) s
def Qg3 (P:Program) (N:Nat) (c:Code) {σ ρ:Type} (I:σ→St) (E:ρ→St) (d:σ→Option ρ):Prop :=
 ∀s x,d s=some x→WP P none N c (I s) (fun o=>o=.go .ret (E x)∨o=.go .normal (E x))
theorem Qyh {P:Program} {N:Nat} {c:Code} {σ ρ:Type} {I:σ→St} {E:ρ→St} {F:(σ→Option ρ)→σ→Option ρ}
  (step:∀d,Qg3 P N c I E d→∀s x,F d s=some x→WP P none N c (I s) (fun o=>o=.go .ret (E x)∨o=.go .normal (E x))):∀n,Qg3 P N c I E (Qj4 F n)
 | 0=>fun s x h=>by cases h
 | n+1=>fun s x h=>step _ (Qyh step n) s x h
section
variable {P:Program} {rd:Option Nat} {base:Nat} {ops:Array Oper} {st:St} {Φ:AOut→Prop} {i:Nat}
theorem Q6v {σ ρ R:Type} {N:Nat} {c:Code} {I:σ→St} {E:ρ→St} {d:σ→Option ρ} {K:ρ→Option R} {r:R} {f:FuncId} {fn:Func} {as0:List AV} (s0:σ)
  (hi:Zu ops i st=some (f,as0)) (hf:P.funcs[f]?=some fn) (hb:fn.body=some c) (hn:(fn.name == "runtime.NumGoroutine")=false) (hle:Nat.ble as0.length fn.ntmps=true)
  (h0:(⟨Y1 0 as0,st.objs,fn.ntmps⟩:St)=I s0) (hN:st.objs.length=N) (IH:Qg3 P N c I E d) (h:(d s0).bind K=some r)
  (k:∀x,K x=some r→∃S,Qh5 P fn ops i st (.go .ret (E x))=some S∧RW P rd base ops none (i+1) S Φ):RW P rd base ops none i st Φ:=by
 cases hx:d s0 with
 | none=>rw [hx] at h; cases h
 | some x =>
  rw [hx] at h
  refine Q5h hi hf hb hn hle ?_
  rw [h0,hN]
  obtain ⟨out,h1,h2⟩:=IH s0 x hx
  refine ⟨out,h1,?_⟩
  rcases h2 with rfl | rfl
  ·exact k x h
  ·obtain ⟨S,k1,k2⟩:=k x h
   exact ⟨S,by rw [←k1]; rfl,k2⟩
end
section
variable {P:Program} {rd:Option Nat} {base:Nat} {ops:Array Oper} {st:St} {Φ:AOut→Prop} {i:Nat}
theorem Q6w {σ ρ R:Type} {N:Nat} {c:Code} {I:σ→St} {E:ρ→St} {F:(σ→Option ρ)→σ→Option ρ} {K:ρ→Option R} {r:R} {f:FuncId} {fn:Func} {as0:List AV} (s0:σ)
  (hi:Zu ops i st=some (f,as0)) (hf:P.funcs[f]?=some fn) (hb:fn.body=some c) (hn:(fn.name == "runtime.NumGoroutine")=false) (hle:Nat.ble as0.length fn.ntmps=true)
  (h0:(⟨Y1 0 as0,st.objs,fn.ntmps⟩:St)=I s0) (hN:st.objs.length=N) (h:(Qj4 F fuel s0).bind K=some r)
  (step:∀d,Qg3 P N c I E d→∀s x,F d s=some x→WP P none N c (I s) (fun o=>o=.go .ret (E x)∨o=.go .normal (E x)))
  (k:∀x,K x=some r→∃S,Qh5 P fn ops i st (.go .ret (E x))=some S∧RW P rd base ops none (i+1) S Φ):RW P rd base ops none i st Φ :=
 Q6v s0 hi hf hb hn hle h0 hN (Qyh step fuel) h k
end
theorem Qqv {σ ρ:Type} {F:(σ→Option ρ)→σ→Option ρ} (I:σ→Prop) (m:σ→Nat) (Q:σ→ρ→Prop)
  (step:∀d s,I s→(∀s',I s'→m s' < m s→∃x,d s'=some x∧Q s' x)→∃x,F d s=some x∧Q s x):∀(n:Nat) (s:σ),I s→m s < n→∃x,Qj4 F n s=some x∧Q s x
 | 0,s,_,h=>by omega
 | n+1,s,hI,h=>step (Qj4 F n) s hI (fun s' h1 h2=>Qqv I m Q step n s' h1 (by omega))
end Go.Ab
namespace Go.Ab
open Go.RowKit
def Qtm (P:Program) (f:FuncId) (az:List AV) (objs:List AObj) (r:AV) (objs':List AObj):Prop :=
 ∀(B:Nat) (W0 W:World) (D:List Nat) (M:CM) (ι:Inj) (vs:Array Value),Rel P B W0 D M ι (sto objs) W→D.Nodup→(∀k,¬ InB objs.length k→ι k=none)→objs.length≤BIG→vs.size=az.length →
  (∀(j:Nat) (v:Value) (a:AV),vs[j]?=some v→az[j]?=some a→Qa M ι v a) →
  Calls P f vs W fun e W'=>∃v M' ι',e=.returned v∧CM.Grow B M M'∧ι.le ι'∧Rel P B W0 D M' ι' (sto objs') W'∧(∀k,¬ InB objs'.length k→ι' k=none)∧objs'.length≤BIG∧Qa M' ι' v r
theorem Qw2 {P:Program} {rd:Option Nat} {base:Nat} {o:Oper} {st:St} {g:Operand} {args:Array Operand} {ts:Array TypeId} {f:FuncId} {fn:Func} {first caps az:List AV} {x:AV} {objs':List AObj} {slots:List (Nat × AV)}
  (ho:o.op=.call { callee:=.value g,args,argTypes:=ts }) (hg:evo (lk st.slots) g=some (.fn (.func f) first caps)) (has:Jv (lk st.slots) args.toList=some az)
  (hf:P.funcs[f]?=some fn) (hb:fn.body.isSome=true) (hn:(fn.name == "runtime.NumGoroutine")=false)
  (h:Qtm P f (first++az++caps) st.objs x objs') (hput:Jt st.slots st.nt o.dst (some x)=some slots) :
  OpX P rd base o st (.go .normal ⟨slots,objs',st.nt⟩):=by
 intro B W0 D0 dl M ι a W n Q r hs hr' hp
 have hgv:=Qf hs.slots hg
 generalize hgu:a.eval g=gu at hgv
 cases hgv with
 | fn _ first' caps' _ _ hy hm h1 h2 hr1 hr2 =>
 obtain ⟨l1,e1⟩:=Vl hs.slots has
 refine ⟨fun _ _=>trivial,?_⟩
 rw [Oper.semAt_eq _ _ _ (by rw [ho]; simp)]
 have hrun:(execOp a.eval o).run P W=.ok (.enter f (first'++args.map a.eval++caps')) W:=by
  simp only [execOp,ho,resolve,hgu,Deferred.ofValue,Sem.run_bind,Sem.run_pure,Result.andThen_ok,invoke]
  exact V9 hf hb hn _ W
 rw [hrun,Oper.uponIn_enter]
 have hrep:∀(j:Nat) (v:Value) (y:AV),(first'++args.map a.eval++caps')[j]?=some v→(first++az++caps)[j]?=some y→Qa M ι v y :=
  Qf9 h1 (by simpa using l1.symm) h2 hr1 (fun j v y hv hy=>by
   simp only [Array.getElem?_map,Option.map_eq_some_iff] at hv
   obtain ⟨w,hw,rfl⟩:=hv
   exact (e1 j w y (by simpa using hw) hy).2) hr2
 refine ⟨fun hd=>by simp [FW,Fence.wide] at hd,Qc4 ((h B W0 W (dl++D0) M ι _ hs.rel hs.df.nd hs.new hs.big (by simp [h1,h2,l1]) hrep).mono ?_)⟩
 rintro e W' ⟨v,M',ι',rfl,g1,g2,g3,g4,g4b,g5⟩
 obtain ⟨k1,k2,k3⟩:=Qby (u:=v) (hs.slots.mono g1.le g2) hs.nt hput (fun y hy=>by cases hy; exact g5)
 exact hp.go .normal _ rfl dl M' ι' _ W' g1 (g2.leB base) (List.suffix_refl _) ⟨g3,k1,k2,hs.df.put,g4,g4b⟩
def Qoz (ops:Array Oper) (i:Nat) (st:St) (x:AV) (objs':List AObj):Option St :=
 match ops[i]? with
 | some o=>match Jt st.slots st.nt o.dst (some x) with
  | some slots=>some ⟨slots,objs',st.nt⟩
  | none=>none
 | none=>none
section
variable {P:Program} {rd:Option Nat} {base:Nat} {ops:Array Oper} {st:St} {Φ:AOut→Prop} {i:Nat}
theorem Q28 {f:FuncId} {fn:Func} {as0:List AV} {x:AV} {objs':List AObj} {S:St} (hi:Zu ops i st=some (f,as0)) (hf:P.funcs[f]?=some fn) (hb:fn.body.isSome=true) (hn:(fn.name == "runtime.NumGoroutine")=false)
  (h:Qtm P f as0 st.objs x objs') (hS:Qoz ops i st x objs'=some S) (k:RW P rd base ops none (i+1) S Φ):RW P rd base ops none i st Φ:=by
 obtain ⟨o,g,args,ts,first,caps,as1,ho,hop,hg,has,rfl⟩:=Qac hi
 obtain ⟨h1,h2⟩:=Ku ho
 unfold Qoz at hS
 rw [h1] at hS
 simp only at hS
 split at hS
 ·rename_i slots hp
  cases hS
  obtain ⟨out2,k1,k2⟩:=k
  have hi':i < ops.size:=(Array.getElem?_eq_some_iff.1 h1).1
  refine ⟨out2,?_,k2⟩
  rw [Qfe hi']
  exact Qhc h1 h2 (Qw2 hop hg has hf hb hn h hp) k1
 ·cases hS
end
end Go.Ab
namespace Go.Ab
open Go.RowKit
section
variable {P:Program} {ops:Array Oper} {G:Array Bool→Nat → Foot} {Q:Slots→Sto→Prop} {s:Slots} {σ:Sto}
end
section
variable {P:Program} {ops:Array Oper} {G:Array Bool→Nat → Foot} {s s':Slots} {σ:Sto} {B:Nat} {W0 W:World} {D:List Nat} {M:CM} {ι:Inj} {a:Act} {Q:Exit→Act→World→Prop} {QA:Slots→Sto→Prop}
end
section
variable {P:Program} {rd:Option Nat} {base:Nat} {ops ops0:Array Oper} {st st1 st2 st3:St}
theorem Qa0.symm {F G:Foot} (h:Qa0 F G):Qa0 G F:=⟨h.b,h.a,fun e he e' he'=>Ne.symm (h.c e' he' e he)⟩
end
section
variable {P:Program} {rd:Option Nat} {base:Nat} {ops:Array Oper} {st st1 Sa Sb S3 S:St} {Φ:AOut→Prop} {i:Nat}
end
end Go.Ab
namespace Go.Ab
open Go.RowKit
section
variable {P:Program} {base:Nat} {st st':St}
end
theorem Qv7 {M:CM} {ι:Inj} {v:Value} {fl:Bool} {xs:List AV} (hs:List LK) (h:Qa M ι v (.lst fl xs)):Qa M ι v (.lst false (xs.map (Qz hs))):=by
 cases h with
 | lst0=>exact .lst0 _ _
 | lst b off cap w _ _ f hcap hfl hc hM hr =>
  have key:∀(i j:Nat) (x y:AV),(xs.map (Qz hs))[i]?=some x→x.flat[j]?=some y→∃x0 y0 h,xs[i]?=some x0∧x0.flat[j]?=some y0∧y=LK.ap h y0:=fun i j x y hi hj=>by
   rw [List.getElem?_map,Option.map_eq_some_iff] at hi
   obtain ⟨x0,e1,rfl⟩:=hi
   have hsh:=hc x0 (List.mem_of_getElem? e1)
   obtain ⟨hs',e2,_⟩:=Qdb hs (x:=x0) hsh.form
   rw [e2] at hj
   obtain ⟨h,y0,e3,e4⟩:=Qig hs' _ j y hj
   exact ⟨x0,y0,h,e1,e3,e4⟩
  have:=Qa.lst (M:=M) (ι:=ι) b off cap w false (xs.map (Qz hs)) f (by simpa using hcap) (fun h=>by cases h) (fun x hx=>by
   simp only [List.mem_map] at hx
   obtain ⟨z,hz,rfl⟩:=hx
   exact Qix hs (hc z hz)) (fun i j x y hi hj=>by
   obtain ⟨x0,y0,h,e1,e2,_⟩:=key i j x y hi hj
   exact hM i j x0 y0 e1 e2) (fun i j x y hi hj=>by
   obtain ⟨x0,y0,h,e1,e2,rfl⟩:=key i j x y hi hj
   exact LK.ap_rep h (hr i j x0 y0 e1 e2))
  simpa using this
def Qlj (x y:AV):Prop:=∀(M:CM) (v:Value),Qa M noInj v x→Qa M noInj v y
theorem Qlj.refl {x:AV}:Qlj x x:=fun _ _ h=>h
theorem Qlj.lst {fl:Bool} {xs ys:List AV} (hs:List LK) (h:xs.map (Qz hs)=ys):Qlj (.lst fl xs) (.lst false ys):=fun M v hr=>by subst h; exact Qv7 hs hr
inductive Qmk:List AV→List AV→Prop
 | nil:Qmk [] []
 | cons {x y:AV} {xs ys:List AV} (h:Qlj x y) (hc:y.cell=x.cell) (k:Qmk xs ys):Qmk (x::xs) (y::ys)
theorem Qmk.at {xs ys:List AV} (h:Qmk xs ys):xs.length=ys.length∧∀(j:Nat) (y:AV),ys[j]?=some y→∃x,xs[j]?=some x∧Qlj x y∧y.cell=x.cell:=by
 induction h with
 | nil=>exact ⟨rfl,fun j y h=>by simp at h⟩
 | cons h hc k ih =>
  refine ⟨by simp [ih.1],fun j y hj=>?_⟩
  cases j with
  | zero=>simp at hj; subst hj; exact ⟨_,rfl,h,hc⟩
  | succ j=>exact ih.2 j y (by simpa using hj)
theorem Qlj.agg {xs ys:List AV} (h:Qmk xs ys):Qlj (.agg xs) (.agg ys):=fun M v hr=>by
 cases hr with
 | agg cs' _ hsz hc hrr =>
  obtain ⟨hl,hat⟩:=h.at
  refine .agg cs' _ (by rw [←hl]; exact hsz) (fun y hy=>?_) (fun j v y hv hy=>?_)
  ·obtain ⟨j,hj,rfl⟩:=List.mem_iff_getElem.1 hy
   obtain ⟨x,e1,_,e3⟩:=hat j _ (List.getElem?_eq_getElem hj)
   rw [e3]; exact hc x (List.mem_of_getElem? e1)
  ·obtain ⟨x,e1,e2,_⟩:=hat j y hy
   exact e2 M v (hrr j v x hv e1)
section
variable {P:Program} {rd:Option Nat} {base:Nat} {ops:Array Oper} {st S:St} {Φ:AOut→Prop} {d:Option (List Sk)} {i:Nat}
end
end Go.Ab
namespace Go.Ab
open Go.RowKit
section
variable {P:Program} {rd:Option Nat} {base:Nat} {ops:Array Oper} {st S:St} {Φ:AOut→Prop} {d:Option (List Sk)} {i:Nat} {c:Code}
theorem Qt1 {σ ρ1 ρ2:Type} {body:σ→Option (Qg σ (ρ1 ⊕ ρ2))} {I:σ→St} {H:ρ1→St} {Ex:ρ2→AOut→Prop}
  (stop:∀s y,body s=some (.done (.inl y))→H y=I s)
  (round:∀s o,body s=some o→(∃y,o=.done (.inl y))∨WP P rd base c (I s) (fun out=>match o with
   | .next s'=>∃st1,out=.go .normal st1∧Wk P base st1 (I s')
   | .done (.inl _)=>False
   | .done (.inr x)=>Ex x out∧out.normal=false)) :
  ∀(n:Nat) (s:σ) (x:ρ1 ⊕ ρ2),Qb n body s=some x→(∀y,x=.inl y→LWP P rd base c (H y) Φ)→(∀z,x=.inr z→∀out,Ex z out→Φ out)→LWP P rd base c (I s) Φ
 | 0,s,x,h,_,_=>by cases h
 | n+1,s,x,h,h1,h2=>by
  simp only [Qb] at h
  split at h
  ·rename_i s' hb
   rcases round s _ hb with ⟨y,e⟩ | hr
   ·cases e
   ·refine Qge (hr.mono fun out ho=>?_)
    obtain ⟨st1,rfl,hw⟩:=ho
    exact Qlr hw (Qt1 stop round n s' x h h1 h2)
  ·rename_i x' hb
   cases h
   cases x with
   | inl y =>
    have:=h1 y rfl
    rw [stop s y hb] at this
    exact this
   | inr z =>
    rcases round s _ hb with ⟨y,e⟩ | hr
    ·cases e
    ·refine Qge (hr.mono fun out ho=>?_)
     obtain ⟨g1,g2⟩:=ho
     have g3:=h2 z rfl out g1
     cases out with
     | pan v=>exact g3
     | go e st1=>cases e <;> first | exact g3 | simp [AOut.normal] at g2
  ·cases h
def Q1t {σ ρ:Type}:Qg σ ρ→Qg σ (σ ⊕ ρ)
 | .next s=>.next s
 | .done x=>.done (.inr x)
def Qk7 {σ ρ:Type} (cnd:σ→Bool) (body:σ→Option (Qg σ ρ)) (s:σ):Option (Qg σ (σ ⊕ ρ)):=if cnd s=true then some (.done (.inl s)) else (body s).map Q1t
theorem Qx0 {σ ρ R:Type} {n:Nat} {cnd:σ→Bool} {body:σ→Option (Qg σ ρ)} {I:σ→St} {Ex:ρ→AOut→Prop} {K:σ ⊕ ρ→Option R} {r:R} (s0:σ) (hw:Wk P base st (I s0)) (h:(Qb n (Qk7 cnd body) s0).bind K=some r)
  (round:∀s o,body s=some o→WP P rd base c (I s) (Qju P base I Ex o))
  (k1:∀y,K (.inl y)=some r→LWP P rd base c (I y) Φ) (k2:∀z,K (.inr z)=some r→∀out,Ex z out→Φ out):WP P rd base (.loop c) st Φ:=by
 cases hx:Qb n (Qk7 cnd body) s0 with
 | none=>rw [hx] at h; cases h
 | some x =>
  rw [hx] at h
  have hb:∀s o,Qk7 cnd body s=some o→(o=.done (.inl s))∨∃o',body s=some o'∧o=Q1t o':=fun s o ho=>by
   unfold Qk7 at ho
   split at ho
   ·cases ho; exact .inl rfl
   ·simp only [Option.map_eq_some_iff] at ho
    obtain ⟨o',e1,e2⟩:=ho
    exact .inr ⟨o',e1,e2.symm⟩
  refine Qvx (Qlr hw (Qt1 (H:=I) (Ex:=Ex) (fun s y e=>?_) (fun s o e=>?_) n s0 x hx (fun y e=>?_) (fun z e=>?_)))
  ·rcases hb s _ e with e1 | ⟨o',_,e1⟩
   ·cases e1; rfl
   ·cases o' <;> cases e1
  ·rcases hb s _ e with e1 | ⟨o',e1,e2⟩
   ·exact .inl ⟨s,e1⟩
   ·subst e2
    refine .inr ((round s o' e1).mono fun out ho=>?_)
    cases o' with
    | next s'=>exact ho
    | done x=>exact ho
  ·subst e; exact k1 y h
  ·subst e; exact k2 z h
end
end Go.Ab
namespace Go.Ab
open Go.RowKit
def Qos:AObj→Bool
 | .row _ _ _ _ _ _=>true
 | .loop _ _ _ _ _ _ _=>true
 | .dead=>true
 | _=>false
def Qrm:AObj→Bool
 | .row _ _ _ _ _ _=>true
 | .loop _ _ _ _ _ _ _=>true
 | _=>false
def Qb7 (N:Nat):AObj→Prop
 | .row _ _ nr _ _ xs=>nr=true∨∀x∈xs,∀y∈x.flat,∀o∈y.ids,o < N
 | .loop _ sl _ _ _ _ _=>∀p∈sl,∀o∈p.2.ids,o < N
 | .dead=>True
 | _=>False
def Qru (N:Nat):AObj→Bool
 | .row _ _ nr _ _ xs=>nr || xs.all fun x=>x.flat.all fun y=>y.ids.all fun o=>Nat.blt o N
 | .loop _ sl _ _ _ _ _=>sl.all fun p=>p.2.ids.all fun o=>Nat.blt o N
 | .dead=>true
 | _=>false
theorem Q2c {N:Nat} {x:AObj} (h:Qru N x=true):Qb7 N x:=by
 cases x with
 | row bx ro nr fl w xs =>
  simp only [Qru,Bool.or_eq_true,List.all_eq_true] at h
  exact h.imp id fun h x hx y hy o ho=>Jm (h x hx y hy o ho)
 | loop nt sl ps as bd st pe =>
  simp only [Qru,List.all_eq_true] at h
  exact fun p hp o ho=>Jm (h p hp o ho)
 | dead=>trivial
 | fam=>cases h
 | refs=>cases h
theorem Qkm {N:Nat} {x:AObj} (h:Qb7 N x):Qos x=true:=by cases x <;> first | rfl | exact h.elim
theorem Qw4 {objs:List AObj} (h:∀x∈objs,Qos x=true) (id:Nat):Qad objs id=none:=by
 unfold Qad
 rw [dif_neg]
 rintro ⟨y,k,i,w,fl,xs,l,_,hk,_⟩
 have:=h _ (List.mem_of_getElem? hk)
 cases this
theorem Qnx {x:AObj} (h:Qos x=true):x.plain=x:=by cases x <;> first | rfl | cases h
theorem Qsh {objs:List AObj} (h:∀x∈objs,Qos x=true) (hb:objs.length≤BIG) (id:Nat):sto objs id=objs[id]?:=by
 by_cases hi:id < BIG
 ·rw [Xp hi]
  cases e:objs[id]? with
  | none=>rfl
  | some x=>simp [Qnx (h x (List.mem_of_getElem? e))]
 ·rw [Qjl (by omega),Qw4 h,List.getElem?_eq_none (by omega)]
theorem Qti:∀{l:List (Nat × AV)} {t:Nat} {x:AV},lk l t=some x→∃p∈l,p.2=x
 | [],t,x,h=>by cases h
 | (k,y)::r,t,x,h=>by
  unfold lk at h
  split at h
  ·cases h; exact ⟨(k,y),by simp,rfl⟩
  ·obtain ⟨p,hp,e⟩:=Qti h
   exact ⟨p,List.mem_cons_of_mem _ hp,e⟩
section
variable {P:Program} {B N:Nat} {W0 W:World} {D:List Nat} {M:CM} {ι:Inj} {σ:Sto}
def Qhh (N:Nat) (ι:Inj) (σ:Sto) (b:Nat):Prop:=∃k p fn sl ps as bd st pe,¬ k < N∧σ k=some (.loop fn sl ps as bd st pe)∧ι k=some p∧p.blk=b
def Qb8 (N:Nat) (ι:Inj) (σ:Sto) (b o:Nat):Prop:=∃k p bx nr fl w xs j,¬ k < N∧σ k=some (.row bx false nr fl w xs)∧ι k=some p∧p.blk=b∧o=p.base+j∧j < p.cap*w
open Classical in
noncomputable def Qln (N:Nat) (ι:Inj) (σ:Sto) (W:World) (M:CM):CM :=
 ⟨M.f,M.ok,fun b=>if Qhh N ι σ b then W.heap[b]? else M.blk b,fun b o=>if Qb8 N ι σ b o then W.cell? ⟨b,o,none⟩ else M.kc b o⟩
theorem Ql1 (h:Rel P B W0 D M ι σ W) {b:Nat} (hb:Qhh N ι σ b):M.blk b=none∧∃l,W.heap[b]?=some (Qbk l):=by
 obtain ⟨k,p,fn,sl,ps,as,bd,st,pe,_,hk,hp',rfl⟩:=hb
 obtain ⟨q,nt1,hq,hb1,_,tmps,_,hrec,_⟩:=h.loop k _ _ _ _ _ _ _ hk
 rw [hp'] at hq; cases hq
 exact ⟨hb1,_,hrec⟩
theorem Qe1 (h:Rel P B W0 D M ι σ W) {b o:Nat} (hb:Qb8 N ι σ b o):M.kc b o=none∧M b o=none∧(∃v,W.cell? ⟨b,o,none⟩=some v)∧W.frozen? ⟨b,o,none⟩=false:=by
 obtain ⟨k,p,bx,nr,fl,w,xs,j,_,hk,hp',rfl,rfl,hj⟩:=hb
 obtain ⟨q,hq,hr⟩:=h.row k _ _ _ _ _ _ hk
 rw [hp'] at hq; cases hq
 have c:=h.cool k bx nr fl w xs p j hk hp' hj
 obtain ⟨o1,o2⟩:=(hr.own rfl).2 j hj
 exact ⟨c.2,o2,Option.isSome_iff_exists.1 o1,c.1⟩
open Classical in
theorem Rel.hide (h:Rel P B W0 D M ι σ W) (hA:∀k x,k < N→σ k=some x→Qb7 N x) :
  Rel P B W0 D (Qln N ι σ W M) (fun k=>if k < N then ι k else none) (fun k=>if k < N then σ k else none) W:=by
 have hM1:M.le (Qln N ι σ W M):=fun _ _ _ h=>h
 have blk1:∀b,(Qln N ι σ W M).blk b=if Qhh N ι σ b then W.heap[b]? else M.blk b:=fun b=>rfl
 have kc1:∀b o,(Qln N ι σ W M).kc b o=if Qb8 N ι σ b o then W.cell? ⟨b,o,none⟩ else M.kc b o:=fun b o=>rfl
 have low:∀{k:Nat} {x:AObj},(if k < N then σ k else none)=some x→k < N∧σ k=some x:=fun {k x} hk=>by
  by_cases e:k < N
  ·rw [if_pos e] at hk; exact ⟨e,hk⟩
  ·rw [if_neg e] at hk; cases hk
 have lowi:∀{k:Nat} {p:Place},k < N→(if k < N then ι k else none)=some p→ι k=some p:=fun e hk=>by rw [if_pos e] at hk; exact hk
 have rep1:∀{v:Value} {y:AV},(∀o∈y.ids,o < N)→Qa M ι v y→Qa (Qln N ι σ W M) (fun k=>if k < N then ι k else none) v y:=fun hi h=>(h.congr fun o ho=>if_pos (hi o ho)).mono hM1 (Inj.le_refl _)
 refine ⟨h.size,h.below,h.defs,⟨h.agree.cell,fun b x hb=>?_,fun b o v hb=>?_⟩,fun o bx nr fl w xs p k ho hp' hk=>?_,fun o bx ro nr fl w xs ho=>?_,fun o fn sl ps as bd st pe ho=>?_,fun o o' bx nr fl w xs bx' nr' fl' w' xs' p p' hne h1 h2 h3 h4=>?_,fun o o' fn sl ps as bd st pe fn' sl' ps' as' bd' st' pe' p p' hne h1 h2 h3 h4=>?_,fun o ho=>?_⟩
 ·rw [blk1] at hb
  by_cases hd:Qhh N ι σ b
  ·rw [if_pos hd] at hb
   obtain ⟨_,l,hl⟩:=Ql1 h hd
   rw [hl] at hb; cases hb
   exact ⟨hl,fun c e f=>Qkf c e f,fun d he=>Qhq (x:=d) (by rw [he])⟩
  ·rw [if_neg hd] at hb; exact h.agree.keep b x hb
 ·rw [kc1] at hb
  by_cases hd:Qb8 N ι σ b o
  ·rw [if_pos hd] at hb
   exact ⟨hb,(Qe1 h hd).2.2.2⟩
  ·rw [if_neg hd] at hb; exact h.agree.keepC b o v hb
 ·obtain ⟨l1,ho⟩:=low ho
  have hp':=lowi l1 hp'
  have c:=h.cool o bx nr fl w xs p k ho hp' hk
  refine ⟨c.1,?_⟩
  rw [kc1,if_neg]
  ·exact c.2
  ·rintro ⟨k2,p2,bx2,nr2,fl2,w2,xs2,j2,n2,hk2,hp2,hb2,ho2,hj2⟩
   obtain ⟨q,hq,hr⟩:=h.row o _ _ _ _ _ _ ho
   rw [hp'] at hq; cases hq
   obtain ⟨q,hq,hr2⟩:=h.row k2 _ _ _ _ _ _ hk2
   rw [hp2] at hq; cases hq
   have hpw:=hr.pw
   have hpw2:=hr2.pw
   rcases h.apart o k2 _ _ _ _ _ _ _ _ _ _ _ _ (fun e=>n2 (e ▸ l1)) ho hk2 hp' hp2 with a | a | a
   ·exact a hb2.symm
   ·rw [hpw] at a; omega
   ·rw [hpw2] at a; omega
 ·obtain ⟨l1,ho⟩:=low ho
  obtain ⟨p,hp',hrow⟩:=h.row o bx ro nr fl w xs ho
  refine ⟨p,by rw [if_pos l1]; exact hp',hrow.pw,hrow.pos,hrow.cpos,hrow.len,hrow.shaped,hrow.nr,hrow.fl,fun i j x y hi hj=>?_,hrow.own,fun hro i j x y hi hj=>?_⟩
  ·obtain ⟨v,hv,hrep⟩:=hrow.cells i j x y hi hj
   refine ⟨v,hv,?_⟩
   rcases hA o _ l1 ho with hn | hn
   ·exact (hrep.of_nr (AV.nr_flat (Qq.1 (hrow.nr hn) x (List.mem_of_getElem? hi)) y (List.mem_of_getElem? hj))).mono hM1 (Inj.le_refl _)
   ·exact rep1 (hn x (List.mem_of_getElem? hi) y (List.mem_of_getElem? hj)) hrep
  ·obtain ⟨v,hv,hrep⟩:=hrow.imm hro i j x y hi hj
   exact ⟨v,hv,hrep.mono hM1 (Inj.le_refl _)⟩
 ·obtain ⟨l1,ho⟩:=low ho
  obtain ⟨p,nt1,hp',hb1,hB1,tmps,hsz,hrec,hsl1⟩:=h.loop o fn sl ps as bd st pe ho
  refine ⟨p,nt1,by rw [if_pos l1]; exact hp',?_,hB1,tmps,hsz,hrec,fun t x hx=>?_⟩
  ·rw [blk1,if_neg]
   ·exact hb1
   ·rintro ⟨k,q,fn',sl',ps',as',bd',st',pe',hk,hk',hq,hqb⟩
    exact h.loops o k _ _ _ _ _ _ _ _ _ _ _ _ _ _ _ _ (fun e=>hk (e ▸ l1)) ho hk' hp' hq hqb.symm
  ·obtain ⟨q,hq,rfl⟩:=Qti hx
   exact rep1 (hA o _ l1 ho q hq) (hsl1 t _ hx)
 ·obtain ⟨l1,h1⟩:=low h1
  obtain ⟨l2,h2⟩:=low h2
  exact h.apart o o' bx nr fl w xs bx' nr' fl' w' xs' p p' hne h1 h2 (lowi l1 h3) (lowi l2 h4)
 ·obtain ⟨l1,h1⟩:=low h1
  obtain ⟨l2,h2⟩:=low h2
  exact h.loops o o' fn sl ps as bd st pe fn' sl' ps' as' bd' st' pe' p p' hne h1 h2 (lowi l1 h3) (lowi l2 h4)
 ·by_cases l1:o < N
  ·rw [if_pos l1] at ho ⊢; exact h.used o ho
  ·exact .inl (if_neg l1)
open Classical in
theorem Rel.unhide {W':World} {M':CM} {ι':Inj} {σ':Sto} (h:Rel P B W0 D M ι σ W) (h':Rel P B W0 D M' ι' (fun k=>if k < N then σ' k else none) W') (hG:CM.Grow B (Qln N ι σ W M) M') (hι:∀k,k < N→ι' k=ι k)
  (hA:∀k x,k < N→σ' k=some x→Qb7 N x) :
  ∃M2:CM,CM.Grow B M M2∧M'.le M2∧Rel P B W0 D M2 ι (fun k=>if k < N then σ' k else σ k) W':=by
 let M2:CM:=⟨M'.f,M'.ok,M.blk,M.kc⟩
 have hM2:M'.le M2:=fun _ _ _ h=>h
 have hMM2:M.le M2:=fun b o v h=>hG.le b o v h
 have blk':∀b,M'.blk b=if Qhh N ι σ b then W.heap[b]? else M.blk b:=fun b=>by rw [hG.keep]; rfl
 have kc':∀b o,M'.kc b o=if Qb8 N ι σ b o then W.cell? ⟨b,o,none⟩ else M.kc b o:=fun b o=>by rw [hG.keepC]; rfl
 have notB:∀b,M'.blk b=none→¬ Qhh N ι σ b∧M.blk b=none:=fun b hb=>by
  rw [blk'] at hb
  by_cases hd:Qhh N ι σ b
  ·rw [if_pos hd] at hb
   obtain ⟨_,l,hl⟩:=Ql1 h hd
   rw [hl] at hb; cases hb
  ·rw [if_neg hd] at hb; exact ⟨hd,hb⟩
 have notC:∀b o,M'.kc b o=none→¬ Qb8 N ι σ b o∧M.kc b o=none:=fun b o hb=>by
  rw [kc'] at hb
  by_cases hd:Qb8 N ι σ b o
  ·rw [if_pos hd] at hb
   obtain ⟨_,_,⟨v,hv⟩,_⟩:=Qe1 h hd
   rw [hv] at hb; cases hb
  ·rw [if_neg hd] at hb; exact ⟨hd,hb⟩
 have low:∀{k:Nat} {x:AObj},k < N→(if k < N then σ' k else σ k)=some x→(if k < N then σ' k else none)=some x∧σ' k=some x:=fun e hk=>by
  rw [if_pos e] at hk ⊢; exact ⟨hk,hk⟩
 have high:∀{k:Nat} {x:AObj},¬ k < N→(if k < N then σ' k else σ k)=some x→σ k=some x:=fun e hk=>by rw [if_neg e] at hk; exact hk
 have repl:∀{v:Value} {y:AV},(∀o∈y.ids,o < N)→Qa M' ι' v y→Qa M2 ι v y:=fun hi h=>(h.congr fun o ho=>(hι o (hi o ho)).symm).mono hM2 (Inj.le_refl _)
 refine ⟨M2,⟨hMM2,hG.old,rfl,rfl,fun b o v hv=>?_⟩,hM2,h'.size,h'.below,h'.defs,⟨h'.agree.cell,fun b x hb=>?_,fun b o v hb=>?_⟩,fun o bx nr fl w xs p k ho hp' hk=>?_,fun o bx ro nr fl w xs ho=>?_,fun o fn sl ps as bd st pe ho=>?_,fun o o' bx nr fl w xs bx' nr' fl' w' xs' p p' hne h1 h2 h3 h4=>?_,fun o o' fn sl ps as bd st pe fn' sl' ps' as' bd' st' pe' p p' hne h1 h2 h3 h4=>?_,fun o ho=>?_⟩
 ·by_cases hd:Qb8 N ι σ b o
  ·rw [(Qe1 h hd).1] at hv; cases hv
  ·exact hG.keepF b o v (by show (if Qb8 N ι σ b o then _ else _)=_; rw [if_neg hd]; exact hv)
 ·have hb':M.blk b=some x:=hb
  refine h'.agree.keep b x ?_
  rw [blk']
  by_cases hd:Qhh N ι σ b
  ·rw [(Ql1 h hd).1] at hb'; cases hb'
  ·rw [if_neg hd]; exact hb'
 ·have hb':M.kc b o=some v:=hb
  refine h'.agree.keepC b o v ?_
  rw [kc']
  by_cases hd:Qb8 N ι σ b o
  ·rw [(Qe1 h hd).1] at hb'; cases hb'
  ·rw [if_neg hd]; exact hb'
 ·by_cases hl:o < N
  ·obtain ⟨ho1,ho2⟩:=low hl ho
   have c:=h'.cool o bx nr fl w xs p k ho1 (by rw [hι o hl]; exact hp') hk
   exact ⟨c.1,(notC _ _ c.2).2⟩
  ·have ho:=high hl ho
   have hd:Qb8 N ι σ p.blk (p.base+k):=⟨o,p,bx,nr,fl,w,xs,k,hl,ho,hp',rfl,rfl,hk⟩
   obtain ⟨s1,s2,⟨v,hv⟩,s4⟩:=Qe1 h hd
   exact ⟨(h'.agree.keepC _ _ v (by rw [kc',if_pos hd]; exact hv)).2,s1⟩
 ·by_cases hl:o < N
  ·obtain ⟨ho1,ho2⟩:=low hl ho
   obtain ⟨p,hp',hrow⟩:=h'.row o bx ro nr fl w xs ho1
   refine ⟨p,by rw [←hι o hl]; exact hp',hrow.pw,hrow.pos,hrow.cpos,hrow.len,hrow.shaped,hrow.nr,hrow.fl,fun i j x y hi hj=>?_,hrow.own,fun hro i j x y hi hj=>?_⟩
   ·obtain ⟨v,hv,hrep⟩:=hrow.cells i j x y hi hj
    refine ⟨v,hv,?_⟩
    rcases hA o _ hl ho2 with hn | hn
    ·exact (hrep.of_nr (AV.nr_flat (Qq.1 (hrow.nr hn) x (List.mem_of_getElem? hi)) y (List.mem_of_getElem? hj))).mono hM2 (Inj.le_refl _)
    ·exact repl (hn x (List.mem_of_getElem? hi) y (List.mem_of_getElem? hj)) hrep
   ·obtain ⟨v,hv,hrep⟩:=hrow.imm hro i j x y hi hj
    exact ⟨v,hv,hrep.mono hM2 (Inj.le_refl _)⟩
  ·have ho:=high hl ho
   obtain ⟨p,hp',hrow⟩:=h.row o bx ro nr fl w xs ho
   cases ro with
   | true =>
    have himm:∀(i j:Nat) (x y:AV),xs[i]?=some x→x.flat[j]?=some y→∃v,M2 p.blk (p.base+i*w+j)=some v∧Qa M2 noInj v y:=fun i j x y hi hj=>by
     obtain ⟨v,hv,hrep⟩:=hrow.imm rfl i j x y hi hj
     exact ⟨v,hMM2 _ _ _ hv,hrep.mono hMM2 (Inj.le_refl _)⟩
    refine ⟨p,hp',hrow.pw,hrow.pos,hrow.cpos,hrow.len,hrow.shaped,hrow.nr,hrow.fl,fun i j x y hi hj=>?_,fun h=>(by cases h),fun _=>himm⟩
    obtain ⟨v,hv,hrep⟩:=himm i j x y hi hj
    exact ⟨v,h'.agree.cell _ _ _ hv,hrep.mono (CM.le_refl _) (Inj.noInj_le _)⟩
   | false =>
    have kept:∀k,k < p.cap*w→∀v,W.cell? ⟨p.blk,p.base+k,none⟩=some v→W'.cell? ⟨p.blk,p.base+k,none⟩=some v:=fun k hk v hv =>
     (h'.agree.keepC _ _ v (by rw [kc',if_pos ⟨o,p,bx,nr,fl,w,xs,k,hl,ho,hp',rfl,rfl,hk⟩]; exact hv)).1
    refine ⟨p,hp',hrow.pw,hrow.pos,hrow.cpos,hrow.len,hrow.shaped,hrow.nr,hrow.fl,fun i j x y hi hj=>?_,fun _=>⟨(hrow.own rfl).1,fun k hk=>?_⟩,fun h=>(by cases h)⟩
    ·obtain ⟨v,hv,hrep⟩:=hrow.cells i j x y hi hj
     have hi':=(List.getElem?_eq_some_iff.1 hi).1
     have hj':=(List.getElem?_eq_some_iff.1 hj).1
     rw [(hrow.shaped x (List.mem_of_getElem? hi)).len] at hj'
     have hlt:i*w+j < p.cap*w:=by
      have h1:(i+1)*w≤p.cap*w:=Nat.mul_le_mul_right _ (by have:=hrow.len; omega)
      rw [Nat.succ_mul] at h1; omega
     have:=kept (i*w+j) hlt v (by rw [←Nat.add_assoc]; exact hv)
     exact ⟨v,by rw [Nat.add_assoc]; exact this,hrep.mono hMM2 (Inj.le_refl _)⟩
    ·obtain ⟨o1,o2⟩:=(hrow.own rfl).2 k hk
     obtain ⟨v,hv⟩:=Option.isSome_iff_exists.1 o1
     refine ⟨by rw [kept k hk v hv]; rfl,?_⟩
     have hd:Qb8 N ι σ p.blk (p.base+k):=⟨o,p,bx,nr,fl,w,xs,k,hl,ho,hp',rfl,rfl,hk⟩
     have:=hG.keepF p.blk (p.base+k) v (by show (if Qb8 N ι σ p.blk (p.base+k) then _ else _)=_; rw [if_pos hd]; exact hv)
     exact this.trans o2
 ·by_cases hl:o < N
  ·obtain ⟨ho1,ho2⟩:=low hl ho
   obtain ⟨p,nt1,hp',hb1,hB1,tmps,hsz,hrec,hsl1⟩:=h'.loop o fn sl ps as bd st pe ho1
   refine ⟨p,nt1,by rw [←hι o hl]; exact hp',(notB _ hb1).2,hB1,tmps,hsz,hrec,fun t x hx=>?_⟩
   obtain ⟨q,hq,rfl⟩:=Qti hx
   exact repl (hA o _ hl ho2 q hq) (hsl1 t _ hx)
  ·have ho:=high hl ho
   obtain ⟨p,nt1,hp',hb1,hB1,tmps,hsz,hrec,hsl1⟩:=h.loop o fn sl ps as bd st pe ho
   refine ⟨p,nt1,hp',hb1,hB1,tmps,hsz,?_,fun t x hx=>(hsl1 t x hx).mono hMM2 (Inj.le_refl _)⟩
   exact (h'.agree.keep p.blk _ (by rw [blk',if_pos ⟨o,p,fn,sl,ps,as,bd,st,pe,hl,ho,hp',rfl⟩]; exact hrec)).1
 ·have cellOf:∀{k bx nr fl w xs q},¬ k < N→σ k=some (.row bx false nr fl w xs)→ι k=some q→∀j,j < q.cap*q.w→Qb8 N ι σ q.blk (q.base+j):=fun {k bx nr fl w xs q} hk h1 hq j hj=>by
   obtain ⟨q',hq',hr⟩:=h.row k _ _ _ _ _ _ h1
   rw [hq] at hq'; cases hq'
   exact ⟨k,q,bx,nr,fl,w,xs,j,hk,h1,hq,rfl,rfl,by rw [←hr.pw]; exact hj⟩
  have free:∀{k bx nr fl w xs q},k < N→(if k < N then σ' k else σ k)=some (.row bx false nr fl w xs)→ι k=some q→∀j,j < q.cap*q.w→¬ Qb8 N ι σ q.blk (q.base+j):=fun {k bx nr fl w xs q} hk h1 hq j hj=>by
   obtain ⟨h1,_⟩:=low hk h1
   obtain ⟨q',hq',hr⟩:=h'.row k _ _ _ _ _ _ h1
   rw [hι k hk,hq] at hq'; cases hq'
   exact (notC _ _ (h'.cool k bx nr fl w xs q j h1 (by rw [hι k hk]; exact hq) (by rw [←hr.pw]; exact hj)).2).1
  have mixed:∀{k bx nr fl w xs q k2 bx2 nr2 fl2 w2 xs2 q2},k < N→¬ k2 < N→(if k < N then σ' k else σ k)=some (.row bx false nr fl w xs)→(if k2 < N then σ' k2 else σ k2)=some (.row bx2 false nr2 fl2 w2 xs2)→ι k=some q→ι k2=some q2 →
    q.blk≠q2.blk∨q.base+q.cap*q.w≤q2.base∨q2.base+q2.cap*q2.w≤q.base:=fun {k bx nr fl w xs q k2 bx2 nr2 fl2 w2 xs2 q2} l1 l2 h1 h2 h3 h4=>by
   apply Classical.byContradiction
   intro hno
   have hblk:q.blk=q2.blk:=Classical.byContradiction fun e=>hno (.inl e)
   have a1:¬ q.base+q.cap*q.w≤q2.base:=fun e=>hno (.inr (.inl e))
   have a2:¬ q2.base+q2.cap*q2.w≤q.base:=fun e=>hno (.inr (.inr e))
   have n1:0 < q.cap*q.w:=by
    obtain ⟨q',hq',hr⟩:=h'.row k _ _ _ _ _ _ (low l1 h1).1
    rw [hι k l1,h3] at hq'; cases hq'
    rcases hr.cpos with e | e
    ·exact Nat.mul_pos e (by rw [hr.pw]; exact hr.pos)
    ·rcases Nat.eq_zero_or_pos (q.cap*q.w) with z | z
     ·omega
     ·exact z
   have n2:0 < q2.cap*q2.w:=by
    obtain ⟨q',hq',hr⟩:=h.row k2 _ _ _ _ _ _ (high l2 h2)
    rw [h4] at hq'; cases hq'
    rcases hr.cpos with e | e
    ·exact Nat.mul_pos e (by rw [hr.pw]; exact hr.pos)
    ·rcases Nat.eq_zero_or_pos (q2.cap*q2.w) with z | z
     ·omega
     ·exact z
   have c1:=cellOf l2 (high l2 h2) h4
   have c2:=free l1 h1 h3
   rcases Nat.le_total q.base q2.base with e | e
   ·have:=c2 (q2.base - q.base) (by omega)
    rw [show q.base+(q2.base - q.base)=q2.base+0 by omega,hblk] at this
    exact this (c1 0 (by omega))
   ·have:=c2 0 (by omega)
    rw [hblk,show q.base+0=q2.base+(q.base - q2.base) by omega] at this
    exact this (c1 (q.base - q2.base) (by omega))
  by_cases l1:o < N
  ·by_cases l2:o' < N
   ·exact h'.apart o o' bx nr fl w xs bx' nr' fl' w' xs' p p' hne (low l1 h1).1 (low l2 h2).1 (by rw [hι o l1]; exact h3) (by rw [hι o' l2]; exact h4)
   ·exact mixed l1 l2 h1 h2 h3 h4
  ·by_cases l2:o' < N
   ·rcases mixed l2 l1 h2 h1 h4 h3 with a | a | a
    ·exact .inl (Ne.symm a)
    ·exact .inr (.inr a)
    ·exact .inr (.inl a)
   ·exact h.apart o o' bx nr fl w xs bx' nr' fl' w' xs' p p' hne (high l1 h1) (high l2 h2) h3 h4
 ·have free:∀{k fn sl ps as bd st pe q},k < N→(if k < N then σ' k else σ k)=some (.loop fn sl ps as bd st pe)→ι k=some q→¬ Qhh N ι σ q.blk:=fun {k fn sl ps as bd st pe q} hk h1 hq=>by
   obtain ⟨h1,_⟩:=low hk h1
   obtain ⟨p,nt1,hp',hb1,_⟩:=h'.loop _ _ _ _ _ _ _ _ h1
   rw [hι k hk,hq] at hp'; cases hp'
   exact (notB _ hb1).1
  have one:∀{k fn sl ps as bd st pe q},¬ k < N→(if k < N then σ' k else σ k)=some (.loop fn sl ps as bd st pe)→ι k=some q→Qhh N ι σ q.blk:=fun hk h1 hq=>⟨_,_,_,_,_,_,_,_,_,hk,high hk h1,hq,rfl⟩
  by_cases l1:o < N
  ·by_cases l2:o' < N
   ·exact h'.loops o o' fn sl ps as bd st pe fn' sl' ps' as' bd' st' pe' p p' hne (low l1 h1).1 (low l2 h2).1 (by rw [hι o l1]; exact h3) (by rw [hι o' l2]; exact h4)
   ·exact fun e=>free l1 h1 h3 (e ▸ one l2 h2 h4)
  ·by_cases l2:o' < N
   ·exact fun e=>free l2 h2 h4 (e ▸ one l1 h1 h3)
   ·exact h.loops o o' fn sl ps as bd st pe fn' sl' ps' as' bd' st' pe' p p' hne (high l1 h1) (high l2 h2) h3 h4
 ·by_cases hl:o < N
  ·rw [if_pos hl]
   have:=h'.used o (by rw [hι o hl]; exact ho)
   rw [if_pos hl] at this
   exact this
  ·rw [if_neg hl]; exact h.used o ho
end
end Go.Ab
