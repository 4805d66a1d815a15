/- Rules. No conditions. -/
import Derived.Test.YtiadakgfblkelaaEng3
import Derived.Test.YtiadakgfblkelaaEng1
import Derived.LoopNIn
import Derived.Scope
import Derived.RangeFuncNested
set_option linter.all false
namespace Go.Ab
open Go.RowKit
def FW (r:Option Nat):Fence:={ Fence.wide with round:=r }
section
variable {P:Program} {nf:Bool} {C:FuncId→List AV→Option Xp} {B:Nat} {W0 W W':World} {D:List Nat} {M:CM} {ι:Inj} {σ:Sto} {s:Slots} {a:Act} {fr:Nat} {o:Oper} {res:Res}
theorem Qfg {r:Option Nat} {n:Nat} {f:FuncId} {args:Array Value} {R:Ending→World→Prop} (h:Calls P f args W R):CallsIn (FW r) n P f args W R:=by
 have h1:CallsIn Fence.wide n P f args W R:=callsIn_wide.2 h
 cases r with
 | none=>exact h1
 | some l=>exact h1
theorem Qfa (k:Nat):∀(xs:List AV),AV.shiftL k xs=xs.map (AV.shift k)
 | []=>rfl
 | x::xs=>by simp [AV.shiftL,Qfa k xs]
theorem AV.cell_shift (k:Nat) (x:AV):(x.shift k).cell=x.cell:=by cases x <;> simp [AV.shift,AV.cell]
theorem Qa.shift {M:CM} {ι ι':Inj} {k0:Nat} (hι:∀o p,ι o=some p→ι' (k0+o)=some p) {v:Value} {x:AV} (h:Qa M ι v x):Qa M ι' v (x.shift k0):=by
 induction h generalizing ι' k0 with
 | undef h=>exact .undef h
 | bool b=>exact .bool b
 | int k n=>exact .int k n
 | str s=>exact .str s
 | nilp=>exact .nilp
 | nils=>exact .nils
 | nilf=>exact .nilf
 | nilm=>exact .nilm
 | nili=>exact .nili
 | emp a=>exact .emp a
 | emn a c=>exact .emn a c
 | lin o i n h ih=>exact ih hι
 | lst0 a fl=>exact .lst0 a fl
 | ref0 a o p hp hz=>exact .ref0 a _ p (hι _ _ hp) hz
 | fz b off cs f hcs hm hr ih=>exact .fz b off cs f hcs hm hr
 | lst b off cap w fl xs f hcap hfl hc hm hr ih=>exact .lst b off cap w fl xs f hcap hfl hc hm hr
 | ref o i n p off cap hp hi hcap hoff=>exact .ref _ i n p off cap (hι _ _ hp) hi hcap hoff
 | ptr o i c p hp=>exact .ptr _ i c p (hι _ _ hp)
 | mp o p hp=>exact .mp _ p (hι _ _ hp)
 | yld o p hp=>exact .yld _ p (hι _ _ hp)
 | ifc t v' v hr ih=>exact .ifc t v' _ (ih hι)
 | fn f first' caps' first caps hy hm h1 h2 hr1 hr2 ih1 ih2 =>
  simp only [AV.shift,Qfa]
  refine .fn f first' caps' _ _ hy hm (by simpa using h1) (by simpa using h2) (fun j v y hv hy=>?_) (fun j v y hv hy=>?_)
  ·simp only [List.getElem?_map,Option.map_eq_some_iff] at hy
   obtain ⟨z,hz,rfl⟩:=hy
   exact ih1 j v z hv hz hι
  ·simp only [List.getElem?_map,Option.map_eq_some_iff] at hy
   obtain ⟨z,hz,rfl⟩:=hy
   exact ih2 j v z hv hz hι
 | agg cs' cs h hc hr ih =>
  simp only [AV.shift,Qfa]
  refine .agg cs' _ (by simpa using h) (fun y hy=>?_) (fun j v y hv hy=>?_)
  ·obtain ⟨z,hz,rfl⟩:=List.mem_map.1 hy
   rw [AV.cell_shift]; exact hc z hz
  ·simp only [List.getElem?_map,Option.map_eq_some_iff] at hy
   obtain ⟨z,hz,rfl⟩:=hy
   exact ih j v z hv hz hι
 | tup vs' vs h hr ih =>
  simp only [AV.shift,Qfa]
  refine .tup vs' _ (by simpa using h) (fun j v y hv hy=>?_)
  simp only [List.getElem?_map,Option.map_eq_some_iff] at hy
  obtain ⟨z,hz,rfl⟩:=hy
  exact ih j v z hv hz hι
theorem Qnb {xs:List AV}:AV.clsL xs=true↔∀x∈xs,AV.cls x=true:=by
 induction xs with
 | nil=>simp [AV.clsL]
 | cons x xs ih=>simp [AV.clsL,ih]
theorem Qa.of_cls {M M':CM} {ι:Inj} {v:Value} {x:AV} (h:Qa M ι v x) (hc:x.cls=true):Qa M' ι v x:=by
 induction h with
 | undef h=>exact .undef h
 | bool b=>exact .bool b
 | int k n=>exact .int k n
 | str s=>exact .str s
 | nilp=>exact .nilp
 | nils=>exact .nils
 | nilf=>exact .nilf
 | nilm=>exact .nilm
 | nili=>exact .nili
 | emp a=>exact .emp a
 | emn a c=>exact .emn a c
 | lin o i n h ih=>exact .lin o i n (ih (by simp [AV.cls]))
 | lst0 a fl=>exact .lst0 a fl
 | ref0 a o p hp hz=>exact .ref0 a _ p hp hz
 | fz b off cs f hcs hm hr ih=>simp [AV.cls] at hc
 | lst b off cap w fl xs f hcap hfl hcc hm hr ih=>simp [AV.cls] at hc
 | ref o i n p off cap hp hi hcap hoff=>exact .ref _ i n p off cap hp hi hcap hoff
 | ptr o i c p hp=>exact .ptr _ i c p hp
 | mp o p hp=>exact .mp _ p hp
 | yld o p hp=>exact .yld _ p hp
 | ifc t v' v hr ih=>exact .ifc t v' _ (ih (by simpa [AV.cls] using hc))
 | fn f first' caps' first caps hy hm h1 h2 hr1 hr2 ih1 ih2 =>
  simp only [AV.cls,Bool.and_eq_true,Qnb] at hc
  exact .fn f first' caps' _ _ hy hm h1 h2 (fun j v y hv hy=>ih1 j v y hv hy (hc.1 y (List.mem_of_getElem? hy))) (fun j v y hv hy=>ih2 j v y hv hy (hc.2 y (List.mem_of_getElem? hy)))
 | agg cs' cs h hcc hr ih =>
  simp only [AV.cls,Qnb] at hc
  exact .agg cs' _ h hcc (fun j v y hv hy=>ih j v y hv hy (hc y (List.mem_of_getElem? hy)))
 | tup vs' vs h hr ih =>
  simp only [AV.cls,Qnb] at hc
  exact .tup vs' _ h (fun j v y hv hy=>ih j v y hv hy (hc y (List.mem_of_getElem? hy)))
theorem Qfd : ∀(objs:List AObj) (k i:Nat) (e:Nat × AObj),e∈Y1 k i objs↔∃j x,objs[j]?=some x∧e=(i+j,Qgb k x)
 | [],k,i,e=>by simp [Y1]
 | x::xs,k,i,e=>by
  simp only [Y1,List.mem_cons,Qfd xs k (i+1) e]
  constructor
  ·rintro (rfl | ⟨j,y,h1,rfl⟩)
   ·exact ⟨0,x,rfl,rfl⟩
   ·exact ⟨j+1,y,by simpa using h1,by congr 1; omega⟩
  ·rintro ⟨j,y,h1,rfl⟩
   cases j with
   | zero=>simp at h1; subst h1; exact .inl rfl
   | succ j=>exact .inr ⟨j,y,by simpa using h1,by congr 1; omega⟩
theorem Qqu {x:AObj} (h:x.okRow=true):∃fl w xs,x=.row false false true fl w xs:=by
 unfold AObj.okRow at h
 split at h
 ·exact ⟨_,_,_,rfl⟩
 ·cases h
theorem Q0d (σ:Sto) (objs:List AObj) (hok:objs.all AObj.okRow=true) (k:Nat):(∀j x,objs[j]?=some x→σ.puts (Y1 k k objs) (k+j)=some x)∧∀m,m < k∨k+objs.length≤m→σ.puts (Y1 k k objs) m=σ m:=by
 have hsh:∀x∈objs,Qgb k x=x:=fun x hx=>by
  obtain ⟨fl,w,xs,rfl⟩:=Qqu (List.all_eq_true.1 hok x hx)
  simp [Qgb]
 constructor
 ·intro j x hj
  rcases σ.puts_at (Y1 k k objs) (k+j) with ⟨_,h2⟩ | ⟨y,h1,h2⟩
  ·exact absurd rfl (h2 (k+j,Qgb k x) ((Qfd _ _ _ _).2 ⟨j,x,hj,rfl⟩))
  ·obtain ⟨j',x',h3,h4⟩:=(Qfd _ _ _ _).1 h2
   simp only [Prod.mk.injEq] at h4
   obtain ⟨h5,h6⟩:=h4
   have:j=j':=by omega
   subst this
   rw [hj] at h3; cases h3
   rw [h1,h6,hsh x (List.mem_of_getElem? hj)]
 ·intro m hm
  rcases σ.puts_at (Y1 k k objs) m with ⟨h1,_⟩ | ⟨y,h1,h2⟩
  ·exact h1
  ·obtain ⟨j',x',h3,h4⟩:=(Qfd _ _ _ _).1 h2
   simp only [Prod.mk.injEq] at h4
   have:=(List.getElem?_eq_some_iff.1 h3).1
   omega
theorem Qgh (h:Rel P B W0 D M ι σ W) {objs:List AObj} (hok:objs.all AObj.okRow=true) {W1:World} {M1:CM} {ι1:Inj}
  (h1:Rel P W.heap.size W [] M1 ι1 (fun k=>objs[k]?) W1) (hfr:∀k,fr≤k→k < fr+objs.length→ι k=none)
  {M2:CM} (hM:CM.Grow W.heap.size M M2) (ha:Qaw M2 W1)
  (hM12:∀b k,W.heap.size≤b→M1 b k=none→M2 b k=none)
  (hobj:∀(j:Nat) (x:AObj) (fl:Bool) (w:Nat) (xs:List AV),objs[j]?=some x→x=.row false false true fl w xs→∀z∈xs,∀y∈z.flat,∀u,Qa M1 ι1 u y→Qa M2 noInj u y) :
  Rel P B W0 D M2 (fun k=>if fr≤k∧k < fr+objs.length then ι1 (k - fr) else ι k) (σ.puts (Y1 fr fr objs)) W1:=by
 have hrel:=h.old h1.below
 obtain ⟨p1,p2⟩:=Q0d σ objs hok fr
 have hle:ι.le (fun k=>if fr≤k∧k < fr+objs.length then ι1 (k - fr) else ι k):=fun k q hk=>by
  by_cases e:fr≤k∧k < fr+objs.length
  ·rw [hfr k e.1 e.2] at hk; cases hk
  ·simp only [e,if_false]; exact hk
 have hcase:∀k,(∃j x,k=fr+j∧objs[j]?=some x∧σ.puts (Y1 fr fr objs) k=some x∧(if fr≤k∧k < fr+objs.length then ι1 (k - fr) else ι k)=ι1 j)∨(σ.puts (Y1 fr fr objs) k=σ k∧(if fr≤k∧k < fr+objs.length then ι1 (k - fr) else ι k)=ι k):=by
  intro k
  by_cases e:fr≤k∧k < fr+objs.length
  ·left
   have hj:k - fr < objs.length:=by omega
   refine ⟨k - fr,objs[k - fr],by omega,List.getElem?_eq_getElem hj,?_,by rw [if_pos e]⟩
   have:=p1 (k - fr) _ (List.getElem?_eq_getElem hj)
   rw [show fr+(k - fr)=k by omega] at this
   exact this
  ·right
   exact ⟨p2 k (by omega),by rw [if_neg e]⟩
 have hin1:∀j x,objs[j]?=some x→∃fl w xs p,x=.row false false true fl w xs∧ι1 j=some p∧Qgq W.heap.size M1 ι1 W1 false true fl w xs p:=by
  intro j x hj
  obtain ⟨fl,w,xs,rfl⟩:=Qqu (List.all_eq_true.1 hok x (List.mem_of_getElem? hj))
  obtain ⟨p,hp,hr⟩:=h1.row j _ _ _ _ _ _ hj
  exact ⟨fl,w,xs,p,rfl,hp,hr⟩
 have hold:∀k bx nr fl w xs p,σ k=some (.row bx false nr fl w xs)→ι k=some p→p.blk < W.heap.size∨(p.cap=0∧p.base=0):=by
  intro k bx nr fl w xs p hk hp
  obtain ⟨q,hq,hr⟩:=h.row k _ _ _ _ _ _ hk
  rw [hp] at hq; cases hq
  rcases Nat.eq_zero_or_pos p.cap with hz | hz
  ·exact .inr ⟨hz,by rcases hr.cpos with h4 | h4 <;> omega⟩
  left
  obtain ⟨v,hv⟩:=Option.isSome_iff_exists.1 ((hr.own rfl).2 0 (Nat.mul_pos hz hr.pos)).1
  exact World.block_lt_of_cell? W _ hv
 refine ⟨hrel.size,hrel.below,hrel.defs,ha,fun k bx1 nr1 fl1 w1 xs1 q j hk hq hj=>?_,?_,?_,?_,?_,?_⟩
 ·rcases hcase k with ⟨i,x,rfl,hi,e1,e2⟩ | ⟨e1,e2⟩
  ·rw [e1] at hk; cases hk
   refine ⟨(h1.cool _ _ _ _ _ _ _ _ hi (by rw [←e2]; exact hq) hj).1,?_⟩
   rw [hM.keepC]
   obtain ⟨fl',w',xs',p',hx',hp',hr'⟩:=hin1 i _ hi
   cases hx'
   have:p'=q:=by rw [e2,hp'] at hq; exact Option.some.inj hq
   subst this
   exact h.kcFresh (hr'.own rfl).1
  ·rw [e1] at hk
   rw [hM.keepC]
   exact hrel.cool _ _ _ _ _ _ _ _ hk (by rw [←e2]; exact hq) hj
 ·intro k bx ro nr fl w xs hk
  rcases hcase k with ⟨j,x,rfl,hj,e1,e2⟩ | ⟨e1,e2⟩
  ·rw [e1] at hk
   obtain ⟨fl',w',xs',p,rfl,hp,hr⟩:=hin1 j x hj
   cases hk
   refine ⟨p,by rw [e2]; exact hp,⟨hr.pw,hr.pos,hr.cpos,hr.len,hr.shaped,hr.nr,hr.fl,fun i j' x y hi hj'=>?_,fun _=>⟨Nat.le_trans h.size (hr.own rfl).1,fun m hm=>⟨((hr.own rfl).2 m hm).1,hM12 _ _ (hr.own rfl).1 ((hr.own rfl).2 m hm).2⟩⟩,fun hf=>by cases hf⟩⟩
   obtain ⟨v,hv,hrep⟩:=hr.cells i j' x y hi hj'
   exact ⟨v,hv,(hobj j _ _ _ _ hj rfl x (List.mem_of_getElem? hi) y (List.mem_of_getElem? hj') v hrep).mono (CM.le_refl _) (Inj.noInj_le _)⟩
  ·rw [e1] at hk
   obtain ⟨p,hp,hr⟩:=hrel.row k bx ro nr fl w xs hk
   refine ⟨p,by rw [e2]; exact hp,⟨hr.pw,hr.pos,hr.cpos,hr.len,hr.shaped,hr.nr,hr.fl,fun i j x y hi hj=>?_,fun hro=>⟨(hr.own hro).1,fun m hm=>⟨((hr.own hro).2 m hm).1,?_⟩⟩,fun hro i j x y hi hj=>?_⟩⟩
   ·obtain ⟨v,hv,hrep⟩:=hr.cells i j x y hi hj
    exact ⟨v,hv,hrep.mono hM.le hle⟩
   ·subst hro
    rcases hold k _ _ _ _ _ p hk hp with hq | ⟨hz,_⟩
    ·rw [hM.old _ _ hq]; exact ((hr.own rfl).2 m hm).2
    ·rw [hz] at hm; simp at hm
   ·obtain ⟨v,hv,hrep⟩:=hr.imm hro i j x y hi hj
    exact ⟨v,hM.le _ _ _ hv,hrep.mono hM.le (Inj.le_refl _)⟩
 ·intro k fn sl ps as bd st pe hk
  rcases hcase k with ⟨j,x,rfl,hj,e1,e2⟩ | ⟨e1,e2⟩
  ·rw [e1] at hk
   obtain ⟨fl',w',xs',p,rfl,hp,hr⟩:=hin1 j x hj
   cases hk
  ·rw [e1] at hk
   obtain ⟨q,nt,hq,hnt,hb,tmps,hsz,hrec,hsl⟩:=hrel.loop k fn sl ps as bd st pe hk
   exact ⟨q,nt,by rw [e2]; exact hq,by rw [hM.keep]; exact hnt,hb,tmps,hsz,hrec,Qae hM.le hle hsl⟩
 ·intro k k' bx nr fl w xs bx' nr' fl' w' xs' q q' hkk hk hk' hq hq'
  rcases hcase k with ⟨j,x,rfl,hj,e1,e2⟩ | ⟨e1,e2⟩
  ·rw [e1] at hk; rw [e2] at hq
   obtain ⟨fl2,w2,xs2,p,rfl,hp,hr⟩:=hin1 j x hj
   rw [hp] at hq; cases hq
   rcases hcase k' with ⟨j',x',rfl,hj',e1',e2'⟩ | ⟨e1',e2'⟩
   ·rw [e1'] at hk'; rw [e2'] at hq'
    obtain ⟨fl3,w3,xs3,p',rfl,hp',hr'⟩:=hin1 j' x' hj'
    rw [hp'] at hq'; cases hq'
    exact h1.apart j j' _ _ _ _ _ _ _ _ _ _ _ _ (by omega) hj hj' hp hp'
   ·rw [e1'] at hk'; rw [e2'] at hq'
    rcases hold k' _ _ _ _ _ q' hk' hq' with hq2 | ⟨hz,hb⟩
    ·left
     have:=(hr.own rfl).1
     omega
    ·right; right
     rw [hz,hb]; simp
  ·rw [e1] at hk; rw [e2] at hq
   rcases hcase k' with ⟨j',x',rfl,hj',e1',e2'⟩ | ⟨e1',e2'⟩
   ·rw [e1'] at hk'; rw [e2'] at hq'
    obtain ⟨fl3,w3,xs3,p',rfl,hp',hr'⟩:=hin1 j' x' hj'
    rw [hp'] at hq'; cases hq'
    rcases hold k _ _ _ _ _ q hk hq with hq2 | ⟨hz,hb⟩
    ·left
     have:=(hr'.own rfl).1
     omega
    ·right; left
     rw [hz,hb]; simp
   ·rw [e1'] at hk'; rw [e2'] at hq'
    exact h.apart _ _ _ _ _ _ _ _ _ _ _ _ _ _ hkk hk hk' hq hq'
 ·intro k k' fn sl ps as bd st pe fn' sl' ps' as' bd' st' pe' q q' hkk hk hk' hq hq'
  rcases hcase k with ⟨j,x,rfl,hj,e1,e2⟩ | ⟨e1,e2⟩
  ·rw [e1] at hk
   obtain ⟨fl',w',xs',p,rfl,hp,hr⟩:=hin1 j x hj
   cases hk
  ·rcases hcase k' with ⟨j',x',rfl,hj',e1',e2'⟩ | ⟨e1',e2'⟩
   ·rw [e1'] at hk'
    obtain ⟨fl',w',xs',p,rfl,hp,hr⟩:=hin1 j' x' hj'
    cases hk'
   ·rw [e1] at hk; rw [e2] at hq; rw [e1'] at hk'; rw [e2'] at hq'
    exact h.loops _ _ _ _ _ _ _ _ _ _ _ _ _ _ _ _ _ _ hkk hk hk' hq hq'
 ·intro k hk
  rcases hcase k with ⟨j,x,rfl,hj,e1,e2⟩ | ⟨e1,e2⟩
  ·rw [e2] at hk
   obtain ⟨fl',w',xs',p,rfl,hp,hr⟩:=hin1 j x hj
   rw [hp] at hk; cases hk
  ·rw [e2] at hk; rw [e1]; exact h.used k hk
theorem Qs9 (b k:Nat):Zw M W (inC σ ι []) b k=M b k:=by
 cases hm:M b k with
 | some v=>exact addM_le _ _ _ _ _ _ hm
 | none=>exact Qiv hm (by rintro ⟨o,ho,_⟩; simp at ho)
theorem Rel.behind (h:Rel P B W0 D M ι σ W) {W1:World} {M1:CM} (h1:Rel P W.heap.size W [] M1 noInj (fun _=>none) W1):Rel P B W0 D M1 noInj (fun _=>none) W1:=by
 have h2:=h.old h1.below
 exact ⟨h2.size,h2.below,h2.defs,h1.agree,fun o bx nr fl w xs p k ho=>(by cases ho),fun o bx ro nr fl w xs ho=>(by cases ho),fun o fn sl ps as bd st pe ho=>(by cases ho),fun o o' bx nr fl w xs bx' nr' fl' w' xs' p p' _ ho=>(by cases ho),fun o o' fn sl ps as bd st pe fn' sl' ps' as' bd' st' pe' p p' _ ho=>(by cases ho),fun o _=>.inl rfl⟩
theorem Rel.empty (h:Rel P B W0 D M ι σ W):Rel P B W0 D M noInj (fun _=>none) W :=
 ⟨h.size,h.below,h.defs,h.agree,fun o bx nr fl w xs p k ho=>(by cases ho),fun o bx ro nr fl w xs ho=>(by cases ho),fun o fn sl ps as bd st pe ho=>(by cases ho),fun o o' bx nr fl w xs bx' nr' fl' w' xs' p p' _ ho=>(by cases ho),fun o o' fn sl ps as bd st pe fn' sl' ps' as' bd' st' pe' p p' _ ho=>(by cases ho),fun o _=>.inl rfl⟩
theorem Ji {f:FuncId} {fn:Func} (hf:P.funcs[f]?=some fn) (hb:fn.body.isSome=true) (hn:(fn.name == "runtime.NumGoroutine")=false) (args:Array Value) (W:World):(callFunc f args).run P W=.ok (.enter f args) W:=by
 have hb':¬ fn.body=none:=fun e=>by rw [e] at hb; cases hb
 have hn':¬ fn.name = "runtime.NumGoroutine" := by simpa using hn
 simp [callFunc,hf,hn',hb']
theorem Qjg {α:Type} {as bs cs:List α} {xs ys zs:Array Value} (h1:xs.size=as.length) (h2:ys.size=bs.length) (h3:zs.size=cs.length) {Φ:Value→α→Prop}
  (k1:∀(j:Nat) (v:Value) (y:α),xs[j]?=some v→as[j]?=some y→Φ v y) (k2:∀(j:Nat) (v:Value) (y:α),ys[j]?=some v→bs[j]?=some y→Φ v y) (k3:∀(j:Nat) (v:Value) (y:α),zs[j]?=some v→cs[j]?=some y→Φ v y) :
  ∀(j:Nat) (v:Value) (y:α),(xs++ys++zs)[j]?=some v→(as++bs++cs)[j]?=some y→Φ v y:=by
 intro j v y hv hy
 rcases Nat.lt_or_ge j (as.length+bs.length) with h | h
 ·rw [Array.getElem?_append_left (by simp; omega)] at hv
  rw [List.getElem?_append_left (by simp; omega)] at hy
  rcases Nat.lt_or_ge j as.length with h' | h'
  ·rw [Array.getElem?_append_left (by omega)] at hv
   rw [List.getElem?_append_left (by omega)] at hy
   exact k1 j v y hv hy
  ·rw [Array.getElem?_append_right (by omega),h1] at hv
   rw [List.getElem?_append_right (by omega)] at hy
   exact k2 _ v y hv hy
 ·rw [Array.getElem?_append_right (by simp; omega)] at hv
  rw [List.getElem?_append_right (by simp; omega)] at hy
  simp only [Array.size_append,h1,h2] at hv
  simp only [List.length_append] at hy
  exact k3 _ v y hv hy
structure Qoc (P:Program) (B:Nat) (W0:World) (D:List Nat) (M:CM) (ι:Inj) (σ:Sto) (fr:Nat) (a:Act) (o:Oper) (next:Act→World→Prop) (Q:Exit→Act→World→Prop) (out:J5):Prop where
 val:∀res,out=.val res→∀v W' M' ι',CM.Grow B M M'→ι.le ι'→(∀k,k < fr∨res.fr≤k→ι' k=ι k)→Rel P B W0 D M' ι' (σ.puts res.eff) W'→(∀x,res.v=some x→Qa M' ι' v x)→next (a.put o.dst v) W'
 pan:∀pv,out=.pan pv→∀v W' M',CM.Grow B M M'→Rel P B W0 D M' noInj (fun _=>none) W'→Qa M' noInj v pv→Q (.panic [{ v,recovered:=false }]) a W'
theorem Qxh (hC:Qi2 P C) (h:Rel P B W0 D M ι σ W) (hs:Qi M ι s a.tmps) {g:Operand} {args:Array Operand} {ts:Array TypeId} (ho:o.op=.call { callee:=.value g,args,argTypes:=ts }) {out:J5}
  (he:evalOp P nf C σ fr s o=some out) (hfr:∀res,out=.val res→∀k,fr≤k→k < res.fr→ι k=none) {r:Option Nat} {n:Nat} {next:Act→World→Prop} {Q:Exit→Act→World→Prop} (hp:Qoc P B W0 D M ι σ fr a o next Q out) :
  o.wpIn (FW r) n P a W next Q:=by
 unfold evalOp at he
 rw [ho] at he
 simp only at he
 split at he
 ·rename_i f first caps as hg has
  have hgv:=Qg hs hg
  generalize hgu:a.eval g=gu at hgv
  cases hgv with
  | fn _ first' caps' _ _ hy hm h1 h2 hr1 hr2 =>
  obtain ⟨l1,e1⟩:=Vn hs has
  unfold Qfu at he
  split at he
  ·rename_i as' ids hsn
   obtain ⟨ml,mat⟩:=Jm hsn
   have hrep:∀(j:Nat) (v:Value) (y:AV),(first'++args.map a.eval++caps')[j]?=some v→(first++as++caps)[j]?=some y→Qa M ι v y :=
    Qjg h1 (by simpa using l1.symm) h2 hr1 (fun j v y hv hy=>by
     simp only [Array.getElem?_map,Option.map_eq_some_iff] at hv
     obtain ⟨w,hw,rfl⟩:=hv
     exact (e1 j w y (by simpa using hw) hy).2) hr2
   have hle:=addM_le M W (inC σ ι ids)
   have hargs:∀(j:Nat) (v:Value) (y:AV),(first'++args.map a.eval++caps')[j]?=some v→as'[j]?=some y→Qa (Zw M W (inC σ ι ids)) noInj v y:=by
    intro j v y hv hy
    obtain ⟨x0,is,q1,q2,q3⟩:=Xs hsn hy
    exact Ys h ids Qs x0 y is v q2 q3 (hrep j v x0 hv q1)
   have hsize:(first'++args.map a.eval++caps').size=as'.length:=by
    rw [ml]; simp only [Array.size_append,Array.size_map,List.length_append,h1,h2,l1,Array.length_toList]
   have main:∀cout,C f as'=some cout→(∀v W1 M1 ι1,(match cout with
      | .ret r objs=>CM.Grow W.heap.size (Zw M W (inC σ ι ids)) M1→Rel P W.heap.size W [] M1 ι1 (fun k=>objs[k]?) W1→(∀k,objs.length≤k→ι1 k=none)→Qa M1 ι1 v r→next (a.put o.dst v) W1
      | .pan pv=>CM.Grow W.heap.size (Zw M W (inC σ ι ids)) M1→Rel P W.heap.size W [] M1 noInj (fun _=>none) W1→Qa M1 noInj v pv→Q (.panic [{ v,recovered:=false }]) a W1))→o.wpIn (FW r) n P a W next Q:=by
    intro cout hco hpost
    obtain ⟨hok,fn,hf,hb,hn⟩:=hC f as' cout hco
    refine ⟨fun _ _=>trivial,?_⟩
    rw [Oper.semAt_eq _ _ _ (by rw [ho]; simp)]
    have hrun:(execOp a.eval o).run P W=.ok (.enter f (first'++args.map a.eval++caps')) W:=by
     simp only [execOp,ho,resolve,hgu,Deferred.ofValue,Sem.run_bind,Sem.run_pure,Result.andThen_ok,invoke]
     exact Ji hf hb hn _ W
    rw [hrun,Oper.uponIn_enter]
    refine ⟨fun hd=>by simp [FW,Fence.wide] at hd,Qfg ((hok W (Zw M W (inC σ ι ids)) _ (Qde h.agree) hsize hargs).mono ?_)⟩
    intro e W1 he1
    cases cout with
    | ret r objs =>
     obtain ⟨v,M1,ι1,rfl,q1,q2,q3,q4⟩:=he1
     exact hpost v W1 M1 ι1 q1 q2 q3 q4
    | pan pv =>
     obtain ⟨v,M1,rfl,q1,q2,q3⟩:=he1
     exact hpost v W1 M1 noInj q1 q2 q3
   split at he
   ·rename_i r0 objs hco
    split at he
    ·rename_i hobjs
     refine main _ hco ?_
     intro v W1 M1 ι1 hgrow hrel1 hout hv
     have hdom:∀b k v,M b k=some v→b < W.heap.size:=fun b k v hm=>h.lt hm
     have nrobj:∀(j:Nat) (x:AObj) (fl:Bool) (w:Nat) (xs:List AV),objs[j]?=some x→x=.row false false true fl w xs→∀z∈xs,∀y∈z.flat,y.nr=true:=by
      intro j x fl w xs hj hx z hz y hy
      subst hx
      obtain ⟨p,hp,hr⟩:=hrel1.row j _ _ _ _ _ _ hj
      exact AV.nr_flat (Qx.1 (hr.nr rfl) z hz) y hy
     have hsh:∀(k0:Nat) (M2:CM),Qa M2 ι1 v r0→Qa M2 (fun k=>if fr≤k∧k < fr+objs.length then ι1 (k - fr) else ι k) v (r0.shift fr):=by
      intro k0 M2 hv2
      refine hv2.shift (fun o p hp=>?_)
      have hlt:o < objs.length:=by
       rcases Nat.lt_or_ge o objs.length with e | e
       ·exact e
       ·rw [hout o e] at hp; cases hp
      rw [if_pos ⟨by omega,by omega⟩,show fr+o - fr=o by omega]; exact hp
     have hfr':∀(res:Res),out=.val res→res.fr=fr+objs.length→∀k,fr≤k→k < fr+objs.length→ι k=none:=fun res hr hf k hk1 hk2=>hfr res hr k hk1 (by omega)
     have hle':∀(res:Res),out=.val res→res.fr=fr+objs.length→ι.le (fun k=>if fr≤k∧k < fr+objs.length then ι1 (k - fr) else ι k):=fun res hr hf k q hk=>by
      by_cases e:fr≤k∧k < fr+objs.length
      ·rw [hfr' res hr hf k e.1 e.2] at hk; cases hk
      ·simp only [e,if_false]; exact hk
     split at he
     ·rename_i hcl
      cases he
      have hfr1:=hfr' _ rfl rfl
      have hle1:=hle' _ rfl rfl
      rw [Bool.or_eq_true] at hcl
      by_cases hids:ids=[]
      ·subst hids
       have hsame:∀b k,b < W.heap.size→M1 b k=M b k:=fun b k hb=>(hgrow.old b k hb).trans (Qs9 b k)
       have hM:CM.Grow W.heap.size M M1:=⟨CM.le_trans hle hgrow.le,hsame,hgrow.keep,hgrow.keepC,fun b o v hv=>(hgrow.keepF b o v hv).trans (Qs9 b o)⟩
       have key:=Qgh h hobjs hrel1 hfr1 hM hrel1.agree (fun b k _ hn=>hn) (fun j x fl w xs hj hx z hz y hy u hu=>hu.of_nr (nrobj j x fl w xs hj hx z hz y hy))
       exact hp.val _ rfl v W1 M1 _ (hM.mono h.size) hle1 (fun k hk=>by simp only at hk; rw [if_neg (by omega)]) key (fun x hx=>by cases hx; exact hsh 0 M1 hv)
      ·have hcl2:r0.cls=true∧objs.all AObj.flat = true:=by
        rcases hcl with e | e
        ·exact absurd (by simpa using e) hids
        ·simpa using e
       have key:=Qgh h hobjs hrel1 hfr1 (.refl _ _) ⟨fun b o v hm=>by
         rw [hrel1.below.toBelow.cell (p:=⟨b,o,none⟩) (hdom _ _ _ hm)]; exact h.agree _ _ _ hm,fun b x hm=>by
         obtain ⟨k1,k2,k3⟩:=h.agree.keep b x hm
         exact ⟨by rw [hrel1.below.block b (Array.getElem?_eq_some_iff.1 k1).1]; exact k1,k2,k3⟩,fun b o v hm=>by
         obtain ⟨k1,k2⟩:=h.agree.keepC b o v hm
         have hlt:=World.block_lt_of_cell? W _ k1
         exact ⟨by rw [hrel1.below.toBelow.cell (p:=⟨b,o,none⟩) hlt]; exact k1,fun j=>by rw [hrel1.below.toBelow.frozen (p:=⟨b,j,none⟩) hlt]; exact k2 j⟩⟩ (fun b k hb _=>by
         cases hm:M b k with
         | none=>rfl
         | some v=>exact absurd (hdom _ _ _ hm) (by omega)) (fun j x fl w xs hj hx z hz y hy u hu=>by
         have hfl:fl=true:=by
          have:=List.all_eq_true.1 hcl2.2 x (List.mem_of_getElem? hj)
          subst hx; exact this
         subst hfl
         obtain ⟨p,hp',hr⟩:=hrel1.row j _ _ _ _ _ _ (hx ▸ hj)
         exact hu.of_sc (Qb7.1 (hr.fl rfl z hz) y hy))
       exact hp.val _ rfl v W1 M _ (.refl _ _) hle1 (fun k hk=>by simp only at hk; rw [if_neg (by omega)]) key (fun x hx=>by cases hx; exact hsh 0 M (hv.of_cls hcl2.1))
     ·split at he
      ·rename_i es hfz
       cases he
       have hfr1:=hfr' _ rfl rfl
       have hle1:=hle' _ rfl rfl
       have h':=Qad h hfz
       have key:=Qgh h' hobjs hrel1 hfr1 hgrow hrel1.agree (fun b k _ hn=>hn) (fun j x fl w xs hj hx z hz y hy u hu=>hu.of_nr (nrobj j x fl w xs hj hx z hz y hy))
       exact hp.val _ rfl v W1 M1 _ ((h.growC ids).trans (hgrow.mono h.size)) hle1 (fun k hk=>by simp only at hk; rw [if_neg (by omega)]) (by rw [Sto.puts_append]; exact key) (fun x hx=>by cases hx; exact hsh 0 M1 hv)
      ·cases he
    ·cases he
   ·rename_i pv hco
    cases he
    refine main _ hco ?_
    intro v W1 M1 ι1 hgrow hrel1 hv
    exact hp.pan _ rfl v W1 M1 ((h.growC ids).trans (hgrow.mono h.size)) (h.behind hrel1) hv
   ·cases he
  ·cases he
 ·cases he
end
end Go.Ab
namespace Go.Ab
open Go.RowKit
def Xd:Op→Bool
 | .panic _=>true
 | .call { callee:=.value _,.. }=>true
 | _=>false
def Z7:Option J5→Option J5
 | some (.val r)=>some (.val r)
 | _=>none
def Z0 (P:Program) (nf:Bool) (C:FuncId→List AV→Option Xp) (σ:Sto) (fr:Nat) (s:Slots) (o:Oper):Option J5 :=
 if Xd o.op then evalOp P nf C σ fr s o else Z7 (evalOp P nf C σ fr s o)
section
variable {P:Program} {nf:Bool} {C:FuncId→List AV→Option Xp} {B:Nat} {W0 W W':World} {D:List Nat} {M:CM} {ι:Inj} {σ:Sto} {s:Slots} {a:Act} {fr:Nat} {o:Oper} {res:Res}
theorem Qnz {r:Option Nat} {n:Nat} {next:Act→World→Prop} {Q:Exit→Act→World→Prop} (hd:Zc P B W0 D M ι σ fr a o W res) (hnd:∀c,o.op≠.defer c) (hp:Qoc P B W0 D M ι σ fr a o next Q (.val res)):o.wpIn (FW r) n P a W next Q:=by
 obtain ⟨v,W1,M1,ι1,hrun,k1,k2,k3,k4,k5⟩:=hd
 refine ⟨fun _ _=>trivial,?_⟩
 rw [Oper.semAt_eq _ _ _ hnd]
 have hn:=hp.val res rfl v W1 M1 ι1 k1 k2 k3 k4 k5
 rcases hrun with e | ⟨e,rfl⟩
 ·rw [e,Oper.uponIn_value]; exact hn
 ·rw [e,Oper.uponIn_skip]; exact hn
theorem Qwn (h:Rel P B W0 D M ι σ W) (hs:Qi M ι s a.tmps) {x:Operand} (ho:o.op=.panic x) {out:J5} (he:evalOp P nf C σ fr s o=some out) {r:Option Nat} {n:Nat} {next:Act→World→Prop} {Q:Exit→Act→World→Prop}
  (hp:Qoc P B W0 D M ι σ fr a o next Q out):o.wpIn (FW r) n P a W next Q:=by
 unfold evalOp at he
 rw [ho] at he
 simp only at he
 split at he
 ·rename_i t v hx
  split at he
  ·rename_i w hsn
   cases he
   have hv:=Qg hs hx
   have hw:=Ys h [] Qs _ w [] _ hsn (fun k hk=>hk) hv
   refine ⟨fun _ _=>trivial,?_⟩
   rw [Oper.semAt_eq _ _ _ (by rw [ho]; simp)]
   have hrun:(execOp a.eval o).run P W=.halt (.panic (a.eval x)) W:=by
    generalize hu:a.eval x=u at hv
    cases hv
    simp [execOp,ho,hu,Instr.panic]
   rw [hrun,Oper.uponIn_panic]
   exact hp.pan _ rfl _ W M (.refl _ _) h.empty (hw.mono (Qu2 h) (Inj.le_refl _))
  ·cases he
 ·cases he
theorem Q1m (hC:Qi2 P C) (h:Rel P B W0 D M ι σ W) (hs:Qi M ι s a.tmps) {out:J5} (he0:Z0 P nf C σ fr s o=some out) (hfr:∀res,out=.val res→∀k,fr≤k→k < res.fr→ι k=none)
  {r:Option Nat} {n:Nat} {next:Act→World→Prop} {Q:Exit→Act→World→Prop} (hp:Qoc P B W0 D M ι σ fr a o next Q out):o.wpIn (FW r) n P a W next Q:=by
 have pure:Xd o.op=false→(∀res,evalOp P nf C σ fr s o=some (.val res)→(∀k,fr≤k→k < res.fr→ι k=none)→Zc P B W0 D M ι σ fr a o W res)→(∀c,o.op≠.defer c)→o.wpIn (FW r) n P a W next Q:=by
  intro hm hd hnd
  unfold Z0 at he0
  rw [hm] at he0
  simp only [Bool.false_eq_true,if_false] at he0
  unfold Z7 at he0
  split at he0
  ·rename_i res he
   cases he0
   exact Qnz (hd res he (hfr res rfl)) hnd hp
  ·cases he0
 have he:Xd o.op=true→evalOp P nf C σ fr s o=some out:=fun hm=>by
  unfold Z0 at he0
  rw [hm] at he0
  exact he0
 cases ho:o.op with
 | move x=>exact pure (by rw [ho]; rfl) (fun res he _=>Qqs h hs (.inl ho) he) (by rw [ho]; simp)
 | assign x=>exact pure (by rw [ho]; rfl) (fun res he _=>Qqs h hs (.inr ho) he) (by rw [ho]; simp)
 | pick c x y=>exact pure (by rw [ho]; rfl) (fun res he _=>Qzq h hs ho he) (by rw [ho]; simp)
 | alloc t=>exact pure (by rw [ho]; rfl) (fun res he hf=>Qw0 h hf ho he) (by rw [ho]; simp)
 | box t x=>exact pure (by rw [ho]; rfl) (fun res he hf=>Q1q h hs hf ho he) (by rw [ho]; simp)
 | build t ps=>exact pure (by rw [ho]; rfl) (fun res he _=>Qwy h hs ho he) (by rw [ho]; simp)
 | buildSlice t k ps=>exact pure (by rw [ho]; rfl) (fun res he hf=>Qnt h hs hf ho he) (by rw [ho]; simp)
 | load t x=>exact pure (by rw [ho]; rfl) (fun res he _=>Qxy h hs ho he) (by rw [ho]; simp)
 | store t x y=>exact pure (by rw [ho]; rfl) (fun res he _=>Qwe h hs ho he) (by rw [ho]; simp)
 | nilCheck x=>exact pure (by rw [ho]; rfl) (fun res he _=>Qrc h hs ho he) (by rw [ho]; simp)
 | binOp op t x y u=>exact pure (by rw [ho]; rfl) (fun res he _=>Qxk h hs ho he) (by rw [ho]; simp)
 | unOp op t x=>exact pure (by rw [ho]; rfl) (fun res he _=>Qyb h hs ho he) (by rw [ho]; simp)
 | convert u t x=>exact pure (by rw [ho]; rfl) (fun res he _=>Qtg h hs ho he) (by rw [ho]; simp)
 | makeFunc f x y=>exact pure (by rw [ho]; rfl) (fun res he _=>Qrd h hs ho he) (by rw [ho]; simp)
 | makeSlice t x y=>exact pure (by rw [ho]; rfl) (fun res he hf=>Qpv h hs hf ho he) (by rw [ho]; simp)
 | slice t x lo hi mx=>exact pure (by rw [ho]; rfl) (fun res he _=>Qwz h hs ho he) (by rw [ho]; simp)
 | fieldAddr t x f=>exact pure (by rw [ho]; rfl) (fun res he _=>Qpq h hs ho he) (by rw [ho]; simp)
 | field t x f=>exact pure (by rw [ho]; rfl) (fun res he _=>Qwh h hs ho he) (by rw [ho]; simp)
 | indexAddr t x y=>exact pure (by rw [ho]; rfl) (fun res he _=>Qqb h hs ho he) (by rw [ho]; simp)
 | index t x y=>exact pure (by rw [ho]; rfl) (fun res he _=>Qv9 h hs ho he) (by rw [ho]; simp)
 | makeMap t r=>exact pure (by rw [ho]; rfl) (fun res he hf=>Qua h hf ho he) (by rw [ho]; simp)
 | lookup t x y c=>exact pure (by rw [ho]; rfl) (fun res he _=>Quu h hs ho he) (by rw [ho]; simp)
 | mapUpdate t m x y=>exact pure (by rw [ho]; rfl) (fun res he _=>Qhu h hs (.inl ho) he) (by rw [ho]; simp)
 | insert t m x y=>exact pure (by rw [ho]; rfl) (fun res he _=>Qhu h hs (.inr ho) he) (by rw [ho]; simp)
 | mapEntry t m x=>exact pure (by rw [ho]; rfl) (fun res he _=>Qrg h hs ho he) (by rw [ho]; simp)
 | entryStore t m x y=>exact pure (by rw [ho]; rfl) (fun res he _=>Qoj h hs ho he) (by rw [ho]; simp)
 | extract x i=>exact pure (by rw [ho]; rfl) (fun res he _=>Qsr h hs ho he) (by rw [ho]; simp)
 | panic x=>exact Qwn h hs ho (he (by rw [ho]; rfl)) hp
 | call c =>
  obtain ⟨cal,args,ts⟩:=c
  cases cal with
  | value g=>exact Qxh hC h hs ho (he (by rw [ho]; rfl)) hfr hp
  | invoke g m=>exact pure (by rw [ho]; rfl) (fun res he _=>by unfold evalOp at he; rw [ho] at he; cases he) (by rw [ho]; simp)
  | builtin b =>
   cases b with
   | len=>exact pure (by rw [ho]; rfl) (fun res he _=>Q0r h hs ho he) (by rw [ho]; simp)
   | cap=>exact pure (by rw [ho]; rfl) (fun res he _=>Q09 h hs ho he) (by rw [ho]; simp)
   | append=>exact pure (by rw [ho]; rfl) (fun res he hf=>Quq h hs hf ho he) (by rw [ho]; simp)
   | copy=>exact pure (by rw [ho]; rfl) (fun res he _=>Qyq h hs ho he) (by rw [ho]; simp)
   | min=>exact pure (by rw [ho]; rfl) (fun res he _=>Qmt h hs (.inl rfl) ho he) (by rw [ho]; simp)
   | max=>exact pure (by rw [ho]; rfl) (fun res he _=>Qmt h hs (.inr rfl) ho he) (by rw [ho]; simp)
   | _=>exact pure (by rw [ho]; rfl) (fun res he _=>by unfold evalOp at he; rw [ho] at he; cases he) (by rw [ho]; simp)
 | defer c=>unfold Z0 evalOp at he0; rw [ho] at he0; cases he0
 | _=>exact pure (by rw [ho]; rfl) (fun res he _=>by unfold evalOp at he; rw [ho] at he; cases he) (by rw [ho]; simp)
end
end Go.Ab
namespace Go.Ab
open Go.RowKit
structure St where
 slots:List (Nat × AV)
 objs:List AObj
 nt:Nat
 deriving Inhabited
inductive Xg where
 | normal | exit (id:Nat) | ret | goto (l:Nat)
 deriving DecidableEq,Inhabited
inductive AOut where
 | go (e:Xg) (st:St)
 | pan (v:AV)
 deriving Inhabited
def Xg.exit':Xg→Exit
 | .normal=>.normal
 | .exit id=>.exit id
 | .ret=>.ret
 | .goto l=>.goto l
def mk (r:Nat):Deferred:={ target:=.collected r,args:=#[] }
def Inj.leB (base:Nat) (ι ι':Inj):Prop:=∀k p,InB base k→ι k=some p→ι' k=some p
theorem Inj.le.leB {ι ι':Inj} (h:ι.le ι') (base:Nat):Inj.leB base ι ι':=fun k p _ hk=>h k p hk
theorem Inj.leB.refl (base:Nat) (ι:Inj):Inj.leB base ι ι:=fun _ _ _ h=>h
theorem Inj.leB.trans {base:Nat} {ι ι' ι'':Inj} (h:Inj.leB base ι ι') (k:Inj.leB base ι' ι''):Inj.leB base ι ι'':=fun o p ho hp=>k o p ho (h o p ho hp)
structure Qps (B:Nat) (D0 dl:List Nat) (a:Act):Prop where
 defs:a.defers=dl.map mk
 old:∀r∈dl,B≤r
 nd:(dl++D0).Nodup
structure Sim (P:Program) (B:Nat) (W0:World) (D0 dl:List Nat) (M:CM) (ι:Inj) (st:St) (a:Act) (W:World):Prop where
 rel:Rel P B W0 (dl++D0) M ι (sto st.objs) W
 slots:Qi M ι (lk st.slots) a.tmps
 nt:a.tmps.size=st.nt
 df:Qps B D0 dl a
 new:∀k,¬ InB st.objs.length k→ι k=none
 big:st.objs.length≤BIG
def J8 (ι:Inj) (rd:Option Nat) (r:Option Nat) (base:Nat):Prop :=
 match rd with
 | none=>r=none
 | some o=>o < base∧∃p,ι o=some p∧r=some p.blk
structure Qg7 (P:Program) (base B:Nat) (W0:World) (D0:List Nat) (M:CM) (ι:Inj) (dl:List Nat) (Q:Exit→Act→World→Prop) (out:AOut):Prop where
 go:∀e st,out=.go e st→∀dl' M' ι' a' W',CM.Grow B M M'→Inj.leB base ι ι'→dl <:+ dl'→Sim P B W0 D0 dl' M' ι' st a' W'→Q e.exit' a' W'
 pan:∀v,out=.pan v→∀dl' M' a' W' x,CM.Grow B M M'→dl <:+ dl'→Rel P B W0 (dl'++D0) M' noInj (fun _=>none) W'→Qps B D0 dl' a'→Qa M' noInj x v→Q (.panic [{ v:=x,recovered:=false }]) a' W'
def Xe (P:Program) (rd:Option Nat) (base:Nat) (c:Code) (st:St) (out:AOut):Prop :=
 ∀B W0 D0 dl M ι a W n Q r,Sim P B W0 D0 dl M ι st a W→J8 ι rd r base→Qg7 P base B W0 D0 M ι dl Q out→c.wpIn (FW r) n P Q a W
def OpX (P:Program) (rd:Option Nat) (base:Nat) (o:Oper) (st:St) (out:AOut):Prop :=
 ∀B W0 D0 dl M ι a W n Q r,Sim P B W0 D0 dl M ι st a W→J8 ι rd r base→Qg7 P base B W0 D0 M ι dl Q out→o.wpIn (FW r) n P a W (Q .normal) Q
def Qbx (P:Program) (rd:Option Nat) (base:Nat) (ops:Array Oper) (l:List Nat) (st:St) (out:AOut):Prop :=
 ∀B W0 D0 dl M ι a W n Q r,Sim P B W0 D0 dl M ι st a W→J8 ι rd r base→Qg7 P base B W0 D0 M ι dl Q out→wpOpsIn (FW r) n P ops Q l a W
def Qi0 (P:Program) (rd:Option Nat) (base:Nat) (c:Code) (st:St) (out:AOut):Prop :=
 ∃m,∀B W0 D0 dl M ι a W n Q r,Sim P B W0 D0 dl M ι st a W→J8 ι rd r base→Qg7 P base B W0 D0 M ι dl Q out→Code.roundsIn (FW r) n P c Q m a W
def AOut.normal:AOut→Bool
 | .go .normal _=>true
 | _=>false
def AOut.inBlock (id:Nat):AOut→AOut
 | .go (.exit i) st=>if Nat.beq i id then .go .normal st else .go (.exit i) st
 | out=>out
section
variable {P:Program} {rd:Option Nat} {base:Nat} {c x y:Code} {st st1 st2:St} {out:AOut} {B:Nat} {W0 W:World} {D0 dl dl1:List Nat} {M M1:CM} {ι ι1:Inj} {Q:Exit→Act→World→Prop} {a:Act} {r:Option Nat}
theorem J8.mono (h:J8 ι rd r base) (hι:Inj.leB base ι ι1):J8 ι1 rd r base:=by
 unfold J8 at *
 cases rd with
 | none=>exact h
 | some o=>obtain ⟨h1,p,h2,h3⟩:=h; exact ⟨h1,p,hι _ _ (.inl h1) h2,h3⟩
theorem Qg7.step (h:Qg7 P base B W0 D0 M ι dl Q out) (hM:CM.Grow B M M1) (hι:Inj.leB base ι ι1) (hd:dl <:+ dl1):Qg7 P base B W0 D0 M1 ι1 dl1 Q out :=
 ⟨fun e st he dl' M' ι' a' W' h1 h2 h3 h4=>h.go e st he dl' M' ι' a' W' (hM.trans h1) (hι.trans h2) (hd.trans h3) h4,
 fun v he dl' M' a' W' x h1 h2 h3 h4 h5=>h.pan v he dl' M' a' W' x (hM.trans h1) (hd.trans h2) h3 h4 h5⟩
theorem Qg7.here {e:Xg} (h:Qg7 P base B W0 D0 M ι dl Q (.go e st)) (hs:Sim P B W0 D0 dl M ι st a W):Q e.exit' a W :=
 h.go _ _ rfl dl M ι a W (.refl _ _) (.refl _ _) (List.suffix_refl _) hs
theorem Qyy:Xe P rd base .skip st (.go .normal st):=fun B W0 D0 dl M ι a W n Q r hs hr hp=>wpIn_skip (hp.here hs)
theorem Qwp {l:Nat}:Xe P rd base (.label l) st (.go .normal st):=fun B W0 D0 dl M ι a W n Q r hs hr hp=>wpIn_label (hp.here hs)
theorem Qye {id:Nat}:Xe P rd base (.exit id) st (.go (.exit id) st):=fun B W0 D0 dl M ι a W n Q r hs hr hp=>wpIn_exit (hp.here hs)
theorem Qzp {l:Nat}:Xe P rd base (.goto l) st (.go (.goto l) st):=fun B W0 D0 dl M ι a W n Q r hs hr hp=>wpIn_goto (hp.here hs)
theorem Q1o:Xe P rd base .ret st (.go .ret st):=fun B W0 D0 dl M ι a W n Q r hs hr hp=>wpIn_ret (hp.here hs)
theorem exec_seq (h1:Xe P rd base x st (.go .normal st1)) (h2:Xe P rd base y st1 out):Xe P rd base (.seq x y) st out:=by
 intro B W0 D0 dl M ι a W n Q r hs hr hp
 refine wpIn_seq (h1 B W0 D0 dl M ι a W n _ r hs hr ⟨fun e st' he dl' M' ι' a' W' g1 g2 g3 g4=>?_,fun v he=>by cases he⟩)
 cases he
 exact h2 B W0 D0 dl' M' ι' a' W' n Q r g4 (hr.mono g2) (hp.step g1 g2 g3)
theorem Qcr (h1:Xe P rd base x st out) (hn:out.normal=false):Xe P rd base (.seq x y) st out:=by
 intro B W0 D0 dl M ι a W n Q r hs hr hp
 refine wpIn_seq (h1 B W0 D0 dl M ι a W n _ r hs hr ⟨fun e st' he dl' M' ι' a' W' g1 g2 g3 g4=>?_,fun v he dl' M' a' W' x g1 g2 g3 g4 g5=>hp.pan v he dl' M' a' W' x g1 g2 g3 g4 g5⟩)
 subst he
 have:=hp.go e st' rfl dl' M' ι' a' W' g1 g2 g3 g4
 cases e with
 | normal=>simp [AOut.normal] at hn
 | exit id=>exact this
 | ret=>exact this
 | goto l=>exact this
theorem Qyv {op:Operand} {b:Bool} (hs:Qi M ι (lk st.slots) a.tmps) (he:evo (lk st.slots) op=some (.bool b)):a.eval op=.bool b:=by
 have:=Qg hs he
 generalize a.eval op=v at this
 cases this
 rfl
theorem exec_cond {op:Operand} {b:Bool} (he:evo (lk st.slots) op=some (.bool b)) (h:Xe P rd base (if b then x else y) st out):Xe P rd base (.cond op x y) st out:=by
 intro B W0 D0 dl M ι a W n Q r hs hr hp
 exact wpIn_cond (Qyv hs.slots he) (h B W0 D0 dl M ι a W n Q r hs hr hp)
theorem exec_block {id:Nat} (h:Xe P rd base c st out):Xe P rd base (.block id c) st (out.inBlock id):=by
 intro B W0 D0 dl M ι a W n Q r hs hr hp
 refine wpIn_block (h B W0 D0 dl M ι a W n _ r hs hr ⟨fun e st' he dl' M' ι' a' W' g1 g2 g3 g4=>?_,fun v he dl' M' a' W' x g1 g2 g3 g4 g5=>?_⟩)
 ·subst he
  cases e with
  | normal=>exact hp.go .normal st' rfl dl' M' ι' a' W' g1 g2 g3 g4
  | ret=>exact hp.go .ret st' rfl dl' M' ι' a' W' g1 g2 g3 g4
  | goto l=>exact hp.go (.goto l) st' rfl dl' M' ι' a' W' g1 g2 g3 g4
  | exit i =>
   show (if i=id then Q .normal a' W' else Q (.exit i) a' W')
   by_cases e:i=id
   ·rw [if_pos e]
    exact hp.go .normal st' (by simp [AOut.inBlock,e]) dl' M' ι' a' W' g1 g2 g3 g4
   ·rw [if_neg e]
    have:Nat.beq i id=false:=by rw [Bool.eq_false_iff]; intro h; exact e (Nat.eq_of_beq_eq_true h)
    exact hp.go (.exit i) st' (by simp [AOut.inBlock,this]) dl' M' ι' a' W' g1 g2 g3 g4
 ·subst he
  exact hp.pan v rfl dl' M' a' W' x g1 g2 g3 g4 g5
theorem Qgo (h:Xe P rd base c st out) (hn:out.normal=false):Qi0 P rd base c st out:=by
 refine ⟨1,?_⟩
 intro B W0 D0 dl M ι a W n Q r hs hr hp
 show c.wpIn _ n P _ a W
 refine h B W0 D0 dl M ι a W n _ r hs hr ⟨fun e st' he dl' M' ι' a' W' g1 g2 g3 g4=>?_,fun v he dl' M' a' W' x g1 g2 g3 g4 g5=>hp.pan v he dl' M' a' W' x g1 g2 g3 g4 g5⟩
 subst he
 have:=hp.go e st' rfl dl' M' ι' a' W' g1 g2 g3 g4
 cases e with
 | normal=>simp [AOut.normal] at hn
 | exit id=>exact this
 | ret=>exact this
 | goto l=>exact this
theorem loopX_next (h:Xe P rd base c st (.go .normal st1)) (hl:Qi0 P rd base c st1 out):Qi0 P rd base c st out:=by
 obtain ⟨m,hm⟩:=hl
 refine ⟨m+1,?_⟩
 intro B W0 D0 dl M ι a W n Q r hs hr hp
 show c.wpIn _ n P _ a W
 refine h B W0 D0 dl M ι a W n _ r hs hr ⟨fun e st' he dl' M' ι' a' W' g1 g2 g3 g4=>?_,fun v he=>by cases he⟩
 cases he
 exact hm B W0 D0 dl' M' ι' a' W' n Q r g4 (hr.mono g2) (hp.step g1 g2 g3)
theorem exec_loop (h:Qi0 P rd base c st out):Xe P rd base (.loop c) st out:=by
 obtain ⟨m,hm⟩:=h
 intro B W0 D0 dl M ι a W n Q r hs hr hp
 exact wpIn_loop_rounds m (hm B W0 D0 dl M ι a W n Q r hs hr hp)
section scope
variable {b:Frame} {k:List Item} {cs:List Frame} {w:World}
theorem Qu7 {c:Code}:step P (lone (b.atR a (.code (.scope c)::k)) cs w)=.next (lone (b.atR a (.code c::.inScope c::k)) cs w) :=
 step_lone_go (by simp [stepG,stepG.exec,Frame.atR])
theorem Qri {c:Code}:step P (lone (b.atR a (.inScope c::k)) cs w)=.next (lone (b.atR a k) cs w) :=
 step_lone_go (by simp [stepG,stepG.exec,Frame.atR])
def Qls (F:Fence) (n:Nat) (P:Program) (body x:Code) (Q:Exit→Act→World→Prop) (a:Act) (w:World):Prop :=
 ∀(b:Frame) (k:List Item) (cs:List Frame),b.roundOf=F.round→F.fn b.fn→F.room (cs.length+1+n) →
  ∃e a' w',Q e a' w'∧ArrivesIn (Machine.fenced P F) P (lone (b.atR a (.code x::.inScope body::k)) cs w) b k cs e a' w'
def Qny (F:Fence) (n:Nat) (P:Program) (body:Code) (Q:Exit→Act→World→Prop) (e:Exit) (a:Act) (w:World):Prop :=
 match e with
 | .goto l=>match findLabel body l with
  | some rest=>Qls F n P body rest Q a w
  | none=>Q (.goto l) a w
 | e=>Q e a w
theorem Qnq {F:Fence} {n:Nat} {body c:Code} {w:World} (h:c.wpIn F n P (Qny F n P body Q) a w):Qls F n P body c Q a w:=by
 intro b k cs hro hb hr
 obtain ⟨e,a₁,w₁,hq,harr⟩:=h b (.inScope body::k) cs hro hb hr
 cases e with
 | normal=>exact ⟨.normal,a₁,w₁,hq,StepsIn.trans harr (.one (fenced_calm hb hr rfl) Qri)⟩
 | exit id =>
  have hx:exitTo id (.inScope body::k)=exitTo id k:=by simp [exitTo]
  exact ⟨.exit id,a₁,w₁,hq,fun k' hk=>harr.1 k' (by rw [hx]; exact hk),fun hr' hk=>harr.2 hr' (by rw [hx]; exact hk)⟩
 | goto l =>
  simp only [Qny] at hq
  cases hf:findLabel body l with
  | some rest =>
   rw [hf] at hq
   obtain ⟨e₂,a₂,w₂,hq₂,harr₂⟩:=hq b k cs hro hb hr
   exact ⟨e₂,a₂,w₂,hq₂,.of_steps (harr.1 (.code rest::.inScope body::k) (by simp [gotoIn,hf])) harr₂⟩
  | none =>
   rw [hf] at hq
   have hx:gotoIn l (.inScope body::k)=gotoIn l k:=by simp [gotoIn,hf]
   exact ⟨.goto l,a₁,w₁,hq,fun k' hk=>harr.1 k' (by rw [hx]; exact hk),fun hr' hk=>harr.2 hr' (by rw [hx]; exact hk)⟩
 | ret=>exact ⟨_,a₁,w₁,hq,harr⟩
 | panic ch=>exact ⟨_,a₁,w₁,hq,harr⟩
 | outgrown=>exact ⟨_,a₁,w₁,hq,harr⟩
theorem Qww {F:Fence} {n:Nat} {c:Code} {w:World} (h:Qls F n P c c Q a w):(Code.scope c).wpIn F n P Q a w:=by
 intro b k cs hro hb hr
 have h0:StepsIn (Machine.fenced P F) P (lone (b.atR a (.code (.scope c)::k)) cs w) (lone (b.atR a (.code c::.inScope c::k)) cs w):=.one (fenced_calm hb hr rfl) Qu7
 obtain ⟨e,a₁,w₁,hq,harr⟩:=h b k cs hro hb hr
 exact ⟨e,a₁,w₁,hq,.of_steps h0 harr⟩
end scope
def Qka (P:Program) (rd:Option Nat) (base:Nat) (body x:Code) (st:St) (out:AOut):Prop :=
 ∀B W0 D0 dl M ι a W n Q r,Sim P B W0 D0 dl M ι st a W→J8 ι rd r base→Qg7 P base B W0 D0 M ι dl Q out→Qls (FW r) n P body x Q a W
def AOut.within (body:Code):AOut→Option Code
 | .go (.goto l) _=>findLabel body l
 | _=>none
theorem Qdj {body:Code} (h:Xe P rd base x st out) (hn:out.within body=none):Qka P rd base body x st out:=by
 intro B W0 D0 dl M ι a W n Q r hs hr hp
 refine Qnq (h B W0 D0 dl M ι a W n _ r hs hr ⟨fun e st' he dl' M' ι' a' W' g1 g2 g3 g4=>?_,fun v he dl' M' a' W' x g1 g2 g3 g4 g5=>hp.pan v he dl' M' a' W' x g1 g2 g3 g4 g5⟩)
 subst he
 have:=hp.go e st' rfl dl' M' ι' a' W' g1 g2 g3 g4
 cases e with
 | goto l=>simp only [AOut.within] at hn; simp only [Xg.exit',Qny,hn]; exact this
 | normal=>exact this
 | exit id=>exact this
 | ret=>exact this
theorem scopeX_goto {body rest:Code} {l:Nat} (h:Xe P rd base x st (.go (.goto l) st1)) (hf:findLabel body l=some rest) (k:Qka P rd base body rest st1 out):Qka P rd base body x st out:=by
 intro B W0 D0 dl M ι a W n Q r hs hr hp
 refine Qnq (h B W0 D0 dl M ι a W n _ r hs hr ⟨fun e st' he dl' M' ι' a' W' g1 g2 g3 g4=>?_,fun v he=>by cases he⟩)
 cases he
 simp only [Xg.exit',Qny,hf]
 exact k B W0 D0 dl' M' ι' a' W' n Q r g4 (hr.mono g2) (hp.step g1 g2 g3)
theorem exec_scope (h:Qka P rd base c c st out):Xe P rd base (.scope c) st out :=
 fun B W0 D0 dl M ι a W n Q r hs hr hp=>Qww (h B W0 D0 dl M ι a W n Q r hs hr hp)
theorem Quv {id:Nat} {ops:Array Oper} (h:Qbx P rd base ops (List.range ops.size) st out):Xe P rd base (.region id ops false) st out :=
 fun B W0 D0 dl M ι a W n Q r hs hr hp=>wpIn_region (h B W0 D0 dl M ι a W n Q r hs hr hp)
theorem Q1p {ops:Array Oper}:Qbx P rd base ops [] st (.go .normal st):=fun B W0 D0 dl M ι a W n Q r hs hr hp=>hp.here hs
end
end Go.Ab
namespace Go.Ab
open Go.RowKit
def setS:List (Nat × AV)→Nat → AV→List (Nat × AV)
 | [],d,v=>[(d,v)]
 | (k,w)::r,d,v=>if Nat.beq k d then (d,v)::r else (k,w)::setS r d v
def delS:List (Nat × AV)→Nat → List (Nat × AV)
 | [],_=>[]
 | (k,w)::r,d=>if Nat.beq k d then delS r d else (k,w)::delS r d
theorem Qca (d:Nat) (v:AV):∀(s:List (Nat × AV)) (t:Nat),lk (setS s d v) t=if d=t then some v else lk s t
 | [],t=>by
  simp only [setS,lk]
  by_cases e:d=t
  ·subst e; simp
  ·simp [e]
 | (k,w)::r,t=>by
  simp only [setS]
  by_cases h:k=d
  ·subst h
   simp only [Nat.beq_refl,if_true,lk]
   by_cases e:k=t
   ·subst e; simp
   ·simp [e]
  ·have:Nat.beq k d=false:=by rw [Bool.eq_false_iff]; exact fun x=>h (Nat.eq_of_beq_eq_true x)
   simp only [this,Bool.false_eq_true,if_false,lk,Qca d v r t]
   by_cases e:k=t
   ·subst e; simp [Ne.symm h]
   ·simp [e]
theorem Ql2 (d:Nat):∀(s:List (Nat × AV)) (t:Nat),lk (delS s d) t=if d=t then none else lk s t
 | [],t=>by simp [delS,lk]
 | (k,w)::r,t=>by
  simp only [delS]
  by_cases h:k=d
  ·subst h
   simp only [Nat.beq_refl,if_true,lk,Ql2 k r t]
   by_cases e:k=t
   ·subst e; simp
   ·simp [e]
  ·have:Nat.beq k d=false:=by rw [Bool.eq_false_iff]; exact fun x=>h (Nat.eq_of_beq_eq_true x)
   simp only [this,Bool.false_eq_true,if_false,lk,Ql2 d r t]
   by_cases e:k=t
   ·subst e; simp [Ne.symm h]
   ·simp [e]
def V2 (s:List (Nat × AV)) (nt:Nat) (dst:Option Tmp) (v:Option AV):Option (List (Nat × AV)) :=
 match dst with
 | none=>some s
 | some d=>if Nat.blt d nt then (match v with | some x=>some (setS s d x) | none=>some (delS s d)) else none
def Y5 (objs:List AObj):List (Nat × AObj)→Option (List AObj)
 | []=>some objs
 | (o,x)::es=>if x.isPlain && Nat.blt o BIG then (match objs[o]? with
   | some y=>if y.isFam then none else Y5 (objs.set o x) es
   | none=>if Nat.beq o objs.length then Y5 (objs++[x]) es else none) else none
theorem Jj:∀(es:List (Nat × AObj)) (objs objs':List AObj),Y5 objs es=some objs'→sto objs'=Sto.puts (sto objs) es∧objs.length≤objs'.length∧(objs.length≤BIG→objs'.length≤BIG)
 | [],objs,objs',h=>by cases h; exact ⟨rfl,Nat.le_refl _,fun h=>h⟩
 | (o,x)::es,objs,objs',h=>by
  simp only [Y5] at h
  split at h
  ·rename_i hc
   simp only [Bool.and_eq_true] at hc
   have hb:=Yc hc.2
   split at h
   ·rename_i y hy
    split at h
    ·cases h
    ·rename_i hf
     obtain ⟨h1,h2,h3⟩:=Jj es _ _ h
     refine ⟨?_,by simpa using h2,fun hl=>h3 (by simpa using hl)⟩
     rw [h1,Qci hy (by simpa using hf) hc.1 hb]; rfl
   ·split at h
    ·rename_i heq
     have heq:o=objs.length:=Nat.eq_of_beq_eq_true heq
     subst heq
     obtain ⟨h1,h2,h3⟩:=Jj es _ _ h
     refine ⟨?_,by simp at h2; omega,fun hl=>h3 (by simp; omega)⟩
     rw [h1,Qid hc.1 hb]; rfl
    ·cases h
  ·cases h
section
variable {P:Program} {rd:Option Nat} {base:Nat} {c x y:Code} {st st1 st2:St} {out:AOut} {B:Nat} {W0 W:World} {D0 D dl dl1:List Nat} {M M1:CM} {ι ι1:Inj} {Q:Exit→Act→World→Prop} {a:Act} {r:Option Nat} {nf:Bool} {C:FuncId→List AV→Option Xp} {o:Oper} {res:Res}
theorem Qbe {s s':List (Nat × AV)} {nt:Nat} {dst:Option Tmp} {v:Option AV} {u:Value} (h:Qi M ι (lk s) a.tmps) (hnt:a.tmps.size=nt) (hp:V2 s nt dst v=some s')
  (hv:∀x,v=some x→Qa M ι u x):Qi M ι (lk s') (a.put dst u).tmps∧(a.put dst u).tmps.size=nt∧(a.put dst u).defers=a.defers:=by
 unfold V2 at hp
 cases dst with
 | none=>cases hp; exact ⟨h,hnt,rfl⟩
 | some d =>
  simp only at hp
  split at hp
  ·rename_i hlt
   have hlt:d < nt:=by simpa [Nat.blt,Nat.lt_iff_add_one_le] using hlt
   refine ⟨?_,by simp [Act.put,hnt],rfl⟩
   intro t y ht
   have hset:(a.put (some d) u).tmps.getD t undef=if d=t then u else a.tmps.getD t undef:=by
    simp only [Act.put,Array.getD_eq_getD_getElem?]
    by_cases e:d=t
    ·subst e; simp [hnt,hlt]
    ·simp [e,Array.getElem?_setIfInBounds_ne e]
   rw [hset]
   cases v with
   | none =>
    cases hp
    rw [Ql2] at ht
    by_cases e:d=t
    ·rw [if_pos e] at ht; cases ht
    ·rw [if_neg e] at ht; rw [if_neg e]; exact h t y ht
   | some z =>
    cases hp
    rw [Qca] at ht
    by_cases e:d=t
    ·rw [if_pos e] at ht; cases ht; rw [if_pos e]; exact hv y rfl
    ·rw [if_neg e] at ht; rw [if_neg e]; exact h t y ht
  ·cases hp
theorem Qps.put {dst:Option Tmp} {u:Value} (h:Qps B D0 dl a):Qps B D0 dl (a.put dst u):=by
 refine ⟨?_,h.old,h.nd⟩
 cases dst <;> exact h.defs
noncomputable def Q5g (P:Program) (nf:Bool) (C:FuncId→List AV→Option Xp) (st:St) (o:Oper):Option AOut :=
 match Z0 P nf C (sto st.objs) st.objs.length (lk st.slots) o with
 | some (.val res)=>match Y5 st.objs res.eff,V2 st.slots st.nt o.dst res.v with
  | some objs,some slots=>if Nat.beq objs.length res.fr then some (.go .normal ⟨slots,objs,st.nt⟩) else none
  | _,_=>none
 | some (.pan v)=>some (.pan v)
 | none=>none
def Yj (ops:Array Oper) (s:Slots) (o:Oper):Option Bool :=
 match o.guard with
 | none=>some true
 | some (j,want)=>match ops[j]? with
  | some oj=>match oj.dst with
   | some d=>match s d with
    | some (.bool b)=>some (b==want)
    | some (.tup [])=>some false
    | _=>none
   | none=>none
  | none=>none
theorem Qqr {M:CM} {ι:Inj}:Qa M ι undef (.tup []):=.tup #[] [] rfl (fun j v y hv hy=>by simp at hy)
theorem Qbo {ops:Array Oper} {s:Slots} {b:Bool} (hs:Qi M ι s a.tmps) (h:Yj ops s o=some b):Region.wanted o (yielded ops a.tmps)=b:=by
 unfold Yj at h
 unfold Region.wanted
 split at h
 ·rename_i hg; rw [hg]; cases h; rfl
 ·rename_i j want hg
  rw [hg]
  simp only
  split at h
  ·rename_i oj hj
   split at h
   ·rename_i d hd
    split at h
    ·rename_i b' hb
     cases h
     have:=hs d _ hb
     generalize hv:a.tmps.getD d undef=v at this
     cases this
     have hy:yielded ops a.tmps j=some b':=by
      unfold yielded
      rw [hj]
      simp only [Option.bind_some,hd]
      have hlt:d < a.tmps.size:=by
       rcases Nat.lt_or_ge d a.tmps.size with e | e
       ·exact e
       ·simp [Array.getD_eq_getD_getElem?,Array.getElem?_eq_none e,undef] at hv
      rw [Array.getD_eq_getD_getElem?,Array.getElem?_eq_getElem hlt] at hv
      simp only [Option.getD_some] at hv
      rw [Array.getElem?_eq_getElem hlt,hv]
     rw [hy]
     cases b' <;> cases want <;> rfl
    ·rename_i hb
     cases h
     have:=hs d _ hb
     generalize hv:a.tmps.getD d undef=v at this
     cases this with
     | tup vs' _ hl hr =>
     have hy:yielded ops a.tmps j=none:=by
      unfold yielded
      rw [hj]
      simp only [Option.bind_some,hd]
      rcases Nat.lt_or_ge d a.tmps.size with e | e
      ·rw [Array.getD_eq_getD_getElem?,Array.getElem?_eq_getElem e] at hv
       simp only [Option.getD_some] at hv
       rw [Array.getElem?_eq_getElem e,hv]
      ·rw [Array.getElem?_eq_none e]
     rw [hy]
     rfl
    ·cases h
   ·cases h
  ·cases h
theorem Qgz {ops:Array Oper} {i:Nat} {l:List Nat} (ho:ops[i]?=some o) (hw:Yj ops (lk st.slots) o=some true) (h1:OpX P rd base o st (.go .normal st1)) (h2:Qbx P rd base ops l st1 out) :
  Qbx P rd base ops (i::l) st out:=by
 intro B W0 D0 dl M ι a W n Q r hs hr hp
 simp only [wpOpsIn,ho]
 rw [if_pos (Qbo hs.slots hw)]
 have:=h1 B W0 D0 dl M ι a W n (Exit.then (wpOpsIn (FW r) n P ops Q l) Q) r hs hr ⟨fun e st' he dl' M' ι' a' W' g1 g2 g3 g4=>?_,fun v he=>by cases he⟩
 ·exact this.1 |> fun h=>⟨h,by
   have h2:=this.2
   generalize (o.semAt (FW r).round a.eval).run P W=R at h2
   cases R with
   | ok x w' =>
    cases x <;> simp only [Oper.uponIn] at h2 ⊢ <;>
     first
      | exact h2
      | exact ⟨h2.1,CallsIn.mono h2.2 (fun e w'' he=>by
        cases e with
        | returned v=>exact he
        | panicked c=>exact he
        | outgrown=>obtain ⟨a0,w0,hq⟩:=he; exact ⟨a0,w0,hq⟩)⟩
      | exact ⟨h2.1,RoundIn.mono h2.2 (fun e w'' he=>by
        cases e with
        | returned v=>exact he
        | panicked c=>exact he
        | outgrown=>obtain ⟨a0,w0,hq⟩:=he; exact ⟨a0,w0,hq⟩)⟩
   | halt x w'=>cases x <;> simp only [Oper.uponIn] at h2 ⊢ <;> exact h2⟩
 ·cases he
  exact h2 B W0 D0 dl' M' ι' a' W' n Q r g4 (hr.mono g2) (hp.step g1 g2 g3)
theorem Qzg {ops:Array Oper} {i:Nat} {l:List Nat} {slots:List (Nat × AV)} (ho:ops[i]?=some o) (hw:Yj ops (lk st.slots) o=some false) (hd:V2 st.slots st.nt o.dst (some (.tup []))=some slots)
  (h2:Qbx P rd base ops l ⟨slots,st.objs,st.nt⟩ out):Qbx P rd base ops (i::l) st out:=by
 intro B W0 D0 dl M ι a W n Q r hs hr hp
 simp only [wpOpsIn,ho]
 rw [if_neg (by rw [Qbo hs.slots hw]; simp)]
 refine ⟨fun _ _=>trivial,?_⟩
 obtain ⟨k1,k2,k3⟩:=Qbe (u:=undef) hs.slots hs.nt hd (fun x hx=>by cases hx; exact Qqr)
 exact h2 B W0 D0 dl M ι _ W n Q r ⟨hs.rel,k1,k2,hs.df.put,hs.new,hs.big⟩ hr hp
end
end Go.Ab
namespace Go.Ab
open Go.RowKit
mutual
def AV.ren (f:Nat → Option Nat):AV→Option AV
 | .ref o i n=>match f o with | some o'=>some (.ref o' i n) | none=>none
 | .ptr o i c=>match f o with | some o'=>some (.ptr o' i c) | none=>none
 | .mp o=>match f o with | some o'=>some (.mp o') | none=>none
 | .yld o=>match f o with | some o'=>some (.yld o') | none=>none
 | .lin ..=>none
 | .agg cs=>match AV.renL f cs with | some x=>some (.agg x) | none=>none
 | .tup vs=>match AV.renL f vs with | some x=>some (.tup x) | none=>none
 | .fn g a b=>match AV.renL f a,AV.renL f b with | some x,some y=>some (.fn g x y) | _,_=>none
 | .ifc t v=>match AV.ren f v with | some x=>some (.ifc t x) | none=>none
 | v=>some v
def AV.renL (f:Nat → Option Nat):List AV→Option (List AV)
 | []=>some []
 | x::xs=>match AV.ren f x,AV.renL f xs with
  | some y,some ys=>some (y::ys)
  | _,_=>none
end
theorem Qcd {f:Nat → Option Nat}:∀{xs ys:List AV},AV.renL f xs=some ys→ys.length=xs.length∧∀(j:Nat) (y:AV),ys[j]?=some y→∃x,xs[j]?=some x∧x.ren f=some y
 | [],ys,h=>by simp [AV.renL] at h; subst h; exact ⟨rfl,fun j y hy=>by simp at hy⟩
 | x::xs,ys,h=>by
  simp only [AV.renL] at h
  split at h
  ·rename_i y0 ys0 h1 h2
   cases h
   obtain ⟨l,k⟩:=Qcd h2
   refine ⟨by simp [l],fun j y hy=>?_⟩
   cases j with
   | zero=>simp at hy; subst hy; exact ⟨x,rfl,h1⟩
   | succ j=>simp at hy; simpa using k j y hy
  ·cases h
theorem Qm4 {f:Nat → Option Nat} {x y:AV} (h:x.ren f=some y):y.cell=x.cell:=by
 cases x <;> simp only [AV.ren] at h <;> first | (cases h; done) | (cases h; rfl) | (split at h <;> first | (cases h; rfl) | cases h)
theorem Q3m {f:Nat → Option Nat} {x y:AV} (h:x.ren f=some y) (hs:x.sc=true):y.sc=true:=by
 cases x with
 | fn g a b =>
  simp only [AV.sc,Bool.and_eq_true,List.isEmpty_iff] at hs
  obtain ⟨rfl,rfl⟩:=hs
  simp only [AV.ren,AV.renL] at h
  cases h; rfl
 | lst fl xs=>simp only [AV.ren] at h; cases h; exact hs
 | _=>first | (simp only [AV.ren] at h; cases h; rfl) | simp [AV.sc] at hs
theorem Qs4 {f:Nat → Option Nat} {x y:AV} (h:x.ren f=some y) (hx:x=.agg x.flat ∨ x.cell=true):AV.renL f x.flat = some y.flat ∧ (y=.agg y.flat ∨ y.cell=true):=by
 rcases hx with hx | hx
 ·generalize hf:x.flat = cs at hx
  subst hx
  simp only [AV.ren] at h
  split at h
  ·rename_i z hz
   cases h
   exact ⟨by simpa [AV.flat] using hz,.inl rfl⟩
  ·cases h
 ·have hy:y.cell=true:=by rw [Qm4 h]; exact hx
  have e1:x.flat = [x]:=by cases x <;> simp_all [AV.flat,AV.cell]
  have e2:y.flat = [y]:=by cases y <;> simp_all [AV.flat,AV.cell]
  rw [e1,e2]
  exact ⟨by simp [AV.renL,h],.inr hy⟩
theorem Qi9 {f:Nat → Option Nat} {x y:AV} {w:Nat} (h:x.ren f=some y) (hx:x.shaped w):y.shaped w:=by
 obtain ⟨h1,h2⟩:=Qs4 h hx.form
 obtain ⟨l,k⟩:=Qcd h1
 refine ⟨h2,by rw [l]; exact hx.len,fun z hz=>?_⟩
 obtain ⟨j,hj⟩:=List.mem_iff_getElem?.1 hz
 obtain ⟨u,hu,hr⟩:=k j z hj
 rw [Qm4 hr]; exact hx.cells u (List.mem_of_getElem? hu)
theorem Qa.ren {M:CM} {ι ι':Inj} {f:Nat → Option Nat} (hf:∀o o' p,f o=some o'→ι o=some p→ι' o'=some p) {v:Value} {x y:AV} (h:Qa M ι v x) (hr:x.ren f=some y):Qa M ι' v y:=by
 induction h generalizing ι' y f with
 | undef h=>simp only [AV.ren] at hr; cases hr; exact .undef h
 | bool b=>simp only [AV.ren] at hr; cases hr; exact .bool b
 | int k n=>simp only [AV.ren] at hr; cases hr; exact .int k n
 | str s=>simp only [AV.ren] at hr; cases hr; exact .str s
 | nilp=>simp only [AV.ren] at hr; cases hr; exact .nilp
 | nils=>simp only [AV.ren] at hr; cases hr; exact .nils
 | nilf=>simp only [AV.ren] at hr; cases hr; exact .nilf
 | nilm=>simp only [AV.ren] at hr; cases hr; exact .nilm
 | nili=>simp only [AV.ren] at hr; cases hr; exact .nili
 | emp a=>simp only [AV.ren] at hr; cases hr; exact .emp a
 | emn a c=>simp only [AV.ren] at hr; cases hr; exact .emn a c
 | lin o i n h ih=>simp only [AV.ren] at hr; cases hr
 | lst0 a fl=>simp only [AV.ren] at hr; cases hr; exact .lst0 a fl
 | ref0 a o p hp hz =>
  simp only [AV.ren] at hr
  split at hr
  ·rename_i o' ho; cases hr; exact .ref0 a o' p (hf _ _ _ ho hp) hz
  ·cases hr
 | fz b off cs g hcs hm hr' ih=>simp only [AV.ren] at hr; cases hr; exact .fz b off cs g hcs hm hr'
 | lst b off cap w fl xs g hcap hfl hc hm hr' ih=>simp only [AV.ren] at hr; cases hr; exact .lst b off cap w fl xs g hcap hfl hc hm hr'
 | ref o i n p off cap hp hi hcap hoff =>
  simp only [AV.ren] at hr
  split at hr
  ·rename_i o' ho; cases hr; exact .ref o' i n p off cap (hf _ _ _ ho hp) hi hcap hoff
  ·cases hr
 | ptr o i c p hp =>
  simp only [AV.ren] at hr
  split at hr
  ·rename_i o' ho; cases hr; exact .ptr o' i c p (hf _ _ _ ho hp)
  ·cases hr
 | mp o p hp =>
  simp only [AV.ren] at hr
  split at hr
  ·rename_i o' ho; cases hr; exact .mp o' p (hf _ _ _ ho hp)
  ·cases hr
 | yld o p hp =>
  simp only [AV.ren] at hr
  split at hr
  ·rename_i o' ho; cases hr; exact .yld o' p (hf _ _ _ ho hp)
  ·cases hr
 | ifc t v' v hr' ih =>
  simp only [AV.ren] at hr
  split at hr
  ·rename_i z hz; cases hr; exact .ifc t v' z (ih hf hz)
  ·cases hr
 | fn g first' caps' first caps hy hm h1 h2 hr1 hr2 ih1 ih2 =>
  simp only [AV.ren] at hr
  split at hr
  ·rename_i x1 x2 e1 e2
   cases hr
   obtain ⟨l1,k1⟩:=Qcd e1
   obtain ⟨l2,k2⟩:=Qcd e2
   refine .fn g first' caps' x1 x2 hy hm (by omega) (by omega) (fun j v y a b=>?_) (fun j v y a b=>?_)
   ·obtain ⟨z,hz,hzr⟩:=k1 j y b; exact ih1 j v z a hz hf hzr
   ·obtain ⟨z,hz,hzr⟩:=k2 j y b; exact ih2 j v z a hz hf hzr
  ·cases hr
 | agg cs' cs h hc hr' ih =>
  simp only [AV.ren] at hr
  split at hr
  ·rename_i x1 e1
   cases hr
   obtain ⟨l1,k1⟩:=Qcd e1
   refine .agg cs' x1 (by omega) (fun y hy=>?_) (fun j v y a b=>?_)
   ·obtain ⟨j,hj⟩:=List.mem_iff_getElem?.1 hy
    obtain ⟨z,hz,hzr⟩:=k1 j y hj
    rw [Qm4 hzr]; exact hc z (List.mem_of_getElem? hz)
   ·obtain ⟨z,hz,hzr⟩:=k1 j y b; exact ih j v z a hz hf hzr
  ·cases hr
 | tup vs' vs h hr' ih =>
  simp only [AV.ren] at hr
  split at hr
  ·rename_i x1 e1
   cases hr
   obtain ⟨l1,k1⟩:=Qcd e1
   refine .tup vs' x1 (by omega) (fun j v y a b=>?_)
   obtain ⟨z,hz,hzr⟩:=k1 j y b; exact ih j v z a hz hf hzr
  ·cases hr
def Qna (f:Nat → Option Nat):List (Nat × AV)→Option (List (Nat × AV))
 | []=>some []
 | (t,x)::r=>match x.ren f,Qna f r with
  | some y,some ys=>some ((t,y)::ys)
  | _,_=>none
theorem Qvu {f:Nat → Option Nat}:∀{s s':List (Nat × AV)},Qna f s=some s'→∀t y,lk s' t=some y→∃x,lk s t=some x∧x.ren f=some y
 | [],s',h,t,y,hy=>by simp [Qna] at h; subst h; simp [lk] at hy
 | (k,x)::r,s',h,t,y,hy=>by
  simp only [Qna] at h
  split at h
  ·rename_i y0 ys0 h1 h2
   cases h
   simp only [lk] at hy ⊢
   split at hy
   ·rename_i e; cases hy; rw [if_pos e]; exact ⟨x,rfl,h1⟩
   ·rename_i e; rw [if_neg e]; exact Qvu h2 t y hy
  ·cases h
def AObj.ren (f:Nat → Option Nat):AObj→Option AObj
 | .row bx ro nr fl w xs=>if nr then some (.row bx ro nr fl w xs) else match AV.renL f xs with | some ys=>some (.row bx ro nr fl w ys) | none=>none
 | .loop fn slots ps as bd st pe=>match Qna f slots with | some s=>some (.loop fn s ps as bd st pe) | none=>none
 | .fam w fl xs=>some (.fam w fl xs)
 | .refs j xs=>match f j with | some j'=>some (.refs j' xs) | none=>none
 | .dead=>some .dead
def AV.renT (f:Nat → Option Nat):AV→Option AV
 | .lin o i n=>match f o with | some o'=>some (.lin o' i n) | none=>none
 | x=>x.ren f
def Qdm (f:Nat → Option Nat) (s:List (Nat × AV)):List Nat → List (Nat × AV)
 | []=>[]
 | t::ts=>match lk s t with
  | some x=>match x.renT f with
   | some y=>(t,y)::Qdm f s ts
   | none=>Qdm f s ts
  | none=>Qdm f s ts
theorem Qfi {f:Nat → Option Nat} {s:List (Nat × AV)}:∀(ts:List Nat) (t:Nat) (y:AV),lk (Qdm f s ts) t=some y→∃x,lk s t=some x∧x.renT f=some y
 | [],t,y,h=>by simp [Qdm,lk] at h
 | k::ts,t,y,h=>by
  simp only [Qdm] at h
  split at h
  ·rename_i x hx
   split at h
   ·rename_i z hz
    simp only [lk] at h
    split at h
    ·rename_i e; cases h; have:=Nat.eq_of_beq_eq_true e; subst this; exact ⟨x,hx,hz⟩
    ·exact Qfi ts t y h
   ·exact Qfi ts t y h
  ·exact Qfi ts t y h
def idx (k:Nat):Nat → List Nat → Option Nat
 | _,[]=>none
 | i,x::xs=>if Nat.beq x k then some i else idx k (i+1) xs
theorem Qxz (k:Nat):∀(xs:List Nat) (i j:Nat),idx k i xs=some j→i≤j∧xs[j - i]?=some k
 | [],i,j,h=>by simp [idx] at h
 | x::xs,i,j,h=>by
  simp only [idx] at h
  split at h
  ·rename_i e; cases h; have:=Nat.eq_of_beq_eq_true e; subst this; simp
  ·obtain ⟨h1,h2⟩:=Qxz k xs (i+1) j h
   refine ⟨by omega,?_⟩
   rw [show j - i=(j - (i+1))+1 by omega]; simpa using h2
def Jv (f:Nat → Option Nat) (objs:List AObj):List Nat → Option (List AObj)
 | []=>some []
 | k::ks=>match objs[k]? with
  | some x=>match x.ren f,Jv f objs ks with
   | some y,some ys=>some (y::ys)
   | _,_=>none
  | none=>none
theorem Qep {f:Nat → Option Nat} {objs:List AObj}:∀{ks:List Nat} {os:List AObj},Jv f objs ks=some os→os.length=ks.length∧∀(j:Nat) (y:AObj),os[j]?=some y→∃k x,ks[j]?=some k∧objs[k]?=some x∧x.ren f=some y
 | [],os,h=>by simp [Jv] at h; subst h; exact ⟨rfl,fun j y hy=>by simp at hy⟩
 | k::ks,os,h=>by
  simp only [Jv] at h
  split at h
  ·rename_i x hx
   split at h
   ·rename_i y0 ys0 h1 h2
    cases h
    obtain ⟨l,g⟩:=Qep h2
    refine ⟨by simp [l],fun j y hy=>?_⟩
    cases j with
    | zero=>simp at hy; subst hy; exact ⟨k,x,rfl,hx,h1⟩
    | succ j=>simp at hy; simpa using g j y hy
   ·cases h
  ·cases h
def Qko:List Nat → Bool
 | []=>true
 | x::xs=>!(xs.any fun y=>Nat.beq x y) && Qko xs
theorem Qg8:∀{xs:List Nat},Qko xs=true→xs.Nodup
 | [],_=>List.nodup_nil
 | x::xs,h=>by
  simp only [Qko,Bool.and_eq_true,Bool.not_eq_true',List.any_eq_false] at h
  refine List.nodup_cons.2 ⟨fun hm=>?_,Qg8 h.2⟩
  exact absurd (Nat.beq_refl x) (by simpa using h.1 x hm)
def ιkeep (ι:Inj) (keep:List Nat):Inj:=fun j=>keep[j]?.bind ι
theorem Qh9 {keep:List Nat} {o o':Nat} (h:idx o 0 keep=some o'):keep[o']?=some o:=by
 obtain ⟨_,h3⟩:=Qxz _ _ _ _ h
 simpa using h3
theorem ιkeep_idx {ι:Inj} {keep:List Nat}:∀o o' p,idx o 0 keep=some o'→ι o=some p→ιkeep ι keep o'=some p:=by
 intro o o' p h1 h2
 simp [ιkeep,Qh9 h1,h2]
open Classical in
noncomputable def gK (keep:List Nat) (o:Nat):Option Nat :=
 if Nat.blt o BIG then keep[o]? else if h:∃(r j i k:Nat),o=fid j i∧keep[j]?=some k∧r=fid k i then some h.choose else none
theorem Qld {keep:List Nat} {o:Nat} (h:o < BIG):gK keep o=keep[o]?:=by unfold gK; rw [if_pos (Qn2 h)]
theorem Qn1 {keep:List Nat} {j i k:Nat} (h:keep[j]?=some k):gK keep (fid j i)=some (fid k i):=by
 have hex:∃(r j' i' k:Nat),fid j i=fid j' i'∧keep[j']?=some k∧r=fid k i':=⟨_,j,i,k,rfl,h,rfl⟩
 unfold gK
 rw [if_neg (by rw [Qj8 (Zu j i)]; simp),dif_pos hex]
 obtain ⟨j',i',k',e1,e2,e3⟩:=hex.choose_spec
 obtain ⟨rfl,rfl⟩:=Y4 e1
 rw [h] at e2; cases e2
 rw [e3]
theorem Ql0 {keep:List Nat} {o k:Nat} (h:gK keep o=some k):(o < BIG∧keep[o]?=some k)∨∃j i k',o=fid j i∧keep[j]?=some k'∧k=fid k' i:=by
 rcases Nat.lt_or_ge o BIG with c | c
 ·exact .inl ⟨c,by rw [←Qld c]; exact h⟩
 ·right
  unfold gK at h
  rw [if_neg (by rw [Qj8 c]; simp)] at h
  split at h
  ·rename_i hx
   obtain ⟨j,i,k',e1,e2,e3⟩:=hx.choose_spec
   simp only [Option.some.injEq] at h
   exact ⟨j,i,k',e1,e2,by rw [←h]; exact e3⟩
  ·cases h
noncomputable def ιK (ι:Inj) (keep:List Nat):Inj:=fun o=>(gK keep o).bind ι
section
variable {P:Program} {B:Nat} {W0 W:World} {D:List Nat} {M:CM} {ι:Inj}
theorem TrE.same {ι':Inj} {x:AV} (h:x.nr=true):TrE M ι ι' x x :=
 ⟨fun _ h=>h,fun h=>h,fun j y hj=>⟨y,hj,fun v hv=>hv.of_nr (AV.nr_flat h y (List.mem_of_getElem? hj)),fun v hv=>hv⟩⟩
theorem TrO.sameRow {ι':Inj} {bx ro nr fl:Bool} {w:Nat} {xs:List AV} (h:AV.nrL xs=true):TrO M ι ι' (.row bx ro nr fl w xs) (.row bx ro nr fl w xs) :=
 .row bx ro nr fl w xs xs rfl (fun _ h=>h) (fun i x x' h1 h2=>by rw [h1] at h2; cases h2; exact TrE.same (Qx.1 h x (List.mem_of_getElem? h1)))
theorem Qfm {v:Value} {o i n:Nat} (h:Qa M ι v (.ref o i n)):∃p,ι o=some p∧∀(ι':Inj) o',ι' o'=some p→Qa M ι' v (.ref o' i n):=by
 cases h with
 | ref0 _ _ p hp hc=>exact ⟨p,hp,fun ι' o' h=>.ref0 _ _ p h hc⟩
 | ref _ _ _ p off cap hp h1 h2 h3=>exact ⟨p,hp,fun ι' o' h=>.ref _ _ _ p off cap h h1 h2 h3⟩
theorem Qa.renT {ι':Inj} {f:Nat → Option Nat} (hf:∀o o' p,f o=some o'→ι o=some p→ι' o'=some p) (hfam:∀j j' i p,f j=some j'→ι (fid j i)=some p→ι' (fid j' i)=some p) {v:Value} {x y:AV} (h:Qa M ι v x) (hr:x.renT f=some y):Qa M ι' v y:=by
 cases x with
 | lin o i n =>
  simp only [AV.renT] at hr
  split at hr
  ·rename_i o' ho
   cases hr
   cases h with
   | lin _ _ _ h =>
    obtain ⟨p,hp,hq⟩:=Qfm h
    exact .lin _ _ _ (hq _ _ (hfam o o' i p ho hp))
  ·cases hr
 | _=>exact h.ren hf hr
theorem Qyu {σ:Sto} {ι':Inj} {f:Nat → Option Nat} {k:Nat} {x y:AObj} (h:Rel P B W0 D M ι σ W) (hk:σ k=some x.plain) (hr:x.ren f=some y) (hf:∀o o' p,f o=some o'→ι o=some p→ι' o'=some p)
  (hfam:∀j j' i p,f j=some j'→y.isPlain=false→ι (fid j i)=some p→ι' (fid j' i)=some p) (hd:y.plain≠.dead):TrO M ι ι' x.plain y.plain:=by
 cases x with
 | dead=>cases hr; exact absurd rfl hd
 | fam w fl xs=>cases hr; exact absurd rfl hd
 | loop fn sl ps as bd st pe =>
  simp only [AObj.ren] at hr
  split at hr
  ·rename_i s hs
   cases hr
   refine .loop _ _ _ _ _ _ _ _ (fun t y' hy'=>?_)
   obtain ⟨z,hz,hzr⟩:=Qvu hs t y' hy'
   exact ⟨z,hz,fun v hv=>hv.ren hf hzr⟩
  ·cases hr
 | refs j xs =>
  simp only [AObj.ren] at hr
  split at hr
  ·rename_i j' hj'
   cases hr
   refine .row _ _ _ _ _ _ _ (by simp [Y0]) (fun h=>by cases h) (fun i z z' h1 h2=>?_)
   rw [Va] at h1 h2
   cases hl:xs[i]? with
   | none=>rw [hl] at h1; cases h1
   | some l =>
    rw [hl] at h1 h2
    simp only [Option.map_some,Nat.zero_add,Option.some.injEq] at h1 h2
    subst h1; subst h2
    refine ⟨fun w hw=>Qi9 (f:=fun _=>some (fid j' i)) rfl hw,fun h=>(by cases h),fun c y' hc=>?_⟩
    cases c with
    | succ c=>simp [AV.flat] at hc
    | zero =>
     simp only [AV.flat,List.getElem?_cons_zero,Option.some.injEq] at hc
     subst hc
     refine ⟨_,rfl,fun v hv=>?_,fun v hv=>?_⟩
     ·obtain ⟨p,hp,hq⟩:=Qfm hv
      exact hq _ _ (hfam j j' i p hj' rfl hp)
     ·obtain ⟨p,hp,_⟩:=Qfm hv
      cases hp
  ·cases hr
 | row bx ro nr fl w ys =>
  obtain ⟨p0,hp0,hro⟩:=h.row k bx ro nr fl w ys hk
  simp only [AObj.ren] at hr
  by_cases hn:nr=true
  ·rw [if_pos hn] at hr; cases hr
   exact TrO.sameRow (hro.nr hn)
  ·rw [if_neg hn] at hr
   split at hr
   ·rename_i zs hz
    cases hr
    obtain ⟨lx,ax⟩:=Qcd hz
    refine .row bx ro nr fl w ys zs lx (fun e=>absurd e hn) (fun i z z' h1 h2=>?_)
    obtain ⟨z0,g1,g2⟩:=ax i z' h2
    rw [h1] at g1; cases g1
    have hsh:=hro.shaped z (List.mem_of_getElem? h1)
    obtain ⟨hfl1,_⟩:=Qs4 g2 hsh.form
    obtain ⟨_,k2⟩:=Qcd hfl1
    refine ⟨fun w' hw=>Qi9 g2 hw,fun hs=>?_,fun c u' hc=>?_⟩
    ·rw [Qb7]
     intro u' hu'
     obtain ⟨c,hc⟩:=List.mem_iff_getElem?.1 hu'
     obtain ⟨u,hu,hur⟩:=k2 c u' hc
     exact Q3m hur (Qb7.1 hs u (List.mem_of_getElem? hu))
    ·obtain ⟨u,hu,hur⟩:=k2 c u' hc
     exact ⟨u,hu,fun v hv=>hv.ren hf hur,fun v hv=>hv.ren (fun o o' p _ hp=>by cases hp) hur⟩
   ·cases hr
theorem Qle {keep:List Nat} (hnd:keep.Nodup) {o o' k:Nat} (h1:keep[o]?=some k) (h2:keep[o']?=some k):o=o':=by
 obtain ⟨l1,e1⟩:=List.getElem?_eq_some_iff.1 h1
 obtain ⟨l2,e2⟩:=List.getElem?_eq_some_iff.1 h2
 exact (List.getElem_inj hnd).1 (e1.trans e2.symm)
theorem TrO.alive {ι':Inj} {x y:AObj} (h:TrO M ι ι' x y):x≠.dead:=by cases h <;> simp
theorem Rel.gcP {objs os:List AObj} {keep:List Nat} (h:Rel P B W0 D M ι (sto objs) W) (hb:objs.length≤BIG) (hg:Jv (fun k=>idx k 0 keep) objs keep=some os) (hnd:keep.Nodup) (hok:∀x∈os,x.isPlain=true) :
  Rel P B W0 D M (ιkeep ι keep) (fun k=>os[k]?) W:=by
 obtain ⟨hl,hat⟩:=Qep hg
 have hobj:∀o x',os[o]?=some x'→x'≠.dead→∃k x,keep[o]?=some k∧sto objs k=some x∧TrO M ι (ιkeep ι keep) x x':=fun o x' ho hd=>by
  obtain ⟨k,x,h1,h2,h3⟩:=hat o _ ho
  have hk:k < BIG:=Nat.lt_of_lt_of_le (List.getElem?_eq_some_iff.1 h2).1 hb
  have hpl:=hok x' (List.mem_of_getElem? ho)
  have hs:sto objs k=some x.plain:=by rw [Zr hk,h2]; rfl
  refine ⟨k,_,h1,hs,?_⟩
  have:=Qyu (ι':=ιkeep ι keep) h hs h3 (fun o o' p=>ιkeep_idx o o' p) (fun j j' i p _ e=>by rw [hpl] at e; cases e) (by rw [Qfz hpl]; exact hd)
  rwa [Qfz hpl] at this
 refine h.via (fun o=>keep[o]?) (fun o o' k h1 h2=>Qle hnd h1 h2) (fun o k hk=>by simp [ιkeep,hk]) hobj (fun o ho=>?_)
 cases hx:os[o]? with
 | none=>exact .inl rfl
 | some x' =>
  right
  by_cases hd:x'=.dead
  ·rw [hd]
  ·obtain ⟨k,x,h1,h2,h3⟩:=hobj o x' hx hd
   have:ι k=none:=by simpa [ιkeep,h1] using ho
   rcases h.used k this with e | e
   ·rw [h2] at e; cases e
   ·rw [h2] at e; cases e; exact absurd rfl h3.alive
theorem Rel.gc {objs os:List AObj} {keep:List Nat} (h:Rel P B W0 D M ι (sto objs) W) (hb:objs.length≤BIG) (hg:Jv (fun k=>idx k 0 keep) objs keep=some os) (hnd:keep.Nodup) (hkb:keep.length≤BIG) :
  Rel P B W0 D M (ιK ι keep) (sto os) W:=by
 obtain ⟨hl,hat⟩:=Qep hg
 have hlow:∀o k,keep[o]?=some k→k < BIG:=fun o k hk=>by
  have ho:o < os.length:=by rw [hl]; exact (List.getElem?_eq_some_iff.1 hk).1
  obtain ⟨k',x,h1,h2,_⟩:=hat o _ (List.getElem?_eq_getElem ho)
  rw [hk] at h1; cases h1
  exact Nat.lt_of_lt_of_le (List.getElem?_eq_some_iff.1 h2).1 hb
 have hf:∀o o' p,idx o 0 keep=some o'→ι o=some p→ιK ι keep o'=some p:=fun o o' p h1 h2=>by
  have h3:=Qh9 h1
  have:o' < BIG:=Nat.lt_of_lt_of_le (List.getElem?_eq_some_iff.1 h3).1 hkb
  simp [ιK,Qld this,h3,h2]
 have hfam:∀j j' i p,idx j 0 keep=some j'→ι (fid j i)=some p→ιK ι keep (fid j' i)=some p:=fun j j' i p h1 h2=>by
  simp [ιK,Qn1 (Qh9 h1),h2]
 have hobj:∀o x',sto os o=some x'→x'≠.dead→∃k x,gK keep o=some k∧sto objs k=some x∧TrO M ι (ιK ι keep) x x':=fun o x' ho hd=>by
  rcases Yg os o with ⟨c,e⟩ | ⟨c,⟨j,i,w,fl,xs,l,rfl,e2,e3,e4⟩ | e⟩
  ·rw [e] at ho
   cases hy:os[o]? with
   | none=>rw [hy] at ho; cases ho
   | some y =>
    rw [hy] at ho
    simp only [Option.map_some,Option.some.injEq] at ho
    subst ho
    obtain ⟨k,x,h1,h2,h3⟩:=hat o _ hy
    have hs:sto objs k=some x.plain:=by rw [Zr (hlow o k h1),h2]; rfl
    exact ⟨k,_,by rw [Qld c]; exact h1,hs,Qyu h hs h3 hf (fun j j' i p h1 _ h2=>hfam j j' i p h1 h2) hd⟩
  ·rw [e4] at ho; cases ho
   obtain ⟨k,x,h1,h2,h3⟩:=hat j _ e2
   have hx:x=.fam w fl xs:=by
    cases x with
    | fam _ _ _=>simpa [AObj.ren] using h3
    | dead=>cases h3
    | row bx ro nr fl' w' ys=>simp only [AObj.ren] at h3; split at h3 <;> first | cases h3 | (split at h3 <;> cases h3)
    | loop _ _ _ _ _ _ _=>simp only [AObj.ren] at h3; split at h3 <;> cases h3
    | refs _ _=>simp only [AObj.ren] at h3; split at h3 <;> cases h3
   subst hx
   have hs:=Xb h2 e3
   obtain ⟨_,_,hro⟩:=h.row _ _ _ _ _ _ _ hs
   exact ⟨_,_,Qn1 h1,hs,TrO.sameRow (hro.nr rfl)⟩
  ·rw [e] at ho; cases ho
 refine h.via (gK keep) (fun o o' k h1 h2=>?_) (fun o k hk=>by simp [ιK,hk]) hobj (fun o ho=>?_)
 ·rcases Ql0 h1 with ⟨c,e⟩ | ⟨j,i,k',rfl,e,rfl⟩
  ·rcases Ql0 h2 with ⟨c',e'⟩ | ⟨j',i',k',rfl,e',rfl⟩
   ·exact Qle hnd e e'
   ·have:=hlow o _ e; have:=Zu k' i'; omega
  ·rcases Ql0 h2 with ⟨c',e'⟩ | ⟨j',i',k'',rfl,e',e2⟩
   ·have:=hlow o' _ e'; have:=Zu k' i; omega
   ·obtain ⟨rfl,rfl⟩:=Y4 e2
    rw [Qle hnd e e']
 ·cases hx:sto os o with
  | none=>exact .inl rfl
  | some x' =>
   right
   by_cases hd:x'=.dead
   ·rw [hd]
   ·obtain ⟨k,x,h1,h2,h3⟩:=hobj o x' hx hd
    have:ι k=none:=by simpa [ιK,h1] using ho
    rcases h.used k this with e | e
    ·rw [h2] at e; cases e
    ·rw [h2] at e; cases e; exact absurd rfl h3.alive
def Qet (base:Nat) (live keep:List Nat) (st:St):Option St :=
 let ks:=List.range base++keep
 if Qko ks && Nat.ble ks.length BIG then
  match Jv (fun k=>idx k 0 ks) st.objs ks with
  | some os=>some ⟨Qdm (fun k=>idx k 0 ks) st.slots live,os,st.nt⟩
  | none=>none
 else none
theorem Sim.gc {base:Nat} {live keep:List Nat} {st st':St} {D0 dl:List Nat} {a:Act} (h:Sim P B W0 D0 dl M ι st a W) (hg:Qet base live keep st=some st'):∃ι',Inj.leB base ι ι'∧Sim P B W0 D0 dl M ι' st' a W:=by
 unfold Qet at hg
 simp only at hg
 split at hg
 ·rename_i hnd
  simp only [Bool.and_eq_true] at hnd
  obtain ⟨hnd,hkb⟩:=hnd
  have hkb:(List.range base++keep).length≤BIG:=Nat.le_of_ble_eq_true hkb
  split at hg
  ·rename_i os hos
   cases hg
   obtain ⟨hl,hat⟩:=Qep hos
   have hlb:∀k,k < base→(List.range base++keep)[k]?=some k:=fun k hk=>by
    simp [List.getElem?_append_left (show k < (List.range base).length by simpa using hk),hk]
   have hbase:base≤BIG:=by simp at hkb; omega
   refine ⟨ιK ι (List.range base++keep),fun k p hk hp=>?_,⟨h.rel.gc h.big hos (Qg8 hnd) hkb,fun t y hy=>?_,h.nt,h.df,fun k hk=>?_,by show os.length≤BIG; omega⟩⟩
   ·rcases hk with hk | ⟨j,i,hj,rfl⟩
    ·simp only [ιK,Qld (show k < BIG by omega),hlb k hk,Option.bind_some,hp]
    ·simp only [ιK,Qn1 (hlb j hj),Option.bind_some,hp]
   ·obtain ⟨x,hx,hxr⟩:=Qfi live t y hy
    refine (h.slots t x hx).renT (fun o o' p h1 h2=>?_) (fun j j' i p h1 h2=>by simp [ιK,Qn1 (Qh9 h1),h2]) hxr
    have h3:=Qh9 h1
    have:o' < BIG:=Nat.lt_of_lt_of_le (List.getElem?_eq_some_iff.1 h3).1 hkb
    simp only [ιK,Qld this,h3,Option.bind_some,h2]
   ·have hk:¬ InB os.length k:=hk
    cases hx:ιK ι (List.range base++keep) k with
    | none=>rfl
    | some p =>
     exfalso
     refine hk ?_
     unfold ιK at hx
     cases hgk:gK (List.range base++keep) k with
     | none=>rw [hgk] at hx; cases hx
     | some k' =>
      rcases Ql0 hgk with ⟨_,e⟩ | ⟨j,i,k2,rfl,e,_⟩
      ·exact .inl (by rw [hl]; exact (List.getElem?_eq_some_iff.1 e).1)
      ·exact .inr ⟨j,i,by rw [hl]; exact (List.getElem?_eq_some_iff.1 e).1,rfl⟩
  ·cases hg
 ·cases hg
end
end Go.Ab
namespace Go.Ab
open Go.RowKit
section
variable {P:Program} {B:Nat} {W0 W:World} {D:List Nat} {M:CM} {ι:Inj} {σ:Sto}
theorem Rel.take {r:Nat} (h:Rel P B W0 (r::D) M ι σ W) (hnd:(r::D).Nodup) (hB:B≤r):Rel P B W0 D M ι σ (W.putObj r (.deferred none)):=by
 have hr:=h.defs r (by simp)
 have hc:=fun q=>Qmp (o':=.deferred none) hr rfl rfl q
 have hf:=fun q=>Qjw (o':=.deferred none) hr rfl rfl q
 refine ⟨by simpa using h.size,Qku _ h.below hB,fun d hd=>?_,⟨fun b o v hv=>by rw [hc]; exact h.agree b o v hv,fun b x hm=>by
  obtain ⟨k1,k2,k3⟩:=h.agree.keep b x hm
  refine ⟨?_,k2,k3⟩
  rw [World.putObj_heap_other (fun e=>by subst e; rw [hr] at k1; cases k1; exact k3 _ rfl)]; exact k1,fun b o v hm=>by simp only [hc,hf]; exact h.agree.keepC b o v hm⟩,fun o bx nr fl w xs p k ho hp hk=>by simp only [hf]; exact h.cool o bx nr fl w xs p k ho hp hk,?_,?_,h.apart,h.loops,h.used⟩
 ·have:d≠r:=fun e=>by subst e; exact (List.nodup_cons.1 hnd).1 hd
  rw [World.putObj_heap_other this]; exact h.defs d (by simp [hd])
 ·intro o bx ro nr fl w xs ho
  obtain ⟨p,hp,hr'⟩:=h.row o bx ro nr fl w xs ho
  exact ⟨p,hp,hr'.world hc⟩
 ·intro o fn sl ps as bd st pe ho
  obtain ⟨p,nt,hp,hnt,hb,tmps,hsz,hrec,hsl⟩:=h.loop o fn sl ps as bd st pe ho
  refine ⟨p,nt,hp,hnt,hb,tmps,hsz,?_,hsl⟩
  rw [World.putObj_heap_other (fun e=>by rw [e,hr] at hrec; exact Qmf hrec.symm)]; exact hrec
theorem Rel.mem (h:Rel P B W0 D M ι σ W) {D':List Nat} (hd:∀r∈D',r∈D):Rel P B W0 D' M ι σ W :=
 ⟨h.size,h.below,fun r hr=>h.defs r (hd r hr),h.agree,h.cool,h.row,h.loop,h.apart,h.loops,h.used⟩
theorem Rel.allocDef (h:Rel P B W0 D M ι σ W):Rel P B W0 (W.heap.size::D) M ι σ (W.alloc (.deferred (some []))):=by
 have h':=h.allocObj (.deferred (some [])) rfl
 refine ⟨h'.size,h'.below,fun r hr=>?_,h'.agree,h'.cool,h'.row,h'.loop,h'.apart,h'.loops,h'.used⟩
 rcases List.mem_cons.1 hr with rfl | hr
 ·exact World.alloc_heap_new W _
 ·exact h'.defs r hr
theorem Rel.allocLoop (h:Rel P B W0 D M ι σ W) {o:Nat} (ho:ι o=none) {fn:FuncId} {nt:Nat} {tmps:Array Value} (hsz:tmps.size=nt) {sl:List (Nat × AV)} (hsl:Qi M ι (lk sl) tmps) (ps:Array Tmp) (as bd:Code) (d:Nat) :
  Rel P B W0 D M (ι.put o ⟨W.heap.size,d,0,0⟩) (σ.put o (.loop nt sl ps.toList as bd .ready none)) (W.alloc (.loop { state:=.ready,pending:=none,fn,tmps,params:=ps,assign:=as,body:=bd,defers:=d })):=by
 have:=h.allocRec ho (fn:=fn) hsz hsl ps as bd d .ready none
 rwa [Qcc (by simp)] at this
theorem Rel.setLoop (h:Rel P B W0 D M ι σ W) {o:Nat} {nt:Nat} {sl:List (Nat × AV)} {ps:List Tmp} {as bd:Code} {st:LoopState} {pe:Option Code} {p:Place}
  (hσ:σ o=some (.loop nt sl ps as bd st pe)) (hp:ι o=some p) (hst:st≠.exhausted) (st':LoopState) (pe':Option Code) (hst':st'≠.exhausted) :
  ∃(tmps:Array Value) (fn:FuncId),tmps.size=nt∧W.heap[p.blk]?=some (.loop { state:=st,pending:=pe,fn,tmps,params:=ps.toArray,assign:=as,body:=bd,defers:=p.base })∧Qi M ι (lk sl) tmps ∧
   Rel P B W0 D M ι (σ.put o (.loop nt sl ps as bd st' pe')) (W.putObj p.blk (.loop { state:=st',pending:=pe',fn,tmps,params:=ps.toArray,assign:=as,body:=bd,defers:=p.base })):=by
 obtain ⟨q,fn,hq,hnt,hB,tmps,hsz,hrec,hsl⟩:=h.loop o nt sl ps as bd st pe hσ
 rw [hp] at hq; cases hq
 refine ⟨tmps,fn,hsz,by rw [hrec,Qcc hst],hsl,?_⟩
 have:=h.setRec hσ hp (x:=.loop nt sl ps as bd st' pe') (ob:=Qb4 { state:=st',pending:=pe',fn,tmps,params:=ps.toArray,assign:=as,body:=bd,defers:=p.base }) Qc3 (.inr ⟨_,_,_,_,_,_,_,fn,tmps,rfl,rfl,hsz,hsl⟩)
 rw [Qcc hst'] at this
 exact this
theorem Rel.endLoop (h:Rel P B W0 D M ι σ W) {o:Nat} {nt:Nat} {sl:List (Nat × AV)} {ps:List Tmp} {as bd:Code} {st:LoopState} {pe:Option Code} {p:Place}
  (hσ:σ o=some (.loop nt sl ps as bd st pe)) (hp:ι o=some p) (hst:st≠.exhausted) :
  ∃(tmps:Array Value) (fn:FuncId),tmps.size=nt∧W.heap[p.blk]?=some (.loop { state:=st,pending:=pe,fn,tmps,params:=ps.toArray,assign:=as,body:=bd,defers:=p.base })∧Qi M ι (lk sl) tmps ∧
   Rel P B W0 D M ι (σ.put o .dead) (W.putObj p.blk (.loop { state:=.exhausted,pending:=pe,fn,tmps,params:=ps.toArray,assign:=as,body:=bd,defers:=p.base })):=by
 obtain ⟨q,fn,hq,hnt,hB,tmps,hsz,hrec,hsl⟩:=h.loop o nt sl ps as bd st pe hσ
 rw [hp] at hq; cases hq
 exact ⟨tmps,fn,hsz,by rw [hrec,Qcc hst],hsl,h.setRec hσ hp rfl (.inl rfl)⟩
end
end Go.Ab
