/- Rules on plain values. No conditions. -/
import Derived.Test.YtjhfdojgaoapcaaDoorEng6
import Derived.Test.YtjhfdojgaoapcaaDoorEng5
set_option linter.all false
namespace Go.Ab
open Go.RowKit
def CallIn (P:Program) (f:FuncId) (az:List AV) (objs:List AObj) (r:AV) (objs':List AObj):Prop :=
 ∀(B:Nat) (W0 W:World) (D:List Nat) (M:CM) (ι:Inj) (vs:Array Value),Rel P B W0 D M ι (sto objs) W→D.Nodup→(∀k,¬ InB objs.length k→ι k=none)→objs.length≤BIG→vs.size=az.length →
  (∀(j:Nat) (v:Value) (a:AV),vs[j]?=some v→az[j]?=some a→RepV M ι v a) →
  Calls P f vs W fun e W'=>∃v M' ι',e=.returned v∧CM.Grow B M M'∧ι.le ι'∧Rel P B W0 D M' ι' (sto objs') W'∧(∀k,¬ InB objs'.length k→ι' k=none)∧objs'.length≤BIG∧RepV M' ι' v r
theorem opX_callIn {P:Program} {rd:Option Nat} {base:Nat} {o:Oper} {st:St} {g:Operand} {args:Array Operand} {ts:Array TypeId} {f:FuncId} {fn:Func} {first caps az:List AV} {x:AV} {objs':List AObj} {slots:List (Nat × AV)}
  (ho:o.op=.call { callee:=.value g,args,argTypes:=ts }) (hg:evo (lk st.slots) g=some (.fn (.func f) first caps)) (has:evos (lk st.slots) args.toList=some az)
  (hf:P.funcs[f]?=some fn) (hb:fn.body.isSome=true) (hn:(fn.name == "runtime.NumGoroutine")=false)
  (h:CallIn P f (first++az++caps) st.objs x objs') (hput:putD st.slots st.nt o.dst (some x)=some slots) :
  OpX P rd base o st (.go .normal ⟨slots,objs',st.nt⟩):=by
 intro B W0 D0 dl M ι a W n Q r hs hr' hp
 have hgv:=evo_sound hs.slots hg
 generalize hgu:a.eval g=gu at hgv
 cases hgv with
 | fn _ first' caps' _ _ hy hm h1 h2 hr1 hr2 =>
 obtain ⟨l1,e1⟩:=evos_sound hs.slots has
 refine ⟨fun _ _=>trivial,?_⟩
 rw [Oper.semAt_eq _ _ _ (by rw [ho]; simp)]
 have hrun:(execOp a.eval o).run P W=.ok (.enter f (first'++args.map a.eval++caps')) W:=by
  simp only [execOp,ho,resolve,hgu,Deferred.ofValue,Sem.run_bind,Sem.run_pure,Result.andThen_ok,invoke]
  exact run_callFunc' hf hb hn _ W
 rw [hrun,Oper.uponIn_enter]
 have hrep:∀(j:Nat) (v:Value) (y:AV),(first'++args.map a.eval++caps')[j]?=some v→(first++az++caps)[j]?=some y→RepV M ι v y :=
  list3_at h1 (by simpa using l1.symm) h2 hr1 (fun j v y hv hy=>by
   simp only [Array.getElem?_map,Option.map_eq_some_iff] at hv
   obtain ⟨w,hw,rfl⟩:=hv
   exact (e1 j w y (by simpa using hw) hy).2) hr2
 refine ⟨fun hd=>by simp [FW,Fence.wide] at hd,callsIn_FW ((h B W0 W (dl++D0) M ι _ hs.rel hs.df.nd hs.new hs.big (by simp [h1,h2,l1]) hrep).mono ?_)⟩
 rintro e W' ⟨v,M',ι',rfl,g1,g2,g3,g4,g4b,g5⟩
 obtain ⟨k1,k2,k3⟩:=slotsOk_put (u:=v) (hs.slots.mono g1.le g2) hs.nt hput (fun y hy=>by cases hy; exact g5)
 exact hp.go .normal _ rfl dl M' ι' _ W' g1 (g2.leB base) (List.suffix_refl _) ⟨g3,k1,k2,hs.df.put,g4,g4b⟩
def putRes (ops:Array Oper) (i:Nat) (st:St) (x:AV) (objs':List AObj):Option St :=
 match ops[i]? with
 | some o=>match putD st.slots st.nt o.dst (some x) with
  | some slots=>some ⟨slots,objs',st.nt⟩
  | none=>none
 | none=>none
section
variable {P:Program} {rd:Option Nat} {base:Nat} {ops:Array Oper} {st:St} {Φ:AOut→Prop} {i:Nat}
theorem callInR {f:FuncId} {fn:Func} {as0:List AV} {x:AV} {objs':List AObj} {S:St} (hi:callInfo ops i st=some (f,as0)) (hf:P.funcs[f]?=some fn) (hb:fn.body.isSome=true) (hn:(fn.name == "runtime.NumGoroutine")=false)
  (h:CallIn P f as0 st.objs x objs') (hS:putRes ops i st x objs'=some S) (k:RW P rd base ops none (i+1) S Φ):RW P rd base ops none i st Φ:=by
 obtain ⟨o,g,args,ts,first,caps,as1,ho,hop,hg,has,rfl⟩:=callInfo_spec hi
 obtain ⟨h1,h2⟩:=opAt_spec ho
 unfold putRes at hS
 rw [h1] at hS
 simp only at hS
 split at hS
 ·rename_i slots hp
  cases hS
  obtain ⟨out2,k1,k2⟩:=k
  have hi':i < ops.size:=(Array.getElem?_eq_some_iff.1 h1).1
  refine ⟨out2,?_,k2⟩
  rw [restI_cons hi']
  exact opsX_cons h1 h2 (opX_callIn hop hg has hf hb hn h hp) k1
 ·cases hS
end
end Go.Ab
namespace Go.Ab
open Go.RowKit
section
variable {P:Program} {ops:Array Oper} {G:Array Bool→Nat → Foot} {Q:Slots→Sto→Prop} {s:Slots} {σ:Sto}
end
section
variable {P:Program} {ops:Array Oper} {G:Array Bool→Nat → Foot} {s s':Slots} {σ:Sto} {B:Nat} {W0 W:World} {D:List Nat} {M:CM} {ι:Inj} {a:Act} {Q:Exit→Act→World→Prop} {QA:Slots→Sto→Prop}
end
section
variable {P:Program} {rd:Option Nat} {base:Nat} {ops ops0:Array Oper} {st st1 st2 st3:St}
theorem Compat.symm {F G:Foot} (h:Compat F G):Compat G F:=⟨h.b,h.a,fun e he e' he'=>Ne.symm (h.c e' he' e he)⟩
end
section
variable {P:Program} {rd:Option Nat} {base:Nat} {ops:Array Oper} {st st1 Sa Sb S3 S:St} {Φ:AOut→Prop} {i:Nat}
end
end Go.Ab
namespace Go.Ab
open Go.RowKit
section
variable {P:Program} {base:Nat} {st st':St}
end
theorem lst_loosen {M:CM} {ι:Inj} {v:Value} {fl:Bool} {xs:List AV} (hs:List LK) (h:RepV M ι v (.lst fl xs)):RepV M ι v (.lst false (xs.map (loosen1 hs))):=by
 cases h with
 | lst0=>exact .lst0 _ _
 | lst b off cap w _ _ f hcap hfl hc hM hr =>
  have key:∀(i j:Nat) (x y:AV),(xs.map (loosen1 hs))[i]?=some x→x.flat[j]?=some y→∃x0 y0 h,xs[i]?=some x0∧x0.flat[j]?=some y0∧y=LK.ap h y0:=fun i j x y hi hj=>by
   rw [List.getElem?_map,Option.map_eq_some_iff] at hi
   obtain ⟨x0,e1,rfl⟩:=hi
   have hsh:=hc x0 (List.mem_of_getElem? e1)
   obtain ⟨hs',e2,_⟩:=loosen1_flat hs (x:=x0) hsh.form
   rw [e2] at hj
   obtain ⟨h,y0,e3,e4⟩:=zipL_at hs' _ j y hj
   exact ⟨x0,y0,h,e1,e3,e4⟩
  have:=RepV.lst (M:=M) (ι:=ι) b off cap w false (xs.map (loosen1 hs)) f (by simpa using hcap) (fun h=>by cases h) (fun x hx=>by
   simp only [List.mem_map] at hx
   obtain ⟨z,hz,rfl⟩:=hx
   exact loosen1_shaped hs (hc z hz)) (fun i j x y hi hj=>by
   obtain ⟨x0,y0,h,e1,e2,_⟩:=key i j x y hi hj
   exact hM i j x0 y0 e1 e2) (fun i j x y hi hj=>by
   obtain ⟨x0,y0,h,e1,e2,rfl⟩:=key i j x y hi hj
   exact LK.ap_rep h (hr i j x0 y0 e1 e2))
  simpa using this
def Weak (x y:AV):Prop:=∀(M:CM) (v:Value),RepV M noInj v x→RepV M noInj v y
theorem Weak.refl {x:AV}:Weak x x:=fun _ _ h=>h
theorem Weak.lst {fl:Bool} {xs ys:List AV} (hs:List LK) (h:xs.map (loosen1 hs)=ys):Weak (.lst fl xs) (.lst false ys):=fun M v hr=>by subst h; exact lst_loosen hs hr
inductive Weaks:List AV→List AV→Prop
 | nil:Weaks [] []
 | cons {x y:AV} {xs ys:List AV} (h:Weak x y) (hc:y.cell=x.cell) (k:Weaks xs ys):Weaks (x::xs) (y::ys)
theorem Weaks.at {xs ys:List AV} (h:Weaks xs ys):xs.length=ys.length∧∀(j:Nat) (y:AV),ys[j]?=some y→∃x,xs[j]?=some x∧Weak x y∧y.cell=x.cell:=by
 induction h with
 | nil=>exact ⟨rfl,fun j y h=>by simp at h⟩
 | cons h hc k ih =>
  refine ⟨by simp [ih.1],fun j y hj=>?_⟩
  cases j with
  | zero=>simp at hj; subst hj; exact ⟨_,rfl,h,hc⟩
  | succ j=>exact ih.2 j y (by simpa using hj)
theorem Weak.agg {xs ys:List AV} (h:Weaks xs ys):Weak (.agg xs) (.agg ys):=fun M v hr=>by
 cases hr with
 | agg cs' _ hsz hc hrr =>
  obtain ⟨hl,hat⟩:=h.at
  refine .agg cs' _ (by rw [←hl]; exact hsz) (fun y hy=>?_) (fun j v y hv hy=>?_)
  ·obtain ⟨j,hj,rfl⟩:=List.mem_iff_getElem.1 hy
   obtain ⟨x,e1,_,e3⟩:=hat j _ (List.getElem?_eq_getElem hj)
   rw [e3]; exact hc x (List.mem_of_getElem? e1)
  ·obtain ⟨x,e1,e2,_⟩:=hat j y hy
   exact e2 M v (hrr j v x hv e1)
section
variable {P:Program} {rd:Option Nat} {base:Nat} {ops:Array Oper} {st S:St} {Φ:AOut→Prop} {d:Option (List Sk)} {i:Nat}
end
end Go.Ab
namespace Go.Ab
open Go.RowKit
def simpO:AObj→Bool
 | .row _ _ _ _ _ _=>true
 | .loop _ _ _ _ _ _ _=>true
 | .dead=>true
 | _=>false
def liveO:AObj→Bool
 | .row _ _ _ _ _ _=>true
 | .loop _ _ _ _ _ _ _=>true
 | _=>false
def OkIn (N:Nat):AObj→Prop
 | .row _ _ nr _ _ xs=>nr=true∨∀x∈xs,∀y∈x.flat,∀o∈y.ids,o < N
 | .loop _ sl _ _ _ _ _=>∀p∈sl,∀o∈p.2.ids,o < N
 | .dead=>True
 | _=>False
def okInB (N:Nat):AObj→Bool
 | .row _ _ nr _ _ xs=>nr || xs.all fun x=>x.flat.all fun y=>y.ids.all fun o=>Nat.blt o N
 | .loop _ sl _ _ _ _ _=>sl.all fun p=>p.2.ids.all fun o=>Nat.blt o N
 | .dead=>true
 | _=>false
theorem okIn_of {N:Nat} {x:AObj} (h:okInB N x=true):OkIn N x:=by
 cases x with
 | row bx ro nr fl w xs =>
  simp only [okInB,Bool.or_eq_true,List.all_eq_true] at h
  exact h.imp id fun h x hx y hy o ho=>of_blt (h x hx y hy o ho)
 | loop nt sl ps as bd st pe =>
  simp only [okInB,List.all_eq_true] at h
  exact fun p hp o ho=>of_blt (h p hp o ho)
 | dead=>trivial
 | fam=>cases h
 | refs=>cases h
theorem okIn_simp {N:Nat} {x:AObj} (h:OkIn N x):simpO x=true:=by cases x <;> first | rfl | exact h.elim
theorem inner_none {objs:List AObj} (h:∀x∈objs,simpO x=true) (id:Nat):innerOf objs id=none:=by
 unfold innerOf
 rw [dif_neg]
 rintro ⟨y,k,i,w,fl,xs,l,_,hk,_⟩
 have:=h _ (List.mem_of_getElem? hk)
 cases this
theorem plain_simp {x:AObj} (h:simpO x=true):x.plain=x:=by cases x <;> first | rfl | cases h
theorem sto_simp {objs:List AObj} (h:∀x∈objs,simpO x=true) (hb:objs.length≤BIG) (id:Nat):sto objs id=objs[id]?:=by
 by_cases hi:id < BIG
 ·rw [sto_low hi]
  cases e:objs[id]? with
  | none=>rfl
  | some x=>simp [plain_simp (h x (List.mem_of_getElem? e))]
 ·rw [sto_high (by omega),inner_none h,List.getElem?_eq_none (by omega)]
theorem lk_mem:∀{l:List (Nat × AV)} {t:Nat} {x:AV},lk l t=some x→∃p∈l,p.2=x
 | [],t,x,h=>by cases h
 | (k,y)::r,t,x,h=>by
  unfold lk at h
  split at h
  ·cases h; exact ⟨(k,y),by simp,rfl⟩
  ·obtain ⟨p,hp,e⟩:=lk_mem h
   exact ⟨p,List.mem_cons_of_mem _ hp,e⟩
section
variable {P:Program} {B N:Nat} {W0 W:World} {D:List Nat} {M:CM} {ι:Inj} {σ:Sto}
def HidB (N:Nat) (ι:Inj) (σ:Sto) (b:Nat):Prop:=∃k p fn sl ps as bd st pe,¬ k < N∧σ k=some (.loop fn sl ps as bd st pe)∧ι k=some p∧p.blk=b
def HidC (N:Nat) (ι:Inj) (σ:Sto) (b o:Nat):Prop:=∃k p bx nr fl w xs j,¬ k < N∧σ k=some (.row bx false nr fl w xs)∧ι k=some p∧p.blk=b∧o=p.base+j∧j < p.cap*w
open Classical in
noncomputable def hidM (N:Nat) (ι:Inj) (σ:Sto) (W:World) (M:CM):CM :=
 ⟨M.f,M.ok,fun b=>if HidB N ι σ b then W.heap[b]? else M.blk b,fun b o=>if HidC N ι σ b o then W.cell? ⟨b,o,none⟩ else M.kc b o⟩
theorem hidB_spec (h:Rel P B W0 D M ι σ W) {b:Nat} (hb:HidB N ι σ b):M.blk b=none∧∃l,W.heap[b]?=some (lobj l):=by
 obtain ⟨k,p,fn,sl,ps,as,bd,st,pe,_,hk,hp',rfl⟩:=hb
 obtain ⟨q,nt1,hq,hb1,_,tmps,_,hrec,_⟩:=h.loop k _ _ _ _ _ _ _ hk
 rw [hp'] at hq; cases hq
 exact ⟨hb1,_,hrec⟩
theorem hidC_spec (h:Rel P B W0 D M ι σ W) {b o:Nat} (hb:HidC N ι σ b o):M.kc b o=none∧M b o=none∧(∃v,W.cell? ⟨b,o,none⟩=some v)∧W.frozen? ⟨b,o,none⟩=false:=by
 obtain ⟨k,p,bx,nr,fl,w,xs,j,_,hk,hp',rfl,rfl,hj⟩:=hb
 obtain ⟨q,hq,hr⟩:=h.row k _ _ _ _ _ _ hk
 rw [hp'] at hq; cases hq
 have c:=h.cool k bx nr fl w xs p j hk hp' hj
 obtain ⟨o1,o2⟩:=(hr.own rfl).2 j hj
 exact ⟨c.2,o2,Option.isSome_iff_exists.1 o1,c.1⟩
open Classical in
theorem Rel.hide (h:Rel P B W0 D M ι σ W) (hA:∀k x,k < N→σ k=some x→OkIn N x) :
  Rel P B W0 D (hidM N ι σ W M) (fun k=>if k < N then ι k else none) (fun k=>if k < N then σ k else none) W:=by
 have hM1:M.le (hidM N ι σ W M):=fun _ _ _ h=>h
 have blk1:∀b,(hidM N ι σ W M).blk b=if HidB N ι σ b then W.heap[b]? else M.blk b:=fun b=>rfl
 have kc1:∀b o,(hidM N ι σ W M).kc b o=if HidC N ι σ b o then W.cell? ⟨b,o,none⟩ else M.kc b o:=fun b o=>rfl
 have low:∀{k:Nat} {x:AObj},(if k < N then σ k else none)=some x→k < N∧σ k=some x:=fun {k x} hk=>by
  by_cases e:k < N
  ·rw [if_pos e] at hk; exact ⟨e,hk⟩
  ·rw [if_neg e] at hk; cases hk
 have lowi:∀{k:Nat} {p:Place},k < N→(if k < N then ι k else none)=some p→ι k=some p:=fun e hk=>by rw [if_pos e] at hk; exact hk
 have rep1:∀{v:Value} {y:AV},(∀o∈y.ids,o < N)→RepV M ι v y→RepV (hidM N ι σ W M) (fun k=>if k < N then ι k else none) v y:=fun hi h=>(h.congr fun o ho=>if_pos (hi o ho)).mono hM1 (Inj.le_refl _)
 refine ⟨h.size,h.below,h.defs,⟨h.agree.cell,fun b x hb=>?_,fun b o v hb=>?_⟩,fun o bx nr fl w xs p k ho hp' hk=>?_,fun o bx ro nr fl w xs ho=>?_,fun o fn sl ps as bd st pe ho=>?_,fun o o' bx nr fl w xs bx' nr' fl' w' xs' p p' hne h1 h2 h3 h4=>?_,fun o o' fn sl ps as bd st pe fn' sl' ps' as' bd' st' pe' p p' hne h1 h2 h3 h4=>?_,fun o ho=>?_⟩
 ·rw [blk1] at hb
  by_cases hd:HidB N ι σ b
  ·rw [if_pos hd] at hb
   obtain ⟨_,l,hl⟩:=hidB_spec h hd
   rw [hl] at hb; cases hb
   exact ⟨hl,fun c e f=>lobj_ne_cells c e f,fun d he=>lobj_ne_def (x:=d) (by rw [he])⟩
  ·rw [if_neg hd] at hb; exact h.agree.keep b x hb
 ·rw [kc1] at hb
  by_cases hd:HidC N ι σ b o
  ·rw [if_pos hd] at hb
   exact ⟨hb,(hidC_spec h hd).2.2.2⟩
  ·rw [if_neg hd] at hb; exact h.agree.keepC b o v hb
 ·obtain ⟨l1,ho⟩:=low ho
  have hp':=lowi l1 hp'
  have c:=h.cool o bx nr fl w xs p k ho hp' hk
  refine ⟨c.1,?_⟩
  rw [kc1,if_neg]
  ·exact c.2
  ·rintro ⟨k2,p2,bx2,nr2,fl2,w2,xs2,j2,n2,hk2,hp2,hb2,ho2,hj2⟩
   obtain ⟨q,hq,hr⟩:=h.row o _ _ _ _ _ _ ho
   rw [hp'] at hq; cases hq
   obtain ⟨q,hq,hr2⟩:=h.row k2 _ _ _ _ _ _ hk2
   rw [hp2] at hq; cases hq
   have hpw:=hr.pw
   have hpw2:=hr2.pw
   rcases h.apart o k2 _ _ _ _ _ _ _ _ _ _ _ _ (fun e=>n2 (e ▸ l1)) ho hk2 hp' hp2 with a | a | a
   ·exact a hb2.symm
   ·rw [hpw] at a; omega
   ·rw [hpw2] at a; omega
 ·obtain ⟨l1,ho⟩:=low ho
  obtain ⟨p,hp',hrow⟩:=h.row o bx ro nr fl w xs ho
  refine ⟨p,by rw [if_pos l1]; exact hp',hrow.pw,hrow.pos,hrow.cpos,hrow.len,hrow.shaped,hrow.nr,hrow.fl,fun i j x y hi hj=>?_,hrow.own,fun hro i j x y hi hj=>?_⟩
  ·obtain ⟨v,hv,hrep⟩:=hrow.cells i j x y hi hj
   refine ⟨v,hv,?_⟩
   rcases hA o _ l1 ho with hn | hn
   ·exact (hrep.of_nr (AV.nr_flat (nrL_mem.1 (hrow.nr hn) x (List.mem_of_getElem? hi)) y (List.mem_of_getElem? hj))).mono hM1 (Inj.le_refl _)
   ·exact rep1 (hn x (List.mem_of_getElem? hi) y (List.mem_of_getElem? hj)) hrep
  ·obtain ⟨v,hv,hrep⟩:=hrow.imm hro i j x y hi hj
   exact ⟨v,hv,hrep.mono hM1 (Inj.le_refl _)⟩
 ·obtain ⟨l1,ho⟩:=low ho
  obtain ⟨p,nt1,hp',hb1,hB1,tmps,hsz,hrec,hsl1⟩:=h.loop o fn sl ps as bd st pe ho
  refine ⟨p,nt1,by rw [if_pos l1]; exact hp',?_,hB1,tmps,hsz,hrec,fun t x hx=>?_⟩
  ·rw [blk1,if_neg]
   ·exact hb1
   ·rintro ⟨k,q,fn',sl',ps',as',bd',st',pe',hk,hk',hq,hqb⟩
    exact h.loops o k _ _ _ _ _ _ _ _ _ _ _ _ _ _ _ _ (fun e=>hk (e ▸ l1)) ho hk' hp' hq hqb.symm
  ·obtain ⟨q,hq,rfl⟩:=lk_mem hx
   exact rep1 (hA o _ l1 ho q hq) (hsl1 t _ hx)
 ·obtain ⟨l1,h1⟩:=low h1
  obtain ⟨l2,h2⟩:=low h2
  exact h.apart o o' bx nr fl w xs bx' nr' fl' w' xs' p p' hne h1 h2 (lowi l1 h3) (lowi l2 h4)
 ·obtain ⟨l1,h1⟩:=low h1
  obtain ⟨l2,h2⟩:=low h2
  exact h.loops o o' fn sl ps as bd st pe fn' sl' ps' as' bd' st' pe' p p' hne h1 h2 (lowi l1 h3) (lowi l2 h4)
 ·by_cases l1:o < N
  ·rw [if_pos l1] at ho ⊢; exact h.used o ho
  ·exact .inl (if_neg l1)
open Classical in
theorem Rel.unhide {W':World} {M':CM} {ι':Inj} {σ':Sto} (h:Rel P B W0 D M ι σ W) (h':Rel P B W0 D M' ι' (fun k=>if k < N then σ' k else none) W') (hG:CM.Grow B (hidM N ι σ W M) M') (hι:∀k,k < N→ι' k=ι k)
  (hA:∀k x,k < N→σ' k=some x→OkIn N x) :
  ∃M2:CM,CM.Grow B M M2∧M'.le M2∧Rel P B W0 D M2 ι (fun k=>if k < N then σ' k else σ k) W':=by
 let M2:CM:=⟨M'.f,M'.ok,M.blk,M.kc⟩
 have hM2:M'.le M2:=fun _ _ _ h=>h
 have hMM2:M.le M2:=fun b o v h=>hG.le b o v h
 have blk':∀b,M'.blk b=if HidB N ι σ b then W.heap[b]? else M.blk b:=fun b=>by rw [hG.keep]; rfl
 have kc':∀b o,M'.kc b o=if HidC N ι σ b o then W.cell? ⟨b,o,none⟩ else M.kc b o:=fun b o=>by rw [hG.keepC]; rfl
 have notB:∀b,M'.blk b=none→¬ HidB N ι σ b∧M.blk b=none:=fun b hb=>by
  rw [blk'] at hb
  by_cases hd:HidB N ι σ b
  ·rw [if_pos hd] at hb
   obtain ⟨_,l,hl⟩:=hidB_spec h hd
   rw [hl] at hb; cases hb
  ·rw [if_neg hd] at hb; exact ⟨hd,hb⟩
 have notC:∀b o,M'.kc b o=none→¬ HidC N ι σ b o∧M.kc b o=none:=fun b o hb=>by
  rw [kc'] at hb
  by_cases hd:HidC N ι σ b o
  ·rw [if_pos hd] at hb
   obtain ⟨_,_,⟨v,hv⟩,_⟩:=hidC_spec h hd
   rw [hv] at hb; cases hb
  ·rw [if_neg hd] at hb; exact ⟨hd,hb⟩
 have low:∀{k:Nat} {x:AObj},k < N→(if k < N then σ' k else σ k)=some x→(if k < N then σ' k else none)=some x∧σ' k=some x:=fun e hk=>by
  rw [if_pos e] at hk ⊢; exact ⟨hk,hk⟩
 have high:∀{k:Nat} {x:AObj},¬ k < N→(if k < N then σ' k else σ k)=some x→σ k=some x:=fun e hk=>by rw [if_neg e] at hk; exact hk
 have repl:∀{v:Value} {y:AV},(∀o∈y.ids,o < N)→RepV M' ι' v y→RepV M2 ι v y:=fun hi h=>(h.congr fun o ho=>(hι o (hi o ho)).symm).mono hM2 (Inj.le_refl _)
 refine ⟨M2,⟨hMM2,hG.old,rfl,rfl,fun b o v hv=>?_⟩,hM2,h'.size,h'.below,h'.defs,⟨h'.agree.cell,fun b x hb=>?_,fun b o v hb=>?_⟩,fun o bx nr fl w xs p k ho hp' hk=>?_,fun o bx ro nr fl w xs ho=>?_,fun o fn sl ps as bd st pe ho=>?_,fun o o' bx nr fl w xs bx' nr' fl' w' xs' p p' hne h1 h2 h3 h4=>?_,fun o o' fn sl ps as bd st pe fn' sl' ps' as' bd' st' pe' p p' hne h1 h2 h3 h4=>?_,fun o ho=>?_⟩
 ·by_cases hd:HidC N ι σ b o
  ·rw [(hidC_spec h hd).1] at hv; cases hv
  ·exact hG.keepF b o v (by show (if HidC N ι σ b o then _ else _)=_; rw [if_neg hd]; exact hv)
 ·have hb':M.blk b=some x:=hb
  refine h'.agree.keep b x ?_
  rw [blk']
  by_cases hd:HidB N ι σ b
  ·rw [(hidB_spec h hd).1] at hb'; cases hb'
  ·rw [if_neg hd]; exact hb'
 ·have hb':M.kc b o=some v:=hb
  refine h'.agree.keepC b o v ?_
  rw [kc']
  by_cases hd:HidC N ι σ b o
  ·rw [(hidC_spec h hd).1] at hb'; cases hb'
  ·rw [if_neg hd]; exact hb'
 ·by_cases hl:o < N
  ·obtain ⟨ho1,ho2⟩:=low hl ho
   have c:=h'.cool o bx nr fl w xs p k ho1 (by rw [hι o hl]; exact hp') hk
   exact ⟨c.1,(notC _ _ c.2).2⟩
  ·have ho:=high hl ho
   have hd:HidC N ι σ p.blk (p.base+k):=⟨o,p,bx,nr,fl,w,xs,k,hl,ho,hp',rfl,rfl,hk⟩
   obtain ⟨s1,s2,⟨v,hv⟩,s4⟩:=hidC_spec h hd
   exact ⟨(h'.agree.keepC _ _ v (by rw [kc',if_pos hd]; exact hv)).2,s1⟩
 ·by_cases hl:o < N
  ·obtain ⟨ho1,ho2⟩:=low hl ho
   obtain ⟨p,hp',hrow⟩:=h'.row o bx ro nr fl w xs ho1
   refine ⟨p,by rw [←hι o hl]; exact hp',hrow.pw,hrow.pos,hrow.cpos,hrow.len,hrow.shaped,hrow.nr,hrow.fl,fun i j x y hi hj=>?_,hrow.own,fun hro i j x y hi hj=>?_⟩
   ·obtain ⟨v,hv,hrep⟩:=hrow.cells i j x y hi hj
    refine ⟨v,hv,?_⟩
    rcases hA o _ hl ho2 with hn | hn
    ·exact (hrep.of_nr (AV.nr_flat (nrL_mem.1 (hrow.nr hn) x (List.mem_of_getElem? hi)) y (List.mem_of_getElem? hj))).mono hM2 (Inj.le_refl _)
    ·exact repl (hn x (List.mem_of_getElem? hi) y (List.mem_of_getElem? hj)) hrep
   ·obtain ⟨v,hv,hrep⟩:=hrow.imm hro i j x y hi hj
    exact ⟨v,hv,hrep.mono hM2 (Inj.le_refl _)⟩
  ·have ho:=high hl ho
   obtain ⟨p,hp',hrow⟩:=h.row o bx ro nr fl w xs ho
   cases ro with
   | true =>
    have himm:∀(i j:Nat) (x y:AV),xs[i]?=some x→x.flat[j]?=some y→∃v,M2 p.blk (p.base+i*w+j)=some v∧RepV M2 noInj v y:=fun i j x y hi hj=>by
     obtain ⟨v,hv,hrep⟩:=hrow.imm rfl i j x y hi hj
     exact ⟨v,hMM2 _ _ _ hv,hrep.mono hMM2 (Inj.le_refl _)⟩
    refine ⟨p,hp',hrow.pw,hrow.pos,hrow.cpos,hrow.len,hrow.shaped,hrow.nr,hrow.fl,fun i j x y hi hj=>?_,fun h=>(by cases h),fun _=>himm⟩
    obtain ⟨v,hv,hrep⟩:=himm i j x y hi hj
    exact ⟨v,h'.agree.cell _ _ _ hv,hrep.mono (CM.le_refl _) (Inj.noInj_le _)⟩
   | false =>
    have kept:∀k,k < p.cap*w→∀v,W.cell? ⟨p.blk,p.base+k,none⟩=some v→W'.cell? ⟨p.blk,p.base+k,none⟩=some v:=fun k hk v hv =>
     (h'.agree.keepC _ _ v (by rw [kc',if_pos ⟨o,p,bx,nr,fl,w,xs,k,hl,ho,hp',rfl,rfl,hk⟩]; exact hv)).1
    refine ⟨p,hp',hrow.pw,hrow.pos,hrow.cpos,hrow.len,hrow.shaped,hrow.nr,hrow.fl,fun i j x y hi hj=>?_,fun _=>⟨(hrow.own rfl).1,fun k hk=>?_⟩,fun h=>(by cases h)⟩
    ·obtain ⟨v,hv,hrep⟩:=hrow.cells i j x y hi hj
     have hi':=(List.getElem?_eq_some_iff.1 hi).1
     have hj':=(List.getElem?_eq_some_iff.1 hj).1
     rw [(hrow.shaped x (List.mem_of_getElem? hi)).len] at hj'
     have hlt:i*w+j < p.cap*w:=by
      have h1:(i+1)*w≤p.cap*w:=Nat.mul_le_mul_right _ (by have:=hrow.len; omega)
      rw [Nat.succ_mul] at h1; omega
     have:=kept (i*w+j) hlt v (by rw [←Nat.add_assoc]; exact hv)
     exact ⟨v,by rw [Nat.add_assoc]; exact this,hrep.mono hMM2 (Inj.le_refl _)⟩
    ·obtain ⟨o1,o2⟩:=(hrow.own rfl).2 k hk
     obtain ⟨v,hv⟩:=Option.isSome_iff_exists.1 o1
     refine ⟨by rw [kept k hk v hv]; rfl,?_⟩
     have hd:HidC N ι σ p.blk (p.base+k):=⟨o,p,bx,nr,fl,w,xs,k,hl,ho,hp',rfl,rfl,hk⟩
     have:=hG.keepF p.blk (p.base+k) v (by show (if HidC N ι σ p.blk (p.base+k) then _ else _)=_; rw [if_pos hd]; exact hv)
     exact this.trans o2
 ·by_cases hl:o < N
  ·obtain ⟨ho1,ho2⟩:=low hl ho
   obtain ⟨p,nt1,hp',hb1,hB1,tmps,hsz,hrec,hsl1⟩:=h'.loop o fn sl ps as bd st pe ho1
   refine ⟨p,nt1,by rw [←hι o hl]; exact hp',(notB _ hb1).2,hB1,tmps,hsz,hrec,fun t x hx=>?_⟩
   obtain ⟨q,hq,rfl⟩:=lk_mem hx
   exact repl (hA o _ hl ho2 q hq) (hsl1 t _ hx)
  ·have ho:=high hl ho
   obtain ⟨p,nt1,hp',hb1,hB1,tmps,hsz,hrec,hsl1⟩:=h.loop o fn sl ps as bd st pe ho
   refine ⟨p,nt1,hp',hb1,hB1,tmps,hsz,?_,fun t x hx=>(hsl1 t x hx).mono hMM2 (Inj.le_refl _)⟩
   exact (h'.agree.keep p.blk _ (by rw [blk',if_pos ⟨o,p,fn,sl,ps,as,bd,st,pe,hl,ho,hp',rfl⟩]; exact hrec)).1
 ·have cellOf:∀{k bx nr fl w xs q},¬ k < N→σ k=some (.row bx false nr fl w xs)→ι k=some q→∀j,j < q.cap*q.w→HidC N ι σ q.blk (q.base+j):=fun {k bx nr fl w xs q} hk h1 hq j hj=>by
   obtain ⟨q',hq',hr⟩:=h.row k _ _ _ _ _ _ h1
   rw [hq] at hq'; cases hq'
   exact ⟨k,q,bx,nr,fl,w,xs,j,hk,h1,hq,rfl,rfl,by rw [←hr.pw]; exact hj⟩
  have free:∀{k bx nr fl w xs q},k < N→(if k < N then σ' k else σ k)=some (.row bx false nr fl w xs)→ι k=some q→∀j,j < q.cap*q.w→¬ HidC N ι σ q.blk (q.base+j):=fun {k bx nr fl w xs q} hk h1 hq j hj=>by
   obtain ⟨h1,_⟩:=low hk h1
   obtain ⟨q',hq',hr⟩:=h'.row k _ _ _ _ _ _ h1
   rw [hι k hk,hq] at hq'; cases hq'
   exact (notC _ _ (h'.cool k bx nr fl w xs q j h1 (by rw [hι k hk]; exact hq) (by rw [←hr.pw]; exact hj)).2).1
  have mixed:∀{k bx nr fl w xs q k2 bx2 nr2 fl2 w2 xs2 q2},k < N→¬ k2 < N→(if k < N then σ' k else σ k)=some (.row bx false nr fl w xs)→(if k2 < N then σ' k2 else σ k2)=some (.row bx2 false nr2 fl2 w2 xs2)→ι k=some q→ι k2=some q2 →
    q.blk≠q2.blk∨q.base+q.cap*q.w≤q2.base∨q2.base+q2.cap*q2.w≤q.base:=fun {k bx nr fl w xs q k2 bx2 nr2 fl2 w2 xs2 q2} l1 l2 h1 h2 h3 h4=>by
   apply Classical.byContradiction
   intro hno
   have hblk:q.blk=q2.blk:=Classical.byContradiction fun e=>hno (.inl e)
   have a1:¬ q.base+q.cap*q.w≤q2.base:=fun e=>hno (.inr (.inl e))
   have a2:¬ q2.base+q2.cap*q2.w≤q.base:=fun e=>hno (.inr (.inr e))
   have n1:0 < q.cap*q.w:=by
    obtain ⟨q',hq',hr⟩:=h'.row k _ _ _ _ _ _ (low l1 h1).1
    rw [hι k l1,h3] at hq'; cases hq'
    rcases hr.cpos with e | e
    ·exact Nat.mul_pos e (by rw [hr.pw]; exact hr.pos)
    ·rcases Nat.eq_zero_or_pos (q.cap*q.w) with z | z
     ·omega
     ·exact z
   have n2:0 < q2.cap*q2.w:=by
    obtain ⟨q',hq',hr⟩:=h.row k2 _ _ _ _ _ _ (high l2 h2)
    rw [h4] at hq'; cases hq'
    rcases hr.cpos with e | e
    ·exact Nat.mul_pos e (by rw [hr.pw]; exact hr.pos)
    ·rcases Nat.eq_zero_or_pos (q2.cap*q2.w) with z | z
     ·omega
     ·exact z
   have c1:=cellOf l2 (high l2 h2) h4
   have c2:=free l1 h1 h3
   rcases Nat.le_total q.base q2.base with e | e
   ·have:=c2 (q2.base - q.base) (by omega)
    rw [show q.base+(q2.base - q.base)=q2.base+0 by omega,hblk] at this
    exact this (c1 0 (by omega))
   ·have:=c2 0 (by omega)
    rw [hblk,show q.base+0=q2.base+(q.base - q2.base) by omega] at this
    exact this (c1 (q.base - q2.base) (by omega))
  by_cases l1:o < N
  ·by_cases l2:o' < N
   ·exact h'.apart o o' bx nr fl w xs bx' nr' fl' w' xs' p p' hne (low l1 h1).1 (low l2 h2).1 (by rw [hι o l1]; exact h3) (by rw [hι o' l2]; exact h4)
   ·exact mixed l1 l2 h1 h2 h3 h4
  ·by_cases l2:o' < N
   ·rcases mixed l2 l1 h2 h1 h4 h3 with a | a | a
    ·exact .inl (Ne.symm a)
    ·exact .inr (.inr a)
    ·exact .inr (.inl a)
   ·exact h.apart o o' bx nr fl w xs bx' nr' fl' w' xs' p p' hne (high l1 h1) (high l2 h2) h3 h4
 ·have free:∀{k fn sl ps as bd st pe q},k < N→(if k < N then σ' k else σ k)=some (.loop fn sl ps as bd st pe)→ι k=some q→¬ HidB N ι σ q.blk:=fun {k fn sl ps as bd st pe q} hk h1 hq=>by
   obtain ⟨h1,_⟩:=low hk h1
   obtain ⟨p,nt1,hp',hb1,_⟩:=h'.loop _ _ _ _ _ _ _ _ h1
   rw [hι k hk,hq] at hp'; cases hp'
   exact (notB _ hb1).1
  have one:∀{k fn sl ps as bd st pe q},¬ k < N→(if k < N then σ' k else σ k)=some (.loop fn sl ps as bd st pe)→ι k=some q→HidB N ι σ q.blk:=fun hk h1 hq=>⟨_,_,_,_,_,_,_,_,_,hk,high hk h1,hq,rfl⟩
  by_cases l1:o < N
  ·by_cases l2:o' < N
   ·exact h'.loops o o' fn sl ps as bd st pe fn' sl' ps' as' bd' st' pe' p p' hne (low l1 h1).1 (low l2 h2).1 (by rw [hι o l1]; exact h3) (by rw [hι o' l2]; exact h4)
   ·exact fun e=>free l1 h1 h3 (e ▸ one l2 h2 h4)
  ·by_cases l2:o' < N
   ·exact fun e=>free l2 h2 h4 (e ▸ one l1 h1 h3)
   ·exact h.loops o o' fn sl ps as bd st pe fn' sl' ps' as' bd' st' pe' p p' hne (high l1 h1) (high l2 h2) h3 h4
 ·by_cases hl:o < N
  ·rw [if_pos hl]
   have:=h'.used o (by rw [hι o hl]; exact ho)
   rw [if_pos hl] at this
   exact this
  ·rw [if_neg hl]; exact h.used o ho
end
end Go.Ab
namespace Go.Ab
open Go.RowKit
theorem nodupOf:∀D:List Nat,∃D':List Nat,D'.Nodup∧∀r,r∈D'↔r∈D
 | []=>⟨[],List.nodup_nil,fun r=>Iff.rfl⟩
 | x::D=>by
  obtain ⟨D',h1,h2⟩:=nodupOf D
  by_cases hx:x∈D'
  ·exact ⟨D',h1,fun r=>by rw [h2,List.mem_cons]; exact ⟨.inr,fun h=>h.elim (fun e=>by subst e; exact (h2 _).1 hx) id⟩⟩
  ·exact ⟨x::D',List.nodup_cons.2 ⟨hx,h1⟩,fun r=>by rw [List.mem_cons,List.mem_cons,h2]⟩
theorem applyEff_len:∀{es:List (Nat × AObj)} {objs objs':List AObj},applyEff objs es=some objs'→(∀y∈es,y.1 < objs.length)→objs'.length=objs.length
 | [],objs,objs',h,_=>by cases h; rfl
 | (o,x)::es,objs,objs',h,hl=>by
  simp only [applyEff] at h
  split at h
  ·split at h
   ·split at h
    ·cases h
    ·rw [applyEff_len h (fun y hy=>by rw [List.length_set]; exact hl y (List.mem_cons_of_mem _ hy)),List.length_set]
   ·rename_i hn
    have:=hl (o,x) (by simp)
    rw [List.getElem?_eq_getElem this] at hn; cases hn
  ·cases h
section
variable {P:Program} {ops:Array Oper} {o:Oper}
theorem ylL_rec {g:Operand} {args:Array Operand} {ts:Array TypeId} {f:FuncId} {fn:Func} {c:Code} {first caps as:List AV} {e:AExit} {x:AV} {s:Slots} {σ:Sto} {N n:Nat} {A A':List AObj} {sl':List (Nat × AV)} {nt':Nat} {eff:List (Nat × AObj)}
  (hw:wantedA ops s o=some true) (ho:o.op=.call { callee:=.value g,args,argTypes:=ts }) (hg:evo s g=some (.fn (.func f) first caps)) (has:evos s args.toList=some as)
  (hf:P.funcs[f]?=some fn) (hb:fn.body=some c) (hn:(fn.name == "runtime.NumGoroutine")=false) (hle:(first++as++caps).length≤fn.ntmps)
  (hσ:∀k,k < N→σ k=A[k]?) (hN:A.length=N) (hN':A'.length=N) (hbig:N≤BIG) (hlive:∀y∈A,liveO y=true) (hA:∀y∈A,OkIn N y) (hA':∀y∈A',OkIn N y)
  (hids:∀a∈first++as++caps,∀k∈a.ids,k < N)
  (h:Exec P none N c ⟨enumA 0 (first++as++caps),A,fn.ntmps⟩ (.go e ⟨sl',A',nt'⟩)) (hend:e.ends=true) (hr:resultA P fn ⟨sl',A',nt'⟩=some x) (hx:x.nr=true)
  (heff:∀k,k < N→Sto.puts (fun k=>A[k]?) eff k=A'[k]?) (heff2:∀y∈eff,y.1 < N) :
  YlL P ops o ⟨some x,eff,n,n,List.range N⟩ s σ:=by
 intro s' σ' hs' hσ'
 have hl:=evo_local (ops:=ops) hs'
 rw [ho] at hl
 have hg':evo s' g=some (.fn (.func f) first caps):=by rw [hl g (by simp [Op.operands,Call.operands])]; exact hg
 have has':evos s' args.toList=some as:=by rw [evos_congr (fun y hy=>hl y (by simp [Op.operands,Call.operands]; exact .inr (by simpa using hy)))]; exact has
 refine .inl ⟨by rw [wantedA_local hs']; exact hw,?_⟩
 intro B W0 D M ι a W nn Q r next hrel hsl hfree hpost
 simp only at hfree hpost
 have hσN:∀k,k < N→σ' k=A[k]?:=fun k hk=>by rw [hσ' k (List.mem_range.2 hk)]; exact hσ k hk
 have hgv:=evo_sound hsl hg'
 generalize hgu:a.eval g=gu at hgv
 cases hgv with
 | fn _ first' caps' _ _ hy hm h1 h2 hr1 hr2 =>
 obtain ⟨l1,e1⟩:=evos_sound hsl has'
 refine ⟨fun _ _=>trivial,?_⟩
 rw [Oper.semAt_eq _ _ _ (by rw [ho]; simp)]
 have hrun:(execOp a.eval o).run P W=.ok (.enter f (first'++args.map a.eval++caps')) W:=by
  simp only [execOp,ho,resolve,hgu,Deferred.ofValue,Sem.run_bind,Sem.run_pure,Result.andThen_ok,invoke]
  exact run_callFunc' hf (by rw [hb]; rfl) hn _ W
 rw [hrun,Oper.uponIn_enter]
 have hrep:∀(j:Nat) (v:Value) (y:AV),(first'++args.map a.eval++caps')[j]?=some v→(first++as++caps)[j]?=some y→RepV M ι v y :=
  list3_at h1 (by simpa using l1.symm) h2 hr1 (fun j v y hv hy=>by
   simp only [Array.getElem?_map,Option.map_eq_some_iff] at hv
   obtain ⟨w,hw,rfl⟩:=hv
   exact (e1 j w y (by simpa using hw) hy).2) hr2
 have hsz:(first'++args.map a.eval++caps').size=(first++as++caps).length:=by simp [h1,h2,l1]
 have hOk:∀k x,k < N→σ' k=some x→OkIn N x:=fun k x hk hx=>by
  rw [hσN k hk] at hx; exact hA x (List.mem_of_getElem? hx)
 have hhide:=hrel.hide (N:=N) hOk
 have hsA:sto A=fun k=>if k < N then σ' k else none:=funext fun k=>by
  rw [sto_simp (fun y hy=>okIn_simp (hA y hy)) (by omega)]
  by_cases hk:k < N
  ·rw [if_pos hk,hσN k hk]
  ·rw [if_neg hk,List.getElem?_eq_none (by omega)]
 rw [←hsA] at hhide
 obtain ⟨D0,hnd,hmem⟩:=nodupOf D
 have hhide0:=hhide.mem (D':=D0) (fun r hr=>(hmem r).1 hr)
 have hM1:M.le (hidM N ι σ' W M):=fun _ _ _ h=>h
 refine ⟨fun hd=>by simp [FW,Fence.wide] at hd,callsIn_FW ?_⟩
 refine callsIn_wide.1 (callsIn_of_wp_marks (F:=FW none) (n:=0) hf hb trivial ?_)
 refine h B W0 D0 [] (hidM N ι σ' W M) (fun k=>if k < N then ι k else none) _ W 0 _ none ⟨hhide0,slots_start fn.ntmps (fun j v y hv hy=>?_) hsz,by rw [Array.size_append,Array.size_replicate]; show _=fn.ntmps; omega,⟨rfl,fun r hr=>by simp at hr,by simpa using hnd⟩,fun k hk=>?_,by show A.length≤BIG; omega⟩ rfl ⟨?_,fun v hv=>by cases hv⟩
 ·have hi:=hids y (List.mem_of_getElem? hy)
  exact ((hrep j v y hv hy).congr fun o ho=>if_pos (hi o ho)).mono hM1 (Inj.le_refl _)
 ·exact if_neg (fun hlt=>hk (.inl (by show k < A.length; omega)))
 intro e' st'' he dl' M' ι' a' W' g1 g2 g3 g4
 cases he
 have hex:e.exit'=.normal∨e.exit'=.ret:=by cases e <;> simp_all [AExit.ends,AExit.exit']
 have cut:∀R,LeavesInM (FW none) 0 P fn a'.tmps R a'.defers .returning W'→bodyPostM (FW none) 0 P fn R e.exit' a' W':=fun R hR=>by
  rcases hex with e1 | e1 <;> rw [e1] <;> exact hR
 apply cut
 rw [g4.df.defs]
 refine leavesA (by simp) dl' W' g4.rel g4.df.nd g4.df.old (fun W2 h2=>?_)
 obtain ⟨v,k1,k2⟩:=resultA_sound h2 g4.slots hr
 refine ⟨v,k1,?_⟩
 have hι:∀k,k < N→ι' k=ι k:=fun k hk=>by
  have hlv:∃p,ι k=some p:=by
   have hAk:A[k]?=some (A[k]'(by omega)):=List.getElem?_eq_getElem (by omega)
   have hk':=hσN k hk
   rw [hAk] at hk'
   have hlv:=hlive _ (List.mem_of_getElem? hAk)
   cases hy:A[k]'(by omega) with
   | row bx ro nr fl w xs=>rw [hy] at hk'; obtain ⟨p,hp,_⟩:=hrel.row k _ _ _ _ _ _ hk'; exact ⟨p,hp⟩
   | loop nt sl ps as bd st pe=>rw [hy] at hk'; obtain ⟨p,_,hp,_⟩:=hrel.loop k _ _ _ _ _ _ _ hk'; exact ⟨p,hp⟩
   | _=>rw [hy] at hlv; cases hlv
  obtain ⟨p,hp⟩:=hlv
  rw [hp]
  exact g2 k p (.inl hk) (by show (if k < N then ι k else none)=_; rw [if_pos hk]; exact hp)
 have h2':=h2.mem (D':=D) (fun r hr=>(hmem r).2 hr)
 have hsA':sto A'=fun k=>if k < N then (fun k=>A'[k]?) k else none:=funext fun k=>by
  rw [sto_simp (fun y hy=>okIn_simp (hA' y hy)) (by omega)]
  by_cases hk:k < N
  ·rw [if_pos hk]
  ·rw [if_neg hk,List.getElem?_eq_none (by omega)]
 rw [show (⟨sl',A',nt'⟩:St).objs=A' from rfl,hsA'] at h2'
 obtain ⟨M2,q1,q2,q3⟩:=hrel.unhide h2' g1 hι (fun k y hk hy=>hA' y (List.mem_of_getElem? hy))
 refine hpost v W2 M2 ι q1 (Inj.le_refl _) (fun _ _=>rfl) ?_ (fun y hy=>?_)
 ·have:(fun k=>if k < N then (fun k=>A'[k]?) k else σ' k)=σ'.puts eff:=funext fun k=>by
   by_cases hk:k < N
   ·rw [if_pos hk]
    show A'[k]?=_
    rw [←heff k hk]
    exact puts_agree eff k (.inl (hσN k hk).symm)
   ·rw [if_neg hk]
    exact (puts_not (fun y hy e=>hk (by rw [←e]; exact heff2 y hy))).symm
  rw [←this]; exact q3
 ·cases hy
  exact (k2.of_nr hx).mono q2 (Inj.noInj_le _)
end
section
variable {P:Program} {rd:Option Nat} {base:Nat} {ops:Array Oper} {d:Option (List Sk)} {st S:St} {Φ:AOut→Prop} {i:Nat}
noncomputable def recEnd (P:Program) (fn:Func) (ops:Array Oper) (i:Nat) (st:St) (eff:List (Nat × AObj)) (st':St):Option St :=
 match resultA P fn st',ops[i]? with
 | some x,some o=>match putD st.slots st.nt o.dst (some x),applyEff st.objs eff with
  | some slots,some objs=>if x.nr then some ⟨slots,objs,st.nt⟩ else none
  | _,_=>none
 | _,_=>none
theorem recD {σ ρ R:Type} {N:Nat} {c:Code} {I:σ→St} {E:ρ→St} {F:σ→Option ρ} {K:ρ→Option R} {r:R} {f:FuncId} {fn:Func} {as0:List AV} (s0:σ) (A H:List AObj) (eff:ρ→List (Nat × AObj)) (S:ρ→St)
  (hi:callInfo ops i st=some (f,as0)) (hf:P.funcs[f]?=some fn) (hb:fn.body=some c) (hn:(fn.name == "runtime.NumGoroutine")=false) (hle:Nat.ble as0.length fn.ntmps=true)
  (hsp:st.objs=A++H) (h0:(⟨enumA 0 as0,A,fn.ntmps⟩:St)=I s0) (hN:A.length=N) (hbig:Nat.ble N BIG=true) (hlive:A.all liveO=true) (hA:∀y∈A,OkIn N y) (hE:∀x,(E x).objs.length=N) (hA':∀x,∀y∈(E x).objs,OkIn N y)
  (hsl:(as0.all fun a=>a.ids.all fun o=>Nat.blt o N)=true)
  (heff:∀x,∀k,k < N→Sto.puts (fun k=>A[k]?) (eff x) k=(E x).objs[k]?) (hefl:∀x,∀y∈eff x,y.1 < N) (w:List Nat) (hw:∀x,(eff x).map (·.1)=w) (hlow:Nat.ble st.objs.length BIG=true)
  (IH:RecOk P N c I E F) (h:(F s0).bind K=some r) (hS:∀x,recEnd P fn ops i st (eff x) (E x)=some (S x))
  (k:∀x,K x=some r→RW P rd base ops (dAdd d [(w,List.range N)]) (i+1) (S x) Φ):RW P rd base ops d i st Φ:=by
 obtain ⟨o,g,args,ts,first,caps,as1,ho,hop,hg,has,rfl⟩:=callInfo_spec hi
 obtain ⟨h1,h2⟩:=opAt_spec ho
 cases hx:F s0 with
 | none=>rw [hx] at h; cases h
 | some x =>
  rw [hx] at h
  obtain ⟨out,hex,hout⟩:=IH s0 x hx
  rw [←h0] at hex
  have hsx:=hS x
  unfold recEnd at hsx
  split at hsx
  ·rename_i y o' hr ho'
   rw [h1] at ho'; cases ho'
   split at hsx
   ·rename_i slots objs hp ha
    split at hsx
    ·rename_i hy
     have hsS:S x=⟨slots,objs,st.nt⟩:=(Option.some.inj hsx).symm
     have hks:=k x h
     rw [hsS] at hks
     obtain ⟨p1,p2,p3⟩:=applyEff_puts _ _ _ ha
     have hNl:N≤st.objs.length:=by rw [hsp,List.length_append]; omega
     have hbig':N≤BIG:=Nat.le_of_ble_eq_true hbig
     have hAsimp:∀z∈A,simpO z=true:=fun z hz=>okIn_simp (hA z hz)
     have hσ:∀k,k < N→sto st.objs k=A[k]?:=fun k hk=>by
      have hkb:k < BIG:=by omega
      rw [sto_low hkb,hsp,List.getElem?_append_left (by omega)]
      cases e:A[k]? with
      | none=>rfl
      | some z=>simp [plain_simp (hAsimp z (List.mem_of_getElem? e))]
     have hids:∀a∈first++as1++caps,∀k∈a.ids,k < N:=fun a ha k hk=>of_blt (List.all_eq_true.1 (List.all_eq_true.1 hsl a ha) k hk)
     have hout':∃e,out=.go e (E x)∧e.ends=true:=by
      rcases hout with he | he
      ·exact ⟨_,he,rfl⟩
      ·exact ⟨_,he,rfl⟩
     obtain ⟨e,rfl,hend⟩:=hout'
     have hlen:objs.length=st.objs.length:=applyEff_len ha (fun y hy=>by have:=hefl x y hy; omega)
     refine rw_step (s:=(w,List.range N)) ⟨o,⟨some y,eff x,st.objs.length,st.objs.length,List.range N⟩,h1,?_,cov_of (by simp [Foot.sk,hw x])⟩ hks
     refine stepF_mk (ylL_rec (e:=e) (sl':=(E x).slots) (nt':=(E x).nt) (A:=A) (A':=(E x).objs) h2 hop hg has hf hb hn (Nat.le_of_ble_eq_true hle) hσ hN (hE x) hbig' (fun z hz=>List.all_eq_true.1 hlive z hz) hA (hA' x) hids hex hend hr hy (heff x) (hefl x)) rfl ?_ ha hp rfl
     show st.objs.length=objs.length
     exact hlen.symm
    ·cases hsx
   ·cases hsx
  ·cases hsx
end
end Go.Ab
namespace Go.Ab
open Go.RowKit
def encE {α:Type} (kk:IntKind) (enc:α→AV) (p:Int × α):AV × AV:=(.int kk p.1,enc p.2)
def mapI {α:Type} (kk:IntKind) (enc:α→AV) (l:List (Int × α)):AObj:=mapO (l.map (encE kk enc))
def mget {α:Type}:List (Int × α)→Int→Option α
 | [],_=>none
 | p::r,n=>if n==p.1 then some p.2 else mget r n
def mput {α:Type}:List (Int × α)→Int→α→List (Int × α)
 | [],n,v=>[(n,v)]
 | p::r,n,v=>if n==p.1 then (n,v)::r else p::mput r n v
theorem unSlots_map:∀(es:List (AV × AV)) (i:Nat),unSlots i (mapSlots i es)=some es
 | [],i=>rfl
 | (k,v)::r,i=>by
  simp only [mapSlots,unSlots]
  rw [show Nat.beq i i=true from Nat.beq_refl i,show Nat.beq (i+1) (i+1)=true from Nat.beq_refl _]
  simp [unSlots_map r (i+2)]
theorem mapEs_map (es:List (AV × AV)):mapEs (mapO es)=some es:=by
 simp [mapEs,mapO,unSlots_map]
section
variable {P:Program} {α:Type} {enc:α→AV} {kk:IntKind} {kt:TypeId}
theorem keyAt_eq (hk:skOf P kt=some .int) (n m:Int):keyAt P kt (.int kk n) (.int kk m)=some (n==m):=by
 unfold keyAt; rw [hk]; simp [scEq]
theorem find_none (hk:skOf P kt=some .int) {n:Int}:∀(l:List (Int × α)) (i:Nat),mget l n=none→findE (keyAt P kt) (.int kk n) (l.map (encE kk enc)) i=some none
 | [],i,_=>rfl
 | p::r,i,h=>by
  unfold mget at h
  split at h
  ·cases h
  ·rename_i hc
   simp only [List.map_cons,encE,findE,keyAt_eq hk]
   rw [show (n==p.1)=false by simpa using hc]
   exact find_none hk r (i+1) h
theorem find_some (hk:skOf P kt=some .int) {n:Int} {v:α}:∀(l:List (Int × α)) (i:Nat),mget l n=some v→∃j,findE (keyAt P kt) (.int kk n) (l.map (encE kk enc)) i=some (some (i+j,enc v))∧∀w,(l.map (encE kk enc)).set j (encE kk enc (n,w))=(mput l n w).map (encE kk enc)
 | [],i,h=>by cases h
 | p::r,i,h=>by
  unfold mget at h
  split at h
  ·rename_i hc
   cases h
   refine ⟨0,?_,fun w=>?_⟩
   ·simp only [List.map_cons,encE,findE,keyAt_eq hk,hc,Nat.add_zero]
   ·simp only [mput,hc,if_true,List.map_cons,List.set_cons_zero]
  ·rename_i hc
   have hc':(n==p.1)=false:=by simpa using hc
   obtain ⟨j,h1,h2⟩:=find_some hk r (i+1) h
   refine ⟨j+1,?_,fun w=>?_⟩
   ·simp only [List.map_cons,encE,findE,keyAt_eq hk,hc']
    rw [show i+(j+1)=i+1+j by omega]
    exact h1
   ·simp only [mput,hc',List.map_cons,List.set_cons_succ,h2 w]
    simp
theorem put_none {n:Int} {w:α}:∀(l:List (Int × α)),mget l n=none→l.map (encE kk enc)++[encE kk enc (n,w)]=(mput l n w).map (encE kk enc)
 | [],_=>rfl
 | p::r,h=>by
  unfold mget at h
  split at h
  ·cases h
  ·rename_i hc
   have hc':(n==p.1)=false:=by simpa using hc
   simp only [mput,hc',List.map_cons,List.cons_append,put_none r h]
   simp
end
section
variable {P:Program} {rd:Option Nat} {base:Nat} {ops:Array Oper} {d:Option (List Sk)} {st S:St} {Φ:AOut→Prop} {i:Nat}
theorem evOp_val {P:Program} {nf:Bool} {C:FuncId→List AV→Option COut} {σ:Sto} {fr:Nat} {s:Slots} {o:Oper} {r:Res}:(evOp P nf C σ fr s o=some (.val r))=(evalOp P nf C σ fr s o=some (.val r)):=by
 apply propext
 unfold evOp
 split
 ·exact Iff.rfl
 ·cases evalOp P nf C σ fr s o with
  | none=>exact Iff.rfl
  | some y=>cases y <;> simp [onlyVal]
noncomputable def lkmInfo (P:Program) (ops:Array Oper) (i:Nat) (st:St):Option (Nat × AV × Bool × AV) :=
 match opAt ops i st with
 | some o=>match o.op with
  | .lookup t x ix c=>match ti P t,evo (lk st.slots) x,evo (lk st.slots) ix with
   | some T,some (.mp ob),some k=>match T.kind with
    | .map kt et=>match skOf P kt,(ti P et).bind (·.zero) with
     | some .int,some z=>some (ob,k,c,z)
     | _,_=>none
    | _=>none
   | _,_,_=>none
  | _=>none
 | none=>none
noncomputable def updInfo (P:Program) (ops:Array Oper) (i:Nat) (st:St):Option (Nat × AV × AV) :=
 match opAt ops i st with
 | some o=>match o.op with
  | .mapUpdate t m x y | .insert t m x y=>match ti P t,evo (lk st.slots) m,evo (lk st.slots) x,evo (lk st.slots) y with
   | some T,some (.mp ob),some k,some v=>match T.kind with
    | .map kt _=>match skOf P kt with
     | some .int=>some (ob,k,v)
     | _=>none
    | _=>none
   | _,_,_,_=>none
  | _=>none
 | none=>none
theorem lookM {α:Type} {enc:α→AV} {kk:IntKind} {l:List (Int × α)} {n:Int} {z:α} {ob:Nat} {c:Bool} (hi:lkmInfo P ops i st=some (ob,.int kk n,c,enc z)) (hrow:st.sto ob=some (mapI kk enc l)) (hok:∀v,(enc v).okv=true)
  (hS:finI ops i st (some (if c then .tup [enc ((mget l n).getD z),.bool (mget l n).isSome] else enc ((mget l n).getD z))) []=some S) (k:RW P rd base ops (dAdd d [([],[ob])]) (i+1) S Φ):RW P rd base ops d i st Φ:=by
 unfold lkmInfo at hi
 split at hi
 ·rename_i o ho
  split at hi
  ·rename_i t x ix c' hop
   split at hi
   ·rename_i T ob' k' hT hx hix
    split at hi
    ·rename_i kt et hkind
     split at hi
     ·rename_i z' hsk hz
      cases hi
      refine rw_of (nf:=false) (v:=some (if c then .tup [enc ((mget l n).getD z),.bool (mget l n).isSome] else enc ((mget l n).getD z))) (eff:=[]) (fr:=st.objs.length) (rds:=[ob]) ho ?_ hS (finI_len0 hS) k
      rw [evOp_val]
      simp only [evalOp,hop]
      unfold evLookup
      have hes:(st.sto ob).bind mapEs=some (l.map (encE kk enc)):=by rw [hrow]; exact mapEs_map _
      simp only [hT,hx,hix,hkind,hes,keyAt_eq hsk,hz]
      cases hg:mget l n with
      | none =>
       rw [find_none hsk l 0 hg]
       simp only [hok,if_true,Option.getD_none,Option.isSome_none]
      | some v =>
       obtain ⟨j,h1,_⟩:=find_some (enc:=enc) (kk:=kk) hsk l 0 hg
       rw [h1]
       simp only [hok,if_true,Option.getD_some,Option.isSome_some]
     ·cases hi
    ·cases hi
   ·cases hi
  ·cases hi
 ·cases hi
theorem updM {α:Type} {enc:α→AV} {kk:IntKind} {l:List (Int × α)} {n:Int} {v:α} {ob:Nat} (hi:updInfo P ops i st=some (ob,.int kk n,enc v)) (hrow:st.sto ob=some (mapI kk enc l))
  (hS:finI ops i st none [(ob,mapI kk enc (mput l n v))]=some S) (hl:Nat.beq S.objs.length st.objs.length=true) (k:RW P rd base ops (dAdd d [([ob],[ob])]) (i+1) S Φ):RW P rd base ops d i st Φ:=by
 have main:∃o,opAt ops i st=some o∧evOp P false noC st.sto st.objs.length (lk st.slots) o=some (.val ⟨none,[(ob,mapI kk enc (mput l n v))],st.objs.length,[ob]⟩):=by
  unfold updInfo at hi
  split at hi
  ·rename_i o ho
   have step:∀(t:TypeId) (m x y:Operand),(o.op=.mapUpdate t m x y∨o.op=.insert t m x y)→(match ti P t,evo (lk st.slots) m,evo (lk st.slots) x,evo (lk st.slots) y with
     | some T,some (.mp ob),some k,some v=>match T.kind with
      | .map kt _=>match skOf P kt with
       | some .int=>some (ob,k,v)
       | _=>none
      | _=>none
     | _,_,_,_=>none)=some (ob,AV.int kk n,enc v)→evOp P false noC st.sto st.objs.length (lk st.slots) o=some (.val ⟨none,[(ob,mapI kk enc (mput l n v))],st.objs.length,[ob]⟩):=fun t m x y hop hi=>by
    split at hi
    ·rename_i T ob' k' v' hT hm hx hy
     split at hi
     ·rename_i kt et hkind
      split at hi
      ·rename_i hsk
       cases hi
       rw [evOp_val]
       have hev:evalOp P false noC st.sto st.objs.length (lk st.slots) o=evUpd P st.sto st.objs.length (lk st.slots) t m x y:=by
        rcases hop with hop | hop <;> simp only [evalOp,hop]
       rw [hev]
       unfold evUpd
       have hes:(st.sto ob).bind mapEs=some (l.map (encE kk enc)):=by rw [hrow]; exact mapEs_map _
       simp only [hT,hm,hx,hy,hkind,hes,keyAt_eq hsk]
       cases hg:mget l n with
       | none =>
        rw [find_none hsk l 0 hg]
        simp only
        rw [show (AV.int kk n,enc v)=encE kk enc (n,v) from rfl,put_none l hg]
        rfl
       | some u =>
        obtain ⟨j,h1,h2⟩:=find_some (enc:=enc) (kk:=kk) hsk l 0 hg
        rw [h1]
        simp only [Nat.zero_add]
        rw [show (AV.int kk n,enc v)=encE kk enc (n,v) from rfl,h2]
        rfl
      ·cases hi
     ·cases hi
    ·cases hi
   refine ⟨o,ho,?_⟩
   split at hi
   ·rename_i t m x y hop; exact step t m x y (.inl hop) hi
   ·rename_i t m x y hop; exact step t m x y (.inr hop) hi
   ·cases hi
  ·cases hi
 obtain ⟨o,ho,he⟩:=main
 exact rw_of ho he hS (Nat.eq_of_beq_eq_true hl) k
end
end Go.Ab
namespace Go.Ab
open Go.RowKit
section
variable {P:Program}
theorem okIn_mapI {N:Nat} {α:Type} {kk:IntKind} {enc:α→AV} {l:List (Int × α)} (he:∀v,(enc v).ids=[]):OkIn N (mapI kk enc l):=by
 show ∀p∈mapSlots 0 (l.map (encE kk enc)),∀o∈p.2.ids,o < N
 have:∀(l:List (Int × α)) (i:Nat),∀p∈mapSlots i (l.map (encE kk enc)),p.2.ids=[]:=by
  intro l
  induction l with
  | nil=>intro i p hp; cases hp
  | cons x l ih =>
   intro i p hp
   simp only [List.map_cons,encE,mapSlots,List.mem_cons] at hp
   rcases hp with rfl | rfl | hp
   ·rfl
   ·exact he _
   ·exact ih (i+2) p hp
 intro p hp o ho
 rw [this l 0 p hp] at ho
 cases ho
end
end Go.Ab
namespace Go.Ab
open Go.RowKit
section
variable {P:Program} {rd:Option Nat} {base:Nat} {ops:Array Oper} {d:Option (List Sk)} {st S1 S:St} {Φ:AOut→Prop} {i:Nat}
noncomputable def ixtInfo (P:Program) (ops:Array Oper) (i:Nat) (st:St):Option (List AV × Int × Nat) :=
 match opAt ops i st with
 | some o=>match o.op with
  | .indexAddr t x ix=>match ti P t,evo (lk st.slots) x,evo (lk st.slots) ix with
   | some T,some (.fz cs),some (.int _ n)=>match T.kind with
    | .array len e=>match ti P e with
     | some E=>if Nat.beq E.size 1 then some (cs,n,len) else none
     | none=>none
    | _=>none
   | _,_,_=>none
  | _=>none
 | none=>none
noncomputable def ldtInfo (P:Program) (ops:Array Oper) (i:Nat) (st:St):Option (List AV) :=
 match opAt ops i st with
 | some o=>match o.op with
  | .load t x=>match ti P t,evo (lk st.slots) x with
   | some T,some (.fz cs)=>if T.agg then none else some cs
   | _,_=>none
  | _=>none
 | none=>none
theorem tabR {l:List Int} {n a:Int} {kk:IntKind} {len:Nat} {cells:List AV} (hi:ixtInfo P ops i st=some (cells,n,len)) (hc:cells=l.map (AV.int kk)) (hlen:l.length=len) (ha:lkI l n=some a)
  (h1:finI ops i st (some (.fz ((l.map (AV.int kk)).drop n.toNat))) []=some S1) (hl:ldtInfo P ops (i+1) S1=some ((l.map (AV.int kk)).drop n.toNat)) (hS:finI ops (i+1) S1 (some (.int kk a)) []=some S)
  (k:RW P rd base ops (dAdd (dAdd d [([],[])]) [([],[])]) (i+1+1) S Φ):RW P rd base ops d i st Φ:=by
 obtain ⟨g1,g2,g3⟩:=lkI_lt ha
 subst hc
 have s1:∃o,opAt ops i st=some o∧evOp P false noC st.sto st.objs.length (lk st.slots) o=some (.val ⟨some (.fz ((l.map (AV.int kk)).drop n.toNat)),[],st.objs.length,[]⟩):=by
  unfold ixtInfo at hi
  split at hi
  ·rename_i o ho
   split at hi
   ·rename_i t x ix hop
    split at hi
    ·rename_i T cs' k' n' hT hx hix
     split at hi
     ·rename_i len' e hk
      split at hi
      ·rename_i E hE
       split at hi
       ·rename_i hsz
        have hsz:=Nat.eq_of_beq_eq_true hsz
        cases hi
        refine ⟨o,ho,?_⟩
        rw [evOp_val]
        have hneg:¬ n < 0:=by omega
        simp only [evalOp,hop,hT,hx,hix,hk,hE,asN,hneg,if_false]
        rw [if_pos (blt_of (by omega)),hsz,Nat.mul_one]
        rfl
       ·cases hi
      ·cases hi
     ·cases hi
    ·cases hi
   ·cases hi
  ·cases hi
 obtain ⟨o,ho,he⟩:=s1
 refine rw_of ho he h1 (finI_len0 h1) ?_
 have s2:∃o,opAt ops (i+1) S1=some o∧evOp P false noC S1.sto S1.objs.length (lk S1.slots) o=some (.val ⟨some (.int kk a),[],S1.objs.length,[]⟩):=by
  unfold ldtInfo at hl
  split at hl
  ·rename_i o ho
   split at hl
   ·rename_i t x hop
    split at hl
    ·rename_i T cs hT hx
     split at hl
     ·cases hl
     ·rename_i hag
      have hcs:=Option.some.inj hl
      refine ⟨o,ho,?_⟩
      rw [evOp_val]
      have hag':T.agg=false:=by simpa using hag
      have hd:(l.map (AV.int kk)).drop n.toNat = AV.int kk a::(l.map (AV.int kk)).drop (n.toNat + 1):=by
       rw [List.drop_eq_getElem_cons (by simpa using g2)]
       congr 1
       rw [List.getElem_map]
       congr 1
       have:=List.getElem?_eq_some_iff.1 g3
       exact this.2
      simp only [evalOp,hop,hT,hx,hcs,hd]
      simp [takeT,hag',resV]
    ·cases hl
   ·cases hl
  ·cases hl
 obtain ⟨o2,ho2,he2⟩:=s2
 exact rw_of ho2 he2 hS (finI_len0 hS) k
end
end Go.Ab
namespace Go.Ab
open Go.RowKit
theorem renS_map {α:Type} {enc:α→AV} {kk:IntKind} {f:Nat → Option Nat} (he:∀v,(enc v).ren f=some (enc v)):∀(l:List (Int × α)) (i:Nat),renS f (mapSlots i (l.map (encE kk enc)))=some (mapSlots i (l.map (encE kk enc)))
 | [],i=>rfl
 | x::l,i=>by
  simp only [List.map_cons,encE,mapSlots,renS,he]
  have h1:(AV.int kk x.1).ren f=some (.int kk x.1):=rfl
  have h2:=renS_map (kk:=kk) he l (i+2)
  rw [h1]
  simp only [h2]
theorem ren_mapI {α:Type} {enc:α→AV} {kk:IntKind} {f:Nat → Option Nat} (he:∀v,(enc v).ren f=some (enc v)) (l:List (Int × α)):(mapI kk enc l).ren f=some (mapI kk enc l):=by
 show AObj.ren f (.loop _ _ _ _ _ _ _)=_
 simp only [AObj.ren,renS_map he l 0]
 rfl
def fillM (o:Nat) (m:AObj):List Nat → List AObj→List AObj
 | k::ks,y::ys=>(if Nat.beq k o then m else y)::fillM o m ks ys
 | _,ys=>ys
theorem gcObjs_inv {f:Nat → Option Nat} {objs:List AObj} {o:Nat} {e m:AObj} (hm:m.ren f=some m) (ho:o < objs.length):∀(ks:List Nat) (os:List AObj),gcObjs f (objs.set o e) ks=some os→gcObjs f (objs.set o m) ks=some (fillM o m ks os)
 | [],os,h=>by simp [gcObjs] at h; subst h; rfl
 | k::ks,os,h=>by
  simp only [gcObjs] at h ⊢
  by_cases c:o=k
  ·subst c
   rw [List.getElem?_set_self ho] at h ⊢
   simp only at h ⊢
   cases hx:e.ren f with
   | none=>rw [hx] at h; cases h
   | some y =>
    rw [hx] at h
    cases hr:gcObjs f (objs.set o e) ks with
    | none=>rw [hr] at h; cases h
    | some os' =>
     rw [hr] at h
     have ih:=gcObjs_inv hm ho ks os' hr
     cases h
     rw [ih,hm]
     simp [fillM]
  ·rw [List.getElem?_set_ne c] at h ⊢
   cases hk:objs[k]? with
   | none=>rw [hk] at h; cases h
   | some x =>
    rw [hk] at h
    simp only at h ⊢
    cases hx:x.ren f with
    | none=>rw [hx] at h; cases h
    | some y =>
     rw [hx] at h
     cases hr:gcObjs f (objs.set o e) ks with
     | none=>rw [hr] at h; cases h
     | some os' =>
      rw [hr] at h
      have ih:=gcObjs_inv hm ho ks os' hr
      cases h
      rw [ih]
      have:Nat.beq k o=false:=by
       cases e2:Nat.beq k o with
       | false=>rfl
       | true=>exact absurd (Nat.eq_of_beq_eq_true e2).symm c
      simp [fillM,this]
def gcMSt (base:Nat) (live keep:List Nat) (o:Nat) (m:AObj) (st:St):Option St :=
 match gcSt base live keep ⟨st.slots,st.objs.set o (mapO []),st.nt⟩ with
 | some s=>some ⟨s.slots,fillM o m (List.range base++keep) s.objs,s.nt⟩
 | none=>none
theorem wk_gcM {P:Program} {base:Nat} {st st':St} {live keep:List Nat} (o:Nat) {α:Type} (kk:IntKind) (enc:α→AV) (L:List (Int × α)) (hE:∀f a,(enc a).ren f=some (enc a)) (ho:st.objs[o]?=some (mapI kk enc L))
  (h:gcMSt base live keep o (mapI kk enc L) st=some st'):Wk P base st st':=by
 refine wk_gc (live:=live) (keep:=keep) ?_
 unfold gcMSt at h
 have hself:st.objs.set o (mapI kk enc L)=st.objs:=by
  obtain ⟨h1,h2⟩:=List.getElem?_eq_some_iff.1 ho
  apply List.ext_getElem?
  intro i
  by_cases e:o=i
  ·subst e; rw [List.getElem?_set_self h1,ho]
  ·rw [List.getElem?_set_ne e]
 cases hg:gcSt base live keep ⟨st.slots,st.objs.set o (mapO []),st.nt⟩ with
 | none=>rw [hg] at h; cases h
 | some s =>
  rw [hg] at h
  cases h
  unfold gcSt at hg ⊢
  simp only at hg ⊢
  split at hg
  ·rename_i hc
   rw [if_pos hc]
   split at hg
   ·rename_i os hos
    cases hg
    have:=gcObjs_inv (ren_mapI (kk:=kk) (fun a=>hE _ a) L) (List.getElem?_eq_some_iff.1 ho).1 _ _ hos
    rw [hself] at this
    rw [this]
   ·cases hg
  ·cases hg
end Go.Ab
namespace Go.Ab
open Go.RowKit
theorem puts_eff:∀(es:List (Nat × AObj)) (A A':List AObj),applyEff A es=some A'→(∀y∈es,y.1 < A.length)→∀k,Sto.puts (fun k=>A[k]?) es k=A'[k]?
 | [],A,A',h,_,k=>by cases h; rfl
 | (o,x)::es,A,A',h,hl,k=>by
  simp only [applyEff] at h
  split at h
  ·have ho:=hl (o,x) (by simp)
   rw [List.getElem?_eq_getElem ho] at h
   simp only at h
   split at h
   ·cases h
   ·have ih:=puts_eff es _ A' h (fun y hy=>by rw [List.length_set]; exact hl y (List.mem_cons_of_mem _ hy)) k
    rw [←ih]
    show Sto.puts _ es k=_
    congr 1
    funext j
    by_cases e:j=o
    ·subst e; simp [Sto.put,List.getElem?_set_self ho]
    ·simp [Sto.put,e,List.getElem?_set_ne (fun h=>e h.symm)]
  ·cases h
theorem ok_map {N:Nat} {A:List AObj} (k:Nat) {α:Type} (kk:IntKind) (enc:α→AV) (l:List (Int × α)) (hk:A[k]?=some (mapI kk enc l)) (he:∀v,(enc v).ids=[]) (h:(A.set k .dead).all (okInB N)=true):∀y∈A,OkIn N y:=fun y hy=>by
 obtain ⟨j,hj⟩:=List.mem_iff_getElem?.1 hy
 by_cases e:k=j
 ·subst e
  rw [hk] at hj
  cases hj
  exact okIn_mapI he
 ·exact okIn_of (List.all_eq_true.1 h y (List.mem_of_getElem? (by rw [List.getElem?_set_ne e]; exact hj)))
section
variable {P:Program} {rd:Option Nat} {base:Nat} {ops:Array Oper} {d:Option (List Sk)} {st:St} {Φ:AOut→Prop} {i:Nat}
theorem recH {σ ρ R:Type} {N:Nat} {c:Code} {I:σ→St} {E:ρ→St} {F:σ→Option ρ} {K:ρ→Option R} {r:R} {f:FuncId} {fn:Func} {as0:List AV} (s0:σ) (eff:ρ→List (Nat × AObj)) (S:ρ→St) (w:List Nat)
  (hi:callInfo ops i st=some (f,as0)) (hf:P.funcs[f]?=some fn) (hb:fn.body=some c) (hn:(fn.name == "runtime.NumGoroutine")=false) (hle:Nat.ble as0.length fn.ntmps=true)
  (h0:(⟨enumA 0 as0,st.objs.take N,fn.ntmps⟩:St)=I s0) (hN:Nat.ble N st.objs.length=true) (hbig:Nat.ble st.objs.length BIG=true) (hlive:(st.objs.take N).all liveO=true) (hA:∀y∈st.objs.take N,OkIn N y) (hE:∀x,Nat.beq (E x).objs.length N=true) (hA':∀x,∀y∈(E x).objs,OkIn N y)
  (hsl:(as0.all fun a=>a.ids.all fun o=>Nat.blt o N)=true)
  (heff:∀x,applyEff (st.objs.take N) (eff x)=some (E x).objs) (hw:∀x,(eff x).map (·.1)=w) (hwl:(w.all fun o=>Nat.blt o N)=true)
  (IH:RecOk P N c I E F) (h:(F s0).bind K=some r) (hS:∀x,recEnd P fn ops i st (eff x) (E x)=some (S x))
  (k:∀x,K x=some r→RW P rd base ops (dAdd d [(w,List.range N)]) (i+1) (S x) Φ):RW P rd base ops d i st Φ:=by
 have hNl:N≤st.objs.length:=Nat.le_of_ble_eq_true hN
 have hlA:(st.objs.take N).length=N:=by rw [List.length_take]; omega
 have hel:∀x,∀y∈eff x,y.1 < N:=fun x y hy=>by
  have:y.1∈(eff x).map (·.1):=List.mem_map_of_mem hy
  rw [hw x] at this
  exact of_blt (List.all_eq_true.1 hwl _ this)
 refine recD s0 (st.objs.take N) (st.objs.drop N) eff S hi hf hb hn hle (List.take_append_drop N st.objs).symm h0 hlA ?_ hlive hA (fun x=>Nat.eq_of_beq_eq_true (hE x)) hA' hsl (fun x k _=>puts_eff _ _ _ (heff x) (fun y hy=>by rw [hlA]; exact hel x y hy) k) hel w hw hbig IH h hS k
 have:=Nat.le_of_ble_eq_true hbig
 exact Nat.ble_eq_true_of_le (by omega)
theorem recHR {σ ρ R:Type} {N:Nat} {c:Code} {I:σ→St} {E:ρ→St} {F:(σ→Option ρ)→σ→Option ρ} {K:ρ→Option R} {r:R} {f:FuncId} {fn:Func} {as0:List AV} (s0:σ) (eff:ρ→List (Nat × AObj)) (S:ρ→St) (w:List Nat)
  (hi:callInfo ops i st=some (f,as0)) (hf:P.funcs[f]?=some fn) (hb:fn.body=some c) (hn:(fn.name == "runtime.NumGoroutine")=false) (hle:Nat.ble as0.length fn.ntmps=true)
  (h0:(⟨enumA 0 as0,st.objs.take N,fn.ntmps⟩:St)=I s0) (hN:Nat.ble N st.objs.length=true) (hbig:Nat.ble st.objs.length BIG=true) (hlive:(st.objs.take N).all liveO=true) (hA:∀y∈st.objs.take N,OkIn N y) (hE:∀x,Nat.beq (E x).objs.length N=true) (hA':∀x,∀y∈(E x).objs,OkIn N y)
  (hsl:(as0.all fun a=>a.ids.all fun o=>Nat.blt o N)=true)
  (heff:∀x,applyEff (st.objs.take N) (eff x)=some (E x).objs) (hw:∀x,(eff x).map (·.1)=w) (hwl:(w.all fun o=>Nat.blt o N)=true)
  (h:(recN F fuel s0).bind K=some r) (hS:∀x,recEnd P fn ops i st (eff x) (E x)=some (S x))
  (step:∀d,RecOk P N c I E d→∀s x,F d s=some x→WP P none N c (I s) (fun o=>o=.go .ret (E x)∨o=.go .normal (E x)))
  (k:∀x,K x=some r→RW P rd base ops (dAdd d [(w,List.range N)]) (i+1) (S x) Φ):RW P rd base ops d i st Φ :=
 recH s0 eff S w hi hf hb hn hle h0 hN hbig hlive hA hE hA' hsl heff hw hwl (rec_ok step fuel) h hS k
end
end Go.Ab
namespace Go.Ab
open Go.RowKit
def mvF (o n:Nat):Nat → Option Nat := fun k=>if Nat.beq k o then some n else some k
def mvSt (o:Nat) (st:St):Option St :=
 match st.objs[o]? with
 | some x=>match x.ren (mvF o st.objs.length),gcObjs (mvF o st.objs.length) (st.objs.set o .dead) (List.range st.objs.length),renS (mvF o st.objs.length) st.slots with
  | some y,some os,some sl=>some ⟨sl,os++[y],st.nt⟩
  | _,_,_=>none
 | none=>none
theorem wk_mv {P:Program} {base:Nat} {st st':St} (o:Nat) (h:mvSt o st=some st') (hs:st.objs.all simpO=true) (hs':st'.objs.all simpO=true) (hbig:Nat.blt st.objs.length BIG=true):Wk P base st st':=by
 have hbig:=of_blt hbig
 unfold mvSt at h
 split at h
 ·rename_i x hx
  have ho:o < st.objs.length:=(List.getElem?_eq_some_iff.1 hx).1
  split at h
  ·rename_i y os sl hy hos hsl
   cases h
   have hs:=List.all_eq_true.1 hs
   have hs':=List.all_eq_true.1 hs'
   obtain ⟨hl,hat⟩:=gcObjs_at hos
   rw [List.length_range] at hl
   intro B W0 D0 dl M ι a W hsim
   have hσ:sto st.objs=fun k=>st.objs[k]?:=funext (sto_simp hs (by omega))
   have hlen':(os++[y]).length=st.objs.length+1:=by simp [hl]
   have hσ':sto (os++[y])=fun k=>(os++[y])[k]?:=funext (sto_simp hs' (by omega))
   have hno:∀k,¬ InB st.objs.length k→ι k=none:=hsim.new
   have hn:ι st.objs.length=none:=hno _ (fun hk=>by
    rcases hk with hk | ⟨j,i,_,e⟩
    ·omega
    ·have:=fid_big j i; omega)
   have hf:∀k k' p,mvF o st.objs.length k=some k'→ι k=some p→(fun k=>if k=st.objs.length then ι o else ι k) k'=some p:=fun k k' p h1 h2=>by
    unfold mvF at h1
    split at h1
    ·rename_i e
     have:=Nat.eq_of_beq_eq_true e
     cases h1; subst this
     simp only [if_true]; exact h2
    ·cases h1
     by_cases e:k=st.objs.length
     ·subst e; rw [hn] at h2; cases h2
     ·simp only [if_neg e]; exact h2
   have hcase:∀k x',(os++[y])[k]?=some x'→(k=st.objs.length∧x'=y)∨(k < st.objs.length∧∃z,(st.objs.set o .dead)[k]?=some z∧z.ren (mvF o st.objs.length)=some x'):=fun k x' hk=>by
    by_cases e:k < os.length
    ·rw [List.getElem?_append_left e] at hk
     obtain ⟨k0,z,h1,h2,h3⟩:=hat k _ hk
     have hkl:k < st.objs.length:=by omega
     have:k0=k:=by
      rw [List.getElem?_eq_getElem (by simpa using hkl)] at h1
      simpa using h1.symm
     subst this
     exact .inr ⟨hkl,z,h2,h3⟩
    ·rw [List.getElem?_append_right (by omega)] at hk
     have:=(List.getElem?_eq_some_iff.1 hk).1
     simp at this
     have e0:k - os.length=0:=by omega
     rw [e0] at hk
     simp at hk
     exact .inl ⟨by omega,hk.symm⟩
   refine ⟨M,fun k=>if k=st.objs.length then ι o else ι k,.refl _ _,fun k p hk hp=>?_,?_,fun t z hz=>?_,hsim.nt,hsim.df,fun k hk=>?_,by show (os++[y]).length≤BIG; omega⟩
   ·by_cases e:k=st.objs.length
    ·subst e; rw [hn] at hp; cases hp
    ·simp only [if_neg e]; exact hp
   ·show Rel P B W0 (dl++D0) M _ (sto (os++[y])) W
    have rel:=hsim.rel
    rw [hσ] at rel
    rw [hσ']
    have plainOf:∀z∈os++[y],z.isPlain=true:=fun z hz=>by
     have:=hs' z hz
     cases z <;> first | rfl | cases this
    refine rel.via (fun k=>if k=o then none else if k=st.objs.length then some o else some k) (fun k k' j h1 h2=>?_) (fun k j hk=>?_) (fun k x' hk hd=>?_) (fun k hk=>?_)
    ·by_cases e1:k=o
     ·simp [e1] at h1
     ·by_cases e2:k'=o
      ·simp [e2] at h2
      ·simp only [if_neg e1] at h1
       simp only [if_neg e2] at h2
       split at h1 <;> split at h2 <;> cases h1 <;> cases h2
       ·omega
       ·exact absurd rfl e2
       ·exact absurd rfl e1
       ·rfl
    ·by_cases e1:k=o
     ·simp [e1] at hk
     ·simp only [if_neg e1] at hk
      split at hk
      ·rename_i e; cases hk; simp [e]
      ·rename_i e; cases hk; simp [e]
    ·rcases hcase k x' hk with ⟨rfl,rfl⟩ | ⟨hkl,z,h1,h2⟩
     ·refine ⟨o,x,by rw [if_neg (by omega)]; simp,hx,?_⟩
      have hxp:x.plain=x:=plain_simp (hs x (List.mem_of_getElem? hx))
      have hyp:x'.isPlain=true:=plainOf x' (List.mem_of_getElem? hk)
      have:=ren_tr (ι':=fun k=>if k=st.objs.length then ι o else ι k) rel (k:=o) (by rw [hxp]; exact hx) hy hf (fun j j' i p _ e=>by rw [hyp] at e; cases e) (by rw [plain_of hyp]; exact hd)
      rwa [hxp,plain_of hyp] at this
     ·by_cases e:o=k
      ·subst e
       rw [List.getElem?_set_self ho] at h1
       cases h1; cases h2; exact absurd rfl hd
      ·rw [List.getElem?_set_ne e] at h1
       refine ⟨k,z,by rw [if_neg (fun h=>e h.symm),if_neg (by omega)],h1,?_⟩
       have hzp:z.plain=z:=plain_simp (hs z (List.mem_of_getElem? h1))
       have hyp:x'.isPlain=true:=plainOf x' (List.mem_of_getElem? hk)
       have:=ren_tr (ι':=fun k=>if k=st.objs.length then ι o else ι k) rel (k:=k) (by rw [hzp]; exact h1) h2 hf (fun j j' i p _ e=>by rw [hyp] at e; cases e) (by rw [plain_of hyp]; exact hd)
       rwa [hzp,plain_of hyp] at this
    ·cases hq:(os++[y])[k]? with
     | none=>exact .inl rfl
     | some x' =>
      right
      rcases hcase k x' hq with ⟨rfl,rfl⟩ | ⟨hkl,z,h1,h2⟩
      ·simp only [if_true] at hk
       rcases rel.used o hk with e | e
       ·rw [hx] at e; cases e
       ·rw [hx] at e; cases e; cases hy; rfl
      ·rw [if_neg (by omega)] at hk
       by_cases e:o=k
       ·subst e
        rw [List.getElem?_set_self ho] at h1
        cases h1; cases h2; rfl
       ·rw [List.getElem?_set_ne e] at h1
        rcases rel.used k hk with e | e
        ·rw [h1] at e; cases e
        ·rw [h1] at e; cases e; cases h2; rfl
   ·obtain ⟨z0,h1,h2⟩:=renS_lk hsl t z hz
    exact (hsim.slots t z0 h1).ren hf h2
   ·have hk':¬ InB (os++[y]).length k:=hk
    have h1:¬ InB st.objs.length k:=fun hh=>hk' (by
     rcases hh with hh | ⟨j,i,hj,rfl⟩
     ·exact .inl (by omega)
     ·exact .inr ⟨j,i,by omega,rfl⟩)
    have h2:k≠st.objs.length:=fun e=>hk' (.inl (by omega))
    show (if k=st.objs.length then ι o else ι k)=none
    rw [if_neg h2]; exact hno k h1
  ·cases h
 ·cases h
end Go.Ab
