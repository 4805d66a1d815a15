/- Rules. No conditions. -/
import Derived.Test.YtiadakgfblkelaaEng4
import Derived.OrdersIn
import Derived.Still
set_option linter.all false
namespace Go.Ab
open Go.RowKit
def Qwb (P:Program) (σ:Sto) (t:TypeId) (x:AV):Option AV :=
 match ti P t,x with
 | some T,.fz cs=>Qbg T cs
 | some T,.ptr o i c=>match σ o with
  | some (.row _ _ _ _ _ xs)=>match xs[i]? with
   | some x=>Qbg T (x.flat.drop c)
   | none=>none
  | _=>none
 | _,_=>none
noncomputable def Qzf (P:Program) (st:St):ResultVar→Option AV
 | .tmp t=>lk st.slots t
 | .cell a t=>match lk st.slots a with
  | some x=>Qwb P (sto st.objs) t x
  | none=>none
noncomputable def Qk1 (P:Program) (st:St):List ResultVar→Option (List AV)
 | []=>some []
 | r::rs=>match Qzf P st r,Qk1 P st rs with
  | some x,some xs=>some (x::xs)
  | _,_=>none
noncomputable def resultA (P:Program) (fn:Func) (st:St):Option AV :=
 match Qk1 P st fn.results.toList with
 | some [x]=>some x
 | some xs=>some (.tup xs)
 | none=>none
def Qro:List Nat → List Nat → List Nat
 | acc,[]=>acc.reverse
 | acc,x::xs=>if acc.any fun y=>Nat.beq x y then Qro acc xs else Qro (x::acc) xs
def Qy8 (st:St) (v:AV):Option (AV × List AObj) :=
 let ks:=Qro [] v.ids
 if Qko ks then match v.ren (fun k=>idx k 0 ks),Jv (fun k=>idx k 0 ks) st.objs ks with
  | some r,some os=>if os.all AObj.okRow then some (r,os) else none
  | _,_=>none else none
noncomputable def Qh5 (st:St) (v:AV):Option Xp :=
 match Qy8 st v with
 | some (r,os)=>some (.ret r os)
 | none=>match Qu (sto st.objs) Qs v with
  | some (r,_)=>some (.ret r [])
  | none=>none
def J7:Nat → List AV→List (Nat × AV)
 | _,[]=>[]
 | i,x::xs=>(i,x)::J7 (i+1) xs
theorem Qs8:∀(xs:List AV) (i t:Nat) (x:AV),lk (J7 i xs) t=some x→i≤t∧xs[t - i]?=some x
 | [],i,t,x,h=>by simp [J7,lk] at h
 | y::ys,i,t,x,h=>by
  simp only [J7,lk] at h
  split at h
  ·rename_i e; cases h; have:=Nat.eq_of_beq_eq_true e; subst this; simp
  ·obtain ⟨h1,h2⟩:=Qs8 ys (i+1) t x h
   refine ⟨by omega,?_⟩
   rw [show t - i=(t - (i+1))+1 by omega]; simpa using h2
section
variable {P:Program} {B:Nat} {W0 W:World} {D D0 dl:List Nat} {M:CM} {ι:Inj} {σ:Sto} {st st':St} {a:Act}
theorem Qum (h:Rel P B W0 D M ι σ W) {t:TypeId} {x y:AV} {u:Value} (hv:Qa M ι u x) (he:Qwb P σ t x=some y) :
  ∃p v,u=.pointer (some p)∧(loadVar t p).run P W=.ok v W∧Qa M ι v y:=by
 unfold Qwb at he
 split at he
 ·rename_i T cs hT
  cases hv with
  | fz b off cs f hcs hM hrr =>
  obtain ⟨v,h1,h2⟩:=Qdc (W:=W) (M:=M) (ι:=ι) hT he hcs (b:=b) (off:=off) (fun j y hy=>⟨f j,h.agree _ _ _ (hM j y hy),(hrr j y hy).mono (CM.le_refl _) (Inj.noInj_le _)⟩)
  exact ⟨_,v,rfl,h1,h2⟩
 ·rename_i T ob ii c hT
  split at he
  ·rename_i bx ro nr fl w xs hσ
   split at he
   ·rename_i z hz
    obtain ⟨p,hp,hrow⟩:=h.row _ _ _ _ _ _ _ hσ
    cases hv with
    | ptr _ _ _ p' hp' =>
    rw [hp] at hp'; cases hp'
    obtain ⟨v,h1,h2⟩:=Qdc (W:=W) (M:=M) (ι:=ι) hT he (fun q hq=>(hrow.shaped z (List.mem_of_getElem? hz)).cells q (List.mem_of_mem_drop hq)) (b:=p.blk) (off:=p.base+ii*p.w+c) (fun j q hq=>by
     rw [List.getElem?_drop] at hq
     obtain ⟨v,hv,hr⟩:=hrow.cells ii (c+j) z q hz hq
     refine ⟨v,?_,hr⟩
     rw [hrow.pw,show p.base+ii*w+c+j=p.base+ii*w+(c+j) by omega]; exact hv)
    exact ⟨_,v,rfl,h1,h2⟩
   ·cases he
  ·cases he
 ·cases he
def Qlr (tmps:Array Value):ResultVar→Sem Value
 | .tmp t=>pure (tmps.getD t undef)
 | .cell a t=>do loadVar t (←asAddr (tmps.getD a undef))
theorem Qk8 (h:Rel P B W0 D M ι (sto st.objs) W) {tmps:Array Value} (hs:Qi M ι (lk st.slots) tmps):∀(rs:List ResultVar) (xs:List AV),Qk1 P st rs=some xs →
  ∃vs:List Value,(rs.mapM (Qlr tmps)).run P W=.ok vs W∧vs.length=xs.length∧∀(j:Nat) (v:Value) (x:AV),vs[j]?=some v→xs[j]?=some x→Qa M ι v x
 | [],xs,he=>by cases he; exact ⟨[],rfl,rfl,fun j v x hv=>by simp at hv⟩
 | r::rs,xs,he=>by
  simp only [Qk1] at he
  split at he
  ·rename_i x xs' h1 h2
   cases he
   obtain ⟨vs,g1,g2,g3⟩:=Qk8 h hs rs xs' h2
   have key:∃v,(Qlr tmps r).run P W=.ok v W∧Qa M ι v x:=by
    cases r with
    | tmp t=>exact ⟨_,rfl,hs t x h1⟩
    | cell b t =>
     simp only [Qzf] at h1
     split at h1
     ·rename_i y hy
      obtain ⟨p,v,e1,e2,e3⟩:=Qum h (hs b y hy) h1
      exact ⟨v,by simp [Qlr,Sem.run_bind,e1,asAddr,e2],e3⟩
     ·cases h1
   obtain ⟨v,k1,k2⟩:=key
   refine ⟨v::vs,?_,by simp [g2],fun j u y hu hy=>?_⟩
   ·rw [List.mapM_cons]
    simp only [Sem.run_bind,Sem.run_pure]
    rw [k1]
    simp only [Result.andThen_ok]
    rw [g1]
    simp
   ·cases j with
    | zero=>simp at hu hy; subst hu; subst hy; exact k2
    | succ j=>exact g3 j u y (by simpa using hu) (by simpa using hy)
  ·cases he
theorem Qe6 (h:Rel P B W0 D M ι (sto st.objs) W) {tmps:Array Value} (hs:Qi M ι (lk st.slots) tmps) {fn:Func} {x:AV} (he:resultA P fn st=some x):∃v,(results fn tmps).run P W=.ok v W∧Qa M ι v x:=by
 unfold resultA at he
 have main:∀xs,Qk1 P st fn.results.toList=some xs→∃vs:Array Value,(results fn tmps).run P W=.ok (if h:vs.size=1 then vs[0] else .tuple vs) W∧vs.size=xs.length∧∀(j:Nat) (v:Value) (x:AV),vs[j]?=some v→xs[j]?=some x→Qa M ι v x:=by
  intro xs hx
  obtain ⟨vs,g1,g2,g3⟩:=Qk8 h hs _ _ hx
  refine ⟨vs.toArray,?_,by simpa using g2,fun j v x hv hx=>g3 j v x (by simpa using hv) hx⟩
  show (do let vs ←fn.results.mapM (Qlr tmps); pure (if h:vs.size=1 then vs[0] else .tuple vs):Sem Value).run P W=_
  rw [Array.mapM_eq_mapM_toList]
  simp [Sem.run_bind,g1]
 split at he
 ·rename_i y hy
  cases he
  obtain ⟨vs,g1,g2,g3⟩:=main _ hy
  have h1:vs.size=1:=by simpa using g2
  rw [dif_pos h1] at g1
  exact ⟨_,g1,g3 0 _ _ (Array.getElem?_eq_getElem (by omega)) rfl⟩
 ·rename_i xs hne hy
  cases he
  obtain ⟨vs,g1,g2,g3⟩:=main _ hy
  have h1:¬ vs.size=1:=fun e=>by
   rw [g2] at e
   cases xs with
   | nil=>simp at e
   | cons z zs=>cases zs with
    | nil=>exact hne z rfl
    | cons _ _=>simp at e
  rw [dif_neg h1] at g1
  exact ⟨_,g1,.tup _ _ g2 g3⟩
 ·cases he
theorem Qfs {F:Fence} {n:Nat} {fn:Func} {tmps:Array Value} {R:Ending→World→Prop} {u:FrameMode} (hu:u≠.run):∀(dl:List Nat) (W:World),Rel P B W0 (dl++D0) M ι σ W→(dl++D0).Nodup→(∀r∈dl,B≤r) →
  (∀W',Rel P B W0 D0 M ι σ W'→LeavesInM F n P fn tmps R [] u W')→LeavesInM F n P fn tmps R (dl.map mk) u W
 | [],W,h,_,_,hk=>hk W h
 | r::dl,W,h,hnd,hB,hk=>by
  refine ⟨hu,.inl ⟨r,_,rfl,run_takeDeferred (h.defs r (by simp)),?_⟩⟩
  exact Qfs hu dl _ (h.take hnd (hB r (by simp))) (List.nodup_cons.1 hnd).2 (fun q hq=>hB q (by simp [hq])) hk
theorem Qur {x:AObj} (h:x.okRow=true):x.isPlain=true:=by cases x <;> simp_all [AObj.okRow,AObj.isPlain]
theorem Qrf (h:Rel P B W0 [] M ι (sto st.objs) W) (hb:st.objs.length≤BIG) {v:Value} {x:AV} {out:Xp} (hv:Qa M ι v x) (he:Qh5 st x=some out) :
  ∃r os M' ι',out=.ret r os∧CM.Grow B M M'∧Rel P B W0 [] M' ι' (fun k=>os[k]?) W∧(∀k,os.length≤k→ι' k=none)∧Qa M' ι' v r:=by
 unfold Qh5 at he
 split at he
 ·rename_i r os hm
  unfold Qy8 at hm
  simp only at hm
  split at hm
  ·rename_i hnd
   split at hm
   ·rename_i r' os' h1 h2
    split at hm
    ·rename_i hall
     cases hm
     cases he
     refine ⟨r,os,M,_,rfl,.refl _ _,h.gcP hb h2 (Qg8 hnd) (fun x hx=>Qur (List.all_eq_true.1 hall x hx)),fun k hk=>?_,hv.ren (fun o o' p=>ιkeep_idx o o' p) h1⟩
     obtain ⟨l,_⟩:=Qep h2
     simp [ιkeep,List.getElem?_eq_none (show (Qro [] x.ids).length≤k by omega)]
    ·cases hm
   ·cases hm
  ·cases hm
 ·split at he
  ·rename_i r ids hsn
   cases he
   refine ⟨r,[],Zw M W (inC (sto st.objs) ι ids),noInj,rfl,h.growC ids,?_,fun _ _=>rfl,Ys h ids Qs x r ids v hsn (fun k hk=>hk) hv⟩
   exact ⟨h.size,h.below,h.defs,Qde h.agree,fun o bx nr fl w xs p k ho=>(by simp at ho),fun o bx ro nr fl w xs ho=>(by simp at ho),fun o fn sl ps as bd st pe ho=>(by simp at ho),fun o o' bx nr fl w xs bx' nr' fl' w' xs' p p' _ ho=>(by simp at ho),fun o o' fn sl ps as bd st pe fn' sl' ps' as' bd' st' pe' p p' _ ho=>(by simp at ho),fun o _=>.inl (by simp)⟩
  ·cases he
theorem Qkg (h:Qaw M W):Rel P W.heap.size W [] M noInj (sto []) W:=by
 rw [Q2w]
 exact ⟨Nat.le_refl _,.refl _ _,fun r hr=>(by simp at hr),h,fun o bx nr fl w xs p k ho=>(by simp at ho),fun o bx ro nr fl w xs ho=>(by simp at ho),fun o fn sl ps as bd st pe ho=>(by simp at ho),fun o o' bx nr fl w xs bx' nr' fl' w' xs' p p' _ ho=>(by simp at ho),fun o o' fn sl ps as bd st pe fn' sl' ps' as' bd' st' pe' p p' _ ho=>(by simp at ho),fun o _=>.inl (by simp)⟩
def st0 (nt:Nat) (args:List AV):St:=⟨J7 0 args,[],nt⟩
theorem Qd1 {vs:Array Value} {args:List AV} (nt:Nat) (hr:∀(j:Nat) (v:Value) (x:AV),vs[j]?=some v→args[j]?=some x→Qa M ι v x) (hl:vs.size=args.length) :
  Qi M ι (lk (J7 0 args)) (vs++Array.replicate (nt - vs.size) undef):=by
 intro t x ht
 obtain ⟨_,h2⟩:=Qs8 _ _ _ _ ht
 simp only [Nat.sub_zero] at h2
 have hlt:t < vs.size:=by rw [hl]; exact (List.getElem?_eq_some_iff.1 h2).1
 rw [Array.getD_eq_getD_getElem?,Array.getElem?_append_left hlt,Array.getElem?_eq_getElem hlt]
 exact hr t _ x (Array.getElem?_eq_getElem hlt) h2
def Xg.ends:Xg→Bool
 | .normal | .ret=>true
 | _=>false
theorem callOk_exec {f:FuncId} {fn:Func} {c:Code} {args:List AV} {e:Xg} {x:AV} {out:Xp} (hf:P.funcs[f]?=some fn) (hb:fn.body=some c) (hle:args.length≤fn.ntmps)
  (h:Xe P none 0 c (st0 fn.ntmps args) (.go e st')) (hend:e.ends=true) (hr:resultA P fn st'=some x) (hx:Qh5 st' x=some out):Zd P f args out:=by
 intro W M vs hag hsz hrep
 refine callsIn_wide.1 (callsIn_of_wp_marks (F:=FW none) (n:=0) hf hb trivial ?_)
 refine h W.heap.size W [] [] M noInj _ W 0 _ none ⟨by simpa [st0] using Qkg hag,Qd1 fn.ntmps hrep hsz,by simp [st0]; omega,⟨rfl,fun r hr=>by simp at hr,List.nodup_nil⟩,fun _ _=>rfl,Nat.zero_le _⟩ rfl ⟨?_,fun v hv=>by cases hv⟩
 intro e' st'' he dl' M' ι' a' W' g1 g2 g3 g4
 cases he
 have hex:e.exit'=.normal∨e.exit'=.ret:=by cases e <;> simp_all [Xg.ends,Xg.exit']
 have cut:∀R,LeavesInM (FW none) 0 P fn a'.tmps R a'.defers .returning W'→bodyPostM (FW none) 0 P fn R e.exit' a' W':=fun R hR=>by
  rcases hex with e1 | e1 <;> rw [e1] <;> exact hR
 apply cut
 rw [g4.df.defs]
 refine Qfs (by simp) dl' W' g4.rel g4.df.nd g4.df.old (fun W2 h2=>?_)
 obtain ⟨v,k1,k2⟩:=Qe6 h2 g4.slots hr
 obtain ⟨r,os,M2,ι2,rfl,q1,q2,q3,q4⟩:=Qrf h2 g4.big k2 hx
 exact ⟨v,k1,v,M2,ι2,rfl,g1.trans q1,q2,q3,q4⟩
theorem Qon {f:FuncId} {fn:Func} {c:Code} {args:List AV} {x:AV} (hf:P.funcs[f]?=some fn) (hb:fn.body=some c) (hle:args.length≤fn.ntmps)
  (h:Xe P none 0 c (st0 fn.ntmps args) (.pan x)):Zd P f args (.pan x):=by
 intro W M vs hag hsz hrep
 refine callsIn_wide.1 (callsIn_of_wp_marks (F:=FW none) (n:=0) hf hb trivial ?_)
 refine h W.heap.size W [] [] M noInj _ W 0 _ none ⟨by simpa [st0] using Qkg hag,Qd1 fn.ntmps hrep hsz,by simp [st0]; omega,⟨rfl,fun r hr=>by simp at hr,List.nodup_nil⟩,fun _ _=>rfl,Nat.zero_le _⟩ rfl ⟨fun e st he=>(by cases he),?_⟩
 intro v he dl' M' a' W' u g1 g2 g3 g4 g5
 cases he
 show LeavesInM (FW none) 0 P fn a'.tmps _ a'.defers (.panicking _) W'
 rw [g4.defs]
 exact Qfs (by simp) dl' W' g3 g4.nd g4.old (fun W2 h2=>⟨u,M',rfl,g1,h2,g5⟩)
end
end Go.Ab
namespace Go.Ab
open Go.RowKit
section
variable {P:Program} {B:Nat} {W0 W:World} {D D0 dl:List Nat} {M:CM} {ι:Inj} {σ:Sto} {st st':St} {a:Act} {rd:Option Nat} {base:Nat} {out:AOut} {o:Oper}
theorem Sim.le {ι':Inj} (h:Sim P B W0 D0 dl M ι st a W) (hl:Inj.leB st.objs.length ι ι'):ι.le ι':=by
 intro k p hk
 refine hl k p ?_ hk
 refine Classical.byContradiction fun e=>?_
 rw [h.new k e] at hk; cases hk
theorem Q0k {r:Option Nat} {n:Nat} {f:FuncId} {args:Array Value} {R:Ending→World→Prop} (h:CallsIn (FW none) 0 P f args W R):CallsIn (FW r) n P f args W R :=
 Qfg (callsIn_wide.1 h)
theorem Qkx {f:FuncId} {fn:Func} {c:Code} {args:Array Value} {slots:List (Nat × AV)} {objs:List AObj} (hf:P.funcs[f]?=some fn) (hb:fn.body=some c)
  (h:Xe P none objs.length c ⟨slots,objs,fn.ntmps⟩ out)
  (hrel:Rel P B W0 (dl++D0) M ι (sto objs) W) (hnd:(dl++D0).Nodup) (hnew:∀k,¬ InB objs.length k→ι k=none) (hbig:objs.length≤BIG)
  (hsl:Qi M ι (lk slots) (args++Array.replicate (fn.ntmps - args.size) undef)) (hsz:args.size≤fn.ntmps) {r:Option Nat} {n:Nat} {R:Ending→World→Prop}
  (hret:∀e st' x,out=.go e st'→e.ends=true→resultA P fn st'=some x→∀v M' ι' W',CM.Grow B M M'→ι.le ι'→Rel P B W0 (dl++D0) M' ι' (sto st'.objs) W'→(∀k,¬ InB st'.objs.length k→ι' k=none)→st'.objs.length≤BIG→Qa M' ι' v x→R (.returned v) W')
  (hok:match out with | .go e st'=>e.ends=true∧(resultA P fn st').isSome=true | .pan _=>True)
  (hpan:∀x,out=.pan x→∀v M' W',CM.Grow B M M'→Rel P B W0 (dl++D0) M' noInj (fun _=>none) W'→Qa M' noInj v x→R (.panicked [{ v,recovered:=false }]) W') :
  CallsIn (FW r) n P f args W R:=by
 refine Q0k (callsIn_of_wp_marks (F:=FW none) (n:=0) hf hb trivial ?_)
 refine h B W0 (dl++D0) [] M ι _ W 0 _ none ⟨by simpa using hrel,hsl,by simp; omega,⟨rfl,fun r hr=>by simp at hr,by simpa using hnd⟩,hnew,hbig⟩ rfl ⟨?_,?_⟩
 ·intro e st' he dl' M' ι' a' W' g1 g2 g3 g4
  subst he
  obtain ⟨hends,hres⟩:=hok
  obtain ⟨x,hx⟩:=Option.isSome_iff_exists.1 hres
  have hle:ι.le ι':=by
   intro k p hk
   refine g2 k p (Classical.byContradiction fun e=>?_) hk
   rw [hnew k e] at hk; cases hk
  have hex:e.exit'=.normal∨e.exit'=.ret:=by cases e <;> simp_all [Xg.ends,Xg.exit']
  have cut:∀R,LeavesInM (FW none) 0 P fn a'.tmps R a'.defers .returning W'→bodyPostM (FW none) 0 P fn R e.exit' a' W':=fun R hR=>by
   rcases hex with e1 | e1 <;> rw [e1] <;> exact hR
  apply cut
  rw [g4.df.defs]
  refine Qfs (by simp) dl' W' g4.rel g4.df.nd g4.df.old (fun W2 h2=>?_)
  obtain ⟨v,k1,k2⟩:=Qe6 h2 g4.slots hx
  exact ⟨v,k1,hret e st' x rfl hends hx v M' ι' W2 g1 hle h2 g4.new g4.big k2⟩
 ·intro x he dl' M' a' W' u g1 g2 g3 g4 g5
  subst he
  show LeavesInM (FW none) 0 P fn a'.tmps _ a'.defers (.panicking _) W'
  rw [g4.defs]
  exact Qfs (by simp) dl' W' g3 g4.nd g4.old (fun W2 h2=>hpan x rfl u M' W2 g1 h2 g5)
theorem Qn0 {first' caps':Array Value} {first caps as:List AV} {vs:Array Value} (h1:first'.size=first.length) (h2:caps'.size=caps.length) (h3:vs.size=as.length)
  (k1:∀(j:Nat) (v:Value) (y:AV),first'[j]?=some v→first[j]?=some y→Qa M ι v y) (k3:∀(j:Nat) (v:Value) (y:AV),vs[j]?=some v→as[j]?=some y→Qa M ι v y)
  (k2:∀(j:Nat) (v:Value) (y:AV),caps'[j]?=some v→caps[j]?=some y→Qa M ι v y) (nt:Nat) :
  Qi M ι (lk (J7 0 (first++as++caps))) ((first'++vs++caps')++Array.replicate (nt - (first'++vs++caps').size) undef) :=
 Qd1 nt (Qjg h1 h3 h2 k1 k3 k2) (by simp [h1,h2,h3])
theorem Qw1 {g:Operand} {args:Array Operand} {ts:Array TypeId} {f:FuncId} {fn:Func} {c:Code} {first caps as:List AV} {e:Xg} {x:AV} {slots:List (Nat × AV)}
  (ho:o.op=.call { callee:=.value g,args,argTypes:=ts }) (hg:evo (lk st.slots) g=some (.fn (.func f) first caps)) (has:Jw (lk st.slots) args.toList=some as)
  (hf:P.funcs[f]?=some fn) (hb:fn.body=some c) (hn:(fn.name == "runtime.NumGoroutine")=false) (hle:(first++as++caps).length≤fn.ntmps)
  (h:Xe P none st.objs.length c ⟨J7 0 (first++as++caps),st.objs,fn.ntmps⟩ (.go e st')) (hend:e.ends=true) (hr:resultA P fn st'=some x) (hput:V2 st.slots st.nt o.dst (some x)=some slots) :
  OpX P rd base o st (.go .normal ⟨slots,st'.objs,st.nt⟩):=by
 intro B W0 D0 dl M ι a W n Q r hs hr' hp
 have hgv:=Qg hs.slots hg
 generalize hgu:a.eval g=gu at hgv
 cases hgv with
 | fn _ first' caps' _ _ hy hm h1 h2 hr1 hr2 =>
 obtain ⟨l1,e1⟩:=Vn hs.slots has
 refine ⟨fun _ _=>trivial,?_⟩
 rw [Oper.semAt_eq _ _ _ (by rw [ho]; simp)]
 have hrun:(execOp a.eval o).run P W=.ok (.enter f (first'++args.map a.eval++caps')) W:=by
  simp only [execOp,ho,resolve,hgu,Deferred.ofValue,Sem.run_bind,Sem.run_pure,Result.andThen_ok,invoke]
  exact Ji hf (by rw [hb]; rfl) hn _ W
 rw [hrun,Oper.uponIn_enter]
 refine ⟨fun hd=>by simp [FW,Fence.wide] at hd,Qkx hf hb h hs.rel hs.df.nd hs.new hs.big ?_ ?_ ?_ ⟨hend,by rw [hr]; rfl⟩ (fun x hx=>by cases hx)⟩
 ·exact Qn0 h1 h2 (by simpa using l1.symm) hr1 (fun j v y hv hy=>by
   simp only [Array.getElem?_map,Option.map_eq_some_iff] at hv
   obtain ⟨w,hw,rfl⟩:=hv
   exact (e1 j w y (by simpa using hw) hy).2) hr2 _
 ·have:(first++as++caps).length=(first'++args.map a.eval++caps').size:=by simp [h1,h2,l1]
  omega
 ·intro e' st'' x' he hends hx v M' ι' W' g1 g2 g3 g4 g4b g5
  cases he
  rw [hr] at hx
  cases hx
  obtain ⟨k1,k2,k3⟩:=Qbe (u:=v) (hs.slots.mono g1.le g2) hs.nt hput (fun y hy=>by cases hy; exact g5)
  exact hp.go .normal _ rfl dl M' ι' _ W' g1 (g2.leB base) (List.suffix_refl _) ⟨g3,k1,k2,hs.df.put,g4,g4b⟩
def Ql7:List (Nat × AV)→List Tmp→List AV→List (Nat × AV)
 | s,t::ts,x::xs=>Ql7 (setS s t x) ts xs
 | s,_,_=>s
theorem Qtj:∀(ps:List Tmp) (as:List AV) (vs:List Value) (s:List (Nat × AV)) (tmps:Array Value),vs.length=as.length→(∀(j:Nat) (v:Value) (y:AV),vs[j]?=some v→as[j]?=some y→Qa M ι v y) →
  (∀t∈ps,t < tmps.size)→Qi M ι (lk s) tmps→Qi M ι (lk (Ql7 s ps as)) ((ps.zip vs).foldl (fun tmps (t,a)=>tmps.setIfInBounds t a) tmps)∧((ps.zip vs).foldl (fun tmps (t,a)=>tmps.setIfInBounds t a) tmps).size=tmps.size
 | [],as,vs,s,tmps,_,_,_,hs=>by cases as <;> exact ⟨hs,rfl⟩
 | t::ts,[],[],s,tmps,_,_,_,hs=>⟨hs,rfl⟩
 | t::ts,x::xs,v::vs,s,tmps,hl,hr,hlt,hs=>by
  simp only [Ql7,List.zip_cons_cons,List.foldl_cons]
  have h0:Qi M ι (lk (setS s t x)) (tmps.setIfInBounds t v):=by
   intro k y hk
   rw [Qca] at hk
   by_cases e:t=k
   ·subst e
    rw [if_pos rfl] at hk; cases hk
    rw [Array.getD_eq_getD_getElem?]
    simp [hlt t (by simp)]
    exact hr 0 v x rfl rfl
   ·rw [if_neg e] at hk
    rw [Array.getD_eq_getD_getElem?,Array.getElem?_setIfInBounds_ne e,←Array.getD_eq_getD_getElem?]
    exact hs k y hk
  obtain ⟨h1,h2⟩:=Qtj ts xs vs (setS s t x) (tmps.setIfInBounds t v) (by simpa using hl) (fun j u y hu hy=>hr (j+1) u y (by simpa using hu) (by simpa using hy)) (fun q hq=>by simp; exact hlt q (by simp [hq])) h0
  exact ⟨h1,by rw [h2]; simp⟩
def Xg.pend:Xg→Option Code
 | .normal=>none
 | .ret=>some .ret
 | .exit id=>some (.exit id)
 | .goto l=>some (.goto l)
theorem Qxt {ps:List Tmp} {vs:Array Value} {tmps:Array Value}:(ps.toArray.zip vs).foldl (fun tmps (x:Tmp × Value)=>tmps.setIfInBounds x.1 x.2) tmps=(ps.zip vs.toList).foldl (fun tmps (x:Tmp × Value)=>tmps.setIfInBounds x.1 x.2) tmps:=by
 rw [←Array.foldl_toList]
 simp
theorem Qz3 {g:Operand} {args:Array Operand} {ts:Array TypeId} {l nt nt2:Nat} {as:List AV} {sl sl2:List (Nat × AV)} {ps ps2:List Tmp} {assign body as2 bd2:Code} {pe pe2:Option Code} {slA slots:List (Nat × AV)} {objsA:List AObj} {e:Xg}
  {slL psL asL bdL peL} {ntL:Nat}
  (ho:o.op=.call { callee:=.value g,args,argTypes:=ts }) (hg:evo (lk st.slots) g=some (.yld l)) (has:Jw (lk st.slots) args.toList=some as)
  (hl:st.objs[l]?=some (.loop nt sl ps assign body .ready pe)) (hlen:as.length=ps.length) (hps:∀t∈ps,t < nt)
  (hA:Xe P (some l) st.objs.length assign ⟨Ql7 sl ps as,st.objs,nt⟩ (.go .normal ⟨slA,objsA,nt⟩))
  (hlA:objsA[l]?=some (.loop ntL slL psL asL bdL .ready peL))
  (hB:Xe P (some l) st.objs.length body ⟨slA,objsA.set l (.loop ntL slL psL asL bdL .busy peL),nt⟩ (.go e st'))
  (hlB:st'.objs[l]?=some (.loop nt2 sl2 ps2 as2 bd2 .busy pe2))
  (hput:V2 st.slots st.nt o.dst (some (.bool e.pend.isNone))=some slots) :
  OpX P rd base o st (.go .normal ⟨slots,st'.objs.set l (.loop nt2 sl2 ps2 as2 bd2 (if e.pend.isNone then .ready else .done) e.pend),st.nt⟩):=by
 intro B W0 D0 dl M ι a W n Q r hs hr' hp
 have hgv:=Qg hs.slots hg
 generalize hgu:a.eval g=gu at hgv
 cases hgv with
 | yld _ p hpl =>
 obtain ⟨l1,e1⟩:=Vn hs.slots has
 obtain ⟨p',fnc,hp',_,hB0,tmps,hsz,hrec,hsl⟩:=hs.rel.loop l nt sl ps assign body .ready pe (by rw [Zr (Nat.lt_of_lt_of_le (List.getElem?_eq_some_iff.1 hl).1 hs.big),hl]; rfl)
 rw [Qcc (by simp)] at hrec
 rw [hpl] at hp'; cases hp'
 refine ⟨fun _ _=>trivial,?_⟩
 rw [Oper.semAt_eq _ _ _ (by rw [ho]; simp)]
 have hrun:(execOp a.eval o).run P W=(Instr.yield p.blk (args.map a.eval)).run P W:=by
  simp [execOp,ho,resolve,hgu,Deferred.ofValue,Sem.run_bind,Sem.run_pure,Result.andThen_ok,invoke]
 rw [hrun,run_yield hrec (by simp; rw [←hlen,←Array.length_toList]; exact l1.symm)]
 rw [Oper.uponIn_round]
 refine ⟨fun hd=>by simp [FW,Fence.wide] at hd,roundIn_of_wpIn trivial ?_⟩
 have hvals:∀(j:Nat) (v:Value) (y:AV),(args.map a.eval).toList[j]?=some v→as[j]?=some y→Qa M ι v y:=fun j v y hv hy=>by
  simp only [Array.toList_map,List.getElem?_map,Option.map_eq_some_iff] at hv
  obtain ⟨w,hw,rfl⟩:=hv
  exact (e1 j w y hw hy).2
 have htm:=Qtj (M:=M) (ι:=ι) ps as (args.map a.eval).toList sl tmps (by simp [l1]) hvals (fun t ht=>by rw [hsz]; exact hps t ht) hsl
 rw [←Qxt] at htm
 have hround:J8 ι (some l) (some p.blk) st.objs.length:=⟨(List.getElem?_eq_some_iff.1 hl).1,p,hpl,rfl⟩
 refine hA B W0 (dl++D0) [] M ι _ W _ _ (some p.blk) ⟨by simpa using hs.rel,htm.1,by rw [htm.2,hsz],⟨rfl,fun r hr=>by simp at hr,by simpa using hs.df.nd⟩,hs.new,hs.big⟩ hround ⟨?_,fun v hv=>by cases hv⟩
 intro eA stA he dlA MA ιA aA WA g1 g2 g3 g4
 cases he
 have hlB0:l < BIG:=Nat.lt_of_lt_of_le (List.getElem?_eq_some_iff.1 hl).1 hs.big
 have hιA:ιA l=some p:=g2 l p (.inl hround.1) hpl
 obtain ⟨tmA,fnA,hszA,hrecA,hslA,hrelA⟩:=g4.rel.setLoop (by rw [Zr hlB0,hlA]; rfl) hιA (by simp) .busy peL (by simp)
 refine ⟨_,run_beginRound hrecA rfl,?_⟩
 have hroundA:J8 ιA (some l) (some p.blk) st.objs.length:=hround.mono g2
 refine hB B W0 (dl++D0) dlA MA ιA aA _ _ _ (some p.blk) ⟨by rw [Qci hlA rfl rfl hlB0]; exact hrelA,g4.slots,g4.nt,g4.df,fun k hk=>g4.new k (by simpa using hk),by simpa using g4.big⟩ hroundA ⟨?_,fun v hv=>by cases hv⟩
 intro eB stB he dlB MB ιB aB WB k1 k2 k3 k4
 cases he
 have hιB:ιB l=some p:=k2 l p (.inl hround.1) hιA
 obtain ⟨tmB,fnB,hszB,hrecB,hslB,hrelB⟩:=k4.rel.setLoop (by rw [Zr hlB0,hlB]; rfl) hιB (by simp) (if e.pend.isNone then .ready else .done) e.pend (by split <;> simp)
 have hle:ι.le ιB:=fun k q hk=>by
  have hkl:InB st.objs.length k:=Classical.byContradiction fun e=>by rw [hs.new k e] at hk; cases hk
  exact k2 k q hkl (g2 k q hkl hk)
 have hrelB':Rel P B W0 (dl++D0) MB ιB (sto (st'.objs.set l (.loop nt2 sl2 ps2 as2 bd2 (if e.pend.isNone then .ready else .done) e.pend))) (WB.putObj p.blk (.loop { state:=if e.pend.isNone then .ready else .done,pending:=e.pend,fn:=fnB,tmps:=tmB,params:=ps2.toArray,assign:=as2,body:=bd2,defers:=p.base })):=by
  rw [Qci hlB rfl rfl hlB0]; exact hrelB.mem (fun r hr=>List.mem_append.2 (.inr hr))
 have fin:∀v,v=Value.bool e.pend.isNone→Q .normal (a.put o.dst v) (WB.putObj p.blk (.loop { state:=if e.pend.isNone then .ready else .done,pending:=e.pend,fn:=fnB,tmps:=tmB,params:=ps2.toArray,assign:=as2,body:=bd2,defers:=p.base })):=by
  intro v hv
  obtain ⟨q1,q2,q3⟩:=Qbe (u:=v) (hs.slots.mono (g1.trans k1).le hle) hs.nt hput (fun y hy=>by cases hy; rw [hv]; exact .bool _)
  exact hp.go .normal _ rfl dl MB ιB _ _ (g1.trans k1) (hle.leB base) (List.suffix_refl _) ⟨hrelB',q1,q2,hs.df.put,fun k hk=>k4.new k (by simpa using hk),by simpa using k4.big⟩
 cases e with
 | normal=>exact ⟨_,_,run_endRound none hrecB,fin _ rfl⟩
 | ret=>exact ⟨_,_,run_endRound (some .ret) hrecB,fin _ rfl⟩
 | exit id=>exact ⟨_,_,run_endRound (some (.exit id)) hrecB,fin _ rfl⟩
 | goto l=>exact ⟨_,_,run_endRound (some (.goto l)) hrecB,fin _ rfl⟩
end
end Go.Ab
namespace Go.Ab
open Go.RowKit
section
variable {P:Program} {B:Nat} {W0 W:World} {D D0 dl dl1:List Nat} {M:CM} {ι ι1:Inj} {σ:Sto} {st st':St} {a:Act} {rd:Option Nat} {base:Nat} {out:AOut}
def Ql6 (st:St) (ps:List Tmp) (assign body:Code) (first caps:List AV) (nt:Nat):St :=
 ⟨J7 0 (first++[.yld st.objs.length]++caps),st.objs++[.loop st.nt st.slots ps assign body .ready none],nt⟩
noncomputable def J3 (P:Program) (fn:Func) (st:St):AOut→Option AOut
 | .pan v=>if Nat.blt st.objs.length BIG then some (.pan v) else none
 | .go e st'=>if Nat.blt st.objs.length BIG && e.ends && (resultA P fn st').isSome then match st'.objs[st.objs.length]? with
   | some (.loop _ _ _ _ _ s pe) =>
    match (match s with | .busy | .exhausted=>true | _=>false) with
    | true=>none
    | false=>match pe with
     | none=>some (.go .normal ⟨st.slots,st'.objs.set st.objs.length .dead,st.nt⟩)
     | some .ret=>some (.go .ret ⟨st.slots,st'.objs.set st.objs.length .dead,st.nt⟩)
     | some (.exit id)=>some (.go (.exit id) ⟨st.slots,st'.objs.set st.objs.length .dead,st.nt⟩)
     | _=>none
   | _=>none
  else none
theorem Qkp {fn:Func} {out0:AOut} (h:J3 P fn st out0=some out):st.objs.length < BIG:=by
 unfold J3 at h
 split at h <;> split at h
 ·rename_i c; exact Yc c
 ·cases h
 ·rename_i c; simp only [Bool.and_eq_true] at c; exact Yc c.1.1
 ·cases h
theorem Qor {r:Option Nat} {n:Nat} {Q:Exit→Act→World→Prop} {f:FuncId} {fn:Func} {c:Code} {first caps:List AV} {first' caps':Array Value} {l:Nat} {ps:List Tmp} {assign body:Code} {out0:AOut} {a1:Act}
  (hf:P.funcs[f]?=some fn) (hb:fn.body=some c) (hle:(first++[AV.yld st.objs.length]++caps).length≤fn.ntmps)
  (h:Xe P none (st.objs.length+1) c (Ql6 st ps assign body first caps fn.ntmps) out0) (hout:J3 P fn st out0=some out)
  (h1:first'.size=first.length) (h2:caps'.size=caps.length) (hr1:∀(j:Nat) (v:Value) (y:AV),first'[j]?=some v→first[j]?=some y→Qa M ι v y) (hr2:∀(j:Nat) (v:Value) (y:AV),caps'[j]?=some v→caps[j]?=some y→Qa M ι v y)
  (hrel:Rel P B W0 (dl1++D0) M ι (sto (st.objs++[AObj.loop st.nt st.slots ps assign body .ready none])) W) (hnew:∀k,¬ InB (st.objs.length+1) k→ι k=none) (hl:∃p,ι st.objs.length=some p∧p.blk=l)
  (hsl:Qi M ι (lk st.slots) a1.tmps) (hnt:a1.tmps.size=st.nt) (hdf:Qps B D0 dl1 a1)
  (hgo:∀e st'',out=.go e st''→∀M' ι' W',CM.Grow B M M'→ι.le ι'→Sim P B W0 D0 dl1 M' ι' st'' a1 W'→Q e.exit' a1 W')
  (hpan:∀x,out=.pan x→∀M' W' u,CM.Grow B M M'→Rel P B W0 (dl1++D0) M' noInj (fun _=>none) W'→Qa M' noInj u x→Q (.panic [{ v:=u,recovered:=false }]) a1 W') :
  CallsIn (FW r) (n - 1) P f (first'++#[.func (.yield l) #[] #[]]++caps') W (rangePost (FW r) n P l Q a1):=by
 obtain ⟨p,hp,rfl⟩:=hl
 have hbig:st.objs.length < BIG:=Qkp hout
 have hlen:(st.objs++[AObj.loop st.nt st.slots ps assign body .ready none]).length=st.objs.length+1:=by simp
 refine Qkx hf hb (objs:=st.objs++[AObj.loop st.nt st.slots ps assign body .ready none]) (slots:=J7 0 (first++[.yld st.objs.length]++caps)) (out:=out0) (by rw [hlen]; exact h) hrel hdf.nd (fun k hk=>hnew k (by rw [hlen] at hk; exact hk)) (by rw [hlen]; exact hbig) ?_ ?_ ?_ ?_ ?_
 ·refine Qn0 (as:=[AV.yld st.objs.length]) (vs:=#[.func (.yield p.blk) #[] #[]]) h1 h2 rfl hr1 (fun j v y hv hy=>?_) hr2 _
  cases j with
  | zero=>simp at hv hy; subst hv; subst hy; exact .yld _ p hp
  | succ j=>simp at hy
 ·have:(first'++#[Value.func (.yield p.blk) #[] #[]]++caps').size=(first++[AV.yld st.objs.length]++caps).length:=by simp [h1,h2]; omega
  omega
 ·intro e st2 x he hends hx v M' ι' W' g1 g2 g3 g4 g4b g5
  subst he
  have hιp:ι' st.objs.length=some p:=g2 _ _ hp
  simp only [J3,Qn2 hbig,hends,hx,Option.isSome_some,Bool.and_self,if_true] at hout
  split at hout
  ·rename_i nt2 sl2 ps2 as2 bd2 s pe hobj
   split at hout
   ·cases hout
   ·rename_i hbusy
    have hs:s≠.busy:=fun e=>by subst e; simp at hbusy
    have hs2:s≠.exhausted:=fun e=>by subst e; simp at hbusy
    obtain ⟨tm,fnB,hsz,hrec,hslB,hrelB⟩:=g3.endLoop (by rw [Zr hbig,hobj]; rfl) hιp hs2
    refine ⟨pe,_,run_endLoop hrec hs,?_⟩
    have hrelD:Rel P B W0 (dl1++D0) M' ι' (sto (st2.objs.set st.objs.length .dead)) (W'.putObj p.blk (.loop { state:=.exhausted,pending:=pe,fn:=fnB,tmps:=tm,params:=ps2.toArray,assign:=as2,body:=bd2,defers:=p.base })):=by
     refine hrelB.forget (fun k=>?_)
     rw [Qci hobj rfl rfl hbig]
     by_cases e:k=st.objs.length
     ·subst e; right; right; exact Sto.put_same _ _ _
     ·left; rfl
    have fin:∀e2,out=.go e2 ⟨st.slots,st2.objs.set st.objs.length .dead,st.nt⟩→Q e2.exit' a1 (W'.putObj p.blk (.loop { state:=.exhausted,pending:=pe,fn:=fnB,tmps:=tm,params:=ps2.toArray,assign:=as2,body:=bd2,defers:=p.base })):=fun e2 he =>
     hgo e2 _ he M' ι' _ g1 g2 ⟨hrelD,hsl.mono g1.le g2,hnt,hdf,fun k hk=>g4 k (by simpa using hk),by simpa using g4b⟩
    split at hout
    ·cases hout; exact fin .normal rfl
    ·cases hout; exact wpIn_ret (fin .ret rfl)
    ·cases hout; exact wpIn_exit (fin (.exit _) rfl)
    ·cases hout
  ·cases hout
 ·cases out0 with
  | pan v=>trivial
  | go e st2 =>
   simp only [J3] at hout
   split at hout
   ·rename_i hc; simp only [Bool.and_eq_true] at hc; exact ⟨hc.1.2,hc.2⟩
   ·cases hout
 ·intro x hx v M' W' g1 g2 g3
  subst hx
  simp only [J3,Qn2 hbig,if_true] at hout
  cases hout
  exact hpan x rfl M' W' v g1 g2 g3
theorem Qpm {g:Operand} {ps:Array Tmp} {assign body:Code} {f:FuncId} {fn:Func} {c:Code} {first caps:List AV} {out0:AOut}
  (hg:evo (lk st.slots) g=some (.fn (.func f) first caps)) (hf:P.funcs[f]?=some fn) (hb:fn.body=some c) (hn:(fn.name == "runtime.NumGoroutine")=false) (hle:(first++[AV.yld st.objs.length]++caps).length≤fn.ntmps)
  (hrd:∀l,rd=some l→∃nt sl ps as bd s pe,st.objs[l]?=some (.loop nt sl ps as bd s pe)∧s≠.exhausted)
  (h:Xe P none (st.objs.length+1) c (Ql6 st ps.toList assign body first caps fn.ntmps) out0) (hout:J3 P fn st out0=some out):Xe P rd base (.rangeFunc g ps assign body) st out:=by
 intro B W0 D0 dl M ι a W n Q r hs hr hp
 have hgv:=Qg hs.slots hg
 generalize hgu:a.eval g=gu at hgv
 cases hgv with
 | fn _ first' caps' _ _ hy hm h1 h2 hr1 hr2 =>
 have hbig:st.objs.length < BIG:=Qkp hout
 have hon:ι st.objs.length=none:=hs.new _ (InB.not (Nat.le_refl _) hbig)
 have resolves:∀l W,(resolve a.eval (rangeCall g l) 0).run P W=.ok { target:=.fn (.func f) caps',args:=first'++#[.func (.yield l) #[] #[]] } W:=fun l W=>by
  have hc:Array.map a.eval #[Operand.const (Value.func (Fn.yield l) #[] #[])]=#[Value.func (.yield l) #[] #[]]:=by simp [Act.eval]
  simp only [resolve,hgu,Deferred.ofValue,Sem.run_pure,hc]
 have invokes:∀l W,(invoke (.fn (.func f) caps') (first'++#[.func (.yield l) #[] #[]])).run P W=.ok (.enter f (first'++#[.func (.yield l) #[] #[]]++caps')) W:=fun l W=>by
  simp only [invoke]
  exact Ji hf (by rw [hb]; rfl) hn _ W
 refine wpIn_rangeFunc (fun fnId _=>?_)
 cases rd with
 | none =>
  have hr:r=none:=hr
  subst hr
  have hd1:=hs.rel.allocDef
  have hsd:Qi M ι (lk st.slots) a.tmps:=hs.slots
  have hrel:=hd1.allocLoop hon (fn:=fnId) hs.nt hsd ps assign body W.heap.size
  rw [←Qid (x:=AObj.loop st.nt st.slots ps.toList assign body .ready none) rfl hbig] at hrel
  have hsz1:(W.alloc (.deferred (some []))).heap.size=W.heap.size+1:=by simp
  rw [hsz1] at hrel
  refine ⟨_,_,_,_,_,f,_,_,run_enterLoop_outer _ _ _ _ _,resolves _ _,fun _ _=>trivial,invokes _ _,fun hd=>by simp [FW,Fence.wide] at hd,?_⟩
  refine Qor (dl1:=W.heap.size::dl) hf hb hle h hout h1 h2 (fun j v y x1 x2=>(hr1 j v y x1 x2).mono (CM.le_refl _) (Inj.le_put _ hon)) (fun j v y x1 x2=>(hr2 j v y x1 x2).mono (CM.le_refl _) (Inj.le_put _ hon)) hrel ?_ ⟨_,Inj.put_same _ _ _,rfl⟩
   (hs.slots.mono (CM.le_refl _) (Inj.le_put _ hon)) hs.nt ?_ ?_ ?_
  ·intro k hk
   rw [Inj.put_ne _ _ (fun e=>hk (.inl (by omega)))]; exact hs.new k (fun c=>hk (c.mono (Nat.le_succ _)))
  ·refine ⟨by show [mk W.heap.size]++a.defers=_; rw [hs.df.defs]; rfl,fun q hq=>?_,?_⟩
   ·rcases List.mem_cons.1 hq with rfl | hq
    ·exact hs.rel.size
    ·exact hs.df.old q hq
   ·refine List.nodup_cons.2 ⟨fun hm=>?_,hs.df.nd⟩
    have:=hs.rel.defs _ hm
    rw [Array.getElem?_eq_none (Nat.le_refl _)] at this
    cases this
  ·intro e st'' he M' ι' W' g1 g2 g3
   exact hp.go e st'' he _ M' ι' _ W' g1 ((Inj.le_trans (Inj.le_put _ hon) g2).leB base) ⟨[W.heap.size],rfl⟩ g3
  ·intro x he M' W' u g1 g2 g3
   refine hp.pan x he _ M' _ W' u g1 ⟨[W.heap.size],rfl⟩ g2 ⟨by show [mk W.heap.size]++a.defers=_; rw [hs.df.defs]; rfl,fun q hq=>?_,?_⟩ g3
   ·rcases List.mem_cons.1 hq with rfl | hq
    ·exact hs.rel.size
    ·exact hs.df.old q hq
   ·refine List.nodup_cons.2 ⟨fun hm=>?_,hs.df.nd⟩
    have:=hs.rel.defs _ hm
    rw [Array.getElem?_eq_none (Nat.le_refl _)] at this
    cases this
 | some l0 =>
  obtain ⟨hl0,p0,hp0,hr⟩:=hr
  subst hr
  obtain ⟨nt,sl,ps0,as0,bd0,s0,pe0,hobj,hs0⟩:=hrd l0 rfl
  obtain ⟨q,fn0,hq,_,hB0,tm0,hsz0,hrec0,hsl0⟩:=hs.rel.loop l0 _ _ _ _ _ _ _ (by rw [Zr (Nat.lt_of_lt_of_le (List.getElem?_eq_some_iff.1 hobj).1 hs.big),hobj]; rfl)
  rw [hp0] at hq; cases hq
  rw [Qcc hs0] at hrec0
  have hrel:=hs.rel.allocLoop hon (fn:=fnId) hs.nt hs.slots ps assign body p0.base
  rw [←Qid (x:=AObj.loop st.nt st.slots ps.toList assign body .ready none) rfl hbig] at hrel
  refine ⟨_,_,_,_,_,f,_,_,run_enterLoop_inner hrec0 _ _ _ _ _,resolves _ _,fun _ _=>trivial,invokes _ _,fun hd=>by simp [FW,Fence.wide] at hd,?_⟩
  refine Qor (dl1:=dl) hf hb hle h hout h1 h2 (fun j v y x1 x2=>(hr1 j v y x1 x2).mono (CM.le_refl _) (Inj.le_put _ hon)) (fun j v y x1 x2=>(hr2 j v y x1 x2).mono (CM.le_refl _) (Inj.le_put _ hon)) hrel ?_ ⟨_,Inj.put_same _ _ _,rfl⟩
   (hs.slots.mono (CM.le_refl _) (Inj.le_put _ hon)) hs.nt ⟨by simpa using hs.df.defs,hs.df.old,hs.df.nd⟩ ?_ ?_
  ·intro k hk
   rw [Inj.put_ne _ _ (fun e=>hk (.inl (by omega)))]; exact hs.new k (fun c=>hk (c.mono (Nat.le_succ _)))
  ·intro e st'' he M' ι' W' g1 g2 g3
   exact hp.go e st'' he _ M' ι' _ W' g1 ((Inj.le_trans (Inj.le_put _ hon) g2).leB base) (List.suffix_refl _) g3
  ·intro x he M' W' u g1 g2 g3
   exact hp.pan x he _ M' _ W' u g1 (List.suffix_refl _) g2 ⟨by simpa using hs.df.defs,hs.df.old,hs.df.nd⟩ g3
end
end Go.Ab
namespace Go.Ab
open Go.RowKit
section
variable {P:Program} {nf:Bool} {C:FuncId→List AV→Option Xp} {σ σ':Sto} {s s':Slots} {fr:Nat} {o:Oper} {res:Res}
theorem evos_congr:∀{xs:List Operand},(∀x∈xs,evo s' x=evo s x)→Jw s' xs=Jw s xs
 | [],_=>rfl
 | x::xs,h=>by
  have e:=evos_congr (xs:=xs) (fun y hy=>h y (List.mem_cons_of_mem _ hy))
  simp only [Jw,h x (by simp),e]
theorem Qe2:∀{xs:List (Nat × Operand)},(∀x∈xs.map (·.2),evo s' x=evo s x)→Kx s' xs=Kx s xs
 | [],_=>rfl
 | (i,x)::xs,h=>by
  have e:=Qe2 (xs:=xs) (fun y hy=>h y (List.mem_cons_of_mem _ hy))
  simp only [Kx,h x (by simp),e]
theorem Qs2 (h:∀x∈o.op.operands,evo s' x=evo s x):evalOp P nf C σ fr s' o=evalOp P nf C σ fr s o:=by
 obtain ⟨dst,op,type,pos,after,guard⟩:=o
 cases op
 case call c =>
  obtain ⟨cal,args,ts⟩:=c
  cases cal with
  | value g =>
   simp only [Op.operands,Call.operands] at h
   unfold evalOp
   simp only
   rw [h g (by simp),evos_congr (s:=s) (s':=s') (fun x hx=>h x (by simp [Array.mem_toList_iff.1 hx]))]
  | invoke g m=>rfl
  | builtin b =>
   simp only [Op.operands,Call.operands] at h
   unfold evalOp
   simp only
   have h':∀x∈args.toList,evo s' x=evo s x:=fun x hx=>h x (by simpa using hx)
   generalize args.toList=as at h'
   cases b <;> simp only
   all_goals first
    | rfl
    | (unfold Qrq; split <;> first | rw [h' _ (by simp)] | rfl)
    | (unfold Qxa; split <;> first | rw [h' _ (by simp)] | rfl)
    | (unfold Qbz; split <;> first | rw [h' _ (by simp),h' _ (by simp)] | rfl)
    | (unfold Qf0; split <;> first | rw [h' _ (by simp),h' _ (by simp)] | rfl)
    | (unfold Qxp; split <;> first | rw [h' _ (by simp),evos_congr (fun x hx=>h' x (by simp [hx]))] | rfl)
    | (unfold Qv8; split <;> first | rw [h' _ (by simp),evos_congr (fun x hx=>h' x (by simp [hx]))] | rfl)
 all_goals simp only [Op.operands] at h; unfold evalOp; simp only
 case move x=>rw [h x (by simp)]
 case assign x=>rw [h x (by simp)]
 case pick c a b=>rw [h c (by simp),h a (by simp),h b (by simp)]
 case box t x=>rw [h x (by simp)]
 case build t ps=>rw [Qe2 (s:=s) (s':=s') (fun x hx=>h x (by simpa using hx))]
 case buildSlice t n ps=>rw [Qe2 (s:=s) (s':=s') (fun x hx=>h x (by simpa using hx))]
 case load t x=>rw [h x (by simp)]
 case store t x y=>rw [h x (by simp),h y (by simp)]
 case nilCheck x=>rw [h x (by simp)]
 case binOp op t x y u=>rw [h x (by simp),h y (by simp)]
 case unOp op t x=>rw [h x (by simp)]
 case convert u t x=>rw [h x (by simp)]
 case makeFunc f a b=>rw [evos_congr (s:=s) (s':=s') (fun x hx=>h x (by simp [Array.mem_toList_iff.1 hx])),evos_congr (s:=s) (s':=s') (xs:=b.toList) (fun x hx=>h x (by simp [Array.mem_toList_iff.1 hx]))]
 case makeSlice t l c=>rw [h l (by simp),h c (by simp)]
 case slice t x lo hi mx =>
  have e:∀y:Option Operand,(∀z∈y.toArray,evo s' z=evo s z)→Km s' y=Km s y:=fun y hy=>by
   cases y with
   | none=>rfl
   | some z=>simp [Km,hy z (by simp)]
  rw [h x (by simp),e lo (fun z hz=>h z (by simp at hz ⊢; simp [hz])),e hi (fun z hz=>h z (by simp at hz ⊢; simp [hz])),e mx (fun z hz=>h z (by simp at hz ⊢; simp [hz]))]
 case fieldAddr t x f=>rw [h x (by simp)]
 case field t x f=>rw [h x (by simp)]
 case indexAddr t x y=>rw [h x (by simp),h y (by simp)]
 case index t x y=>rw [h x (by simp),h y (by simp)]
 case extract x i=>rw [h x (by simp)]
 case panic x=>rw [h x (by simp)]
 case makeMap t r=>cases r <;> rfl
 case lookup t x y c=>unfold Qgf; rw [h x (by simp),h y (by simp)]
 case mapUpdate t m x y=>unfold Qg4; rw [h m (by simp),h x (by simp),h y (by simp)]
 case insert t m x y=>unfold Qg4; rw [h m (by simp),h x (by simp),h y (by simp)]
 case mapEntry t m x=>unfold Qhm; rw [h m (by simp),h x (by simp)]
 case entryStore t m x y=>unfold Qf9; rw [h m (by simp),h x (by simp),h y (by simp)]
end
end Go.Ab
namespace Go.Ab
open Go.RowKit
section
variable {P:Program} {nf:Bool} {C:FuncId→List AV→Option Xp} {σ σ':Sto} {s s':Slots} {fr:Nat} {o:Oper} {res:Res}
theorem Kt {f g:AV→Option (AV × List Nat)} (σ σ':Sto) (h:∀x b ids,f x=some (b,ids)→(∀k∈ids,σ' k=σ k)→g x=some (b,ids)):∀(xs ys:List AV) (ids:List Nat),Q6 f xs=some (ys,ids)→(∀k∈ids,σ' k=σ k)→Q6 g xs=some (ys,ids)
 | [],ys,ids,he,_=>by simpa [Q6] using he
 | x::xs,ys,ids,he,hk=>by
  simp only [Q6] at he
  split at he
  ·rename_i y a ys0 b h1 h2
   cases he
   simp only [Q6,h x y a h1 (fun k hk'=>hk k (by simp [hk'])),Kt σ σ' h xs ys0 b h2 (fun k hk'=>hk k (by simp [hk']))]
  ·cases he
theorem Ko:∀(d:Nat) (a b:AV) (ids:List Nat),Qu σ d a=some (b,ids)→(∀k∈ids,σ' k=σ k)→Qu σ' d a=some (b,ids)
 | 0,a,b,ids,he,_=>by simp [Qu] at he
 | d+1,a,b,ids,he,hk=>by
  have rec':∀xs ys ids,Q6 (Qu σ d) xs=some (ys,ids)→(∀k∈ids,σ' k=σ k)→Q6 (Qu σ' d) xs=some (ys,ids):=fun xs ys ids=>Kt σ σ' (fun x b ids=>Ko d x b ids) xs ys ids
  unfold Qu at he ⊢
  cases a with
  | ref o i n =>
   simp only at he ⊢
   split at he
   ·rename_i bx ro nr fl w xs hσ
    split at he
    ·rename_i hlen
     split at he
     ·cases he
      rw [hk o (by simp),hσ]; simp_all
     ·split at he
      ·rename_i ys ids' hm
       cases he
       rw [hk o (by simp),hσ]
       simp only [rec' _ _ _ hm (fun k hk'=>hk k (by simp [hk']))]
       simp_all
      ·cases he
    ·cases he
   ·cases he
  | ptr o i c =>
   simp only at he ⊢
   split at he
   ·rename_i bx ro nr fl w xs hσ
    split at he
    ·rename_i ys ids' hm
     split at he
     ·rename_i y hy
      cases he
      rw [hk o (by simp),hσ]
      simp only [rec' _ _ _ hm (fun k hk'=>hk k (by simp [hk'])),hy]
     ·cases he
    ·cases he
   ·cases he
  | agg cs =>
   simp only at he ⊢
   split at he
   ·rename_i ys ids' hm; cases he; simp only [rec' _ _ _ hm hk]
   ·cases he
  | tup cs =>
   simp only at he ⊢
   split at he
   ·rename_i ys ids' hm; cases he; simp only [rec' _ _ _ hm hk]
   ·cases he
  | fn f x y =>
   simp only at he ⊢
   split at he
   ·rename_i x' i y' j h1 h2
    cases he
    simp only [rec' _ _ _ h1 (fun k hk'=>hk k (by simp [hk'])),rec' _ _ _ h2 (fun k hk'=>hk k (by simp [hk']))]
   ·cases he
  | ifc t v =>
   simp only at he ⊢
   split at he
   ·rename_i y i h1; cases he; simp only [Ko d _ _ _ h1 hk]
   ·cases he
  | mp o=>simp at he
  | yld o=>simp at he
  | _=>simpa using he
theorem Qgv {ids:List Nat} {es:List (Nat × AObj)} (he:frz σ ids=some es) (hk:∀k∈ids,σ' k=σ k):frz σ' ids=some es:=by
 unfold frz at *
 have go:∀(l:List Nat) (es:List (Nat × AObj)),(∀k∈l,k∈ids)→Qcy σ ids l=some es→Qcy σ' ids l=some es:=by
  intro l
  induction l with
  | nil=>intro es _ h; simpa [Qcy] using h
  | cons o os ih =>
   intro es hl h
   simp only [Qcy] at h ⊢
   split at h
   ·rename_i bx ro nr fl w xs es0 h1 h2
    rw [hk o (hl o (by simp)),h1,ih es0 (fun k hk'=>hl k (by simp [hk'])) h2]
    simp only
    split at h
    ·rename_i hn; rw [if_pos hn]; exact h
    ·rename_i hn
     rw [if_neg hn]
     split at h
     ·rename_i ys ids' hm
      split at h
      ·rename_i hall
       have hall':∀k∈ids',k∈ids:=fun k hk'=>by
        have:=List.all_eq_true.1 hall k hk'
        simpa using this
       rw [Kt σ σ' (fun x b ids=>Ko (σ:=σ) (σ':=σ') Qs x b ids) _ _ _ hm (fun k hk'=>hk k (hall' k hk'))]
       simp only [hall,if_true]
       exact h
      ·cases h
     ·cases h
   ·cases h
 exact go ids es (fun k hk=>hk) he
theorem Qgu:∀(ps qs:List (Nat × AV)) (ids:List Nat),Zx σ ps=some (qs,ids)→(∀k∈ids,σ' k=σ k)→Zx σ' ps=some (qs,ids)
 | [],qs,ids,he,_=>by simpa [Zx] using he
 | (i,x)::r,qs,ids,he,hk=>by
  simp only [Zx] at he ⊢
  split at he
  ·rename_i y a ys b h1 h2
   cases he
   rw [Qgu r ys b h2 (fun k hk'=>hk k (by simp [hk']))]
   split at h1
   ·rename_i hn; cases h1; simp [hn]
   ·rename_i hn
    simp only [hn]
    simp [Ko _ _ _ _ h1 (fun k hk'=>hk k (by simp [hk']))]
  ·cases he
theorem Kq {w:Nat} {a:AV} {ys:List AV} {nr fl:Bool} {rd:List Nat} (he:Yh σ w a=some (ys,nr,fl,rd)) (hk:∀k∈rd,σ' k=σ k):Yh σ' w a=some (ys,nr,fl,rd):=by
 unfold Yh at he ⊢
 cases a with
 | ref o i n =>
  simp only at he ⊢
  split at he
  ·rename_i ro nr' fl' w' xs hσ
   split at he
   ·rename_i hc; cases he; rw [hk o (by simp),hσ]; simp only [hc,if_true]
   ·cases he
  ·cases he
 | _=>exact he
theorem Qjv {T:TI} {a:AV} {ys:List AV} {nr fl:Bool} {r:Res} (he:absAppend σ fr T a ys nr fl=some r) (hk:∀k∈r.rd,σ' k=σ k):absAppend σ' fr T a ys nr fl=some r:=by
 unfold absAppend at he ⊢
 cases a with
 | ref o i n =>
  simp only at he ⊢
  have key:σ' o=σ o:=by
   split at he
   ·split at he
    ·split at he
     ·split at he
      ·cases he; exact hk o (by simp)
      ·cases he
     ·split at he
      ·cases he; exact hk o (by simp)
      ·split at he
       ·cases he; exact hk o (by simp)
       ·split at he
        ·cases he; exact hk o (by simp)
        ·cases he
    ·cases he
   ·cases he
  rw [key]; exact he
 | _=>exact he
theorem Qp6 {w:Nat} {x:AV} {l h m:Option AV} {r:AV × List Nat} (he:J4 σ w x l h m=some r) (hk:∀k∈r.2,σ' k=σ k):J4 σ' w x l h m=some r:=by
 unfold J4 at he ⊢
 cases x with
 | ref o i n =>
  simp only at he ⊢
  have key:σ' o=σ o:=by
   split at he
   ·split at he
    ·split at he
     ·cases he; exact hk o (by simp)
     ·cases he
    ·split at he
     ·split at he
      ·cases he; exact hk o (by simp)
      ·cases he
     ·cases he
    ·cases he
   ·cases he
  rw [key]; exact he
 | _=>exact he
theorem Qrj {f:FuncId} {args:List AV} (he:Qfu C σ fr f args=some (.val res)) (hk:∀k∈res.rd,σ' k=σ k):Qfu C σ' fr f args=some (.val res):=by
 unfold Qfu at he ⊢
 split at he
 ·rename_i as ids hm
  have hids:res.rd=ids:=by
   split at he
   ·split at he
    ·split at he
     ·cases he; rfl
     ·split at he
      ·cases he; rfl
      ·cases he
    ·cases he
   ·cases he
   ·cases he
  rw [Kt σ σ' (fun x b ids=>Ko (σ:=σ) (σ':=σ') Qs x b ids) _ _ _ hm (fun k hk'=>hk k (by rw [hids]; exact hk'))]
  try simp only
  split at he
  ·rename_i r0 objs hco
   try simp only [hco]
   split at he
   ·rename_i hok
    try simp only [hok,if_true]
    split at he
    ·rename_i hc; simp only [hc,if_true]; exact he
    ·rename_i hc
     try simp only [hc]
     split at he
     ·rename_i es hf
      rw [Qgv hf (fun k hk'=>hk k (by rw [hids]; exact hk'))]
      exact he
     ·cases he
   ·cases he
  ·rename_i hco; exact he
  ·cases he
 ·cases he
theorem Qpt {args:List Operand} {ts:List TypeId} (he:Qbz P nf σ fr s args ts=some (.val res)) (hk:∀k∈res.rd,σ' k=σ k):Qbz P nf σ' fr s args ts=some (.val res):=by
 unfold Qbz at he ⊢
 split at he
 ·rename_i x y t u r
  split at he
  ·rename_i T U a b hT hU ha hb
   try simp only [hT,hU,ha,hb]
   split at he
   ·cases he
   ·rename_i htu
    try simp only [htu]
    split at he
    ·rename_i e hkind
     try simp only [hkind]
     split at he
     ·rename_i E hE
      try simp only [hE]
      split at he
      ·rename_i ys nr fl rd hel
       split at he
       ·rename_i hnr
        cases hap:absAppend σ fr E a ys nr fl with
        | none=>simp [hap] at he
        | some r1 =>
         try simp only [hap,Option.map_some] at he
         cases he
         rw [Kq hel (fun k hk'=>hk k (by simp [hk']))]
         try simp only [hnr,if_true,Qjv hap (fun k hk'=>hk k (by simp [hk'])),Option.map_some]
         simp
       ·rename_i hnr
        split at he
        ·rename_i ys' ids hm
         split at he
         ·rename_i es r1 hf hap
          split at he
          ·cases he
          ·rename_i hany
           cases he
           rw [Kq hel (fun k hk'=>hk k (by simp [hk']))]
           try simp only [hnr]
           rw [Kt σ σ' (fun x b ids=>Ko (σ:=σ) (σ':=σ') Qs x b ids) _ _ _ hm (fun k hk'=>hk k (by simp [hk']))]
           try simp only [Qgv hf (fun k hk'=>hk k (by simp [hk'])),Qjv hap (fun k hk'=>hk k (by simp [hk']))]
           simp [hany]
         ·cases he
        ·cases he
      ·cases he
     ·cases he
    ·cases he
  ·cases he
 ·cases he
theorem Qt8 {args:List Operand} {ts:List TypeId} (he:Qf0 P nf σ fr s args ts=some (.val res)) (hk:∀k∈res.rd,σ' k=σ k):Qf0 P nf σ' fr s args ts=some (.val res):=by
 unfold Qf0 at he ⊢
 split at he
 ·rename_i x y t r
  split at he
  ·rename_i T a b hT ha hb
   try simp only [hT,ha,hb]
   split at he
   ·rename_i e hkind
    try simp only [hkind]
    split at he
    ·rename_i E hE
     try simp only [hE]
     split at he
     ·rename_i ys nr fl rd hel
      cases a with
      | ref o i n =>
       try simp only at he ⊢
       split at he
       ·rename_i nr' fl' w xs hσ
        split at he
        ·rename_i hc
         cases he
         rw [Kq hel (fun k hk'=>hk k (by simp [hk']))]
         try simp only
         rw [hk o (by simp),hσ]
         simp [hc]
        ·cases he
       ·cases he
      | nils=>cases he; rw [Kq hel hk]
      | emp=>cases he; rw [Kq hel hk]
      | _=>cases he
     ·cases he
    ·cases he
   ·cases he
  ·cases he
 ·cases he
end
end Go.Ab
namespace Go.Ab
open Go.RowKit
section
variable {P:Program} {nf:Bool} {C:FuncId→List AV→Option Xp} {σ σ':Sto} {s s':Slots} {fr:Nat} {o:Oper} {res:Res}
theorem Qee (he:evalOp P nf C σ fr s o=some (.val res)) (hk:∀k∈res.rd,σ' k=σ k):evalOp P nf C σ' fr s o=some (.val res):=by
 obtain ⟨dst,op,type,pos,after,guard⟩:=o
 cases op
 case call c =>
  obtain ⟨cal,args,ts⟩:=c
  cases cal with
  | value g =>
   unfold evalOp at he ⊢
   simp only at he ⊢
   split at he
   ·exact Qrj he hk
   ·cases he
  | invoke g m=>unfold evalOp at he; cases he
  | builtin b =>
   unfold evalOp at he ⊢
   simp only at he ⊢
   generalize args.toList=as at *
   generalize ts.toList=tl at *
   cases b <;> first | exact he | exact Qpt he hk | exact Qt8 he hk
 case load t x =>
  unfold evalOp at he ⊢
  simp only at he ⊢
  split at he
  ·exact he
  ·rename_i T ob ii c hT hx
   have key:σ' ob=σ ob:=by
    split at he
    ·split at he
     ·simp only [Option.map_eq_some_iff] at he
      obtain ⟨z,_,hz⟩:=he
      cases hz; exact hk ob (by simp)
     ·cases he
    ·cases he
   rw [key]; exact he
  ·cases he
 case store t x y =>
  unfold evalOp at he ⊢
  simp only at he ⊢
  split at he
  ·rename_i T ob ii c v0 hT hx hy
   split at he
   ·rename_i bx nr fl w xs hσ
    split at he
    ·rename_i x0 hx0
     split at he
     ·rename_i hok
      split at he
      ·rename_i v ids hsn
       split at he
       ·rename_i x' es hput hf
        split at he
        ·cases he
        ·rename_i hcon
         cases he
         rw [hk ob (by simp),hσ]
         simp only [hx0,hok,if_true]
         have hs':(if bx || nf || v0.nr then some (v0,[]) else Qu σ' Qs v0)=some (v,ids):=by
          split at hsn
          ·rename_i hc; rw [if_pos hc]; exact hsn
          ·rename_i hc; rw [if_neg hc]; exact Ko _ _ _ _ hsn (fun k hk'=>hk k (by simp [hk']))
         rw [hs']
         simp only [hput,Qgv hf (fun k hk'=>hk k (by simp [hk']))]
         rw [if_neg hcon]
       ·cases he
      ·cases he
     ·cases he
    ·cases he
   ·cases he
  ·cases he
 case buildSlice t n ps =>
  unfold evalOp at he ⊢
  simp only at he ⊢
  split at he
  ·rename_i T hT
   split at he
   ·rename_i e hkd
    split at he
    ·rename_i E parts0 hE hps
     split at he
     ·rename_i hn0; rw [if_pos hn0]; exact he
     ·rename_i hn0
      rw [if_neg hn0]
      split at he
      ·rename_i z parts ids hz hsn
       split at he
       ·rename_i hc
        split at he
        ·rename_i xs es hfill hf
         cases he
         have hs':(if nf then some (parts0,[]) else Zx σ' parts0)=some (parts,ids):=by
          split at hsn
          ·rename_i hc; rw [if_pos hc]; exact hsn
          ·rename_i hc; rw [if_neg hc]; exact Qgu _ _ _ hsn hk
         rw [hs']
         simp only [hz,Qgv hf hk,hfill,hc,if_true]
        ·cases he
       ·cases he
      ·cases he
    ·cases he
   ·cases he
  ·cases he
 case slice t x lo hi mx =>
  unfold evalOp at he ⊢
  simp only at he ⊢
  split at he
  ·cases he
  ·rename_i hm
   split at he
   ·rename_i T a l h m hT hx h1 h2 h3
    split at he
    ·rename_i e hkd
     split at he
     ·rename_i E hE
      simp only [Option.map_eq_some_iff] at he
      obtain ⟨r,hr,hz⟩:=he
      cases hz
      rw [if_neg hm,Qp6 hr hk]
      rfl
     ·cases he
    ·cases he
   ·cases he
 case indexAddr t x y =>
  unfold evalOp at he ⊢
  simp only at he ⊢
  split at he
  ·rename_i T a b hT hx hy
   split at he
   ·rename_i e j h1 h2
    split at he
    ·rename_i E hE
     split at he
     ·exact he
     ·rename_i ob ii n
      have key:σ' ob=σ ob:=by
       split at he
       ·split at he
        ·cases he; exact hk ob (by simp)
        ·cases he
       ·cases he
      rw [key]; exact he
     ·cases he
    ·cases he
   ·exact he
   ·cases he
  ·cases he
 case makeMap t r=>cases r <;> exact he
 case lookup t x y c =>
  unfold evalOp Qgf at he ⊢
  simp only at he ⊢
  split at he
  ·rename_i T ob k hT hx hy
   have key:σ' ob=σ ob:=by
    split at he
    ·split at he
     ·split at he
      ·cases he; exact hk ob (by simp)
      ·cases he
     ·split at he
      ·cases he; exact hk ob (by simp)
      ·cases he
     ·cases he
    ·cases he
   rw [key]; exact he
  ·cases he
 case mapUpdate t m x y =>
  unfold evalOp Qg4 at he ⊢
  simp only at he ⊢
  split at he
  ·rename_i T ob k v hT hm hx hy
   have key:σ' ob=σ ob:=by
    split at he
    ·split at he
     ·cases he; exact hk ob (by simp)
     ·cases he; exact hk ob (by simp)
     ·cases he
    ·cases he
   rw [key]; exact he
  ·cases he
 case insert t m x y =>
  unfold evalOp Qg4 at he ⊢
  simp only at he ⊢
  split at he
  ·rename_i T ob k v hT hm hx hy
   have key:σ' ob=σ ob:=by
    split at he
    ·split at he
     ·cases he; exact hk ob (by simp)
     ·cases he; exact hk ob (by simp)
     ·cases he
    ·cases he
   rw [key]; exact he
  ·cases he
 case mapEntry t m x =>
  unfold evalOp Qhm at he ⊢
  simp only at he ⊢
  split at he
  ·rename_i T ob k hT hm hx
   have key:σ' ob=σ ob:=by
    split at he
    ·split at he
     ·split at he
      ·cases he; exact hk ob (by simp)
      ·cases he
     ·split at he
      ·cases he; exact hk ob (by simp)
      ·cases he
     ·cases he
    ·cases he
   rw [key]; exact he
  ·cases he
 case entryStore t m x y =>
  unfold evalOp Qf9 at he ⊢
  simp only at he ⊢
  split at he
  ·rename_i ob i v hm hx hy
   have key:σ' ob=σ ob:=by
    split at he
    ·split at he
     ·cases he; exact hk ob (by simp)
     ·cases he
    ·cases he
   rw [key]; exact he
  ·cases he
 case panic x =>
  unfold evalOp at he
  simp only at he
  split at he
  ·split at he <;> cases he
  ·cases he
 all_goals first
  | exact he
  | (unfold evalOp at he ⊢; exact he)
theorem Qwt {o:Oper} (he:Z0 P nf C σ fr s o=some (.val res)) (hs:∀x∈o.op.operands,evo s' x=evo s x) (hk:∀k∈res.rd,σ' k=σ k):Z0 P nf C σ' fr s' o=some (.val res):=by
 unfold Z0 at he ⊢
 rw [Qs2 hs]
 split at he
 ·rename_i hm
  rw [if_pos hm]
  exact Qee he hk
 ·rename_i hm
  rw [if_neg hm]
  unfold Z7 at he
  split at he
  ·rename_i r h1
   cases he
   rw [Qee h1 hk]
   rfl
  ·cases he
end
end Go.Ab
namespace Go.Ab
open Go.RowKit
structure Foot where
 v:Option AV
 eff:List (Nat × AObj)
 fr:Nat
 fr':Nat
 rd:List Nat
 deriving Inhabited
def InR (lo hi id:Nat):Prop:=(lo≤id∧id < hi)∨∃k i,lo≤k∧k < hi∧id=fid k i
theorem InR.mono {lo hi lo' hi' k:Nat} (h:InR lo hi k) (h1:lo'≤lo) (h2:hi≤hi'):InR lo' hi' k:=by
 rcases h with h | ⟨j,i,h3,h4,e⟩
 ·exact .inl (by omega)
 ·exact .inr ⟨j,i,by omega,by omega,e⟩
theorem InR.disj {lo hi lo' hi' k:Nat} (h:InR lo hi k) (h':InR lo' hi' k) (hd:hi≤lo'∨hi'≤lo) (hb:hi≤BIG) (hb':hi'≤BIG):False:=by
 rcases h with h | ⟨j,i,h3,h4,rfl⟩
 ·rcases h' with h' | ⟨j,i,h3,h4,rfl⟩
  ·omega
  ·have:=Zu j i; omega
 ·rcases h' with h' | ⟨j',i',h3',h4',e⟩
  ·have:=Zu j i; omega
  ·have:=(Y4 e).1; omega
theorem InR.inB {lo hi k:Nat} (h:InR lo hi k):InB hi k:=by
 rcases h with h | ⟨j,i,h3,h4,e⟩
 ·exact .inl h.2
 ·exact .inr ⟨j,i,h4,e⟩
theorem InR.notB {lo hi k:Nat} (h:InR lo hi k) (hb:hi≤BIG):¬ InB lo k:=by
 rintro (c | ⟨j',i',h3',e⟩)
 ·rcases h with h | ⟨j,i,h3,h4,rfl⟩
  ·omega
  ·have:=Zu j i; omega
 ·subst e
  rcases h with h | ⟨j,i,h3,h4,e⟩
  ·have:=Zu j' i'; omega
  ·have:=(Y4 e).1; omega
def Kl (s:Slots) (dst:Option Nat) (v:Option AV):Slots:=fun k=>if dst=some k then v else s k
def Q5b (P:Program) (o:Oper) (s:Slots) (σ:Sto) (F:Foot):Prop :=
 ∀B W0 D M ι a W n Q r next,Rel P B W0 D M ι σ W→Qi M ι s a.tmps→(∀k,InR F.fr F.fr' k→ι k=none) →
  (∀v W' M' ι',CM.Grow B M M'→ι.le ι'→(∀k,¬ InR F.fr F.fr' k→ι' k=ι k)→Rel P B W0 D M' ι' (σ.puts F.eff) W'→(∀x,F.v=some x→Qa M' ι' v x)→next (a.put o.dst v) W') →
  o.wpIn (FW r) n P a W next Q
def Yl (P:Program) (ops:Array Oper) (o:Oper) (F:Foot) (s:Slots) (σ:Sto):Prop :=
 (Yj ops s o=some true∧Q5b P o s σ F)∨(Yj ops s o=some false∧F.v=(some (.tup []))∧F.eff=[])
def YlL (P:Program) (ops:Array Oper) (o:Oper) (F:Foot) (s:Slots) (σ:Sto):Prop :=
 ∀s' σ',(∀t∈o.looksAt ops,s' t=s t)→(∀k∈F.rd,σ' k=σ k)→Yl P ops o F s' σ'
def opA (P:Program) (ops:Array Oper) (Ft:Nat → Foot) (i:Nat) (K:Slots→Sto→Prop) (s:Slots) (σ:Sto):Prop :=
 match ops[i]? with
 | none=>K s σ
 | some o=>YlL P ops o (Ft i) s σ∧K (Kl s o.dst (Ft i).v) (σ.puts (Ft i).eff)
def Qkh (P:Program) (ops:Array Oper) (Ft:Nat → Foot) (Q:Slots→Sto→Prop):Nat → Array Bool→Slots→Sto→Prop
 | 0,listed,s,σ=>Region.ready .any ops listed=[]∧Q s σ
 | fuel+1,listed,s,σ=>(Region.ready .any ops listed=[]→Q s σ)∧∀i∈Region.ready .any ops listed,opA P ops Ft i (Qkh P ops Ft Q fuel (listed.setIfInBounds i true)) s σ
structure Qab (F G:Foot):Prop where
 a:∀e∈F.eff,e.1 ∉ G.rd
 b:∀e∈G.eff,e.1 ∉ F.rd
 c:∀e∈F.eff,∀e'∈G.eff,e.1≠e'.1
section
variable {P:Program} {ops:Array Oper} {Ft:Nat → Foot} {Q:Slots→Sto→Prop} {s:Slots} {σ:Sto}
theorem Qz9 {i:Nat} {K K':Slots→Sto→Prop} (h:∀s σ,K s σ→K' s σ) (hh:opA P ops Ft i K s σ):opA P ops Ft i K' s σ:=by
 unfold opA at *
 split
 ·rename_i ho; simp only [ho] at hh; exact h _ _ hh
 ·rename_i o ho; simp only [ho] at hh; exact ⟨hh.1,h _ _ hh.2⟩
theorem Qfx {es:List (Nat × AObj)} {k:Nat} (h:∀e∈es,e.1≠k):σ.puts es k=σ k:=by
 rcases σ.puts_at es k with ⟨h1,_⟩ | ⟨y,_,h2⟩
 ·exact h1
 ·exact absurd rfl (h _ h2)
theorem Qyo {e1 e2:List (Nat × AObj)} (h:∀e∈e1,∀e'∈e2,e.1≠e'.1):(σ.puts e1).puts e2=(σ.puts e2).puts e1:=by
 funext k
 by_cases hk:∃e∈e1,e.1=k
 ·obtain ⟨e,he,rfl⟩:=hk
  rw [Qfx (fun e' he'=>Ne.symm (h e he e' he'))]
  exact Qiq e1 _ (.inr ⟨e,he,rfl⟩)
 ·have hn:∀e∈e1,e.1≠k:=fun e he hek=>hk ⟨e,he,hek⟩
  rw [Qfx (σ:=σ.puts e2) hn]
  exact Qiq e2 _ (.inl (Qfx hn))
theorem Qy6 {d d':Option Nat} {v v':Option AV} (h:∀t,d=some t→d'≠some t):Kl (Kl s d v) d' v'=Kl (Kl s d' v') d v:=by
 funext k
 simp only [Kl]
 by_cases e:d=some k
 ·rw [if_neg (h k e),if_pos e,if_pos e]
 ·rw [if_neg e,if_neg e]
theorem Qr5 {d:Option Nat} {v:Option AV} {t:Nat} (h:∀k,d=some k→k≠t):Kl s d v t=s t:=by
 simp only [Kl]
 rw [if_neg (fun e=>h t e rfl)]
theorem Q2r {i j:Nat} {oi oj:Oper} (hj:ops[j]?=some oj) (hap:oi.apart ops oj=true) (hc:Qab (Ft i) (Ft j)) {K:Slots→Sto→Prop}
  (hy:YlL P ops oi (Ft i) s σ) (h:opA P ops Ft j K (Kl s oi.dst (Ft i).v) (σ.puts (Ft i).eff)) :
  opA P ops Ft j (fun s' σ'=>YlL P ops oi (Ft i) s' σ'∧K (Kl s' oi.dst (Ft i).v) (σ'.puts (Ft i).eff)) s σ:=by
 obtain ⟨h1,h2,h3⟩:=Oper.apart_spec hap
 unfold opA at *
 simp only [hj] at *
 obtain ⟨ha,hK⟩:=h
 refine ⟨fun s' σ' hs hσ=>ha s' σ' (fun t ht=>?_) (fun k hk=>?_),fun s' σ' hs hσ=>hy s' σ' (fun t ht=>?_) (fun k hk=>?_),?_⟩
 ·rw [Qr5 (fun k hk e=>h1 k hk (e ▸ ht))]; exact hs t ht
 ·rw [Qfx (fun e he hek=>hc.a e he (hek ▸ hk))]; exact hσ k hk
 ·rw [hs t ht,Qr5 (fun k hk e=>h3 k hk (e ▸ ht))]
 ·rw [hσ k hk,Qfx (fun e he hek=>hc.b e he (hek ▸ hk))]
 ·rw [Qy6 (fun t ht e=>h2 t e ht),Qyo (fun e he e' he'=>Ne.symm (hc.c e' he' e he))]; exact hK
inductive Vf (ops:Array Oper) (i:Nat):Nat → Prop
 | one {j:Nat} {oj:Oper} {e:Edge} (hj:ops[j]?=some oj) (he:e∈oj.after) (hb:Region.binds .any e=true) (h:e.on=i):Vf ops i j
 | more {j:Nat} {oj:Oper} {e:Edge} (hj:ops[j]?=some oj) (he:e∈oj.after) (hb:Region.binds .any e=true) (h:Vf ops i e.on):Vf ops i j
def Qd9 (ops:Array Oper) (listed:Array Bool):Prop:=∀(k:Nat) (ok:Oper),ops[k]?=some ok→listed.getD k false=true→∀e∈ok.after,Region.binds .any e=true→listed.getD e.on false=true
theorem Qd9.back {listed:Array Bool} (hc:Qd9 ops listed) {i j:Nat} (h:Vf ops i j):listed.getD j false=true→listed.getD i false=true:=by
 induction h with
 | one hj he hb h=>intro hl; rw [←h]; exact hc _ _ hj hl _ he hb
 | more hj he hb h ih=>intro hl; exact ih (hc _ _ hj hl _ he hb)
theorem Qtz {listed:Array Bool} {i:Nat} (h0:listed.getD i true=false) (h1:listed.getD i false=true):False:=by
 rcases Nat.lt_or_ge i listed.size with h' | h'
 ·simp [h'] at h0 h1; rw [h0] at h1; cases h1
 ·simp [Array.getElem?_eq_none h'] at h0
theorem Qw4 {listed:Array Bool} (hc:Qd9 ops listed) {i j:Nat} (hj:j∈Region.ready .any ops listed) (hi:listed.getD i true=false):¬ Vf ops i j:=by
 obtain ⟨_,oj,hoj,hall⟩:=mem_ready.1 hj
 intro h
 cases h with
 | one hj' he hb h=>rw [hoj] at hj'; cases hj'; exact Qtz hi (by rw [←h]; exact hall _ he hb)
 | more hj' he hb h=>rw [hoj] at hj'; cases hj'; exact Qtz hi (hc.back h (hall _ he hb))
theorem Qd9.add {listed:Array Bool} (hc:Qd9 ops listed) {j:Nat} (hj:j∈Region.ready .any ops listed):Qd9 ops (listed.setIfInBounds j true):=by
 obtain ⟨_,oj,hoj,hall⟩:=mem_ready.1 hj
 intro k ok hk hl e he hb
 by_cases ekj:j=k
 ·subst ekj; rw [hoj] at hk; cases hk; exact getD_set_true (hall e he hb)
 ·rw [getD_set_ne false ekj] at hl; exact getD_set_true (hc k ok hk hl e he hb)
theorem Qr6 {i:Nat} {oi:Oper} (hi:ops[i]?=some oi):∀(fuel:Nat) (listed:Array Bool) (s:Slots) (σ:Sto),
  Qd9 ops listed→(∀j oj,ops[j]?=some oj→j≠i→listed.getD j true=false→¬ Vf ops i j→oi.apart ops oj=true∧Qab (Ft i) (Ft j)) →
  i∈Region.ready .any ops listed→YlL P ops oi (Ft i) s σ →
  Qkh P ops Ft Q fuel (listed.setIfInBounds i true) (Kl s oi.dst (Ft i).v) (σ.puts (Ft i).eff)→Qkh P ops Ft Q (fuel+1) listed s σ:=by
 have here:∀(K:Slots→Sto→Prop) s σ,YlL P ops oi (Ft i) s σ→K (Kl s oi.dst (Ft i).v) (σ.puts (Ft i).eff)→opA P ops Ft i K s σ:=fun K s σ h1 h2=>by
  unfold opA; simp only [hi]; exact ⟨h1,h2⟩
 intro fuel
 induction fuel with
 | zero =>
  intro listed s σ _ _ hr hy H
  refine ⟨fun h=>(by rw [h] at hr; cases hr),fun j hj=>?_⟩
  by_cases hji:j=i
  ·subst hji; exact here _ _ _ hy H
  ·have:=ready_mono hj hji
   rw [H.1] at this
   cases this
 | succ fuel ih =>
  intro listed s σ hcl hfree hr hy H
  refine ⟨fun h=>(by rw [h] at hr; cases hr),fun j hj=>?_⟩
  by_cases hji:j=i
  ·subst hji; exact here _ _ _ hy H
  ·have h1:=H.2 j (ready_mono hj hji)
   obtain ⟨hjun,oj,hoj,hall⟩:=mem_ready.1 hj
   have hnot:¬ Vf ops i j:=Qw4 hcl hj (mem_ready.1 hr).1
   obtain ⟨hap,hc⟩:=hfree j oj hoj hji hjun hnot
   have h2:=Q2r hoj hap hc hy h1
   have hfree':∀k ok,ops[k]?=some ok→k≠i→(listed.setIfInBounds j true).getD k true=false →
     ¬ Vf ops i k→oi.apart ops ok=true∧Qab (Ft i) (Ft k):=fun k ok hk hki hun hno=>by
    refine hfree k ok hk hki ?_ hno
    by_cases hjk:j=k
    ·subst hjk; exact hjun
    ·rw [getD_set_ne true hjk] at hun; exact hun
   refine Qz9 (fun s' σ' h3=>ih (listed.setIfInBounds j true) s' σ' (hcl.add hj) hfree' (ready_mono hr (Ne.symm hji)) h3.1 ?_) h2
   rw [Array.setIfInBounds_comm _ _ hji]
   exact h3.2
def Q0l (P:Program) (ops:Array Oper) (Ft:Nat → Foot) (Q:Slots→Sto→Prop):List Oper→Nat → Slots→Sto→Prop
 | [],_,s,σ=>Q s σ
 | o::l,k,s,σ=>YlL P ops o (Ft k) s σ∧Q0l P ops Ft Q l (k+1) (Kl s o.dst (Ft k).v) (σ.puts (Ft k).eff)
theorem Qnu (hcomp:∀i j oj,i < j→ops[j]?=some oj→¬ Vf ops i j→Qab (Ft i) (Ft j)) :
  ∀(l:List Oper) (k:Nat) (listed:Array Bool) (s:Slots) (σ:Sto),Qd9 ops listed→(∀j,l[j]?=ops[k+j]?)→(∀j,listed.getD j true=false→k≤j)→Region.lexFrom .any ops l.length k listed=true→Q0l P ops Ft Q l k s σ→Qkh P ops Ft Q l.length listed s σ
 | [],_,_,_,_,_,_,_,hB,h=>⟨by simpa [Region.lexFrom] using hB,h⟩
 | o::l,k,listed,s,σ,hcl,hl,hpre,hB,h=>by
  have h0:ops[k]?=some o:=by simpa using (hl 0).symm
  simp only [List.length_cons,Region.lexFrom,Bool.and_eq_true] at hB
  obtain ⟨⟨hr,hf⟩,hB'⟩:=hB
  refine Qr6 h0 l.length listed s σ hcl (fun j oj hj hne hun hno=>⟨Region.free_spec h0 hf j oj hj hne hun (fun e he hb hq=>hno (.one hj he hb hq)),hcomp k j oj ?_ hj hno⟩) (by simpa using hr) h.1
   (Qnu hcomp l (k+1) _ _ _ (hcl.add (by simpa using hr)) (fun j=>by have:=hl (j+1); simpa [Nat.add_assoc,Nat.add_comm 1 j] using this) (fun j hj=>?_) hB' h.2)
  ·have:=hpre j hun; omega
  ·by_cases e:k=j
   ·subst e
    rcases Nat.lt_or_ge k listed.size with h' | h'
    ·simp [h'] at hj
    ·simp [Array.getElem?_eq_none h'] at hj
   ·rw [getD_set_ne true e] at hj
    have:=hpre j hj; omega
end
section
variable {P:Program} {ops:Array Oper} {Ft:Nat → Foot} {s s':Slots} {σ:Sto} {B:Nat} {W0 W:World} {D:List Nat} {M:CM} {ι:Inj} {a:Act} {Q:Exit→Act→World→Prop} {QA:Slots→Sto→Prop}
theorem Qjy {dst:Option Tmp} {v:Option AV} {u:Value} (h:Qi M ι s a.tmps) (hd:∀d,dst=some d→d < a.tmps.size) (hv:∀x,v=some x→Qa M ι u x):Qi M ι (Kl s dst v) (a.put dst u).tmps:=by
 intro t y ht
 simp only [Kl] at ht
 cases dst with
 | none=>simp at ht; exact h t y ht
 | some d =>
  have hset:(a.put (some d) u).tmps.getD t undef=if d=t then u else a.tmps.getD t undef:=by
   simp only [Act.put,Array.getD_eq_getD_getElem?]
   by_cases e:d=t
   ·subst e; simp [hd d rfl]
   ·simp [e,Array.getElem?_setIfInBounds_ne e]
  rw [hset]
  by_cases e:d=t
  ·subst e; rw [if_pos rfl] at ht; rw [if_pos rfl]; exact hv y ht
  ·rw [if_neg (by simpa using e)] at ht; rw [if_neg e]; exact h t y ht
theorem Qst {r:Option Nat} {n:Nat} {nt lo hi:Nat} (hdst:∀(i:Nat) (o:Oper) (d:Tmp),ops[i]?=some o→o.dst=some d→d < nt) (hbig:hi≤BIG) (htab:∀i,lo≤(Ft i).fr∧(Ft i).fr≤(Ft i).fr'∧(Ft i).fr'≤hi) (hdis:∀i j,i≠j→(Ft i).fr'≤(Ft j).fr∨(Ft j).fr'≤(Ft i).fr) :
  ∀(fuel:Nat) (listed:Array Bool) (s:Slots) (σ:Sto) (M:CM) (ι:Inj) (a:Act) (W:World),Qkh P ops Ft QA fuel listed s σ →
  Rel P B W0 D M ι σ W→Qi M ι s a.tmps→a.tmps.size=nt→(∀i,listed.getD i true=false→∀k,InR (Ft i).fr (Ft i).fr' k→ι k=none) →
  (∀s' σ' M' ι' a' W',QA s' σ'→CM.Grow B M M'→ι.le ι'→(∀k,¬ InR lo hi k→ι' k=ι k)→Rel P B W0 D M' ι' σ' W'→Qi M' ι' s' a'.tmps→a'.tmps.size=nt→a'.defers=a.defers→Q .normal a' W') →
  wpAnyIn (FW r) n P .any ops Q fuel listed a W:=by
 intro fuel
 induction fuel with
 | zero =>
  intro listed s σ M ι a W h hrel hs hnt hfree hQ
  exact ⟨h.1,hQ s σ M ι a W h.2 (.refl _ _) (Inj.le_refl _) (fun _ _=>rfl) hrel hs hnt rfl⟩
 | succ fuel ih =>
  intro listed s σ M ι a W h hrel hs hnt hfree hQ
  refine ⟨fun h0=>hQ s σ M ι a W (h.1 h0) (.refl _ _) (Inj.le_refl _) (fun _ _=>rfl) hrel hs hnt rfl,fun i hi'=>?_⟩
  have h1:=h.2 i hi'
  obtain ⟨hun,o,ho,_⟩:=mem_ready.1 hi'
  unfold opA at h1
  simp only [ho] at h1
  obtain ⟨hy,hK⟩:=h1
  unfold wpOpIn
  simp only [ho]
  have nextListed:∀j,(listed.setIfInBounds i true).getD j true=false→listed.getD j true=false∧j≠i:=fun j hj=>by
   by_cases e:i=j
   ·subst e
    rcases Nat.lt_or_ge i listed.size with h' | h'
    ·simp [h'] at hj
    ·simp [Array.getElem?_eq_none h'] at hj
   ·rw [getD_set_ne true e] at hj; exact ⟨hj,Ne.symm e⟩
  rcases hy s σ (fun _ _=>rfl) (fun _ _=>rfl) with ⟨hw,hdo⟩ | ⟨hw,hv,heff⟩
  ·rw [if_pos (Qbo hs hw)]
   refine hdo B W0 D M ι a W n Q r _ hrel hs (hfree i hun) (fun v W' M' ι' g1 g2 g3 g4 g5=>?_)
   have hs':=Qjy (dst:=o.dst) (u:=v) (hs.mono g1.le g2) (fun d hd=>by rw [hnt]; exact hdst i o d ho hd) g5
   refine ih _ _ _ M' ι' _ W' hK g4 hs' (by cases o.dst <;> simp [Act.put,hnt]) (fun j hj k hk1=>?_) (fun s2 σ2 M2 ι2 a2 W2 k1 k2 k3 k4 k5 k6 k7 k8=>?_)
   ·obtain ⟨hj1,hj2⟩:=nextListed j hj
    rw [g3 k (fun hc=>hc.disj hk1 (hdis i j (Ne.symm hj2)) (Nat.le_trans (htab i).2.2 hbig) (Nat.le_trans (htab j).2.2 hbig))]; exact hfree j hj1 k hk1
   ·refine hQ s2 σ2 M2 ι2 a2 W2 k1 (g1.trans k2) (Inj.le_trans g2 k3) (fun k hk=>?_) k5 k6 k7 (by rw [k8]; cases o.dst <;> rfl)
    rw [k4 k hk,g3 k (fun hc=>hk (hc.mono (htab i).1 (htab i).2.2))]
  ·rw [if_neg (by rw [Qbo hs hw]; simp)]
   refine ⟨fun _ _=>trivial,?_⟩
   have hs':=Qjy (dst:=o.dst) (u:=undef) (v:=(Ft i).v) hs (fun d hd=>by rw [hnt]; exact hdst i o d ho hd) (fun x hx=>by rw [hv] at hx; cases hx; exact Qqr)
   rw [heff] at hK
   refine ih _ _ _ M ι _ W hK hrel hs' (by cases o.dst <;> simp [Act.put,hnt]) (fun j hj=>hfree j (nextListed j hj).1) (fun s2 σ2 M2 ι2 a2 W2 k1 k2 k3 k4 k5 k6 k7 k8=>?_)
   exact hQ s2 σ2 M2 ι2 a2 W2 k1 k2 k3 k4 k5 k6 k7 (by rw [k8]; cases o.dst <;> rfl)
end
end Go.Ab
namespace Go.Ab
open Go.RowKit
def Qdu (l:List Nat) (k:Nat):Bool:=l.any fun x=>Nat.beq x k
def Ql4 (F G:Foot):Bool :=
 F.eff.all (fun e=>!Qdu G.rd e.1) && G.eff.all (fun e=>!Qdu F.rd e.1) && F.eff.all fun e=>G.eff.all fun e'=>!Nat.beq e.1 e'.1
theorem Qem {l:List Nat} {k:Nat} (h:Qdu l k=false):k ∉ l:=by
 intro hk
 simp only [Qdu,List.any_eq_false] at h
 exact absurd (Nat.beq_refl k) (by simpa using h k hk)
theorem Qsf {F G:Foot} (h:Ql4 F G=true):Qab F G:=by
 simp only [Ql4,Bool.and_eq_true,List.all_eq_true,Bool.not_eq_true'] at h
 obtain ⟨⟨h1,h2⟩,h3⟩:=h
 exact ⟨fun e he=>Qem (h1 e he),fun e he=>Qem (h2 e he),fun e he e' he' hee=>by
  have:=h3 e he e' he'
  rw [hee,Nat.beq_refl] at this
  cases this⟩
theorem Qp5 {F G:Foot} (h1:F.eff=[]) (h2:F.rd=[]):Qab F G:=⟨fun e he=>by rw [h1] at he; simp at he,fun e _=>by rw [h2]; simp,fun e he=>by rw [h1] at he; simp at he⟩
def Qau:Nat → List Foot→Nat → Prop
 | lo,[],hi=>lo=hi
 | lo,F::fs,hi=>F.fr=lo∧F.fr≤F.fr'∧Qau F.fr' fs hi
theorem Qau.le:∀{fs:List Foot} {lo hi:Nat},Qau lo fs hi→lo≤hi
 | [],lo,hi,h=>Nat.le_of_eq h
 | F::fs,lo,hi,h=>by have:=Qau.le h.2.2; have:=h.1; have:=h.2.1; omega
theorem Qau.at : ∀{fs:List Foot} {lo hi:Nat},Qau lo fs hi→∀(i:Nat) (F:Foot),fs[i]?=some F→lo≤F.fr∧F.fr≤F.fr'∧F.fr'≤hi
 | [],_,_,_,i,F,h=>by simp at h
 | F0::fs,lo,hi,h,i,F,hF=>by
  have hle:=Qau.le h.2.2
  cases i with
  | zero=>simp at hF; subst hF; exact ⟨Nat.le_of_eq h.1.symm,h.2.1,hle⟩
  | succ i =>
   obtain ⟨h1,h2,h3⟩:=Qau.at h.2.2 i F (by simpa using hF)
   have:=h.1; have:=h.2.1
   exact ⟨by omega,h2,h3⟩
theorem Qau.lt:∀{fs:List Foot} {lo hi:Nat},Qau lo fs hi→∀(i j:Nat) (F G:Foot),i < j→fs[i]?=some F→fs[j]?=some G→F.fr'≤G.fr
 | [],_,_,_,i,j,F,G,_,h,_=>by simp at h
 | F0::fs,lo,hi,h,i,j,F,G,hij,hF,hG=>by
  cases j with
  | zero=>omega
  | succ j =>
   cases i with
   | zero=>simp at hF; subst hF; exact (Qau.at h.2.2 j G (by simpa using hG)).1
   | succ i=>exact Qau.lt h.2.2 i j F G (by omega) (by simpa using hF) (by simpa using hG)
section
variable {P:Program} {nf:Bool} {C:FuncId→List AV→Option Xp} {ops:Array Oper} {st st':St} {rd:Option Nat} {base:Nat}
theorem Q3a {s s':List (Nat × AV)} {nt:Nat} {dst:Option Tmp} {v:Option AV} (h:V2 s nt dst v=some s'):lk s'=Kl (lk s) dst v:=by
 funext t
 unfold V2 at h
 cases dst with
 | none=>cases h; simp [Kl]
 | some d =>
  simp only at h
  split at h
  ·cases v with
   | none=>cases h; rw [Ql2]; simp [Kl]
   | some x=>cases h; rw [Qca]; simp [Kl]
  ·cases h
theorem Q3g {s s':List (Nat × AV)} {nt:Nat} {dst:Option Tmp} {v:Option AV} (h:V2 s nt dst v=some s'):∀d,dst=some d→d < nt:=by
 intro d hd
 subst hd
 unfold V2 at h
 simp only at h
 split at h
 ·rename_i hlt; simpa [Nat.blt,Nat.lt_iff_add_one_le] using hlt
 ·cases h
theorem Qbk {o:Oper} {s s':Slots} (h:∀t∈o.looksAt ops,s' t=s t):Yj ops s' o=Yj ops s o:=by
 unfold Yj
 cases hg:o.guard with
 | none=>rfl
 | some gw =>
  obtain ⟨j,want⟩:=gw
  simp only
  cases hj:ops[j]? with
  | none=>rfl
  | some oj =>
   simp only
   cases hd:oj.dst with
   | none=>rfl
   | some d =>
    simp only
    rw [h d (by simp [Oper.looksAt,hg,hj,hd])]
theorem Qlm {o:Oper} {s s':Slots} (h:∀t∈o.looksAt ops,s' t=s t):∀x∈o.op.operands,evo s' x=evo s x:=by
 intro x hx
 cases x with
 | tmp t=>exact h t (List.mem_append_left _ (List.mem_filterMap.2 ⟨.tmp t,by simpa using hx,rfl⟩))
 | _=>rfl
theorem ylL_ev (hC:Qi2 P C) {o:Oper} {s:Slots} {σ:Sto} {fr:Nat} {res:Res} (hw:Yj ops s o=some true) (he:Z0 P nf C σ fr s o=some (.val res)):YlL P ops o ⟨res.v,res.eff,fr,res.fr,res.rd⟩ s σ:=by
 intro s' σ' hs hσ
 have he':=Qwt he (Qlm hs) hσ
 refine .inl ⟨by rw [Qbk hs]; exact hw,?_⟩
 intro B W0 D M ι a W n Q r next hrel hsl hfree hpost
 refine Q1m (fr:=fr) hC hrel hsl he' (fun res' hr k hk1 hk2=>?_) ⟨fun res' hr v W' M' ι' g1 g2 g3 g4 g5=>?_,fun pv hpv=>by cases hpv⟩
 ·cases hr; exact hfree k (.inl ⟨hk1,hk2⟩)
 ·cases hr; exact hpost v W' M' ι' g1 g2 (fun k hk=>g3 k (Nat.lt_or_ge k fr |>.imp_right fun h1=>Nat.le_of_not_lt fun h2=>hk (.inl ⟨h1,h2⟩))) g4 g5
def forced (ops:Array Oper):Nat → Nat → Array Bool→Bool
 | 0,_,listed=>(Region.ready .any ops listed).isEmpty
 | n+1,k,listed=>(match Region.ready .any ops listed with | [i]=>Nat.beq i k | _=>false) && forced ops n (k+1) (listed.setIfInBounds k true)
def Q0o (rd:Option Nat) (objs:List AObj):Bool :=
 match rd with
 | none=>true
 | some l=>match objs[l]? with
  | some (.loop _ _ _ _ _ s _)=>match s with
   | .exhausted=>false
   | _=>true
  | _=>false
end
end Go.Ab
namespace Go.Ab
open Go.RowKit
def WP (P:Program) (rd:Option Nat) (base:Nat) (c:Code) (st:St) (Φ:AOut→Prop):Prop:=∃out,Xe P rd base c st out∧Φ out
@[reducible] def Qrt (K:St→Prop) (Φ:AOut→Prop):AOut→Prop
 | .go .normal st=>K st
 | out=>Φ out
@[reducible] def Qs5 (id:Nat) (Φ:AOut→Prop) (out:AOut):Prop:=Φ (out.inBlock id)
section
variable {P:Program} {rd:Option Nat} {base:Nat} {c x y:Code} {st st':St} {Φ Ψ:AOut→Prop}
theorem WP.mono (h:WP P rd base c st Φ) (hm:∀out,Φ out→Ψ out):WP P rd base c st Ψ:=let ⟨o,h1,h2⟩:=h; ⟨o,h1,hm o h2⟩
theorem wp_skip (h:Φ (.go .normal st)):WP P rd base .skip st Φ:=⟨_,Qyy,h⟩
theorem Q06 {l:Nat} (h:Φ (.go .normal st)):WP P rd base (.label l) st Φ:=⟨_,Qwp,h⟩
theorem Vx {id:Nat} (h:Φ (.go (.exit id) st)):WP P rd base (.exit id) st Φ:=⟨_,Qye,h⟩
theorem Ks (h:Φ (.go .ret st)):WP P rd base .ret st Φ:=⟨_,Q1o,h⟩
theorem Qk (h:WP P rd base x st (Qrt (fun st1=>WP P rd base y st1 Φ) Φ)):WP P rd base (.seq x y) st Φ:=by
 obtain ⟨o,h1,h2⟩:=h
 cases o with
 | pan v=>exact ⟨_,Qcr h1 rfl,h2⟩
 | go e st1 =>
  cases e with
  | normal=>obtain ⟨o2,h3,h4⟩:=h2; exact ⟨o2,exec_seq h1 h3,h4⟩
  | exit id=>exact ⟨_,Qcr h1 rfl,h2⟩
  | ret=>exact ⟨_,Qcr h1 rfl,h2⟩
  | goto l=>exact ⟨_,Qcr h1 rfl,h2⟩
theorem Qpo {op:Operand} {b:Bool} (he:evo (lk st.slots) op=some (.bool b)) (h1:b=true→WP P rd base x st Φ) (h2:b=false→WP P rd base y st Φ):WP P rd base (.cond op x y) st Φ:=by
 cases b with
 | true=>obtain ⟨o,k1,k2⟩:=h1 rfl; exact ⟨o,exec_cond he (by simpa using k1),k2⟩
 | false=>obtain ⟨o,k1,k2⟩:=h2 rfl; exact ⟨o,exec_cond he (by simpa using k1),k2⟩
theorem Zn {id:Nat} (h:WP P rd base c st (Qs5 id Φ)):WP P rd base (.block id c) st Φ:=let ⟨o,h1,h2⟩:=h; ⟨_,exec_block h1,h2⟩
theorem Q2p {l:Nat} (h:Φ (.go (.goto l) st)):WP P rd base (.goto l) st Φ:=⟨_,Qzp,h⟩
def SWP (P:Program) (rd:Option Nat) (base:Nat) (body x:Code) (st:St) (Φ:AOut→Prop):Prop:=∃out,Qka P rd base body x st out∧Φ out
@[reducible] def Qif (P:Program) (rd:Option Nat) (base:Nat) (body:Code) (Φ:AOut→Prop):AOut→Prop
 | .go (.goto l) st=>match findLabel body l with
  | some rest=>SWP P rd base body rest st Φ
  | none=>Φ (.go (.goto l) st)
 | out=>Φ out
theorem Qzy {body:Code} (h:WP P rd base x st (Qif P rd base body Φ)):SWP P rd base body x st Φ:=by
 obtain ⟨o,h1,h2⟩:=h
 cases o with
 | pan v=>exact ⟨_,Qdj h1 rfl,h2⟩
 | go e st1 =>
  cases e with
  | goto l =>
   simp only [Qif] at h2
   cases hf:findLabel body l with
   | some rest=>rw [hf] at h2; obtain ⟨o2,h3,h4⟩:=h2; exact ⟨o2,scopeX_goto h1 hf h3,h4⟩
   | none=>rw [hf] at h2; exact ⟨_,Qdj h1 hf,h2⟩
  | normal=>exact ⟨_,Qdj h1 rfl,h2⟩
  | exit id=>exact ⟨_,Qdj h1 rfl,h2⟩
  | ret=>exact ⟨_,Qdj h1 rfl,h2⟩
theorem Q0h (h:WP P rd base c st (Qif P rd base c Φ)):WP P rd base (.scope c) st Φ:=let ⟨o,h1,h2⟩:=Qzy h; ⟨o,exec_scope h1,h2⟩
def LWP (P:Program) (rd:Option Nat) (base:Nat) (c:Code) (st:St) (Φ:AOut→Prop):Prop:=∃out,Qi0 P rd base c st out∧Φ out
theorem Qgc (h:WP P rd base c st (Qrt (fun st1=>LWP P rd base c st1 Φ) Φ)):LWP P rd base c st Φ:=by
 obtain ⟨o,h1,h2⟩:=h
 cases o with
 | pan v=>exact ⟨_,Qgo h1 rfl,h2⟩
 | go e st1 =>
  cases e with
  | normal=>obtain ⟨o2,h3,h4⟩:=h2; exact ⟨o2,loopX_next h1 h3,h4⟩
  | exit id=>exact ⟨_,Qgo h1 rfl,h2⟩
  | ret=>exact ⟨_,Qgo h1 rfl,h2⟩
  | goto l=>exact ⟨_,Qgo h1 rfl,h2⟩
theorem Qv1 (h:LWP P rd base c st Φ):WP P rd base (.loop c) st Φ:=let ⟨o,h1,h2⟩:=h; ⟨o,exec_loop h1,h2⟩
theorem Q3b {f:FuncId} {fn:Func} {c:Code} {args:List AV} {R:Xp→Prop} (hf:P.funcs[f]?=some fn) (hb:fn.body=some c) (hn:(fn.name == "runtime.NumGoroutine")=false) (hle:args.length≤fn.ntmps)
  (h:WP P none 0 c (st0 fn.ntmps args) (fun out=>match out with
   | .go e st'=>e.ends=true∧∃x,resultA P fn st'=some x∧∃co,Qh5 st' x=some co∧R co
   | .pan v=>R (.pan v))):∃co,Zd P f args co∧R co:=by
 obtain ⟨out,h1,h2⟩:=h
 cases out with
 | pan v=>exact ⟨_,Qon hf hb hle h1,h2⟩
 | go e st'=>obtain ⟨h3,x,h4,co,h5,h6⟩:=h2; exact ⟨co,callOk_exec hf hb hle h1 h3 h4 h5,h6⟩
end
end Go.Ab
