/- Rules. No conditions. -/
import Derived.Test.YtapoljjoedcknaaEng4
import Derived.OrdersIn
import Derived.Still
set_option linter.all false
namespace Go.Ab
open Go.RowKit
section
variable {P:Program} {B:Nat} {W0 W:World} {D D0 dl dl1:List Nat} {M:CM} {ι ι1:Inj} {σ:Sto} {st st':St} {a:Act} {rd:Option Nat} {base:Nat} {out:AOut}
def Qjj (st:St) (ps:List Tmp) (assign body:Code) (first caps:List AV) (nt:Nat):St :=
 ⟨K4 0 (first++[.yld st.objs.length]++caps),st.objs++[.loop st.nt st.slots ps assign body .ready none],nt⟩
noncomputable def Vz (P:Program) (fn:Func) (st:St):AOut→Option AOut
 | .pan v=>if Nat.blt st.objs.length BIG then some (.pan v) else none
 | .go e st'=>if Nat.blt st.objs.length BIG && e.ends && (resultA P fn st').isSome then match st'.objs[st.objs.length]? with
   | some (.loop _ _ _ _ _ s pe) =>
    match (match s with | .busy | .exhausted=>true | _=>false) with
    | true=>none
    | false=>match pe with
     | none=>some (.go .normal ⟨st.slots,st'.objs.set st.objs.length .dead,st.nt⟩)
     | some .ret=>some (.go .ret ⟨st.slots,st'.objs.set st.objs.length .dead,st.nt⟩)
     | some (.exit id)=>some (.go (.exit id) ⟨st.slots,st'.objs.set st.objs.length .dead,st.nt⟩)
     | _=>none
   | _=>none
  else none
theorem Qix {fn:Func} {out0:AOut} (h:Vz P fn st out0=some out):st.objs.length < BIG:=by
 unfold Vz at h
 split at h <;> split at h
 ·rename_i c; exact Yc c
 ·cases h
 ·rename_i c; simp only [Bool.and_eq_true] at c; exact Yc c.1.1
 ·cases h
theorem Qlw {r:Option Nat} {n:Nat} {Q:Exit→Act→World→Prop} {f:FuncId} {fn:Func} {c:Code} {first caps:List AV} {first' caps':Array Value} {l:Nat} {ps:List Tmp} {assign body:Code} {out0:AOut} {a1:Act}
  (hf:P.funcs[f]?=some fn) (hb:fn.body=some c) (hle:(first++[AV.yld st.objs.length]++caps).length≤fn.ntmps)
  (h:Xa P none (st.objs.length+1) c (Qjj st ps assign body first caps fn.ntmps) out0) (hout:Vz P fn st out0=some out)
  (h1:first'.size=first.length) (h2:caps'.size=caps.length) (hr1:∀(j:Nat) (v:Value) (y:AV),first'[j]?=some v→first[j]?=some y→Qa M ι v y) (hr2:∀(j:Nat) (v:Value) (y:AV),caps'[j]?=some v→caps[j]?=some y→Qa M ι v y)
  (hrel:Rel P B W0 (dl1++D0) M ι (sto (st.objs++[AObj.loop st.nt st.slots ps assign body .ready none])) W) (hnew:∀k,¬ InB (st.objs.length+1) k→ι k=none) (hl:∃p,ι st.objs.length=some p∧p.blk=l)
  (hsl:Qg M ι (lk st.slots) a1.tmps) (hnt:a1.tmps.size=st.nt) (hdf:Ql9 B D0 dl1 a1)
  (hgo:∀e st'',out=.go e st''→∀M' ι' W',CM.Grow B M M'→ι.le ι'→Sim P B W0 D0 dl1 M' ι' st'' a1 W'→Q e.exit' a1 W')
  (hpan:∀x,out=.pan x→∀M' W' u,CM.Grow B M M'→Rel P B W0 (dl1++D0) M' noInj (fun _=>none) W'→Qa M' noInj u x→Q (.panic [{ v:=u,recovered:=false }]) a1 W') :
  CallsIn (FW r) (n - 1) P f (first'++#[.func (.yield l) #[] #[]]++caps') W (rangePost (FW r) n P l Q a1):=by
 obtain ⟨p,hp,rfl⟩:=hl
 have hbig:st.objs.length < BIG:=Qix hout
 have hlen:(st.objs++[AObj.loop st.nt st.slots ps assign body .ready none]).length=st.objs.length+1:=by simp
 refine Qh7 hf hb (objs:=st.objs++[AObj.loop st.nt st.slots ps assign body .ready none]) (slots:=K4 0 (first++[.yld st.objs.length]++caps)) (out:=out0) (by rw [hlen]; exact h) hrel hdf.nd (fun k hk=>hnew k (by rw [hlen] at hk; exact hk)) (by rw [hlen]; exact hbig) ?_ ?_ ?_ ?_ ?_
 ·refine Qlm (as:=[AV.yld st.objs.length]) (vs:=#[.func (.yield p.blk) #[] #[]]) h1 h2 rfl hr1 (fun j v y hv hy=>?_) hr2 _
  cases j with
  | zero=>simp at hv hy; subst hv; subst hy; exact .yld _ p hp
  | succ j=>simp at hy
 ·have:(first'++#[Value.func (.yield p.blk) #[] #[]]++caps').size=(first++[AV.yld st.objs.length]++caps).length:=by simp [h1,h2]; omega
  omega
 ·intro e st2 x he hends hx v M' ι' W' g1 g2 g3 g4 g4b g5
  subst he
  have hιp:ι' st.objs.length=some p:=g2 _ _ hp
  simp only [Vz,Qku hbig,hends,hx,Option.isSome_some,Bool.and_self,if_true] at hout
  split at hout
  ·rename_i nt2 sl2 ps2 as2 bd2 s pe hobj
   split at hout
   ·cases hout
   ·rename_i hbusy
    have hs:s≠.busy:=fun e=>by subst e; simp at hbusy
    have hs2:s≠.exhausted:=fun e=>by subst e; simp at hbusy
    obtain ⟨tm,fnB,hsz,hrec,hslB,hrelB⟩:=g3.endLoop (by rw [Zh hbig,hobj]; rfl) hιp hs2
    refine ⟨pe,_,run_endLoop hrec hs,?_⟩
    have hrelD:Rel P B W0 (dl1++D0) M' ι' (sto (st2.objs.set st.objs.length .dead)) (W'.putObj p.blk (.loop { state:=.exhausted,pending:=pe,fn:=fnB,tmps:=tm,params:=ps2.toArray,assign:=as2,body:=bd2,defers:=p.base })):=by
     refine hrelB.forget (fun k=>?_)
     rw [Qb5 hobj rfl rfl hbig]
     by_cases e:k=st.objs.length
     ·subst e; right; right; exact Sto.put_same _ _ _
     ·left; rfl
    have fin:∀e2,out=.go e2 ⟨st.slots,st2.objs.set st.objs.length .dead,st.nt⟩→Q e2.exit' a1 (W'.putObj p.blk (.loop { state:=.exhausted,pending:=pe,fn:=fnB,tmps:=tm,params:=ps2.toArray,assign:=as2,body:=bd2,defers:=p.base })):=fun e2 he =>
     hgo e2 _ he M' ι' _ g1 g2 ⟨hrelD,hsl.mono g1.le g2,hnt,hdf,fun k hk=>g4 k (by simpa using hk),by simpa using g4b⟩
    split at hout
    ·cases hout; exact fin .normal rfl
    ·cases hout; exact wpIn_ret (fin .ret rfl)
    ·cases hout; exact wpIn_exit (fin (.exit _) rfl)
    ·cases hout
  ·cases hout
 ·cases out0 with
  | pan v=>trivial
  | go e st2 =>
   simp only [Vz] at hout
   split at hout
   ·rename_i hc; simp only [Bool.and_eq_true] at hc; exact ⟨hc.1.2,hc.2⟩
   ·cases hout
 ·intro x hx v M' W' g1 g2 g3
  subst hx
  simp only [Vz,Qku hbig,if_true] at hout
  cases hout
  exact hpan x rfl M' W' v g1 g2 g3
theorem Qmz {g:Operand} {ps:Array Tmp} {assign body:Code} {f:FuncId} {fn:Func} {c:Code} {first caps:List AV} {out0:AOut}
  (hg:evo (lk st.slots) g=some (.fn (.func f) first caps)) (hf:P.funcs[f]?=some fn) (hb:fn.body=some c) (hn:(fn.name == "runtime.NumGoroutine")=false) (hle:(first++[AV.yld st.objs.length]++caps).length≤fn.ntmps)
  (hrd:∀l,rd=some l→∃nt sl ps as bd s pe,st.objs[l]?=some (.loop nt sl ps as bd s pe)∧s≠.exhausted)
  (h:Xa P none (st.objs.length+1) c (Qjj st ps.toList assign body first caps fn.ntmps) out0) (hout:Vz P fn st out0=some out):Xa P rd base (.rangeFunc g ps assign body) st out:=by
 intro B W0 D0 dl M ι a W n Q r hs hr hp
 have hgv:=Qe hs.slots hg
 generalize hgu:a.eval g=gu at hgv
 cases hgv with
 | fn _ first' caps' _ _ hy hm h1 h2 hr1 hr2 =>
 have hbig:st.objs.length < BIG:=Qix hout
 have hon:ι st.objs.length=none:=hs.new _ (InB.not (Nat.le_refl _) hbig)
 have resolves:∀l W,(resolve a.eval (rangeCall g l) 0).run P W=.ok { target:=.fn (.func f) caps',args:=first'++#[.func (.yield l) #[] #[]] } W:=fun l W=>by
  have hc:Array.map a.eval #[Operand.const (Value.func (Fn.yield l) #[] #[])]=#[Value.func (.yield l) #[] #[]]:=by simp [Act.eval]
  simp only [resolve,hgu,Deferred.ofValue,Sem.run_pure,hc]
 have invokes:∀l W,(invoke (.fn (.func f) caps') (first'++#[.func (.yield l) #[] #[]])).run P W=.ok (.enter f (first'++#[.func (.yield l) #[] #[]]++caps')) W:=fun l W=>by
  simp only [invoke]
  exact Jo hf (by rw [hb]; rfl) hn _ W
 refine wpIn_rangeFunc (fun fnId _=>?_)
 cases rd with
 | none =>
  have hr:r=none:=hr
  subst hr
  have hd1:=hs.rel.allocDef
  have hsd:Qg M ι (lk st.slots) a.tmps:=hs.slots
  have hrel:=hd1.allocLoop hon (fn:=fnId) hs.nt hsd ps assign body W.heap.size
  rw [←Qfh (x:=AObj.loop st.nt st.slots ps.toList assign body .ready none) rfl hbig] at hrel
  have hsz1:(W.alloc (.deferred (some []))).heap.size=W.heap.size+1:=by simp
  rw [hsz1] at hrel
  refine ⟨_,_,_,_,_,f,_,_,run_enterLoop_outer _ _ _ _ _,resolves _ _,fun _ _=>trivial,invokes _ _,fun hd=>by simp [FW,Fence.wide] at hd,?_⟩
  refine Qlw (dl1:=W.heap.size::dl) hf hb hle h hout h1 h2 (fun j v y x1 x2=>(hr1 j v y x1 x2).mono (CM.le_refl _) (Inj.le_put _ hon)) (fun j v y x1 x2=>(hr2 j v y x1 x2).mono (CM.le_refl _) (Inj.le_put _ hon)) hrel ?_ ⟨_,Inj.put_same _ _ _,rfl⟩
   (hs.slots.mono (CM.le_refl _) (Inj.le_put _ hon)) hs.nt ?_ ?_ ?_
  ·intro k hk
   rw [Inj.put_ne _ _ (fun e=>hk (.inl (by omega)))]; exact hs.new k (fun c=>hk (c.mono (Nat.le_succ _)))
  ·refine ⟨by show [mk W.heap.size]++a.defers=_; rw [hs.df.defs]; rfl,fun q hq=>?_,?_⟩
   ·rcases List.mem_cons.1 hq with rfl | hq
    ·exact hs.rel.size
    ·exact hs.df.old q hq
   ·refine List.nodup_cons.2 ⟨fun hm=>?_,hs.df.nd⟩
    have:=hs.rel.defs _ hm
    rw [Array.getElem?_eq_none (Nat.le_refl _)] at this
    cases this
  ·intro e st'' he M' ι' W' g1 g2 g3
   exact hp.go e st'' he _ M' ι' _ W' g1 ((Inj.le_trans (Inj.le_put _ hon) g2).leB base) ⟨[W.heap.size],rfl⟩ g3
  ·intro x he M' W' u g1 g2 g3
   refine hp.pan x he _ M' _ W' u g1 ⟨[W.heap.size],rfl⟩ g2 ⟨by show [mk W.heap.size]++a.defers=_; rw [hs.df.defs]; rfl,fun q hq=>?_,?_⟩ g3
   ·rcases List.mem_cons.1 hq with rfl | hq
    ·exact hs.rel.size
    ·exact hs.df.old q hq
   ·refine List.nodup_cons.2 ⟨fun hm=>?_,hs.df.nd⟩
    have:=hs.rel.defs _ hm
    rw [Array.getElem?_eq_none (Nat.le_refl _)] at this
    cases this
 | some l0 =>
  obtain ⟨hl0,p0,hp0,hr⟩:=hr
  subst hr
  obtain ⟨nt,sl,ps0,as0,bd0,s0,pe0,hobj,hs0⟩:=hrd l0 rfl
  obtain ⟨q,fn0,hq,_,hB0,tm0,hsz0,hrec0,hsl0⟩:=hs.rel.loop l0 _ _ _ _ _ _ _ (by rw [Zh (Nat.lt_of_lt_of_le (List.getElem?_eq_some_iff.1 hobj).1 hs.big),hobj]; rfl)
  rw [hp0] at hq; cases hq
  rw [Qaq hs0] at hrec0
  have hrel:=hs.rel.allocLoop hon (fn:=fnId) hs.nt hs.slots ps assign body p0.base
  rw [←Qfh (x:=AObj.loop st.nt st.slots ps.toList assign body .ready none) rfl hbig] at hrel
  refine ⟨_,_,_,_,_,f,_,_,run_enterLoop_inner hrec0 _ _ _ _ _,resolves _ _,fun _ _=>trivial,invokes _ _,fun hd=>by simp [FW,Fence.wide] at hd,?_⟩
  refine Qlw (dl1:=dl) hf hb hle h hout h1 h2 (fun j v y x1 x2=>(hr1 j v y x1 x2).mono (CM.le_refl _) (Inj.le_put _ hon)) (fun j v y x1 x2=>(hr2 j v y x1 x2).mono (CM.le_refl _) (Inj.le_put _ hon)) hrel ?_ ⟨_,Inj.put_same _ _ _,rfl⟩
   (hs.slots.mono (CM.le_refl _) (Inj.le_put _ hon)) hs.nt ⟨by simpa using hs.df.defs,hs.df.old,hs.df.nd⟩ ?_ ?_
  ·intro k hk
   rw [Inj.put_ne _ _ (fun e=>hk (.inl (by omega)))]; exact hs.new k (fun c=>hk (c.mono (Nat.le_succ _)))
  ·intro e st'' he M' ι' W' g1 g2 g3
   exact hp.go e st'' he _ M' ι' _ W' g1 ((Inj.le_trans (Inj.le_put _ hon) g2).leB base) (List.suffix_refl _) g3
  ·intro x he M' W' u g1 g2 g3
   exact hp.pan x he _ M' _ W' u g1 (List.suffix_refl _) g2 ⟨by simpa using hs.df.defs,hs.df.old,hs.df.nd⟩ g3
end
end Go.Ab
namespace Go.Ab
open Go.RowKit
section
variable {P:Program} {nf:Bool} {C:FuncId→List AV→Option Z2} {σ σ':Sto} {s s':Slots} {fr:Nat} {o:Oper} {res:Res}
theorem evos_congr:∀{xs:List Operand},(∀x∈xs,evo s' x=evo s x)→Ja s' xs=Ja s xs
 | [],_=>rfl
 | x::xs,h=>by
  have e:=evos_congr (xs:=xs) (fun y hy=>h y (List.mem_cons_of_mem _ hy))
  simp only [Ja,h x (by simp),e]
theorem Qcx:∀{xs:List (Nat × Operand)},(∀x∈xs.map (·.2),evo s' x=evo s x)→Jq s' xs=Jq s xs
 | [],_=>rfl
 | (i,x)::xs,h=>by
  have e:=Qcx (xs:=xs) (fun y hy=>h y (List.mem_cons_of_mem _ hy))
  simp only [Jq,h x (by simp),e]
theorem Qpq (h:∀x∈o.op.operands,evo s' x=evo s x):evalOp P nf C σ fr s' o=evalOp P nf C σ fr s o:=by
 obtain ⟨dst,op,type,pos,after,guard⟩:=o
 cases op
 case call c =>
  obtain ⟨cal,args,ts⟩:=c
  cases cal with
  | value g =>
   simp only [Op.operands,Call.operands] at h
   unfold evalOp
   simp only
   rw [h g (by simp),evos_congr (s:=s) (s':=s') (fun x hx=>h x (by simp [Array.mem_toList_iff.1 hx]))]
  | invoke g m=>rfl
  | builtin b =>
   simp only [Op.operands,Call.operands] at h
   unfold evalOp
   simp only
   have h':∀x∈args.toList,evo s' x=evo s x:=fun x hx=>h x (by simpa using hx)
   generalize args.toList=as at h'
   cases b <;> simp only
   all_goals first
    | rfl
    | (unfold Qof; split <;> first | rw [h' _ (by simp)] | rfl)
    | (unfold Qtg; split <;> first | rw [h' _ (by simp)] | rfl)
    | (unfold Qae; split <;> first | rw [h' _ (by simp),h' _ (by simp)] | rfl)
    | (unfold Qft; split <;> first | rw [h' _ (by simp),h' _ (by simp)] | rfl)
    | (unfold Qsm; split <;> first | rw [h' _ (by simp),evos_congr (fun x hx=>h' x (by simp [hx]))] | rfl)
    | (unfold Qtl; split <;> first | rw [h' _ (by simp),evos_congr (fun x hx=>h' x (by simp [hx]))] | rfl)
 all_goals simp only [Op.operands] at h; unfold evalOp; simp only
 case move x=>rw [h x (by simp)]
 case assign x=>rw [h x (by simp)]
 case pick c a b=>rw [h c (by simp),h a (by simp),h b (by simp)]
 case box t x=>rw [h x (by simp)]
 case build t ps=>rw [Qcx (s:=s) (s':=s') (fun x hx=>h x (by simpa using hx))]
 case buildSlice t n ps=>rw [Qcx (s:=s) (s':=s') (fun x hx=>h x (by simpa using hx))]
 case load t x=>rw [h x (by simp)]
 case store t x y=>rw [h x (by simp),h y (by simp)]
 case nilCheck x=>rw [h x (by simp)]
 case binOp op t x y u=>rw [h x (by simp),h y (by simp)]
 case unOp op t x=>rw [h x (by simp)]
 case convert u t x=>rw [h x (by simp)]
 case makeFunc f a b=>rw [evos_congr (s:=s) (s':=s') (fun x hx=>h x (by simp [Array.mem_toList_iff.1 hx])),evos_congr (s:=s) (s':=s') (xs:=b.toList) (fun x hx=>h x (by simp [Array.mem_toList_iff.1 hx]))]
 case makeSlice t l c=>rw [h l (by simp),h c (by simp)]
 case slice t x lo hi mx =>
  have e:∀y:Option Operand,(∀z∈y.toArray,evo s' z=evo s z)→Jd s' y=Jd s y:=fun y hy=>by
   cases y with
   | none=>rfl
   | some z=>simp [Jd,hy z (by simp)]
  rw [h x (by simp),e lo (fun z hz=>h z (by simp at hz ⊢; simp [hz])),e hi (fun z hz=>h z (by simp at hz ⊢; simp [hz])),e mx (fun z hz=>h z (by simp at hz ⊢; simp [hz]))]
 case fieldAddr t x f=>rw [h x (by simp)]
 case field t x f=>rw [h x (by simp)]
 case indexAddr t x y=>rw [h x (by simp),h y (by simp)]
 case index t x y=>rw [h x (by simp),h y (by simp)]
 case extract x i=>rw [h x (by simp)]
 case panic x=>rw [h x (by simp)]
 case makeMap t r=>cases r <;> rfl
 case lookup t x y c=>unfold Qdu; rw [h x (by simp),h y (by simp)]
 case mapUpdate t m x y=>unfold Qes; rw [h m (by simp),h x (by simp),h y (by simp)]
 case insert t m x y=>unfold Qes; rw [h m (by simp),h x (by simp),h y (by simp)]
 case mapEntry t m x=>unfold Qfs; rw [h m (by simp),h x (by simp)]
 case entryStore t m x y=>unfold Qee; rw [h m (by simp),h x (by simp),h y (by simp)]
end
end Go.Ab
namespace Go.Ab
open Go.RowKit
section
variable {P:Program} {nf:Bool} {C:FuncId→List AV→Option Z2} {σ σ':Sto} {s s':Slots} {fr:Nat} {o:Oper} {res:Res}
theorem Jn {f g:AV→Option (AV × List Nat)} (σ σ':Sto) (h:∀x b ids,f x=some (b,ids)→(∀k∈ids,σ' k=σ k)→g x=some (b,ids)):∀(xs ys:List AV) (ids:List Nat),Q4 f xs=some (ys,ids)→(∀k∈ids,σ' k=σ k)→Q4 g xs=some (ys,ids)
 | [],ys,ids,he,_=>by simpa [Q4] using he
 | x::xs,ys,ids,he,hk=>by
  simp only [Q4] at he
  split at he
  ·rename_i y a ys0 b h1 h2
   cases he
   simp only [Q4,h x y a h1 (fun k hk'=>hk k (by simp [hk'])),Jn σ σ' h xs ys0 b h2 (fun k hk'=>hk k (by simp [hk']))]
  ·cases he
theorem Jk:∀(d:Nat) (a b:AV) (ids:List Nat),Qt σ d a=some (b,ids)→(∀k∈ids,σ' k=σ k)→Qt σ' d a=some (b,ids)
 | 0,a,b,ids,he,_=>by simp [Qt] at he
 | d+1,a,b,ids,he,hk=>by
  have rec':∀xs ys ids,Q4 (Qt σ d) xs=some (ys,ids)→(∀k∈ids,σ' k=σ k)→Q4 (Qt σ' d) xs=some (ys,ids):=fun xs ys ids=>Jn σ σ' (fun x b ids=>Jk d x b ids) xs ys ids
  unfold Qt at he ⊢
  cases a with
  | ref o i n =>
   simp only at he ⊢
   split at he
   ·rename_i bx ro nr fl w xs hσ
    split at he
    ·rename_i hlen
     split at he
     ·cases he
      rw [hk o (by simp),hσ]; simp_all
     ·split at he
      ·rename_i ys ids' hm
       cases he
       rw [hk o (by simp),hσ]
       simp only [rec' _ _ _ hm (fun k hk'=>hk k (by simp [hk']))]
       simp_all
      ·cases he
    ·cases he
   ·cases he
  | ptr o i c =>
   simp only at he ⊢
   split at he
   ·rename_i bx ro nr fl w xs hσ
    split at he
    ·rename_i ys ids' hm
     split at he
     ·rename_i y hy
      cases he
      rw [hk o (by simp),hσ]
      simp only [rec' _ _ _ hm (fun k hk'=>hk k (by simp [hk'])),hy]
     ·cases he
    ·cases he
   ·cases he
  | agg cs =>
   simp only at he ⊢
   split at he
   ·rename_i ys ids' hm; cases he; simp only [rec' _ _ _ hm hk]
   ·cases he
  | tup cs =>
   simp only at he ⊢
   split at he
   ·rename_i ys ids' hm; cases he; simp only [rec' _ _ _ hm hk]
   ·cases he
  | fn f x y =>
   simp only at he ⊢
   split at he
   ·rename_i x' i y' j h1 h2
    cases he
    simp only [rec' _ _ _ h1 (fun k hk'=>hk k (by simp [hk'])),rec' _ _ _ h2 (fun k hk'=>hk k (by simp [hk']))]
   ·cases he
  | ifc t v =>
   simp only at he ⊢
   split at he
   ·rename_i y i h1; cases he; simp only [Jk d _ _ _ h1 hk]
   ·cases he
  | mp o=>simp at he
  | yld o=>simp at he
  | _=>simpa using he
theorem Qex {ids:List Nat} {es:List (Nat × AObj)} (he:frz σ ids=some es) (hk:∀k∈ids,σ' k=σ k):frz σ' ids=some es:=by
 unfold frz at *
 have go:∀(l:List Nat) (es:List (Nat × AObj)),(∀k∈l,k∈ids)→Qay σ ids l=some es→Qay σ' ids l=some es:=by
  intro l
  induction l with
  | nil=>intro es _ h; simpa [Qay] using h
  | cons o os ih =>
   intro es hl h
   simp only [Qay] at h ⊢
   split at h
   ·rename_i bx ro nr fl w xs es0 h1 h2
    rw [hk o (hl o (by simp)),h1,ih es0 (fun k hk'=>hl k (by simp [hk'])) h2]
    simp only
    split at h
    ·rename_i hn; rw [if_pos hn]; exact h
    ·rename_i hn
     rw [if_neg hn]
     split at h
     ·rename_i ys ids' hm
      split at h
      ·rename_i hall
       have hall':∀k∈ids',k∈ids:=fun k hk'=>by
        have:=List.all_eq_true.1 hall k hk'
        simpa using this
       rw [Jn σ σ' (fun x b ids=>Jk (σ:=σ) (σ':=σ') Qn x b ids) _ _ _ hm (fun k hk'=>hk k (hall' k hk'))]
       simp only [hall,if_true]
       exact h
      ·cases h
     ·cases h
   ·cases h
 exact go ids es (fun k hk=>hk) he
theorem Qep:∀(ps qs:List (Nat × AV)) (ids:List Nat),Zp σ ps=some (qs,ids)→(∀k∈ids,σ' k=σ k)→Zp σ' ps=some (qs,ids)
 | [],qs,ids,he,_=>by simpa [Zp] using he
 | (i,x)::r,qs,ids,he,hk=>by
  simp only [Zp] at he ⊢
  split at he
  ·rename_i y a ys b h1 h2
   cases he
   rw [Qep r ys b h2 (fun k hk'=>hk k (by simp [hk']))]
   split at h1
   ·rename_i hn; cases h1; simp [hn]
   ·rename_i hn
    simp only [hn]
    simp [Jk _ _ _ _ h1 (fun k hk'=>hk k (by simp [hk']))]
  ·cases he
theorem Jl {w:Nat} {a:AV} {ys:List AV} {nr fl:Bool} {rd:List Nat} (he:Y5 σ w a=some (ys,nr,fl,rd)) (hk:∀k∈rd,σ' k=σ k):Y5 σ' w a=some (ys,nr,fl,rd):=by
 unfold Y5 at he ⊢
 cases a with
 | ref o i n =>
  simp only at he ⊢
  split at he
  ·rename_i ro nr' fl' w' xs hσ
   split at he
   ·rename_i hc; cases he; rw [hk o (by simp),hσ]; simp only [hc,if_true]
   ·cases he
  ·cases he
 | _=>exact he
theorem Qg9 {T:TI} {a:AV} {ys:List AV} {nr fl:Bool} {r:Res} (he:absAppend σ fr T a ys nr fl=some r) (hk:∀k∈r.rd,σ' k=σ k):absAppend σ' fr T a ys nr fl=some r:=by
 unfold absAppend at he ⊢
 cases a with
 | ref o i n =>
  simp only at he ⊢
  have key:σ' o=σ o:=by
   split at he
   ·split at he
    ·split at he
     ·split at he
      ·cases he; exact hk o (by simp)
      ·cases he
     ·split at he
      ·cases he; exact hk o (by simp)
      ·split at he
       ·cases he; exact hk o (by simp)
       ·split at he
        ·cases he; exact hk o (by simp)
        ·cases he
    ·cases he
   ·cases he
  rw [key]; exact he
 | _=>exact he
theorem Qme {w:Nat} {x:AV} {l h m:Option AV} {r:AV × List Nat} (he:Jc σ w x l h m=some r) (hk:∀k∈r.2,σ' k=σ k):Jc σ' w x l h m=some r:=by
 unfold Jc at he ⊢
 cases x with
 | ref o i n =>
  simp only at he ⊢
  have key:σ' o=σ o:=by
   split at he
   ·split at he
    ·split at he
     ·cases he; exact hk o (by simp)
     ·cases he
    ·split at he
     ·split at he
      ·cases he; exact hk o (by simp)
      ·cases he
     ·cases he
    ·cases he
   ·cases he
  rw [key]; exact he
 | _=>exact he
theorem Qn2 {f:FuncId} {args:List AV} (he:Qdn C σ fr f args=some (.val res)) (hk:∀k∈res.rd,σ' k=σ k):Qdn C σ' fr f args=some (.val res):=by
 unfold Qdn at he ⊢
 split at he
 ·rename_i as ids hm
  have hids:res.rd=ids:=by
   split at he
   ·split at he
    ·split at he
     ·cases he; rfl
     ·split at he
      ·cases he; rfl
      ·cases he
    ·cases he
   ·cases he
   ·cases he
  rw [Jn σ σ' (fun x b ids=>Jk (σ:=σ) (σ':=σ') Qn x b ids) _ _ _ hm (fun k hk'=>hk k (by rw [hids]; exact hk'))]
  try simp only
  split at he
  ·rename_i r0 objs hco
   try simp only [hco]
   split at he
   ·rename_i hok
    try simp only [hok,if_true]
    split at he
    ·rename_i hc; simp only [hc,if_true]; exact he
    ·rename_i hc
     try simp only [hc]
     split at he
     ·rename_i es hf
      rw [Qex hf (fun k hk'=>hk k (by rw [hids]; exact hk'))]
      exact he
     ·cases he
   ·cases he
  ·rename_i hco; exact he
  ·cases he
 ·cases he
theorem Qmh {args:List Operand} {ts:List TypeId} (he:Qae P nf σ fr s args ts=some (.val res)) (hk:∀k∈res.rd,σ' k=σ k):Qae P nf σ' fr s args ts=some (.val res):=by
 unfold Qae at he ⊢
 split at he
 ·rename_i x y t u r
  split at he
  ·rename_i T U a b hT hU ha hb
   try simp only [hT,hU,ha,hb]
   split at he
   ·cases he
   ·rename_i htu
    try simp only [htu]
    split at he
    ·rename_i e hkind
     try simp only [hkind]
     split at he
     ·rename_i E hE
      try simp only [hE]
      split at he
      ·rename_i ys nr fl rd hel
       split at he
       ·rename_i hnr
        cases hap:absAppend σ fr E a ys nr fl with
        | none=>simp [hap] at he
        | some r1 =>
         try simp only [hap,Option.map_some] at he
         cases he
         rw [Jl hel (fun k hk'=>hk k (by simp [hk']))]
         try simp only [hnr,if_true,Qg9 hap (fun k hk'=>hk k (by simp [hk'])),Option.map_some]
         simp
       ·rename_i hnr
        split at he
        ·rename_i ys' ids hm
         split at he
         ·rename_i es r1 hf hap
          split at he
          ·cases he
          ·rename_i hany
           cases he
           rw [Jl hel (fun k hk'=>hk k (by simp [hk']))]
           try simp only [hnr]
           rw [Jn σ σ' (fun x b ids=>Jk (σ:=σ) (σ':=σ') Qn x b ids) _ _ _ hm (fun k hk'=>hk k (by simp [hk']))]
           try simp only [Qex hf (fun k hk'=>hk k (by simp [hk'])),Qg9 hap (fun k hk'=>hk k (by simp [hk']))]
           simp [hany]
         ·cases he
        ·cases he
      ·cases he
     ·cases he
    ·cases he
  ·cases he
 ·cases he
theorem Qoy {args:List Operand} {ts:List TypeId} (he:Qft P nf σ fr s args ts=some (.val res)) (hk:∀k∈res.rd,σ' k=σ k):Qft P nf σ' fr s args ts=some (.val res):=by
 unfold Qft at he ⊢
 split at he
 ·rename_i x y t r
  split at he
  ·rename_i T a b hT ha hb
   try simp only [hT,ha,hb]
   split at he
   ·rename_i e hkind
    try simp only [hkind]
    split at he
    ·rename_i E hE
     try simp only [hE]
     split at he
     ·rename_i ys nr fl rd hel
      cases a with
      | ref o i n =>
       try simp only at he ⊢
       split at he
       ·rename_i nr' fl' w xs hσ
        split at he
        ·rename_i hc
         cases he
         rw [Jl hel (fun k hk'=>hk k (by simp [hk']))]
         try simp only
         rw [hk o (by simp),hσ]
         simp [hc]
        ·cases he
       ·cases he
      | nils=>cases he; rw [Jl hel hk]
      | emp=>cases he; rw [Jl hel hk]
      | _=>cases he
     ·cases he
    ·cases he
   ·cases he
  ·cases he
 ·cases he
end
end Go.Ab
namespace Go.Ab
open Go.RowKit
section
variable {P:Program} {nf:Bool} {C:FuncId→List AV→Option Z2} {σ σ':Sto} {s s':Slots} {fr:Nat} {o:Oper} {res:Res}
theorem Qce (he:evalOp P nf C σ fr s o=some (.val res)) (hk:∀k∈res.rd,σ' k=σ k):evalOp P nf C σ' fr s o=some (.val res):=by
 obtain ⟨dst,op,type,pos,after,guard⟩:=o
 cases op
 case call c =>
  obtain ⟨cal,args,ts⟩:=c
  cases cal with
  | value g =>
   unfold evalOp at he ⊢
   simp only at he ⊢
   split at he
   ·exact Qn2 he hk
   ·cases he
  | invoke g m=>unfold evalOp at he; cases he
  | builtin b =>
   unfold evalOp at he ⊢
   simp only at he ⊢
   generalize args.toList=as at *
   generalize ts.toList=tl at *
   cases b <;> first | exact he | exact Qmh he hk | exact Qoy he hk
 case load t x =>
  unfold evalOp at he ⊢
  simp only at he ⊢
  split at he
  ·exact he
  ·rename_i T ob ii c hT hx
   have key:σ' ob=σ ob:=by
    split at he
    ·split at he
     ·simp only [Option.map_eq_some_iff] at he
      obtain ⟨z,_,hz⟩:=he
      cases hz; exact hk ob (by simp)
     ·cases he
    ·cases he
   rw [key]; exact he
  ·cases he
 case store t x y =>
  unfold evalOp at he ⊢
  simp only at he ⊢
  split at he
  ·rename_i T ob ii c v0 hT hx hy
   split at he
   ·rename_i bx nr fl w xs hσ
    split at he
    ·rename_i x0 hx0
     split at he
     ·rename_i hok
      split at he
      ·rename_i v ids hsn
       split at he
       ·rename_i x' es hput hf
        split at he
        ·cases he
        ·rename_i hcon
         cases he
         rw [hk ob (by simp),hσ]
         simp only [hx0,hok,if_true]
         have hs':(if bx || nf || v0.nr then some (v0,[]) else Qt σ' Qn v0)=some (v,ids):=by
          split at hsn
          ·rename_i hc; rw [if_pos hc]; exact hsn
          ·rename_i hc; rw [if_neg hc]; exact Jk _ _ _ _ hsn (fun k hk'=>hk k (by simp [hk']))
         rw [hs']
         simp only [hput,Qex hf (fun k hk'=>hk k (by simp [hk']))]
         rw [if_neg hcon]
       ·cases he
      ·cases he
     ·cases he
    ·cases he
   ·cases he
  ·cases he
 case buildSlice t n ps =>
  unfold evalOp at he ⊢
  simp only at he ⊢
  split at he
  ·rename_i T hT
   split at he
   ·rename_i e hkd
    split at he
    ·rename_i E parts0 hE hps
     split at he
     ·rename_i hn0; rw [if_pos hn0]; exact he
     ·rename_i hn0
      rw [if_neg hn0]
      split at he
      ·rename_i z parts ids hz hsn
       split at he
       ·rename_i hc
        split at he
        ·rename_i xs es hfill hf
         cases he
         have hs':(if nf then some (parts0,[]) else Zp σ' parts0)=some (parts,ids):=by
          split at hsn
          ·rename_i hc; rw [if_pos hc]; exact hsn
          ·rename_i hc; rw [if_neg hc]; exact Qep _ _ _ hsn hk
         rw [hs']
         simp only [hz,Qex hf hk,hfill,hc,if_true]
        ·cases he
       ·cases he
      ·cases he
    ·cases he
   ·cases he
  ·cases he
 case slice t x lo hi mx =>
  unfold evalOp at he ⊢
  simp only at he ⊢
  split at he
  ·cases he
  ·rename_i hm
   split at he
   ·rename_i T a l h m hT hx h1 h2 h3
    split at he
    ·rename_i e hkd
     split at he
     ·rename_i E hE
      simp only [Option.map_eq_some_iff] at he
      obtain ⟨r,hr,hz⟩:=he
      cases hz
      rw [if_neg hm,Qme hr hk]
      rfl
     ·cases he
    ·cases he
   ·cases he
 case indexAddr t x y =>
  unfold evalOp at he ⊢
  simp only at he ⊢
  split at he
  ·rename_i T a b hT hx hy
   split at he
   ·rename_i e j h1 h2
    split at he
    ·rename_i E hE
     split at he
     ·exact he
     ·rename_i ob ii n
      have key:σ' ob=σ ob:=by
       split at he
       ·split at he
        ·cases he; exact hk ob (by simp)
        ·cases he
       ·cases he
      rw [key]; exact he
     ·cases he
    ·cases he
   ·exact he
   ·cases he
  ·cases he
 case makeMap t r=>cases r <;> exact he
 case lookup t x y c =>
  unfold evalOp Qdu at he ⊢
  simp only at he ⊢
  split at he
  ·rename_i T ob k hT hx hy
   have key:σ' ob=σ ob:=by
    split at he
    ·split at he
     ·split at he
      ·cases he; exact hk ob (by simp)
      ·cases he
     ·split at he
      ·cases he; exact hk ob (by simp)
      ·cases he
     ·cases he
    ·cases he
   rw [key]; exact he
  ·cases he
 case mapUpdate t m x y =>
  unfold evalOp Qes at he ⊢
  simp only at he ⊢
  split at he
  ·rename_i T ob k v hT hm hx hy
   have key:σ' ob=σ ob:=by
    split at he
    ·split at he
     ·cases he; exact hk ob (by simp)
     ·cases he; exact hk ob (by simp)
     ·cases he
    ·cases he
   rw [key]; exact he
  ·cases he
 case insert t m x y =>
  unfold evalOp Qes at he ⊢
  simp only at he ⊢
  split at he
  ·rename_i T ob k v hT hm hx hy
   have key:σ' ob=σ ob:=by
    split at he
    ·split at he
     ·cases he; exact hk ob (by simp)
     ·cases he; exact hk ob (by simp)
     ·cases he
    ·cases he
   rw [key]; exact he
  ·cases he
 case mapEntry t m x =>
  unfold evalOp Qfs at he ⊢
  simp only at he ⊢
  split at he
  ·rename_i T ob k hT hm hx
   have key:σ' ob=σ ob:=by
    split at he
    ·split at he
     ·split at he
      ·cases he; exact hk ob (by simp)
      ·cases he
     ·split at he
      ·cases he; exact hk ob (by simp)
      ·cases he
     ·cases he
    ·cases he
   rw [key]; exact he
  ·cases he
 case entryStore t m x y =>
  unfold evalOp Qee at he ⊢
  simp only at he ⊢
  split at he
  ·rename_i ob i v hm hx hy
   have key:σ' ob=σ ob:=by
    split at he
    ·split at he
     ·cases he; exact hk ob (by simp)
     ·cases he
    ·cases he
   rw [key]; exact he
  ·cases he
 case panic x =>
  unfold evalOp at he
  simp only at he
  split at he
  ·split at he <;> cases he
  ·cases he
 all_goals first
  | exact he
  | (unfold evalOp at he ⊢; exact he)
theorem Qs3 {o:Oper} (he:Zr P nf C σ fr s o=some (.val res)) (hs:∀x∈o.op.operands,evo s' x=evo s x) (hk:∀k∈res.rd,σ' k=σ k):Zr P nf C σ' fr s' o=some (.val res):=by
 unfold Zr at he ⊢
 rw [Qpq hs]
 split at he
 ·rename_i hm
  rw [if_pos hm]
  exact Qce he hk
 ·rename_i hm
  rw [if_neg hm]
  unfold Zv at he
  split at he
  ·rename_i r h1
   cases he
   rw [Qce h1 hk]
   rfl
  ·cases he
end
end Go.Ab
namespace Go.Ab
open Go.RowKit
structure Foot where
 v:Option AV
 eff:List (Nat × AObj)
 fr:Nat
 fr':Nat
 rd:List Nat
 deriving Inhabited
def InR (lo hi id:Nat):Prop:=(lo≤id∧id < hi)∨∃k i,lo≤k∧k < hi∧id=fid k i
theorem InR.mono {lo hi lo' hi' k:Nat} (h:InR lo hi k) (h1:lo'≤lo) (h2:hi≤hi'):InR lo' hi' k:=by
 rcases h with h | ⟨j,i,h3,h4,e⟩
 ·exact .inl (by omega)
 ·exact .inr ⟨j,i,by omega,by omega,e⟩
theorem InR.disj {lo hi lo' hi' k:Nat} (h:InR lo hi k) (h':InR lo' hi' k) (hd:hi≤lo'∨hi'≤lo) (hb:hi≤BIG) (hb':hi'≤BIG):False:=by
 rcases h with h | ⟨j,i,h3,h4,rfl⟩
 ·rcases h' with h' | ⟨j,i,h3,h4,rfl⟩
  ·omega
  ·have:=Zn j i; omega
 ·rcases h' with h' | ⟨j',i',h3',h4',e⟩
  ·have:=Zn j i; omega
  ·have:=(Yq e).1; omega
theorem InR.inB {lo hi k:Nat} (h:InR lo hi k):InB hi k:=by
 rcases h with h | ⟨j,i,h3,h4,e⟩
 ·exact .inl h.2
 ·exact .inr ⟨j,i,h4,e⟩
theorem InR.notB {lo hi k:Nat} (h:InR lo hi k) (hb:hi≤BIG):¬ InB lo k:=by
 rintro (c | ⟨j',i',h3',e⟩)
 ·rcases h with h | ⟨j,i,h3,h4,rfl⟩
  ·omega
  ·have:=Zn j i; omega
 ·subst e
  rcases h with h | ⟨j,i,h3,h4,e⟩
  ·have:=Zn j' i'; omega
  ·have:=(Yq e).1; omega
def Jh (s:Slots) (dst:Option Nat) (v:Option AV):Slots:=fun k=>if dst=some k then v else s k
def Q2f (P:Program) (o:Oper) (s:Slots) (σ:Sto) (F:Foot):Prop :=
 ∀B W0 D M ι a W n Q r next,Rel P B W0 D M ι σ W→Qg M ι s a.tmps→(∀k,InR F.fr F.fr' k→ι k=none) →
  (∀v W' M' ι',CM.Grow B M M'→ι.le ι'→(∀k,¬ InR F.fr F.fr' k→ι' k=ι k)→Rel P B W0 D M' ι' (σ.puts F.eff) W'→(∀x,F.v=some x→Qa M' ι' v x)→next (a.put o.dst v) W') →
  o.wpIn (FW r) n P a W next Q
def Yl (P:Program) (ops:Array Oper) (o:Oper) (F:Foot) (s:Slots) (σ:Sto):Prop :=
 (X9 ops s o=some true∧Q2f P o s σ F)∨(X9 ops s o=some false∧F.v=(some (.tup []))∧F.eff=[])
def YlL (P:Program) (ops:Array Oper) (o:Oper) (F:Foot) (s:Slots) (σ:Sto):Prop :=
 ∀s' σ',(∀t∈o.looksAt ops,s' t=s t)→(∀k∈F.rd,σ' k=σ k)→Yl P ops o F s' σ'
def opA (P:Program) (ops:Array Oper) (Ft:Nat → Foot) (i:Nat) (K:Slots→Sto→Prop) (s:Slots) (σ:Sto):Prop :=
 match ops[i]? with
 | none=>K s σ
 | some o=>YlL P ops o (Ft i) s σ∧K (Jh s o.dst (Ft i).v) (σ.puts (Ft i).eff)
def Qhy (P:Program) (ops:Array Oper) (Ft:Nat → Foot) (Q:Slots→Sto→Prop):Nat → Array Bool→Slots→Sto→Prop
 | 0,listed,s,σ=>Region.ready .any ops listed=[]∧Q s σ
 | fuel+1,listed,s,σ=>(Region.ready .any ops listed=[]→Q s σ)∧∀i∈Region.ready .any ops listed,opA P ops Ft i (Qhy P ops Ft Q fuel (listed.setIfInBounds i true)) s σ
structure J1 (F G:Foot):Prop where
 a:∀e∈F.eff,e.1 ∉ G.rd
 b:∀e∈G.eff,e.1 ∉ F.rd
 c:∀e∈F.eff,∀e'∈G.eff,e.1≠e'.1
section
variable {P:Program} {ops:Array Oper} {Ft:Nat → Foot} {Q:Slots→Sto→Prop} {s:Slots} {σ:Sto}
theorem Qxt {i:Nat} {K K':Slots→Sto→Prop} (h:∀s σ,K s σ→K' s σ) (hh:opA P ops Ft i K s σ):opA P ops Ft i K' s σ:=by
 unfold opA at *
 split
 ·rename_i ho; simp only [ho] at hh; exact h _ _ hh
 ·rename_i o ho; simp only [ho] at hh; exact ⟨hh.1,h _ _ hh.2⟩
theorem Qd9 {es:List (Nat × AObj)} {k:Nat} (h:∀e∈es,e.1≠k):σ.puts es k=σ k:=by
 rcases σ.puts_at es k with ⟨h1,_⟩ | ⟨y,_,h2⟩
 ·exact h1
 ·exact absurd rfl (h _ h2)
theorem Qve {e1 e2:List (Nat × AObj)} (h:∀e∈e1,∀e'∈e2,e.1≠e'.1):(σ.puts e1).puts e2=(σ.puts e2).puts e1:=by
 funext k
 by_cases hk:∃e∈e1,e.1=k
 ·obtain ⟨e,he,rfl⟩:=hk
  rw [Qd9 (fun e' he'=>Ne.symm (h e he e' he'))]
  exact Qg1 e1 _ (.inr ⟨e,he,rfl⟩)
 ·have hn:∀e∈e1,e.1≠k:=fun e he hek=>hk ⟨e,he,hek⟩
  rw [Qd9 (σ:=σ.puts e2) hn]
  exact Qg1 e2 _ (.inl (Qd9 hn))
theorem Qvg {d d':Option Nat} {v v':Option AV} (h:∀t,d=some t→d'≠some t):Jh (Jh s d v) d' v'=Jh (Jh s d' v') d v:=by
 funext k
 simp only [Jh]
 by_cases e:d=some k
 ·rw [if_neg (h k e),if_pos e,if_pos e]
 ·rw [if_neg e,if_neg e]
theorem Qpz {d:Option Nat} {v:Option AV} {t:Nat} (h:∀k,d=some k→k≠t):Jh s d v t=s t:=by
 simp only [Jh]
 rw [if_neg (fun e=>h t e rfl)]
theorem Qzc {i j:Nat} {oi oj:Oper} (hj:ops[j]?=some oj) (hap:oi.apart ops oj=true) (hc:J1 (Ft i) (Ft j)) {K:Slots→Sto→Prop}
  (hy:YlL P ops oi (Ft i) s σ) (h:opA P ops Ft j K (Jh s oi.dst (Ft i).v) (σ.puts (Ft i).eff)) :
  opA P ops Ft j (fun s' σ'=>YlL P ops oi (Ft i) s' σ'∧K (Jh s' oi.dst (Ft i).v) (σ'.puts (Ft i).eff)) s σ:=by
 obtain ⟨h1,h2,h3⟩:=Oper.apart_spec hap
 unfold opA at *
 simp only [hj] at *
 obtain ⟨ha,hK⟩:=h
 refine ⟨fun s' σ' hs hσ=>ha s' σ' (fun t ht=>?_) (fun k hk=>?_),fun s' σ' hs hσ=>hy s' σ' (fun t ht=>?_) (fun k hk=>?_),?_⟩
 ·rw [Qpz (fun k hk e=>h1 k hk (e ▸ ht))]; exact hs t ht
 ·rw [Qd9 (fun e he hek=>hc.a e he (hek ▸ hk))]; exact hσ k hk
 ·rw [hs t ht,Qpz (fun k hk e=>h3 k hk (e ▸ ht))]
 ·rw [hσ k hk,Qd9 (fun e he hek=>hc.b e he (hek ▸ hk))]
 ·rw [Qvg (fun t ht e=>h2 t e ht),Qve (fun e he e' he'=>Ne.symm (hc.c e' he' e he))]; exact hK
inductive Yn (ops:Array Oper) (i:Nat):Nat → Prop
 | one {j:Nat} {oj:Oper} {e:Edge} (hj:ops[j]?=some oj) (he:e∈oj.after) (hb:Region.binds .any e=true) (h:e.on=i):Yn ops i j
 | more {j:Nat} {oj:Oper} {e:Edge} (hj:ops[j]?=some oj) (he:e∈oj.after) (hb:Region.binds .any e=true) (h:Yn ops i e.on):Yn ops i j
def Qcl (ops:Array Oper) (listed:Array Bool):Prop:=∀(k:Nat) (ok:Oper),ops[k]?=some ok→listed.getD k false=true→∀e∈ok.after,Region.binds .any e=true→listed.getD e.on false=true
theorem Qcl.back {listed:Array Bool} (hc:Qcl ops listed) {i j:Nat} (h:Yn ops i j):listed.getD j false=true→listed.getD i false=true:=by
 induction h with
 | one hj he hb h=>intro hl; rw [←h]; exact hc _ _ hj hl _ he hb
 | more hj he hb h ih=>intro hl; exact ih (hc _ _ hj hl _ he hb)
theorem Qpx {listed:Array Bool} {i:Nat} (h0:listed.getD i true=false) (h1:listed.getD i false=true):False:=by
 rcases Nat.lt_or_ge i listed.size with h' | h'
 ·simp [h'] at h0 h1; rw [h0] at h1; cases h1
 ·simp [Array.getElem?_eq_none h'] at h0
theorem Qs5 {listed:Array Bool} (hc:Qcl ops listed) {i j:Nat} (hj:j∈Region.ready .any ops listed) (hi:listed.getD i true=false):¬ Yn ops i j:=by
 obtain ⟨_,oj,hoj,hall⟩:=mem_ready.1 hj
 intro h
 cases h with
 | one hj' he hb h=>rw [hoj] at hj'; cases hj'; exact Qpx hi (by rw [←h]; exact hall _ he hb)
 | more hj' he hb h=>rw [hoj] at hj'; cases hj'; exact Qpx hi (hc.back h (hall _ he hb))
theorem Qcl.add {listed:Array Bool} (hc:Qcl ops listed) {j:Nat} (hj:j∈Region.ready .any ops listed):Qcl ops (listed.setIfInBounds j true):=by
 obtain ⟨_,oj,hoj,hall⟩:=mem_ready.1 hj
 intro k ok hk hl e he hb
 by_cases ekj:j=k
 ·subst ekj; rw [hoj] at hk; cases hk; exact getD_set_true (hall e he hb)
 ·rw [getD_set_ne false ekj] at hl; exact getD_set_true (hc k ok hk hl e he hb)
theorem Qop {i:Nat} {oi:Oper} (hi:ops[i]?=some oi):∀(fuel:Nat) (listed:Array Bool) (s:Slots) (σ:Sto),
  Qcl ops listed→(∀j oj,ops[j]?=some oj→j≠i→listed.getD j true=false→¬ Yn ops i j→oi.apart ops oj=true∧J1 (Ft i) (Ft j)) →
  i∈Region.ready .any ops listed→YlL P ops oi (Ft i) s σ →
  Qhy P ops Ft Q fuel (listed.setIfInBounds i true) (Jh s oi.dst (Ft i).v) (σ.puts (Ft i).eff)→Qhy P ops Ft Q (fuel+1) listed s σ:=by
 have here:∀(K:Slots→Sto→Prop) s σ,YlL P ops oi (Ft i) s σ→K (Jh s oi.dst (Ft i).v) (σ.puts (Ft i).eff)→opA P ops Ft i K s σ:=fun K s σ h1 h2=>by
  unfold opA; simp only [hi]; exact ⟨h1,h2⟩
 intro fuel
 induction fuel with
 | zero =>
  intro listed s σ _ _ hr hy H
  refine ⟨fun h=>(by rw [h] at hr; cases hr),fun j hj=>?_⟩
  by_cases hji:j=i
  ·subst hji; exact here _ _ _ hy H
  ·have:=ready_mono hj hji
   rw [H.1] at this
   cases this
 | succ fuel ih =>
  intro listed s σ hcl hfree hr hy H
  refine ⟨fun h=>(by rw [h] at hr; cases hr),fun j hj=>?_⟩
  by_cases hji:j=i
  ·subst hji; exact here _ _ _ hy H
  ·have h1:=H.2 j (ready_mono hj hji)
   obtain ⟨hjun,oj,hoj,hall⟩:=mem_ready.1 hj
   have hnot:¬ Yn ops i j:=Qs5 hcl hj (mem_ready.1 hr).1
   obtain ⟨hap,hc⟩:=hfree j oj hoj hji hjun hnot
   have h2:=Qzc hoj hap hc hy h1
   have hfree':∀k ok,ops[k]?=some ok→k≠i→(listed.setIfInBounds j true).getD k true=false →
     ¬ Yn ops i k→oi.apart ops ok=true∧J1 (Ft i) (Ft k):=fun k ok hk hki hun hno=>by
    refine hfree k ok hk hki ?_ hno
    by_cases hjk:j=k
    ·subst hjk; exact hjun
    ·rw [getD_set_ne true hjk] at hun; exact hun
   refine Qxt (fun s' σ' h3=>ih (listed.setIfInBounds j true) s' σ' (hcl.add hj) hfree' (ready_mono hr (Ne.symm hji)) h3.1 ?_) h2
   rw [Array.setIfInBounds_comm _ _ hji]
   exact h3.2
def Qx1 (P:Program) (ops:Array Oper) (Ft:Nat → Foot) (Q:Slots→Sto→Prop):List Oper→Nat → Slots→Sto→Prop
 | [],_,s,σ=>Q s σ
 | o::l,k,s,σ=>YlL P ops o (Ft k) s σ∧Qx1 P ops Ft Q l (k+1) (Jh s o.dst (Ft k).v) (σ.puts (Ft k).eff)
theorem Qll (hcomp:∀i j oj,i < j→ops[j]?=some oj→¬ Yn ops i j→J1 (Ft i) (Ft j)) :
  ∀(l:List Oper) (k:Nat) (listed:Array Bool) (s:Slots) (σ:Sto),Qcl ops listed→(∀j,l[j]?=ops[k+j]?)→(∀j,listed.getD j true=false→k≤j)→Region.lexFrom .any ops l.length k listed=true→Qx1 P ops Ft Q l k s σ→Qhy P ops Ft Q l.length listed s σ
 | [],_,_,_,_,_,_,_,hB,h=>⟨by simpa [Region.lexFrom] using hB,h⟩
 | o::l,k,listed,s,σ,hcl,hl,hpre,hB,h=>by
  have h0:ops[k]?=some o:=by simpa using (hl 0).symm
  simp only [List.length_cons,Region.lexFrom,Bool.and_eq_true] at hB
  obtain ⟨⟨hr,hf⟩,hB'⟩:=hB
  refine Qop h0 l.length listed s σ hcl (fun j oj hj hne hun hno=>⟨Region.free_spec h0 hf j oj hj hne hun (fun e he hb hq=>hno (.one hj he hb hq)),hcomp k j oj ?_ hj hno⟩) (by simpa using hr) h.1
   (Qll hcomp l (k+1) _ _ _ (hcl.add (by simpa using hr)) (fun j=>by have:=hl (j+1); simpa [Nat.add_assoc,Nat.add_comm 1 j] using this) (fun j hj=>?_) hB' h.2)
  ·have:=hpre j hun; omega
  ·by_cases e:k=j
   ·subst e
    rcases Nat.lt_or_ge k listed.size with h' | h'
    ·simp [h'] at hj
    ·simp [Array.getElem?_eq_none h'] at hj
   ·rw [getD_set_ne true e] at hj
    have:=hpre j hj; omega
end
section
variable {P:Program} {ops:Array Oper} {Ft:Nat → Foot} {s s':Slots} {σ:Sto} {B:Nat} {W0 W:World} {D:List Nat} {M:CM} {ι:Inj} {a:Act} {Q:Exit→Act→World→Prop} {QA:Slots→Sto→Prop}
theorem Qii {dst:Option Tmp} {v:Option AV} {u:Value} (h:Qg M ι s a.tmps) (hd:∀d,dst=some d→d < a.tmps.size) (hv:∀x,v=some x→Qa M ι u x):Qg M ι (Jh s dst v) (a.put dst u).tmps:=by
 intro t y ht
 simp only [Jh] at ht
 cases dst with
 | none=>simp at ht; exact h t y ht
 | some d =>
  have hset:(a.put (some d) u).tmps.getD t undef=if d=t then u else a.tmps.getD t undef:=by
   simp only [Act.put,Array.getD_eq_getD_getElem?]
   by_cases e:d=t
   ·subst e; simp [hd d rfl]
   ·simp [e,Array.getElem?_setIfInBounds_ne e]
  rw [hset]
  by_cases e:d=t
  ·subst e; rw [if_pos rfl] at ht; rw [if_pos rfl]; exact hv y ht
  ·rw [if_neg (by simpa using e)] at ht; rw [if_neg e]; exact h t y ht
theorem Qpw {r:Option Nat} {n:Nat} {nt lo hi:Nat} (hdst:∀(i:Nat) (o:Oper) (d:Tmp),ops[i]?=some o→o.dst=some d→d < nt) (hbig:hi≤BIG) (htab:∀i,lo≤(Ft i).fr∧(Ft i).fr≤(Ft i).fr'∧(Ft i).fr'≤hi) (hdis:∀i j,i≠j→(Ft i).fr'≤(Ft j).fr∨(Ft j).fr'≤(Ft i).fr) :
  ∀(fuel:Nat) (listed:Array Bool) (s:Slots) (σ:Sto) (M:CM) (ι:Inj) (a:Act) (W:World),Qhy P ops Ft QA fuel listed s σ →
  Rel P B W0 D M ι σ W→Qg M ι s a.tmps→a.tmps.size=nt→(∀i,listed.getD i true=false→∀k,InR (Ft i).fr (Ft i).fr' k→ι k=none) →
  (∀s' σ' M' ι' a' W',QA s' σ'→CM.Grow B M M'→ι.le ι'→(∀k,¬ InR lo hi k→ι' k=ι k)→Rel P B W0 D M' ι' σ' W'→Qg M' ι' s' a'.tmps→a'.tmps.size=nt→a'.defers=a.defers→Q .normal a' W') →
  wpAnyIn (FW r) n P .any ops Q fuel listed a W:=by
 intro fuel
 induction fuel with
 | zero =>
  intro listed s σ M ι a W h hrel hs hnt hfree hQ
  exact ⟨h.1,hQ s σ M ι a W h.2 (.refl _ _) (Inj.le_refl _) (fun _ _=>rfl) hrel hs hnt rfl⟩
 | succ fuel ih =>
  intro listed s σ M ι a W h hrel hs hnt hfree hQ
  refine ⟨fun h0=>hQ s σ M ι a W (h.1 h0) (.refl _ _) (Inj.le_refl _) (fun _ _=>rfl) hrel hs hnt rfl,fun i hi'=>?_⟩
  have h1:=h.2 i hi'
  obtain ⟨hun,o,ho,_⟩:=mem_ready.1 hi'
  unfold opA at h1
  simp only [ho] at h1
  obtain ⟨hy,hK⟩:=h1
  unfold wpOpIn
  simp only [ho]
  have nextListed:∀j,(listed.setIfInBounds i true).getD j true=false→listed.getD j true=false∧j≠i:=fun j hj=>by
   by_cases e:i=j
   ·subst e
    rcases Nat.lt_or_ge i listed.size with h' | h'
    ·simp [h'] at hj
    ·simp [Array.getElem?_eq_none h'] at hj
   ·rw [getD_set_ne true e] at hj; exact ⟨hj,Ne.symm e⟩
  rcases hy s σ (fun _ _=>rfl) (fun _ _=>rfl) with ⟨hw,hdo⟩ | ⟨hw,hv,heff⟩
  ·rw [if_pos (K2 hs hw)]
   refine hdo B W0 D M ι a W n Q r _ hrel hs (hfree i hun) (fun v W' M' ι' g1 g2 g3 g4 g5=>?_)
   have hs':=Qii (dst:=o.dst) (u:=v) (hs.mono g1.le g2) (fun d hd=>by rw [hnt]; exact hdst i o d ho hd) g5
   refine ih _ _ _ M' ι' _ W' hK g4 hs' (by cases o.dst <;> simp [Act.put,hnt]) (fun j hj k hk1=>?_) (fun s2 σ2 M2 ι2 a2 W2 k1 k2 k3 k4 k5 k6 k7 k8=>?_)
   ·obtain ⟨hj1,hj2⟩:=nextListed j hj
    rw [g3 k (fun hc=>hc.disj hk1 (hdis i j (Ne.symm hj2)) (Nat.le_trans (htab i).2.2 hbig) (Nat.le_trans (htab j).2.2 hbig))]; exact hfree j hj1 k hk1
   ·refine hQ s2 σ2 M2 ι2 a2 W2 k1 (g1.trans k2) (Inj.le_trans g2 k3) (fun k hk=>?_) k5 k6 k7 (by rw [k8]; cases o.dst <;> rfl)
    rw [k4 k hk,g3 k (fun hc=>hk (hc.mono (htab i).1 (htab i).2.2))]
  ·rw [if_neg (by rw [K2 hs hw]; simp)]
   refine ⟨fun _ _=>trivial,?_⟩
   have hs':=Qii (dst:=o.dst) (u:=undef) (v:=(Ft i).v) hs (fun d hd=>by rw [hnt]; exact hdst i o d ho hd) (fun x hx=>by rw [hv] at hx; cases hx; exact Qnt)
   rw [heff] at hK
   refine ih _ _ _ M ι _ W hK hrel hs' (by cases o.dst <;> simp [Act.put,hnt]) (fun j hj=>hfree j (nextListed j hj).1) (fun s2 σ2 M2 ι2 a2 W2 k1 k2 k3 k4 k5 k6 k7 k8=>?_)
   exact hQ s2 σ2 M2 ι2 a2 W2 k1 k2 k3 k4 k5 k6 k7 (by rw [k8]; cases o.dst <;> rfl)
end
end Go.Ab
namespace Go.Ab
open Go.RowKit
def Qb6 (l:List Nat) (k:Nat):Bool:=l.any fun x=>Nat.beq x k
def Qjh (F G:Foot):Bool :=
 F.eff.all (fun e=>!Qb6 G.rd e.1) && G.eff.all (fun e=>!Qb6 F.rd e.1) && F.eff.all fun e=>G.eff.all fun e'=>!Nat.beq e.1 e'.1
theorem Qcn {l:List Nat} {k:Nat} (h:Qb6 l k=false):k ∉ l:=by
 intro hk
 simp only [Qb6,List.any_eq_false] at h
 exact absurd (Nat.beq_refl k) (by simpa using h k hk)
theorem Qp9 {F G:Foot} (h:Qjh F G=true):J1 F G:=by
 simp only [Qjh,Bool.and_eq_true,List.all_eq_true,Bool.not_eq_true'] at h
 obtain ⟨⟨h1,h2⟩,h3⟩:=h
 exact ⟨fun e he=>Qcn (h1 e he),fun e he=>Qcn (h2 e he),fun e he e' he' hee=>by
  have:=h3 e he e' he'
  rw [hee,Nat.beq_refl] at this
  cases this⟩
theorem Ql5 {F G:Foot} (h1:F.eff=[]) (h2:F.rd=[]):J1 F G:=⟨fun e he=>by rw [h1] at he; simp at he,fun e _=>by rw [h2]; simp,fun e he=>by rw [h1] at he; simp at he⟩
def Ki:Nat → List Foot→Nat → Prop
 | lo,[],hi=>lo=hi
 | lo,F::fs,hi=>F.fr=lo∧F.fr≤F.fr'∧Ki F.fr' fs hi
theorem Ki.le:∀{fs:List Foot} {lo hi:Nat},Ki lo fs hi→lo≤hi
 | [],lo,hi,h=>Nat.le_of_eq h
 | F::fs,lo,hi,h=>by have:=Ki.le h.2.2; have:=h.1; have:=h.2.1; omega
theorem Ki.at : ∀{fs:List Foot} {lo hi:Nat},Ki lo fs hi→∀(i:Nat) (F:Foot),fs[i]?=some F→lo≤F.fr∧F.fr≤F.fr'∧F.fr'≤hi
 | [],_,_,_,i,F,h=>by simp at h
 | F0::fs,lo,hi,h,i,F,hF=>by
  have hle:=Ki.le h.2.2
  cases i with
  | zero=>simp at hF; subst hF; exact ⟨Nat.le_of_eq h.1.symm,h.2.1,hle⟩
  | succ i =>
   obtain ⟨h1,h2,h3⟩:=Ki.at h.2.2 i F (by simpa using hF)
   have:=h.1; have:=h.2.1
   exact ⟨by omega,h2,h3⟩
theorem Ki.lt:∀{fs:List Foot} {lo hi:Nat},Ki lo fs hi→∀(i j:Nat) (F G:Foot),i < j→fs[i]?=some F→fs[j]?=some G→F.fr'≤G.fr
 | [],_,_,_,i,j,F,G,_,h,_=>by simp at h
 | F0::fs,lo,hi,h,i,j,F,G,hij,hF,hG=>by
  cases j with
  | zero=>omega
  | succ j =>
   cases i with
   | zero=>simp at hF; subst hF; exact (Ki.at h.2.2 j G (by simpa using hG)).1
   | succ i=>exact Ki.lt h.2.2 i j F G (by omega) (by simpa using hF) (by simpa using hG)
section
variable {P:Program} {nf:Bool} {C:FuncId→List AV→Option Z2} {ops:Array Oper} {st st':St} {rd:Option Nat} {base:Nat}
theorem Qzm {s s':List (Nat × AV)} {nt:Nat} {dst:Option Tmp} {v:Option AV} (h:Y9 s nt dst v=some s'):lk s'=Jh (lk s) dst v:=by
 funext t
 unfold Y9 at h
 cases dst with
 | none=>cases h; simp [Jh]
 | some d =>
  simp only at h
  split at h
  ·cases v with
   | none=>cases h; rw [Qi3]; simp [Jh]
   | some x=>cases h; rw [Qdp]; simp [Jh]
  ·cases h
theorem Qy1 {s s':List (Nat × AV)} {nt:Nat} {dst:Option Tmp} {v:Option AV} (h:Y9 s nt dst v=some s'):∀d,dst=some d→d < nt:=by
 intro d hd
 subst hd
 unfold Y9 at h
 simp only at h
 split at h
 ·rename_i hlt; simpa [Nat.blt,Nat.lt_iff_add_one_le] using hlt
 ·cases h
theorem Qhg {o:Oper} {s s':Slots} (h:∀t∈o.looksAt ops,s' t=s t):X9 ops s' o=X9 ops s o:=by
 unfold X9
 cases hg:o.guard with
 | none=>rfl
 | some gw =>
  obtain ⟨j,want⟩:=gw
  simp only
  cases hj:ops[j]? with
  | none=>rfl
  | some oj =>
   simp only
   cases hd:oj.dst with
   | none=>rfl
   | some d =>
    simp only
    rw [h d (by simp [Oper.looksAt,hg,hj,hd])]
theorem Qt6 {o:Oper} {s s':Slots} (h:∀t∈o.looksAt ops,s' t=s t):∀x∈o.op.operands,evo s' x=evo s x:=by
 intro x hx
 cases x with
 | tmp t=>exact h t (List.mem_append_left _ (List.mem_filterMap.2 ⟨.tmp t,by simpa using hx,rfl⟩))
 | _=>rfl
theorem ylL_ev (hC:Qgr P C) {o:Oper} {s:Slots} {σ:Sto} {fr:Nat} {res:Res} (hw:X9 ops s o=some true) (he:Zr P nf C σ fr s o=some (.val res)):YlL P ops o ⟨res.v,res.eff,fr,res.fr,res.rd⟩ s σ:=by
 intro s' σ' hs hσ
 have he':=Qs3 he (Qt6 hs) hσ
 refine .inl ⟨by rw [Qhg hs]; exact hw,?_⟩
 intro B W0 D M ι a W n Q r next hrel hsl hfree hpost
 refine Qxa (fr:=fr) hC hrel hsl he' (fun res' hr k hk1 hk2=>?_) ⟨fun res' hr v W' M' ι' g1 g2 g3 g4 g5=>?_,fun pv hpv=>by cases hpv⟩
 ·cases hr; exact hfree k (.inl ⟨hk1,hk2⟩)
 ·cases hr; exact hpost v W' M' ι' g1 g2 (fun k hk=>g3 k (Nat.lt_or_ge k fr |>.imp_right fun h1=>Nat.le_of_not_lt fun h2=>hk (.inl ⟨h1,h2⟩))) g4 g5
def Qxo (rd:Option Nat) (objs:List AObj):Bool :=
 match rd with
 | none=>true
 | some l=>match objs[l]? with
  | some (.loop _ _ _ _ _ s _)=>match s with
   | .exhausted=>false
   | _=>true
  | _=>false
end
end Go.Ab
namespace Go.Ab
open Go.RowKit
def WP (P:Program) (rd:Option Nat) (base:Nat) (c:Code) (st:St) (Φ:AOut→Prop):Prop:=∃out,Xa P rd base c st out∧Φ out
@[reducible] def Qoc (K:St→Prop) (Φ:AOut→Prop):AOut→Prop
 | .go .normal st=>K st
 | out=>Φ out
@[reducible] def Qpr (id:Nat) (Φ:AOut→Prop) (out:AOut):Prop:=Φ (out.inBlock id)
section
variable {P:Program} {rd:Option Nat} {base:Nat} {c x y:Code} {st st':St} {Φ Ψ:AOut→Prop}
theorem WP.mono (h:WP P rd base c st Φ) (hm:∀out,Φ out→Ψ out):WP P rd base c st Ψ:=let ⟨o,h1,h2⟩:=h; ⟨o,h1,hm o h2⟩
theorem wp_skip (h:Φ (.go .normal st)):WP P rd base .skip st Φ:=⟨_,Quy,h⟩
theorem Qwm {l:Nat} (h:Φ (.go .normal st)):WP P rd base (.label l) st Φ:=⟨_,Qsp,h⟩
theorem Qzt {id:Nat} (h:Φ (.go (.exit id) st)):WP P rd base (.exit id) st Φ:=⟨_,Qu9,h⟩
theorem Q0o (h:Φ (.go .ret st)):WP P rd base .ret st Φ:=⟨_,Qxu,h⟩
theorem Qz7 (h:WP P rd base x st (Qoc (fun st1=>WP P rd base y st1 Φ) Φ)):WP P rd base (.seq x y) st Φ:=by
 obtain ⟨o,h1,h2⟩:=h
 cases o with
 | pan v=>exact ⟨_,Qa3 h1 rfl,h2⟩
 | go e st1 =>
  cases e with
  | normal=>obtain ⟨o2,h3,h4⟩:=h2; exact ⟨o2,exec_seq h1 h3,h4⟩
  | exit id=>exact ⟨_,Qa3 h1 rfl,h2⟩
  | ret=>exact ⟨_,Qa3 h1 rfl,h2⟩
  | goto l=>exact ⟨_,Qa3 h1 rfl,h2⟩
theorem Qr7 {op:Operand} {b:Bool} (he:evo (lk st.slots) op=some (.bool b)) (h1:b=true→WP P rd base x st Φ) (h2:b=false→WP P rd base y st Φ):WP P rd base (.cond op x y) st Φ:=by
 cases b with
 | true=>obtain ⟨o,k1,k2⟩:=h1 rfl; exact ⟨o,exec_cond he (by simpa using k1),k2⟩
 | false=>obtain ⟨o,k1,k2⟩:=h2 rfl; exact ⟨o,exec_cond he (by simpa using k1),k2⟩
theorem Qxj {id:Nat} (h:WP P rd base c st (Qpr id Φ)):WP P rd base (.block id c) st Φ:=let ⟨o,h1,h2⟩:=h; ⟨_,exec_block h1,h2⟩
theorem Qzu {l:Nat} (h:Φ (.go (.goto l) st)):WP P rd base (.goto l) st Φ:=⟨_,Qvp,h⟩
def SWP (P:Program) (rd:Option Nat) (base:Nat) (body x:Code) (st:St) (Φ:AOut→Prop):Prop:=∃out,Qiw P rd base body x st out∧Φ out
@[reducible] def Qf3 (P:Program) (rd:Option Nat) (base:Nat) (body:Code) (Φ:AOut→Prop):AOut→Prop
 | .go (.goto l) st=>match findLabel body l with
  | some rest=>SWP P rd base body rest st Φ
  | none=>Φ (.go (.goto l) st)
 | out=>Φ out
theorem Qu7 {body:Code} (h:WP P rd base x st (Qf3 P rd base body Φ)):SWP P rd base body x st Φ:=by
 obtain ⟨o,h1,h2⟩:=h
 cases o with
 | pan v=>exact ⟨_,Qbc h1 rfl,h2⟩
 | go e st1 =>
  cases e with
  | goto l =>
   simp only [Qf3] at h2
   cases hf:findLabel body l with
   | some rest=>rw [hf] at h2; obtain ⟨o2,h3,h4⟩:=h2; exact ⟨o2,scopeX_goto h1 hf h3,h4⟩
   | none=>rw [hf] at h2; exact ⟨_,Qbc h1 hf,h2⟩
  | normal=>exact ⟨_,Qbc h1 rfl,h2⟩
  | exit id=>exact ⟨_,Qbc h1 rfl,h2⟩
  | ret=>exact ⟨_,Qbc h1 rfl,h2⟩
theorem Qxi (h:WP P rd base c st (Qf3 P rd base c Φ)):WP P rd base (.scope c) st Φ:=let ⟨o,h1,h2⟩:=Qu7 h; ⟨o,exec_scope h1,h2⟩
def LWP (P:Program) (rd:Option Nat) (base:Nat) (c:Code) (st:St) (Φ:AOut→Prop):Prop:=∃out,Qgi P rd base c st out∧Φ out
theorem Qef (h:WP P rd base c st (Qoc (fun st1=>LWP P rd base c st1 Φ) Φ)):LWP P rd base c st Φ:=by
 obtain ⟨o,h1,h2⟩:=h
 cases o with
 | pan v=>exact ⟨_,Qew h1 rfl,h2⟩
 | go e st1 =>
  cases e with
  | normal=>obtain ⟨o2,h3,h4⟩:=h2; exact ⟨o2,loopX_next h1 h3,h4⟩
  | exit id=>exact ⟨_,Qew h1 rfl,h2⟩
  | ret=>exact ⟨_,Qew h1 rfl,h2⟩
  | goto l=>exact ⟨_,Qew h1 rfl,h2⟩
theorem Qri (h:LWP P rd base c st Φ):WP P rd base (.loop c) st Φ:=let ⟨o,h1,h2⟩:=h; ⟨o,exec_loop h1,h2⟩
theorem Qy4 {f:FuncId} {fn:Func} {c:Code} {args:List AV} {R:Z2→Prop} (hf:P.funcs[f]?=some fn) (hb:fn.body=some c) (hn:(fn.name == "runtime.NumGoroutine")=false) (hle:args.length≤fn.ntmps)
  (h:WP P none 0 c (st0 fn.ntmps args) (fun out=>match out with
   | .go e st'=>e.ends=true∧∃x,resultA P fn st'=some x∧∃co,Qf0 st' x=some co∧R co
   | .pan v=>R (.pan v))):∃co,Zb P f args co∧R co:=by
 obtain ⟨out,h1,h2⟩:=h
 cases out with
 | pan v=>exact ⟨_,Qk9 hf hb hle h1,h2⟩
 | go e st'=>obtain ⟨h3,x,h4,co,h5,h6⟩:=h2; exact ⟨co,callOk_exec hf hb hle h1 h3 h4 h5,h6⟩
end
end Go.Ab
namespace Go.Ab
open Go.RowKit
abbrev Sk:=List Nat × List Nat
def Foot.sk (F:Foot):Sk:=(F.eff.map (·.1),F.rd)
def Qim (c id:Nat):Prop:=id=c∨c < BIG∧∃i,id=fid c i
structure Cov (F:Foot) (s:Sk):Prop where
 eff:∀e∈F.eff,∃c∈s.1,Qim c e.1
 rd:∀e∈F.rd,∃c∈s.2,Qim c e
theorem Qh9 (F:Foot):Cov F F.sk:=⟨fun e he=>⟨e.1,List.mem_map_of_mem he,.inl rfl⟩,fun e he=>⟨e,he,.inl rfl⟩⟩
theorem Q0v {F:Foot} {s:Sk} (h:F.sk=s):Cov F s:=h ▸ Qh9 F
def Qmd:List Foot→List Sk→Prop
 | [],[]=>True
 | F::fs,s::ss=>Cov F s∧Qmd fs ss
 | _,_=>False
theorem Qim.eq {c c' id:Nat} (h:Qim c id) (h':Qim c' id) (hb:c < BIG) (hb':c' < BIG):c=c':=by
 rcases h with rfl | ⟨_,i,rfl⟩
 ·rcases h' with e | ⟨_,i,rfl⟩
  ·exact e
  ·have:=Zn c' i; omega
 ·rcases h' with e | ⟨_,j,e⟩
  ·have:=Zn c i; omega
  ·exact (Yq e).1
structure Qgv (P:Program) (ops:Array Oper) (st:St) (o:Oper) (F:Foot) (st1:St):Prop where
 yl:YlL P ops o F (lk st.slots) (sto st.objs)
 fr:F.fr=st.objs.length
 fr':F.fr'=st1.objs.length
 eff:sto st1.objs=(sto st.objs).puts F.eff
 len:st.objs.length≤st1.objs.length
 big:st.objs.length≤BIG→st1.objs.length≤BIG
 stay:F.eff=[]→st1.objs=st.objs
 dst:Y9 st.slots st.nt o.dst F.v=some st1.slots
 nt:st1.nt=st.nt
def Qox (P:Program) (ops:Array Oper):List Oper→St→List Foot→St→Prop
 | [],st,fs,st'=>fs=[]∧st'=st
 | o::l,st,fs,st'=>∃F fs0 st1,fs=F::fs0∧Qgv P ops st o F st1∧Qox P ops l st1 fs0 st'
section
variable {P:Program} {rd:Option Nat} {base:Nat} {ops:Array Oper} {st st1 st':St} {o:Oper} {F:Foot} {out:AOut} {Φ:AOut→Prop}
theorem Qwp (yl:YlL P ops o F (lk st.slots) (sto st.objs)) (fr:F.fr=st.objs.length) (fr':F.fr'=st1.objs.length) (ha:Ye st.objs F.eff=some st1.objs) (dst:Y9 st.slots st.nt o.dst F.v=some st1.slots) (nt:st1.nt=st.nt):Qgv P ops st o F st1:=by
 obtain ⟨h1,h2,h3⟩:=Vi _ _ _ ha
 exact ⟨yl,fr,fr',h1,h2,h3,fun e=>by rw [e] at ha; exact (Option.some.inj ha).symm,dst,nt⟩
theorem Qf9 {nf:Bool} {C:FuncId→List AV→Option Z2} (hC:Qgr P C) {res:Res} {objs:List AObj} {slots:List (Nat × AV)} (hw:X9 ops (lk st.slots) o=some true)
  (he:Zr P nf C (sto st.objs) st.objs.length (lk st.slots) o=some (.val res)) (ha:Ye st.objs res.eff=some objs) (hp:Y9 st.slots st.nt o.dst res.v=some slots) (hl:objs.length=res.fr) :
  Qgv P ops st o ⟨res.v,res.eff,st.objs.length,res.fr,res.rd⟩ ⟨slots,objs,st.nt⟩:=by
 obtain ⟨h1,h2,h3⟩:=Vi _ _ _ ha
 exact ⟨ylL_ev hC hw he,rfl,hl.symm,h1,h2,h3,fun e=>by have e:res.eff=[]:=e; rw [e] at ha; cases ha; rfl,hp,rfl⟩
theorem Qs7 {slots:List (Nat × AV)} (hw:X9 ops (lk st.slots) o=some false) (hp:Y9 st.slots st.nt o.dst (some (.tup []))=some slots) :
  Qgv P ops st o ⟨(some (.tup [])),[],st.objs.length,st.objs.length,[]⟩ ⟨slots,st.objs,st.nt⟩ :=
 ⟨fun s' σ' hs hσ=>.inr ⟨by rw [Qhg hs]; exact hw,rfl,rfl⟩,rfl,rfl,rfl,Nat.le_refl _,fun h=>h,fun _=>rfl,hp,rfl⟩
theorem Qnp:∀(l:List Oper) (st:St) (fs:List Foot) (st':St),Qox P ops l st fs st' →
  fs.length=l.length∧Ki st.objs.length fs st'.objs.length∧st'.nt=st.nt∧(∀(i:Nat) (o:Oper) (d:Tmp),l[i]?=some o→o.dst=some d→d < st.nt)∧(st.objs.length≤BIG→st'.objs.length≤BIG) ∧
  ∀(Ft:Nat → Foot) (k:Nat),(∀j,j < l.length→fs[j]?=some (Ft (k+j)))→Qx1 P ops Ft (fun s σ=>s=lk st'.slots∧σ=sto st'.objs) l k (lk st.slots) (sto st.objs)
 | [],st,fs,st',h=>by
  obtain ⟨rfl,rfl⟩:=h
  exact ⟨rfl,rfl,rfl,fun i o d h=>by simp at h,fun h=>h,fun Ft k _=>⟨rfl,rfl⟩⟩
 | o::l,st,fs,st',h=>by
  obtain ⟨F,fs0,st1,rfl,hF,hl⟩:=h
  obtain ⟨r1,r2,r3,r4,rb,r5⟩:=Qnp l st1 fs0 st' hl
  have p1:=hF.eff
  have p2:=hF.len
  refine ⟨by simp [r1],⟨hF.fr,by rw [hF.fr,hF.fr']; exact p2,by rw [hF.fr']; exact r2⟩,by rw [r3,hF.nt],fun i o' d hi hd=>?_,fun h=>rb (hF.big h),fun Ft k hk=>?_⟩
  ·cases i with
   | zero=>simp at hi; subst hi; exact Qy1 hF.dst d hd
   | succ i=>rw [←hF.nt]; exact r4 i o' d (by simpa using hi) hd
  ·have hFk:Ft k=F:=by
    have:=hk 0 (by simp); simpa using this.symm
   refine ⟨by rw [hFk]; exact hF.yl,?_⟩
   rw [hFk]
   have:=r5 Ft (k+1) (fun j hj=>by have:=hk (j+1) (by simpa using hj); simpa [Nat.add_assoc,Nat.add_comm 1 j] using this)
   rw [Qzm hF.dst,p1] at this
   exact this
def Qio (F G:Sk):Bool :=
 F.1.all (fun e=>!Qb6 G.2 e) && G.1.all (fun e=>!Qb6 F.2 e) && F.1.all fun e=>G.1.all fun e'=>!Nat.beq e e'
def Kw (F:Sk):Nat → List Nat → List Oper→List Sk→Bool
 | j,B,o::l,G::fs=>if o.after.any (fun e=>Region.binds .any e && Qb6 B e.on) then Kw F (j+1) (j::B) l fs else Qio F G && Kw F (j+1) B l fs
 | _,_,_,_=>true
def Qgw:Nat → List Oper→List Sk→Bool
 | i,o::l,F::fs=>(F.1.isEmpty && F.2.isEmpty || Kw F (i+1) [i] l fs) && Qgw (i+1) l fs
 | _,_,_=>true
def Qgs (s:Sk):Bool:=(s.1.all fun c=>Nat.blt c BIG) && s.2.all fun c=>Nat.blt c BIG
def Qdj (l:List Oper) (ss:List Sk):Bool:=ss.all Qgs && Qgw 0 l ss
theorem Qp0 {F G:Foot} {s u:Sk} (hF:Cov F s) (hG:Cov G u) (ls:Qgs s=true) (lu:Qgs u=true) (h:Qio s u=true):Qjh F G=true:=by
 simp only [Qgs,Bool.and_eq_true,List.all_eq_true] at ls lu
 simp only [Qio,Bool.and_eq_true,List.all_eq_true,Bool.not_eq_true'] at h
 obtain ⟨⟨h1,h2⟩,h3⟩:=h
 have no:∀{l:List Nat} {k:Nat},k ∉ l→Qb6 l k=false:=fun {l k} hk=>by
  simp only [Qb6,List.any_eq_false]
  intro x hx e
  exact hk (Nat.eq_of_beq_eq_true e ▸ hx)
 simp only [Qjh,Bool.and_eq_true,List.all_eq_true,Bool.not_eq_true']
 refine ⟨⟨fun e he=>no fun hm=>?_,fun e he=>no fun hm=>?_⟩,fun e he e' he'=>?_⟩
 ·obtain ⟨c,hc,q⟩:=hF.eff e he
  obtain ⟨c',hc',q'⟩:=hG.rd _ hm
  have:=q.eq q' (Yc (ls.1 c hc)) (Yc (lu.2 c' hc'))
  subst this
  exact Qcn (h1 c hc) hc'
 ·obtain ⟨c,hc,q⟩:=hG.eff e he
  obtain ⟨c',hc',q'⟩:=hF.rd _ hm
  have:=q.eq q' (Yc (lu.1 c hc)) (Yc (ls.2 c' hc'))
  subst this
  exact Qcn (h2 c hc) hc'
 ·obtain ⟨c,hc,q⟩:=hF.eff e he
  obtain ⟨c',hc',q'⟩:=hG.eff e' he'
  rw [Bool.eq_false_iff]
  intro ee
  have ee:=Nat.eq_of_beq_eq_true ee
  rw [←ee] at q'
  have:=q.eq q' (Yc (ls.1 c hc)) (Yc (lu.1 c' hc'))
  subst this
  have:=h3 c hc c hc'
  rw [Nat.beq_refl] at this
  cases this
theorem Qx4 {l:List Nat} {k:Nat} (h:Qb6 l k=true):k∈l:=by
 simp only [Qb6,List.any_eq_true] at h
 obtain ⟨x,hx,e⟩:=h
 rw [←Nat.eq_of_beq_eq_true e]; exact hx
theorem Qaf {i:Nat} {F:Foot} {s:Sk} (hF:Cov F s) (ls:Qgs s=true):∀(l:List Oper) (fs:List Foot) (ss:List Sk) (k:Nat) (B:List Nat),Qmd fs ss→ss.all Qgs=true→Kw s k B l ss=true→(∀q,l[q]?=ops[k+q]?)→(∀b∈B,b=i∨Yn ops i b) →
  ∀(j:Nat) (G:Foot) (oj:Oper),fs[j]?=some G→l[j]?=some oj→¬ Yn ops i (k+j)→J1 F G
 | [],fs,ss,_,_,_,_,_,_,_,j,G,oj,_,h,_=>by simp at h
 | o::l,[],ss,_,_,_,_,_,_,_,j,G,oj,h,_,_=>by simp at h
 | o::l,G0::fs,[],_,_,h,_,_,_,_,_,_,_,_,_,_=>h.elim
 | o::l,G0::fs,u::ss,k,B,h,hl,hc,hops,hB,j,G,oj,hG,hj,hn=>by
  simp only [List.all_cons,Bool.and_eq_true] at hl
  simp only [Kw] at hc
  have hops':∀q,l[q]?=ops[k+1+q]?:=fun q=>by have:=hops (q+1); simpa [Nat.add_assoc,Nat.add_comm 1 q] using this
  split at hc
  ·rename_i ha
   have hk:Yn ops i k:=by
    obtain ⟨e,he,hb⟩:=Array.any_eq_true'.1 ha
    simp only [Bool.and_eq_true] at hb
    have h0:ops[k]?=some o:=by simpa using (hops 0).symm
    rcases hB _ (Qx4 hb.2) with q | q
    ·exact .one h0 he hb.1 q
    ·exact .more h0 he hb.1 q
   cases j with
   | zero=>exact absurd hk (by simpa using hn)
   | succ j=>exact Qaf hF ls l fs ss (k+1) (k::B) h.2 hl.2 hc hops' (fun b hb=>(List.mem_cons.1 hb).elim (fun q=>.inr (q ▸ hk)) (hB b)) j G oj (by simpa using hG) (by simpa using hj) (by rw [show k+1+j=k+(j+1) by omega]; exact hn)
  ·simp only [Bool.and_eq_true] at hc
   cases j with
   | zero=>simp at hG; subst hG; exact Qp9 (Qp0 hF h.1 ls hl.1 hc.1)
   | succ j=>exact Qaf hF ls l fs ss (k+1) B h.2 hl.2 hc.2 hops' hB j G oj (by simpa using hG) (by simpa using hj) (by rw [show k+1+j=k+(j+1) by omega]; exact hn)
theorem Qhd:∀(k:Nat) (l:List Oper) (fs:List Foot) (ss:List Sk),Qmd fs ss→ss.all Qgs=true→Qgw k l ss=true→(∀q,l[q]?=ops[k+q]?) →
  ∀(i j:Nat) (F G:Foot) (oj:Oper),i < j→fs[i]?=some F→fs[j]?=some G→l[j]?=some oj→¬ Yn ops (k+i) (k+j)→J1 F G
 | _,[],fs,ss,_,_,_,_,i,j,F,G,oj,_,_,_,h,_=>by simp at h
 | _,o::l,[],ss,_,_,_,_,i,j,F,G,oj,_,h,_,_,_=>by simp at h
 | _,o::l,F0::fs,[],h,_,_,_,_,_,_,_,_,_,_,_,_,_=>h.elim
 | k,o::l,F0::fs,s::ss,h,hl,hc,hops,i,j,F,G,oj,hij,hF,hG,hj,hn=>by
  simp only [List.all_cons,Bool.and_eq_true] at hl
  simp only [Qgw,Bool.and_eq_true,Bool.or_eq_true,List.isEmpty_iff] at hc
  have hops':∀q,l[q]?=ops[k+1+q]?:=fun q=>by have:=hops (q+1); simpa [Nat.add_assoc,Nat.add_comm 1 q] using this
  cases j with
  | zero=>omega
  | succ j =>
   cases i with
   | zero =>
    simp at hF; subst hF
    rcases hc.1 with x | x
    ·refine Ql5 ?_ ?_
     ·cases he:F0.eff with
      | nil=>rfl
      | cons e es=>obtain ⟨c,hcm,_⟩:=h.1.eff e (by rw [he]; simp); rw [x.1] at hcm; cases hcm
     ·cases he:F0.rd with
      | nil=>rfl
      | cons e es=>obtain ⟨c,hcm,_⟩:=h.1.rd e (by rw [he]; simp); rw [x.2] at hcm; cases hcm
    ·exact Qaf h.1 hl.1 l fs ss (k+1) [k] h.2 hl.2 x hops' (fun b hb=>.inl (by simpa using hb)) j G oj (by simpa using hG) (by simpa using hj) (by rw [show k+1+j=k+(j+1) by omega]; simpa using hn)
   | succ i=>exact Qhd (k+1) l fs ss h.2 hl.2 hc.2 hops' i j F G oj (by omega) (by simpa using hF) (by simpa using hG) (by simpa using hj) (by rw [show k+1+i=k+(i+1) by omega,show k+1+j=k+(j+1) by omega]; exact hn)
theorem Qi2 {fs:List Foot} (hB:Region.lexB .any ops=true) {ss:List Sk} (hrun:Qox P ops ops.toList st fs st') (hcov:Qmd fs ss) (hcomp:Qdj ops.toList ss=true) (t:Nat) :
  Qab P rd base ops (Region.linearise .any ops t) st (.go .normal st'):=by
 intro B W0 D0 dl M ι a W n Q r hs hr hp
 simp only [Qdj,Bool.and_eq_true] at hcomp
 have hcomp:=Qhd (ops:=ops) 0 ops.toList _ _ hcov hcomp.1 hcomp.2 (fun q=>by simp)
 obtain ⟨r1,r2,r3,r4,rb,r5⟩:=Qnp _ _ _ _ hrun
 have hbig:=rb hs.big
 have hdef:∀i,i < ops.size→fs[i]?=some (fs.getD i ⟨none,[],st'.objs.length,st'.objs.length,[]⟩):=fun i hi=>by
  rw [List.getD_eq_getElem?_getD,List.getElem?_eq_getElem (by simp [r1]; exact hi)]; rfl
 have hout:∀i,ops.size≤i→fs.getD i ⟨none,[],st'.objs.length,st'.objs.length,[]⟩=⟨none,[],st'.objs.length,st'.objs.length,[]⟩:=fun i hi=>by
  rw [List.getD_eq_getElem?_getD,List.getElem?_eq_none (by simp [r1]; exact hi)]; rfl
 have hrunA:=r5 (fun i=>fs.getD i ⟨none,[],st'.objs.length,st'.objs.length,[]⟩) 0 (fun j hj=>by simpa using hdef j (by simpa using hj))
 simp only [Region.lexB,Bool.and_eq_true] at hB
 have hA:=Qll (P:=P) (ops:=ops) (Ft:=fun i=>fs.getD i ⟨none,[],st'.objs.length,st'.objs.length,[]⟩) (Q:=fun s σ=>s=lk st'.slots∧σ=sto st'.objs) (fun i j oj hij hj hno=>?_) ops.toList 0 (Array.replicate ops.size false) (lk st.slots) (sto st.objs) (fun k ok hk hl=>by simp [Array.getD] at hl) (by simp) (fun _ _=>Nat.zero_le _) (by simpa using hB.2) hrunA
 ·refine wpAnyIn_sound ops.size t _ a _ ?_
  have hsz:ops.toList.length=ops.size:=by simp
  rw [hsz] at hA
  refine Qpw (B:=B) (W0:=W0) (D:=dl++D0) (nt:=st.nt) (lo:=st.objs.length) (hi:=st'.objs.length) (fun i o d hi hd=>r4 i o d (by simpa using hi) hd) hbig (fun i=>?_) (fun i j hij=>?_) ops.size _ _ _ M ι a _ hA hs.rel hs.slots hs.nt (fun i _ k hk=>?_) ?_
  ·rcases Nat.lt_or_ge i ops.size with hi | hi
   ·exact r2.at i _ (hdef i hi)
   ·rw [hout i hi]; exact ⟨r2.le,Nat.le_refl _,Nat.le_refl _⟩
  ·rcases Nat.lt_or_ge i ops.size with hi | hi
   ·rcases Nat.lt_or_ge j ops.size with hj | hj
    ·rcases Nat.lt_or_gt_of_ne hij with e | e
     ·exact .inl (r2.lt i j _ _ e (hdef i hi) (hdef j hj))
     ·exact .inr (r2.lt j i _ _ e (hdef j hj) (hdef i hi))
    ·left; rw [hout j hj]; exact (r2.at i _ (hdef i hi)).2.2
   ·rcases Nat.lt_or_ge j ops.size with hj | hj
    ·right; rw [hout i hi]; exact (r2.at j _ (hdef j hj)).2.2
    ·left; rw [hout i hi,hout j hj]; exact Nat.le_refl _
  ·have hup:(fs.getD i ⟨none,[],st'.objs.length,st'.objs.length,[]⟩).fr'≤st'.objs.length:=by
    rcases Nat.lt_or_ge i ops.size with hi | hi
    ·exact (r2.at i _ (hdef i hi)).2.2
    ·rw [hout i hi]; exact Nat.le_refl _
   have hlo:st.objs.length≤(fs.getD i ⟨none,[],st'.objs.length,st'.objs.length,[]⟩).fr:=by
    rcases Nat.lt_or_ge i ops.size with hi | hi
    ·exact (r2.at i _ (hdef i hi)).1
    ·rw [hout i hi]; exact r2.le
   exact hs.new k ((hk.mono hlo hup).notB hbig)
  ·intro s' σ' M' ι' a' W' hq g1 g2 g3 g4 g5 g6 g7
   obtain ⟨rfl,rfl⟩:=hq
   exact hp.go .normal st' rfl dl M' ι' a' W' g1 (g2.leB base) (List.suffix_refl _) ⟨g4,g5,by rw [g6,r3],⟨by rw [g7]; exact hs.df.defs,hs.df.old,hs.df.nd⟩,fun k hk=>by rw [g3 k (fun c=>hk c.inB)]; exact hs.new k (fun c=>hk (c.mono r2.le)),hbig⟩
 ·have hj':j < ops.size:=(Array.getElem?_eq_some_iff.1 hj).1
  exact hcomp i j _ _ oj hij (hdef i (by omega)) (hdef j hj') (by simpa using hj) (by simpa using hno)
theorem Qsr {id:Nat} {fs:List Foot} (hm:(P.follows .mixedOrders || !Region.departs ops)=true) (hB:Region.lexB .any ops=true) {ss:List Sk} (hrun:Qox P ops ops.toList st fs st') (hcov:Qmd fs ss) (hcomp:Qdj ops.toList ss=true) :
  Xa P rd base (.region id ops true) st (.go .normal st'):=by
 intro B W0 D0 dl M ι a W n Q r hs hr hp
 refine wpIn_region_draw (fun t=>?_)
 have hsch:Region.schedule (P.follows .mixedOrders) ops t=Region.linearise .any ops t:=by
  unfold Region.schedule; rw [if_pos hm]
 rw [hsch]
 exact Qi2 hB hrun hcov hcomp t B W0 D0 dl M ι a _ n Q r ⟨hs.rel.drew,hs.slots,hs.nt,hs.df,hs.new,hs.big⟩ hr hp
theorem Qq5 (hw:X9 ops (lk st.slots) o=some true) (h:Qgv P ops st o F st1):OpX P rd base o st (.go .normal st1):=by
 intro B W0 D0 dl M ι a W n Q r hs hr hp
 have hy:=h.yl (lk st.slots) (sto st.objs) (fun _ _=>rfl) (fun _ _=>rfl)
 rcases hy with ⟨_,hd⟩ | ⟨hw',_⟩
 ·have happ:=h.eff
  have hle:=h.len
  have hbig:=h.big hs.big
  refine hd B W0 (dl++D0) M ι a W n Q r (Q .normal) hs.rel hs.slots (fun k hk=>hs.new k (by rw [←h.fr]; exact hk.notB (by rw [h.fr']; exact hbig))) (fun v W' M' ι' g1 g2 g3 g4 g5=>?_)
  obtain ⟨k1,k2,k3⟩:=Kt (u:=v) (hs.slots.mono g1.le g2) hs.nt h.dst g5
  refine hp.go .normal _ rfl dl M' ι' _ W' g1 (g2.leB base) (List.suffix_refl _) ⟨?_,k1,by rw [k2,h.nt],hs.df.put,?_,hbig⟩
  ·rw [happ]; exact g4
  ·intro k hk
   rw [g3 k (fun c=>hk (by have:=c.inB; rwa [h.fr'] at this))]; exact hs.new k (fun c=>hk (c.mono hle))
 ·rw [hw] at hw'; cases hw'
theorem Quh {i:Nat} {l:List Nat} (ho:ops[i]?=some o) (h:Qgv P ops st o F st1) (h2:Qab P rd base ops l st1 out):Qab P rd base ops (i::l) st out:=by
 have hy:=h.yl (lk st.slots) (sto st.objs) (fun _ _=>rfl) (fun _ _=>rfl)
 rcases hy with ⟨hw,_⟩ | ⟨hw,hv,he⟩
 ·exact Qer ho hw (Qq5 hw h) h2
 ·obtain ⟨slots,objs,nt⟩:=st1
  have e1:=h.stay he; simp only at e1; subst e1
  have e2:=h.dst; rw [hv] at e2
  have e3:=h.nt; simp only at e3; subst e3
  exact Quz ho hw e2 h2
def Qeo (n i:Nat):List Nat := List.range' i (n - i)
def RW (P:Program) (rd:Option Nat) (base:Nat) (ops:Array Oper) (d:Option (List Sk)) (i:Nat) (st:St) (Φ:AOut→Prop):Prop :=
 match d with
 | none=>∃out,Qab P rd base ops (Qeo ops.size i) st out∧Φ out
 | some acc=>∃fs ss st',Qox P ops (ops.toList.drop i) st fs st'∧Qmd fs ss∧Qdj ops.toList (acc++ss)=true∧Φ (.go .normal st')
def Zd (d:Option (List Sk)) (s:List Sk):Option (List Sk) :=
 match d with
 | none=>none
 | some acc=>some (acc++s)
theorem Qc8 {n i:Nat} (h:i < n):Qeo n i=i::Qeo n (i+1):=by
 unfold Qeo
 rw [show n - i=(n - (i+1))+1 by omega,List.range'_succ]
theorem Qoo (d:Option (List Sk)) (a b:List Sk):Zd (Zd d a) b=Zd d (a++b):=by
 cases d <;> simp [Zd]
def Qye (P:Program) (ops:Array Oper) (i:Nat) (st:St) (s:Sk) (st1:St):Prop:=∃o F,ops[i]?=some o∧Qgv P ops st o F st1∧Cov F s
theorem Qb8 {d:Option (List Sk)} {i:Nat} {s:Sk} (h:Qye P ops i st s st1) (k:RW P rd base ops (Zd d [s]) (i+1) st1 Φ):RW P rd base ops d i st Φ:=by
 obtain ⟨o,F,ho,hF,hcv⟩:=h
 have hi:i < ops.size:=(Array.getElem?_eq_some_iff.1 ho).1
 cases d with
 | none =>
  obtain ⟨out,h1,h2⟩:=k
  refine ⟨out,?_,h2⟩
  rw [Qc8 hi]
  exact Quh ho hF h1
 | some acc =>
  obtain ⟨fs,ss,st',h1,hc,h2,h3⟩:=k
  refine ⟨F::fs,s::ss,st',?_,⟨hcv,hc⟩,by simpa using h2,h3⟩
  have:ops.toList.drop i=o::ops.toList.drop (i+1):=by
   rw [List.drop_eq_getElem_cons (by simpa using hi)]
   congr 1
   have:=(Array.getElem?_eq_some_iff.1 ho).2
   simpa using this
  rw [this]
  exact ⟨F,fs,st1,rfl,hF,h1⟩
def noC:FuncId→List AV→Option Z2:=fun _ _=>none
theorem noC_sound:Qgr P noC:=fun _ _ _ h=>by cases h
noncomputable def Qcf (P:Program) (nf:Bool) (ops:Array Oper):Nat → Nat → St→Option (List Sk × St)
 | 0,_,st=>some ([],st)
 | k+1,i,st=>match ops[i]? with
  | some o=>match X9 ops (lk st.slots) o with
   | some true=>match Zr P nf noC (sto st.objs) st.objs.length (lk st.slots) o with
    | some (.val ⟨v,eff,fr,rd⟩)=>match Ye st.objs eff,Y9 st.slots st.nt o.dst v with
     | some objs,some slots=>if Nat.beq objs.length fr then (match Qcf P nf ops k (i+1) ⟨slots,objs,st.nt⟩ with
       | some (s,st')=>some ((eff.map (·.1),rd)::s,st')
       | none=>none) else none
     | _,_=>none
    | _=>none
   | some false=>match Y9 st.slots st.nt o.dst (some (.tup [])) with
    | some slots=>(match Qcf P nf ops k (i+1) ⟨slots,st.objs,st.nt⟩ with
      | some (s,st')=>some (([],[])::s,st')
      | none=>none)
    | none=>none
   | none=>none
  | none=>none
theorem Qpy {nf:Bool}:∀(k i:Nat) (st:St) (d:Option (List Sk)) (s:List Sk),Qcf P nf ops k i st=some (s,st1)→RW P rd base ops (Zd d s) (i+k) st1 Φ→RW P rd base ops d i st Φ
 | 0,i,st,d,s,h,hk=>by
  simp only [Qcf,Option.some.injEq,Prod.mk.injEq] at h
  obtain ⟨rfl,rfl⟩:=h
  cases d <;> simpa [Zd] using hk
 | k+1,i,st,d,s,h,hk=>by
  simp only [Qcf] at h
  split at h
  ·rename_i o ho
   split at h
   ·rename_i hw
    split at h
    ·rename_i v eff fr rds he
     split at h
     ·rename_i objs slots ha hp
      split at h
      ·rename_i hl
       split at h
       ·rename_i s0 st2 hr
        cases h
        refine Qb8 ⟨o,_,ho,Qf9 noC_sound hw he ha hp (Nat.eq_of_beq_eq_true hl),Qh9 _⟩ (Qpy k (i+1) _ _ s0 hr ?_)
        rw [Qoo,show i+1+k=i+(k+1) by omega]
        exact hk
       ·cases h
      ·cases h
     ·cases h
    ·cases h
   ·rename_i hw
    split at h
    ·rename_i slots hp
     split at h
     ·rename_i s0 st2 hr
      cases h
      refine Qb8 ⟨o,_,ho,Qs7 hw hp,Qh9 _⟩ (Qpy k (i+1) _ _ s0 hr ?_)
      rw [Qoo,show i+1+k=i+(k+1) by omega]
      exact hk
     ·cases h
    ·cases h
   ·cases h
  ·cases h
noncomputable def Qs0 (P:Program) (nf:Bool) (ops:Array Oper) (k i:Nat) (st:St):Option St:=(Qcf P nf ops k i st).map (·.2)
noncomputable def Qsf (P:Program) (nf:Bool) (ops:Array Oper) (k i:Nat) (st:St):List Sk:=((Qcf P nf ops k i st).map (·.1)).getD []
theorem sg (nf:Bool) (k j:Nat) {i:Nat} {d:Option (List Sk)} {S:St} (h:Qs0 P nf ops k i st=some S) (hj:i+k=j) (hk:RW P rd base ops (Zd d (Qsf P nf ops k i st)) j S Φ):RW P rd base ops d i st Φ:=by
 subst hj
 unfold Qs0 at h
 unfold Qsf at hk
 cases hr:Qcf P nf ops k i st with
 | none=>rw [hr] at h; cases h
 | some x =>
  obtain ⟨s,st2⟩:=x
  rw [hr] at h hk
  simp only [Option.map_some,Option.some.injEq] at h
  subst h
  exact Qpy k i st d s hr hk
theorem Q0b {id:Nat} (h:RW P rd base ops none 0 st Φ):WP P rd base (.region id ops false) st Φ:=by
 obtain ⟨out,h1,h2⟩:=h
 refine ⟨out,Qqt ?_,h2⟩
 have:List.range ops.size=Qeo ops.size 0:=by simp [Qeo,List.range_eq_range']
 rw [this]; exact h1
theorem Qyz {id:Nat} (hm:(P.follows .mixedOrders || !Region.departs ops)=true) (hB:Region.lexB .any ops=true) (h:RW P rd base ops (some []) 0 st Φ):WP P rd base (.region id ops true) st Φ:=by
 obtain ⟨fs,ss,st',h1,hc,h2,h3⟩:=h
 exact ⟨_,Qsr hm hB (by simpa using h1) hc (by simpa using h2),h3⟩
theorem Qzn {i:Nat} (hi:i=ops.size) (h:Φ (.go .normal st)):RW P rd base ops none i st Φ:=by
 subst hi
 refine ⟨.go .normal st,?_,h⟩
 have:Qeo ops.size ops.size=[]:=by simp [Qeo]
 rw [this]; exact Qw6
theorem Qxm {i:Nat} {acc:List Sk} (hi:i=ops.size) (hc:Qdj ops.toList acc=true) (h:Φ (.go .normal st)):RW P rd base ops (some acc) i st Φ:=by
 subst hi
 exact ⟨[],[],st,by rw [List.drop_of_length_le (by simp)]; exact ⟨rfl,rfl⟩,trivial,by simpa using hc,h⟩
end
end Go.Ab
namespace Go.Ab
structure LexI where
 dst:Option Tmp
 look:List Tmp
 aft:List Nat
def natIn (k:Nat):List Nat → Bool
 | []=>false
 | x::l=>Nat.beq k x || natIn k l
theorem Qhs {k:Nat}:∀{l:List Nat},natIn k l=true↔k∈l
 | []=>by simp [natIn]
 | x::l=>by
  simp only [natIn,Bool.or_eq_true,Qhs (l:=l),List.mem_cons]
  exact or_congr ⟨Nat.eq_of_beq_eq_true,fun h=>by subst h; exact Nat.beq_refl k⟩ Iff.rfl
def Qoi (d:Option Tmp) (l:List Nat):Bool:=match d with | some d=>natIn d l | none=>false
def Qys (d e:Option Tmp):Bool:=match d,e with | some d,some e=>Nat.beq d e | _,_=>false
def J9 (ops:Array Oper) (o:Oper):LexI :=
 ⟨o.dst,o.looksAt ops,(o.after.toList.filter fun e=>Region.binds .any e).map (·.on)⟩
def Qji (x y:LexI):Bool:=!Qoi x.dst y.look && !Qys x.dst y.dst && !Qoi y.dst x.look
def Qjd:Nat → List LexI→Bool
 | _,[]=>true
 | k,x::r=>(x.aft.all fun a=>Nat.blt a k) && (r.all fun y=>natIn k y.aft || Qji x y) && Qjd (k+1) r
def Qtr (ops:Array Oper):Bool:=Region.noSelect ops && Qjd 0 (ops.toList.map (J9 ops))
theorem Qn0 {ops:Array Oper} {x y:Oper} (h:Qji (J9 ops x) (J9 ops y)=true):x.apart ops y=true:=by
 simp only [Qji,J9,Bool.and_eq_true,Bool.not_eq_true'] at h
 obtain ⟨⟨h1,h2⟩,h3⟩:=h
 unfold Oper.apart
 have no:∀{k:Nat} {l:List Nat},natIn k l=false→l.contains k=false:=fun {k l} hk=>by
  rw [Bool.eq_false_iff] at hk ⊢
  intro hc
  exact hk (Qhs.2 (by simpa using hc))
 have hx:∀d,x.dst=some d→(y.looksAt ops).contains d=false∧(y.dst != some d)=true:=fun d hd=>by
  rw [hd] at h1 h2
  refine ⟨no (by simpa [Qoi] using h1),?_⟩
  cases hy:y.dst with
  | none=>rfl
  | some e =>
   rw [hy] at h2
   simp only [Qys] at h2
   rw [bne_iff_ne]
   intro he
   cases he
   rw [Nat.beq_refl] at h2; cases h2
 have hy:∀d,y.dst=some d→(x.looksAt ops).contains d=false:=fun d hd=>by
  rw [hd] at h3
  exact no (by simpa [Qoi] using h3)
 cases hxd:x.dst with
 | none =>
  cases hyd:y.dst with
  | none=>rfl
  | some e=>simp only [hy e hyd,Bool.not_false,Bool.and_true]
 | some d =>
  obtain ⟨a,b⟩:=hx d hxd
  cases hyd:y.dst with
  | none=>simp only [a]; rfl
  | some e=>rw [hyd] at b; simp only [a,b,hy e hyd,Bool.not_false,Bool.and_true]
theorem Qp7 {ops:Array Oper}:∀(l:List LexI) (k:Nat),Qjd k l=true→∀(i:Nat) (x:LexI),l[i]?=some x →
  (∀a∈x.aft,a < k+i)∧∀(j:Nat) (y:LexI),i < j→l[j]?=some y→k+i∈y.aft∨Qji x y=true
 | [],_,_,i,x,hx=>by simp at hx
 | z::r,k,h,0,x,hx=>by
  simp only [Qjd,Bool.and_eq_true,List.all_eq_true] at h
  cases hx
  refine ⟨fun a ha=>by simpa using h.1.1 a ha,fun j y hj hy=>?_⟩
  cases j with
  | zero=>omega
  | succ j =>
   have hm:y∈r:=List.mem_of_getElem? (by simpa using hy)
   have:=h.1.2 y hm
   simp only [Bool.or_eq_true,Qhs] at this
   simpa using this
 | z::r,k,h,i+1,x,hx=>by
  simp only [Qjd,Bool.and_eq_true] at h
  obtain ⟨h1,h2⟩:=Qp7 (ops:=ops) r (k+1) h.2 i x (by simpa using hx)
  refine ⟨fun a ha=>by have:=h1 a ha; omega,fun j y hj hy=>?_⟩
  cases j with
  | zero=>omega
  | succ j =>
   have:=h2 j y (by omega) (by simpa using hy)
   rw [show k+1+i=k+(i+1) by omega] at this
   exact this
def V0 (n k:Nat):Array Bool:=((List.range n).map fun i=>decide (i < k)).toArray
theorem Qaz {n k i:Nat} {b:Bool}:(V0 n k).getD i b=if i < n then decide (i < k) else b:=by
 unfold V0
 by_cases h:i < n
 ·simp [h]
 ·simp [h]
theorem Qn8 {n:Nat}:V0 n 0=Array.replicate n false:=by
 apply Array.ext
 ·simp [V0]
 ·intro i h1 h2
  simp [V0]
theorem Qn6 {n k:Nat}:(V0 n k).setIfInBounds k true=V0 n (k+1):=by
 apply Array.ext
 ·simp [V0]
 ·intro i h1 h2
  rw [Array.getElem_setIfInBounds (by simpa using h1)]
  simp only [V0,List.getElem_toArray,List.getElem_map,List.getElem_range]
  by_cases hik:k=i
  ·subst hik; simp
  ·simp only [hik,if_false]
   congr 1
   exact propext ⟨fun h=>by omega,fun h=>by omega⟩
theorem Qvn {ops:Array Oper} (h:Qjd 0 (ops.toList.map (J9 ops))=true):∀(fuel k:Nat),k+fuel=ops.size→Region.lexFrom .any ops fuel k (V0 ops.size k)=true:=by
 have at':∀(i:Nat) (o:Oper),ops[i]?=some o→(ops.toList.map (J9 ops))[i]?=some (J9 ops o):=fun i o ho=>by
  simp [List.getElem?_map,ho]
 intro fuel
 induction fuel with
 | zero =>
  intro k hk
  simp only [Region.lexFrom,Region.ready,List.isEmpty_iff,List.filter_eq_nil_iff,List.mem_range]
  intro i hi
  rw [Qaz,if_pos hi]
  have:i < k:=by omega
  simp [this]
 | succ fuel ih =>
  intro k hk
  have hlt:k < ops.size:=by omega
  have ho:ops[k]?=some ops[k]:=Array.getElem?_eq_getElem hlt
  obtain ⟨h1,h2⟩:=Qp7 (ops:=ops) _ 0 h k _ (at' k _ ho)
  simp only [Nat.zero_add] at h1 h2
  simp only [Region.lexFrom,Bool.and_eq_true]
  refine ⟨⟨?_,?_⟩,?_⟩
  ·simp only [Region.ready,List.contains_iff_mem,List.mem_filter,List.mem_range,Bool.and_eq_true]
   refine ⟨hlt,?_,?_⟩
   ·rw [Qaz,if_pos hlt]; simp
   ·rw [ho]
    simp only [Option.map_some,Option.getD_some,Array.all_eq_true_iff_forall_mem,Bool.or_eq_true,Bool.not_eq_true']
    intro e he
    cases hb:Region.binds .any e with
    | false=>exact .inl rfl
    | true =>
     refine .inr ?_
     have hlt2:e.on < k:=h1 e.on (by
      simp only [J9,List.mem_map,List.mem_filter]
      exact ⟨e,⟨Array.mem_toList_iff.2 he,hb⟩,rfl⟩)
     rw [Qaz,if_pos (by omega)]
     simp [hlt2]
  ·simp only [Region.free,ho,List.all_eq_true,List.mem_range]
   intro j hj
   by_cases hjk:j < k
   ·rw [Qaz,if_pos hj]; simp [hjk]
   by_cases hje:j=k
   ·simp [hje]
   have hoj:ops[j]?=some ops[j]:=Array.getElem?_eq_getElem hj
   rw [hoj]
   rcases h2 j _ (by omega) (at' j _ hoj) with h3 | h3
   ·simp only [J9,List.mem_map,List.mem_filter] at h3
    obtain ⟨e,⟨he,hb⟩,hon⟩:=h3
    have:(ops[j].after.any fun e=>Region.binds .any e && e.on==k)=true:=Array.any_eq_true'.2 ⟨e,Array.mem_toList_iff.1 he,by simp [hb,hon]⟩
    simp [this]
   ·simp [Qn0 h3]
  ·rw [Qn6]; exact ih (k+1) (by omega)
theorem Qzb {ops:Array Oper} (h:Qtr ops=true):Region.lexB .any ops=true:=by
 simp only [Qtr,Bool.and_eq_true] at h
 simp only [Region.lexB,Bool.and_eq_true]
 refine ⟨h.1,?_⟩
 rw [←Qn8]
 exact Qvn h.2 ops.size 0 (by omega)
end Go.Ab
