/- Rules. No conditions. -/
import Derived.Test.YtgogkahhifkocaaDoorEng4
import Derived.OrdersIn
import Derived.Still
set_option linter.all false
namespace Go.Ab
open Go.RowKit
section
variable {P:Program} {B:Nat} {W0 W:World} {D D0 dl dl1:List Nat} {M:CM} {ι ι1:Inj} {σ:Sto} {st st':St} {a:Act} {rd:Option Nat} {base:Nat} {out:AOut}
def Qmh (st:St) (ps:List Tmp) (assign body:Code) (first caps:List AV) (nt:Nat):St :=
 ⟨Vm 0 (first++[.yld st.objs.length]++caps),st.objs++[.loop st.nt st.slots ps assign body .ready none],nt⟩
noncomputable def J7 (P:Program) (fn:Func) (st:St):AOut->Option AOut
 | .pan v=>if Nat.blt st.objs.length BIG then some (.pan v) else none
 | .go e st'=>if Nat.blt st.objs.length BIG && e.ends && (resultA P fn st').isSome then match st'.objs[st.objs.length]? with
   | some (.loop _ _ _ _ _ s pe) =>
    match (match s with | .busy | .exhausted=>true | _=>false) with
    | true=>none
    | false=>match pe with
     | none=>some (.go .normal ⟨st.slots,st'.objs.set st.objs.length .dead,st.nt⟩)
     | some .ret=>some (.go .ret ⟨st.slots,st'.objs.set st.objs.length .dead,st.nt⟩)
     | some (.exit id)=>some (.go (.exit id) ⟨st.slots,st'.objs.set st.objs.length .dead,st.nt⟩)
     | _=>none
   | _=>none
  else none
theorem Qk6 {fn:Func} {out0:AOut} (h:J7 P fn st out0=some out):st.objs.length < BIG:=by
 unfold J7 at h
 split at h <;> split at h
 ·rename_i c; exact Xr c
 ·cases h
 ·rename_i c; simp only [aE] at c; exact Xr c.1.1
 cases h
theorem Qpk {r:Option Nat} {n:Nat} {Q:Exit->Act->World->Prop} {f:FuncId} {fn:Func} {c:Code} {first caps:List AV} {first' caps':Array Value} {l:Nat} {ps:List Tmp} {assign body:Code} {out0:AOut} {a1:Act}
  (hf:P.funcs[f]?=some fn) (hb:fn.body=some c) (hle:(first++[AV.yld st.objs.length]++caps).length<=fn.ntmps)
  (h:Xi P none (st.objs.length+1) c (Qmh st ps assign body first caps fn.ntmps) out0) (hout:J7 P fn st out0=some out)
  (h1:first'.size=first.length) (h2:caps'.size=caps.length) (hr1:∀(j:Nat) (v:Value) (y:AV),first'[j]?=some v->first[j]?=some y->Qa M ι v y) (hr2:∀(j:Nat) (v:Value) (y:AV),caps'[j]?=some v->caps[j]?=some y->Qa M ι v y)
  (hrel:Rel P B W0 (dl1++D0) M ι (sto (st.objs++[AObj.loop st.nt st.slots ps assign body .ready none])) W) (hnew:∀k,¬ InB (st.objs.length+1) k->ι k=none) (hl:∃p,ι st.objs.length=some p/\p.blk=l)
  (hsl:Ql M ι (lk st.slots) a1.tmps) (hnt:a1.tmps.size=st.nt) (hdf:Qpp B D0 dl1 a1)
  (hgo:∀e st'',out=.go e st''->∀M' ι' W',CM.Grow B M M'->ι.le ι'->Sim P B W0 D0 dl1 M' ι' st'' a1 W'->Q e.exit' a1 W')
  (hpan:∀x,out=.pan x->∀M' W' u,CM.Grow B M M'->Rel P B W0 (dl1++D0) M' noInj (fun _=>none) W'->Qa M' noInj u x->Q (.panic [{ v:=u,recovered:=false }]) a1 W') :
  CallsIn (FW r) (n - 1) P f (first'++#[.func (.yield l) #[] #[]]++caps') W (rangePost (FW r) n P l Q a1):=by
 obtain ⟨p,hp,rfl⟩:=hl
 have hbig:st.objs.length < BIG:=Qk6 hout
 have hlen:(st.objs++[AObj.loop st.nt st.slots ps assign body .ready none]).length=st.objs.length+1:=by simp
 refine Qlh hf hb (objs:=st.objs++[AObj.loop st.nt st.slots ps assign body .ready none]) (slots:=Vm 0 (first++[.yld st.objs.length]++caps)) (out:=out0) (by rw [hlen]; exact h) hrel hdf.nd (fun k hk=>hnew k (by rw [hlen] at hk; exact hk)) (by rw [hlen]; exact hbig) ?_ ?_ ?_ ?_ ?_
 ·refine Qo6 (as:=[AV.yld st.objs.length]) (vs:=#[.func (.yield p.blk) #[] #[]]) h1 h2 rfl hr1 (fun j v y hv hy=>?_) hr2 _
  cases j with
  | zero=>simp at hv hy; subst hv; subst hy; exact .yld _ p hp
  | succ j=>simp at hy
 ·have:(first'++#[Value.func (.yield p.blk) #[] #[]]++caps').size=(first++[AV.yld st.objs.length]++caps).length:=by simp [h1,h2]; omega
  omega
 ·intro e st2 x he hends hx v M' ι' W' g1 g2 g3 g4 g4b g5
  subst he
  have hιp:ι' st.objs.length=some p:=g2 _ _ hp
  simp only [J7,Qk3 hbig,hends,hx,dH,Bool.and_self,eK] at hout
  split at hout
  ·rename_i nt2 sl2 ps2 as2 bd2 s pe hobj
   split at hout
   ·cases hout
   ·rename_i hbusy
    have hs:s≠.busy:=fun e=>by subst e; simp at hbusy
    have hs2:s≠.exhausted:=fun e=>by subst e; simp at hbusy
    obtain ⟨tm,fnB,hsz,hrec,hslB,hrelB⟩:=g3.endLoop (by rw [Zo hbig,hobj]; rfl) hιp hs2
    refine ⟨pe,_,run_endLoop hrec hs,?_⟩
    have hrelD:Rel P B W0 (dl1++D0) M' ι' (sto (st2.objs.set st.objs.length .dead)) (W'.putObj p.blk (.loop { state:=.exhausted,pending:=pe,fn:=fnB,tmps:=tm,params:=ps2.toArray,assign:=as2,body:=bd2,defers:=p.base })):=by
     refine hrelB.forget (fun k=>?_)
     rw [Qcg hobj rfl rfl hbig]
     by_cases e:k=st.objs.length
     ·subst e; right; right; exact Sto.put_same _ _ _
     left; rfl
    have fin:∀e2,out=.go e2 ⟨st.slots,st2.objs.set st.objs.length .dead,st.nt⟩->Q e2.exit' a1 (W'.putObj p.blk (.loop { state:=.exhausted,pending:=pe,fn:=fnB,tmps:=tm,params:=ps2.toArray,assign:=as2,body:=bd2,defers:=p.base })):=fun e2 he =>
     hgo e2 _ he M' ι' _ g1 g2 ⟨hrelD,hsl.mono g1.le g2,hnt,hdf,fun k hk=>g4 k (by simpa using hk),by simpa using g4b⟩
    split at hout
    ·cases hout; exact fin .normal rfl
    ·cases hout; exact wpIn_ret (fin .ret rfl)
    ·cases hout; exact wpIn_exit (fin (.exit _) rfl)
    ·cases hout
  ·cases hout
 ·cases out0 with
  | pan v=>trivial
  | go e st2 =>
   simp only [J7] at hout
   split at hout
   ·rename_i hc; simp only [aE] at hc; exact ⟨hc.1.2,hc.2⟩
   cases hout
 ·intro x hx v M' W' g1 g2 g3
  subst hx
  simp only [J7,Qk3 hbig,eK] at hout
  cases hout
  exact hpan x rfl M' W' v g1 g2 g3
theorem Qqs {g:Operand} {ps:Array Tmp} {assign body:Code} {f:FuncId} {fn:Func} {c:Code} {first caps:List AV} {out0:AOut}
  (hg:evo (lk st.slots) g=some (.fn (.func f) first caps)) (hf:P.funcs[f]?=some fn) (hb:fn.body=some c) (hn:(fn.name == "runtime.NumGoroutine")=false) (hle:(first++[AV.yld st.objs.length]++caps).length<=fn.ntmps)
  (hrd:∀l,rd=some l->∃nt sl ps as bd s pe,st.objs[l]?=some (.loop nt sl ps as bd s pe)/\s≠.exhausted)
  (h:Xi P none (st.objs.length+1) c (Qmh st ps.toList assign body first caps fn.ntmps) out0) (hout:J7 P fn st out0=some out):Xi P rd base (.rangeFunc g ps assign body) st out:=by
 intro B W0 D0 dl M ι a W n Q r hs hr hp
 have hgv:=Qg hs.slots hg
 generalize hgu:a.eval g=gu at hgv
 cases hgv with
 | fn _ first' caps' _ _ hy hm h1 h2 hr1 hr2 =>
 have hbig:st.objs.length < BIG:=Qk6 hout
 have hon:ι st.objs.length=none:=hs.new _ (InB.not (aZ _) hbig)
 have resolves:∀l W,(resolve a.eval (rangeCall g l) 0).run P W=.ok { target:=.fn (.func f) caps',args:=first'++#[.func (.yield l) #[] #[]] } W:=fun l W=>by
  have hc:Array.map a.eval #[Operand.const (Value.func (Fn.yield l) #[] #[])]=#[Value.func (.yield l) #[] #[]]:=by simp [Act.eval]
  simp only [resolve,hgu,Deferred.ofValue,Sem.run_pure,hc]
 have invokes:∀l W,(invoke (.fn (.func f) caps') (first'++#[.func (.yield l) #[] #[]])).run P W=.ok (.enter f (first'++#[.func (.yield l) #[] #[]]++caps')) W:=fun l W=>by
  simp only [invoke]
  exact Ji hf (by rw [hb]; rfl) hn _ W
 refine wpIn_rangeFunc (fun fnId _=>?_)
 cases rd with
 | none =>
  have hr:r=none:=hr
  subst hr
  have hd1:=hs.rel.allocDef
  have hsd:Ql M ι (lk st.slots) a.tmps:=hs.slots
  have hrel:=hd1.allocLoop hon (fn:=fnId) hs.nt hsd ps assign body W.heap.size
  rw [<-Qiw (x:=AObj.loop st.nt st.slots ps.toList assign body .ready none) rfl hbig] at hrel
  have hsz1:(W.alloc (.deferred (some []))).heap.size=W.heap.size+1:=by simp
  rw [hsz1] at hrel
  refine ⟨_,_,_,_,_,f,_,_,run_enterLoop_outer _ _ _ _ _,resolves _ _,fun _ _=>trivial,invokes _ _,fun hd=>by simp [FW,Fence.wide] at hd,?_⟩
  refine Qpk (dl1:=W.heap.size::dl) hf hb hle h hout h1 h2 (fun j v y x1 x2=>(hr1 j v y x1 x2).mono (CM.le_refl _) (Inj.le_put _ hon)) (fun j v y x1 x2=>(hr2 j v y x1 x2).mono (CM.le_refl _) (Inj.le_put _ hon)) hrel ?_ ⟨_,Inj.put_same _ _ _,rfl⟩
   (hs.slots.mono (CM.le_refl _) (Inj.le_put _ hon)) hs.nt ?_ ?_ ?_
  ·intro k hk
   rw [Inj.put_ne _ _ (fun e=>hk (.inl (by omega)))]; exact hs.new k (fun c=>hk (c.mono (Nat.le_succ _)))
  ·refine ⟨by show [mk W.heap.size]++a.defers=_; rw [hs.df.defs]; rfl,fun q hq=>?_,?_⟩
   ·rcases cC.1 hq with rfl | hq
    ·exact hs.rel.size
    exact hs.df.old q hq
   refine List.nodup_cons.2 ⟨fun hm=>?_,hs.df.nd⟩
   have:=hs.rel.defs _ hm
   rw [eD (aZ _)] at this
   cases this
  ·intro e st'' he M' ι' W' g1 g2 g3
   exact hp.go e st'' he _ M' ι' _ W' g1 ((Inj.le_trans (Inj.le_put _ hon) g2).leB base) ⟨[W.heap.size],rfl⟩ g3
  intro x he M' W' u g1 g2 g3
  refine hp.pan x he _ M' _ W' u g1 ⟨[W.heap.size],rfl⟩ g2 ⟨by show [mk W.heap.size]++a.defers=_; rw [hs.df.defs]; rfl,fun q hq=>?_,?_⟩ g3
  ·rcases cC.1 hq with rfl | hq
   ·exact hs.rel.size
   exact hs.df.old q hq
  refine List.nodup_cons.2 ⟨fun hm=>?_,hs.df.nd⟩
  have:=hs.rel.defs _ hm
  rw [eD (aZ _)] at this
  cases this
 | some l0 =>
  obtain ⟨hl0,p0,hp0,hr⟩:=hr
  subst hr
  obtain ⟨nt,sl,ps0,as0,bd0,s0,pe0,hobj,hs0⟩:=hrd l0 rfl
  obtain ⟨q,fn0,hq,_,hB0,tm0,hsz0,hrec0,hsl0⟩:=hs.rel.loop l0 _ _ _ _ _ _ _ (by rw [Zo (bM (aD.1 hobj).1 hs.big),hobj]; rfl)
  rw [hp0] at hq; cases hq
  rw [Qce hs0] at hrec0
  have hrel:=hs.rel.allocLoop hon (fn:=fnId) hs.nt hs.slots ps assign body p0.base
  rw [<-Qiw (x:=AObj.loop st.nt st.slots ps.toList assign body .ready none) rfl hbig] at hrel
  refine ⟨_,_,_,_,_,f,_,_,run_enterLoop_inner hrec0 _ _ _ _ _,resolves _ _,fun _ _=>trivial,invokes _ _,fun hd=>by simp [FW,Fence.wide] at hd,?_⟩
  refine Qpk (dl1:=dl) hf hb hle h hout h1 h2 (fun j v y x1 x2=>(hr1 j v y x1 x2).mono (CM.le_refl _) (Inj.le_put _ hon)) (fun j v y x1 x2=>(hr2 j v y x1 x2).mono (CM.le_refl _) (Inj.le_put _ hon)) hrel ?_ ⟨_,Inj.put_same _ _ _,rfl⟩
   (hs.slots.mono (CM.le_refl _) (Inj.le_put _ hon)) hs.nt ⟨by simpa using hs.df.defs,hs.df.old,hs.df.nd⟩ ?_ ?_
  ·intro k hk
   rw [Inj.put_ne _ _ (fun e=>hk (.inl (by omega)))]; exact hs.new k (fun c=>hk (c.mono (Nat.le_succ _)))
  ·intro e st'' he M' ι' W' g1 g2 g3
   exact hp.go e st'' he _ M' ι' _ W' g1 ((Inj.le_trans (Inj.le_put _ hon) g2).leB base) (List.suffix_refl _) g3
  intro x he M' W' u g1 g2 g3
  exact hp.pan x he _ M' _ W' u g1 (List.suffix_refl _) g2 ⟨by simpa using hs.df.defs,hs.df.old,hs.df.nd⟩ g3
end
end Go.Ab
namespace Go.Ab
open Go.RowKit
section
variable {P:Program} {nf:Bool} {C:FuncId->List AV->Option Xk} {σ σ':Sto} {s s':Slots} {fr:Nat} {o:Oper} {res:Res}
theorem evos_congr:∀{xs:List Operand},(∀x∈xs,evo s' x=evo s x)->J3 s' xs=J3 s xs
 | [],_=>rfl
 | x::xs,h=>by
  have e:=evos_congr (xs:=xs) (fun y hy=>h y (cL _ hy))
  simp only [J3,h x (by simp),e]
theorem Qe6:∀{xs:List (Nat × Operand)},(∀x∈xs.map (·.2),evo s' x=evo s x)->K2 s' xs=K2 s xs
 | [],_=>rfl
 | (i,x)::xs,h=>by
  have e:=Qe6 (xs:=xs) (fun y hy=>h y (cL _ hy))
  simp only [K2,h x (by simp),e]
theorem Qtq (h:∀x∈o.op.operands,evo s' x=evo s x):evalOp P nf C σ fr s' o=evalOp P nf C σ fr s o:=by
 obtain ⟨dst,op,type,pos,after,guard⟩:=o
 cases op
 case call c =>
  obtain ⟨cal,args,ts⟩:=c
  cases cal with
  | value g =>
   simp only [Op.operands,Call.operands] at h
   unfold evalOp
   simp only
   rw [h g (by simp),evos_congr (s:=s) (s':=s') (fun x hx=>h x (by simp [Array.mem_toList_iff.1 hx]))]
  | invoke g m=>rfl
  | builtin b =>
   simp only [Op.operands,Call.operands] at h
   unfold evalOp
   simp only
   have h':∀x∈args.toList,evo s' x=evo s x:=fun x hx=>h x (by simpa using hx)
   generalize args.toList=as at h'
   cases b <;> simp only
   all_goals first
    | rfl
    | (unfold Qsg; split <;> first | rw [h' _ (by simp)] | rfl)
    | (unfold Qyg; split <;> first | rw [h' _ (by simp)] | rfl)
    | (unfold Qb8; split <;> first | rw [h' _ (by simp),h' _ (by simp)] | rfl)
    | (unfold Qik; split <;> first | rw [h' _ (by simp),h' _ (by simp)] | rfl)
    | (unfold Qye; split <;> first | rw [h' _ (by simp),evos_congr (fun x hx=>h' x (by simp [hx]))] | rfl)
    | (unfold Qxj; split <;> first | rw [h' _ (by simp),evos_congr (fun x hx=>h' x (by simp [hx]))] | rfl)
 all_goals simp only [Op.operands] at h; unfold evalOp; simp only
 case move x=>rw [h x (by simp)]
 case assign x=>rw [h x (by simp)]
 case pick c a b=>rw [h c (by simp),h a (by simp),h b (by simp)]
 case box t x=>rw [h x (by simp)]
 case build t ps=>rw [Qe6 (s:=s) (s':=s') (fun x hx=>h x (by simpa using hx))]
 case buildSlice t n ps=>rw [Qe6 (s:=s) (s':=s') (fun x hx=>h x (by simpa using hx))]
 case load t x=>rw [h x (by simp)]
 case store t x y=>rw [h x (by simp),h y (by simp)]
 case nilCheck x=>rw [h x (by simp)]
 case binOp op t x y u=>rw [h x (by simp),h y (by simp)]
 case unOp op t x=>rw [h x (by simp)]
 case convert u t x=>rw [h x (by simp)]
 case makeFunc f a b=>rw [evos_congr (s:=s) (s':=s') (fun x hx=>h x (by simp [Array.mem_toList_iff.1 hx])),evos_congr (s:=s) (s':=s') (xs:=b.toList) (fun x hx=>h x (by simp [Array.mem_toList_iff.1 hx]))]
 case makeSlice t l c=>rw [h l (by simp),h c (by simp)]
 case slice t x lo hi mx =>
  have e:∀y:Option Operand,(∀z∈y.toArray,evo s' z=evo s z)->Kt s' y=Kt s y:=fun y hy=>by
   cases y with
   | none=>rfl
   | some z=>simp [Kt,hy z (by simp)]
  rw [h x (by simp),e lo (fun z hz=>h z (by simp at hz ⊢; simp [hz])),e hi (fun z hz=>h z (by simp at hz ⊢; simp [hz])),e mx (fun z hz=>h z (by simp at hz ⊢; simp [hz]))]
 case fieldAddr t x f=>rw [h x (by simp)]
 case field t x f=>rw [h x (by simp)]
 case indexAddr t x y=>rw [h x (by simp),h y (by simp)]
 case index t x y=>rw [h x (by simp),h y (by simp)]
 case extract x i=>rw [h x (by simp)]
 case panic x=>rw [h x (by simp)]
 case makeMap t r=>cases r <;> rfl
 case lookup t x y c=>unfold Qds; rw [h x (by simp),h y (by simp)]
 case mapUpdate t m x y=>unfold Qd4; rw [h m (by simp),h x (by simp),h y (by simp)]
 case insert t m x y=>unfold Qd4; rw [h m (by simp),h x (by simp),h y (by simp)]
 case mapEntry t m x=>unfold Qin; rw [h m (by simp),h x (by simp)]
 case entryStore t m x y=>unfold Qgu; rw [h m (by simp),h x (by simp),h y (by simp)]
end
end Go.Ab
namespace Go.Ab
open Go.RowKit
section
variable {P:Program} {nf:Bool} {C:FuncId->List AV->Option Xk} {σ σ':Sto} {s s':Slots} {fr:Nat} {o:Oper} {res:Res}
theorem Kx {f g:AV->Option (AV × List Nat)} (σ σ':Sto) (h:∀x b ids,f x=some (b,ids)->(∀k∈ids,σ' k=σ k)->g x=some (b,ids)):∀(xs ys:List AV) (ids:List Nat),Qx f xs=some (ys,ids)->(∀k∈ids,σ' k=σ k)->Qx g xs=some (ys,ids)
 | [],ys,ids,he,_=>by simpa [Qx] using he
 | x::xs,ys,ids,he,hk=>by
  simp only [Qx] at he
  split at he
  ·rename_i y a ys0 b h1 h2
   cases he
   simp only [Qx,h x y a h1 (fun k hk'=>hk k (by simp [hk'])),Kx σ σ' h xs ys0 b h2 (fun k hk'=>hk k (by simp [hk']))]
  cases he
theorem Ks:∀(d:Nat) (a b:AV) (ids:List Nat),Qt σ d a=some (b,ids)->(∀k∈ids,σ' k=σ k)->Qt σ' d a=some (b,ids)
 | 0,a,b,ids,he,_=>by simp [Qt] at he
 | d+1,a,b,ids,he,hk=>by
  have rec':∀xs ys ids,Qx (Qt σ d) xs=some (ys,ids)->(∀k∈ids,σ' k=σ k)->Qx (Qt σ' d) xs=some (ys,ids):=fun xs ys ids=>Kx σ σ' (fun x b ids=>Ks d x b ids) xs ys ids
  unfold Qt at he ⊢
  cases a with
  | ref o i n =>
   simp only at he ⊢
   split at he
   rotate_left
   ·cases he
   rename_i bx ro nr fl w xs hσ
   split at he
   ·rename_i hlen
    split at he
    ·cases he
     rw [hk o (by simp),hσ]; simp_all
    split at he
    ·rename_i ys ids' hm
     cases he
     rw [hk o (by simp),hσ]
     simp only [rec' _ _ _ hm (fun k hk'=>hk k (by simp [hk']))]
     simp_all
    cases he
   cases he
  | ptr o i c =>
   simp only at he ⊢
   split at he
   ·rename_i bx ro nr fl w xs hσ
    split at he
    ·rename_i ys ids' hm
     split at he
     ·rename_i y hy
      cases he
      rw [hk o (by simp),hσ]
      simp only [rec' _ _ _ hm (fun k hk'=>hk k (by simp [hk'])),hy]
     cases he
    cases he
   cases he
  | agg cs =>
   simp only at he ⊢
   split at he
   ·rename_i ys ids' hm; cases he; simp only [rec' _ _ _ hm hk]
   cases he
  | tup cs =>
   simp only at he ⊢
   split at he
   ·rename_i ys ids' hm; cases he; simp only [rec' _ _ _ hm hk]
   cases he
  | fn f x y =>
   simp only at he ⊢
   split at he
   ·rename_i x' i y' j h1 h2
    cases he
    simp only [rec' _ _ _ h1 (fun k hk'=>hk k (by simp [hk'])),rec' _ _ _ h2 (fun k hk'=>hk k (by simp [hk']))]
   cases he
  | ifc t v =>
   simp only at he ⊢
   split at he
   ·rename_i y i h1; cases he; simp only [Ks d _ _ _ h1 hk]
   cases he
  | mp o=>simp at he
  | yld o=>simp at he
  | _=>simpa using he
theorem Qhb {ids:List Nat} {es:List (Nat × AObj)} (he:frz σ ids=some es) (hk:∀k∈ids,σ' k=σ k):frz σ' ids=some es:=by
 unfold frz at *
 have go:∀(l:List Nat) (es:List (Nat × AObj)),(∀k∈l,k∈ids)->Qae σ ids l=some es->Qae σ' ids l=some es:=by
  intro l
  induction l with
  | nil=>intro es _ h; simpa [Qae] using h
  | cons o os ih =>
   intro es hl h
   simp only [Qae] at h ⊢
   split at h
   rotate_left
   ·cases h
   rename_i bx ro nr fl w xs es0 h1 h2
   rw [hk o (hl o (by simp)),h1,ih es0 (fun k hk'=>hl k (by simp [hk'])) h2]
   simp only
   split at h
   ·rename_i hn; rw [aH hn]; exact h
   rename_i hn
   rw [aI hn]
   split at h
   ·rename_i ys ids' hm
    split at h
    ·rename_i hall
     have hall':∀k∈ids',k∈ids:=fun k hk'=>by
      have:=bO.1 hall k hk'
      simpa using this
     rw [Kx σ σ' (fun x b ids=>Ks (σ:=σ) (σ':=σ') Qo x b ids) _ _ _ hm (fun k hk'=>hk k (hall' k hk'))]
     simp only [hall,eK]
     exact h
    cases h
   cases h
 exact go ids es (fun k hk=>hk) he
theorem Qhh:∀(ps qs:List (Nat × AV)) (ids:List Nat),Z3 σ ps=some (qs,ids)->(∀k∈ids,σ' k=σ k)->Z3 σ' ps=some (qs,ids)
 | [],qs,ids,he,_=>by simpa [Z3] using he
 | (i,x)::r,qs,ids,he,hk=>by
  simp only [Z3] at he ⊢
  split at he
  ·rename_i y a ys b h1 h2
   cases he
   rw [Qhh r ys b h2 (fun k hk'=>hk k (by simp [hk']))]
   split at h1
   ·rename_i hn; cases h1; simp [hn]
   rename_i hn
   simp only [hn]
   simp [Ks _ _ _ _ h1 (fun k hk'=>hk k (by simp [hk']))]
  cases he
theorem Ky {w:Nat} {a:AV} {ys:List AV} {nr fl:Bool} {rd:List Nat} (he:Vf σ w a=some (ys,nr,fl,rd)) (hk:∀k∈rd,σ' k=σ k):Vf σ' w a=some (ys,nr,fl,rd):=by
 unfold Vf at he ⊢
 cases a with
 | ref o i n =>
  simp only at he ⊢
  split at he
  ·rename_i ro nr' fl' w' xs hσ
   split at he
   ·rename_i hc; cases he; rw [hk o (by simp),hσ]; simp only [hc,eK]
   cases he
  cases he
 | _=>exact he
theorem Qkk {T:TI} {a:AV} {ys:List AV} {nr fl:Bool} {r:Res} (he:absAppend σ fr T a ys nr fl=some r) (hk:∀k∈r.rd,σ' k=σ k):absAppend σ' fr T a ys nr fl=some r:=by
 unfold absAppend at he ⊢
 cases a with
 | ref o i n =>
  simp only at he ⊢
  have key:σ' o=σ o:=by
   split at he
   rotate_left
   ·cases he
   split at he
   ·split at he
    ·split at he
     ·cases he; exact hk o (by simp)
     cases he
    split at he
    ·cases he; exact hk o (by simp)
    split at he
    ·cases he; exact hk o (by simp)
    split at he
    ·cases he; exact hk o (by simp)
    cases he
   cases he
  rw [key]; exact he
 | _=>exact he
theorem Qqf {w:Nat} {x:AV} {l h m:Option AV} {r:AV × List Nat} (he:Kv σ w x l h m=some r) (hk:∀k∈r.2,σ' k=σ k):Kv σ' w x l h m=some r:=by
 unfold Kv at he ⊢
 cases x with
 | ref o i n =>
  simp only at he ⊢
  have key:σ' o=σ o:=by
   split at he
   ·split at he
    ·split at he
     ·cases he; exact hk o (by simp)
     cases he
    ·split at he
     ·split at he
      ·cases he; exact hk o (by simp)
      cases he
     cases he
    cases he
   cases he
  rw [key]; exact he
 | _=>exact he
theorem Qrw {f:FuncId} {args:List AV} (he:Qgh C σ fr f args=some (.val res)) (hk:∀k∈res.rd,σ' k=σ k):Qgh C σ' fr f args=some (.val res):=by
 unfold Qgh at he ⊢
 split at he
 rotate_left
 ·cases he
 rename_i as ids hm
 have hids:res.rd=ids:=by
  split at he
  ·split at he
   ·split at he
    ·cases he; rfl
    split at he
    ·cases he; rfl
    cases he
   cases he
  ·cases he
  cases he
 rw [Kx σ σ' (fun x b ids=>Ks (σ:=σ) (σ':=σ') Qo x b ids) _ _ _ hm (fun k hk'=>hk k (by rw [hids]; exact hk'))]
 try simp only
 split at he
 rotate_left
 ·rename_i hco; exact he
 ·cases he
 rename_i r0 objs hco
 try simp only [hco]
 split at he
 ·rename_i hok
  try simp only [hok,eK]
  split at he
  ·rename_i hc; simp only [hc,eK]; exact he
  rename_i hc
  try simp only [hc]
  split at he
  ·rename_i es hf
   rw [Qhb hf (fun k hk'=>hk k (by rw [hids]; exact hk'))]
   exact he
  cases he
 cases he
theorem Qqm {args:List Operand} {ts:List TypeId} (he:Qb8 P nf σ fr s args ts=some (.val res)) (hk:∀k∈res.rd,σ' k=σ k):Qb8 P nf σ' fr s args ts=some (.val res):=by
 unfold Qb8 at he ⊢
 split at he
 rotate_left
 ·cases he
 rename_i x y t u r
 split at he
 rotate_left
 ·cases he
 rename_i T U a b hT hU ha hb
 try simp only [hT,hU,ha,hb]
 split at he
 ·cases he
 rename_i htu
 try simp only [htu]
 split at he
 rotate_left
 ·cases he
 rename_i e hkind
 try simp only [hkind]
 split at he
 rotate_left
 ·cases he
 rename_i E hE
 try simp only [hE]
 split at he
 rotate_left
 ·cases he
 rename_i ys nr fl rd hel
 split at he
 ·rename_i hnr
  cases hap:absAppend σ fr E a ys nr fl with
  | none=>simp [hap] at he
  | some r1 =>
   try simp only [hap,bK] at he
   cases he
   rw [Ky hel (fun k hk'=>hk k (by simp [hk']))]
   try simp only [hnr,eK,Qkk hap (fun k hk'=>hk k (by simp [hk'])),bK]
   simp
 rename_i hnr
 split at he
 rotate_left
 ·cases he
 rename_i ys' ids hm
 split at he
 ·rename_i es r1 hf hap
  split at he
  ·cases he
  rename_i hany
  cases he
  rw [Ky hel (fun k hk'=>hk k (by simp [hk']))]
  try simp only [hnr]
  rw [Kx σ σ' (fun x b ids=>Ks (σ:=σ) (σ':=σ') Qo x b ids) _ _ _ hm (fun k hk'=>hk k (by simp [hk']))]
  try simp only [Qhb hf (fun k hk'=>hk k (by simp [hk'])),Qkk hap (fun k hk'=>hk k (by simp [hk']))]
  simp [hany]
 cases he
theorem Qtx {args:List Operand} {ts:List TypeId} (he:Qik P nf σ fr s args ts=some (.val res)) (hk:∀k∈res.rd,σ' k=σ k):Qik P nf σ' fr s args ts=some (.val res):=by
 unfold Qik at he ⊢
 split at he
 rotate_left
 ·cases he
 rename_i x y t r
 split at he
 rotate_left
 ·cases he
 rename_i T a b hT ha hb
 try simp only [hT,ha,hb]
 split at he
 rotate_left
 ·cases he
 rename_i e hkind
 try simp only [hkind]
 split at he
 rotate_left
 ·cases he
 rename_i E hE
 try simp only [hE]
 split at he
 rotate_left
 ·cases he
 rename_i ys nr fl rd hel
 cases a with
 | ref o i n =>
  try simp only at he ⊢
  split at he
  ·rename_i nr' fl' w xs hσ
   split at he
   ·rename_i hc
    cases he
    rw [Ky hel (fun k hk'=>hk k (by simp [hk']))]
    try simp only
    rw [hk o (by simp),hσ]
    simp [hc]
   cases he
  cases he
 | nils=>cases he; rw [Ky hel hk]
 | emp=>cases he; rw [Ky hel hk]
 | _=>cases he
end
end Go.Ab
namespace Go.Ab
open Go.RowKit
section
variable {P:Program} {nf:Bool} {C:FuncId->List AV->Option Xk} {σ σ':Sto} {s s':Slots} {fr:Nat} {o:Oper} {res:Res}
theorem Qem (he:evalOp P nf C σ fr s o=some (.val res)) (hk:∀k∈res.rd,σ' k=σ k):evalOp P nf C σ' fr s o=some (.val res):=by
 obtain ⟨dst,op,type,pos,after,guard⟩:=o
 cases op
 case call c =>
  obtain ⟨cal,args,ts⟩:=c
  cases cal with
  | value g =>
   unfold evalOp at he ⊢
   simp only at he ⊢
   split at he
   ·exact Qrw he hk
   cases he
  | invoke g m=>unfold evalOp at he; cases he
  | builtin b =>
   unfold evalOp at he ⊢
   simp only at he ⊢
   generalize args.toList=as at *
   generalize ts.toList=tl at *
   cases b <;> first | exact he | exact Qqm he hk | exact Qtx he hk
 case load t x =>
  unfold evalOp at he ⊢
  simp only at he ⊢
  split at he
  ·exact he
  ·rename_i T ob ii c hT hx
   have key:σ' ob=σ ob:=by
    split at he
    ·split at he
     ·simp only [aR] at he
      obtain ⟨z,_,hz⟩:=he
      cases hz; exact hk ob (by simp)
     cases he
    cases he
   rw [key]; exact he
  cases he
 case store t x y =>
  unfold evalOp at he ⊢
  simp only at he ⊢
  split at he
  rotate_left
  ·cases he
  rename_i T ob ii c v0 hT hx hy
  split at he
  rotate_left
  ·cases he
  rename_i bx nr fl w xs hσ
  split at he
  rotate_left
  ·cases he
  rename_i x0 hx0
  split at he
  rotate_left
  ·cases he
  rename_i hok
  split at he
  rotate_left
  ·cases he
  rename_i v ids hsn
  split at he
  rotate_left
  ·cases he
  rename_i x' es hput hf
  split at he
  ·cases he
  rename_i hcon
  cases he
  rw [hk ob (by simp),hσ]
  simp only [hx0,hok,eK]
  have hs':(if bx || nf || v0.nr then some (v0,[]) else Qt σ' Qo v0)=some (v,ids):=by
   split at hsn
   ·rename_i hc; rw [aH hc]; exact hsn
   rename_i hc; rw [aI hc]; exact Ks _ _ _ _ hsn (fun k hk'=>hk k (by simp [hk']))
  rw [hs']
  simp only [hput,Qhb hf (fun k hk'=>hk k (by simp [hk']))]
  rw [aI hcon]
 case buildSlice t n ps =>
  unfold evalOp at he ⊢
  simp only at he ⊢
  split at he
  rotate_left
  ·cases he
  rename_i T hT
  split at he
  rotate_left
  ·cases he
  rename_i e hkd
  split at he
  rotate_left
  ·cases he
  rename_i E parts0 hE hps
  split at he
  ·rename_i hn0; rw [aH hn0]; exact he
  rename_i hn0
  rw [aI hn0]
  split at he
  rotate_left
  ·cases he
  rename_i z parts ids hz hsn
  split at he
  ·rename_i hc
   split at he
   ·rename_i xs es hfill hf
    cases he
    have hs':(if nf then some (parts0,[]) else Z3 σ' parts0)=some (parts,ids):=by
     split at hsn
     ·rename_i hc; rw [aH hc]; exact hsn
     rename_i hc; rw [aI hc]; exact Qhh _ _ _ hsn hk
    rw [hs']
    simp only [hz,Qhb hf hk,hfill,hc,eK]
   cases he
  cases he
 case slice t x lo hi mx =>
  unfold evalOp at he ⊢
  simp only at he ⊢
  split at he
  ·cases he
  rename_i hm
  split at he
  ·rename_i T a l h m hT hx h1 h2 h3
   split at he
   ·rename_i e hkd
    split at he
    ·rename_i E hE
     simp only [aR] at he
     obtain ⟨r,hr,hz⟩:=he
     cases hz
     rw [aI hm,Qqf hr hk]
     rfl
    cases he
   cases he
  cases he
 case indexAddr t x y =>
  unfold evalOp at he ⊢
  simp only at he ⊢
  split at he
  rotate_left
  ·cases he
  rename_i T a b hT hx hy
  split at he
  rotate_left
  ·exact he
  ·cases he
  rename_i e j h1 h2
  split at he
  ·rename_i E hE
   split at he
   ·exact he
   ·rename_i ob ii n
    have key:σ' ob=σ ob:=by
     split at he
     ·split at he
      ·cases he; exact hk ob (by simp)
      cases he
     cases he
    rw [key]; exact he
   cases he
  cases he
 case makeMap t r=>cases r <;> exact he
 case lookup t x y c =>
  unfold evalOp Qds at he ⊢
  simp only at he ⊢
  split at he
  rotate_left
  ·cases he
  rename_i T ob k hT hx hy
  have key:σ' ob=σ ob:=by
   split at he
   ·split at he
    ·split at he
     ·cases he; exact hk ob (by simp)
     cases he
    ·split at he
     ·cases he; exact hk ob (by simp)
     cases he
    cases he
   cases he
  rw [key]; exact he
 case mapUpdate t m x y =>
  unfold evalOp Qd4 at he ⊢
  simp only at he ⊢
  split at he
  ·rename_i T ob k v hT hm hx hy
   have key:σ' ob=σ ob:=by
    split at he
    ·split at he
     ·cases he; exact hk ob (by simp)
     ·cases he; exact hk ob (by simp)
     cases he
    cases he
   rw [key]; exact he
  cases he
 case insert t m x y =>
  unfold evalOp Qd4 at he ⊢
  simp only at he ⊢
  split at he
  ·rename_i T ob k v hT hm hx hy
   have key:σ' ob=σ ob:=by
    split at he
    ·split at he
     ·cases he; exact hk ob (by simp)
     ·cases he; exact hk ob (by simp)
     cases he
    cases he
   rw [key]; exact he
  cases he
 case mapEntry t m x =>
  unfold evalOp Qin at he ⊢
  simp only at he ⊢
  split at he
  rotate_left
  ·cases he
  rename_i T ob k hT hm hx
  have key:σ' ob=σ ob:=by
   split at he
   ·split at he
    ·split at he
     ·cases he; exact hk ob (by simp)
     cases he
    ·split at he
     ·cases he; exact hk ob (by simp)
     cases he
    cases he
   cases he
  rw [key]; exact he
 case entryStore t m x y =>
  unfold evalOp Qgu at he ⊢
  simp only at he ⊢
  split at he
  ·rename_i ob i v hm hx hy
   have key:σ' ob=σ ob:=by
    split at he
    ·split at he
     ·cases he; exact hk ob (by simp)
     cases he
    cases he
   rw [key]; exact he
  cases he
 case panic x =>
  unfold evalOp at he
  simp only at he
  split at he
  ·split at he <;> cases he
  cases he
 all_goals first
  | exact he
  | (unfold evalOp at he ⊢; exact he)
theorem Qx5 {o:Oper} (he:Ze P nf C σ fr s o=some (.val res)) (hs:∀x∈o.op.operands,evo s' x=evo s x) (hk:∀k∈res.rd,σ' k=σ k):Ze P nf C σ' fr s' o=some (.val res):=by
 unfold Ze at he ⊢
 rw [Qtq hs]
 split at he
 ·rename_i hm
  rw [aH hm]
  exact Qem he hk
 rename_i hm
 rw [aI hm]
 unfold Zi at he
 split at he
 ·rename_i r h1
  cases he
  rw [Qem h1 hk]
  rfl
 cases he
end
end Go.Ab
namespace Go.Ab
open Go.RowKit
structure Foot where
 v:Option AV
 eff:List (Nat × AObj)
 fr:Nat
 fr':Nat
 rd:List Nat
 deriving Inhabited
def InR (lo hi id:Nat):Prop:=(lo<=id/\id < hi)\/∃k i,lo<=k/\k < hi/\id=fid k i
theorem InR.mono {lo hi lo' hi' k:Nat} (h:InR lo hi k) (h1:lo'<=lo) (h2:hi<=hi'):InR lo' hi' k:=by
 rcases h with h | ⟨j,i,h3,h4,e⟩
 ·exact .inl (by omega)
 exact .inr ⟨j,i,by omega,by omega,e⟩
theorem InR.disj {lo hi lo' hi' k:Nat} (h:InR lo hi k) (h':InR lo' hi' k) (hd:hi<=lo'\/hi'<=lo) (hb:hi<=BIG) (hb':hi'<=BIG):False:=by
 rcases h with h | ⟨j,i,h3,h4,rfl⟩
 ·rcases h' with h' | ⟨j,i,h3,h4,rfl⟩
  ·omega
  have:=Zy j i; omega
 rcases h' with h' | ⟨j',i',h3',h4',e⟩
 ·have:=Zy j i; omega
 have:=(Vl e).1; omega
theorem InR.inB {lo hi k:Nat} (h:InR lo hi k):InB hi k:=by
 rcases h with h | ⟨j,i,h3,h4,e⟩
 ·exact .inl h.2
 exact .inr ⟨j,i,h4,e⟩
theorem InR.notB {lo hi k:Nat} (h:InR lo hi k) (hb:hi<=BIG):¬ InB lo k:=by
 rintro (c | ⟨j',i',h3',e⟩)
 ·rcases h with h | ⟨j,i,h3,h4,rfl⟩
  ·omega
  have:=Zy j i; omega
 subst e
 rcases h with h | ⟨j,i,h3,h4,e⟩
 ·have:=Zy j' i'; omega
 have:=(Vl e).1; omega
def Kp (s:Slots) (dst:Option Nat) (v:Option AV):Slots:=fun k=>if dst=some k then v else s k
def Q8h (P:Program) (o:Oper) (s:Slots) (σ:Sto) (F:Foot):Prop :=
 ∀B W0 D M ι a W n Q r next,Rel P B W0 D M ι σ W->Ql M ι s a.tmps->(∀k,InR F.fr F.fr' k->ι k=none) ->
  (∀v W' M' ι',CM.Grow B M M'->ι.le ι'->(∀k,¬ InR F.fr F.fr' k->ι' k=ι k)->Rel P B W0 D M' ι' (σ.puts F.eff) W'->(∀x,F.v=some x->Qa M' ι' v x)->next (a.put o.dst v) W') ->
  o.wpIn (FW r) n P a W next Q
def Yl (P:Program) (ops:Array Oper) (o:Oper) (F:Foot) (s:Slots) (σ:Sto):Prop :=
 (Ym ops s o=some true/\Q8h P o s σ F)\/(Ym ops s o=some false/\F.v=(some (.tup []))/\F.eff=[])
def YlL (P:Program) (ops:Array Oper) (o:Oper) (F:Foot) (s:Slots) (σ:Sto):Prop :=
 ∀s' σ',(∀t∈o.looksAt ops,s' t=s t)->(∀k∈F.rd,σ' k=σ k)->Yl P ops o F s' σ'
def opA (P:Program) (ops:Array Oper) (Ft:Nat -> Foot) (i:Nat) (K:Slots->Sto->Prop) (s:Slots) (σ:Sto):Prop :=
 match ops[i]? with
 | none=>K s σ
 | some o=>YlL P ops o (Ft i) s σ/\K (Kp s o.dst (Ft i).v) (σ.puts (Ft i).eff)
def Qku (P:Program) (ops:Array Oper) (Ft:Nat -> Foot) (Q:Slots->Sto->Prop):Nat -> Array Bool->Slots->Sto->Prop
 | 0,listed,s,σ=>Region.ready .any ops listed=[]/\Q s σ
 | fuel+1,listed,s,σ=>(Region.ready .any ops listed=[]->Q s σ)/\∀i∈Region.ready .any ops listed,opA P ops Ft i (Qku P ops Ft Q fuel (listed.setIfInBounds i true)) s σ
structure Qam (F G:Foot):Prop where
 a:∀e∈F.eff,e.1 ∉ G.rd
 b:∀e∈G.eff,e.1 ∉ F.rd
 c:∀e∈F.eff,∀e'∈G.eff,e.1≠e'.1
section
variable {P:Program} {ops:Array Oper} {Ft:Nat -> Foot} {Q:Slots->Sto->Prop} {s:Slots} {σ:Sto}
theorem Q01 {i:Nat} {K K':Slots->Sto->Prop} (h:∀s σ,K s σ->K' s σ) (hh:opA P ops Ft i K s σ):opA P ops Ft i K' s σ:=by
 unfold opA at *
 split
 ·rename_i ho; simp only [ho] at hh; exact h _ _ hh
 rename_i o ho; simp only [ho] at hh; exact ⟨hh.1,h _ _ hh.2⟩
theorem Qdv {es:List (Nat × AObj)} {k:Nat} (h:∀e∈es,e.1≠k):σ.puts es k=σ k:=by
 rcases σ.puts_at es k with ⟨h1,_⟩ | ⟨y,_,h2⟩
 ·exact h1
 exact absurd rfl (h _ h2)
theorem Q0e {e1 e2:List (Nat × AObj)} (h:∀e∈e1,∀e'∈e2,e.1≠e'.1):(σ.puts e1).puts e2=(σ.puts e2).puts e1:=by
 funext k
 by_cases hk:∃e∈e1,e.1=k
 ·obtain ⟨e,he,rfl⟩:=hk
  rw [Qdv (fun e' he'=>Ne.symm (h e he e' he'))]
  exact Qfl e1 _ (.inr ⟨e,he,rfl⟩)
 have hn:∀e∈e1,e.1≠k:=fun e he hek=>hk ⟨e,he,hek⟩
 rw [Qdv (σ:=σ.puts e2) hn]
 exact Qfl e2 _ (.inl (Qdv hn))
theorem Qym {d d':Option Nat} {v v':Option AV} (h:∀t,d=some t->d'≠some t):Kp (Kp s d v) d' v'=Kp (Kp s d' v') d v:=by
 funext k
 simp only [Kp]
 by_cases e:d=some k
 ·rw [aI (h k e),aH e,aH e]
 rw [aI e,aI e]
theorem Qtp {d:Option Nat} {v:Option AV} {t:Nat} (h:∀k,d=some k->k≠t):Kp s d v t=s t:=by
 simp only [Kp]
 rw [aI (fun e=>h t e rfl)]
theorem Q33 {i j:Nat} {oi oj:Oper} (hj:ops[j]?=some oj) (hap:oi.apart ops oj=true) (hc:Qam (Ft i) (Ft j)) {K:Slots->Sto->Prop}
  (hy:YlL P ops oi (Ft i) s σ) (h:opA P ops Ft j K (Kp s oi.dst (Ft i).v) (σ.puts (Ft i).eff)) :
  opA P ops Ft j (fun s' σ'=>YlL P ops oi (Ft i) s' σ'/\K (Kp s' oi.dst (Ft i).v) (σ'.puts (Ft i).eff)) s σ:=by
 obtain ⟨h1,h2,h3⟩:=Oper.apart_spec hap
 unfold opA at *
 simp only [hj] at *
 obtain ⟨ha,hK⟩:=h
 refine ⟨fun s' σ' hs hσ=>ha s' σ' (fun t ht=>?_) (fun k hk=>?_),fun s' σ' hs hσ=>hy s' σ' (fun t ht=>?_) (fun k hk=>?_),?_⟩
 ·rw [Qtp (fun k hk e=>h1 k hk (e ▸ ht))]; exact hs t ht
 ·rw [Qdv (fun e he hek=>hc.a e he (hek ▸ hk))]; exact hσ k hk
 ·rw [hs t ht,Qtp (fun k hk e=>h3 k hk (e ▸ ht))]
 ·rw [hσ k hk,Qdv (fun e he hek=>hc.b e he (hek ▸ hk))]
 ·rw [Qym (fun t ht e=>h2 t e ht),Q0e (fun e he e' he'=>Ne.symm (hc.c e' he' e he))]; exact hK
inductive Xf (ops:Array Oper) (i:Nat):Nat -> Prop
 | one {j:Nat} {oj:Oper} {e:Edge} (hj:ops[j]?=some oj) (he:e∈oj.after) (hb:Region.binds .any e=true) (h:e.on=i):Xf ops i j
 | more {j:Nat} {oj:Oper} {e:Edge} (hj:ops[j]?=some oj) (he:e∈oj.after) (hb:Region.binds .any e=true) (h:Xf ops i e.on):Xf ops i j
def Qbe (ops:Array Oper) (listed:Array Bool):Prop:=∀(k:Nat) (ok:Oper),ops[k]?=some ok->listed.getD k false=true->∀e∈ok.after,Region.binds .any e=true->listed.getD e.on false=true
theorem Qbe.back {listed:Array Bool} (hc:Qbe ops listed) {i j:Nat} (h:Xf ops i j):listed.getD j false=true->listed.getD i false=true:=by
 induction h with
 | one hj he hb h=>intro hl; rw [<-h]; exact hc _ _ hj hl _ he hb
 | more hj he hb h ih=>intro hl; exact ih (hc _ _ hj hl _ he hb)
theorem Qsn {listed:Array Bool} {i:Nat} (h0:listed.getD i true=false) (h1:listed.getD i false=true):False:=by
 rcases bA i listed.size with h' | h'
 ·simp [h'] at h0 h1; rw [h0] at h1; cases h1
 simp [eD h'] at h0
theorem Qn9 {listed:Array Bool} (hc:Qbe ops listed) {i j:Nat} (hj:j∈Region.ready .any ops listed) (hi:listed.getD i true=false):¬ Xf ops i j:=by
 obtain ⟨_,oj,hoj,hall⟩:=mem_ready.1 hj
 intro h
 cases h with
 | one hj' he hb h=>rw [hoj] at hj'; cases hj'; exact Qsn hi (by rw [<-h]; exact hall _ he hb)
 | more hj' he hb h=>rw [hoj] at hj'; cases hj'; exact Qsn hi (hc.back h (hall _ he hb))
theorem Qbe.add {listed:Array Bool} (hc:Qbe ops listed) {j:Nat} (hj:j∈Region.ready .any ops listed):Qbe ops (listed.setIfInBounds j true):=by
 obtain ⟨_,oj,hoj,hall⟩:=mem_ready.1 hj
 intro k ok hk hl e he hb
 by_cases ekj:j=k
 ·subst ekj; rw [hoj] at hk; cases hk; exact getD_set_true (hall e he hb)
 rw [getD_set_ne false ekj] at hl; exact getD_set_true (hc k ok hk hl e he hb)
theorem Qs5 {i:Nat} {oi:Oper} (hi:ops[i]?=some oi):∀(fuel:Nat) (listed:Array Bool) (s:Slots) (σ:Sto),
  Qbe ops listed->(∀j oj,ops[j]?=some oj->j≠i->listed.getD j true=false->¬ Xf ops i j->oi.apart ops oj=true/\Qam (Ft i) (Ft j)) ->
  i∈Region.ready .any ops listed->YlL P ops oi (Ft i) s σ ->
  Qku P ops Ft Q fuel (listed.setIfInBounds i true) (Kp s oi.dst (Ft i).v) (σ.puts (Ft i).eff)->Qku P ops Ft Q (fuel+1) listed s σ:=by
 have here:∀(K:Slots->Sto->Prop) s σ,YlL P ops oi (Ft i) s σ->K (Kp s oi.dst (Ft i).v) (σ.puts (Ft i).eff)->opA P ops Ft i K s σ:=fun K s σ h1 h2=>by
  unfold opA; simp only [hi]; exact ⟨h1,h2⟩
 intro fuel
 induction fuel with
 | zero =>
  intro listed s σ _ _ hr hy H
  refine ⟨fun h=>(by rw [h] at hr; cases hr),fun j hj=>?_⟩
  by_cases hji:j=i
  ·subst hji; exact here _ _ _ hy H
  have:=ready_mono hj hji
  rw [H.1] at this
  cases this
 | succ fuel ih =>
  intro listed s σ hcl hfree hr hy H
  refine ⟨fun h=>(by rw [h] at hr; cases hr),fun j hj=>?_⟩
  by_cases hji:j=i
  ·subst hji; exact here _ _ _ hy H
  have h1:=H.2 j (ready_mono hj hji)
  obtain ⟨hjun,oj,hoj,hall⟩:=mem_ready.1 hj
  have hnot:¬ Xf ops i j:=Qn9 hcl hj (mem_ready.1 hr).1
  obtain ⟨hap,hc⟩:=hfree j oj hoj hji hjun hnot
  have h2:=Q33 hoj hap hc hy h1
  have hfree':∀k ok,ops[k]?=some ok->k≠i->(listed.setIfInBounds j true).getD k true=false ->
    ¬ Xf ops i k->oi.apart ops ok=true/\Qam (Ft i) (Ft k):=fun k ok hk hki hun hno=>by
   refine hfree k ok hk hki ?_ hno
   by_cases hjk:j=k
   ·subst hjk; exact hjun
   ·rw [getD_set_ne true hjk] at hun; exact hun
  refine Q01 (fun s' σ' h3=>ih (listed.setIfInBounds j true) s' σ' (hcl.add hj) hfree' (ready_mono hr (Ne.symm hji)) h3.1 ?_) h2
  rw [Array.setIfInBounds_comm _ _ hji]
  exact h3.2
def Q1r (P:Program) (ops:Array Oper) (Ft:Nat -> Foot) (Q:Slots->Sto->Prop):List Oper->Nat -> Slots->Sto->Prop
 | [],_,s,σ=>Q s σ
 | o::l,k,s,σ=>YlL P ops o (Ft k) s σ/\Q1r P ops Ft Q l (k+1) (Kp s o.dst (Ft k).v) (σ.puts (Ft k).eff)
theorem Qjj (hcomp:∀i j oj,i < j->ops[j]?=some oj->¬ Xf ops i j->Qam (Ft i) (Ft j)) :
  ∀(l:List Oper) (k:Nat) (listed:Array Bool) (s:Slots) (σ:Sto),Qbe ops listed->(∀j,l[j]?=ops[k+j]?)->(∀j,listed.getD j true=false->k<=j)->Region.lexFrom .any ops l.length k listed=true->Q1r P ops Ft Q l k s σ->Qku P ops Ft Q l.length listed s σ
 | [],_,_,_,_,_,_,_,hB,h=>⟨by simpa [Region.lexFrom] using hB,h⟩
 | o::l,k,listed,s,σ,hcl,hl,hpre,hB,h=>by
  have h0:ops[k]?=some o:=by simpa using (hl 0).symm
  simp only [dG,Region.lexFrom,aE] at hB
  obtain ⟨⟨hr,hf⟩,hB'⟩:=hB
  refine Qs5 h0 l.length listed s σ hcl (fun j oj hj hne hun hno=>⟨Region.free_spec h0 hf j oj hj hne hun (fun e he hb hq=>hno (.one hj he hb hq)),hcomp k j oj ?_ hj hno⟩) (by simpa using hr) h.1
   (Qjj hcomp l (k+1) _ _ _ (hcl.add (by simpa using hr)) (fun j=>by have:=hl (j+1); simpa [cH,cI 1 j] using this) (fun j hj=>?_) hB' h.2)
  ·have:=hpre j hun; omega
  by_cases e:k=j
  ·subst e
   rcases bA k listed.size with h' | h'
   ·simp [h'] at hj
   simp [eD h'] at hj
  rw [getD_set_ne true e] at hj
  have:=hpre j hj; omega
end
section
variable {P:Program} {ops:Array Oper} {Ft:Nat -> Foot} {s s':Slots} {σ:Sto} {B:Nat} {W0 W:World} {D:List Nat} {M:CM} {ι:Inj} {a:Act} {Q:Exit->Act->World->Prop} {QA:Slots->Sto->Prop}
theorem Qle {dst:Option Tmp} {v:Option AV} {u:Value} (h:Ql M ι s a.tmps) (hd:∀d,dst=some d->d < a.tmps.size) (hv:∀x,v=some x->Qa M ι u x):Ql M ι (Kp s dst v) (a.put dst u).tmps:=by
 intro t y ht
 simp only [Kp] at ht
 cases dst with
 | none=>simp at ht; exact h t y ht
 | some d =>
  have hset:(a.put (some d) u).tmps.getD t undef=if d=t then u else a.tmps.getD t undef:=by
   simp only [Act.put,bC]
   by_cases e:d=t
   ·subst e; simp [hd d rfl]
   simp [e,Array.getElem?_setIfInBounds_ne e]
  rw [hset]
  by_cases e:d=t
  ·subst e; rw [aH rfl] at ht; rw [aH rfl]; exact hv y ht
  rw [aI (by simpa using e)] at ht; rw [aI e]; exact h t y ht
theorem Qlf {r:Option Nat} {n:Nat} {nt lo hi:Nat} (hdst:∀(i:Nat) (o:Oper) (d:Tmp),ops[i]?=some o->o.dst=some d->d < nt) (hbig:hi<=BIG) (htab:∀i,lo<=(Ft i).fr/\(Ft i).fr<=(Ft i).fr'/\(Ft i).fr'<=hi) (hdis:∀i j,i≠j->(Ft i).fr'<=(Ft j).fr\/(Ft j).fr'<=(Ft i).fr) :
  ∀(fuel:Nat) (listed:Array Bool) (s:Slots) (σ:Sto) (M:CM) (ι:Inj) (a:Act) (W:World),Qku P ops Ft QA fuel listed s σ ->
  Rel P B W0 D M ι σ W->Ql M ι s a.tmps->a.tmps.size=nt->(∀i,listed.getD i true=false->∀k,InR (Ft i).fr (Ft i).fr' k->ι k=none) ->
  (∀s' σ' M' ι' a' W',QA s' σ'->CM.Grow B M M'->ι.le ι'->(∀k,¬ InR lo hi k->ι' k=ι k)->Rel P B W0 D M' ι' σ' W'->Ql M' ι' s' a'.tmps->a'.tmps.size=nt->a'.defers=a.defers->Q .normal a' W') ->
  wpAnyIn (FW r) n P .any ops Q fuel listed a W:=by
 intro fuel
 induction fuel with
 | zero =>
  intro listed s σ M ι a W h hrel hs hnt hfree hQ
  exact ⟨h.1,hQ s σ M ι a W h.2 (.refl _ _) (Inj.le_refl _) (fun _ _=>rfl) hrel hs hnt rfl⟩
 | succ fuel ih =>
  intro listed s σ M ι a W h hrel hs hnt hfree hQ
  refine ⟨fun h0=>hQ s σ M ι a W (h.1 h0) (.refl _ _) (Inj.le_refl _) (fun _ _=>rfl) hrel hs hnt rfl,fun i hi'=>?_⟩
  have h1:=h.2 i hi'
  obtain ⟨hun,o,ho,_⟩:=mem_ready.1 hi'
  unfold opA at h1
  simp only [ho] at h1
  obtain ⟨hy,hK⟩:=h1
  unfold wpOpIn
  simp only [ho]
  have nextListed:∀j,(listed.setIfInBounds i true).getD j true=false->listed.getD j true=false/\j≠i:=fun j hj=>by
   by_cases e:i=j
   ·subst e
    rcases bA i listed.size with h' | h'
    ·simp [h'] at hj
    simp [eD h'] at hj
   rw [getD_set_ne true e] at hj; exact ⟨hj,Ne.symm e⟩
  rcases hy s σ (fun _ _=>rfl) (fun _ _=>rfl) with ⟨hw,hdo⟩ | ⟨hw,hv,heff⟩
  ·rw [aH (Qbh hs hw)]
   refine hdo B W0 D M ι a W n Q r _ hrel hs (hfree i hun) (fun v W' M' ι' g1 g2 g3 g4 g5=>?_)
   have hs':=Qle (dst:=o.dst) (u:=v) (hs.mono g1.le g2) (fun d hd=>by rw [hnt]; exact hdst i o d ho hd) g5
   refine ih _ _ _ M' ι' _ W' hK g4 hs' (by cases o.dst <;> simp [Act.put,hnt]) (fun j hj k hk1=>?_) (fun s2 σ2 M2 ι2 a2 W2 k1 k2 k3 k4 k5 k6 k7 k8=>?_)
   ·obtain ⟨hj1,hj2⟩:=nextListed j hj
    rw [g3 k (fun hc=>hc.disj hk1 (hdis i j (Ne.symm hj2)) (bV (htab i).2.2 hbig) (bV (htab j).2.2 hbig))]; exact hfree j hj1 k hk1
   refine hQ s2 σ2 M2 ι2 a2 W2 k1 (g1.trans k2) (Inj.le_trans g2 k3) (fun k hk=>?_) k5 k6 k7 (by rw [k8]; cases o.dst <;> rfl)
   rw [k4 k hk,g3 k (fun hc=>hk (hc.mono (htab i).1 (htab i).2.2))]
  rw [aI (by rw [Qbh hs hw]; simp)]
  refine ⟨fun _ _=>trivial,?_⟩
  have hs':=Qle (dst:=o.dst) (u:=undef) (v:=(Ft i).v) hs (fun d hd=>by rw [hnt]; exact hdst i o d ho hd) (fun x hx=>by rw [hv] at hx; cases hx; exact Qrg)
  rw [heff] at hK
  refine ih _ _ _ M ι _ W hK hrel hs' (by cases o.dst <;> simp [Act.put,hnt]) (fun j hj=>hfree j (nextListed j hj).1) (fun s2 σ2 M2 ι2 a2 W2 k1 k2 k3 k4 k5 k6 k7 k8=>?_)
  exact hQ s2 σ2 M2 ι2 a2 W2 k1 k2 k3 k4 k5 k6 k7 (by rw [k8]; cases o.dst <;> rfl)
end
end Go.Ab
namespace Go.Ab
open Go.RowKit
def Qb3 (l:List Nat) (k:Nat):Bool:=l.any fun x=>Nat.beq x k
def Qmp (F G:Foot):Bool :=
 F.eff.all (fun e=>!Qb3 G.rd e.1) && G.eff.all (fun e=>!Qb3 F.rd e.1) && F.eff.all fun e=>G.eff.all fun e'=>!Nat.beq e.1 e'.1
theorem Qep {l:List Nat} {k:Nat} (h:Qb3 l k=false):k ∉ l:=by
 intro hk
 simp only [Qb3,List.any_eq_false] at h
 exact absurd (dZ k) (by simpa using h k hk)
theorem Quk {F G:Foot} (h:Qmp F G=true):Qam F G:=by
 simp only [Qmp,aE,bO,bG] at h
 obtain ⟨⟨h1,h2⟩,h3⟩:=h
 exact ⟨fun e he=>Qep (h1 e he),fun e he=>Qep (h2 e he),fun e he e' he' hee=>by
  have:=h3 e he e' he'
  rw [hee,dZ] at this
  cases this⟩
theorem Qp6 {F G:Foot} (h1:F.eff=[]) (h2:F.rd=[]):Qam F G:=⟨fun e he=>by rw [h1] at he; simp at he,fun e _=>by rw [h2]; simp,fun e he=>by rw [h1] at he; simp at he⟩
def Qat:Nat -> List Foot->Nat -> Prop
 | lo,[],hi=>lo=hi
 | lo,F::fs,hi=>F.fr=lo/\F.fr<=F.fr'/\Qat F.fr' fs hi
theorem Qat.le:∀{fs:List Foot} {lo hi:Nat},Qat lo fs hi->lo<=hi
 | [],lo,hi,h=>Nat.le_of_eq h
 | F::fs,lo,hi,h=>by have:=Qat.le h.2.2; have:=h.1; have:=h.2.1; omega
theorem Qat.at : ∀{fs:List Foot} {lo hi:Nat},Qat lo fs hi->∀(i:Nat) (F:Foot),fs[i]?=some F->lo<=F.fr/\F.fr<=F.fr'/\F.fr'<=hi
 | [],_,_,_,i,F,h=>by simp at h
 | F0::fs,lo,hi,h,i,F,hF=>by
  have hle:=Qat.le h.2.2
  cases i with
  | zero=>simp at hF; subst hF; exact ⟨Nat.le_of_eq h.1.symm,h.2.1,hle⟩
  | succ i =>
   obtain ⟨h1,h2,h3⟩:=Qat.at h.2.2 i F (by simpa using hF)
   have:=h.1; have:=h.2.1
   exact ⟨by omega,h2,h3⟩
theorem Qat.lt:∀{fs:List Foot} {lo hi:Nat},Qat lo fs hi->∀(i j:Nat) (F G:Foot),i < j->fs[i]?=some F->fs[j]?=some G->F.fr'<=G.fr
 | [],_,_,_,i,j,F,G,_,h,_=>by simp at h
 | F0::fs,lo,hi,h,i,j,F,G,hij,hF,hG=>by
  cases j with
  | zero=>omega
  | succ j =>
   cases i with
   | zero=>simp at hF; subst hF; exact (Qat.at h.2.2 j G (by simpa using hG)).1
   | succ i=>exact Qat.lt h.2.2 i j F G (by omega) (by simpa using hF) (by simpa using hG)
section
variable {P:Program} {nf:Bool} {C:FuncId->List AV->Option Xk} {ops:Array Oper} {st st':St} {rd:Option Nat} {base:Nat}
theorem Q3x {s s':List (Nat × AV)} {nt:Nat} {dst:Option Tmp} {v:Option AV} (h:Vv s nt dst v=some s'):lk s'=Kp (lk s) dst v:=by
 funext t
 unfold Vv at h
 cases dst with
 | none=>cases h; simp [Kp]
 | some d =>
  simp only at h
  split at h
  ·cases v with
   | none=>cases h; rw [Qmz]; simp [Kp]
   | some x=>cases h; rw [Qf5]; simp [Kp]
  cases h
theorem Q4q {s s':List (Nat × AV)} {nt:Nat} {dst:Option Tmp} {v:Option AV} (h:Vv s nt dst v=some s'):∀d,dst=some d->d < nt:=by
 intro d hd
 subst hd
 unfold Vv at h
 simp only at h
 split at h
 ·rename_i hlt; simpa [Nat.blt,Nat.lt_iff_add_one_le] using hlt
 cases h
theorem Qex {o:Oper} {s s':Slots} (h:∀t∈o.looksAt ops,s' t=s t):Ym ops s' o=Ym ops s o:=by
 unfold Ym
 cases hg:o.guard with
 | none=>rfl
 | some gw =>
  obtain ⟨j,want⟩:=gw
  simp only
  cases hj:ops[j]? with
  | none=>rfl
  | some oj =>
   simp only
   cases hd:oj.dst with
   | none=>rfl
   | some d =>
    simp only
    rw [h d (by simp [Oper.looksAt,hg,hj,hd])]
theorem Qro {o:Oper} {s s':Slots} (h:∀t∈o.looksAt ops,s' t=s t):∀x∈o.op.operands,evo s' x=evo s x:=by
 intro x hx
 cases x with
 | tmp t=>exact h t (List.mem_append_left _ (List.mem_filterMap.2 ⟨.tmp t,by simpa using hx,rfl⟩))
 | _=>rfl
theorem ylL_ev (hC:Qj9 P C) {o:Oper} {s:Slots} {σ:Sto} {fr:Nat} {res:Res} (hw:Ym ops s o=some true) (he:Ze P nf C σ fr s o=some (.val res)):YlL P ops o ⟨res.v,res.eff,fr,res.fr,res.rd⟩ s σ:=by
 intro s' σ' hs hσ
 have he':=Qx5 he (Qro hs) hσ
 refine .inl ⟨by rw [Qex hs]; exact hw,?_⟩
 intro B W0 D M ι a W n Q r next hrel hsl hfree hpost
 refine Q2s (fr:=fr) hC hrel hsl he' (fun res' hr k hk1 hk2=>?_) ⟨fun res' hr v W' M' ι' g1 g2 g3 g4 g5=>?_,fun pv hpv=>by cases hpv⟩
 ·cases hr; exact hfree k (.inl ⟨hk1,hk2⟩)
 cases hr; exact hpost v W' M' ι' g1 g2 (fun k hk=>g3 k (bA k fr |>.imp_right fun h1=>Nat.le_of_not_lt fun h2=>hk (.inl ⟨h1,h2⟩))) g4 g5
def forced (ops:Array Oper):Nat -> Nat -> Array Bool->Bool
 | 0,_,listed=>(Region.ready .any ops listed).isEmpty
 | n+1,k,listed=>(match Region.ready .any ops listed with | [i]=>Nat.beq i k | _=>false) && forced ops n (k+1) (listed.setIfInBounds k true)
def Q1e (rd:Option Nat) (objs:List AObj):Bool :=
 match rd with
 | none=>true
 | some l=>match objs[l]? with
  | some (.loop _ _ _ _ _ s _)=>match s with
   | .exhausted=>false
   | _=>true
  | _=>false
end
end Go.Ab
namespace Go.Ab
open Go.RowKit
def WP (P:Program) (rd:Option Nat) (base:Nat) (c:Code) (st:St) (Φ:AOut->Prop):Prop:=∃out,Xi P rd base c st out/\Φ out
@[reducible] def Qsd (K:St->Prop) (Φ:AOut->Prop):AOut->Prop
 | .go .normal st=>K st
 | out=>Φ out
@[reducible] def Qte (id:Nat) (Φ:AOut->Prop) (out:AOut):Prop:=Φ (out.inBlock id)
section
variable {P:Program} {rd:Option Nat} {base:Nat} {c x y:Code} {st st':St} {Φ Ψ:AOut->Prop}
theorem WP.mono (h:WP P rd base c st Φ) (hm:∀out,Φ out->Ψ out):WP P rd base c st Ψ:=let ⟨o,h1,h2⟩:=h; ⟨o,h1,hm o h2⟩
theorem wp_skip (h:Φ (.go .normal st)):WP P rd base .skip st Φ:=⟨_,Qyq,h⟩
theorem Q2m {l:Nat} (h:Φ (.go .normal st)):WP P rd base (.label l) st Φ:=⟨_,Qya,h⟩
theorem Q3p {id:Nat} (h:Φ (.go (.exit id) st)):WP P rd base (.exit id) st Φ:=⟨_,Qy5,h⟩
theorem Q7j (h:Φ (.go .ret st)):WP P rd base .ret st Φ:=⟨_,Q02,h⟩
theorem Q6g (h:WP P rd base x st (Qsd (fun st1=>WP P rd base y st1 Φ) Φ)):WP P rd base (.seq x y) st Φ:=by
 obtain ⟨o,h1,h2⟩:=h
 cases o with
 | pan v=>exact ⟨_,Qcu h1 rfl,h2⟩
 | go e st1 =>
  cases e with
  | normal=>obtain ⟨o2,h3,h4⟩:=h2; exact ⟨o2,exec_seq h1 h3,h4⟩
  | exit id=>exact ⟨_,Qcu h1 rfl,h2⟩
  | ret=>exact ⟨_,Qcu h1 rfl,h2⟩
  | goto l=>exact ⟨_,Qcu h1 rfl,h2⟩
theorem Qwm {op:Operand} {b:Bool} (he:evo (lk st.slots) op=some (.bool b)) (h1:b=true->WP P rd base x st Φ) (h2:b=false->WP P rd base y st Φ):WP P rd base (.cond op x y) st Φ:=by
 cases b with
 | true=>obtain ⟨o,k1,k2⟩:=h1 rfl; exact ⟨o,exec_cond he (by simpa using k1),k2⟩
 | false=>obtain ⟨o,k1,k2⟩:=h2 rfl; exact ⟨o,exec_cond he (by simpa using k1),k2⟩
theorem Q13 {id:Nat} (h:WP P rd base c st (Qte id Φ)):WP P rd base (.block id c) st Φ:=let ⟨o,h1,h2⟩:=h; ⟨_,exec_block h1,h2⟩
theorem Q4r {l:Nat} (h:Φ (.go (.goto l) st)):WP P rd base (.goto l) st Φ:=⟨_,Q0o,h⟩
def SWP (P:Program) (rd:Option Nat) (base:Nat) (body x:Code) (st:St) (Φ:AOut->Prop):Prop:=∃out,Qlt P rd base body x st out/\Φ out
@[reducible] def Qi3 (P:Program) (rd:Option Nat) (base:Nat) (body:Code) (Φ:AOut->Prop):AOut->Prop
 | .go (.goto l) st=>match findLabel body l with
  | some rest=>SWP P rd base body rest st Φ
  | none=>Φ (.go (.goto l) st)
 | out=>Φ out
theorem Q0m {body:Code} (h:WP P rd base x st (Qi3 P rd base body Φ)):SWP P rd base body x st Φ:=by
 obtain ⟨o,h1,h2⟩:=h
 cases o with
 | pan v=>exact ⟨_,Qdn h1 rfl,h2⟩
 | go e st1 =>
  cases e with
  | goto l =>
   simp only [Qi3] at h2
   cases hf:findLabel body l with
   | some rest=>rw [hf] at h2; obtain ⟨o2,h3,h4⟩:=h2; exact ⟨o2,scopeX_goto h1 hf h3,h4⟩
   | none=>rw [hf] at h2; exact ⟨_,Qdn h1 hf,h2⟩
  | normal=>exact ⟨_,Qdn h1 rfl,h2⟩
  | exit id=>exact ⟨_,Qdn h1 rfl,h2⟩
  | ret=>exact ⟨_,Qdn h1 rfl,h2⟩
theorem Q2b (h:WP P rd base c st (Qi3 P rd base c Φ)):WP P rd base (.scope c) st Φ:=let ⟨o,h1,h2⟩:=Q0m h; ⟨o,exec_scope h1,h2⟩
def LWP (P:Program) (rd:Option Nat) (base:Nat) (c:Code) (st:St) (Φ:AOut->Prop):Prop:=∃out,Qja P rd base c st out/\Φ out
theorem Qg2 (h:WP P rd base c st (Qsd (fun st1=>LWP P rd base c st1 Φ) Φ)):LWP P rd base c st Φ:=by
 obtain ⟨o,h1,h2⟩:=h
 cases o with
 | pan v=>exact ⟨_,Qhr h1 rfl,h2⟩
 | go e st1 =>
  cases e with
  | normal=>obtain ⟨o2,h3,h4⟩:=h2; exact ⟨o2,loopX_next h1 h3,h4⟩
  | exit id=>exact ⟨_,Qhr h1 rfl,h2⟩
  | ret=>exact ⟨_,Qhr h1 rfl,h2⟩
  | goto l=>exact ⟨_,Qhr h1 rfl,h2⟩
theorem Qvt (h:LWP P rd base c st Φ):WP P rd base (.loop c) st Φ:=let ⟨o,h1,h2⟩:=h; ⟨o,exec_loop h1,h2⟩
theorem Q4g {f:FuncId} {fn:Func} {c:Code} {args:List AV} {R:Xk->Prop} (hf:P.funcs[f]?=some fn) (hb:fn.body=some c) (hn:(fn.name == "runtime.NumGoroutine")=false) (hle:args.length<=fn.ntmps)
  (h:WP P none 0 c (st0 fn.ntmps args) (fun out=>match out with
   | .go e st'=>e.ends=true/\∃x,resultA P fn st'=some x/\∃co,Qix st' x=some co/\R co
   | .pan v=>R (.pan v))):∃co,Q3 P f args co/\R co:=by
 obtain ⟨out,h1,h2⟩:=h
 cases out with
 | pan v=>exact ⟨_,Qow hf hb hle h1,h2⟩
 | go e st'=>obtain ⟨h3,x,h4,co,h5,h6⟩:=h2; exact ⟨co,callOk_exec hf hb hle h1 h3 h4 h5,h6⟩
end
end Go.Ab
namespace Go.Ab
open Go.RowKit
abbrev Sk:=List Nat × List Nat
def Foot.sk (F:Foot):Sk:=(F.eff.map (·.1),F.rd)
def Qk5 (c id:Nat):Prop:=id=c\/c < BIG/\∃i,id=fid c i
structure Cov (F:Foot) (s:Sk):Prop where
 eff:∀e∈F.eff,∃c∈s.1,Qk5 c e.1
 rd:∀e∈F.rd,∃c∈s.2,Qk5 c e
theorem Qk2 (F:Foot):Cov F F.sk:=⟨fun e he=>⟨e.1,List.mem_map_of_mem he,.inl rfl⟩,fun e he=>⟨e,he,.inl rfl⟩⟩
theorem Qzo {F:Foot} {s:Sk} (h:F.sk=s):Cov F s:=h ▸ Qk2 F
def Qn3:List Foot->List Sk->Prop
 | [],[]=>True
 | F::fs,s::ss=>Cov F s/\Qn3 fs ss
 | _,_=>False
theorem Qk5.eq {c c' id:Nat} (h:Qk5 c id) (h':Qk5 c' id) (hb:c < BIG) (hb':c' < BIG):c=c':=by
 rcases h with rfl | ⟨_,i,rfl⟩
 ·rcases h' with e | ⟨_,i,rfl⟩
  ·exact e
  have:=Zy c' i; omega
 rcases h' with e | ⟨_,j,e⟩
 ·have:=Zy c i; omega
 exact (Vl e).1
structure Qj7 (P:Program) (ops:Array Oper) (st:St) (o:Oper) (F:Foot) (st1:St):Prop where
 yl:YlL P ops o F (lk st.slots) (sto st.objs)
 fr:F.fr=st.objs.length
 fr':F.fr'=st1.objs.length
 eff:sto st1.objs=(sto st.objs).puts F.eff
 len:st.objs.length<=st1.objs.length
 big:st.objs.length<=BIG->st1.objs.length<=BIG
 stay:F.eff=[]->st1.objs=st.objs
 dst:Vv st.slots st.nt o.dst F.v=some st1.slots
 nt:st1.nt=st.nt
def Qpw (P:Program) (ops:Array Oper):List Oper->St->List Foot->St->Prop
 | [],st,fs,st'=>fs=[]/\st'=st
 | o::l,st,fs,st'=>∃F fs0 st1,fs=F::fs0/\Qj7 P ops st o F st1/\Qpw P ops l st1 fs0 st'
section
variable {P:Program} {rd:Option Nat} {base:Nat} {ops:Array Oper} {st st1 st':St} {o:Oper} {F:Foot} {out:AOut} {Φ:AOut->Prop}
theorem Qtu (yl:YlL P ops o F (lk st.slots) (sto st.objs)) (fr:F.fr=st.objs.length) (fr':F.fr'=st1.objs.length) (ha:Z5 st.objs F.eff=some st1.objs) (dst:Vv st.slots st.nt o.dst F.v=some st1.slots) (nt:st1.nt=st.nt):Qj7 P ops st o F st1:=by
 obtain ⟨h1,h2,h3⟩:=Vr _ _ _ ha
 exact ⟨yl,fr,fr',h1,h2,h3,fun e=>by rw [e] at ha; exact (dI ha).symm,dst,nt⟩
theorem Qjm {nf:Bool} {C:FuncId->List AV->Option Xk} (hC:Qj9 P C) {res:Res} {objs:List AObj} {slots:List (Nat × AV)} (hw:Ym ops (lk st.slots) o=some true)
  (he:Ze P nf C (sto st.objs) st.objs.length (lk st.slots) o=some (.val res)) (ha:Z5 st.objs res.eff=some objs) (hp:Vv st.slots st.nt o.dst res.v=some slots) (hl:objs.length=res.fr) :
  Qj7 P ops st o ⟨res.v,res.eff,st.objs.length,res.fr,res.rd⟩ ⟨slots,objs,st.nt⟩:=by
 obtain ⟨h1,h2,h3⟩:=Vr _ _ _ ha
 exact ⟨ylL_ev hC hw he,rfl,hl.symm,h1,h2,h3,fun e=>by have e:res.eff=[]:=e; rw [e] at ha; cases ha; rfl,hp,rfl⟩
theorem Qx8 {slots:List (Nat × AV)} (hw:Ym ops (lk st.slots) o=some false) (hp:Vv st.slots st.nt o.dst (some (.tup []))=some slots) :
  Qj7 P ops st o ⟨(some (.tup [])),[],st.objs.length,st.objs.length,[]⟩ ⟨slots,st.objs,st.nt⟩ :=
 ⟨fun s' σ' hs hσ=>.inr ⟨by rw [Qex hs]; exact hw,rfl,rfl⟩,rfl,rfl,rfl,aZ _,fun h=>h,fun _=>rfl,hp,rfl⟩
theorem Qla:∀(l:List Oper) (st:St) (fs:List Foot) (st':St),Qpw P ops l st fs st' ->
  fs.length=l.length/\Qat st.objs.length fs st'.objs.length/\st'.nt=st.nt/\(∀(i:Nat) (o:Oper) (d:Tmp),l[i]?=some o->o.dst=some d->d < st.nt)/\(st.objs.length<=BIG->st'.objs.length<=BIG) /\
  ∀(Ft:Nat -> Foot) (k:Nat),(∀j,j < l.length->fs[j]?=some (Ft (k+j)))->Q1r P ops Ft (fun s σ=>s=lk st'.slots/\σ=sto st'.objs) l k (lk st.slots) (sto st.objs)
 | [],st,fs,st',h=>by
  obtain ⟨rfl,rfl⟩:=h
  exact ⟨rfl,rfl,rfl,fun i o d h=>by simp at h,fun h=>h,fun Ft k _=>⟨rfl,rfl⟩⟩
 | o::l,st,fs,st',h=>by
  obtain ⟨F,fs0,st1,rfl,hF,hl⟩:=h
  obtain ⟨r1,r2,r3,r4,rb,r5⟩:=Qla l st1 fs0 st' hl
  have p1:=hF.eff
  have p2:=hF.len
  refine ⟨by simp [r1],⟨hF.fr,by rw [hF.fr,hF.fr']; exact p2,by rw [hF.fr']; exact r2⟩,by rw [r3,hF.nt],fun i o' d hi hd=>?_,fun h=>rb (hF.big h),fun Ft k hk=>?_⟩
  ·cases i with
   | zero=>simp at hi; subst hi; exact Q4q hF.dst d hd
   | succ i=>rw [<-hF.nt]; exact r4 i o' d (by simpa using hi) hd
  have hFk:Ft k=F:=by
   have:=hk 0 (by simp); simpa using this.symm
  refine ⟨by rw [hFk]; exact hF.yl,?_⟩
  rw [hFk]
  have:=r5 Ft (k+1) (fun j hj=>by have:=hk (j+1) (by simpa using hj); simpa [cH,cI 1 j] using this)
  rw [Q3x hF.dst,p1] at this
  exact this
def Qlm (F G:Sk):Bool :=
 F.1.all (fun e=>!Qb3 G.2 e) && G.1.all (fun e=>!Qb3 F.2 e) && F.1.all fun e=>G.1.all fun e'=>!Nat.beq e e'
def Qa8 (F:Sk):Nat -> List Nat -> List Oper->List Sk->Bool
 | j,B,o::l,G::fs=>if o.after.any (fun e=>Region.binds .any e && Qb3 B e.on) then Qa8 F (j+1) (j::B) l fs else Qlm F G && Qa8 F (j+1) B l fs
 | _,_,_,_=>true
def Qj3:Nat -> List Oper->List Sk->Bool
 | i,o::l,F::fs=>(F.1.isEmpty && F.2.isEmpty || Qa8 F (i+1) [i] l fs) && Qj3 (i+1) l fs
 | _,_,_=>true
def Qjl (s:Sk):Bool:=(s.1.all fun c=>Nat.blt c BIG) && s.2.all fun c=>Nat.blt c BIG
def Qcf (l:List Oper) (ss:List Sk):Bool:=ss.all Qjl && Qj3 0 l ss
theorem Qsk {F G:Foot} {s u:Sk} (hF:Cov F s) (hG:Cov G u) (ls:Qjl s=true) (lu:Qjl u=true) (h:Qlm s u=true):Qmp F G=true:=by
 simp only [Qjl,aE,bO] at ls lu
 simp only [Qlm,aE,bO,bG] at h
 obtain ⟨⟨h1,h2⟩,h3⟩:=h
 have no:∀{l:List Nat} {k:Nat},k ∉ l->Qb3 l k=false:=fun {l k} hk=>by
  simp only [Qb3,List.any_eq_false]
  intro x hx e
  exact hk (aJ e ▸ hx)
 simp only [Qmp,aE,bO,bG]
 refine ⟨⟨fun e he=>no fun hm=>?_,fun e he=>no fun hm=>?_⟩,fun e he e' he'=>?_⟩
 ·obtain ⟨c,hc,q⟩:=hF.eff e he
  obtain ⟨c',hc',q'⟩:=hG.rd _ hm
  have:=q.eq q' (Xr (ls.1 c hc)) (Xr (lu.2 c' hc'))
  subst this
  exact Qep (h1 c hc) hc'
 ·obtain ⟨c,hc,q⟩:=hG.eff e he
  obtain ⟨c',hc',q'⟩:=hF.rd _ hm
  have:=q.eq q' (Xr (lu.1 c hc)) (Xr (ls.2 c' hc'))
  subst this
  exact Qep (h2 c hc) hc'
 obtain ⟨c,hc,q⟩:=hF.eff e he
 obtain ⟨c',hc',q'⟩:=hG.eff e' he'
 rw [bI]
 intro ee
 have ee:=aJ ee
 rw [<-ee] at q'
 have:=q.eq q' (Xr (ls.1 c hc)) (Xr (lu.1 c' hc'))
 subst this
 have:=h3 c hc c hc'
 rw [dZ] at this
 cases this
theorem Q19 {l:List Nat} {k:Nat} (h:Qb3 l k=true):k∈l:=by
 simp only [Qb3,bP] at h
 obtain ⟨x,hx,e⟩:=h
 rw [<-aJ e]; exact hx
theorem Qb9 {i:Nat} {F:Foot} {s:Sk} (hF:Cov F s) (ls:Qjl s=true):∀(l:List Oper) (fs:List Foot) (ss:List Sk) (k:Nat) (B:List Nat),Qn3 fs ss->ss.all Qjl=true->Qa8 s k B l ss=true->(∀q,l[q]?=ops[k+q]?)->(∀b∈B,b=i\/Xf ops i b) ->
  ∀(j:Nat) (G:Foot) (oj:Oper),fs[j]?=some G->l[j]?=some oj->¬ Xf ops i (k+j)->Qam F G
 | [],fs,ss,_,_,_,_,_,_,_,j,G,oj,_,h,_=>by simp at h
 | o::l,[],ss,_,_,_,_,_,_,_,j,G,oj,h,_,_=>by simp at h
 | o::l,G0::fs,[],_,_,h,_,_,_,_,_,_,_,_,_,_=>h.elim
 | o::l,G0::fs,u::ss,k,B,h,hl,hc,hops,hB,j,G,oj,hG,hj,hn=>by
  simp only [List.all_cons,aE] at hl
  simp only [Qa8] at hc
  have hops':∀q,l[q]?=ops[k+1+q]?:=fun q=>by have:=hops (q+1); simpa [cH,cI 1 q] using this
  split at hc
  ·rename_i ha
   have hk:Xf ops i k:=by
    obtain ⟨e,he,hb⟩:=Array.any_eq_true'.1 ha
    simp only [aE] at hb
    have h0:ops[k]?=some o:=by simpa using (hops 0).symm
    rcases hB _ (Q19 hb.2) with q | q
    ·exact .one h0 he hb.1 q
    exact .more h0 he hb.1 q
   cases j with
   | zero=>exact absurd hk (by simpa using hn)
   | succ j=>exact Qb9 hF ls l fs ss (k+1) (k::B) h.2 hl.2 hc hops' (fun b hb=>(cC.1 hb).elim (fun q=>.inr (q ▸ hk)) (hB b)) j G oj (by simpa using hG) (by simpa using hj) (by rw [show k+1+j=k+(j+1) by omega]; exact hn)
  simp only [aE] at hc
  cases j with
  | zero=>simp at hG; subst hG; exact Quk (Qsk hF h.1 ls hl.1 hc.1)
  | succ j=>exact Qb9 hF ls l fs ss (k+1) B h.2 hl.2 hc.2 hops' hB j G oj (by simpa using hG) (by simpa using hj) (by rw [show k+1+j=k+(j+1) by omega]; exact hn)
theorem Qe5:∀(k:Nat) (l:List Oper) (fs:List Foot) (ss:List Sk),Qn3 fs ss->ss.all Qjl=true->Qj3 k l ss=true->(∀q,l[q]?=ops[k+q]?) ->
  ∀(i j:Nat) (F G:Foot) (oj:Oper),i < j->fs[i]?=some F->fs[j]?=some G->l[j]?=some oj->¬ Xf ops (k+i) (k+j)->Qam F G
 | _,[],fs,ss,_,_,_,_,i,j,F,G,oj,_,_,_,h,_=>by simp at h
 | _,o::l,[],ss,_,_,_,_,i,j,F,G,oj,_,h,_,_,_=>by simp at h
 | _,o::l,F0::fs,[],h,_,_,_,_,_,_,_,_,_,_,_,_,_=>h.elim
 | k,o::l,F0::fs,s::ss,h,hl,hc,hops,i,j,F,G,oj,hij,hF,hG,hj,hn=>by
  simp only [List.all_cons,aE] at hl
  simp only [Qj3,aE,aM,List.isEmpty_iff] at hc
  have hops':∀q,l[q]?=ops[k+1+q]?:=fun q=>by have:=hops (q+1); simpa [cH,cI 1 q] using this
  cases j with
  | zero=>omega
  | succ j =>
   cases i with
   | zero =>
    simp at hF; subst hF
    rcases hc.1 with x | x
    ·refine Qp6 ?_ ?_
     ·cases he:F0.eff with
      | nil=>rfl
      | cons e es=>obtain ⟨c,hcm,_⟩:=h.1.eff e (by rw [he]; simp); rw [x.1] at hcm; cases hcm
     cases he:F0.rd with
     | nil=>rfl
     | cons e es=>obtain ⟨c,hcm,_⟩:=h.1.rd e (by rw [he]; simp); rw [x.2] at hcm; cases hcm
    exact Qb9 h.1 hl.1 l fs ss (k+1) [k] h.2 hl.2 x hops' (fun b hb=>.inl (by simpa using hb)) j G oj (by simpa using hG) (by simpa using hj) (by rw [show k+1+j=k+(j+1) by omega]; simpa using hn)
   | succ i=>exact Qe5 (k+1) l fs ss h.2 hl.2 hc.2 hops' i j F G oj (by omega) (by simpa using hF) (by simpa using hG) (by simpa using hj) (by rw [show k+1+i=k+(i+1) by omega,show k+1+j=k+(j+1) by omega]; exact hn)
theorem Qlb {fs:List Foot} (hB:Region.lexB .any ops=true) {ss:List Sk} (hrun:Qpw P ops ops.toList st fs st') (hcov:Qn3 fs ss) (hcomp:Qcf ops.toList ss=true) (t:Nat) :
  Qb6 P rd base ops (Region.linearise .any ops t) st (.go .normal st'):=by
 intro B W0 D0 dl M ι a W n Q r hs hr hp
 simp only [Qcf,aE] at hcomp
 have hcomp:=Qe5 (ops:=ops) 0 ops.toList _ _ hcov hcomp.1 hcomp.2 (fun q=>by simp)
 obtain ⟨r1,r2,r3,r4,rb,r5⟩:=Qla _ _ _ _ hrun
 have hbig:=rb hs.big
 have hdef:∀i,i < ops.size->fs[i]?=some (fs.getD i ⟨none,[],st'.objs.length,st'.objs.length,[]⟩):=fun i hi=>by
  rw [List.getD_eq_getElem?_getD,aG (by simp [r1]; exact hi)]; rfl
 have hout:∀i,ops.size<=i->fs.getD i ⟨none,[],st'.objs.length,st'.objs.length,[]⟩=⟨none,[],st'.objs.length,st'.objs.length,[]⟩:=fun i hi=>by
  rw [List.getD_eq_getElem?_getD,dL (by simp [r1]; exact hi)]; rfl
 have hrunA:=r5 (fun i=>fs.getD i ⟨none,[],st'.objs.length,st'.objs.length,[]⟩) 0 (fun j hj=>by simpa using hdef j (by simpa using hj))
 simp only [Region.lexB,aE] at hB
 have hA:=Qjj (P:=P) (ops:=ops) (Ft:=fun i=>fs.getD i ⟨none,[],st'.objs.length,st'.objs.length,[]⟩) (Q:=fun s σ=>s=lk st'.slots/\σ=sto st'.objs) (fun i j oj hij hj hno=>?_) ops.toList 0 (Array.replicate ops.size false) (lk st.slots) (sto st.objs) (fun k ok hk hl=>by simp [Array.getD] at hl) (by simp) (fun _ _=>eC _) (by simpa using hB.2) hrunA
 ·refine wpAnyIn_sound ops.size t _ a _ ?_
  have hsz:ops.toList.length=ops.size:=by simp
  rw [hsz] at hA
  refine Qlf (B:=B) (W0:=W0) (D:=dl++D0) (nt:=st.nt) (lo:=st.objs.length) (hi:=st'.objs.length) (fun i o d hi hd=>r4 i o d (by simpa using hi) hd) hbig (fun i=>?_) (fun i j hij=>?_) ops.size _ _ _ M ι a _ hA hs.rel hs.slots hs.nt (fun i _ k hk=>?_) ?_
  ·rcases bA i ops.size with hi | hi
   ·exact r2.at i _ (hdef i hi)
   ·rw [hout i hi]; exact ⟨r2.le,aZ _,aZ _⟩
  ·rcases bA i ops.size with hi | hi
   ·rcases bA j ops.size with hj | hj
    ·rcases Nat.lt_or_gt_of_ne hij with e | e
     ·exact .inl (r2.lt i j _ _ e (hdef i hi) (hdef j hj))
     ·exact .inr (r2.lt j i _ _ e (hdef j hj) (hdef i hi))
    ·left; rw [hout j hj]; exact (r2.at i _ (hdef i hi)).2.2
   ·rcases bA j ops.size with hj | hj
    ·right; rw [hout i hi]; exact (r2.at j _ (hdef j hj)).2.2
    ·left; rw [hout i hi,hout j hj]; exact aZ _
  ·have hup:(fs.getD i ⟨none,[],st'.objs.length,st'.objs.length,[]⟩).fr'<=st'.objs.length:=by
    rcases bA i ops.size with hi | hi
    ·exact (r2.at i _ (hdef i hi)).2.2
    ·rw [hout i hi]; exact aZ _
   have hlo:st.objs.length<=(fs.getD i ⟨none,[],st'.objs.length,st'.objs.length,[]⟩).fr:=by
    rcases bA i ops.size with hi | hi
    ·exact (r2.at i _ (hdef i hi)).1
    ·rw [hout i hi]; exact r2.le
   exact hs.new k ((hk.mono hlo hup).notB hbig)
  ·intro s' σ' M' ι' a' W' hq g1 g2 g3 g4 g5 g6 g7
   obtain ⟨rfl,rfl⟩:=hq
   exact hp.go .normal st' rfl dl M' ι' a' W' g1 (g2.leB base) (List.suffix_refl _) ⟨g4,g5,by rw [g6,r3],⟨by rw [g7]; exact hs.df.defs,hs.df.old,hs.df.nd⟩,fun k hk=>by rw [g3 k (fun c=>hk c.inB)]; exact hs.new k (fun c=>hk (c.mono r2.le)),hbig⟩
 ·have hj':j < ops.size:=(aY.1 hj).1
  exact hcomp i j _ _ oj hij (hdef i (by omega)) (hdef j hj') (by simpa using hj) (by simpa using hno)
theorem Qw8 {id:Nat} {fs:List Foot} (hm:(P.follows .mixedOrders || !Region.departs ops)=true) (hB:Region.lexB .any ops=true) {ss:List Sk} (hrun:Qpw P ops ops.toList st fs st') (hcov:Qn3 fs ss) (hcomp:Qcf ops.toList ss=true) :
  Xi P rd base (.region id ops true) st (.go .normal st'):=by
 intro B W0 D0 dl M ι a W n Q r hs hr hp
 refine wpIn_region_draw (fun t=>?_)
 have hsch:Region.schedule (P.follows .mixedOrders) ops t=Region.linearise .any ops t:=by
  unfold Region.schedule; rw [aH hm]
 rw [hsch]
 exact Qlb hB hrun hcov hcomp t B W0 D0 dl M ι a _ n Q r ⟨hs.rel.drew,hs.slots,hs.nt,hs.df,hs.new,hs.big⟩ hr hp
theorem Qu5 (hw:Ym ops (lk st.slots) o=some true) (h:Qj7 P ops st o F st1):OpX P rd base o st (.go .normal st1):=by
 intro B W0 D0 dl M ι a W n Q r hs hr hp
 have hy:=h.yl (lk st.slots) (sto st.objs) (fun _ _=>rfl) (fun _ _=>rfl)
 rcases hy with ⟨_,hd⟩ | ⟨hw',_⟩
 ·have happ:=h.eff
  have hle:=h.len
  have hbig:=h.big hs.big
  refine hd B W0 (dl++D0) M ι a W n Q r (Q .normal) hs.rel hs.slots (fun k hk=>hs.new k (by rw [<-h.fr]; exact hk.notB (by rw [h.fr']; exact hbig))) (fun v W' M' ι' g1 g2 g3 g4 g5=>?_)
  obtain ⟨k1,k2,k3⟩:=Qbb (u:=v) (hs.slots.mono g1.le g2) hs.nt h.dst g5
  refine hp.go .normal _ rfl dl M' ι' _ W' g1 (g2.leB base) (List.suffix_refl _) ⟨?_,k1,by rw [k2,h.nt],hs.df.put,?_,hbig⟩
  ·rw [happ]; exact g4
  intro k hk
  rw [g3 k (fun c=>hk (by have:=c.inB; rwa [h.fr'] at this))]; exact hs.new k (fun c=>hk (c.mono hle))
 rw [hw] at hw'; cases hw'
theorem Qz0 {i:Nat} {l:List Nat} (ho:ops[i]?=some o) (h:Qj7 P ops st o F st1) (h2:Qb6 P rd base ops l st1 out):Qb6 P rd base ops (i::l) st out:=by
 have hy:=h.yl (lk st.slots) (sto st.objs) (fun _ _=>rfl) (fun _ _=>rfl)
 rcases hy with ⟨hw,_⟩ | ⟨hw,hv,he⟩
 ·exact Qhe ho hw (Qu5 hw h) h2
 obtain ⟨slots,objs,nt⟩:=st1
 have e1:=h.stay he; simp only at e1; subst e1
 have e2:=h.dst; rw [hv] at e2
 have e3:=h.nt; simp only at e3; subst e3
 exact Qzl ho hw e2 h2
def Qho (n i:Nat):List Nat := List.range' i (n - i)
def RW (P:Program) (rd:Option Nat) (base:Nat) (ops:Array Oper) (d:Option (List Sk)) (i:Nat) (st:St) (Φ:AOut->Prop):Prop :=
 match d with
 | none=>∃out,Qb6 P rd base ops (Qho ops.size i) st out/\Φ out
 | some acc=>∃fs ss st',Qpw P ops (ops.toList.drop i) st fs st'/\Qn3 fs ss/\Qcf ops.toList (acc++ss)=true/\Φ (.go .normal st')
def Q1 (d:Option (List Sk)) (s:List Sk):Option (List Sk) :=
 match d with
 | none=>none
 | some acc=>some (acc++s)
theorem Qfu {n i:Nat} (h:i < n):Qho n i=i::Qho n (i+1):=by
 unfold Qho
 rw [show n - i=(n - (i+1))+1 by omega,List.range'_succ]
theorem Qt7 (d:Option (List Sk)) (a b:List Sk):Q1 (Q1 d a) b=Q1 d (a++b):=by
 cases d <;> simp [Q1]
def Q3l (P:Program) (ops:Array Oper) (i:Nat) (st:St) (s:Sk) (st1:St):Prop:=∃o F,ops[i]?=some o/\Qj7 P ops st o F st1/\Cov F s
theorem Qck {d:Option (List Sk)} {i:Nat} {s:Sk} (h:Q3l P ops i st s st1) (k:RW P rd base ops (Q1 d [s]) (i+1) st1 Φ):RW P rd base ops d i st Φ:=by
 obtain ⟨o,F,ho,hF,hcv⟩:=h
 have hi:i < ops.size:=(aY.1 ho).1
 cases d with
 | none =>
  obtain ⟨out,h1,h2⟩:=k
  refine ⟨out,?_,h2⟩
  rw [Qfu hi]
  exact Qz0 ho hF h1
 | some acc =>
  obtain ⟨fs,ss,st',h1,hc,h2,h3⟩:=k
  refine ⟨F::fs,s::ss,st',?_,⟨hcv,hc⟩,by simpa using h2,h3⟩
  have:ops.toList.drop i=o::ops.toList.drop (i+1):=by
   rw [eG (by simpa using hi)]
   congr 1
   have:=(aY.1 ho).2
   simpa using this
  rw [this]
  exact ⟨F,fs,st1,rfl,hF,h1⟩
def noC:FuncId->List AV->Option Xk:=fun _ _=>none
theorem noC_sound:Qj9 P noC:=fun _ _ _ h=>by cases h
noncomputable def Qeh (P:Program) (nf:Bool) (ops:Array Oper):Nat -> Nat -> St->Option (List Sk × St)
 | 0,_,st=>some ([],st)
 | k+1,i,st=>match ops[i]? with
  | some o=>match Ym ops (lk st.slots) o with
   | some true=>match Ze P nf noC (sto st.objs) st.objs.length (lk st.slots) o with
    | some (.val ⟨v,eff,fr,rd⟩)=>match Z5 st.objs eff,Vv st.slots st.nt o.dst v with
     | some objs,some slots=>if Nat.beq objs.length fr then (match Qeh P nf ops k (i+1) ⟨slots,objs,st.nt⟩ with
       | some (s,st')=>some ((eff.map (·.1),rd)::s,st')
       | none=>none) else none
     | _,_=>none
    | _=>none
   | some false=>match Vv st.slots st.nt o.dst (some (.tup [])) with
    | some slots=>(match Qeh P nf ops k (i+1) ⟨slots,st.objs,st.nt⟩ with
      | some (s,st')=>some (([],[])::s,st')
      | none=>none)
    | none=>none
   | none=>none
  | none=>none
theorem Qtl {nf:Bool}:∀(k i:Nat) (st:St) (d:Option (List Sk)) (s:List Sk),Qeh P nf ops k i st=some (s,st1)->RW P rd base ops (Q1 d s) (i+k) st1 Φ->RW P rd base ops d i st Φ
 | 0,i,st,d,s,h,hk=>by
  simp only [Qeh,aK,aV] at h
  obtain ⟨rfl,rfl⟩:=h
  cases d <;> simpa [Q1] using hk
 | k+1,i,st,d,s,h,hk=>by
  simp only [Qeh] at h
  split at h
  rotate_left
  ·cases h
  rename_i o ho
  split at h
  ·rename_i hw
   split at h
   rotate_left
   ·cases h
   rename_i v eff fr rds he
   split at h
   ·rename_i objs slots ha hp
    split at h
    ·rename_i hl
     split at h
     ·rename_i s0 st2 hr
      cases h
      refine Qck ⟨o,_,ho,Qjm noC_sound hw he ha hp (aJ hl),Qk2 _⟩ (Qtl k (i+1) _ _ s0 hr ?_)
      rw [Qt7,show i+1+k=i+(k+1) by omega]
      exact hk
     cases h
    cases h
   cases h
  ·rename_i hw
   split at h
   ·rename_i slots hp
    split at h
    ·rename_i s0 st2 hr
     cases h
     refine Qck ⟨o,_,ho,Qx8 hw hp,Qk2 _⟩ (Qtl k (i+1) _ _ s0 hr ?_)
     rw [Qt7,show i+1+k=i+(k+1) by omega]
     exact hk
    cases h
   cases h
  cases h
noncomputable def Qxx (P:Program) (nf:Bool) (ops:Array Oper) (k i:Nat) (st:St):Option St:=(Qeh P nf ops k i st).map (·.2)
noncomputable def Qxc (P:Program) (nf:Bool) (ops:Array Oper) (k i:Nat) (st:St):List Sk:=((Qeh P nf ops k i st).map (·.1)).getD []
theorem sg (nf:Bool) (k j:Nat) {i:Nat} {d:Option (List Sk)} {S:St} (h:Qxx P nf ops k i st=some S) (hj:i+k=j) (hk:RW P rd base ops (Q1 d (Qxc P nf ops k i st)) j S Φ):RW P rd base ops d i st Φ:=by
 subst hj
 unfold Qxx at h
 unfold Qxc at hk
 cases hr:Qeh P nf ops k i st with
 | none=>rw [hr] at h; cases h
 | some x =>
  obtain ⟨s,st2⟩:=x
  rw [hr] at h hk
  simp only [bK,aK] at h
  subst h
  exact Qtl k i st d s hr hk
theorem Q7c {id:Nat} (h:RW P rd base ops none 0 st Φ):WP P rd base (.region id ops false) st Φ:=by
 obtain ⟨out,h1,h2⟩:=h
 refine ⟨out,Qu2 ?_,h2⟩
 have:List.range ops.size=Qho ops.size 0:=by simp [Qho,List.range_eq_range']
 rw [this]; exact h1
theorem Q4k {id:Nat} (hm:(P.follows .mixedOrders || !Region.departs ops)=true) (hB:Region.lexB .any ops=true) (h:RW P rd base ops (some []) 0 st Φ):WP P rd base (.region id ops true) st Φ:=by
 obtain ⟨fs,ss,st',h1,hc,h2,h3⟩:=h
 exact ⟨_,Qw8 hm hB (by simpa using h1) hc (by simpa using h2),h3⟩
theorem Q39 {i:Nat} (hi:i=ops.size) (h:Φ (.go .normal st)):RW P rd base ops none i st Φ:=by
 subst hi
 refine ⟨.go .normal st,?_,h⟩
 have:Qho ops.size ops.size=[]:=by simp [Qho]
 rw [this]; exact Q1c
theorem Q1u {i:Nat} {acc:List Sk} (hi:i=ops.size) (hc:Qcf ops.toList acc=true) (h:Φ (.go .normal st)):RW P rd base ops (some acc) i st Φ:=by
 subst hi
 exact ⟨[],[],st,by rw [List.drop_of_length_le (by simp)]; exact ⟨rfl,rfl⟩,trivial,by simpa using hc,h⟩
end
end Go.Ab
namespace Go.Ab
structure LexI where
 dst:Option Tmp
 look:List Tmp
 aft:List Nat
def natIn (k:Nat):List Nat -> Bool
 | []=>false
 | x::l=>Nat.beq k x || natIn k l
theorem Qlq {k:Nat}:∀{l:List Nat},natIn k l=true↔k∈l
 | []=>by simp [natIn]
 | x::l=>by
  simp only [natIn,aM,Qlq (l:=l),cC]
  exact or_congr ⟨aJ,fun h=>by subst h; exact dZ k⟩ Iff.rfl
def Qsi (d:Option Tmp) (l:List Nat):Bool:=match d with | some d=>natIn d l | none=>false
def Q3k (d e:Option Tmp):Bool:=match d,e with | some d,some e=>Nat.beq d e | _,_=>false
def Jk (ops:Array Oper) (o:Oper):LexI :=
 ⟨o.dst,o.looksAt ops,(o.after.toList.filter fun e=>Region.binds .any e).map (·.on)⟩
def Qmi (x y:LexI):Bool:=!Qsi x.dst y.look && !Q3k x.dst y.dst && !Qsi y.dst x.look
def Qjs:Nat -> List LexI->Bool
 | _,[]=>true
 | k,x::r=>(x.aft.all fun a=>Nat.blt a k) && (r.all fun y=>natIn k y.aft || Qmi x y) && Qjs (k+1) r
def Qp0 (ops:Array Oper):Bool:=Region.noSelect ops && Qjs 0 (ops.toList.map (Jk ops))
theorem Qr3 {ops:Array Oper} {x y:Oper} (h:Qmi (Jk ops x) (Jk ops y)=true):x.apart ops y=true:=by
 simp only [Qmi,Jk,aE,bG] at h
 obtain ⟨⟨h1,h2⟩,h3⟩:=h
 unfold Oper.apart
 have no:∀{k:Nat} {l:List Nat},natIn k l=false->l.contains k=false:=fun {k l} hk=>by
  rw [bI] at hk ⊢
  intro hc
  exact hk (Qlq.2 (by simpa using hc))
 have hx:∀d,x.dst=some d->(y.looksAt ops).contains d=false/\(y.dst != some d)=true:=fun d hd=>by
  rw [hd] at h1 h2
  refine ⟨no (by simpa [Qsi] using h1),?_⟩
  cases hy:y.dst with
  | none=>rfl
  | some e =>
   rw [hy] at h2
   simp only [Q3k] at h2
   rw [dB]
   intro he
   cases he
   rw [dZ] at h2; cases h2
 have hy:∀d,y.dst=some d->(x.looksAt ops).contains d=false:=fun d hd=>by
  rw [hd] at h3
  exact no (by simpa [Qsi] using h3)
 cases hxd:x.dst with
 | none =>
  cases hyd:y.dst with
  | none=>rfl
  | some e=>simp only [hy e hyd,Bool.not_false,Bool.and_true]
 | some d =>
  obtain ⟨a,b⟩:=hx d hxd
  cases hyd:y.dst with
  | none=>simp only [a]; rfl
  | some e=>rw [hyd] at b; simp only [a,b,hy e hyd,Bool.not_false,Bool.and_true]
theorem Qns {ops:Array Oper}:∀(l:List LexI) (k:Nat),Qjs k l=true->∀(i:Nat) (x:LexI),l[i]?=some x ->
  (∀a∈x.aft,a < k+i)/\∀(j:Nat) (y:LexI),i < j->l[j]?=some y->k+i∈y.aft\/Qmi x y=true
 | [],_,_,i,x,hx=>by simp at hx
 | z::r,k,h,0,x,hx=>by
  simp only [Qjs,aE,bO] at h
  cases hx
  refine ⟨fun a ha=>by simpa using h.1.1 a ha,fun j y hj hy=>?_⟩
  cases j with
  | zero=>omega
  | succ j =>
   have hm:y∈r:=aF (by simpa using hy)
   have:=h.1.2 y hm
   simp only [aM,Qlq] at this
   simpa using this
 | z::r,k,h,i+1,x,hx=>by
  simp only [Qjs,aE] at h
  obtain ⟨h1,h2⟩:=Qns (ops:=ops) r (k+1) h.2 i x (by simpa using hx)
  refine ⟨fun a ha=>by have:=h1 a ha; omega,fun j y hj hy=>?_⟩
  cases j with
  | zero=>omega
  | succ j =>
   have:=h2 j y (by omega) (by simpa using hy)
   rw [show k+1+i=k+(i+1) by omega] at this
   exact this
def X5 (n k:Nat):Array Bool:=((List.range n).map fun i=>decide (i < k)).toArray
theorem Qah {n k i:Nat} {b:Bool}:(X5 n k).getD i b=if i < n then decide (i < k) else b:=by
 unfold X5
 by_cases h:i < n
 ·simp [h]
 simp [h]
theorem Qr6 {n:Nat}:X5 n 0=Array.replicate n false:=by
 apply Array.ext
 ·simp [X5]
 intro i h1 h2
 simp [X5]
theorem Qr7 {n k:Nat}:(X5 n k).setIfInBounds k true=X5 n (k+1):=by
 apply Array.ext
 ·simp [X5]
 intro i h1 h2
 rw [Array.getElem_setIfInBounds (by simpa using h1)]
 simp only [X5,List.getElem_toArray,List.getElem_map,List.getElem_range]
 by_cases hik:k=i
 ·subst hik; simp
 simp only [hik,eJ]
 congr 1
 exact propext ⟨fun h=>by omega,fun h=>by omega⟩
theorem Qzs {ops:Array Oper} (h:Qjs 0 (ops.toList.map (Jk ops))=true):∀(fuel k:Nat),k+fuel=ops.size->Region.lexFrom .any ops fuel k (X5 ops.size k)=true:=by
 have at':∀(i:Nat) (o:Oper),ops[i]?=some o->(ops.toList.map (Jk ops))[i]?=some (Jk ops o):=fun i o ho=>by
  simp [bD,ho]
 intro fuel
 induction fuel with
 | zero =>
  intro k hk
  simp only [Region.lexFrom,Region.ready,List.isEmpty_iff,List.filter_eq_nil_iff,cO]
  intro i hi
  rw [Qah,aH hi]
  have:i < k:=by omega
  simp [this]
 | succ fuel ih =>
  intro k hk
  have hlt:k < ops.size:=by omega
  have ho:ops[k]?=some ops[k]:=aL hlt
  obtain ⟨h1,h2⟩:=Qns (ops:=ops) _ 0 h k _ (at' k _ ho)
  simp only [dR] at h1 h2
  simp only [Region.lexFrom,aE]
  refine ⟨⟨?_,?_⟩,?_⟩
  ·simp only [Region.ready,List.contains_iff_mem,cN,cO,aE]
   refine ⟨hlt,?_,?_⟩
   ·rw [Qah,aH hlt]; simp
   rw [ho]
   simp only [bK,cP,Array.all_eq_true_iff_forall_mem,aM,bG]
   intro e he
   cases hb:Region.binds .any e with
   | false=>exact .inl rfl
   | true =>
    refine .inr ?_
    have hlt2:e.on < k:=h1 e.on (by
     simp only [Jk,cD,cN]
     exact ⟨e,⟨Array.mem_toList_iff.2 he,hb⟩,rfl⟩)
    rw [Qah,aH (by omega)]
    simp [hlt2]
  ·simp only [Region.free,ho,bO,cO]
   intro j hj
   by_cases hjk:j < k
   ·rw [Qah,aH hj]; simp [hjk]
   by_cases hje:j=k
   ·simp [hje]
   have hoj:ops[j]?=some ops[j]:=aL hj
   rw [hoj]
   rcases h2 j _ (by omega) (at' j _ hoj) with h3 | h3
   ·simp only [Jk,cD,cN] at h3
    obtain ⟨e,⟨he,hb⟩,hon⟩:=h3
    have:(ops[j].after.any fun e=>Region.binds .any e && e.on==k)=true:=Array.any_eq_true'.2 ⟨e,Array.mem_toList_iff.1 he,by simp [hb,hon]⟩
    simp [this]
   simp [Qr3 h3]
  rw [Qr7]; exact ih (k+1) (by omega)
theorem Qwn {ops:Array Oper} (h:Qp0 ops=true):Region.lexB .any ops=true:=by
 simp only [Qp0,aE] at h
 simp only [Region.lexB,aE]
 refine ⟨h.1,?_⟩
 rw [<-Qr6]
 exact Qzs h.2 ops.size 0 (by omega)
end Go.Ab
