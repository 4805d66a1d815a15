/- Rules. No conditions. -/
import Derived.Test.YtgogkahhifkocaaDoorEng7
set_option linter.all false
namespace Go.Ab
open Go.RowKit
theorem Qyb:∀D:List Nat,∃D':List Nat,D'.Nodup/\∀r,r∈D'↔r∈D
 | []=>⟨[],List.nodup_nil,fun r=>Iff.rfl⟩
 | x::D=>by
  obtain ⟨D',h1,h2⟩:=Qyb D
  by_cases hx:x∈D'
  ·exact ⟨D',h1,fun r=>by rw [h2,cF]; exact ⟨.inr,fun h=>h.elim (fun e=>by subst e; exact (h2 _).1 hx) id⟩⟩
  exact ⟨x::D',List.nodup_cons.2 ⟨hx,h1⟩,fun r=>by rw [cF,cF,h2]⟩
theorem Qlp:∀{es:List (Nat × AObj)} {objs objs':List AObj},Z3 objs es=some objs'->(∀y∈es,y.1 < objs.length)->objs'.length=objs.length
 | [],objs,objs',h,_=>by cases h; rfl
 | (o,x)::es,objs,objs',h,hl=>by
  simp only [Z3] at h
  split at h
  ·split at h
   ·split at h
    ·cases h
    rw [Qlp h (fun y hy=>by rw [cC]; exact hl y (cN _ hy)),cC]
   rename_i hn
   have:=hl (o,x) (by simp)
   rw [aG this] at hn; cases hn
  cases h
section
variable {P:Program} {ops:Array Oper} {o:Oper}
theorem Q5s {g:Operand} {args:Array Operand} {ts:Array TypeId} {f:FuncId} {fn:Func} {c:Code} {first caps as:List AV} {e:Xj} {x:AV} {s:Slots} {σ:Sto} {N n:Nat} {A A':List AObj} {sl':List (Nat × AV)} {nt':Nat} {eff:List (Nat × AObj)}
  (hw:Yx ops s o=some true) (ho:o.op=.call { callee:=.value g,args,argTypes:=ts }) (hg:evo s g=some (.fn (.func f) first caps)) (has:K0 s args.toList=some as)
  (hf:P.funcs[f]?=some fn) (hb:fn.body=some c) (hn:(fn.name == "runtime.NumGoroutine")=false) (hle:(first++as++caps).length<=fn.ntmps)
  (hσ:∀k,k < N->σ k=A[k]?) (hN:A.length=N) (hN':A'.length=N) (hbig:N<=BIG) (hlive:∀y∈A,Qtp y=true) (hA:∀y∈A,Qct N y) (hA':∀y∈A',Qct N y)
  (hids:∀a∈first++as++caps,∀k∈a.ids,k < N)
  (h:Xi P none N c ⟨Ja 0 (first++as++caps),A,fn.ntmps⟩ (.go e ⟨sl',A',nt'⟩)) (hend:e.ends=true) (hr:resultA P fn ⟨sl',A',nt'⟩=some x) (hx:x.nr=true)
  (heff:∀k,k < N->Sto.puts (fun k=>A[k]?) eff k=A'[k]?) (heff2:∀y∈eff,y.1 < N) :
  YlL P ops o ⟨some x,eff,n,n,List.range N⟩ s σ:=by
 intro s' σ' hs' hσ'
 have hl:=Qsk (ops:=ops) hs'
 rw [ho] at hl
 have hg':evo s' g=some (.fn (.func f) first caps):=by rw [hl g (by simp [Op.operands,Call.operands])]; exact hg
 have has':K0 s' args.toList=some as:=by rw [evos_congr (fun y hy=>hl y (by simp [Op.operands,Call.operands]; exact .inr (by simpa using hy)))]; exact has
 refine .inl ⟨by rw [Qfo hs']; exact hw,?_⟩
 intro B W0 D M ι a W nn Q r next hrel hsl hfree hpost
 simp only at hfree hpost
 have hσN:∀k,k < N->σ' k=A[k]?:=fun k hk=>by rw [hσ' k (cS.2 hk)]; exact hσ k hk
 have hgv:=Qh hsl hg'
 generalize hgu:a.eval g=gu at hgv
 cases hgv with
 | fn _ first' caps' _ _ hy hm h1 h2 hr1 hr2 =>
 obtain ⟨l1,e1⟩:=Kf hsl has'
 refine ⟨fun _ _=>trivial,?_⟩
 rw [Oper.semAt_eq _ _ _ (by rw [ho]; simp)]
 have hrun:(execOp a.eval o).run P W=.ok (.enter f (first'++args.map a.eval++caps')) W:=by
  simp only [execOp,ho,resolve,hgu,Deferred.ofValue,Sem.run_bind,Sem.run_pure,Result.andThen_ok,invoke]
  exact Qao hf (by rw [hb]; rfl) hn _ W
 rw [hrun,Oper.uponIn_enter]
 have hrep:∀(j:Nat) (v:Value) (y:AV),(first'++args.map a.eval++caps')[j]?=some v->(first++as++caps)[j]?=some y->Qa M ι v y :=
  Qog h1 (by simpa using l1.symm) h2 hr1 (fun j v y hv hy=>by
   simp only [Array.getElem?_map,aS] at hv
   obtain ⟨w,hw,rfl⟩:=hv
   exact (e1 j w y (by simpa using hw) hy).2) hr2
 have hsz:(first'++args.map a.eval++caps').size=(first++as++caps).length:=by simp [h1,h2,l1]
 have hOk:∀k x,k < N->σ' k=some x->Qct N x:=fun k x hk hx=>by
  rw [hσN k hk] at hx; exact hA x (aF hx)
 have hhide:=hrel.hide (N:=N) hOk
 have hsA:sto A=fun k=>if k < N then σ' k else none:=funext fun k=>by
  rw [Qu3 (fun y hy=>Ql5 (hA y hy)) (by omega)]
  by_cases hk:k < N
  ·rw [aH hk,hσN k hk]
  rw [aI hk,dP (by omega)]
 rw [<-hsA] at hhide
 obtain ⟨D0,hnd,hmem⟩:=Qyb D
 have hhide0:=hhide.mem (D':=D0) (fun r hr=>(hmem r).1 hr)
 have hM1:M.le (Qls N ι σ' W M):=fun _ _ _ h=>h
 refine ⟨fun hd=>by simp [FW,Fence.wide] at hd,Qkj ?_⟩
 refine callsIn_wide.1 (callsIn_of_wp_marks (F:=FW none) (n:=0) hf hb trivial ?_)
 refine h B W0 D0 [] (Qls N ι σ' W M) (fun k=>if k < N then ι k else none) _ W 0 _ none ⟨hhide0,Qe4 fn.ntmps (fun j v y hv hy=>?_) hsz,by rw [Array.size_append,Array.size_replicate]; show _=fn.ntmps; omega,⟨rfl,fun r hr=>by simp at hr,by simpa using hnd⟩,fun k hk=>?_,by show A.length<=BIG; omega⟩ rfl ⟨?_,fun v hv=>by cases hv⟩
 ·have hi:=hids y (aF hy)
  exact ((hrep j v y hv hy).congr fun o ho=>aH (hi o ho)).mono hM1 (Inj.le_refl _)
 ·exact aI (fun hlt=>hk (.inl (by show k < A.length; omega)))
 intro e' st'' he dl' M' ι' a' W' g1 g2 g3 g4
 cases he
 have hex:e.exit'=.normal\/e.exit'=.ret:=by cases e <;> simp_all [Xj.ends,Xj.exit']
 have cut:∀R,LeavesInM (FW none) 0 P fn a'.tmps R a'.defers .returning W'->bodyPostM (FW none) 0 P fn R e.exit' a' W':=fun R hR=>by
  rcases hex with e1 | e1 <;> rw [e1] <;> exact hR
 apply cut
 rw [g4.df.defs]
 refine Qgr (by simp) dl' W' g4.rel g4.df.nd g4.df.old (fun W2 h2=>?_)
 obtain ⟨v,k1,k2⟩:=Qfn h2 g4.slots hr
 refine ⟨v,k1,?_⟩
 have hι:∀k,k < N->ι' k=ι k:=fun k hk=>by
  have hlv:∃p,ι k=some p:=by
   have hAk:A[k]?=some (A[k]'(by omega)):=aG (by omega)
   have hk':=hσN k hk
   rw [hAk] at hk'
   have hlv:=hlive _ (aF hAk)
   cases hy:A[k]'(by omega) with
   | row bx ro nr fl w xs=>rw [hy] at hk'; obtain ⟨p,hp,_⟩:=hrel.row k _ _ _ _ _ _ hk'; exact ⟨p,hp⟩
   | loop nt sl ps as bd st pe=>rw [hy] at hk'; obtain ⟨p,_,hp,_⟩:=hrel.loop k _ _ _ _ _ _ _ hk'; exact ⟨p,hp⟩
   | _=>rw [hy] at hlv; cases hlv
  obtain ⟨p,hp⟩:=hlv
  rw [hp]
  exact g2 k p (.inl hk) (by show (if k < N then ι k else none)=_; rw [aH hk]; exact hp)
 have h2':=h2.mem (D':=D) (fun r hr=>(hmem r).2 hr)
 have hsA':sto A'=fun k=>if k < N then (fun k=>A'[k]?) k else none:=funext fun k=>by
  rw [Qu3 (fun y hy=>Ql5 (hA' y hy)) (by omega)]
  by_cases hk:k < N
  ·rw [aH hk]
  rw [aI hk,dP (by omega)]
 rw [show (⟨sl',A',nt'⟩:St).objs=A' from rfl,hsA'] at h2'
 obtain ⟨M2,q1,q2,q3⟩:=hrel.unhide h2' g1 hι (fun k y hk hy=>hA' y (aF hy))
 refine hpost v W2 M2 ι q1 (Inj.le_refl _) (fun _ _=>rfl) ?_ (fun y hy=>?_)
 ·have:(fun k=>if k < N then (fun k=>A'[k]?) k else σ' k)=σ'.puts eff:=funext fun k=>by
   by_cases hk:k < N
   ·rw [aH hk]
    show A'[k]?=_
    rw [<-heff k hk]
    exact Qgf eff k (.inl (hσN k hk).symm)
   ·rw [aI hk]
    exact (Qes (fun y hy e=>hk (by rw [<-e]; exact heff2 y hy))).symm
  rw [<-this]; exact q3
 ·cases hy
  exact (k2.of_nr hx).mono q2 (Inj.noInj_le _)
end
section
variable {P:Program} {rd:Option Nat} {base:Nat} {ops:Array Oper} {d:Option (List Sk)} {st S:St} {Φ:AOut->Prop} {i:Nat}
noncomputable def Qm2 (P:Program) (fn:Func) (ops:Array Oper) (i:Nat) (st:St) (eff:List (Nat × AObj)) (st':St):Option St :=
 match resultA P fn st',ops[i]? with
 | some x,some o=>match Ko st.slots st.nt o.dst (some x),Z3 st.objs eff with
  | some slots,some objs=>if x.nr then some ⟨slots,objs,st.nt⟩ else none
  | _,_=>none
 | _,_=>none
theorem Q93 {σ ρ R:Type} {N:Nat} {c:Code} {I:σ->St} {E:ρ->St} {F:σ->Option ρ} {K:ρ->Option R} {r:R} {f:FuncId} {fn:Func} {as0:List AV} (s0:σ) (A H:List AObj) (eff:ρ->List (Nat × AObj)) (S:ρ->St)
  (hi:Zs ops i st=some (f,as0)) (hf:P.funcs[f]?=some fn) (hb:fn.body=some c) (hn:(fn.name == "runtime.NumGoroutine")=false) (hle:Nat.ble as0.length fn.ntmps=true)
  (hsp:st.objs=A++H) (h0:(⟨Ja 0 as0,A,fn.ntmps⟩:St)=I s0) (hN:A.length=N) (hbig:Nat.ble N BIG=true) (hlive:A.all Qtp=true) (hA:∀y∈A,Qct N y) (hE:∀x,(E x).objs.length=N) (hA':∀x,∀y∈(E x).objs,Qct N y)
  (hsl:(as0.all fun a=>a.ids.all fun o=>Nat.blt o N)=true)
  (heff:∀x,∀k,k < N->Sto.puts (fun k=>A[k]?) (eff x) k=(E x).objs[k]?) (hefl:∀x,∀y∈eff x,y.1 < N) (w:List Nat) (hw:∀x,(eff x).map (·.1)=w) (hlow:Nat.ble st.objs.length BIG=true)
  (IH:Qge P N c I E F) (h:(F s0).bind K=some r) (hS:∀x,Qm2 P fn ops i st (eff x) (E x)=some (S x))
  (k:∀x,K x=some r->RW P rd base ops (Q6 d [(w,List.range N)]) (i+1) (S x) Φ):RW P rd base ops d i st Φ:=by
 obtain ⟨o,g,args,ts,first,caps,as1,ho,hop,hg,has,rfl⟩:=Qfx hi
 obtain ⟨h1,h2⟩:=Qbl ho
 cases hx:F s0 with
 | none=>rw [hx] at h; cases h
 | some x =>
  rw [hx] at h
  obtain ⟨out,hex,hout⟩:=IH s0 x hx
  rw [<-h0] at hex
  have hsx:=hS x
  unfold Qm2 at hsx
  split at hsx
  rotate_left
  ·cases hsx
  rename_i y o' hr ho'
  rw [h1] at ho'; cases ho'
  split at hsx
  rotate_left
  ·cases hsx
  rename_i slots objs hp ha
  split at hsx
  rotate_left
  ·cases hsx
  rename_i hy
  have hsS:S x=⟨slots,objs,st.nt⟩:=(dM hsx).symm
  have hks:=k x h
  rw [hsS] at hks
  obtain ⟨p1,p2,p3⟩:=Jg _ _ _ ha
  have hNl:N<=st.objs.length:=by rw [hsp,aO]; omega
  have hbig':N<=BIG:=bP hbig
  have hAsimp:∀z∈A,Qqp z=true:=fun z hz=>Ql5 (hA z hz)
  have hσ:∀k,k < N->sto st.objs k=A[k]?:=fun k hk=>by
   have hkb:k < BIG:=by omega
   rw [Yz hkb,hsp,aX (by omega)]
   cases e:A[k]? with
   | none=>rfl
   | some z=>simp [Qqe (hAsimp z (aF e))]
  have hids:∀a∈first++as1++caps,∀k∈a.ids,k < N:=fun a ha k hk=>J9 (bQ.1 (bQ.1 hsl a ha) k hk)
  have hout':∃e,out=.go e (E x)/\e.ends=true:=by
   rcases hout with he | he
   ·exact ⟨_,he,rfl⟩
   exact ⟨_,he,rfl⟩
  obtain ⟨e,rfl,hend⟩:=hout'
  have hlen:objs.length=st.objs.length:=Qlp ha (fun y hy=>by have:=hefl x y hy; omega)
  refine Qev (s:=(w,List.range N)) ⟨o,⟨some y,eff x,st.objs.length,st.objs.length,List.range N⟩,h1,?_,Q0c (by simp [Foot.sk,hw x])⟩ hks
  refine Qvd (Q5s (e:=e) (sl':=(E x).slots) (nt':=(E x).nt) (A:=A) (A':=(E x).objs) h2 hop hg has hf hb hn (bP hle) hσ hN (hE x) hbig' (fun z hz=>bQ.1 hlive z hz) hA (hA' x) hids hex hend hr hy (heff x) (hefl x)) rfl ?_ ha hp rfl
  show st.objs.length=objs.length
  exact hlen.symm
end
end Go.Ab
namespace Go.Ab
open Go.RowKit
def Qir {α:Type} (kk:IntKind) (enc:α->AV) (p:Int × α):AV × AV:=(.int kk p.1,enc p.2)
def Q7t {α:Type} (kk:IntKind) (enc:α->AV) (l:List (Int × α)):AObj:=mapO (l.map (Qir kk enc))
def Qb7 {α:Type}:List (Int × α)->Int->Option α
 | [],_=>none
 | p::r,n=>if n==p.1 then some p.2 else Qb7 r n
def Qyd {α:Type}:List (Int × α)->Int->α->List (Int × α)
 | [],n,v=>[(n,v)]
 | p::r,n,v=>if n==p.1 then (n,v)::r else p::Qyd r n v
theorem Qoa:∀(es:List (AV × AV)) (i:Nat),Qef i (Xa i es)=some es
 | [],i=>rfl
 | (k,v)::r,i=>by
  simp only [Xa,Qef]
  rw [show Nat.beq i i=true from eH i,show Nat.beq (i+1) (i+1)=true from eH _]
  simp [Qoa r (i+2)]
theorem Qmm (es:List (AV × AV)):Qdv (mapO es)=some es:=by
 simp [Qdv,mapO,Qoa]
section
variable {P:Program} {α:Type} {enc:α->AV} {kk:IntKind} {kt:TypeId}
theorem Qki (hk:Js P kt=some .int) (n m:Int):X7 P kt (.int kk n) (.int kk m)=some (n==m):=by
 unfold X7; rw [hk]; simp [Qln]
theorem Qsr (hk:Js P kt=some .int) {n:Int}:∀(l:List (Int × α)) (i:Nat),Qb7 l n=none->Vp (X7 P kt) (.int kk n) (l.map (Qir kk enc)) i=some none
 | [],i,_=>rfl
 | p::r,i,h=>by
  unfold Qb7 at h
  split at h
  ·cases h
  rename_i hc
  simp only [dI,Qir,Vp,Qki hk]
  rw [show (n==p.1)=false by simpa using hc]
  exact Qsr hk r (i+1) h
theorem Qst (hk:Js P kt=some .int) {n:Int} {v:α}:∀(l:List (Int × α)) (i:Nat),Qb7 l n=some v->∃j,Vp (X7 P kt) (.int kk n) (l.map (Qir kk enc)) i=some (some (i+j,enc v))/\∀w,(l.map (Qir kk enc)).set j (Qir kk enc (n,w))=(Qyd l n w).map (Qir kk enc)
 | [],i,h=>by cases h
 | p::r,i,h=>by
  unfold Qb7 at h
  split at h
  ·rename_i hc
   cases h
   refine ⟨0,?_,fun w=>?_⟩
   ·simp only [dI,Qir,Vp,Qki hk,hc,eN]
   simp only [Qyd,hc,eP,dI,List.set_cons_zero]
  rename_i hc
  have hc':(n==p.1)=false:=by simpa using hc
  obtain ⟨j,h1,h2⟩:=Qst hk r (i+1) h
  refine ⟨j+1,?_,fun w=>?_⟩
  ·simp only [dI,Qir,Vp,Qki hk,hc']
   rw [show i+(j+1)=i+1+j by omega]
   exact h1
  simp only [Qyd,hc',dI,List.set_cons_succ,h2 w]
  simp
end
section
variable {P:Program} {rd:Option Nat} {base:Nat} {ops:Array Oper} {d:Option (List Sk)} {st S:St} {Φ:AOut->Prop} {i:Nat}
theorem Qhb {P:Program} {nf:Bool} {C:FuncId->List AV->Option Xf} {σ:Sto} {fr:Nat} {s:Slots} {o:Oper} {r:Res}:(Zj P nf C σ fr s o=some (.val r))=(evalOp P nf C σ fr s o=some (.val r)):=by
 apply propext
 unfold Zj
 split
 ·exact Iff.rfl
 cases evalOp P nf C σ fr s o with
 | none=>exact Iff.rfl
 | some y=>cases y <;> simp [Zl]
noncomputable def Qrc (P:Program) (ops:Array Oper) (i:Nat) (st:St):Option (Nat × AV × Bool × AV) :=
 match Z5 ops i st with
 | some o=>match o.op with
  | .lookup t x ix c=>match ti P t,evo (lk st.slots) x,evo (lk st.slots) ix with
   | some T,some (.mp ob),some k=>match T.kind with
    | .map kt et=>match Js P kt,(ti P et).bind (·.zero) with
     | some .int,some z=>some (ob,k,c,z)
     | _,_=>none
    | _=>none
   | _,_,_=>none
  | _=>none
 | none=>none
theorem Q9v {α:Type} {enc:α->AV} {kk:IntKind} {l:List (Int × α)} {n:Int} {z:α} {ob:Nat} {c:Bool} (hi:Qrc P ops i st=some (ob,.int kk n,c,enc z)) (hrow:st.sto ob=some (Q7t kk enc l)) (hok:∀v,(enc v).okv=true)
  (hS:Zr ops i st (some (if c then .tup [enc ((Qb7 l n).getD z),.bool (Qb7 l n).isSome] else enc ((Qb7 l n).getD z))) []=some S) (k:RW P rd base ops (Q6 d [([],[ob])]) (i+1) S Φ):RW P rd base ops d i st Φ:=by
 unfold Qrc at hi
 split at hi
 ·rename_i o ho
  split at hi
  ·rename_i t x ix c' hop
   split at hi
   ·rename_i T ob' k' hT hx hix
    split at hi
    ·rename_i kt et hkind
     split at hi
     ·rename_i z' hsk hz
      cases hi
      refine Y6 (nf:=false) (v:=some (if c then .tup [enc ((Qb7 l n).getD z),.bool (Qb7 l n).isSome] else enc ((Qb7 l n).getD z))) (eff:=[]) (fr:=st.objs.length) (rds:=[ob]) ho ?_ hS (Z7 hS) k
      rw [Qhb]
      simp only [evalOp,hop]
      unfold Qeq
      have hes:(st.sto ob).bind Qdv=some (l.map (Qir kk enc)):=by rw [hrow]; exact Qmm _
      simp only [hT,hx,hix,hkind,hes,Qki hsk,hz]
      cases hg:Qb7 l n with
      | none =>
       rw [Qsr hsk l 0 hg]
       simp only [hok,eP,Option.getD_none,Option.isSome_none]
      | some v =>
       obtain ⟨j,h1,_⟩:=Qst (enc:=enc) (kk:=kk) hsk l 0 hg
       rw [h1]
       simp only [hok,eP,cT,dL]
     ·cases hi
    ·cases hi
   ·cases hi
  ·cases hi
 ·cases hi
end
end Go.Ab
namespace Go.Ab
open Go.RowKit
section
variable {P:Program} {rd:Option Nat} {base:Nat} {ops:Array Oper} {d:Option (List Sk)} {st S1 S:St} {Φ:AOut->Prop} {i:Nat}
noncomputable def Qxf (P:Program) (ops:Array Oper) (i:Nat) (st:St):Option (List AV × Int × Nat) :=
 match Z5 ops i st with
 | some o=>match o.op with
  | .indexAddr t x ix=>match ti P t,evo (lk st.slots) x,evo (lk st.slots) ix with
   | some T,some (.fz cs),some (.int _ n)=>match T.kind with
    | .array len e=>match ti P e with
     | some E=>if Nat.beq E.size 1 then some (cs,n,len) else none
     | none=>none
    | _=>none
   | _,_,_=>none
  | _=>none
 | none=>none
noncomputable def Qxi (P:Program) (ops:Array Oper) (i:Nat) (st:St):Option (List AV) :=
 match Z5 ops i st with
 | some o=>match o.op with
  | .load t x=>match ti P t,evo (lk st.slots) x with
   | some T,some (.fz cs)=>if T.agg then none else some cs
   | _,_=>none
  | _=>none
 | none=>none
theorem Q9x {l:List Int} {n a:Int} {kk:IntKind} {len:Nat} {cells:List AV} (hi:Qxf P ops i st=some (cells,n,len)) (hc:cells=l.map (AV.int kk)) (hlen:l.length=len) (ha:lkI l n=some a)
  (h1:Zr ops i st (some (.fz ((l.map (AV.int kk)).drop n.toNat))) []=some S1) (hl:Qxi P ops (i+1) S1=some ((l.map (AV.int kk)).drop n.toNat)) (hS:Zr ops (i+1) S1 (some (.int kk a)) []=some S)
  (k:RW P rd base ops (Q6 (Q6 d [([],[])]) [([],[])]) (i+1+1) S Φ):RW P rd base ops d i st Φ:=by
 obtain ⟨g1,g2,g3⟩:=Jh ha
 subst hc
 have s1:∃o,Z5 ops i st=some o/\Zj P false noC st.sto st.objs.length (lk st.slots) o=some (.val ⟨some (.fz ((l.map (AV.int kk)).drop n.toNat)),[],st.objs.length,[]⟩):=by
  unfold Qxf at hi
  split at hi
  rotate_left
  ·cases hi
  rename_i o ho
  split at hi
  rotate_left
  ·cases hi
  rename_i t x ix hop
  split at hi
  rotate_left
  ·cases hi
  rename_i T cs' k' n' hT hx hix
  split at hi
  rotate_left
  ·cases hi
  rename_i len' e hk
  split at hi
  ·rename_i E hE
   split at hi
   ·rename_i hsz
    have hsz:=aJ hsz
    cases hi
    refine ⟨o,ho,?_⟩
    rw [Qhb]
    have hneg:¬ n < 0:=by omega
    simp only [evalOp,hop,hT,hx,hix,hk,hE,asN,hneg,eO]
    rw [aH (Qlv (by omega)),hsz,Nat.mul_one]
    rfl
   cases hi
  cases hi
 obtain ⟨o,ho,he⟩:=s1
 refine Y6 ho he h1 (Z7 h1) ?_
 have s2:∃o,Z5 ops (i+1) S1=some o/\Zj P false noC S1.sto S1.objs.length (lk S1.slots) o=some (.val ⟨some (.int kk a),[],S1.objs.length,[]⟩):=by
  unfold Qxi at hl
  split at hl
  rotate_left
  ·cases hl
  rename_i o ho
  split at hl
  rotate_left
  ·cases hl
  rename_i t x hop
  split at hl
  rotate_left
  ·cases hl
  rename_i T cs hT hx
  split at hl
  ·cases hl
  rename_i hag
  have hcs:=dM hl
  refine ⟨o,ho,?_⟩
  rw [Qhb]
  have hag':T.agg=false:=by simpa using hag
  have hd:(l.map (AV.int kk)).drop n.toNat = AV.int kk a::(l.map (AV.int kk)).drop (n.toNat + 1):=by
   rw [eM (by simpa using g2)]
   congr 1
   rw [List.getElem_map]
   congr 1
   have:=aD.1 g3
   exact this.2
  simp only [evalOp,hop,hT,hx,hcs,hd]
  simp [Qaf,hag',Zq]
 obtain ⟨o2,ho2,he2⟩:=s2
 exact Y6 ho2 he2 hS (Z7 hS) k
end
end Go.Ab
namespace Go.Ab
open Go.RowKit
def Qpx (o:Nat) (m:AObj):List Nat -> List AObj->List AObj
 | k::ks,y::ys=>(if Nat.beq k o then m else y)::Qpx o m ks ys
 | _,ys=>ys
theorem Qkk {f:Nat -> Option Nat} {objs:List AObj} {o:Nat} {e m:AObj} (hm:m.ren f=some m) (ho:o < objs.length):∀(ks:List Nat) (os:List AObj),Yy f (objs.set o e) ks=some os->Yy f (objs.set o m) ks=some (Qpx o m ks os)
 | [],os,h=>by simp [Yy] at h; subst h; rfl
 | k::ks,os,h=>by
  simp only [Yy] at h ⊢
  by_cases c:o=k
  ·subst c
   rw [cD ho] at h ⊢
   simp only at h ⊢
   cases hx:e.ren f with
   | none=>rw [hx] at h; cases h
   | some y =>
    rw [hx] at h
    cases hr:Yy f (objs.set o e) ks with
    | none=>rw [hr] at h; cases h
    | some os' =>
     rw [hr] at h
     have ih:=Qkk hm ho ks os' hr
     cases h
     rw [ih,hm]
     simp [Qpx]
  rw [cE c] at h ⊢
  cases hk:objs[k]? with
  | none=>rw [hk] at h; cases h
  | some x =>
   rw [hk] at h
   simp only at h ⊢
   cases hx:x.ren f with
   | none=>rw [hx] at h; cases h
   | some y =>
    rw [hx] at h
    cases hr:Yy f (objs.set o e) ks with
    | none=>rw [hr] at h; cases h
    | some os' =>
     rw [hr] at h
     have ih:=Qkk hm ho ks os' hr
     cases h
     rw [ih]
     have:Nat.beq k o=false:=by
      cases e2:Nat.beq k o with
      | false=>rfl
      | true=>exact absurd (aJ e2).symm c
     simp [Qpx,this]
def Q4z (base:Nat) (live keep:List Nat) (o:Nat) (m:AObj) (st:St):Option St :=
 match Qfm base live keep ⟨st.slots,st.objs.set o (mapO []),st.nt⟩ with
 | some s=>some ⟨s.slots,Qpx o m (List.range base++keep) s.objs,s.nt⟩
 | none=>none
end Go.Ab
namespace Go.Ab
open Go.RowKit
def J2 {κ α:Type} (ke:κ->AV) (enc:α->AV) (p:κ × α):AV × AV:=(ke p.1,enc p.2)
def Yb {κ α:Type} (ke:κ->AV) (enc:α->AV) (l:List (κ × α)):AObj:=mapO (l.map (J2 ke enc))
def Ve {κ α:Type} (e:κ->κ->Bool):List (κ × α)->κ->Option α
 | [],_=>none
 | p::r,n=>if e n p.1 then some p.2 else Ve e r n
def kput {κ α:Type} (e:κ->κ->Bool):List (κ × α)->κ->α->List (κ × α)
 | [],n,v=>[(n,v)]
 | p::r,n,v=>if e n p.1 then (n,v)::r else p::kput e r n v
section
variable {P:Program} {κ α:Type} {ke:κ->AV} {enc:α->AV} {e:κ->κ->Bool} {kt:TypeId}
theorem Qkq (hk:∀a b,X7 P kt (ke a) (ke b)=some (e a b)) {n:κ}:∀(l:List (κ × α)) (i:Nat),Ve e l n=none->Vp (X7 P kt) (ke n) (l.map (J2 ke enc)) i=some none
 | [],i,_=>rfl
 | p::r,i,h=>by
  unfold Ve at h
  split at h
  ·cases h
  rename_i hc
  simp only [dI,J2,Vp,hk]
  rw [show e n p.1=false by simpa using hc]
  exact Qkq hk r (i+1) h
theorem Qj0 (hk:∀a b,X7 P kt (ke a) (ke b)=some (e a b)) {n:κ} {v:α}:∀(l:List (κ × α)) (i:Nat),Ve e l n=some v->∃j,Vp (X7 P kt) (ke n) (l.map (J2 ke enc)) i=some (some (i+j,enc v))/\∀w,(l.map (J2 ke enc)).set j (J2 ke enc (n,w))=(kput e l n w).map (J2 ke enc)
 | [],i,h=>by cases h
 | p::r,i,h=>by
  unfold Ve at h
  split at h
  ·rename_i hc
   cases h
   refine ⟨0,?_,fun w=>?_⟩
   ·simp only [dI,J2,Vp,hk,hc,eN]
   simp only [kput,hc,eP,dI,List.set_cons_zero]
  rename_i hc
  have hc':e n p.1=false:=by simpa using hc
  obtain ⟨j,h1,h2⟩:=Qj0 hk r (i+1) h
  refine ⟨j+1,?_,fun w=>?_⟩
  ·simp only [dI,J2,Vp,hk,hc']
   rw [show i+(j+1)=i+1+j by omega]
   exact h1
  simp only [kput,hc',dI,List.set_cons_succ,h2 w]
  simp
theorem Qsi {n:κ} {w:α}:∀(l:List (κ × α)),Ve e l n=none->l.map (J2 ke enc)++[J2 ke enc (n,w)]=(kput e l n w).map (J2 ke enc)
 | [],_=>rfl
 | p::r,h=>by
  unfold Ve at h
  split at h
  ·cases h
  rename_i hc
  have hc':e n p.1=false:=by simpa using hc
  simp only [kput,hc',dI,dN,Qsi r h]
  simp
end
section
variable {P:Program} {rd:Option Nat} {base:Nat} {ops:Array Oper} {d:Option (List Sk)} {st S:St} {Φ:AOut->Prop} {i:Nat}
noncomputable def Qx0 (P:Program) (ops:Array Oper) (i:Nat) (st:St):Option (Nat × TypeId × AV × Bool × AV) :=
 match Z5 ops i st with
 | some o=>match o.op with
  | .lookup t x ix c=>match ti P t,evo (lk st.slots) x,evo (lk st.slots) ix with
   | some T,some (.mp ob),some k=>match T.kind with
    | .map kt et=>match (ti P et).bind (·.zero) with
     | some z=>some (ob,kt,k,c,z)
     | _=>none
    | _=>none
   | _,_,_=>none
  | _=>none
 | none=>none
noncomputable def Qx6 (P:Program) (ops:Array Oper) (i:Nat) (st:St):Option (Nat × TypeId × AV × AV) :=
 match Z5 ops i st with
 | some o=>match o.op with
  | .mapUpdate t m x y | .insert t m x y=>match ti P t,evo (lk st.slots) m,evo (lk st.slots) x,evo (lk st.slots) y with
   | some T,some (.mp ob),some k,some v=>match T.kind with
    | .map kt _=>some (ob,kt,k,v)
    | _=>none
   | _,_,_,_=>none
  | _=>none
 | none=>none
theorem Q9j {κ α:Type} {ke:κ->AV} {enc:α->AV} {e:κ->κ->Bool} {l:List (κ × α)} {n:κ} {z:α} {ob:Nat} {kt:TypeId} {c:Bool} (hi:Qx0 P ops i st=some (ob,kt,ke n,c,enc z)) (hk:∀a b,X7 P kt (ke a) (ke b)=some (e a b)) (hrow:st.sto ob=some (Yb ke enc l)) (hok:∀v,(enc v).okv=true)
  (hS:Zr ops i st (some (if c then .tup [enc ((Ve e l n).getD z),.bool (Ve e l n).isSome] else enc ((Ve e l n).getD z))) []=some S) (k:RW P rd base ops (Q6 d [([],[ob])]) (i+1) S Φ):RW P rd base ops d i st Φ:=by
 unfold Qx0 at hi
 split at hi
 ·rename_i o ho
  split at hi
  ·rename_i t x ix c' hop
   split at hi
   ·rename_i T ob' k' hT hx hix
    split at hi
    ·rename_i kt et hkind
     split at hi
     ·rename_i z' hz
      cases hi
      refine Y6 (nf:=false) (v:=some (if c then .tup [enc ((Ve e l n).getD z),.bool (Ve e l n).isSome] else enc ((Ve e l n).getD z))) (eff:=[]) (fr:=st.objs.length) (rds:=[ob]) ho ?_ hS (Z7 hS) k
      rw [Qhb]
      simp only [evalOp,hop]
      unfold Qeq
      have hes:(st.sto ob).bind Qdv=some (l.map (J2 ke enc)):=by rw [hrow]; exact Qmm _
      simp only [hT,hx,hix,hkind,hes,hk,hz]
      cases hg:Ve e l n with
      | none =>
       rw [Qkq hk l 0 hg]
       simp only [hok,eP,Option.getD_none,Option.isSome_none]
      | some v =>
       obtain ⟨j,h1,_⟩:=Qj0 (enc:=enc) hk l 0 hg
       rw [h1]
       simp only [hok,eP,cT,dL]
     ·cases hi
    ·cases hi
   ·cases hi
  ·cases hi
 ·cases hi
theorem Q99 {κ α:Type} {ke:κ->AV} {enc:α->AV} {e:κ->κ->Bool} {l:List (κ × α)} {n:κ} {v:α} {ob:Nat} {kt:TypeId} (hi:Qx6 P ops i st=some (ob,kt,ke n,enc v)) (hk:∀a b,X7 P kt (ke a) (ke b)=some (e a b)) (hrow:st.sto ob=some (Yb ke enc l))
  (hS:Zr ops i st none [(ob,Yb ke enc (kput e l n v))]=some S) (hl:Nat.beq S.objs.length st.objs.length=true) (k:RW P rd base ops (Q6 d [([ob],[ob])]) (i+1) S Φ):RW P rd base ops d i st Φ:=by
 have main:∃o,Z5 ops i st=some o/\Zj P false noC st.sto st.objs.length (lk st.slots) o=some (.val ⟨none,[(ob,Yb ke enc (kput e l n v))],st.objs.length,[ob]⟩):=by
  unfold Qx6 at hi
  split at hi
  rotate_left
  ·cases hi
  rename_i o ho
  have step:∀(t:TypeId) (m x y:Operand),(o.op=.mapUpdate t m x y\/o.op=.insert t m x y)->(match ti P t,evo (lk st.slots) m,evo (lk st.slots) x,evo (lk st.slots) y with
    | some T,some (.mp ob),some k,some v=>match T.kind with
     | .map kt _=>some (ob,kt,k,v)
     | _=>none
    | _,_,_,_=>none)=some (ob,kt,ke n,enc v)->Zj P false noC st.sto st.objs.length (lk st.slots) o=some (.val ⟨none,[(ob,Yb ke enc (kput e l n v))],st.objs.length,[ob]⟩):=fun t m x y hop hi=>by
   split at hi
   ·rename_i T ob' k' v' hT hm hx hy
    split at hi
    ·rename_i kt et hkind
     cases hi
     rw [Qhb]
     have hev:evalOp P false noC st.sto st.objs.length (lk st.slots) o=Qez P st.sto st.objs.length (lk st.slots) t m x y:=by
      rcases hop with hop | hop <;> simp only [evalOp,hop]
     rw [hev]
     unfold Qez
     have hes:(st.sto ob).bind Qdv=some (l.map (J2 ke enc)):=by rw [hrow]; exact Qmm _
     simp only [hT,hm,hx,hy,hkind,hes,hk]
     cases hg:Ve e l n with
     | none =>
      rw [Qkq hk l 0 hg]
      simp only
      rw [show (ke n,enc v)=J2 ke enc (n,v) from rfl,Qsi l hg]
      rfl
     | some u =>
      obtain ⟨j,h1,h2⟩:=Qj0 (enc:=enc) hk l 0 hg
      rw [h1]
      simp only [dV]
      rw [show (ke n,enc v)=J2 ke enc (n,v) from rfl,h2]
      rfl
    ·cases hi
   ·cases hi
  refine ⟨o,ho,?_⟩
  split at hi
  ·rename_i t m x y hop; exact step t m x y (.inl hop) hi
  ·rename_i t m x y hop; exact step t m x y (.inr hop) hi
  cases hi
 obtain ⟨o,ho,he⟩:=main
 exact Y6 ho he hS (aJ hl) k
end
section
variable {P:Program} {κ α:Type} {ke:κ->AV} {enc:α->AV} {e:κ->κ->Bool} {kt:TypeId}
end
section
variable {P:Program} {rd:Option Nat} {base:Nat} {ops:Array Oper} {d:Option (List Sk)} {st S:St} {Φ:AOut->Prop} {i:Nat}
end
theorem Qsl {κ α:Type} {ke:κ->AV} {enc:α->AV} {f:Nat -> Option Nat} (hk:∀v,(ke v).ren f=some (ke v)) (he:∀v,(enc v).ren f=some (enc v)):∀(l:List (κ × α)) (i:Nat),Qoq f (Xa i (l.map (J2 ke enc)))=some (Xa i (l.map (J2 ke enc)))
 | [],i=>rfl
 | x::l,i=>by
  simp only [dI,J2,Xa,Qoq,he]
  have h2:=Qsl hk he l (i+2)
  rw [hk]
  simp only [h2]
theorem Q3p {κ α:Type} {ke:κ->AV} {enc:α->AV} {f:Nat -> Option Nat} (hk:∀v,(ke v).ren f=some (ke v)) (he:∀v,(enc v).ren f=some (enc v)) (l:List (κ × α)):(Yb ke enc l).ren f=some (Yb ke enc l):=by
 show AObj.ren f (.loop _ _ _ _ _ _ _)=_
 simp only [AObj.ren,Qsl hk he l 0]
 rfl
theorem wk_gcK {P:Program} {base:Nat} {st st':St} {live keep:List Nat} (o:Nat) {κ α:Type} (ke:κ->AV) (enc:α->AV) (L:List (κ × α)) (hK:∀f a,(ke a).ren f=some (ke a)) (hE:∀f a,(enc a).ren f=some (enc a)) (ho:st.objs[o]?=some (Yb ke enc L))
  (h:Q4z base live keep o (Yb ke enc L) st=some st'):Wk P base st st':=by
 refine Kr (live:=live) (keep:=keep) ?_
 unfold Q4z at h
 have hself:st.objs.set o (Yb ke enc L)=st.objs:=by
  obtain ⟨h1,h2⟩:=aD.1 ho
  apply List.ext_getElem?
  intro i
  by_cases e:o=i
  ·subst e; rw [cD h1,ho]
  rw [cE e]
 cases hg:Qfm base live keep ⟨st.slots,st.objs.set o (mapO []),st.nt⟩ with
 | none=>rw [hg] at h; cases h
 | some s =>
  rw [hg] at h
  cases h
  unfold Qfm at hg ⊢
  simp only at hg ⊢
  split at hg
  ·rename_i hc
   rw [aH hc]
   split at hg
   ·rename_i os hos
    cases hg
    have:=Qkk (Q3p (ke:=ke) (fun a=>hK _ a) (fun a=>hE _ a) L) (aD.1 ho).1 _ _ hos
    rw [hself] at this
    rw [this]
   cases hg
  cases hg
theorem Q2b {N:Nat} {κ α:Type} {ke:κ->AV} {enc:α->AV} {l:List (κ × α)} (hk:∀v,(ke v).ids=[]) (he:∀v,(enc v).ids=[]):Qct N (Yb ke enc l):=by
 show ∀p∈Xa 0 (l.map (J2 ke enc)),∀o∈p.2.ids,o < N
 have:∀(l:List (κ × α)) (i:Nat),∀p∈Xa i (l.map (J2 ke enc)),p.2.ids=[]:=by
  intro l
  induction l with
  | nil=>intro i p hp; cases hp
  | cons x l ih =>
   intro i p hp
   simp only [dI,J2,Xa,cF] at hp
   rcases hp with rfl | rfl | hp
   ·exact hk _
   ·exact he _
   exact ih (i+2) p hp
 intro p hp o ho
 rw [this l 0 p hp] at ho
 cases ho
theorem Qax {N:Nat} {A:List AObj} (k:Nat) {κ α:Type} (ke:κ->AV) (enc:α->AV) (l:List (κ × α)) (hA:A[k]?=some (Yb ke enc l)) (hk:∀v,(ke v).ids=[]) (he:∀v,(enc v).ids=[]) (h:(A.set k .dead).all (Qtv N)=true):∀y∈A,Qct N y:=fun y hy=>by
 obtain ⟨j,hj⟩:=bT.1 hy
 by_cases e:k=j
 ·subst e
  rw [hA] at hj
  cases hj
  exact Q2b hk he
 exact Q5h (bQ.1 h y (aF (by rw [cE e]; exact hj)))
end Go.Ab
namespace Go.Ab
open Go.RowKit
theorem Quu:∀(es:List (Nat × AObj)) (A A':List AObj),Z3 A es=some A'->(∀y∈es,y.1 < A.length)->∀k,Sto.puts (fun k=>A[k]?) es k=A'[k]?
 | [],A,A',h,_,k=>by cases h; rfl
 | (o,x)::es,A,A',h,hl,k=>by
  simp only [Z3] at h
  split at h
  rotate_left
  ·cases h
  have ho:=hl (o,x) (by simp)
  rw [aG ho] at h
  simp only at h
  split at h
  ·cases h
  have ih:=Quu es _ A' h (fun y hy=>by rw [cC]; exact hl y (cN _ hy)) k
  rw [<-ih]
  show Sto.puts _ es k=_
  congr 1
  funext j
  by_cases e:j=o
  ·subst e; simp [Sto.put,cD ho]
  simp [Sto.put,e,cE (fun h=>e h.symm)]
section
variable {P:Program} {rd:Option Nat} {base:Nat} {ops:Array Oper} {d:Option (List Sk)} {st:St} {Φ:AOut->Prop} {i:Nat}
theorem Q90 {σ ρ R:Type} {N:Nat} {c:Code} {I:σ->St} {E:ρ->St} {F:σ->Option ρ} {K:ρ->Option R} {r:R} {f:FuncId} {fn:Func} {as0:List AV} (s0:σ) (eff:ρ->List (Nat × AObj)) (S:ρ->St) (w:List Nat)
  (hi:Zs ops i st=some (f,as0)) (hf:P.funcs[f]?=some fn) (hb:fn.body=some c) (hn:(fn.name == "runtime.NumGoroutine")=false) (hle:Nat.ble as0.length fn.ntmps=true)
  (h0:(⟨Ja 0 as0,st.objs.take N,fn.ntmps⟩:St)=I s0) (hN:Nat.ble N st.objs.length=true) (hbig:Nat.ble st.objs.length BIG=true) (hlive:(st.objs.take N).all Qtp=true) (hA:∀y∈st.objs.take N,Qct N y) (hE:∀x,Nat.beq (E x).objs.length N=true) (hA':∀x,∀y∈(E x).objs,Qct N y)
  (hsl:(as0.all fun a=>a.ids.all fun o=>Nat.blt o N)=true)
  (heff:∀x,Z3 (st.objs.take N) (eff x)=some (E x).objs) (hw:∀x,(eff x).map (·.1)=w) (hwl:(w.all fun o=>Nat.blt o N)=true)
  (IH:Qge P N c I E F) (h:(F s0).bind K=some r) (hS:∀x,Qm2 P fn ops i st (eff x) (E x)=some (S x))
  (k:∀x,K x=some r->RW P rd base ops (Q6 d [(w,List.range N)]) (i+1) (S x) Φ):RW P rd base ops d i st Φ:=by
 have hNl:N<=st.objs.length:=bP hN
 have hlA:(st.objs.take N).length=N:=by rw [cU]; omega
 have hel:∀x,∀y∈eff x,y.1 < N:=fun x y hy=>by
  have:y.1∈(eff x).map (·.1):=List.mem_map_of_mem hy
  rw [hw x] at this
  exact J9 (bQ.1 hwl _ this)
 refine Q93 s0 (st.objs.take N) (st.objs.drop N) eff S hi hf hb hn hle (List.take_append_drop N st.objs).symm h0 hlA ?_ hlive hA (fun x=>aJ (hE x)) hA' hsl (fun x k _=>Quu _ _ _ (heff x) (fun y hy=>by rw [hlA]; exact hel x y hy) k) hel w hw hbig IH h hS k
 have:=bP hbig
 exact Nat.ble_eq_true_of_le (by omega)
end
end Go.Ab
namespace Go.Ab
open Go.RowKit
@[reducible] def nlE {α:Type} (fl:Bool) (enc:α->AV):List α->AV
 | []=>.nils
 | a::l=>.lst fl ((a::l).map enc)
section
variable {P:Program} {rd:Option Nat} {base:Nat} {ops:Array Oper} {d:Option (List Sk)} {Φ:AOut->Prop} {i:Nat}
variable {st:St} {ops:Array Oper}
theorem Q8t {α R:Type} {G:Option (List α)} {A:Option R} {B:α->List α->Option R} {f:FuncId} {as0 us:List AV} {ids:List Nat} {fl:Bool} {enc:α->AV} {S0:St} {S1:α->List α->St} {r:R} (hi:Zs ops i st=some (f,as0)) (hb:Qh4 P f=true)
  (hsn:Qt (Qq st.sto Qn) as0=some (us,ids)) (hc:∀x,G=some x->Q0 P f us (.ret (nlE fl enc x) [])) (h0:Qdt ops i st ids .nils []=some S0) (h1:∀a t,Qdt ops i st ids (.lst fl ((a::t).map enc)) []=some (S1 a t))
  (h:(G.bind fun x=>Q46 x A B)=some r) (k0:A=some r->RW P rd base ops (Q6 d [Qjx st ids .nils []]) (i+1) S0 Φ)
  (k1:∀a t,B a t=some r->RW P rd base ops (Q6 d [Qjx st ids (.lst fl ((a::t).map enc)) []]) (i+1) (S1 a t) Φ):RW P rd base ops d i st Φ:=by
 cases hg:G with
 | none=>rw [hg] at h; cases h
 | some x =>
  rw [hg] at h
  cases x with
  | nil=>exact Qrd hi hb hsn (hc [] hg) h0 (k0 h)
  | cons a t=>exact Qrd hi hb hsn (hc (a::t) hg) (h1 a t) (k1 a t h)
end
end Go.Ab
namespace Go.Ab
open Go.RowKit
theorem Xc.trans {ops:Array Oper} {i m k:Nat} (h:Xc ops i m) (h2:Xc ops m k):Xc ops i k:=by
 induction h2 with
 | one hj he hb hon=>exact .more hj he hb (hon ▸ h)
 | more hj he hb _ ih=>exact .more hj he hb ih
def Qpz (ops:Array Oper) (b i:Nat):Bool:=match ops[b]? with
 | some o=>o.after.any fun e=>Region.binds .any e && Nat.beq e.on i
 | none=>false
theorem Qe0 {ops:Array Oper} {b i:Nat} (h:Qpz ops b i=true):Xc ops i b:=by
 unfold Qpz at h
 split at h
 ·rename_i o ho
  obtain ⟨e,he,hb⟩:=Array.any_eq_true'.1 h
  simp only [aE] at hb
  exact .one ho he hb.1 (aJ hb.2)
 cases h
def Qtq (ops:Array Oper):Nat -> List Nat -> Bool
 | 0,_=>true
 | i+1,B=>B.any (fun b=>Qpz ops b i) && Qtq ops i (i::B)
def upB (ops:Array Oper):Nat -> Nat -> List Nat -> Bool
 | 0,_,_=>true
 | m+1,k,B=>B.any (fun b=>Qpz ops k b) && upB ops m (k+1) (k::B)
theorem Qo8 {ops:Array Oper} {j:Nat}:∀(i:Nat) (B:List Nat),(∀b∈B,b=j\/Xc ops b j)->Qtq ops i B=true->∀k,k < i->Xc ops k j
 | 0,_,_,_,k,h=>by omega
 | i+1,B,hB,h,k,hk=>by
  simp only [Qtq,aE,bR] at h
  obtain ⟨⟨b,hb,he⟩,h2⟩:=h
  have hi:Xc ops i j:=by
   rcases hB b hb with rfl | h3
   ·exact Qe0 he
   exact (Qe0 he).trans h3
  by_cases e:k=i
  ·subst e; exact hi
  exact Qo8 i (i::B) (fun b hb=>(cF.1 hb).elim (fun e=>.inr (e ▸ hi)) (hB b)) h2 k (by omega)
theorem Que {ops:Array Oper} {j:Nat}:∀(m k:Nat) (B:List Nat),(∀b∈B,b=j\/Xc ops j b)->upB ops m k B=true->∀q,k<=q->q < k+m->Xc ops j q
 | 0,_,_,_,_,q,h,h'=>by omega
 | m+1,k,B,hB,h,q,hq,hq'=>by
  simp only [upB,aE,bR] at h
  obtain ⟨⟨b,hb,he⟩,h2⟩:=h
  have hk:Xc ops j k:=by
   rcases hB b hb with rfl | h3
   ·exact Qe0 he
   exact h3.trans (Qe0 he)
  by_cases e:q=k
  ·subst e; exact hk
  exact Que m (k+1) (k::B) (fun b hb=>(cF.1 hb).elim (fun e=>.inr (e ▸ hk)) (hB b)) h2 q (by omega) (by omega)
def Qxd (j:Nat) (l:List Oper):Bool:=l.all fun o=>match o.guard with | some (g,_)=>Nat.blt g j | none=>true
def cutB (ops:Array Oper) (j:Nat):Bool:=Nat.blt j ops.size && Qrp (ops.extract 0 j) && Qxd j (ops.extract 0 j).toList && Qtq ops j [j] && upB ops (ops.size - (j+1)) (j+1) [j] && forced ops (ops.size - j) j (Yc ops.size j)
section
variable {F:Fence} {n:Nat} {P:Program} {ops:Array Oper} {Q Q':Exit->Act->World->Prop}
theorem Qy7 {o:Oper} {a:Act} {w:World} {K K':Act->World->Prop} (h:∀a w,K a w->K' a w) (hq:∀e a w,e≠.normal->Q e a w->Q' e a w) (hh:o.wpIn F n P a w K Q):o.wpIn F n P a w K' Q':=by
 have lo:LetsOut Q->LetsOut Q':=fun ⟨a,w,h⟩=>⟨a,w,hq _ _ _ (by simp) h⟩
 unfold Oper.wpIn at *
 refine ⟨hh.1,?_⟩
 have hh:=hh.2
 generalize (o.semAt F.round a.eval).run P w=r at *
 cases r with
 | ok x w' =>
  cases x <;> simp only [Oper.uponIn] at hh ⊢ <;>
   first
    | exact h _ _ hh
    | exact ⟨hh.1,CallsIn.mono hh.2 (fun e w'' he=>by cases e <;> first | exact h _ _ he | exact hq _ _ _ (by simp) he | exact lo he)⟩
    | exact ⟨hh.1,RowsIn.mono hh.2 (fun _ _ he=>h _ _ he)⟩
    | exact ⟨hh.1,RoundIn.mono hh.2 (fun e w'' he=>by cases e <;> first | exact h _ _ he | exact hq _ _ _ (by simp) he | exact lo he)⟩
 | halt x w'=>cases x <;> simp only [Oper.uponIn] at hh ⊢ <;> first | exact hq _ _ _ (by simp) hh | exact hh
theorem Qud:∀(fuel:Nat) (L:Array Bool) (a:Act) (w:World),wpAnyIn F n P .any ops Q fuel L a w->wpAnyIn F n P .any ops Q (fuel+1) L a w
 | 0,L,a,w,h=>⟨fun _=>h.2,fun i hi=>by rw [h.1] at hi; cases hi⟩
 | fuel+1,L,a,w,h=>⟨h.1,fun i hi=>wpOpIn_mono (fun a w g=>Qud fuel _ a w g) (h.2 i hi)⟩
theorem Qr8 (m:Nat):∀(k:Nat) {L:Array Bool} {a:Act} {w:World},wpAnyIn F n P .any ops Q m L a w->wpAnyIn F n P .any ops Q (k+m) L a w
 | 0,L,a,w,h=>by rw [dV]; exact h
 | k+1,L,a,w,h=>by rw [show k+1+m=(k+m)+1 by omega]; exact Qud _ _ _ _ (Qr8 m k h)
theorem Qqu:∀(m k:Nat) (L:Array Bool) (a:Act) (w:World),forced ops m k L=true->wpOpsIn F n P ops Q (List.range' k m) a w->wpAnyIn F n P .any ops Q m L a w
 | 0,k,L,a,w,hf,h=>⟨by simpa [forced] using hf,by simpa [wpOpsIn] using h⟩
 | m+1,k,L,a,w,hf,h=>by
  simp only [forced,aE] at hf
  obtain ⟨h1,h2⟩:=hf
  have hr:Region.ready .any ops L=[k]:=by
   split at h1
   ·rename_i i hi; rw [hi,aJ h1]
   cases h1
  refine ⟨fun e=>(by rw [hr] at e; cases e),fun i hi=>?_⟩
  rw [hr] at hi
  simp only [bW] at hi
  subst hi
  rw [List.range'_succ,wpOpsIn_cons] at h
  exact wpOpIn_mono (fun a w g=>Qqu m (i+1) _ a w h2 g) h
def Qb9 (n:Nat) (L:Array Bool):Array Bool:=L++Array.replicate (n - L.size) false
theorem Qgt {N:Nat} {L:Array Bool} (hN:L.size<=N) {i:Nat} {b:Bool}:(Qb9 N L).getD i b=if i < L.size then L.getD i b else if i < N then false else b:=by
 unfold Qb9
 simp only [bE]
 by_cases h:i < L.size
 ·rw [aH h,eC h]
 rw [aI h,Array.getElem?_append_right (by omega)]
 by_cases h2:i < N
 ·rw [aH h2,Array.getElem?_replicate,aH (by omega)]; rfl
 rw [aI h2,Array.getElem?_replicate,aI (by omega)]; rfl
theorem Qxe {N i:Nat} {L:Array Bool} (hi:i < L.size):(Qb9 N L).setIfInBounds i true=Qb9 N (L.setIfInBounds i true):=by
 unfold Qb9
 rw [Array.setIfInBounds_append_left (by omega),Array.size_setIfInBounds]
theorem Qgh {j i:Nat} (hj:j<=ops.size) (hi:i < j):(ops.extract 0 j)[i]?=ops[i]?:=by
 rw [Array.getElem?_extract]
 simp; omega
theorem Q5z {j m:Nat} (hj:j < ops.size) (hlex:Qk0 0 ((ops.extract 0 j).toList.map (J4 (ops.extract 0 j)))=true) (hg:Qxd j (ops.extract 0 j).toList=true)
  (hB:∀i k,i < j->j<=k->k < ops.size->Xc ops i k) (hn:∀a w,Q' .normal a w->wpAnyIn F n P .any ops Q m (Yc ops.size j) a w) (hq:∀e a w,e≠.normal->Q' e a w->Q e a w) :
  ∀(fuel:Nat) (L:Array Bool) (a:Act) (w:World),L.size=j->Qck ops (Qb9 ops.size L)->wpAnyIn F n P .any (ops.extract 0 j) Q' fuel L a w->wpAnyIn F n P .any ops Q (fuel+m) (Qb9 ops.size L) a w:=by
 have hsz:(ops.extract 0 j).size=j:=by simp; omega
 have hedge:∀i o,i < j->ops[i]?=some o->∀e∈o.after,Region.binds .any e=true->e.on < i:=fun i o hi ho e he hb=>by
  have h1:=(Qoe (ops:=ops.extract 0 j) _ 0 hlex i (J4 (ops.extract 0 j) o) (by
   rw [bF,dB,Qgh (by omega) hi,ho]; rfl)).1 e.on (by
   simp only [J4,cG,cR]
   exact ⟨e,⟨Array.mem_toList_iff.2 he,hb⟩,rfl⟩)
  omega
 have hall:∀L:Array Bool,L.size=j->Region.ready .any (ops.extract 0 j) L=[]->∀i,i < j->L.getD i true=true:=fun L hL hr=>by
  intro i
  induction i using Nat.strongRecOn with
  | _ i ih =>
   intro hi
   apply Classical.byContradiction
   intro hno
   have hi':i < ops.size:=by omega
   have:i∈Region.ready .any (ops.extract 0 j) L:=by
    rw [mem_ready]
    refine ⟨by simpa using hno,ops[i],by rw [Qgh (by omega) hi]; exact aL hi',fun e he hb=>?_⟩
    have hlt:=hedge i ops[i] hi (aL hi') e he hb
    have:=ih e.on hlt (by omega)
    simp only [bE] at this ⊢
    rw [aL (by omega)] at this ⊢
    simpa using this
   rw [hr] at this; cases this
 have hpad:∀L:Array Bool,L.size=j->(∀i,i < j->L.getD i true=true)->Qb9 ops.size L=Yc ops.size j:=fun L hL h=>by
  apply Array.ext_getElem?
  intro i
  have h1:∀b,(Qb9 ops.size L).getD i b=(Yc ops.size j).getD i b:=fun b=>by
   rw [Qgt (by omega),Qbk,hL]
   by_cases c:i < j
   ·rw [aH c,aH (by omega)]
    have:=h i c
    simp only [bE] at this ⊢
    rw [aL (by omega)] at this ⊢
    simpa [c] using this
   rw [aI c]
   by_cases c2:i < ops.size
   ·rw [aH c2,aH c2]; simp [c]
   rw [aI c2,aI c2]
  have a1:=h1 true
  have a2:=h1 false
  simp only [bE] at a1 a2
  cases e1:(Qb9 ops.size L)[i]? with
  | none =>
   cases e2:(Yc ops.size j)[i]? with
   | none=>rfl
   | some y=>rw [e1,e2] at a1 a2; cases y <;> simp at a1 a2
  | some x =>
   cases e2:(Yc ops.size j)[i]? with
   | none=>rw [e1,e2] at a1 a2; cases x <;> simp at a1 a2
   | some y=>rw [e1,e2] at a1; simpa using a1
 have hready:∀L:Array Bool,L.size=j->Qck ops (Qb9 ops.size L)->(∃i,i < j/\L.getD i true=false)->∀k,k∈Region.ready .any ops (Qb9 ops.size L)↔k∈Region.ready .any (ops.extract 0 j) L:=fun L hL hcl ⟨i0,h0,hi0⟩ k=>by
  have hpi:(Qb9 ops.size L).getD i0 true=false:=by rw [Qgt (by omega),aH (by omega)]; exact hi0
  constructor
  ·intro hk
   have hkj:k < j:=by
    apply Nat.lt_of_not_le
    intro hle
    have hks:k < ops.size:=by
     obtain ⟨_,ok,hok,_⟩:=mem_ready.1 hk
     exact (aZ.1 hok).1
    exact Qqf hcl hk hpi (hB i0 k h0 hle hks)
   obtain ⟨h1,ok,hok,h2⟩:=mem_ready.1 hk
   refine mem_ready.2 ⟨?_,ok,by rw [Qgh (by omega) hkj]; exact hok,fun e he hb=>?_⟩
   ·rw [Qgt (by omega),aH (by omega)] at h1; exact h1
   have:=h2 e he hb
   have hlt:=hedge k ok hkj hok e he hb
   rw [Qgt (by omega),aH (by omega)] at this; exact this
  intro hk
  obtain ⟨h1,ok,hok,h2⟩:=mem_ready.1 hk
  have hkj:k < j:=by have:=(aZ.1 hok).1; omega
  rw [Qgh (by omega) hkj] at hok
  refine mem_ready.2 ⟨?_,ok,hok,fun e he hb=>?_⟩
  ·rw [Qgt (by omega),aH (by omega)]; exact h1
  have hlt:=hedge k ok hkj hok e he hb
  rw [Qgt (by omega),aH (by omega)]; exact h2 e he hb
 intro fuel
 induction fuel with
 | zero =>
  intro L a w hL hcl h
  rw [dV,hpad L hL (hall L hL h.1)]
  exact hn a w h.2
 | succ fuel ih =>
  intro L a w hL hcl h
  by_cases hx:∃i,i < j/\L.getD i true=false
  ·have hr:=hready L hL hcl hx
   rw [show fuel+1+m=(fuel+m)+1 by omega]
   refine ⟨fun he=>?_,fun i hi=>?_⟩
   ·have hemp:Region.ready .any (ops.extract 0 j) L=[]:=List.eq_nil_iff_forall_not_mem.2 fun k hk=>by
     have:=(hr k).2 hk
     rw [he] at this; cases this
    obtain ⟨i,h1,h2⟩:=hx
    rw [hall L hL hemp i h1] at h2; cases h2
   have hi':=(hr i).1 hi
   have h1:=h.2 i hi'
   obtain ⟨_,oi,hoi,_⟩:=mem_ready.1 hi'
   have hij:i < j:=by have:=(aZ.1 hoi).1; omega
   have hoi':=hoi
   rw [Qgh (by omega) hij] at hoi'
   have hy:Region.wanted oi (yielded (ops.extract 0 j) a.tmps)=Region.wanted oi (yielded ops a.tmps):=by
    unfold Region.wanted
    cases hgd:oi.guard with
    | none=>rfl
    | some gw =>
     obtain ⟨g,want⟩:=gw
     have hmem:oi∈(ops.extract 0 j).toList:=Array.mem_toList_iff.2 (Array.mem_of_getElem? hoi)
     have:=bQ.1 hg oi hmem
     rw [hgd] at this
     have hgj:g < j:=by simpa [Nat.blt_eq] using this
     simp only [yielded]
     rw [Qgh (by omega) hgj]
   unfold wpOpIn at h1 ⊢
   simp only [hoi,hoi'] at h1 ⊢
   rw [hy] at h1
   have hnext:∀a w,wpAnyIn F n P .any (ops.extract 0 j) Q' fuel (L.setIfInBounds i true) a w->wpAnyIn F n P .any ops Q (fuel+m) ((Qb9 ops.size L).setIfInBounds i true) a w:=fun a w g=>by
    rw [Qxe (by omega)]
    refine ih _ a w (by simpa using hL) ?_ g
    rw [<-Qxe (by omega)]
    exact hcl.add hi
   split at h1
   ·rename_i hw; rw [aH hw]; exact Qy7 hnext hq h1
   rename_i hw; rw [aI hw]; exact ⟨h1.1,hnext _ _ h1.2⟩
  have hall':∀i,i < j->L.getD i true=true:=fun i hi=>by
   cases e:L.getD i true with
   | true=>rfl
   | false=>exact absurd ⟨i,hi,e⟩ hx
  have hemp:Region.ready .any (ops.extract 0 j) L=[]:=List.eq_nil_iff_forall_not_mem.2 fun k hk=>by
   obtain ⟨h1,ok,hok,_⟩:=mem_ready.1 hk
   have hkj:k < j:=by have:=(aZ.1 hok).1; omega
   rw [hall' k hkj] at h1; cases h1
  rw [hpad L hL hall']
  exact Qr8 m (fuel+1) (hn a w (h.1 hemp))
end
section
variable {P:Program} {rd:Option Nat} {base:Nat} {ops:Array Oper} {st st':St} {Φ:AOut->Prop}
theorem Q3q {fs:List Foot} {ss:List Sk} (hB:Region.lexB .any ops=true) (hrun:Qu9 P ops ops.toList st fs st') (hcov:Qrm fs ss) (hcomp:Qee ops.toList ss=true)
  {B:Nat} {W0:World} {D0 dl:List Nat} {M:CM} {ι:Inj} {a:Act} {W:World} {n:Nat} {Q:Exit->Act->World->Prop} {r:Option Nat} (hs:Sim P B W0 D0 dl M ι st a W)
  (hp:∀M' ι' a' W',CM.Grow B M M'->Inj.leB base ι ι'->Sim P B W0 D0 dl M' ι' st' a' W'->Q .normal a' W') :
  wpAnyIn (FW r) n P .any ops Q ops.size (Array.replicate ops.size false) a W:=by
 simp only [Qee,aE] at hcomp
 have hcomp:=Qfu (ops:=ops) 0 ops.toList _ _ hcov hcomp.1 hcomp.2 (fun q=>by simp)
 obtain ⟨r1,r2,r3,r4,rb,r5⟩:=Qmr _ _ _ _ hrun
 have hbig:=rb hs.big
 have hdef:∀i,i < ops.size->fs[i]?=some (fs.getD i ⟨none,[],st'.objs.length,st'.objs.length,[]⟩):=fun i hi=>by
  rw [List.getD_eq_getElem?_getD,aG (by simp [r1]; exact hi)]; rfl
 have hout:∀i,ops.size<=i->fs.getD i ⟨none,[],st'.objs.length,st'.objs.length,[]⟩=⟨none,[],st'.objs.length,st'.objs.length,[]⟩:=fun i hi=>by
  rw [List.getD_eq_getElem?_getD,dP (by simp [r1]; exact hi)]; rfl
 have hrunA:=r5 (fun i=>fs.getD i ⟨none,[],st'.objs.length,st'.objs.length,[]⟩) 0 (fun j hj=>by simpa using hdef j (by simpa using hj))
 simp only [Region.lexB,aE] at hB
 have hA:=Qk8 (P:=P) (ops:=ops) (Ft:=fun i=>fs.getD i ⟨none,[],st'.objs.length,st'.objs.length,[]⟩) (Q:=fun s σ=>s=lk st'.slots/\σ=sto st'.objs) (fun i j oj hij hj hno=>?_) ops.toList 0 (Array.replicate ops.size false) (lk st.slots) (sto st.objs) (fun k ok hk hl=>by simp [Array.getD] at hl) (by simp) (fun _ _=>eJ _) (by simpa using hB.2) hrunA
 ·have hsz:ops.toList.length=ops.size:=by simp
  rw [hsz] at hA
  refine Qlw (B:=B) (W0:=W0) (D:=dl++D0) (nt:=st.nt) (lo:=st.objs.length) (hi:=st'.objs.length) (fun i o d hi hd=>r4 i o d (by simpa using hi) hd) hbig (fun i=>?_) (fun i j hij=>?_) ops.size _ _ _ M ι a _ hA hs.rel hs.slots hs.nt (fun i _ k hk=>?_) ?_
  ·rcases bB i ops.size with hi | hi
   ·exact r2.at i _ (hdef i hi)
   ·rw [hout i hi]; exact ⟨r2.le,bA _,bA _⟩
  ·rcases bB i ops.size with hi | hi
   ·rcases bB j ops.size with hj | hj
    ·rcases Nat.lt_or_gt_of_ne hij with e | e
     ·exact .inl (r2.lt i j _ _ e (hdef i hi) (hdef j hj))
     ·exact .inr (r2.lt j i _ _ e (hdef j hj) (hdef i hi))
    ·left; rw [hout j hj]; exact (r2.at i _ (hdef i hi)).2.2
   ·rcases bB j ops.size with hj | hj
    ·right; rw [hout i hi]; exact (r2.at j _ (hdef j hj)).2.2
    ·left; rw [hout i hi,hout j hj]; exact bA _
  ·have hup:(fs.getD i ⟨none,[],st'.objs.length,st'.objs.length,[]⟩).fr'<=st'.objs.length:=by
    rcases bB i ops.size with hi | hi
    ·exact (r2.at i _ (hdef i hi)).2.2
    ·rw [hout i hi]; exact bA _
   have hlo:st.objs.length<=(fs.getD i ⟨none,[],st'.objs.length,st'.objs.length,[]⟩).fr:=by
    rcases bB i ops.size with hi | hi
    ·exact (r2.at i _ (hdef i hi)).1
    ·rw [hout i hi]; exact r2.le
   exact hs.new k ((hk.mono hlo hup).notB hbig)
  ·intro s' σ' M' ι' a' W' hq g1 g2 g3 g4 g5 g6 g7
   obtain ⟨rfl,rfl⟩:=hq
   exact hp M' ι' a' W' g1 (g2.leB base) ⟨g4,g5,by rw [g6,r3],⟨by rw [g7]; exact hs.df.defs,hs.df.old,hs.df.nd⟩,fun k hk=>by rw [g3 k (fun c=>hk c.inB)]; exact hs.new k (fun c=>hk (c.mono r2.le)),hbig⟩
 ·have hj':j < ops.size:=(aZ.1 hj).1
  exact hcomp i j _ _ oj hij (hdef i (by omega)) (hdef j hj') (by simpa using hj) (by simpa using hno)
def Q6r (P:Program) (rd:Option Nat) (base:Nat) (ops:Array Oper) (j:Nat) (Φ:AOut->Prop):AOut->Prop
 | .go .normal st'=>RW P rd base ops none j st' Φ
 | _=>False
theorem Q5f {id j:Nat} (hm:P.follows .mixedOrders=true) (hc:cutB ops j=true) (h:RW P rd base (ops.extract 0 j) (some []) 0 st (Q6r P rd base ops j Φ)):WP P rd base (.region id ops true) st Φ:=by
 obtain ⟨fs,ss,st',h1,hcv,h2,h3⟩:=h
 obtain ⟨out,h3,h4⟩:=h3
 refine ⟨out,?_,h4⟩
 simp only [cutB,aE] at hc
 obtain ⟨⟨⟨⟨⟨c1,c2⟩,c3⟩,c4⟩,c5⟩,c6⟩:=hc
 have hj:j < ops.size:=J9 c1
 have hlexB:=Qxw c2
 simp only [Qrp,aE] at c2
 have hdown:=Qo8 (ops:=ops) (j:=j) j [j] (fun b hb=>.inl (by simpa using hb)) c4
 have hup:=Que (ops:=ops) (j:=j) (ops.size - (j+1)) (j+1) [j] (fun b hb=>.inl (by simpa using hb)) c5
 have hsz:(ops.extract 0 j).size=j:=by simp; omega
 intro B W0 D0 dl M ι a W n Q r hs hr hp
 refine wpIn_region_draw (fun t=>?_)
 have hsch:Region.schedule (P.follows .mixedOrders) ops t=Region.linearise .any ops t:=by
  unfold Region.schedule; rw [aH (by simp [hm])]
 rw [hsch]
 refine wpAnyIn_sound ops.size t _ a _ ?_
 have hA:=Q3q (P:=P) (base:=base) (n:=n) (r:=r) (Q:=fun e a' w'=>e=.normal/\∃M' ι',CM.Grow B M M'/\Inj.leB base ι ι'/\Sim P B W0 D0 dl M' ι' st' a' w') hlexB (by simpa using h1) hcv (by simpa using h2)
  (B:=B) (W0:=W0) (D0:=D0) (dl:=dl) (M:=M) (ι:=ι) (a:=a) ⟨hs.rel.drew,hs.slots,hs.nt,hs.df,hs.new,hs.big⟩ (fun M' ι' a' W' g1 g2 g3=>⟨rfl,M',ι',g1,g2,g3⟩)
 have hpad:Qb9 ops.size (Array.replicate (ops.extract 0 j).size false)=Array.replicate ops.size false:=by
  unfold Qb9
  rw [hsz,Array.size_replicate,Array.replicate_append_replicate,show j+(ops.size - j)=ops.size by omega]
 have hfin:=Q5z (F:=FW r) (n:=n) (P:=P) (ops:=ops) (Q:=Q) (m:=ops.size - j) hj c2.2 c3 (fun i k hi hk hk2=>?_) (fun a' w' hq=>?_) (fun e a' w' he hq=>absurd hq.1 he) (ops.extract 0 j).size (Array.replicate (ops.extract 0 j).size false) _ _ (by simp; omega) (by rw [hpad]; exact fun k ok hk hl=>by simp [Array.getD] at hl) hA
 ·rw [hpad,hsz,show j+(ops.size - j)=ops.size by omega] at hfin
  exact hfin
 ·by_cases e:k=j
  ·subst e; exact hdown i hi
  exact (hdown i hi).trans (hup k (by omega) (by omega))
 obtain ⟨_,M',ι',g1,g2,g3⟩:=hq
 refine Qqu _ j _ a' w' c6 ?_
 exact h3 B W0 D0 dl M' ι' a' w' n Q r g3 (hr.mono g2) (hp.step g1 g2 (List.suffix_refl _))
end
end Go.Ab
