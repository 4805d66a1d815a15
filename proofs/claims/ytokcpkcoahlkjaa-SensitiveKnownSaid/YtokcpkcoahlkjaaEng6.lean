/- Rules on plain values. No conditions. -/
import Derived.Test.YtokcpkcoahlkjaaEng5
import Derived.RowKit3
import Derived.ChangeSame
import Derived.ChangeArms
import Derived.OpenShut
import Derived.WideKeyArgs
import Derived.KernelRfl
set_option linter.all false
namespace Go.Ab
open Go.RowKit
section
variable {P:Program} {rd:Option Nat} {base:Nat} {ops:Array Oper} {st st1 st' S:St} {o:Oper} {F:Foot} {out:AOut} {Φ Ψ:AOut→Prop} {d:Option (List Sk)} {i:Nat} {nf:Bool} {s:Slots} {σ:Sto} {c x y:Code}
theorem snap_full {α:Type} {enc:α→AV} {l:List α} {ob w n:Nat} {bx ro fl:Bool} (hrow:σ ob=some (.row bx ro true fl w (l.map enc))):snap σ (n+1) (.ref ob 0 l.length)=some (.lst fl (l.map enc),[ob]):=by
 have:(l.map enc).take l.length=l.map enc:=List.take_of_length_le (by simp)
 simp [snap,hrow,this]
theorem msnap_nil {f:AV→Option (AV × List Nat)}:mapSnap f []=some ([],[]):=rfl
theorem msnap_cons {f:AV→Option (AV × List Nat)} {x y:AV} {xs ys:List AV} {a b c:List Nat} (h1:f x=some (y,a)) (h2:mapSnap f xs=some (ys,b)) (hc:a++b=c:=by rfl):mapSnap f (x::xs)=some (y::ys,c):=by
 subst hc; simp [mapSnap,h1,h2]
theorem snap_agg {n:Nat} {cs ys:List AV} {ids:List Nat} (h:mapSnap (snap σ n) cs=some (ys,ids)):snap σ (n+1) (.agg cs)=some (.agg ys,ids):=by simp [snap,h]
theorem snap_fn {n:Nat} {f:Fn} {a b x y:List AV} {i j k:List Nat} (h1:mapSnap (snap σ n) a=some (x,i)) (h2:mapSnap (snap σ n) b=some (y,j)) (hk:i++j=k):snap σ (n+1) (.fn f a b)=some (.fn f x y,k):=by subst hk; simp [snap,h1,h2]
theorem snap_ptr {n ob k c w:Nat} {bx ro nr fl:Bool} {xs ys:List AV} {ids:List Nat} {y:AV} {z:List AV} (hrow:σ ob=some (.row bx ro nr fl w xs)) (h:mapSnap (snap σ n) xs=some (ys,ids)) (hy:ys[k]?=some y) (hz:y.flat.drop c=z) :
  snap σ (n+1) (.ptr ob k c)=some (.fz z,ob::ids):=by subst hz; simp [snap,hrow,h,hy]
def callInfo (ops:Array Oper) (i:Nat) (st:St):Option (FuncId × List AV) :=
 match opAt ops i st with
 | some o=>match o.op with
  | .call { callee:=.value g,args,.. }=>match evo (lk st.slots) g,evos (lk st.slots) args.toList with
   | some (.fn (.func f) first caps),some as=>some (f,first++as++caps)
   | _,_=>none
  | _=>none
 | none=>none
theorem callInfo_spec {f:FuncId} {as0:List AV} (h:callInfo ops i st=some (f,as0)):∃o g args ts first caps as,opAt ops i st=some o∧o.op=.call { callee:=.value g,args,argTypes:=ts }∧evo (lk st.slots) g=some (.fn (.func f) first caps) ∧
  evos (lk st.slots) args.toList=some as∧as0=first++as++caps:=by
 unfold callInfo at h
 split at h
 ·rename_i o ho
  split at h
  ·rename_i g args ts hop
   split at h
   ·rename_i f' first caps as hg has
    cases h
    exact ⟨o,g,args,ts,first,caps,as,ho,hop,hg,has,rfl⟩
   ·cases h
  ·cases h
 ·cases h
def bodyB (P:Program) (f:FuncId):Bool :=
 match P.funcs[f]? with
 | some fn=>fn.body.isSome && !(fn.name == "runtime.NumGoroutine")
 | none=>false
noncomputable def callEff (st:St) (ids:List Nat) (r:AV) (objs:List AObj):Option (List (Nat × AObj)) :=
 if objs.all AObj.okRow then
  if ids.isEmpty || (r.cls && objs.all AObj.flat) then some (impObjs st.objs.length st.objs.length objs)
  else match frz st.sto ids with
   | some es=>some (es++impObjs st.objs.length st.objs.length objs)
   | none=>none
 else none
noncomputable def callSt (ops:Array Oper) (i:Nat) (st:St) (ids:List Nat) (r:AV) (objs:List AObj):Option St :=
 match callEff st ids r objs with
 | some eff=>match finI ops i st (some (r.shift st.objs.length)) eff with
  | some S=>if Nat.beq S.objs.length (st.objs.length+objs.length) then some S else none
  | none=>none
 | none=>none
noncomputable def callSk (st:St) (ids:List Nat) (r:AV) (objs:List AObj):Sk:=(((callEff st ids r objs).getD []).map (·.1),ids)
open Classical in
noncomputable def oneC (f:FuncId) (as:List AV) (co:COut):FuncId→List AV→Option COut:=fun g bs=>if g=f∧bs=as then some co else none
theorem oneC_sound {f:FuncId} {as:List AV} {co:COut} (h:CallOk P f as co) (hb:bodyB P f=true):Sound P (oneC f as co):=by
 intro g bs out he
 unfold oneC at he
 split at he
 ·rename_i hc
  obtain ⟨rfl,rfl⟩:=hc
  cases he
  refine ⟨h,?_⟩
  unfold bodyB at hb
  split at hb
  ·rename_i fn hf
   simp only [Bool.and_eq_true,Bool.not_eq_true'] at hb
   exact ⟨fn,hf,hb.1,hb.2⟩
  ·cases hb
 ·cases he
theorem callOne {f:FuncId} {as0 us:List AV} {ids:List Nat} {rv:AV} {ro:List AObj} (hi:callInfo ops i st=some (f,as0)) (hb:bodyB P f=true) (hsn:mapSnap (snap st.sto snapDepth) as0=some (us,ids)) (hc:CallOk P f us (.ret rv ro))
  (hS:callSt ops i st ids rv ro=some S) (k:RW P rd base ops (dAdd d [callSk st ids rv ro]) (i+1) S Φ):RW P rd base ops d i st Φ:=by
 obtain ⟨o,g,args,ts,first,caps,as1,ho,hop,hg,has,rfl⟩:=callInfo_spec hi
 unfold callSt at hS
 unfold callSk at k
 split at hS
 ·rename_i eff heff
  rw [heff] at k
  split at hS
  ·rename_i S' hS'
   split at hS
   ·rename_i hl
    cases hS
    obtain ⟨h1,h2⟩:=opAt_spec ho
    unfold finI at hS'
    rw [h1] at hS'
    simp only at hS'
    split at hS'
    ·rename_i objs slots ha hp
     cases hS'
     refine rw_step (s:=(eff.map (·.1),ids)) ⟨o,⟨some (rv.shift st.objs.length),eff,st.objs.length,st.objs.length+ro.length,ids⟩,h1,?_,cov_sk _⟩ (by simpa using k)
     refine stepF_ev (nf:=false) (C:=oneC f us (.ret rv ro)) (oneC_sound hc hb) (res:=⟨some (rv.shift st.objs.length),eff,st.objs.length+ro.length,ids⟩) h2 ?_ ha hp (Nat.eq_of_beq_eq_true hl)
     unfold evOp
     rw [hop]
     simp only [mayPan,if_true]
     unfold evalOp
     rw [hop]
     simp only [hg,has,absCall,hsn,oneC,and_self,if_true]
     unfold callEff at heff
     split at heff
     ·rename_i hok
      rw [if_pos hok]
      split at heff
      ·rename_i hcl
       cases heff
       rw [if_pos hcl]
      ·rename_i hcl
       rw [if_neg hcl]
       split at heff
       ·rename_i es hes
        cases heff
        rw [hes]
       ·cases heff
     ·cases heff
    ·cases hS'
   ·cases hS
  ·cases hS
 ·cases hS
theorem callR {α R:Type} {G:Option α} {K:α→Option R} {f:FuncId} {as0 us:List AV} {ids:List Nat} {rv:α→AV} {ro:α→List AObj} {S:α→St} {r:R} (hi:callInfo ops i st=some (f,as0)) (hb:bodyB P f=true)
  (hsn:mapSnap (snap st.sto snapDepth) as0=some (us,ids)) (hc:∀x,G=some x→CallOk P f us (.ret (rv x) (ro x))) (hS:∀x,callSt ops i st ids (rv x) (ro x)=some (S x)) (h:G.bind K=some r)
  (k:∀x,G=some x→K x=some r→RW P rd base ops (dAdd d [callSk st ids (rv x) (ro x)]) (i+1) (S x) Φ):RW P rd base ops d i st Φ:=by
 cases hg:G with
 | none=>rw [hg] at h; cases h
 | some x=>rw [hg] at h; exact callOne hi hb hsn (hc x hg) (hS x) (k x hg h)
theorem CallOk.args {f:FuncId} {us:List AV} {co:COut} (hss:List (List LK)) (h:CallOk P f (zipT hss us) co):CallOk P f us co:=by
 intro W M vs h1 h2 h3
 refine h W M vs h1 (by rw [zipT_length]; exact h2) (fun j v y hv hy=>?_)
 obtain ⟨hs,z,hz,rfl⟩:=zipT_at hss us j y hy
 exact loosen1_rep hs (h3 j v z hv hz)
theorem CallOk.res {f:FuncId} {us:List AV} {r:AV} {objs:List AObj} (hss:List (List LK)) (h:CallOk P f us (.ret r objs)):CallOk P f us (.ret (loosenT hss r) objs):=by
 intro W M vs h1 h2 h3
 refine (h W M vs h1 h2 h3).mono fun e w he=>?_
 obtain ⟨v,M',ι',g1,g2,g3,g4,g5⟩:=he
 exact ⟨v,M',ι',g1,g2,g3,g4,loosenT_rep hss g5⟩
def bsInfo (P:Program) (ops:Array Oper) (i:Nat) (st:St):Option (List (Nat × AV)) :=
 match opAt ops i st with
 | some o=>match o.op with
  | .buildSlice _ _ ps=>evParts (lk st.slots) ps.toList
  | _=>none
 | none=>none
noncomputable def bsSt (P:Program) (ops:Array Oper) (i:Nat) (st:St) (he:List LK) (b:Bool) (parts:List (Nat × AV)) (ids:List Nat):Option (St × List (Nat × AObj)) :=
 match opAt ops i st with
 | some o=>match o.op with
  | .buildSlice t n _=>match ti P t with
   | some T=>match T.kind with
    | .slice e=>match ti P e with
     | some E=>if n=0 then none else match E.zero with
      | some z=>if Nat.beq z.flat.length E.size && Nat.blt 0 E.size && Nat.ble (n*E.size) 16777216 then
        match fillElems E.size (List.replicate n z) parts,frz st.sto ids with
        | some xs,some es=>match finI ops i st (some (.ref st.objs.length 0 n)) (es++[(st.objs.length,.row false false (AV.nrL xs) (b && xs.all AV.scs) E.size (xs.map (loosen1 he)))]) with
         | some S=>if Nat.beq S.objs.length (st.objs.length+1) then some (S,es++[(st.objs.length,.row false false (AV.nrL xs) (xs.all AV.scs) E.size xs)]) else none
         | none=>none
        | _,_=>none
       else none
      | none=>none
     | none=>none
    | _=>none
   | none=>none
  | _=>none
 | none=>none
theorem loosenEff_last (he:List LK) (b:Bool) (es:List (Nat × AObj)) (o:Nat) (bx ro nr fl:Bool) (w:Nat) (xs:List AV):loosenEff he b (es++[(o,.row bx ro nr fl w xs)])=es++[(o,.row bx ro nr (b && fl) w (xs.map (loosen1 he)))]:=by
 induction es with
 | nil=>rfl
 | cons e es ih =>
  obtain ⟨o',x⟩:=e
  cases es with
  | nil=>simp [loosenEff]
  | cons e' es=>simp only [List.cons_append,loosenEff] at ih ⊢; rw [ih]
theorem bsR {parts0 parts:List (Nat × AV)} {ids:List Nat} {es:List (Nat × AObj)} (he:List LK) (b:Bool) (hi:bsInfo P ops i st=some parts0) (hsn:snapParts st.sto parts0=some (parts,ids)) (hS:bsSt P ops i st he b parts ids=some (S,es))
  (k:RW P rd base ops (dAdd d [(es.map (·.1),ids)]) (i+1) S Φ):RW P rd base ops d i st Φ:=by
 unfold bsInfo at hi
 unfold bsSt at hS
 split at hi
 ·rename_i o ho
  rw [ho] at hS
  simp only at hS
  split at hi
  ·rename_i t n ps hop
   rw [hop] at hS
   simp only at hS
   split at hS
   ·rename_i T hT
    split at hS
    ·rename_i e hk
     split at hS
     ·rename_i E hE
      split at hS
      ·cases hS
      ·rename_i hn
       split at hS
       ·rename_i z hz
        split at hS
        ·rename_i hc
         split at hS
         ·rename_i xs es' hxs hes
          split at hS
          ·rename_i S' hS'
           split at hS
           ·rename_i hl
            cases hS
            refine rw_ofL (nf:=false) (v:=some (.ref st.objs.length 0 n)) (eff:=es'++[(st.objs.length,.row false false (AV.nrL xs) (xs.all AV.scs) E.size xs)]) (fr:=st.objs.length+1) (rds:=ids) [] he b noC_sound ho ?_
             (by rw [loosenEff_last]; exact hS') (Nat.eq_of_beq_eq_true hl) k
            unfold evOp
            rw [hop]
            simp only [mayPan,Bool.false_eq_true,if_false]
            unfold evalOp
            rw [hop]
            simp only [hT,hk,hE,hi,hn,if_false,hz,hsn,Bool.false_eq_true,hc,if_true,hxs,hes,onlyVal]
           ·cases hS
          ·cases hS
         ·cases hS
        ·cases hS
       ·cases hS
     ·cases hS
    ·cases hS
   ·cases hS
  ·cases hi
 ·cases hi
theorem sparts_nil:snapParts σ []=some ([],[]):=rfl
theorem sparts_snap {j:Nat} {x y:AV} {r ys:List (Nat × AV)} {a b c:List Nat} (hx:x.nr=false) (h1:snap σ snapDepth x=some (y,a)) (h:snapParts σ r=some (ys,b)) (hc:a++b=c):snapParts σ ((j,x)::r)=some ((j,y)::ys,c):=by subst hc; simp [snapParts,hx,h1,h]
theorem rw_br {R:Type} {b:Bool} {S:Bool→St} {A B:Option R} {r:R} (h:(if b=true then A else B)=some r) (h1:b=true→A=some r→RW P rd base ops d i (S true) Φ) (h2:b=false→B=some r→RW P rd base ops d i (S false) Φ):RW P rd base ops d i (S b) Φ:=by
 cases b
 ·exact h2 rfl (by simpa using h)
 ·exact h1 rfl (by simpa using h)
theorem wp_br {R:Type} {b:Bool} {S:Bool→St} {A B:Option R} {r:R} (h:(if b=true then A else B)=some r) (h1:b=true→A=some r→WP P rd base c (S true) Φ) (h2:b=false→B=some r→WP P rd base c (S false) Φ):WP P rd base c (S b) Φ:=by
 cases b
 ·exact h2 rfl (by simpa using h)
 ·exact h1 rfl (by simpa using h)
theorem rw_knN {n m:Nat} {S:Nat → St} (hb:n=m) (h:RW P rd base ops d i (S m) Φ):RW P rd base ops d i (S n) Φ:=by rw [hb]; exact h
theorem ne_eq {a b:Int} {c:Bool} (h:(a != b)=c):(a==b)=!c:=by rw [←h]; simp [bne]
theorem wp_condT {op:Operand} (he:evo (lk st.slots) op=some (.bool true)) (h:WP P rd base x st Φ):WP P rd base (.cond op x y) st Φ:=wp_cond he (fun _=>h) (fun e=>by cases e)
theorem wp_condF {op:Operand} (he:evo (lk st.slots) op=some (.bool false)) (h:WP P rd base y st Φ):WP P rd base (.cond op x y) st Φ:=wp_cond he (fun e=>by cases e) (fun _=>h)
def RoundIs' {σ ρ:Type} (P:Program) (base:Nat) (I:σ→St) (Ex:ρ→AOut→Prop) (o:Step σ ρ) (out:AOut):Prop :=
 match o with
 | .next s=>∃st1,out=.go .normal st1∧Wk P base st1 (I s)
 | .done x=>Ex x out∧out.normal=false
theorem lwp_while {σ ρ:Type} {body:σ→Option (Step σ ρ)} {I:σ→St} {Ex:ρ→AOut→Prop} (round:∀s o,body s=some o→WP P rd base c (I s) (RoundIs' P base I Ex o)) :
  ∀(n:Nat) (s:σ) (x:ρ),whileN n body s=some x→LWP P rd base c (I s) (Ex x)
 | 0,s,x,h=>by cases h
 | n+1,s,x,h=>by
  simp only [whileN] at h
  split at h
  ·rename_i s' hb
   refine lwp_step ((round s _ hb).mono fun out ho=>?_)
   obtain ⟨st1,rfl,hw⟩:=ho
   exact lwp_wk hw (lwp_while round n s' x h)
  ·rename_i x' hb
   cases h
   refine lwp_step ((round s _ hb).mono fun out ho=>?_)
   obtain ⟨h1,h2⟩:=ho
   cases out with
   | pan v=>exact h1
   | go e st1=>cases e <;> first | exact h1 | simp [AOut.normal] at h2
  ·cases h
theorem wp_while {σ ρ R:Type} {n:Nat} {body:σ→Option (Step σ ρ)} {I:σ→St} {Ex:ρ→AOut→Prop} {K:ρ→Option R} {r:R} (s0:σ) (hw:Wk P base st (I s0)) (h:(whileN n body s0).bind K=some r)
  (round:∀s o,body s=some o→WP P rd base c (I s) (RoundIs' P base I Ex o)) (k:∀x,K x=some r→∀out,Ex x out→Φ out):WP P rd base (.loop c) st Φ:=by
 cases hx:whileN n body s0 with
 | none=>rw [hx] at h; cases h
 | some x =>
  rw [hx] at h
  obtain ⟨out,h1,h2⟩:=lwp_wk hw (lwp_while round n s0 x hx)
  exact wp_loop ⟨out,h1,k x h out h2⟩
noncomputable def fnOut (P:Program) (fn:Func) (hss:List (List LK)):AOut→Option (AV × List AObj)
 | .go e st'=>if e.ends then match resultA P fn st' with
   | some x=>match exportV st' x with
    | some (.ret r objs)=>some (loosenT hss r,objs)
    | _=>none
   | none=>none
  else none
 | .pan _=>none
theorem fn_ok {f:FuncId} {fn:Func} {c:Code} {args:List AV} {rv:AV} {ro:List AObj} (hss:List (List LK)) (hf:P.funcs[f]?=some fn) (hb:fn.body=some c) (hn:(fn.name == "runtime.NumGoroutine")=false) (hle:Nat.ble args.length fn.ntmps=true)
  (h:WP P none 0 c (st0 fn.ntmps args) (fun out=>fnOut P fn hss out=some (rv,ro))):CallOk P f args (.ret rv ro):=by
 obtain ⟨co,h1,r',h2,h3⟩:=call_wp (R:=fun co=>∃r',co=.ret r' ro∧loosenT hss r'=rv) hf hb hn (Nat.le_of_ble_eq_true hle) (h.mono fun out ho=>by
  cases out with
  | pan v=>cases ho
  | go e st' =>
   simp only [fnOut] at ho
   split at ho
   ·rename_i he
    split at ho
    ·rename_i x hx
     split at ho
     ·rename_i r objs hex
      simp only [Option.some.injEq,Prod.mk.injEq] at ho
      obtain ⟨h1,rfl⟩:=ho
      exact ⟨he,x,hx,_,hex,r,rfl,h1⟩
     ·cases ho
    ·cases ho
   ·cases ho)
 rw [←h3]
 rw [h2] at h1
 exact h1.res hss
noncomputable def inlEnd (P:Program) (fn:Func) (ops:Array Oper) (i:Nat) (st:St):AOut→Option St
 | .go e st'=>if e.ends then match resultA P fn st',ops[i]? with
   | some x,some o=>match putD st.slots st.nt o.dst (some x) with
    | some slots=>some ⟨slots,st'.objs,st.nt⟩
    | none=>none
   | _,_=>none
  else none
 | .pan _=>none
theorem inlR {f:FuncId} {fn:Func} {c:Code} {as0:List AV} (hi:callInfo ops i st=some (f,as0)) (hf:P.funcs[f]?=some fn) (hb:fn.body=some c) (hn:(fn.name == "runtime.NumGoroutine")=false) (hle:Nat.ble as0.length fn.ntmps=true)
  (h:WP P none st.objs.length c ⟨enumA 0 as0,st.objs,fn.ntmps⟩ (fun out=>∃S,inlEnd P fn ops i st out=some S∧RW P rd base ops none (i+1) S Φ)):RW P rd base ops none i st Φ:=by
 obtain ⟨o,g,args,ts,first,caps,as1,ho,hop,hg,has,rfl⟩:=callInfo_spec hi
 obtain ⟨h1,h2⟩:=opAt_spec ho
 obtain ⟨out,hx,S,hS,k⟩:=h
 unfold inlEnd at hS
 split at hS
 ·rename_i e st'
  split at hS
  ·rename_i he
   split at hS
   ·rename_i x o' hr ho'
    rw [h1] at ho'; cases ho'
    split at hS
    ·rename_i slots hp
     cases hS
     obtain ⟨out2,k1,k2⟩:=k
     have hi':i < ops.size:=(Array.getElem?_eq_some_iff.1 h1).1
     refine ⟨out2,?_,k2⟩
     rw [restI_cons hi']
     exact opsX_cons h1 h2 (opX_inline hop hg has hf hb hn (Nat.le_of_ble_eq_true hle) hx he hr hp) k1
    ·cases hS
   ·cases hS
  ·cases hS
 ·cases hS
def yldEnd (ops:Array Oper) (i l:Nat) (st:St):AOut→Option St
 | .go e st'=>match st'.objs[l]?,ops[i]? with
  | some (.loop nt2 sl2 ps2 as2 bd2 .busy _),some o=>match putD st.slots st.nt o.dst (some (.bool e.pend.isNone)) with
   | some slots=>some ⟨slots,st'.objs.set l (.loop nt2 sl2 ps2 as2 bd2 (if e.pend.isNone then .ready else .done) e.pend),st.nt⟩
   | none=>none
  | _,_=>none
 | .pan _=>none
def yldInfo (ops:Array Oper) (i:Nat) (st:St):Option (Nat × List AV) :=
 match opAt ops i st with
 | some o=>match o.op with
  | .call { callee:=.value g,args,.. }=>match evo (lk st.slots) g,evos (lk st.slots) args.toList with
   | some (.yld l),some us=>some (l,us)
   | _,_=>none
  | _=>none
 | none=>none
def yldMid (l nt:Nat):AOut→Option St
 | .go .normal ⟨sl,objs,n⟩=>match objs[l]? with
  | some (.loop ntL slL psL asL bdL .ready peL)=>if Nat.beq n nt then some ⟨sl,objs.set l (.loop ntL slL psL asL bdL .busy peL),nt⟩ else none
  | _=>none
 | _=>none
theorem yldR {l nt:Nat} {us:List AV} {sl:List (Nat × AV)} {ps:List Tmp} {assign body:Code} {pe:Option Code} (hi:yldInfo ops i st=some (l,us)) (hl:st.objs[l]?=some (.loop nt sl ps assign body .ready pe))
  (hlen:(Nat.beq us.length ps.length && ps.all fun t=>Nat.blt t nt)=true)
  (h:WP P (some l) st.objs.length assign ⟨setPs sl ps us,st.objs,nt⟩ (fun outA=>∃SA,yldMid l nt outA=some SA∧WP P (some l) st.objs.length body SA (fun outB=>∃S,yldEnd ops i l st outB=some S∧RW P rd base ops none (i+1) S Φ))) :
  RW P rd base ops none i st Φ:=by
 unfold yldInfo at hi
 split at hi
 ·rename_i o ho
  split at hi
  ·rename_i g args ts hop
   split at hi
   ·rename_i l' us' hg has
    simp only [Option.some.injEq,Prod.mk.injEq] at hi
    obtain ⟨rfl,rfl⟩:=hi
    obtain ⟨h1,h2⟩:=opAt_spec ho
    simp only [Bool.and_eq_true,List.all_eq_true] at hlen
    obtain ⟨outA,hxA,SA,hSA,outB,hxB,S,hS,k⟩:=h
    unfold yldMid at hSA
    split at hSA
    ·rename_i slA objsA n
     split at hSA
     ·rename_i ntL slL psL asL bdL peL hlA
      split at hSA
      ·rename_i hn
       cases hSA
       have hn:=Nat.eq_of_beq_eq_true hn
       subst hn
       unfold yldEnd at hS
       split at hS
       ·rename_i e st'
        split at hS
        ·rename_i nt2 sl2 ps2 as2 bd2 pe2 o' hlB ho'
         rw [h1] at ho'; cases ho'
         split at hS
         ·rename_i slots hp
          cases hS
          obtain ⟨out2,k1,k2⟩:=k
          have hi':i < ops.size:=(Array.getElem?_eq_some_iff.1 h1).1
          refine ⟨out2,?_,k2⟩
          rw [restI_cons hi']
          exact opsX_cons h1 h2 (opX_yield hop hg has hl (Nat.eq_of_beq_eq_true hlen.1) (fun t ht=>blt_lt (hlen.2 t ht)) hxA hlA hxB hlB hp) k1
         ·cases hS
        ·cases hS
       ·cases hS
      ·cases hSA
     ·cases hSA
    ·cases hSA
   ·cases hi
  ·cases hi
 ·cases hi
theorem wp_range {g:Operand} {ps:Array Tmp} {assign body:Code} {f:FuncId} {fn:Func} {c:Code} {first caps:List AV} (hg:evo (lk st.slots) g=some (.fn (.func f) first caps)) (hf:P.funcs[f]?=some fn) (hb:fn.body=some c) (hn:(fn.name == "runtime.NumGoroutine")=false)
  (hle:Nat.ble (first++[AV.yld st.objs.length]++caps).length fn.ntmps=true) (hrd:rdOk rd st.objs=true)
  (h:WP P none (st.objs.length+1) c (rangeSt st ps.toList assign body first caps fn.ntmps) (fun out0=>∃out,rangeOut P fn st out0=some out∧Φ out)):WP P rd base (.rangeFunc g ps assign body) st Φ:=by
 obtain ⟨out0,h0,out,h1,h2⟩:=h
 refine ⟨out,exec_rangeFunc hg hf hb hn (Nat.le_of_ble_eq_true hle) (fun l hl=>?_) h0 h1,h2⟩
 subst hl
 simp only [rdOk] at hrd
 split at hrd
 ·rename_i s _ hob
  refine ⟨_,_,_,_,_,_,_,hob,fun e=>?_⟩
  subst e; cases hrd
 ·cases hrd
theorem wp_eqB {base':Nat} (hb:base=base') (hs:st=st') (h:WP P rd base' c st' Φ):WP P rd base c st Φ:=by subst hb; subst hs; exact h
theorem bind_elim {α R:Type} {G:Option α} {K:α→Option R} {r:R} {X:Prop} (h:G.bind K=some r) (k:∀a,G=some a→K a=some r→X):X:=by
 cases hg:G with
 | none=>rw [hg] at h; cases h
 | some a=>rw [hg] at h; exact k a hg h
theorem lkI_set {α:Type} {l:List α} {n:Int} {a:α} (b:α) (h:lkI l n=some a):lkI (l.set n.toNat b) n=some b:=by
 obtain ⟨h1,h2,h3⟩:=lkI_lt h
 unfold lkI
 rw [if_neg (by omega),List.getElem?_set_self h2]
theorem rw_wk {i:Nat} (hk:Wk P base st st') (h:RW P rd base ops none i st' Φ):RW P rd base ops none i st Φ:=by
 obtain ⟨out,h1,h2⟩:=h
 refine ⟨out,?_,h2⟩
 intro B W0 D0 dl M ι a W n Q r hs hr hp
 obtain ⟨M',ι',hM,hι,hs'⟩:=hk B W0 D0 dl M ι a W hs
 exact h1 B W0 D0 dl M' ι' a W n Q r hs' (hr.mono hι) (hp.step hM hι (List.suffix_refl _))
theorem orL {b c:Bool} (h:b=true):(b || c)=true:=by simp [h]
end
abbrev vI (n:Int):AV:=.int .i64 n
abbrev eI:Int→AV:=AV.int .i64
abbrev vB (b:Bool):AV:=.bool b
abbrev oR {α:Type} (fl:Bool) (w:Nat) (enc:α→AV) (l:List α):AObj:=.row false false true fl w (l.map enc)
abbrev oX (nr fl:Bool) (w:Nat) (x:AV):AObj:=.row true false nr fl w [x]
def rgAt:Code→List Bool→Code
 | .seq a b,false::r=>rgAt a r
 | .seq a b,true::r=>rgAt b r
 | .cond _ a b,false::r=>rgAt a r
 | .cond _ a b,true::r=>rgAt b r
 | .block _ b,_::r=>rgAt b r
 | .loop b,_::r=>rgAt b r
 | .scope b,_::r=>rgAt b r
 | .rangeFunc _ _ a b,false::r=>rgAt a r
 | .rangeFunc _ _ a b,true::r=>rgAt b r
 | c,_=>c
def cA (fn:Func) (w:List Bool):Code:=rgAt (fn.body.getD .skip) (w++[false])
def cB (fn:Func) (w:List Bool):Code:=rgAt (fn.body.getD .skip) (w++[true])
end Go.Ab
namespace Go.Ab
open Go.RowKit
section
variable {P:Program} {B:Nat} {W0 W W1:World} {D:List Nat} {M M1:CM} {ι ι1:Inj} {σ σ' σ1:Sto}
theorem Rel.dead (h:Rel P B W0 D M ι σ W) (hσ:∀k,σ' k=σ k∨σ' k=none∨σ' k=some .dead):Rel P B W0 D M ι σ' W:=by
 have back:∀k x,σ' k=some x→x≠.dead→σ k=some x:=fun k x hk hx=>by
  rcases hσ k with e | e | e
  ·rw [←e]; exact hk
  ·rw [e] at hk; cases hk
  ·rw [e] at hk; cases hk; exact absurd rfl hx
 refine ⟨h.size,h.below,h.defs,h.agree,fun o bx nr fl w xs p k ho=>h.cool o bx nr fl w xs p k (back _ _ ho (by simp)),fun o bx ro nr fl w xs ho=>h.row o bx ro nr fl w xs (back _ _ ho (by simp)),fun o fn sl ps as bd st pe ho=>h.loop o fn sl ps as bd st pe (back _ _ ho (by simp)),
  fun o o' bx nr fl w xs bx' nr' fl' w' xs' p p' hne h1 h2=>h.apart o o' bx nr fl w xs bx' nr' fl' w' xs' p p' hne (back _ _ h1 (by simp)) (back _ _ h2 (by simp)),
  fun o o' fn sl ps as bd st pe fn' sl' ps' as' bd' st' pe' p p' hne h1 h2=>h.loops o o' fn sl ps as bd st pe fn' sl' ps' as' bd' st' pe' p p' hne (back _ _ h1 (by simp)) (back _ _ h2 (by simp)),fun o ho=>?_⟩
 rcases hσ o with e | e
 ·rw [e]; exact h.used o ho
 ·exact e
open Classical in
end
section
variable {objs new:List AObj}
end
section
variable {P:Program} {ops:Array Oper} {st st':St} {o:Oper} {rd:Option Nat} {base:Nat} {Φ:AOut→Prop} {d:Option (List Sk)} {i:Nat}
end
end Go.Ab
namespace Go.Ab
open Go.RowKit
section
variable {P:Program} {B:Nat} {W0 W:World} {D D0 dl:List Nat} {M:CM} {ι:Inj} {σ:Sto} {st st':St} {a:Act} {base:Nat}
theorem flat_ids {x y:AV} (h:y∈x.flat):∀o∈y.ids,o∈x.ids:=by
 cases x with
 | agg cs=>intro o ho; simp only [AV.ids,idsL_mem]; exact ⟨y,h,ho⟩
 | _=>simp only [AV.flat,List.mem_singleton] at h; subst h; exact fun o ho=>ho
theorem TrE.congr {ι':Inj} {x:AV} (h:∀o∈x.ids,ι' o=ι o):TrE M ι ι' x x :=
 ⟨fun _ h=>h,fun h=>h,fun j y hj=>⟨y,hj,fun v hv=>hv.congr (fun o ho=>h o (flat_ids (List.mem_of_getElem? hj) o ho)),fun v hv=>hv⟩⟩
theorem TrE.ref {ι':Inj} {o o' n:Nat} (h:∀p,ι o=some p→ι' o'=some p):TrE M ι ι' (.ref o 0 n) (.ref o' 0 n):=by
 refine ⟨fun w hw=>ren_shaped (f:=fun _=>some o') rfl hw,fun h=>(by cases h),fun c y' hc=>?_⟩
 cases c with
 | succ c=>simp [AV.flat] at hc
 | zero =>
  simp only [AV.flat,List.getElem?_cons_zero,Option.some.injEq] at hc
  subst hc
  refine ⟨_,rfl,fun v hv=>?_,fun v hv=>?_⟩
  ·obtain ⟨p,hp,hq⟩:=rep_ref hv
   exact hq _ _ (h p hp)
  ·obtain ⟨p,hp,_⟩:=rep_ref hv
   cases hp
variable {rd:Option Nat} {ops:Array Oper} {S:St} {o:Oper} {out:AOut} {Φ:AOut→Prop} {d:Option (List Sk)} {i:Nat}
theorem exec_post {c:Code} {e:AExit} {st1:St} (h:Exec P rd base c st (.go e st')) (hw:Wk P base st' st1):Exec P rd base c st (.go e st1):=by
 intro B W0 D0 dl M ι a W n Q r hs hr hp
 refine h B W0 D0 dl M ι a W n Q r hs hr ⟨fun e' s he dl' M' ι' a' W' g1 g2 g3 g4=>?_,fun v he=>(by cases he)⟩
 cases he
 obtain ⟨M2,ι2,k1,k2,k3⟩:=hw _ _ _ _ _ _ _ _ g4
 exact hp.go e st1 rfl dl' M2 ι2 a' W' (g1.trans k1) (g2.trans k2) g3 k3
theorem wp_post {c:Code} (h:WP P rd base c st (fun out=>match out with | .go e s=>∃s1,Wk P base s s1∧Φ (.go e s1) | .pan v=>Φ (.pan v))):WP P rd base c st Φ:=by
 obtain ⟨out,h1,h2⟩:=h
 cases out with
 | pan v=>exact ⟨_,h1,h2⟩
 | go e s=>obtain ⟨s1,h3,h4⟩:=h2; exact ⟨_,exec_post h1 h3,h4⟩
end
end Go.Ab
namespace Go.Ab
open Go.RowKit
open Go.ChangeShapes in
theorem post_of_below {H:Type} {enc:TypeId × Value→H} {P:Program} {f:Func} {s:ChangeSpec} {apart fresh handsOn again:Bool} {W W':World} {args:Array Value} {v:Value} {ds gs:List (DataW H)} {before pa pv:List MemPlace}
  (hW:DataW.Whole enc P f.params.toList s.vars apart W args.toList ds gs before)
  (hres:∀(b:Nat) (sp:Nat → Bool) (hd:Bool),DataW.TrodAll enc P W' b sp hd f.resultTypes.toList (v.resultList f.resultTypes.size) (s.fn H (ds++gs)).results [])
  (hargs:∀sp:Nat → Bool,(∀p∈before,sp p.block=true)→DataW.TrodAll enc P W' 0 sp true f.params.toList args.toList (s.fn H (ds++gs)).args pa)
  (hvars:∀sp:Nat → Bool,(∀p∈before,sp p.block=true)→DataW.TrodVars enc P W' sp s.vars (s.fn H (ds++gs)).vars pv)
  (hps:before=pa++pv) (hb:Below W.heap.size W W')
  (hok:∀(j:Nat) (t:TypeId) (r:Value),f.resultTypes[j]?=some t→(v.resultList f.resultTypes.size)[j]?=some r→Value.okWide P W' .any 0 t r) :
  s.post enc P f apart fresh handsOn again W args v W':=by
 have hold:∀p∈before,(fun b=>decide (b < W.heap.size)) p.block=true:=fun p hp=>by simpa using hW.lt p hp
 have hlt:=hW.lt
 refine ⟨ds,gs,before,[],pa,pv,hW,hres _ _ _,hargs _ hold,hvars _ hold,World.keptBut_mono (fun p hp=>⟨hp,?_⟩) (hb.frame (·∈before)),fun _=>?_⟩
 ·rw [hps,List.mem_append] at hp
  exact Or.inr hp
 ·obtain ⟨_,_,_,_,_,hz,hn⟩:=hW
  refine ⟨hok,_,_,([]++pa)++pv,⟨[]++pa,pv,trodAll_append (hargs _ (fun _ _=>rfl)) (hres _ _ _),hvars _ (fun _ _=>rfl),rfl,?_,?_⟩,?_⟩
  ·intro b off hp
   have hm:MemPlace.cell b off∈before:=by rw [hps]; simpa using hp
   have h1:b < W.heap.size:=hlt _ hm
   rw [hb.frozen h1]
   exact hz b off hm
  ·intro ha
   have:=hn ha
   rw [hps] at this
   simpa using this
  ·intro p hp _
   rw [hps]
   simpa using hp
theorem calls_bool {P:Program} {f:FuncId} {args:List AV} {b:Bool} (h:CallOk P f args (.ret (.bool b) [])) {W:World} {M:CM} {vs:Array Value} (hM:∀b o v,M b o=some v→W.cell? ⟨b,o,none⟩=some v) (hl:vs.size=args.length)
  (hr:∀(j:Nat) (v:Value) (a:AV),vs[j]?=some v→args[j]?=some a→RepV M noInj v a):Calls P f vs W fun e W'=>e=.returned (.bool b)∧Below W.heap.size W W':=by
 refine (h W M vs hM hl hr).mono fun e W' he=>?_
 obtain ⟨v,M',ι',he,_,hrel,_,hv⟩:=he
 cases hv
 exact ⟨he,hrel.below.toBelow⟩
theorem calls_bool0 {P:Program} {f:FuncId} {b:Bool} (h:CallOk P f [] (.ret (.bool b) [])) (W:World):Calls P f #[] W fun e W'=>e=.returned (.bool b)∧Below W.heap.size W W' :=
 calls_bool h (M:=fun _ _=>none) (fun _ _ _ h=>by cases h) rfl (fun j v a h=>by simp at h)
end Go.Ab
namespace Go.Ab
open Go.RowKit
theorem emn_or_nil {M:CM} {ι:Inj} {v:Value} {fl:Bool} (h:RepV M ι v (.lst fl [])):RepV M ι v .nils∨RepV M ι v .emn:=by
 cases h with
 | lst0 a =>
  cases a with
  | none=>exact .inl .nils
  | some a=>exact .inr (.emn a 0)
 | lst b off cap=>exact .inr (.emn _ cap)
theorem CallOk.nil {P:Program} {f:FuncId} {l1 l2:List AV} {fl:Bool} {out:COut} (h1:CallOk P f (l1++.nils::l2) out) (h2:CallOk P f (l1++.emn::l2) out):CallOk P f (l1++.lst fl []::l2) out:=by
 intro W M vs hM hsz hr
 have hlt:l1.length < vs.size:=by simp at hsz; omega
 have h0:=hr l1.length vs[l1.length] (.lst fl []) (by simp [hlt]) (by simp)
 have other:∀y,RepV M noInj vs[l1.length] y→∀(j:Nat) (v:Value) (a:AV),vs[j]?=some v→(l1++y::l2)[j]?=some a→RepV M noInj v a:=by
  intro y hy j v a hv ha
  rcases Nat.lt_trichotomy j l1.length with c | c | c
  ·refine hr j v a hv ?_
   rw [List.getElem?_append_left c] at ha ⊢; exact ha
  ·subst c
   rw [List.getElem?_append_right (Nat.le_refl _)] at ha
   simp at ha; subst ha
   rw [Array.getElem?_eq_getElem hlt] at hv; cases hv; exact hy
  ·refine hr j v a hv ?_
   rw [List.getElem?_append_right (by omega)] at ha ⊢
   rw [show j - l1.length=(j - l1.length - 1)+1 by omega] at ha ⊢
   simpa using ha
 rcases emn_or_nil h0 with e | e
 ·exact h1 W M vs hM (by simpa using hsz) (other _ e)
 ·exact h2 W M vs hM (by simpa using hsz) (other _ e)
section
variable {P:Program} {base:Nat} {st st':St}
end
theorem CallOk.froz {P:Program} {f:FuncId} {args:List AV} {v y:AV} {objs:List AObj} {ids:List Nat} (h:CallOk P f args (.ret v objs)) (hs:snap (fun k=>objs[k]?) snapDepth v=some (y,ids)):CallOk P f args (.ret y []):=by
 intro W M vs hM hsz hr
 refine (h W M vs hM hsz hr).mono fun e W' he=>?_
 obtain ⟨u,M',ι',rfl,hg,hrel,hout,hv⟩:=he
 refine ⟨u,_,noInj,rfl,hg.trans (hrel.growC ids),⟨hrel.size,hrel.below,hrel.defs,addM_agree hrel.agree,fun o bx nr fl w xs p k ho=>(by simp at ho),fun o bx ro nr fl w xs ho=>(by simp at ho),fun o fn sl ps as bd st pe ho=>(by simp at ho),fun o o' bx nr fl w xs bx' nr' fl' w' xs' p p' _ ho=>(by simp at ho),fun o o' fn sl ps as bd st pe fn' sl' ps' as' bd' st' pe' p p' _ ho=>(by simp at ho),fun o _=>.inl (by simp)⟩,fun _ _=>rfl,snap_sound hrel ids snapDepth v y ids u hs (fun k hk=>hk) hv⟩
section
variable {P:Program} {rd:Option Nat} {base:Nat} {ops:Array Oper} {st S:St} {Φ:AOut→Prop} {d:Option (List Sk)} {i:Nat}
end
end Go.Ab
namespace Go.Ab
open Go.RowKit
section
variable {H:Type} {enc:TypeId × Value→H} {P:Program} {w:World} {base:Nat}
theorem flat_agg (cs:List AV):(AV.agg cs).flat = cs:=rfl
end
theorem flat_cell {x:AV} (h:x.cell=true):x.flat = [x]:=by cases x <;> simp_all [AV.flat,AV.cell]
end Go.Ab
namespace Go.Ab
section
variable {P:Program} {rd:Option Nat} {base:Nat} {ops:Array Oper} {st S:St} {Φ:AOut→Prop} {d:Option (List Sk)} {i:Nat} {c y:Code}
theorem sgz (k j:Nat) {S:St} (hk:RW P rd base ops none j S Φ) (h:runSt P false ops k i st=some S:=by as_aux_lemma=>kernel_rfl) (hj:i+k=j:=by rfl):RW P rd base ops none i st Φ:=sg false k j h hj hk
theorem sgy (k j:Nat) {S:St} (hk:RW P rd base ops (dAdd d (runSk P false ops k i st)) j S Φ) (h:runSt P false ops k i st=some S:=by as_aux_lemma=>kernel_rfl) (hj:i+k=j:=by rfl):RW P rd base ops d i st Φ:=sg false k j h hj hk
theorem rgN {id:Nat} {S:St} (hk:Φ (.go .normal S)) (h:runSt P false ops ops.size 0 st=some S:=by as_aux_lemma=>kernel_rfl):WP P rd base (.region id ops false) st Φ :=
 reg_in (sg false ops.size ops.size h (Nat.zero_add _) (reg_end rfl hk))
theorem sqN {id:Nat} {S:St} (hk:WP P rd base y S Φ) (h:runSt P false ops ops.size 0 st=some S:=by as_aux_lemma=>kernel_rfl):WP P rd base (.seq (.region id ops false) y) st Φ :=
 wp_seq (rgN hk h)
theorem wgc (live keep:List Nat) (S:St) (hk:WP P rd base c S Φ) (h:gcSt base live keep st=some S:=by as_aux_lemma=>kernel_rfl):WP P rd base c st Φ:=wp_wk (wk_gc h) hk
theorem rga {id:Nat} (hm:P.follows .mixedOrders=true) (h:RW P rd base ops (some []) 0 st Φ) (hB:lexF ops=true:=by as_aux_lemma=>kernel_rfl):WP P rd base (.region id ops true) st Φ:=reg_any (by simp [hm]) (lexF_ok hB) h
def gt (o:Option St) (d:St):St:=match o with | some S=>S | none=>d
noncomputable def nx (P:Program) (ops:Array Oper) (k i:Nat) (st:St):St:=gt (runSt P false ops k i st) st
noncomputable def gx (base:Nat) (live keep:List Nat) (st:St):St:=gt (gcSt base live keep st) st
noncomputable def lx (P:Program) (ops:Array Oper) (i:Nat) (st:St) (hv he:List LK) (b:Bool):St:=gt (runL P false ops i st hv he b) st
theorem get_of {o:Option St} {d:St} (h:o.isSome=true):o=some (gt o d):=by
 cases o with
 | none=>cases h
 | some S=>rfl
theorem sz (k j:Nat) (hk:RW P rd base ops none j (nx P ops k i st) Φ) (h:(runSt P false ops k i st).isSome=true:=by as_aux_lemma=>kernel_rfl) (hj:i+k=j:=by rfl):RW P rd base ops none i st Φ:=sg false k j (get_of h) hj hk
theorem sy (k j:Nat) (hk:RW P rd base ops (dAdd d (runSk P false ops k i st)) j (nx P ops k i st) Φ) (h:(runSt P false ops k i st).isSome=true:=by as_aux_lemma=>kernel_rfl) (hj:i+k=j:=by rfl):RW P rd base ops d i st Φ:=sg false k j (get_of h) hj hk
theorem rn {id:Nat} (hk:Φ (.go .normal (nx P ops ops.size 0 st))) (h:(runSt P false ops ops.size 0 st).isSome=true:=by as_aux_lemma=>kernel_rfl):WP P rd base (.region id ops false) st Φ:=rgN hk (get_of h)
theorem sq {id:Nat} (hk:WP P rd base y (nx P ops ops.size 0 st) Φ) (h:(runSt P false ops ops.size 0 st).isSome=true:=by as_aux_lemma=>kernel_rfl):WP P rd base (.seq (.region id ops false) y) st Φ:=sqN hk (get_of h)
theorem wg (live keep:List Nat) (hk:WP P rd base c (gx base live keep st) Φ) (h:(gcSt base live keep st).isSome=true:=by as_aux_lemma=>kernel_rfl):WP P rd base c st Φ:=wgc live keep _ hk (get_of h)
theorem sl (nf:Bool) (hv he:List LK) (b:Bool) (hn:nf=false) (hk:RW P rd base ops (dAdd d [runLSk P nf ops i st]) (i+1) (lx P ops i st hv he b) Φ) (h:(runL P false ops i st hv he b).isSome=true:=by as_aux_lemma=>kernel_rfl):RW P rd base ops d i st Φ:=by
 subst hn; exact sgL false hv he b (get_of h) hk
theorem wwh {σ ρ R:Type} {n:Nat} {body:σ→Option (Step σ ρ)} {K:ρ→Option R} {r:R} {s0:σ} (h:(whileN n body s0).bind K=some r) (I:σ→St) (Ex:ρ→AOut→Prop) (hw:Wk P base st (I s0))
  (round:∀s o,body s=some o→WP P rd base c (I s) (RoundIs' P base I Ex o)) (k:∀x,K x=some r→∀out,Ex x out→Φ out):WP P rd base (.loop c) st Φ:=wp_while s0 hw h round k
theorem wbz {R:Type} {b:Bool} {A B:Option R} {r:R} {x:Code} {op:Operand} (h:(if b=true then A else B)=some r) (h1:b=true→A=some r→WP P rd base x st Φ) (h2:b=false→B=some r→WP P rd base y st Φ)
  (he:evo (lk st.slots) op=some (.bool b):=by as_aux_lemma=>kernel_rfl):WP P rd base (.cond op x y) st Φ:=wp_cond he (fun hb=>h1 hb (by rw [hb] at h; simpa using h)) (fun hb=>h2 hb (by rw [hb] at h; simpa using h))
theorem rwg (live keep:List Nat) (hk:RW P rd base ops none i (gx base live keep st) Φ) (h:(gcSt base live keep st).isSome=true:=by as_aux_lemma=>kernel_rfl):RW P rd base ops none i st Φ:=rw_wk (wk_gc (get_of h)) hk
theorem wcT {x:Code} {op:Operand} (h:WP P rd base x st Φ) (he:evo (lk st.slots) op=some (.bool true):=by as_aux_lemma=>kernel_rfl):WP P rd base (.cond op x y) st Φ:=wp_condT he h
theorem wcF {x:Code} {op:Operand} (h:WP P rd base y st Φ) (he:evo (lk st.slots) op=some (.bool false):=by as_aux_lemma=>kernel_rfl):WP P rd base (.cond op x y) st Φ:=wp_condF he h
theorem rgd {acc:List Sk} (h:Φ (.go .normal st)) (hi:i=ops.size:=by rfl) (hc:compatD ops.toList acc=true:=by as_aux_lemma=>kernel_rfl):RW P rd base ops (some acc) i st Φ:=reg_endD hi hc h
theorem kr {α:Sort _} {a b:α} (h:a=b:=by as_aux_lemma=>kernel_rfl):a=b:=h
def gt0 (o:Option St):St:=match o with | some S=>S | none=>⟨[],[],0⟩
theorem gE {o:Option St} (h:o.isSome=true:=by as_aux_lemma=>kernel_rfl):o=some (gt0 o):=by
 cases o with
 | none=>cases h
 | some S=>rfl
theorem gF {α:Type} {o:α→Option St} (h:∀x,(o x).isSome=true:=by as_aux_lemma=>(intro _; kernel_rfl)):∀x,o x=some (gt0 (o x)):=fun x=>gE (h x)
def putBs (b:Bool):List Nat → List (Nat × AV)→List (Nat × AV)
 | [],s=>s
 | t::ts,s=>putBs b ts (setS s t (.bool b))
def pB (ts:List Nat) (b:Bool) (st:St):St:=⟨putBs b ts st.slots,st.objs,st.nt⟩
theorem wb (ts:List Nat) {R:Type} {b:Bool} {A B:Option R} {r:R} (h:(if b=true then A else B)=some r) (h1:b=true→A=some r→WP P rd base c (pB ts true st) Φ) (h2:b=false→B=some r→WP P rd base c (pB ts false st) Φ) (hS:st=pB ts b st:=by as_aux_lemma=>kernel_rfl):WP P rd base c st Φ:=by
 rw [hS]; exact wp_br (S:=fun b=>pB ts b st) h h1 h2
theorem rb (ts:List Nat) {R:Type} {b:Bool} {A B:Option R} {r:R} (h:(if b=true then A else B)=some r) (h1:b=true→A=some r→RW P rd base ops d i (pB ts true st) Φ) (h2:b=false→B=some r→RW P rd base ops d i (pB ts false st) Φ) (hS:st=pB ts b st:=by as_aux_lemma=>kernel_rfl):RW P rd base ops d i st Φ:=by
 rw [hS]; exact rw_br (S:=fun b=>pB ts b st) h h1 h2
theorem callW {α R:Type} {G:Option α} {K:α→Option R} {f:FuncId} {us:List AV} {rv:α→AV} {ro:α→List AObj} {r:R} (hb:bodyB P f=true)
  (hc:∀x,G=some x→CallOk P f us (.ret (rv x) (ro x))) (h:G.bind K=some r)
  (k:∀x,G=some x→K x=some r→RW P rd base ops (dAdd d [callSk st [] (rv x) (ro x)]) (i+1) (gt0 (callSt ops i st [] (rv x) (ro x))) Φ)
  (hi:callInfo ops i st=some (f,us):=by as_aux_lemma=>kernel_rfl) (hsn:mapSnap (snap st.sto snapDepth) us=some (us,[]):=by as_aux_lemma=>kernel_rfl)
  (hS:∀x,(callSt ops i st [] (rv x) (ro x)).isSome=true:=by as_aux_lemma=>(intro _; kernel_rfl)):RW P rd base ops d i st Φ :=
 callR hi hb hsn hc (gF hS) h k
theorem rknN {n m:Nat} {S:Nat → St} (hb:n=m) (h:RW P rd base ops d i (S m) Φ) (hS:st=S n:=by as_aux_lemma=>kernel_rfl):RW P rd base ops d i st Φ:=by rw [hS]; exact rw_knN hb h
end
abbrev z1:List Int→AV:=eL true eI
abbrev z2:List (List Int)→AV:=eL false z1
abbrev zw:Int→Int:=IntKind.i64.wrap
abbrev zv:Int→Int:=IntKind.u64.wrap
abbrev zt:Int→Nat := Int.toNat
abbrev zn {α:Type} (l:List α):Int:=(l.length:Int)
end Go.Ab
namespace Go.Ab
def recN {σ ρ:Type} (F:(σ→Option ρ)→σ→Option ρ):Nat → σ→Option ρ
 | 0,_=>none
 | n+1,s=>F (recN F n) s
def RecOk (P:Program) (N:Nat) (c:Code) {σ ρ:Type} (I:σ→St) (E:ρ→St) (d:σ→Option ρ):Prop :=
 ∀s x,d s=some x→WP P none N c (I s) (fun o=>o=.go .ret (E x)∨o=.go .normal (E x))
theorem rec_ok {P:Program} {N:Nat} {c:Code} {σ ρ:Type} {I:σ→St} {E:ρ→St} {F:(σ→Option ρ)→σ→Option ρ}
  (step:∀d,RecOk P N c I E d→∀s x,F d s=some x→WP P none N c (I s) (fun o=>o=.go .ret (E x)∨o=.go .normal (E x))):∀n,RecOk P N c I E (recN F n)
 | 0=>fun s x h=>by cases h
 | n+1=>fun s x h=>step _ (rec_ok step n) s x h
section
variable {P:Program} {rd:Option Nat} {base:Nat} {ops:Array Oper} {st:St} {Φ:AOut→Prop} {i:Nat}
theorem recI {σ ρ R:Type} {N:Nat} {c:Code} {I:σ→St} {E:ρ→St} {d:σ→Option ρ} {K:ρ→Option R} {r:R} {f:FuncId} {fn:Func} {as0:List AV} (s0:σ)
  (hi:callInfo ops i st=some (f,as0)) (hf:P.funcs[f]?=some fn) (hb:fn.body=some c) (hn:(fn.name == "runtime.NumGoroutine")=false) (hle:Nat.ble as0.length fn.ntmps=true)
  (h0:(⟨enumA 0 as0,st.objs,fn.ntmps⟩:St)=I s0) (hN:st.objs.length=N) (IH:RecOk P N c I E d) (h:(d s0).bind K=some r)
  (k:∀x,K x=some r→∃S,inlEnd P fn ops i st (.go .ret (E x))=some S∧RW P rd base ops none (i+1) S Φ):RW P rd base ops none i st Φ:=by
 cases hx:d s0 with
 | none=>rw [hx] at h; cases h
 | some x =>
  rw [hx] at h
  refine inlR hi hf hb hn hle ?_
  rw [h0,hN]
  obtain ⟨out,h1,h2⟩:=IH s0 x hx
  refine ⟨out,h1,?_⟩
  rcases h2 with rfl | rfl
  ·exact k x h
  ·obtain ⟨S,k1,k2⟩:=k x h
   exact ⟨S,by rw [←k1]; rfl,k2⟩
end
section
variable {P:Program} {rd:Option Nat} {base:Nat} {ops:Array Oper} {st:St} {Φ:AOut→Prop} {i:Nat}
theorem recR {σ ρ R:Type} {N:Nat} {c:Code} {I:σ→St} {E:ρ→St} {F:(σ→Option ρ)→σ→Option ρ} {K:ρ→Option R} {r:R} {f:FuncId} {fn:Func} {as0:List AV} (s0:σ)
  (hi:callInfo ops i st=some (f,as0)) (hf:P.funcs[f]?=some fn) (hb:fn.body=some c) (hn:(fn.name == "runtime.NumGoroutine")=false) (hle:Nat.ble as0.length fn.ntmps=true)
  (h0:(⟨enumA 0 as0,st.objs,fn.ntmps⟩:St)=I s0) (hN:st.objs.length=N) (h:(recN F fuel s0).bind K=some r)
  (step:∀d,RecOk P N c I E d→∀s x,F d s=some x→WP P none N c (I s) (fun o=>o=.go .ret (E x)∨o=.go .normal (E x)))
  (k:∀x,K x=some r→∃S,inlEnd P fn ops i st (.go .ret (E x))=some S∧RW P rd base ops none (i+1) S Φ):RW P rd base ops none i st Φ :=
 recI s0 hi hf hb hn hle h0 hN (rec_ok step fuel) h k
end
end Go.Ab
namespace Go.Ab
open Go.RowKit
def wpAnyB (P:Program) (ops:Array Oper) (G:Array Bool→Nat → Foot) (Q:Slots→Sto→Prop):Nat → Array Bool→Slots→Sto→Prop
 | 0,listed,s,σ=>Region.ready .any ops listed=[]∧Q s σ
 | fuel+1,listed,s,σ=>(Region.ready .any ops listed=[]→Q s σ)∧∀i∈Region.ready .any ops listed,opA P ops (G listed) i (wpAnyB P ops G Q fuel (listed.setIfInBounds i true)) s σ
def footB (F:Nat → Foot) (p q:Nat) (Fp1 Fq1:Foot) (listed:Array Bool) (i:Nat):Foot :=
 if i=p then (if listed.getD q false=true then Fp1 else F p) else if i=q then (if listed.getD p false=true then F q else Fq1) else F i
section
variable {P:Program} {ops:Array Oper} {G:Array Bool→Nat → Foot} {Q:Slots→Sto→Prop} {s:Slots} {σ:Sto}
theorem yl_swap {oi oj:Oper} {Gi Gj:Foot} (hap:oi.apart ops oj=true) (hc:Compat Gi Gj) (hy:YlL P ops oi Gi s σ) (ha:YlL P ops oj Gj (putF s oi.dst Gi.v) (σ.puts Gi.eff)) :
  YlL P ops oj Gj s σ∧YlL P ops oi Gi (putF s oj.dst Gj.v) (σ.puts Gj.eff)∧putF (putF s oi.dst Gi.v) oj.dst Gj.v=putF (putF s oj.dst Gj.v) oi.dst Gi.v∧(σ.puts Gi.eff).puts Gj.eff=(σ.puts Gj.eff).puts Gi.eff:=by
 obtain ⟨h1,h2,h3⟩:=Oper.apart_spec hap
 refine ⟨fun s' σ' hs hσ=>ha s' σ' (fun t ht=>?_) (fun k hk=>?_),fun s' σ' hs hσ=>hy s' σ' (fun t ht=>?_) (fun k hk=>?_),?_,?_⟩
 ·rw [putF_not (fun k hk e=>h1 k hk (e ▸ ht))]; exact hs t ht
 ·rw [puts_not (fun e he hek=>hc.a e he (hek ▸ hk))]; exact hσ k hk
 ·rw [hs t ht,putF_not (fun k hk e=>h3 k hk (e ▸ ht))]
 ·rw [hσ k hk,puts_not (fun e he hek=>hc.b e he (hek ▸ hk))]
 ·exact putF_comm (fun t ht e=>h2 t ht e)
 ·exact puts_comm (fun e he e' he'=>hc.c e he e' he')
theorem wpAnyB_first {i:Nat} {oi:Oper} {Fi:Foot} (hi:ops[i]?=some oi) (hGi:∀L,G L i=Fi) (hGs:∀(L:Array Bool) (j:Nat),G (L.setIfInBounds i true) j=G L j) (hcp:∀L j oj,ops[j]?=some oj→j≠i→¬ Behind ops i j→Compat Fi (G L j)):∀(fuel:Nat) (listed:Array Bool) (s:Slots) (σ:Sto),Closed ops listed →
  (∀j oj,ops[j]?=some oj→j≠i→listed.getD j true=false→(∀e∈oj.after,Region.binds .any e=true→e.on≠i)→oi.apart ops oj=true) →
  i∈Region.ready .any ops listed→YlL P ops oi Fi s σ →
  wpAnyB P ops G Q fuel (listed.setIfInBounds i true) (putF s oi.dst Fi.v) (σ.puts Fi.eff)→wpAnyB P ops G Q (fuel+1) listed s σ:=by
 have here:∀(L:Array Bool) (K:Slots→Sto→Prop) s σ,YlL P ops oi Fi s σ→K (putF s oi.dst Fi.v) (σ.puts Fi.eff)→opA P ops (G L) i K s σ:=fun L K s σ h1 h2=>by
  unfold opA; simp only [hi,hGi]; exact ⟨h1,h2⟩
 intro fuel
 induction fuel with
 | zero =>
  intro listed s σ _ _ hr hy H
  refine ⟨fun h=>(by rw [h] at hr; cases hr),fun j hj=>?_⟩
  by_cases hji:j=i
  ·subst hji; exact here _ _ _ _ hy H
  ·have:=ready_mono hj hji
   rw [H.1] at this
   cases this
 | succ fuel ih =>
  intro listed s σ hcl hfree hr hy H
  refine ⟨fun h=>(by rw [h] at hr; cases hr),fun j hj=>?_⟩
  by_cases hji:j=i
  ·subst hji; exact here _ _ _ _ hy H
  ·have h1:=H.2 j (ready_mono hj hji)
   obtain ⟨hjun,oj,hoj,hall⟩:=mem_ready.1 hj
   have hiun:=(mem_ready.1 hr).1
   have hne:∀e∈oj.after,Region.binds .any e=true→e.on≠i:=fun e he hb hon=>by
    have:=hall e he hb
    rw [hon] at this
    exact not_both hiun this
   have hap:=hfree j oj hoj hji hjun hne
   unfold opA at h1 ⊢
   simp only [hoj] at h1 ⊢
   rw [hGs] at h1
   obtain ⟨y1,K1⟩:=h1
   obtain ⟨g1,g2,g3,g4⟩:=yl_swap hap (hcp listed j oj hoj hji (ready_free hcl hj hiun)) hy y1
   refine ⟨g1,ih (listed.setIfInBounds j true) _ _ (hcl.add hj) (fun k ok hk hki hun hno=>hfree k ok hk hki ?_ hno) (ready_mono hr (Ne.symm hji)) g2 ?_⟩
   ·by_cases hjk:j=k
    ·subst hjk; exact hjun
    ·rw [getD_set_ne true hjk] at hun; exact hun
   ·rw [Array.setIfInBounds_comm _ _ hji,←g3,←g4]
    exact K1
def eqN:List Nat → List Nat → Bool
 | [],[]=>true
 | x::l,y::m=>Nat.beq x y && eqN l m
 | _,_=>false
theorem eqN_spec:∀{l m:List Nat},eqN l m=true→l=m
 | [],[],_=>rfl
 | x::l,y::m,h=>by simp only [eqN,Bool.and_eq_true] at h; rw [Nat.eq_of_beq_eq_true h.1,eqN_spec h.2]
 | [],_::_,h=>by cases h
 | _::_,[],h=>by cases h
def postB (ops:Array Oper) (p q:Nat):List Nat → Array Bool→Bool
 | [],L=>eqN (Region.ready .any ops L) []
 | i::l,L=>eqN (Region.ready .any ops L) [i] && !Nat.beq i p && !Nat.beq i q && postB ops p q l (L.setIfInBounds i true)
def preB (ops:Array Oper) (p q:Nat) (post:List Nat):List Nat → Array Bool→Bool
 | [],L=>eqN (Region.ready .any ops L) [p,q] && eqN (Region.ready .any ops (L.setIfInBounds p true)) [q] && eqN (Region.ready .any ops (L.setIfInBounds q true)) [p] &&
   postB ops p q post ((L.setIfInBounds p true).setIfInBounds q true) && postB ops p q post ((L.setIfInBounds q true).setIfInBounds p true) && !L.getD p false && !L.getD q false && Nat.blt p L.size && Nat.blt q L.size
 | i::l,L=>hasN (Region.ready .any ops L) i && Region.free .any ops L i && !Nat.beq i p && !Nat.beq i q && preB ops p q post l (L.setIfInBounds i true)
def RunP (P:Program) (ops:Array Oper) (F:Nat → Foot) (K:Slots→Sto→Prop):List Nat → Slots→Sto→Prop
 | [],s,σ=>K s σ
 | i::l,s,σ=>∃oi,ops[i]?=some oi∧YlL P ops oi (F i) s σ∧RunP P ops F K l (putF s oi.dst (F i).v) (σ.puts (F i).eff)
def TailP (P:Program) (op oq:Oper) (Fp Fq Fp1 Fq1:Foot) (ops:Array Oper) (Q:Slots→Sto→Prop) (s:Slots) (σ:Sto):Prop :=
 (YlL P ops op Fp s σ∧YlL P ops oq Fq (putF s op.dst Fp.v) (σ.puts Fp.eff)∧Q (putF (putF s op.dst Fp.v) oq.dst Fq.v) ((σ.puts Fp.eff).puts Fq.eff)) ∧
 (YlL P ops oq Fq1 s σ∧YlL P ops op Fp1 (putF s oq.dst Fq1.v) (σ.puts Fq1.eff)∧Q (putF (putF s oq.dst Fq1.v) op.dst Fp1.v) ((σ.puts Fq1.eff).puts Fp1.eff))
theorem wpAnyB_post {F:Nat → Foot} {p q:Nat} {Fp1 Fq1:Foot}:∀(l:List Nat) (L:Array Bool) (s:Slots) (σ:Sto),postB ops p q l L=true→RunP P ops F Q l s σ→wpAnyB P ops (footB F p q Fp1 Fq1) Q l.length L s σ
 | [],L,s,σ,hB,hR=>⟨eqN_spec hB,hR⟩
 | i::l,L,s,σ,hB,hR=>by
  simp only [postB,Bool.and_eq_true,Bool.not_eq_true'] at hB
  obtain ⟨⟨⟨b1,b3⟩,b4⟩,b5⟩:=hB
  have b1:=eqN_spec b1
  have hip:i≠p:=fun e=>by subst e; rw [Nat.beq_refl] at b3; cases b3
  have hiq:i≠q:=fun e=>by subst e; rw [Nat.beq_refl] at b4; cases b4
  obtain ⟨oi,hoi,hy,hR'⟩:=hR
  refine ⟨fun h=>(by rw [b1] at h; cases h),fun j hj=>?_⟩
  rw [b1] at hj
  simp only [List.mem_cons,List.not_mem_nil,or_false] at hj
  subst hj
  have hG:footB F p q Fp1 Fq1 L j=F j:=by unfold footB; rw [if_neg hip,if_neg hiq]
  unfold opA
  simp only [hoi,hG]
  exact ⟨hy,wpAnyB_post l _ _ _ b5 hR'⟩
theorem wpAnyB_pre {post:List Nat} {F:Nat → Foot} {p q:Nat} {op oq:Oper} {Fp1 Fq1:Foot} (hp:ops[p]?=some op) (hq:ops[q]?=some oq) (hpq:p≠q)
  {pre:List Nat} (hcp:∀i L j oj,i∈pre→ops[j]?=some oj→j≠i→¬ Behind ops i j→Compat (F i) (footB F p q Fp1 Fq1 L j)) :
  ∀(l:List Nat) (L:Array Bool) (s:Slots) (σ:Sto),Closed ops L→(∀i∈l,i∈pre)→preB ops p q post l L=true→RunP P ops F (TailP P op oq (F p) (F q) Fp1 Fq1 ops (RunP P ops F Q post)) l s σ→wpAnyB P ops (footB F p q Fp1 Fq1) Q (l.length+(post.length+2)) L s σ
 | [],L,s,σ,_,_,hB,hR=>by
  simp only [preB,Bool.and_eq_true,Bool.not_eq_true'] at hB
  obtain ⟨⟨⟨⟨⟨⟨⟨⟨b1,b2⟩,b3⟩,b4⟩,b5⟩,b6⟩,b7⟩,b8⟩,b9⟩:=hB
  have b1:=eqN_spec b1; have b2:=eqN_spec b2; have b3:=eqN_spec b3
  obtain ⟨⟨t1,t2,t3⟩,t4,t5,t6⟩:=hR
  have gp:∀L:Array Bool,L.getD q false=false→footB F p q Fp1 Fq1 L p=F p:=fun L h=>by unfold footB; rw [if_pos rfl,if_neg (by rw [h]; simp)]
  have gp1:∀L:Array Bool,L.getD q false=true→footB F p q Fp1 Fq1 L p=Fp1:=fun L h=>by unfold footB; rw [if_pos rfl,if_pos h]
  have gq:∀L:Array Bool,L.getD p false=true→footB F p q Fp1 Fq1 L q=F q:=fun L h=>by unfold footB; rw [if_neg (Ne.symm hpq),if_pos rfl,if_pos h]
  have gq1:∀L:Array Bool,L.getD p false=false→footB F p q Fp1 Fq1 L q=Fq1:=fun L h=>by unfold footB; rw [if_neg (Ne.symm hpq),if_pos rfl,if_neg (by rw [h]; simp)]
  have lp:(L.setIfInBounds p true).getD p false=true:=by have:=of_blt b8; simp [Array.getD,this]
  have lq:(L.setIfInBounds q true).getD q false=true:=by have:=of_blt b9; simp [Array.getD,this]
  rw [List.length_nil,Nat.zero_add]
  refine ⟨fun h=>(by rw [b1] at h; cases h),fun i hi=>?_⟩
  rw [b1] at hi
  simp only [List.mem_cons,List.not_mem_nil,or_false] at hi
  rcases hi with rfl | rfl
  ·unfold opA
   simp only [hp,gp L b7]
   refine ⟨t1,fun h=>(by rw [b2] at h; cases h),fun j hj=>?_⟩
   rw [b2] at hj
   simp only [List.mem_cons,List.not_mem_nil,or_false] at hj
   subst hj
   unfold opA
   simp only [hq,gq _ lp]
   exact ⟨t2,wpAnyB_post post _ _ _ b4 t3⟩
  ·unfold opA
   simp only [hq,gq1 L b6]
   refine ⟨t4,fun h=>(by rw [b3] at h; cases h),fun j hj=>?_⟩
   rw [b3] at hj
   simp only [List.mem_cons,List.not_mem_nil,or_false] at hj
   subst hj
   unfold opA
   simp only [hp,gp1 _ lq]
   exact ⟨t5,wpAnyB_post post _ _ _ b5 t6⟩
 | i::l,L,s,σ,hcl,hl,hB,hR=>by
  simp only [preB,Bool.and_eq_true,Bool.not_eq_true'] at hB
  obtain ⟨⟨⟨⟨b1,b2⟩,b3⟩,b4⟩,b5⟩:=hB
  have hip:i≠p:=fun e=>by subst e; rw [Nat.beq_refl] at b3; cases b3
  have hiq:i≠q:=fun e=>by subst e; rw [Nat.beq_refl] at b4; cases b4
  have hr:i∈Region.ready .any ops L:=by
   simp only [hasN,List.any_eq_true] at b1
   obtain ⟨x,hx,e⟩:=b1
   rw [←Nat.eq_of_beq_eq_true e]; exact hx
  obtain ⟨oi,hoi,hy,hR'⟩:=hR
  have hG:∀L,footB F p q Fp1 Fq1 L i=F i:=fun L=>by unfold footB; rw [if_neg hip,if_neg hiq]
  have hGs:∀(L:Array Bool) (j:Nat),footB F p q Fp1 Fq1 (L.setIfInBounds i true) j=footB F p q Fp1 Fq1 L j:=fun L j=>by
   unfold footB; rw [getD_set_ne false hiq,getD_set_ne false hip]
  rw [List.length_cons,show l.length+1+(post.length+2)=(l.length+(post.length+2))+1 by omega]
  exact wpAnyB_first hoi hG hGs (fun L j oj hoj hj hne=>hcp i L j oj (hl i (by simp)) hoj hj hne) (l.length+(post.length+2)) L s σ hcl (fun j oj hj hne hun hno=>Region.free_spec hoi b2 j oj hj hne hun hno) hr hy (wpAnyB_pre hp hq hpq hcp l _ _ _ (hcl.add hr) (fun k hk=>hl k (by simp [hk])) b5 hR')
end
section
variable {P:Program} {ops:Array Oper} {G:Array Bool→Nat → Foot} {s s':Slots} {σ:Sto} {B:Nat} {W0 W:World} {D:List Nat} {M:CM} {ι:Inj} {a:Act} {Q:Exit→Act→World→Prop} {QA:Slots→Sto→Prop}
theorem inR_no {n k:Nat} (h:InR n n k):False:=by
 rcases h with h | ⟨_,_,h1,h2,_⟩ <;> omega
theorem wpAnyIn_of_B {r:Option Nat} {n N:Nat} {nt:Nat} (hdst:∀(i:Nat) (o:Oper) (d:Tmp),ops[i]?=some o→o.dst=some d→d < nt) (hfr:∀L i,(G L i).fr=N∧(G L i).fr'=N) :
  ∀(fuel:Nat) (listed:Array Bool) (s:Slots) (σ:Sto) (M:CM) (ι:Inj) (a:Act) (W:World),wpAnyB P ops G QA fuel listed s σ →
  Rel P B W0 D M ι σ W→SlotsOk M ι s a.tmps→a.tmps.size=nt →
  (∀s' σ' M' ι' a' W',QA s' σ'→CM.Grow B M M'→ι.le ι'→(∀k,ι' k=ι k)→Rel P B W0 D M' ι' σ' W'→SlotsOk M' ι' s' a'.tmps→a'.tmps.size=nt→a'.defers=a.defers→Q .normal a' W') →
  wpAnyIn (FW r) n P .any ops Q fuel listed a W:=by
 intro fuel
 induction fuel with
 | zero =>
  intro listed s σ M ι a W h hrel hs hnt hQ
  exact ⟨h.1,hQ s σ M ι a W h.2 (.refl _ _) (Inj.le_refl _) (fun _=>rfl) hrel hs hnt rfl⟩
 | succ fuel ih =>
  intro listed s σ M ι a W h hrel hs hnt hQ
  refine ⟨fun h0=>hQ s σ M ι a W (h.1 h0) (.refl _ _) (Inj.le_refl _) (fun _=>rfl) hrel hs hnt rfl,fun i hi'=>?_⟩
  have h1:=h.2 i hi'
  obtain ⟨hun,o,ho,_⟩:=mem_ready.1 hi'
  unfold opA at h1
  simp only [ho] at h1
  obtain ⟨hy,hK⟩:=h1
  unfold wpOpIn
  simp only [ho]
  rcases hy s σ (fun _ _=>rfl) (fun _ _=>rfl) with ⟨hw,hdo⟩ | ⟨hw,hv,heff⟩
  ·rw [if_pos (wantedA_sound hs hw)]
   refine hdo B W0 D M ι a W n Q r _ hrel hs (fun k hk=>?_) (fun v W' M' ι' g1 g2 g3 g4 g5=>?_)
   ·rw [(hfr listed i).1,(hfr listed i).2] at hk; exact (inR_no hk).elim
   have g3':∀k,ι' k=ι k:=fun k=>g3 k (fun hk=>by rw [(hfr listed i).1,(hfr listed i).2] at hk; exact inR_no hk)
   have hs':=slotsOk_putF (dst:=o.dst) (u:=v) (hs.mono g1.le g2) (fun d hd=>by rw [hnt]; exact hdst i o d ho hd) g5
   refine ih _ _ _ M' ι' _ W' hK g4 hs' (by cases o.dst <;> simp [Act.put,hnt]) (fun s2 σ2 M2 ι2 a2 W2 k1 k2 k3 k4 k5 k6 k7 k8=>?_)
   exact hQ s2 σ2 M2 ι2 a2 W2 k1 (g1.trans k2) (Inj.le_trans g2 k3) (fun k=>by rw [k4 k,g3' k]) k5 k6 k7 (by rw [k8]; cases o.dst <;> rfl)
  ·rw [if_neg (by rw [wantedA_sound hs hw]; simp)]
   refine ⟨fun _ _=>trivial,?_⟩
   have hs':=slotsOk_putF (dst:=o.dst) (u:=undef) (v:=(G listed i).v) hs (fun d hd=>by rw [hnt]; exact hdst i o d ho hd) (fun x hx=>by rw [hv] at hx; cases hx; exact undef_rep)
   rw [heff] at hK
   refine ih _ _ _ M ι _ W hK hrel hs' (by cases o.dst <;> simp [Act.put,hnt]) (fun s2 σ2 M2 ι2 a2 W2 k1 k2 k3 k4 k5 k6 k7 k8=>?_)
   exact hQ s2 σ2 M2 ι2 a2 W2 k1 k2 k3 k4 k5 k6 k7 (by rw [k8]; cases o.dst <;> rfl)
end
def bare (o:Oper):Oper:={ o with after:=#[] }
def behB (ops:Array Oper) (i:Nat):Nat → Nat → Bool
 | 0,_=>false
 | n+1,j=>match ops[j]? with
  | some o=>o.after.toList.any fun e=>Region.binds .any e && (Nat.beq e.on i || behB ops i n e.on)
  | none=>false
theorem behB_spec {ops:Array Oper} {i:Nat}:∀{n j:Nat},behB ops i n j=true→Behind ops i j
 | 0,_,h=>by cases h
 | n+1,j,h=>by
  unfold behB at h
  split at h
  ·rename_i o ho
   obtain ⟨e,he,h⟩:=List.any_eq_true.1 h
   simp only [Bool.and_eq_true,Bool.or_eq_true] at h
   rcases h.2 with h2 | h2
   ·exact .one ho (by simpa using he) h.1 (Nat.eq_of_beq_eq_true h2)
   ·exact .more ho (by simpa using he) h.1 (behB_spec h2)
  ·cases h
def preOp (ops:Array Oper) (p i:Nat) (o:Oper):Oper:={ o with after:=if behB ops i 6 p then #[{ on:=0,ground:=.data }] else #[] }
def preOps (ops:Array Oper) (p q:Nat) (l:List Nat):List Oper:=l.filterMap fun i=>(ops[i]?).map (preOp ops p i)
def ph1:Oper:={ (default:Oper) with after:=#[{ on:=0,ground:=.data }] }
def mkPre (ops:Array Oper) (p q:Nat) (l:List Nat):Array Oper:=((bare default)::ph1::preOps ops p q l).toArray
def chain (ops:Array Oper):Nat → List Nat → List Oper
 | _,[]=>[]
 | k,i::l=>match ops[i]? with
  | some o=>{ o with after:=#[{ on:=k,ground:=.data }] }::chain ops (k+1) l
  | none=>chain ops k l
def mkPost (ops:Array Oper) (l:List Nat):Array Oper:=((bare default)::chain ops 0 l).toArray
def lkF (d:Foot):List Nat → List Foot→Nat → Foot
 | i::l,F::fs,j=>if Nat.beq i j then F else lkF d l fs j
 | _,_,_=>d
section
variable {P:Program} {rd:Option Nat} {base:Nat} {ops ops0:Array Oper} {st st1 st2 st3:St}
theorem ylL_bare {o:Oper} {x:Array Edge} {F:Foot} {s:Slots} {σ:Sto} (hg:o.guard=none) (h:YlL P ops0 { o with after:=x } F s σ):YlL P ops o F s σ:=by
 intro s' σ' hs hσ
 have h1:=h s' σ' (fun t ht=>hs t (by simpa [Oper.looksAt,hg] using ht)) hσ
 rcases h1 with ⟨h1,h2⟩ | ⟨h1,_,_⟩
 ·exact .inl ⟨by unfold wantedA; rw [hg],h2⟩
 ·unfold wantedA at h1
  have:({ o with after:=x }:Oper).guard=none:=hg
  rw [this] at h1
  cases h1
def Lst (ops:Array Oper):List Oper→List Nat → Prop
 | [],[]=>True
 | o'::l0,i::l=>(∃o x,ops[i]?=some o∧o.guard=none∧o'={ o with after:=x })∧Lst ops l0 l
 | _,_=>False
theorem runP_of (d:Foot) {K:Slots→Sto→Prop} {F:Nat → Foot}:∀(l:List Nat) (l0:List Oper) (fs:List Foot) (st:St),l.Nodup→Lst ops l0 l→DRel P ops0 l0 st fs st1 →
  (∀i∈l,F i=lkF d l fs i)→K (lk st1.slots) (sto st1.objs)→RunP P ops F K l (lk st.slots) (sto st.objs)
 | [],[],fs,st,_,_,h,_,hK=>by
  obtain ⟨_,rfl⟩:=h
  exact hK
 | [],_::_,fs,st,_,h,_,_,_=>h.elim
 | _::_,[],fs,st,_,h,_,_,_=>h.elim
 | i::l,o'::l0,fs,st,hnd,hg,h,hF,hK=>by
  obtain ⟨⟨o,x,ho,hgo,rfl⟩,hg'⟩:=hg
  obtain ⟨F0,fs0,st2,rfl,hS,hD⟩:=h
  have hFi:F i=F0:=by rw [hF i (by simp)]; simp [lkF]
  rw [List.nodup_cons] at hnd
  refine ⟨o,ho,by rw [hFi]; exact ylL_bare hgo hS.yl,?_⟩
  have:=runP_of d (K:=K) (F:=F) l l0 fs0 st2 hnd.2 hg' hD (fun j hj=>by
   rw [hF j (by simp [hj])]
   have hne:Nat.beq i j=false:=by
    rw [Bool.eq_false_iff]; intro e2
    have:=Nat.eq_of_beq_eq_true e2
    subst this; exact hnd.1 hj
   simp [lkF,hne]) hK
  rw [hFi]
  rw [lk_putD hS.dst,hS.eff] at this
  exact this
theorem lkF_get (d:Foot):∀(l:List Nat) (fs:List Foot) (j:Nat),lkF d l fs j=d∨∃k:Nat,l[k]?=some j∧fs[k]?=some (lkF d l fs j)
 | [],fs,j=>.inl (by cases fs <;> rfl)
 | i::l,[],j=>.inl rfl
 | i::l,F::fs,j=>by
  by_cases e:i=j
  ·subst e; exact .inr ⟨0,rfl,by simp [lkF]⟩
  ·have hne:Nat.beq i j=false:=by
    rw [Bool.eq_false_iff]; intro e2; exact e (Nat.eq_of_beq_eq_true e2)
   rcases lkF_get d l fs j with h1 | ⟨k,h1,h2⟩
   ·exact .inl (by simp [lkF,hne,h1])
   ·exact .inr ⟨k+1,by simpa using h1,by simpa [lkF,hne] using h2⟩
theorem Compat.symm {F G:Foot} (h:Compat F G):Compat G F:=⟨h.b,h.a,fun e he e' he'=>Ne.symm (h.c e' he' e he)⟩
theorem no_behind {l:List Oper} (h:∀o∈l,∀e∈o.after,e.on=0) {i j:Nat} (hi:i≠0) (h0:∀o,l[0]?=some o→o.after=#[]) (hb:Behind l.toArray i j):False:=by
 have mem:∀{oj:Oper} {j:Nat},l.toArray[j]?=some oj→oj∈l:=fun {oj j} hj=>by
  have hj':l[j]?=some oj:=by simpa using hj
  exact List.mem_of_getElem? hj'
 have z:∀{j:Nat},Behind l.toArray i j→j≠0:=fun {j} hb e=>by
  subst e
  cases hb with
  | one hj he _ _=>rw [h0 _ (by simpa using hj)] at he; simp at he
  | more hj he _ _=>rw [h0 _ (by simpa using hj)] at he; simp at he
 cases hb with
 | one hj he _ e=>exact hi (by rw [←e]; exact h _ (mem hj) _ he)
 | more hj he _ k=>exact z k (h _ (mem hj) _ he)
theorem no_behind0 {l:List Oper} {k:Nat} {o:Oper} (hk:l[k]?=some o) (ho:o.after=#[]) {i:Nat} (hb:Behind l.toArray i k):False:=by
 have key:∀{oj:Oper} {e:Edge},l.toArray[k]?=some oj→e∈oj.after→False:=fun {oj e} hj he=>by
  have h1:l[k]?=some oj:=by simpa using hj
  rw [hk] at h1; cases h1; rw [ho] at he; simp at he
 cases hb with
 | one hj he _ _=>exact key hj he
 | more hj he _ _=>exact key hj he
theorem preOps_zero {p q:Nat} {l:List Nat}:∀o∈preOps ops p q l,∀e∈o.after,e.on=0:=by
 intro o ho
 simp only [preOps,List.mem_filterMap,Option.map_eq_some_iff] at ho
 obtain ⟨_,_,x,_,rfl⟩:=ho
 intro e he
 unfold preOp at he
 simp only at he
 split at he
 ·simp at he; rw [he]
 ·simp at he
def plainB (ops:Array Oper) (l:List Nat):Bool:=l.all fun i=>match ops[i]? with | some o=>o.guard.isNone | none=>false
theorem plainB_spec {l:List Nat} (h:plainB ops l=true):∀i∈l,∃o,ops[i]?=some o∧o.guard=none:=by
 intro i hi
 simp only [plainB,List.all_eq_true] at h
 have:=h i hi
 split at this
 ·rename_i o ho; exact ⟨o,ho,by simpa using this⟩
 ·cases this
theorem lst_pre {p q:Nat}:∀{l:List Nat},(∀i∈l,∃o,ops[i]?=some o∧o.guard=none)→Lst ops (preOps ops p q l) l
 | [],_=>trivial
 | i::l,h=>by
  obtain ⟨o,ho,hg⟩:=h i (by simp)
  have e:preOps ops p q (i::l)=preOp ops p i o::preOps ops p q l:=by simp [preOps,ho]
  rw [e]
  exact ⟨⟨o,_,ho,hg,rfl⟩,lst_pre fun j hj=>h j (by simp [hj])⟩
theorem preOps_get {p q:Nat}:∀{l:List Nat},(∀i∈l,∃o,ops[i]?=some o∧o.guard=none)→∀{k i:Nat},l[k]?=some i→∃o,(preOps ops p q l)[k]?=some (preOp ops p i o)
 | [],_,k,i,hk=>by simp at hk
 | j::l,h,k,i,hk=>by
  obtain ⟨o,ho,hg⟩:=h j (by simp)
  have e:preOps ops p q (j::l)=preOp ops p j o::preOps ops p q l:=by simp [preOps,ho]
  rw [e]
  cases k with
  | zero=>simp at hk; subst hk; exact ⟨o,rfl⟩
  | succ k=>simp at hk; obtain ⟨o',ho'⟩:=preOps_get (fun m hm=>h m (by simp [hm])) hk; exact ⟨o',by simpa using ho'⟩
theorem lst_chain:∀{l:List Nat} (k:Nat),(∀i∈l,∃o,ops[i]?=some o∧o.guard=none)→Lst ops (chain ops k l) l
 | [],_,_=>trivial
 | i::l,k,h=>by
  obtain ⟨o,ho,hg⟩:=h i (by simp)
  simp only [chain,ho]
  exact ⟨⟨o,_,ho,hg,rfl⟩,lst_chain (k+1) fun j hj=>h j (by simp [hj])⟩
theorem lst_at : ∀{l0:List Oper} {l:List Nat},Lst ops l0 l→∀(i:Nat) (o:Oper),i∈l→ops[i]?=some o→∃(k:Nat) (o':Oper),l0[k]?=some o'∧o'.dst=o.dst
 | [],[],_,i,o,h,_=>by simp at h
 | [],_::_,h,_,_,_,_=>h.elim
 | _::_,[],h,_,_,_,_=>h.elim
 | o'::l0,j::l,h,i,o,hi,ho=>by
  obtain ⟨⟨o2,x,h1,h2,rfl⟩,h3⟩:=h
  rcases List.mem_cons.1 hi with rfl | hi
  ·rw [ho] at h1; cases h1; exact ⟨0,_,rfl,rfl⟩
  ·obtain ⟨k,o3,e1,e2⟩:=lst_at h3 i o hi ho
   exact ⟨k+1,o3,by simpa using e1,e2⟩
structure OnO (ob N:Nat) (F:Foot):Prop where
 eff:∀e∈F.eff,e.1=ob
 rd:∀k∈F.rd,k=ob
 fr:F.fr=N
 fr':F.fr'=N
def Tail (P:Program) (ops:Array Oper) (p q ob:Nat) (st1 st3:St):Prop :=
 ∃(op oq:Oper) (a b:St) (Fp Fq Fp1 Fq1:Foot),ops[p]?=some op∧ops[q]?=some oq∧OnO ob st1.objs.length Fp∧OnO ob st1.objs.length Fq∧OnO ob st1.objs.length Fp1∧OnO ob st1.objs.length Fq1∧Fq.eff=[]∧Fq1.eff=[] ∧
  StepF P ops st1 op Fp a∧StepF P ops a oq Fq st3∧StepF P ops st1 oq Fq1 b∧StepF P ops b op Fp1 st3
def nodupB:List Nat → Bool
 | []=>true
 | x::l=>!hasN l x && nodupB l
theorem nodupB_spec:∀{l:List Nat},nodupB l=true→l.Nodup
 | [],_=>List.nodup_nil
 | x::l,h=>by
  simp only [nodupB,Bool.and_eq_true,Bool.not_eq_true'] at h
  exact List.nodup_cons.2 ⟨hasN_spec h.1,nodupB_spec h.2⟩
def waitB (ops:Array Oper) (pre post:List Nat):Bool:=post.all fun j=>pre.all fun i=>match ops[j]? with | some o=>o.after.any fun e=>Region.binds .any e && Nat.beq e.on i | none=>true
def pairB (ops:Array Oper) (p q ob:Nat) (pre post:List Nat):Bool :=
 !Nat.beq p q && plainB ops pre && plainB ops post && nodupB pre && nodupB post && preB ops p q post pre (Array.replicate ops.size false) && Nat.beq (pre.length+(post.length+2)) ops.size && Nat.blt ob BIG && waitB ops pre post &&
  ((List.range ops.size).all fun i=>hasN pre i || Nat.beq i p || Nat.beq i q || hasN post i) && (pre.all fun i=>!Nat.beq i p && !Nat.beq i q && !hasN post i) && (post.all fun i=>!Nat.beq i p && !Nat.beq i q)
theorem beq_ne {a b:Nat} (h:Nat.beq a b=false):a≠b:=fun e=>by subst e; rw [Nat.beq_refl] at h; cases h
theorem exec_pair {id p q ob:Nat} {pre post:List Nat} {st':St} (hm:(P.follows .mixedOrders || !Region.departs ops)=true) (hb:pairB ops p q ob pre post=true) {fs gs:List Foot} {ss:List Sk}
  (hrun:DRel P (mkPre ops p q pre) ((mkPre ops p q pre).toList.drop 2) st fs st1) (hcov:Covs fs ss) (hcomp:compatD (mkPre ops p q pre).toList ([([ob],[ob]),([],[ob])]++ss)=true) (hlen:st1.objs.length=st.objs.length) (ht:Tail P ops p q ob st1 st2)
  (hpost:DRel P (mkPost ops post) ((mkPost ops post).toList.drop 1) st2 gs st') (hlen':st'.objs.length=st.objs.length) :
  Exec P rd base (.region id ops true) st (.go .normal st'):=by
 intro B W0 D0 dl M ι a W n Q r hs hr hp
 simp only [pairB,Bool.and_eq_true,Bool.not_eq_true',List.all_eq_true] at hb
 obtain ⟨⟨⟨⟨⟨⟨⟨⟨⟨⟨⟨b1,b2⟩,b3⟩,b4⟩,b5⟩,b6⟩,b7⟩,b8⟩,b9⟩,b10⟩,b11⟩,b12⟩:=hb
 have hpq:=beq_ne b1
 have hpl1:=plainB_spec b2
 have hpl2:=plainB_spec b3
 have hnd1:=nodupB_spec b4
 have hnd2:=nodupB_spec b5
 have hnp:∀i∈pre,i≠p∧i≠q∧i ∉ post:=fun i hi=>by
  have:=b11 i hi
  exact ⟨beq_ne this.1.1,beq_ne this.1.2,hasN_spec this.2⟩
 have hnq:∀i∈post,i≠p∧i≠q:=fun i hi=>by
  have:=b12 i hi
  exact ⟨beq_ne this.1,beq_ne this.2⟩
 obtain ⟨op,oq,sa,sb,Fp,Fq,Fp1,Fq1,hop,hoq,o1,o2,o3,o4,o2e,o4e,t1,t2,t3,t4⟩:=ht
 rw [hlen] at o1 o2 o3 o4
 have hlist:(mkPre ops p q pre).toList=bare default::ph1::preOps ops p q pre:=by simp [mkPre]
 have hlist2:(mkPost ops post).toList=bare default::chain ops 0 post:=by simp [mkPost]
 rw [hlist] at hrun hcomp
 rw [hlist2] at hpost
 rw [List.drop_succ_cons,List.drop_succ_cons,List.drop_zero] at hrun
 rw [List.drop_succ_cons,List.drop_zero] at hpost
 simp only [compatD,Bool.and_eq_true] at hcomp
 have harr:∀o∈bare default::ph1::preOps ops p q pre,∀e∈o.after,e.on=0:=fun o ho=>by
  rcases List.mem_cons.1 ho with rfl | ho
  ·intro e he; simp [bare] at he
  rcases List.mem_cons.1 ho with rfl | ho
  ·intro e he; simp [ph1] at he; rw [he]
  ·exact preOps_zero o ho
 have harr0:∀o,(bare default::ph1::preOps ops p q pre)[0]?=some o→o.after=#[]:=fun o ho=>by
  simp at ho; rw [←ho]; rfl
 have hcv0:Cov (⟨none,[(ob,.dead)],st.objs.length,st.objs.length,[ob]⟩:Foot) (([ob],[ob]):Sk):=⟨fun e he=>⟨ob,by simp,.inl (by simp at he; rw [he])⟩,fun e he=>⟨ob,by simp,.inl (by simpa using he)⟩⟩
 have hcv1:Cov (⟨none,[],st.objs.length,st.objs.length,[ob]⟩:Foot) (([],[ob]):Sk):=⟨fun e he=>by simp at he,fun e he=>⟨ob,by simp,.inl (by simpa using he)⟩⟩
 have hcs:=compatSk_spec (ops:=(bare default::ph1::preOps ops p q pre).toArray) 0 (bare default::ph1::preOps ops p q pre) ((⟨none,[(ob,.dead)],st.objs.length,st.objs.length,[ob]⟩:Foot)::⟨none,[],st.objs.length,st.objs.length,[ob]⟩::fs) (([ob],[ob])::([],[ob])::ss) ⟨hcv0,hcv1,hcov⟩ hcomp.1 hcomp.2 (fun q=>by simp)
 obtain ⟨r1,r2,r3,r4,rb,r5⟩:=dRel_spec _ _ _ _ hrun
 obtain ⟨u1,u2,u3,u4,ub,u5⟩:=dRel_spec _ _ _ _ hpost
 have hl2:st2.objs.length=st.objs.length:=by rw [←t2.fr',o2.fr']
 have hN:∀(k:Nat) (F:Foot),fs[k]?=some F→F.fr=st.objs.length∧F.fr'=st.objs.length:=fun k F hk=>by
  obtain ⟨h1,h2,h3⟩:=r2.at k F hk
  omega
 have hN2:∀(k:Nat) (F:Foot),gs[k]?=some F→F.fr=st.objs.length∧F.fr'=st.objs.length:=fun k F hk=>by
  obtain ⟨h1,h2,h3⟩:=u2.at k F hk
  omega
 let d:Foot:=⟨none,[],st.objs.length,st.objs.length,[]⟩
 let F:Nat → Foot:=fun i=>if i=p then Fp else if i=q then Fq else if hasN post i=true then lkF d post gs i else lkF d pre fs i
 have hFp:F p=Fp:=by simp [F]
 have hFq:F q=Fq:=by simp [F,Ne.symm hpq]
 have hFi:∀i,i∈pre→F i=lkF d pre fs i:=fun i hi=>by
  obtain ⟨h1,h2,h3⟩:=hnp i hi
  have:hasN post i=false:=by
   rw [Bool.eq_false_iff]; intro c; exact h3 (hasN_mem c)
  simp [F,h1,h2,this]
 have hFj:∀i,i∈post→F i=lkF d post gs i:=fun i hi=>by
  obtain ⟨h1,h2⟩:=hnq i hi
  have:hasN post i=true:=by
   simp only [hasN,List.any_eq_true]; exact ⟨i,hi,Nat.beq_refl i⟩
  simp [F,h1,h2,this]
 have hopsk:∀(k:Nat) (G:Foot),fs[k]?=some G→∃o,(bare default::ph1::preOps ops p q pre)[k+2]?=some o:=fun k G hk=>by
  have hlt:k < fs.length:=(List.getElem?_eq_some_iff.1 hk).1
  rw [List.getElem?_cons_succ,List.getElem?_cons_succ]
  have:k < (preOps ops p q pre).length:=by rw [←r1]; exact hlt
  exact ⟨_,List.getElem?_eq_getElem this⟩
 have hquiet:∀i,i∈pre→¬ Behind ops i p→∀G:Foot,OnO ob st.objs.length G→Compat (F i) G:=fun i hi hnb G hG=>by
  rw [hFi i hi]
  rcases lkF_get d pre fs i with e | ⟨k,hki,hk⟩
  ·rw [e]; exact compat_nothing rfl rfl
  ·obtain ⟨o0,ho⟩:=preOps_get (p:=p) (q:=q) hpl1 hki
   have ho:(bare default::ph1::preOps ops p q pre)[k+2]?=some (preOp ops p i o0):=by rw [List.getElem?_cons_succ,List.getElem?_cons_succ]; exact ho
   have hz:(preOp ops p i o0).after=#[]:=by
    unfold preOp
    simp only
    rw [if_neg]
    intro c
    exact hnb (behB_spec c)
   have hc:=hcs 0 (k+2) ⟨none,[(ob,.dead)],st.objs.length,st.objs.length,[ob]⟩ _ _ (by omega) rfl (by rw [List.getElem?_cons_succ,List.getElem?_cons_succ]; exact hk) ho (fun hb=>no_behind0 (by rw [Nat.zero_add]; exact ho) hz hb)
   refine ⟨fun e he hm=>?_,fun e he=>?_,fun e he e' he'=>?_⟩
   ·have:=hG.rd _ hm
    exact hc.b e he (by simp [this])
   ·rw [hG.eff e he]; exact hc.a (ob,AObj.dead) (by simp)
   ·rw [hG.eff e' he']; exact Ne.symm (hc.c (ob,AObj.dead) (by simp) e he)
 have hquietQ:∀i,i∈pre→∀G:Foot,OnO ob st.objs.length G→G.eff=[]→Compat (F i) G:=fun i hi G hG hGe=>by
  rw [hFi i hi]
  rcases lkF_get d pre fs i with e | ⟨k,hki,hk⟩
  ·rw [e]; exact compat_nothing rfl rfl
  ·obtain ⟨o,ho⟩:=hopsk k _ hk
   have hc:=hcs 1 (k+2) ⟨none,[],st.objs.length,st.objs.length,[ob]⟩ _ o (by omega) rfl (by rw [List.getElem?_cons_succ,List.getElem?_cons_succ]; exact hk) ho (fun hb=>no_behind harr (by omega) harr0 hb)
   refine ⟨fun e he hm=>?_,fun e he=>?_,fun e he e' he'=>?_⟩
   ·have:=hG.rd _ hm
    exact hc.b e he (by simp [this])
   ·rw [hGe] at he; simp at he
   ·rw [hGe] at he'; simp at he'
 have hcp:∀i L j oj,i∈pre→ops[j]?=some oj→j≠i→¬ Behind ops i j→Compat (F i) (footB F p q Fp1 Fq1 L j):=fun i L j oj hi hoj hj hne=>by
  unfold footB
  split
  ·rename_i ej
   subst ej
   split
   ·exact hquiet i hi hne _ o3
   ·rw [hFp]; exact hquiet i hi hne _ o1
  ·split
   ·rename_i ej
    subst ej
    split
    ·rw [hFq]; exact hquietQ i hi _ o2 o2e
    ·exact hquietQ i hi _ o4 o4e
   ·rename_i hjp hjq
    by_cases hjpost:j∈post
    ·exfalso
     simp only [waitB,List.all_eq_true] at b9
     have:=b9 j hjpost i hi
     rw [hoj] at this
     obtain ⟨e,he,hbb⟩:=Array.any_eq_true'.1 this
     simp only [Bool.and_eq_true] at hbb
     exact hne (.one hoj he hbb.1 (Nat.eq_of_beq_eq_true hbb.2))
    ·have hlt:j < ops.size:=(Array.getElem?_eq_some_iff.1 hoj).1
     have hall:=b10 j (List.mem_range.2 hlt)
     simp only [Bool.or_eq_true] at hall
     have hjpre:j∈pre:=by
      rcases hall with ((h1 | h1) | h1) | h1
      ·exact hasN_mem h1
      ·exact absurd (Nat.eq_of_beq_eq_true h1) hjp
      ·exact absurd (Nat.eq_of_beq_eq_true h1) hjq
      ·exact absurd (hasN_mem h1) hjpost
     rw [hFi i hi,hFi j hjpre]
     rcases lkF_get d pre fs i with e | ⟨k,hk0,hk⟩
     ·rw [e]; exact compat_nothing rfl rfl
     ·rcases lkF_get d pre fs j with e | ⟨m,hm0,hm'⟩
      ·rw [e]; exact (compat_nothing rfl rfl).symm
      ·have hkm:k≠m:=fun e=>by subst e; rw [hk0] at hm0; exact hj (Option.some.inj hm0).symm
       rcases Nat.lt_or_gt_of_ne hkm with e | e
       ·obtain ⟨o,ho⟩:=hopsk m _ hm'
        exact hcs (k+2) (m+2) _ _ o (by omega) (by simpa using hk) (by simpa using hm') ho (fun hb=>no_behind harr (by omega) harr0 hb)
       ·obtain ⟨o,ho⟩:=hopsk k _ hk
        exact (hcs (m+2) (k+2) _ _ o (by omega) (by simpa using hm') (by simpa using hk) ho (fun hb=>no_behind harr (by omega) harr0 hb)).symm
 have hPost:RunP P ops F (fun s σ=>s=lk st'.slots∧σ=sto st'.objs) post (lk st2.slots) (sto st2.objs) :=
  runP_of d (st1:=st') post _ gs st2 hnd2 (lst_chain 0 hpl2) hpost (fun i hi=>hFj i hi) ⟨rfl,rfl⟩
 have hRun:RunP P ops F (TailP P op oq (F p) (F q) Fp1 Fq1 ops (RunP P ops F (fun s σ=>s=lk st'.slots∧σ=sto st'.objs) post)) pre (lk st.slots) (sto st.objs):=by
  refine runP_of d (st1:=st1) pre _ fs st hnd1 (lst_pre hpl1) hrun (fun i hi=>hFi i hi) ?_
  rw [hFp,hFq]
  have e1:=lk_putD t1.dst; have e2:=lk_putD t2.dst; have e3:=lk_putD t3.dst; have e4:=lk_putD t4.dst
  have f1:=t1.eff; have f2:=t2.eff; have f3:=t3.eff; have f4:=t4.eff
  refine ⟨⟨t1.yl,?_,?_⟩,⟨t3.yl,?_,?_⟩⟩
  ·have:=t2.yl; rw [e1,f1] at this; exact this
  ·rw [←e1,←f1,←e2,←f2]; exact hPost
  ·have:=t4.yl; rw [e3,f3] at this; exact this
  ·rw [←e3,←f3,←e4,←f4]; exact hPost
 have hA:=wpAnyB_pre hop hoq hpq hcp pre (Array.replicate ops.size false) (lk st.slots) (sto st.objs) (fun k ok _ hl=>by simp [Array.getD] at hl) (fun _ h=>h) b6 hRun
 rw [Nat.eq_of_beq_eq_true b7] at hA
 have hnt3:st'.nt=st.nt:=by rw [u3,t2.nt,t1.nt,r3]
 refine wpIn_region_draw (fun t=>?_)
 have hsch:Region.schedule (P.follows .mixedOrders) ops t=Region.linearise .any ops t:=by
  unfold Region.schedule; rw [if_pos hm]
 rw [hsch]
 refine wpAnyIn_sound ops.size t _ a _ ?_
 refine wpAnyIn_of_B (B:=B) (W0:=W0) (D:=dl++D0) (nt:=st.nt) (N:=st.objs.length) (fun i o e hi hd=>?_) (fun L i=>?_) ops.size _ _ _ M ι a _ hA hs.rel.drew hs.slots hs.nt ?_
 ·have hlt:i < ops.size:=(Array.getElem?_eq_some_iff.1 hi).1
  have hall:=b10 i (List.mem_range.2 hlt)
  simp only [Bool.or_eq_true] at hall
  rcases hall with ((h1 | h1) | h1) | h1
  ·obtain ⟨k,o',e1,e2⟩:=lst_at (lst_pre hpl1) i o (hasN_mem h1) hi
   exact r4 k o' e e1 (by rw [e2]; exact hd)
  ·have:=Nat.eq_of_beq_eq_true h1; subst this; rw [hop] at hi; cases hi; have:=putD_lt t1.dst e hd; rw [r3] at this; exact this
  ·have:=Nat.eq_of_beq_eq_true h1; subst this; rw [hoq] at hi; cases hi; have:=putD_lt t3.dst e hd; rw [r3] at this; exact this
  ·obtain ⟨k,o',e1,e2⟩:=lst_at (lst_chain 0 hpl2) i o (hasN_mem h1) hi
   have:=u4 k o' e e1 (by rw [e2]; exact hd)
   rw [t2.nt,t1.nt,r3] at this
   exact this
 ·unfold footB
  split
  ·split
   ·exact ⟨o3.fr,o3.fr'⟩
   ·rw [hFp]; exact ⟨o1.fr,o1.fr'⟩
  ·split
   ·split
    ·rw [hFq]; exact ⟨o2.fr,o2.fr'⟩
    ·exact ⟨o4.fr,o4.fr'⟩
   ·rename_i h1 h2
    have hFd:F i=(if hasN post i=true then lkF d post gs i else lkF d pre fs i):=by simp [F,h1,h2]
    rw [hFd]
    split
    ·rcases lkF_get d post gs i with e | ⟨k,_,hk⟩
     ·rw [e]; exact ⟨rfl,rfl⟩
     ·exact hN2 k _ hk
    ·rcases lkF_get d pre fs i with e | ⟨k,_,hk⟩
     ·rw [e]; exact ⟨rfl,rfl⟩
     ·exact hN k _ hk
 ·intro s' σ' M' ι' a' W' hq g1 g2 g3 g4 g5 g6 g7
  obtain ⟨rfl,rfl⟩:=hq
  exact hp.go .normal st' rfl dl M' ι' a' W' g1 (g2.leB base) (List.suffix_refl _) ⟨g4,g5,by rw [g6,hnt3],⟨by rw [g7]; exact hs.df.defs,hs.df.old,hs.df.nd⟩,fun k hk=>by rw [g3 k]; exact hs.new k (fun c=>hk (by rw [hlen']; exact c)),by rw [hlen']; exact hs.big⟩
end
section
variable {P:Program} {rd:Option Nat} {base:Nat} {ops:Array Oper} {st st1 Sa Sb S3 S:St} {Φ:AOut→Prop} {i:Nat}
theorem reg_pair {id p q ob:Nat} {pre post:List Nat} (hm:(P.follows .mixedOrders || !Region.departs ops)=true) (hb:pairB ops p q ob pre post=true)
  (h:RW P rd base (mkPre ops p q pre) (some [([ob],[ob]),([],[ob])]) 2 st (fun out=>∃st1 st2,out=.go .normal st1∧st1.objs.length=st.objs.length∧Tail P ops p q ob st1 st2 ∧
   RW P rd base (mkPost ops post) (some [([],[])]) 1 st2 (fun out2=>∃st3,out2=.go .normal st3∧st3.objs.length=st.objs.length∧Φ (.go .normal st3)))):WP P rd base (.region id ops true) st Φ:=by
 obtain ⟨fs,ss,st',h1,hc,h2,st1,st2,h3,h4,h5,gs,ts,st3',k1,kc,k2,st3,k3,k4,k5⟩:=h
 cases h3
 cases k3
 exact ⟨_,exec_pair hm hb h1 hc h2 h4 h5 k1 k4,k5⟩
theorem lkI_at' {α:Type} {l:List α} {n:Int} (h1:0≤n) (h2:n.toNat < l.length):lkI l n=some (l[n.toNat]'h2):=by
 unfold lkI; rw [if_neg (by omega),List.getElem?_eq_getElem h2]
theorem stepF_store {α:Type} {enc:α→AV} {l:List α} {n:Int} {w ob c:Nat} {bx fl:Bool} {a a':α} {v:AV} (hp:ptrAt ops i st=some (ob,n.toNat,c)) (hrow:st.sto ob=some (.row bx false true fl w (l.map enc))) (ha:lkI l n=some a)
  (hv:storeV P ops i st=some v) (hn:v.nr=true) (hs:v.scs=true) (hput:putAt (enc a) c v=some (enc a')) (hS:finI ops i st none [(ob,.row bx false true fl w ((l.set n.toNat a').map enc))]=some S) (hl:S.objs.length=st.objs.length) :
  ∃o,ops[i]?=some o∧StepF P ops st o ⟨none,[(ob,.row bx false true fl w ((l.set n.toNat a').map enc))],st.objs.length,st.objs.length,[ob]⟩ S:=by
 obtain ⟨h1,h2,h3⟩:=lkI_lt ha
 obtain ⟨o,t,x,y,T,ho,hop,hT,hx,hy,hc⟩:=storeV_spec hp hv
 obtain ⟨g1,g2⟩:=opAt_spec ho
 have he:evOp P false noC st.sto st.objs.length (lk st.slots) o=some (.val ⟨none,[(ob,.row bx false true fl w ((l.set n.toNat a').map enc))],st.objs.length,[ob]⟩):=by
  unfold evOp
  rw [hop]
  simp only [mayPan,Bool.false_eq_true,if_false]
  unfold evalOp
  rw [hop]
  simp only [hT,hx,hy,hrow,List.getElem?_map,h3,Option.map_some,hc,if_true,hn,hs,Bool.or_true,Bool.and_true,hput,frz,frzL,List.contains_nil,Bool.false_eq_true,if_false,List.nil_append,onlyVal,List.map_set]
 unfold finI at hS
 rw [g1] at hS
 simp only at hS
 split at hS
 ·rename_i objs slots ha' hp'
  cases hS
  exact ⟨o,g1,stepF_ev noC_sound g2 he ha' hp' hl⟩
 ·cases hS
theorem stepF_idx {α:Type} {enc:α→AV} {l:List α} {n:Int} {w:Nat} {ro nr fl:Bool} {ob:Nat} {a:α} (hi:idxInfo P ops i st=some (.ref ob 0 l.length,n,w)) (hrow:st.sto ob=some (.row false ro nr fl w (l.map enc)))
  (hS:finI ops i st (some (.ptr ob n.toNat 0)) []=some S) (ha:lkI l n=some a):∃o,ops[i]?=some o∧StepF P ops st o ⟨some (.ptr ob n.toNat 0),[],st.objs.length,st.objs.length,[ob]⟩ S:=by
 obtain ⟨o,t,x,ix,kk,T,e,E,ho,hop,hT,hk,hE,rfl,hx,hix⟩:=idxInfo_spec hi
 obtain ⟨h1,h2,h3⟩:=lkI_lt ha
 obtain ⟨g1,g2⟩:=opAt_spec ho
 have hneg:¬ n < 0:=by omega
 have he:evOp P false noC st.sto st.objs.length (lk st.slots) o=some (.val ⟨some (.ptr ob n.toNat 0),[],st.objs.length,[ob]⟩):=by
  unfold evOp
  rw [hop]
  simp only [mayPan,Bool.false_eq_true,if_false]
  unfold evalOp
  rw [hop]
  simp only [hT,hx,hix,hk,asN,hneg,if_false,hE,hrow,blt_true h2,Bool.true_and,decide_true,if_true,onlyVal,Nat.zero_add]
 have hl:=finI_len0 hS
 unfold finI at hS
 rw [g1] at hS
 simp only at hS
 split at hS
 ·rename_i objs slots ha' hp'
  cases hS
  exact ⟨o,g1,stepF_ev noC_sound g2 he ha' hp' hl⟩
 ·cases hS
theorem tail_of {α:Type} {enc:α→AV} {l:List α} {n m:Int} {w ob p q c:Nat} {fl:Bool} {a a1 b:α} {v:AV} (hp:ptrAt ops p st1=some (ob,n.toNat,c)) (hrow:st1.sto ob=some (.row false false true fl w (l.map enc))) (ha:lkI l n=some a) (hb:lkI l m=some b)
  (hv:storeV P ops p st1=some v) (nv:v.nr=true) (sv:v.scs=true) (h1:putAt (enc a) c v=some (enc a1))
  (hq:idxInfo P ops q st1=some (.ref ob 0 l.length,m,w)) (hSa:finI ops p st1 none [(ob,.row false false true fl w ((l.set n.toNat a1).map enc))]=some Sa) (hSb:finI ops q st1 (some (.ptr ob m.toNat 0)) []=some Sb)
  (hqa:idxInfo P ops q Sa=some (.ref ob 0 l.length,m,w)) (hra:Sa.sto ob=some (.row false false true fl w ((l.set n.toNat a1).map enc))) (hS3:finI ops q Sa (some (.ptr ob m.toNat 0)) []=some S3)
  (hpb:ptrAt ops p Sb=some (ob,n.toNat,c)) (hrb:Sb.sto ob=some (.row false false true fl w (l.map enc))) (hvb:storeV P ops p Sb=some v) (hS4:finI ops p Sb none [(ob,.row false false true fl w ((l.set n.toNat a1).map enc))]=some S3)
  (la:Sa.objs.length=st1.objs.length) (lb:Sb.objs.length=st1.objs.length) (l3:S3.objs.length=st1.objs.length):Tail P ops p q ob st1 S3:=by
 obtain ⟨op,hop,t1⟩:=stepF_store hp hrow ha hv nv sv h1 hSa la
 have hb':∃b',lkI (l.set n.toNat a1) m=some b':=by
  obtain ⟨e1,e2,e3⟩:=lkI_lt hb
  exact ⟨_,lkI_at' e1 (by rw [List.length_set]; exact e2)⟩
 obtain ⟨b',hb'⟩:=hb'
 obtain ⟨oq,hoq,t2⟩:=stepF_idx (l:=l.set n.toNat a1) (by rw [List.length_set]; exact hqa) hra hS3 hb'
 obtain ⟨oq',hoq',t3⟩:=stepF_idx hq hrow hSb hb
 obtain ⟨op',hop',t4⟩:=stepF_store hpb hrb ha hvb nv sv h1 hS4 (by rw [l3,lb])
 rw [hop] at hop'; cases hop'
 rw [hoq] at hoq'; cases hoq'
 rw [la] at t2; rw [lb] at t4
 have on:∀(u:Option AV) (x:AObj),OnO ob st1.objs.length ⟨u,[(ob,x)],st1.objs.length,st1.objs.length,[ob]⟩:=fun u x=>⟨fun e he=>by simp at he; rw [he],fun k hk=>by simpa using hk,rfl,rfl⟩
 have on0:∀(u:Option AV),OnO ob st1.objs.length ⟨u,[],st1.objs.length,st1.objs.length,[ob]⟩:=fun u=>⟨fun e he=>by simp at he,fun k hk=>by simpa using hk,rfl,rfl⟩
 exact ⟨op,oq,Sa,Sb,_,_,_,_,hop,hoq,on _ _,on0 _,on _ _,on0 _,rfl,rfl,t1,t2,t3,t4⟩
end
end Go.Ab
