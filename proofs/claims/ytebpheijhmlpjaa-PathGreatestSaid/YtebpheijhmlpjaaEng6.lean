/- Rules on plain values. No conditions. -/
import Derived.Test.YtebpheijhmlpjaaEng5
set_option linter.all false
namespace Go.Ab
open Go.RowKit
section
variable {P:Program} {rd:Option Nat} {base:Nat} {ops:Array Oper} {st st1 st' S:St} {o:Oper} {F:Foot} {out:AOut} {Φ Ψ:AOut→Prop} {d:Option (List Sk)} {i:Nat} {nf:Bool} {s:Slots} {σ:Sto} {c x y:Code}
theorem snap_full {α:Type} {enc:α→AV} {l:List α} {ob w n:Nat} {bx ro fl:Bool} (hrow:σ ob=some (.row bx ro true fl w (l.map enc))):snap σ (n+1) (.ref ob 0 l.length)=some (.lst fl (l.map enc),[ob]):=by
 have:(l.map enc).take l.length=l.map enc:=List.take_of_length_le (by simp)
 simp [snap,hrow,this]
theorem snap_part {α:Type} {enc:α→AV} {l:List α} {ob w n:Nat} {a b:Int} {bx ro fl:Bool} (hrow:σ ob=some (.row bx ro true fl w (l.map enc))) (hc:0≤a∧a≤b∧b≤l.length):snap σ (n+1) (.ref ob a.toNat (b.toNat - a.toNat))=some (.lst fl ((sub l a b).map enc),[ob]):=by
 have h1:a.toNat + (b.toNat - a.toNat)≤l.length:=by omega
 simp [snap,hrow,h1,sub,List.map_take,List.map_drop]
theorem msnap_nil {f:AV→Option (AV × List Nat)}:mapSnap f []=some ([],[]):=rfl
theorem msnap_cons {f:AV→Option (AV × List Nat)} {x y:AV} {xs ys:List AV} {a b c:List Nat} (h1:f x=some (y,a)) (h2:mapSnap f xs=some (ys,b)) (hc:a++b=c:=by rfl):mapSnap f (x::xs)=some (y::ys,c):=by
 subst hc; simp [mapSnap,h1,h2]
theorem snap_agg {n:Nat} {cs ys:List AV} {ids:List Nat} (h:mapSnap (snap σ n) cs=some (ys,ids)):snap σ (n+1) (.agg cs)=some (.agg ys,ids):=by simp [snap,h]
theorem snap_fn {n:Nat} {f:Fn} {a b x y:List AV} {i j k:List Nat} (h1:mapSnap (snap σ n) a=some (x,i)) (h2:mapSnap (snap σ n) b=some (y,j)) (hk:i++j=k):snap σ (n+1) (.fn f a b)=some (.fn f x y,k):=by subst hk; simp [snap,h1,h2]
theorem snap_ptr {n ob k c w:Nat} {bx ro nr fl:Bool} {xs ys:List AV} {ids:List Nat} {y:AV} {z:List AV} (hrow:σ ob=some (.row bx ro nr fl w xs)) (h:mapSnap (snap σ n) xs=some (ys,ids)) (hy:ys[k]?=some y) (hz:y.flat.drop c=z) :
  snap σ (n+1) (.ptr ob k c)=some (.fz z,ob::ids):=by subst hz; simp [snap,hrow,h,hy]
def callInfo (ops:Array Oper) (i:Nat) (st:St):Option (FuncId × List AV) :=
 match opAt ops i st with
 | some o=>match o.op with
  | .call { callee:=.value g,args,.. }=>match evo (lk st.slots) g,evos (lk st.slots) args.toList with
   | some (.fn (.func f) first caps),some as=>some (f,first++as++caps)
   | _,_=>none
  | _=>none
 | none=>none
theorem callInfo_spec {f:FuncId} {as0:List AV} (h:callInfo ops i st=some (f,as0)):∃o g args ts first caps as,opAt ops i st=some o∧o.op=.call { callee:=.value g,args,argTypes:=ts }∧evo (lk st.slots) g=some (.fn (.func f) first caps) ∧
  evos (lk st.slots) args.toList=some as∧as0=first++as++caps:=by
 unfold callInfo at h
 split at h
 ·rename_i o ho
  split at h
  ·rename_i g args ts hop
   split at h
   ·rename_i f' first caps as hg has
    cases h
    exact ⟨o,g,args,ts,first,caps,as,ho,hop,hg,has,rfl⟩
   ·cases h
  ·cases h
 ·cases h
def bodyB (P:Program) (f:FuncId):Bool :=
 match P.funcs[f]? with
 | some fn=>fn.body.isSome && !(fn.name == "runtime.NumGoroutine")
 | none=>false
noncomputable def callEff (st:St) (ids:List Nat) (r:AV) (objs:List AObj):Option (List (Nat × AObj)) :=
 if objs.all AObj.okRow then
  if ids.isEmpty || (r.cls && objs.all AObj.flat) then some (impObjs st.objs.length st.objs.length objs)
  else match frz st.sto ids with
   | some es=>some (es++impObjs st.objs.length st.objs.length objs)
   | none=>none
 else none
noncomputable def callSt (ops:Array Oper) (i:Nat) (st:St) (ids:List Nat) (r:AV) (objs:List AObj):Option St :=
 match callEff st ids r objs with
 | some eff=>match finI ops i st (some (r.shift st.objs.length)) eff with
  | some S=>if Nat.beq S.objs.length (st.objs.length+objs.length) then some S else none
  | none=>none
 | none=>none
noncomputable def callSk (st:St) (ids:List Nat) (r:AV) (objs:List AObj):Sk:=(((callEff st ids r objs).getD []).map (·.1),ids)
open Classical in
noncomputable def oneC (f:FuncId) (as:List AV) (co:COut):FuncId→List AV→Option COut:=fun g bs=>if g=f∧bs=as then some co else none
theorem oneC_sound {f:FuncId} {as:List AV} {co:COut} (h:CallOk P f as co) (hb:bodyB P f=true):Sound P (oneC f as co):=by
 intro g bs out he
 unfold oneC at he
 split at he
 ·rename_i hc
  obtain ⟨rfl,rfl⟩:=hc
  cases he
  refine ⟨h,?_⟩
  unfold bodyB at hb
  split at hb
  ·rename_i fn hf
   simp only [Bool.and_eq_true,Bool.not_eq_true'] at hb
   exact ⟨fn,hf,hb.1,hb.2⟩
  ·cases hb
 ·cases he
theorem callOne {f:FuncId} {as0 us:List AV} {ids:List Nat} {rv:AV} {ro:List AObj} (hi:callInfo ops i st=some (f,as0)) (hb:bodyB P f=true) (hsn:mapSnap (snap st.sto snapDepth) as0=some (us,ids)) (hc:CallOk P f us (.ret rv ro))
  (hS:callSt ops i st ids rv ro=some S) (k:RW P rd base ops (dAdd d [callSk st ids rv ro]) (i+1) S Φ):RW P rd base ops d i st Φ:=by
 obtain ⟨o,g,args,ts,first,caps,as1,ho,hop,hg,has,rfl⟩:=callInfo_spec hi
 unfold callSt at hS
 unfold callSk at k
 split at hS
 ·rename_i eff heff
  rw [heff] at k
  split at hS
  ·rename_i S' hS'
   split at hS
   ·rename_i hl
    cases hS
    obtain ⟨h1,h2⟩:=opAt_spec ho
    unfold finI at hS'
    rw [h1] at hS'
    simp only at hS'
    split at hS'
    ·rename_i objs slots ha hp
     cases hS'
     refine rw_step (s:=(eff.map (·.1),ids)) ⟨o,⟨some (rv.shift st.objs.length),eff,st.objs.length,st.objs.length+ro.length,ids⟩,h1,?_,cov_sk _⟩ (by simpa using k)
     refine stepF_ev (nf:=false) (C:=oneC f us (.ret rv ro)) (oneC_sound hc hb) (res:=⟨some (rv.shift st.objs.length),eff,st.objs.length+ro.length,ids⟩) h2 ?_ ha hp (Nat.eq_of_beq_eq_true hl)
     unfold evOp
     rw [hop]
     simp only [mayPan,if_true]
     unfold evalOp
     rw [hop]
     simp only [hg,has,absCall,hsn,oneC,and_self,if_true]
     unfold callEff at heff
     split at heff
     ·rename_i hok
      rw [if_pos hok]
      split at heff
      ·rename_i hcl
       cases heff
       rw [if_pos hcl]
      ·rename_i hcl
       rw [if_neg hcl]
       split at heff
       ·rename_i es hes
        cases heff
        rw [hes]
       ·cases heff
     ·cases heff
    ·cases hS'
   ·cases hS
  ·cases hS
 ·cases hS
theorem callR {α R:Type} {G:Option α} {K:α→Option R} {f:FuncId} {as0 us:List AV} {ids:List Nat} {rv:α→AV} {ro:α→List AObj} {S:α→St} {r:R} (hi:callInfo ops i st=some (f,as0)) (hb:bodyB P f=true)
  (hsn:mapSnap (snap st.sto snapDepth) as0=some (us,ids)) (hc:∀x,G=some x→CallOk P f us (.ret (rv x) (ro x))) (hS:∀x,callSt ops i st ids (rv x) (ro x)=some (S x)) (h:G.bind K=some r)
  (k:∀x,G=some x→K x=some r→RW P rd base ops (dAdd d [callSk st ids (rv x) (ro x)]) (i+1) (S x) Φ):RW P rd base ops d i st Φ:=by
 cases hg:G with
 | none=>rw [hg] at h; cases h
 | some x=>rw [hg] at h; exact callOne hi hb hsn (hc x hg) (hS x) (k x hg h)
theorem CallOk.args {f:FuncId} {us:List AV} {co:COut} (hss:List (List LK)) (h:CallOk P f (zipT hss us) co):CallOk P f us co:=by
 intro W M vs h1 h2 h3
 refine h W M vs h1 (by rw [zipT_length]; exact h2) (fun j v y hv hy=>?_)
 obtain ⟨hs,z,hz,rfl⟩:=zipT_at hss us j y hy
 exact loosen1_rep hs (h3 j v z hv hz)
theorem CallOk.res {f:FuncId} {us:List AV} {r:AV} {objs:List AObj} (hss:List (List LK)) (h:CallOk P f us (.ret r objs)):CallOk P f us (.ret (loosenT hss r) objs):=by
 intro W M vs h1 h2 h3
 refine (h W M vs h1 h2 h3).mono fun e w he=>?_
 obtain ⟨v,M',ι',g1,g2,g3,g4,g5⟩:=he
 exact ⟨v,M',ι',g1,g2,g3,g4,loosenT_rep hss g5⟩
def bsInfo (P:Program) (ops:Array Oper) (i:Nat) (st:St):Option (List (Nat × AV)) :=
 match opAt ops i st with
 | some o=>match o.op with
  | .buildSlice _ _ ps=>evParts (lk st.slots) ps.toList
  | _=>none
 | none=>none
noncomputable def bsSt (P:Program) (ops:Array Oper) (i:Nat) (st:St) (he:List LK) (b:Bool) (parts:List (Nat × AV)) (ids:List Nat):Option (St × List (Nat × AObj)) :=
 match opAt ops i st with
 | some o=>match o.op with
  | .buildSlice t n _=>match ti P t with
   | some T=>match T.kind with
    | .slice e=>match ti P e with
     | some E=>if n=0 then none else match E.zero with
      | some z=>if Nat.beq z.flat.length E.size && Nat.blt 0 E.size && Nat.ble (n*E.size) 16777216 then
        match fillElems E.size (List.replicate n z) parts,frz st.sto ids with
        | some xs,some es=>match finI ops i st (some (.ref st.objs.length 0 n)) (es++[(st.objs.length,.row false false (AV.nrL xs) (b && xs.all AV.scs) E.size (xs.map (loosen1 he)))]) with
         | some S=>if Nat.beq S.objs.length (st.objs.length+1) then some (S,es++[(st.objs.length,.row false false (AV.nrL xs) (xs.all AV.scs) E.size xs)]) else none
         | none=>none
        | _,_=>none
       else none
      | none=>none
     | none=>none
    | _=>none
   | none=>none
  | _=>none
 | none=>none
theorem loosenEff_last (he:List LK) (b:Bool) (es:List (Nat × AObj)) (o:Nat) (bx ro nr fl:Bool) (w:Nat) (xs:List AV):loosenEff he b (es++[(o,.row bx ro nr fl w xs)])=es++[(o,.row bx ro nr (b && fl) w (xs.map (loosen1 he)))]:=by
 induction es with
 | nil=>rfl
 | cons e es ih =>
  obtain ⟨o',x⟩:=e
  cases es with
  | nil=>simp [loosenEff]
  | cons e' es=>simp only [List.cons_append,loosenEff] at ih ⊢; rw [ih]
theorem bsR {parts0 parts:List (Nat × AV)} {ids:List Nat} {es:List (Nat × AObj)} (he:List LK) (b:Bool) (hi:bsInfo P ops i st=some parts0) (hsn:snapParts st.sto parts0=some (parts,ids)) (hS:bsSt P ops i st he b parts ids=some (S,es))
  (k:RW P rd base ops (dAdd d [(es.map (·.1),ids)]) (i+1) S Φ):RW P rd base ops d i st Φ:=by
 unfold bsInfo at hi
 unfold bsSt at hS
 split at hi
 ·rename_i o ho
  rw [ho] at hS
  simp only at hS
  split at hi
  ·rename_i t n ps hop
   rw [hop] at hS
   simp only at hS
   split at hS
   ·rename_i T hT
    split at hS
    ·rename_i e hk
     split at hS
     ·rename_i E hE
      split at hS
      ·cases hS
      ·rename_i hn
       split at hS
       ·rename_i z hz
        split at hS
        ·rename_i hc
         split at hS
         ·rename_i xs es' hxs hes
          split at hS
          ·rename_i S' hS'
           split at hS
           ·rename_i hl
            cases hS
            refine rw_ofL (nf:=false) (v:=some (.ref st.objs.length 0 n)) (eff:=es'++[(st.objs.length,.row false false (AV.nrL xs) (xs.all AV.scs) E.size xs)]) (fr:=st.objs.length+1) (rds:=ids) [] he b noC_sound ho ?_
             (by rw [loosenEff_last]; exact hS') (Nat.eq_of_beq_eq_true hl) k
            unfold evOp
            rw [hop]
            simp only [mayPan,Bool.false_eq_true,if_false]
            unfold evalOp
            rw [hop]
            simp only [hT,hk,hE,hi,hn,if_false,hz,hsn,Bool.false_eq_true,hc,if_true,hxs,hes,onlyVal]
           ·cases hS
          ·cases hS
         ·cases hS
        ·cases hS
       ·cases hS
     ·cases hS
    ·cases hS
   ·cases hS
  ·cases hi
 ·cases hi
theorem sparts_nil:snapParts σ []=some ([],[]):=rfl
theorem sparts_keep {j:Nat} {x:AV} {r ys:List (Nat × AV)} {b:List Nat} (hx:x.nr=true) (h:snapParts σ r=some (ys,b)):snapParts σ ((j,x)::r)=some ((j,x)::ys,b):=by simp [snapParts,hx,h]
theorem sparts_snap {j:Nat} {x y:AV} {r ys:List (Nat × AV)} {a b c:List Nat} (hx:x.nr=false) (h1:snap σ snapDepth x=some (y,a)) (h:snapParts σ r=some (ys,b)) (hc:a++b=c):snapParts σ ((j,x)::r)=some ((j,y)::ys,c):=by subst hc; simp [snapParts,hx,h1,h]
theorem rw_br {R:Type} {b:Bool} {S:Bool→St} {A B:Option R} {r:R} (h:(if b=true then A else B)=some r) (h1:b=true→A=some r→RW P rd base ops d i (S true) Φ) (h2:b=false→B=some r→RW P rd base ops d i (S false) Φ):RW P rd base ops d i (S b) Φ:=by
 cases b
 ·exact h2 rfl (by simpa using h)
 ·exact h1 rfl (by simpa using h)
theorem wp_br {R:Type} {b:Bool} {S:Bool→St} {A B:Option R} {r:R} (h:(if b=true then A else B)=some r) (h1:b=true→A=some r→WP P rd base c (S true) Φ) (h2:b=false→B=some r→WP P rd base c (S false) Φ):WP P rd base c (S b) Φ:=by
 cases b
 ·exact h2 rfl (by simpa using h)
 ·exact h1 rfl (by simpa using h)
theorem rw_knN {n m:Nat} {S:Nat → St} (hb:n=m) (h:RW P rd base ops d i (S m) Φ):RW P rd base ops d i (S n) Φ:=by rw [hb]; exact h
theorem ne_eq {a b:Int} {c:Bool} (h:(a != b)=c):(a==b)=!c:=by rw [←h]; simp [bne]
theorem wp_condT {op:Operand} (he:evo (lk st.slots) op=some (.bool true)) (h:WP P rd base x st Φ):WP P rd base (.cond op x y) st Φ:=wp_cond he (fun _=>h) (fun e=>by cases e)
theorem wp_condF {op:Operand} (he:evo (lk st.slots) op=some (.bool false)) (h:WP P rd base y st Φ):WP P rd base (.cond op x y) st Φ:=wp_cond he (fun e=>by cases e) (fun _=>h)
def RoundIs' {σ ρ:Type} (P:Program) (base:Nat) (I:σ→St) (Ex:ρ→AOut→Prop) (o:Step σ ρ) (out:AOut):Prop :=
 match o with
 | .next s=>∃st1,out=.go .normal st1∧Wk P base st1 (I s)
 | .done x=>Ex x out∧out.normal=false
theorem lwp_while {σ ρ:Type} {body:σ→Option (Step σ ρ)} {I:σ→St} {Ex:ρ→AOut→Prop} (round:∀s o,body s=some o→WP P rd base c (I s) (RoundIs' P base I Ex o)) :
  ∀(n:Nat) (s:σ) (x:ρ),whileN n body s=some x→LWP P rd base c (I s) (Ex x)
 | 0,s,x,h=>by cases h
 | n+1,s,x,h=>by
  simp only [whileN] at h
  split at h
  ·rename_i s' hb
   refine lwp_step ((round s _ hb).mono fun out ho=>?_)
   obtain ⟨st1,rfl,hw⟩:=ho
   exact lwp_wk hw (lwp_while round n s' x h)
  ·rename_i x' hb
   cases h
   refine lwp_step ((round s _ hb).mono fun out ho=>?_)
   obtain ⟨h1,h2⟩:=ho
   cases out with
   | pan v=>exact h1
   | go e st1=>cases e <;> first | exact h1 | simp [AOut.normal] at h2
  ·cases h
theorem wp_while {σ ρ R:Type} {n:Nat} {body:σ→Option (Step σ ρ)} {I:σ→St} {Ex:ρ→AOut→Prop} {K:ρ→Option R} {r:R} (s0:σ) (hw:Wk P base st (I s0)) (h:(whileN n body s0).bind K=some r)
  (round:∀s o,body s=some o→WP P rd base c (I s) (RoundIs' P base I Ex o)) (k:∀x,K x=some r→∀out,Ex x out→Φ out):WP P rd base (.loop c) st Φ:=by
 cases hx:whileN n body s0 with
 | none=>rw [hx] at h; cases h
 | some x =>
  rw [hx] at h
  obtain ⟨out,h1,h2⟩:=lwp_wk hw (lwp_while round n s0 x hx)
  exact wp_loop ⟨out,h1,k x h out h2⟩
noncomputable def fnOut (P:Program) (fn:Func) (hss:List (List LK)):AOut→Option (AV × List AObj)
 | .go e st'=>if e.ends then match resultA P fn st' with
   | some x=>match exportV st' x with
    | some (.ret r objs)=>some (loosenT hss r,objs)
    | _=>none
   | none=>none
  else none
 | .pan _=>none
theorem fn_ok {f:FuncId} {fn:Func} {c:Code} {args:List AV} {rv:AV} {ro:List AObj} (hss:List (List LK)) (hf:P.funcs[f]?=some fn) (hb:fn.body=some c) (hn:(fn.name == "runtime.NumGoroutine")=false) (hle:Nat.ble args.length fn.ntmps=true)
  (h:WP P none 0 c (st0 fn.ntmps args) (fun out=>fnOut P fn hss out=some (rv,ro))):CallOk P f args (.ret rv ro):=by
 obtain ⟨co,h1,r',h2,h3⟩:=call_wp (R:=fun co=>∃r',co=.ret r' ro∧loosenT hss r'=rv) hf hb hn (Nat.le_of_ble_eq_true hle) (h.mono fun out ho=>by
  cases out with
  | pan v=>cases ho
  | go e st' =>
   simp only [fnOut] at ho
   split at ho
   ·rename_i he
    split at ho
    ·rename_i x hx
     split at ho
     ·rename_i r objs hex
      simp only [Option.some.injEq,Prod.mk.injEq] at ho
      obtain ⟨h1,rfl⟩:=ho
      exact ⟨he,x,hx,_,hex,r,rfl,h1⟩
     ·cases ho
    ·cases ho
   ·cases ho)
 rw [←h3]
 rw [h2] at h1
 exact h1.res hss
noncomputable def inlEnd (P:Program) (fn:Func) (ops:Array Oper) (i:Nat) (st:St):AOut→Option St
 | .go e st'=>if e.ends then match resultA P fn st',ops[i]? with
   | some x,some o=>match putD st.slots st.nt o.dst (some x) with
    | some slots=>some ⟨slots,st'.objs,st.nt⟩
    | none=>none
   | _,_=>none
  else none
 | .pan _=>none
theorem inlR {f:FuncId} {fn:Func} {c:Code} {as0:List AV} (hi:callInfo ops i st=some (f,as0)) (hf:P.funcs[f]?=some fn) (hb:fn.body=some c) (hn:(fn.name == "runtime.NumGoroutine")=false) (hle:Nat.ble as0.length fn.ntmps=true)
  (h:WP P none st.objs.length c ⟨enumA 0 as0,st.objs,fn.ntmps⟩ (fun out=>∃S,inlEnd P fn ops i st out=some S∧RW P rd base ops none (i+1) S Φ)):RW P rd base ops none i st Φ:=by
 obtain ⟨o,g,args,ts,first,caps,as1,ho,hop,hg,has,rfl⟩:=callInfo_spec hi
 obtain ⟨h1,h2⟩:=opAt_spec ho
 obtain ⟨out,hx,S,hS,k⟩:=h
 unfold inlEnd at hS
 split at hS
 ·rename_i e st'
  split at hS
  ·rename_i he
   split at hS
   ·rename_i x o' hr ho'
    rw [h1] at ho'; cases ho'
    split at hS
    ·rename_i slots hp
     cases hS
     obtain ⟨out2,k1,k2⟩:=k
     have hi':i < ops.size:=(Array.getElem?_eq_some_iff.1 h1).1
     refine ⟨out2,?_,k2⟩
     rw [restI_cons hi']
     exact opsX_cons h1 h2 (opX_inline hop hg has hf hb hn (Nat.le_of_ble_eq_true hle) hx he hr hp) k1
    ·cases hS
   ·cases hS
  ·cases hS
 ·cases hS
def yldEnd (ops:Array Oper) (i l:Nat) (st:St):AOut→Option St
 | .go e st'=>match st'.objs[l]?,ops[i]? with
  | some (.loop nt2 sl2 ps2 as2 bd2 _ _),some o=>match putD st.slots st.nt o.dst (some (.bool e.pend.isNone)) with
   | some slots=>some ⟨slots,st'.objs.set l (.loop nt2 sl2 ps2 as2 bd2 (if e.pend.isNone then .ready else .done) e.pend),st.nt⟩
   | none=>none
  | _,_=>none
 | .pan _=>none
def yldInfo (ops:Array Oper) (i:Nat) (st:St):Option (Nat × List AV) :=
 match opAt ops i st with
 | some o=>match o.op with
  | .call { callee:=.value g,args,.. }=>match evo (lk st.slots) g,evos (lk st.slots) args.toList with
   | some (.yld l),some us=>some (l,us)
   | _,_=>none
  | _=>none
 | none=>none
def yldMid (l nt:Nat):AOut→Option St
 | .go .normal ⟨sl,objs,n⟩=>match objs[l]? with
  | some (.loop ntL slL psL asL bdL .ready peL)=>if Nat.beq n nt then some ⟨sl,objs.set l (.loop ntL slL psL asL bdL .busy peL),nt⟩ else none
  | _=>none
 | _=>none
theorem yldR {l nt:Nat} {us:List AV} {sl:List (Nat × AV)} {ps:List Tmp} {assign body:Code} {pe:Option Code} (hi:yldInfo ops i st=some (l,us)) (hl:st.objs[l]?=some (.loop nt sl ps assign body .ready pe))
  (hlen:(Nat.beq us.length ps.length && ps.all fun t=>Nat.blt t nt)=true)
  (h:WP P (some l) st.objs.length assign ⟨setPs sl ps us,st.objs,nt⟩ (fun outA=>∃SA,yldMid l nt outA=some SA∧WP P (some l) st.objs.length body SA (fun outB=>∃S,yldEnd ops i l st outB=some S∧RW P rd base ops none (i+1) S Φ))) :
  RW P rd base ops none i st Φ:=by
 unfold yldInfo at hi
 split at hi
 ·rename_i o ho
  split at hi
  ·rename_i g args ts hop
   split at hi
   ·rename_i l' us' hg has
    simp only [Option.some.injEq,Prod.mk.injEq] at hi
    obtain ⟨rfl,rfl⟩:=hi
    obtain ⟨h1,h2⟩:=opAt_spec ho
    simp only [Bool.and_eq_true,List.all_eq_true] at hlen
    obtain ⟨outA,hxA,SA,hSA,outB,hxB,S,hS,k⟩:=h
    unfold yldMid at hSA
    split at hSA
    ·rename_i slA objsA n
     split at hSA
     ·rename_i ntL slL psL asL bdL peL hlA
      split at hSA
      ·rename_i hn
       cases hSA
       have hn:=Nat.eq_of_beq_eq_true hn
       subst hn
       unfold yldEnd at hS
       split at hS
       ·rename_i e st'
        split at hS
        ·rename_i nt2 sl2 ps2 as2 bd2 s2 pe2 o' hlB ho'
         rw [h1] at ho'; cases ho'
         split at hS
         ·rename_i slots hp
          cases hS
          obtain ⟨out2,k1,k2⟩:=k
          have hi':i < ops.size:=(Array.getElem?_eq_some_iff.1 h1).1
          refine ⟨out2,?_,k2⟩
          rw [restI_cons hi']
          exact opsX_cons h1 h2 (opX_yield hop hg has hl (Nat.eq_of_beq_eq_true hlen.1) (fun t ht=>blt_lt (hlen.2 t ht)) hxA hlA hxB hlB hp) k1
         ·cases hS
        ·cases hS
       ·cases hS
      ·cases hSA
     ·cases hSA
    ·cases hSA
   ·cases hi
  ·cases hi
 ·cases hi
theorem wp_range {g:Operand} {ps:Array Tmp} {assign body:Code} {f:FuncId} {fn:Func} {c:Code} {first caps:List AV} (hg:evo (lk st.slots) g=some (.fn (.func f) first caps)) (hf:P.funcs[f]?=some fn) (hb:fn.body=some c) (hn:(fn.name == "runtime.NumGoroutine")=false)
  (hle:Nat.ble (first++[AV.yld st.objs.length]++caps).length fn.ntmps=true) (hrd:rdOk rd st.objs=true)
  (h:WP P none (st.objs.length+1) c (rangeSt st ps.toList assign body first caps fn.ntmps) (fun out0=>∃out,rangeOut P fn st out0=some out∧Φ out)):WP P rd base (.rangeFunc g ps assign body) st Φ:=by
 obtain ⟨out0,h0,out,h1,h2⟩:=h
 refine ⟨out,exec_rangeFunc hg hf hb hn (Nat.le_of_ble_eq_true hle) (fun l hl=>?_) h0 h1,h2⟩
 subst hl
 simp only [rdOk] at hrd
 split at hrd
 ·exact ⟨_,_,_,_,_,_,_,by assumption⟩
 ·cases hrd
theorem wp_eqB {base':Nat} (hb:base=base') (hs:st=st') (h:WP P rd base' c st' Φ):WP P rd base c st Φ:=by subst hb; subst hs; exact h
theorem bind_elim {α R:Type} {G:Option α} {K:α→Option R} {r:R} {X:Prop} (h:G.bind K=some r) (k:∀a,G=some a→K a=some r→X):X:=by
 cases hg:G with
 | none=>rw [hg] at h; cases h
 | some a=>rw [hg] at h; exact k a hg h
theorem lkI_set {α:Type} {l:List α} {n:Int} {a:α} (b:α) (h:lkI l n=some a):lkI (l.set n.toNat b) n=some b:=by
 obtain ⟨h1,h2,h3⟩:=lkI_lt h
 unfold lkI
 rw [if_neg (by omega),List.getElem?_set_self h2]
theorem rw_wk {i:Nat} (hk:Wk P base st st') (h:RW P rd base ops none i st' Φ):RW P rd base ops none i st Φ:=by
 obtain ⟨out,h1,h2⟩:=h
 refine ⟨out,?_,h2⟩
 intro B W0 D0 dl M ι a W n Q r hs hr hp
 obtain ⟨M',ι',hM,hι,hs'⟩:=hk B W0 D0 dl M ι a W hs
 exact h1 B W0 D0 dl M' ι' a W n Q r hs' (hr.mono hι) (hp.step hM hι (List.suffix_refl _))
end
abbrev vI (n:Int):AV:=.int .i64 n
abbrev eI:Int→AV:=AV.int .i64
abbrev vB (b:Bool):AV:=.bool b
abbrev oR {α:Type} (fl:Bool) (w:Nat) (enc:α→AV) (l:List α):AObj:=.row false false true fl w (l.map enc)
abbrev oX (nr fl:Bool) (w:Nat) (x:AV):AObj:=.row true false nr fl w [x]
def rgAt:Code→List Bool→Code
 | .seq a b,false::r=>rgAt a r
 | .seq a b,true::r=>rgAt b r
 | .cond _ a b,false::r=>rgAt a r
 | .cond _ a b,true::r=>rgAt b r
 | .block _ b,_::r=>rgAt b r
 | .loop b,_::r=>rgAt b r
 | .scope b,_::r=>rgAt b r
 | .rangeFunc _ _ a b,false::r=>rgAt a r
 | .rangeFunc _ _ a b,true::r=>rgAt b r
 | c,_=>c
def cA (fn:Func) (w:List Bool):Code:=rgAt (fn.body.getD .skip) (w++[false])
def cB (fn:Func) (w:List Bool):Code:=rgAt (fn.body.getD .skip) (w++[true])
end Go.Ab
namespace Go.Ab
open Go.RowKit
section
variable {P:Program} {B:Nat} {W0 W W1:World} {D:List Nat} {M M1:CM} {ι ι1:Inj} {σ σ' σ1:Sto}
theorem Rel.dead (h:Rel P B W0 D M ι σ W) (hσ:∀k,σ' k=σ k∨σ' k=none∨σ' k=some .dead):Rel P B W0 D M ι σ' W:=by
 have back:∀k x,σ' k=some x→x≠.dead→σ k=some x:=fun k x hk hx=>by
  rcases hσ k with e | e | e
  ·rw [←e]; exact hk
  ·rw [e] at hk; cases hk
  ·rw [e] at hk; cases hk; exact absurd rfl hx
 refine ⟨h.size,h.below,h.defs,h.agree,fun o bx nr fl w xs p k ho=>h.cool o bx nr fl w xs p k (back _ _ ho (by simp)),fun o bx ro nr fl w xs ho=>h.row o bx ro nr fl w xs (back _ _ ho (by simp)),fun o fn sl ps as bd st pe ho=>h.loop o fn sl ps as bd st pe (back _ _ ho (by simp)),
  fun o o' bx nr fl w xs bx' nr' fl' w' xs' p p' hne h1 h2=>h.apart o o' bx nr fl w xs bx' nr' fl' w' xs' p p' hne (back _ _ h1 (by simp)) (back _ _ h2 (by simp)),
  fun o o' fn sl ps as bd st pe fn' sl' ps' as' bd' st' pe' p p' hne h1 h2=>h.loops o o' fn sl ps as bd st pe fn' sl' ps' as' bd' st' pe' p p' hne (back _ _ h1 (by simp)) (back _ _ h2 (by simp)),fun o ho=>?_⟩
 rcases hσ o with e | e
 ·rw [e]; exact h.used o ho
 ·exact e
open Classical in
theorem Rel.join {N:Nat → Prop} (h:Rel P B W0 D M ι σ W) (h1:Rel P W.heap.size W [] M1 ι1 σ1 W1) (hM:CM.Grow W.heap.size M M1) (n0:∀k,N k→ι k=none)
  (nl:∀k fn sl ps as bd st pe,N k→σ1 k≠some (.loop fn sl ps as bd st pe))
  (nc:∀k bx ro nr fl w xs,N k→σ1 k=some (.row bx ro nr fl w xs)→nr=true∨∀x∈xs,∀y∈x.flat,∀o∈y.ids,N o) :
  Rel P B W0 D M1 (fun k=>if N k then ι1 k else ι k) (fun k=>if N k then σ1 k else σ k) W1:=by
 have hrel:=h.old h1.below
 have hle:ι.le (fun k=>if N k then ι1 k else ι k):=fun k q hk=>by
  by_cases e:N k
  ·rw [n0 k e] at hk; cases hk
  ·simp only [e,if_false]; exact hk
 have hold:∀k bx nr fl w xs p,σ k=some (.row bx false nr fl w xs)→ι k=some p→p.blk < W.heap.size∨(p.cap=0∧p.base=0):=by
  intro k bx nr fl w xs p hk hp
  obtain ⟨q,hq,hr⟩:=h.row k _ _ _ _ _ _ hk
  rw [hp] at hq; cases hq
  rcases Nat.eq_zero_or_pos p.cap with hz | hz
  ·exact .inr ⟨hz,by rcases hr.cpos with h4 | h4 <;> omega⟩
  left
  obtain ⟨v,hv⟩:=Option.isSome_iff_exists.1 ((hr.own rfl).2 0 (Nat.mul_pos hz hr.pos)).1
  exact World.block_lt_of_cell? W _ hv
 refine ⟨hrel.size,hrel.below,hrel.defs,h1.agree,fun k bx1 nr1 fl1 w1 xs1 q j hk hq hj=>?_,?_,?_,?_,?_,?_⟩
 ·by_cases e:N k
  ·simp only [e,if_true] at hk hq; exact h1.cool _ _ _ _ _ _ _ _ hk hq hj
  ·simp only [e,if_false] at hk hq; exact hrel.cool _ _ _ _ _ _ _ _ hk hq hj
 ·intro k bx ro nr fl w xs hk
  by_cases e:N k
  ·simp only [e,if_true] at hk ⊢
   obtain ⟨p,hp,hr⟩:=h1.row k _ _ _ _ _ _ hk
   refine ⟨p,hp,⟨hr.pw,hr.pos,hr.cpos,hr.len,hr.shaped,hr.nr,hr.fl,fun i j x y hi hj=>?_,fun hro=>⟨Nat.le_trans h.size (hr.own hro).1,(hr.own hro).2⟩,hr.imm⟩⟩
   obtain ⟨v,hv,hrep⟩:=hr.cells i j x y hi hj
   refine ⟨v,hv,?_⟩
   have hxm:=List.mem_of_getElem? hi
   have hym:=List.mem_of_getElem? hj
   rcases nc k bx ro nr fl w xs e hk with c | c
   ·exact hrep.of_nr (AV.nr_flat (nrL_mem.1 (hr.nr c) x hxm) y hym)
   ·exact hrep.congr (fun o ho=>by rw [if_pos (c x hxm y hym o ho)])
  ·simp only [e,if_false] at hk ⊢
   obtain ⟨p,hp,hr⟩:=hrel.row k bx ro nr fl w xs hk
   refine ⟨p,hp,⟨hr.pw,hr.pos,hr.cpos,hr.len,hr.shaped,hr.nr,hr.fl,fun i j x y hi hj=>?_,fun hro=>⟨(hr.own hro).1,fun m hm=>⟨((hr.own hro).2 m hm).1,?_⟩⟩,fun hro i j x y hi hj=>?_⟩⟩
   ·obtain ⟨v,hv,hrep⟩:=hr.cells i j x y hi hj
    exact ⟨v,hv,hrep.mono hM.le hle⟩
   ·subst hro
    rcases hold k _ _ _ _ _ p hk hp with hq | ⟨hz,_⟩
    ·rw [hM.old _ _ hq]; exact ((hr.own rfl).2 m hm).2
    ·rw [hz] at hm; simp at hm
   ·obtain ⟨v,hv,hrep⟩:=hr.imm hro i j x y hi hj
    exact ⟨v,hM.le _ _ _ hv,hrep.mono hM.le (Inj.le_refl _)⟩
 ·intro k fn sl ps as bd st pe hk
  by_cases e:N k
  ·simp only [e,if_true] at hk; exact absurd hk (nl k _ _ _ _ _ _ _ e)
  ·simp only [e,if_false] at hk ⊢
   obtain ⟨q,nt,hq,hnt,hb,tmps,hsz,hrec,hsl⟩:=hrel.loop k fn sl ps as bd st pe hk
   exact ⟨q,nt,hq,hnt,hb,tmps,hsz,hrec,loopRec_mono hM.le hle hsl⟩
 ·intro k k' bx nr fl w xs bx' nr' fl' w' xs' q q' hkk hk hk' hq hq'
  by_cases e:N k
  ·simp only [e,if_true] at hk hq
   by_cases e':N k'
   ·simp only [e',if_true] at hk' hq'
    exact h1.apart k k' _ _ _ _ _ _ _ _ _ _ _ _ hkk hk hk' hq hq'
   ·simp only [e',if_false] at hk' hq'
    obtain ⟨p,hp,hr⟩:=h1.row k _ _ _ _ _ _ hk
    rw [hp] at hq; cases hq
    rcases hold k' _ _ _ _ _ q' hk' hq' with hq2 | ⟨hz,hb⟩
    ·left
     have:=(hr.own rfl).1
     omega
    ·right; right
     rw [hz,hb]; simp
  ·simp only [e,if_false] at hk hq
   by_cases e':N k'
   ·simp only [e',if_true] at hk' hq'
    obtain ⟨p',hp',hr'⟩:=h1.row k' _ _ _ _ _ _ hk'
    rw [hp'] at hq'; cases hq'
    rcases hold k _ _ _ _ _ q hk hq with hq2 | ⟨hz,hb⟩
    ·left
     have:=(hr'.own rfl).1
     omega
    ·right; left
     rw [hz,hb]; simp
   ·simp only [e',if_false] at hk' hq'
    exact h.apart _ _ _ _ _ _ _ _ _ _ _ _ _ _ hkk hk hk' hq hq'
 ·intro k k' fn sl ps as bd st pe fn' sl' ps' as' bd' st' pe' q q' hkk hk hk' hq hq'
  by_cases e:N k
  ·simp only [e,if_true] at hk; exact absurd hk (nl k _ _ _ _ _ _ _ e)
  ·by_cases e':N k'
   ·simp only [e',if_true] at hk'; exact absurd hk' (nl k' _ _ _ _ _ _ _ e')
   ·simp only [e,e',if_false] at hk hq hk' hq'
    exact h.loops _ _ _ _ _ _ _ _ _ _ _ _ _ _ _ _ _ _ hkk hk hk' hq hq'
 ·intro k hk
  by_cases e:N k
  ·simp only [e,if_true] at hk ⊢; exact h1.used k hk
  ·simp only [e,if_false] at hk ⊢; exact h.used k hk
end
def famEff (k w:Nat) (fl:Bool):Nat → List (List AV)→List (Nat × AObj)
 | _,[]=>[]
 | i,l::r=>(fid k i,.row false false true fl w l)::famEff k w fl (i+1) r
def effAt:Nat → List AObj→List (Nat × AObj)
 | _,[]=>[]
 | k,x::r=>(k,x.plain)::((match x with | .fam w fl xs=>famEff k w fl 0 xs | _=>[])++effAt (k+1) r)
theorem mem_famEff {k w:Nat} {fl:Bool} {id:Nat} {y:AObj}:∀{i:Nat} {xs:List (List AV)},(id,y)∈famEff k w fl i xs↔∃j l,xs[j]?=some l∧id=fid k (i+j)∧y=.row false false true fl w l
 | i,[]=>by simp [famEff]
 | i,l::r=>by
  simp only [famEff,List.mem_cons,Prod.mk.injEq,mem_famEff (i:=i+1) (xs:=r)]
  constructor
  ·rintro (⟨rfl,rfl⟩ | ⟨j,l',h1,rfl,rfl⟩)
   ·exact ⟨0,l,rfl,rfl,rfl⟩
   ·exact ⟨j+1,l',by simpa using h1,by congr 1; omega,rfl⟩
  ·rintro ⟨j,l',h1,rfl,rfl⟩
   cases j with
   | zero=>simp at h1; subst h1; exact .inl ⟨rfl,rfl⟩
   | succ j=>exact .inr ⟨j,l',by simpa using h1,by congr 1; omega,rfl⟩
theorem mem_effAt {id:Nat} {y:AObj}:∀{k:Nat} {xs:List AObj},(id,y)∈effAt k xs↔∃j x,xs[j]?=some x∧((id=k+j∧y=x.plain)∨∃w fl ls i l,x=.fam w fl ls∧ls[i]?=some l∧id=fid (k+j) i∧y=.row false false true fl w l)
 | k,[]=>by simp [effAt]
 | k,x::r=>by
  simp only [effAt,List.mem_cons,List.mem_append,Prod.mk.injEq,mem_effAt (k:=k+1) (xs:=r)]
  constructor
  ·rintro (⟨rfl,rfl⟩ | h | ⟨j,x',h1,h2⟩)
   ·exact ⟨0,x,rfl,.inl ⟨rfl,rfl⟩⟩
   ·split at h
    ·rename_i w fl xs
     obtain ⟨j,l,h1,rfl,rfl⟩:=mem_famEff.1 h
     exact ⟨0,_,rfl,.inr ⟨w,fl,xs,j,l,rfl,h1,by simp,rfl⟩⟩
    ·cases h
   ·refine ⟨j+1,x',by simpa using h1,?_⟩
    rw [show k+(j+1)=k+1+j by omega]; exact h2
  ·rintro ⟨j,x',h1,h2⟩
   cases j with
   | zero =>
    simp at h1; subst h1
    rcases h2 with ⟨rfl,rfl⟩ | ⟨w,fl,ls,i,l,rfl,h3,rfl,rfl⟩
    ·exact .inl ⟨rfl,rfl⟩
    ·exact .inr (.inl (mem_famEff.2 ⟨i,l,h3,by simp,rfl⟩))
   | succ j =>
    refine .inr (.inr ⟨j,x',by simpa using h1,?_⟩)
    rw [show k+1+j=k+(j+1) by omega]; exact h2
theorem effAt_nil {k:Nat} {xs:List AObj} (h:effAt k xs=[]):xs=[]:=by cases xs <;> simp_all [effAt]
section
variable {objs new:List AObj}
theorem app_at (j:Nat):(objs++new)[objs.length+j]?=new[j]?:=by
 rw [List.getElem?_append_right (by omega),show objs.length+j - objs.length=j by omega]
theorem effAt_sto {id:Nat} {y:AObj} (hb:objs.length+new.length≤BIG) (h:(id,y)∈effAt objs.length new):InR objs.length (objs.length+new.length) id∧sto (objs++new) id=some y:=by
 obtain ⟨j,x,h1,h2⟩:=mem_effAt.1 h
 have hj:j < new.length:=(List.getElem?_eq_some_iff.1 h1).1
 rcases h2 with ⟨rfl,rfl⟩ | ⟨w,fl,ls,i,l,rfl,h3,rfl,rfl⟩
 ·exact ⟨.inl (by omega),by rw [sto_low (by omega),app_at,h1]; rfl⟩
 ·exact ⟨.inr ⟨_,i,by omega,by omega,rfl⟩,sto_inner (by rw [app_at]; exact h1) h3⟩
theorem effAt_not {id:Nat} (hb:objs.length+new.length≤BIG) (h:∀e∈effAt objs.length new,e.1≠id):(InR objs.length (objs.length+new.length) id→sto (objs++new) id=none)∧sto (objs++new) id=sto objs id:=by
 have hno:∀j x,new[j]?=some x→objs.length+j≠id:=fun j x hj e=>h (objs.length+j,x.plain) (mem_effAt.2 ⟨j,x,hj,.inl ⟨rfl,rfl⟩⟩) e
 have hfam:∀k w fl ls i l,id=fid k i→(objs++new)[k]?=some (.fam w fl ls)→ls[i]?=some l→k < objs.length:=fun k w fl ls i l e h1 h2=>by
  rcases Nat.lt_or_ge k objs.length with c | c
  ·exact c
  ·obtain ⟨j,rfl⟩:=Nat.exists_eq_add_of_le c
   rw [app_at] at h1
   exact absurd e.symm (h (fid (objs.length+j) i,_) (mem_effAt.2 ⟨j,_,h1,.inr ⟨w,fl,ls,i,l,rfl,h2,rfl,rfl⟩⟩))
 constructor
 ·intro hin
  rcases hin with ⟨c1,c2⟩ | ⟨k,i,c1,c2,rfl⟩
  ·exact absurd (Nat.add_sub_cancel' c1) (hno (id - objs.length) (new[id - objs.length]'(by omega)) (List.getElem?_eq_getElem (by omega)))
  ·exact sto_inner_none (fun w fl xs l e1 e2=>by have:=hfam k w fl xs i l rfl e1 e2; omega)
 ·rcases Nat.lt_or_ge id BIG with c | c
  ·rw [sto_low c,sto_low c]
   rcases Nat.lt_or_ge id objs.length with d | d
   ·rw [List.getElem?_append_left d]
   ·obtain ⟨j,rfl⟩:=Nat.exists_eq_add_of_le d
    rw [app_at,List.getElem?_eq_none d]
    cases hj:new[j]? with
    | none=>rfl
    | some x=>exact absurd rfl (hno j x hj)
  ·rcases sto_cases (objs++new) id with ⟨d,_⟩ | ⟨_,⟨k,i,w,fl,xs,l,rfl,e2,e3,e4⟩ | e⟩
   ·omega
   ·have hk:=hfam k w fl xs i l rfl e2 e3
    rw [e4,sto_inner (by rw [List.getElem?_append_left hk] at e2; exact e2) e3]
   ·rw [e]
    rcases sto_cases objs id with ⟨d,_⟩ | ⟨_,⟨k,i,w,fl,xs,l,rfl,e2,e3,e4⟩ | e'⟩
    ·omega
    ·have hk:k < objs.length:=(List.getElem?_eq_some_iff.1 e2).1
     rw [sto_inner (objs:=objs++new) (by rw [List.getElem?_append_left hk]; exact e2) e3] at e; cases e
    ·rw [e']
theorem sto_new (hb:objs.length+new.length≤BIG):sto (objs++new)=(sto objs).puts (effAt objs.length new):=by
 funext id
 rcases (sto objs).puts_at (effAt objs.length new) id with ⟨h1,h2⟩ | ⟨y,h1,h2⟩
 ·rw [h1]; exact (effAt_not hb h2).2
 ·rw [h1]; exact (effAt_sto hb h2).2
end
def okId (n m o:Nat):Bool:=Nat.ble n o && Nat.blt o m
def okNew (n m:Nat):AObj→Bool
 | .row _ _ nr _ _ xs=>nr || xs.all fun x=>x.flat.all fun y=>y.ids.all (okId n m)
 | .refs j _=>okId n m j
 | .fam _ _ _=>true
 | .dead=>true
 | .loop ..=>false
def deadN:Nat → List AObj→Bool
 | 0,_=>true
 | n+1,.dead::r=>deadN n r
 | _,_=>false
theorem deadN_spec:∀{n:Nat} {objs:List AObj},deadN n objs=true→objs=List.replicate n .dead++objs.drop n
 | 0,objs,_=>by simp
 | n+1,[],h=>by cases h
 | n+1,x::r,h=>by
  cases x <;> simp only [deadN] at h <;> first | (cases h; done) | skip
  rw [List.replicate_succ,List.drop_succ_cons,List.cons_append,←deadN_spec h]
theorem okId_in {n m o:Nat} (h:okId n m o=true):n≤o∧o < m:=by
 simp only [okId,Bool.and_eq_true] at h
 exact ⟨Nat.le_of_ble_eq_true h.1,of_blt h.2⟩
section
variable {P:Program} {ops:Array Oper} {st st':St} {o:Oper} {rd:Option Nat} {base:Nat} {Φ:AOut→Prop} {d:Option (List Sk)} {i:Nat}
theorem famRefs_mem {k:Nat} {x:AV}:∀{i:Nat} {xs:List (List AV)},x∈famRefs k i xs→∃j n,x=.ref (fid k j) 0 n
 | _,[],h=>by cases h
 | i,l::r,h=>by
  simp only [famRefs,List.mem_cons] at h
  rcases h with rfl | h
  ·exact ⟨_,_,rfl⟩
  ·exact famRefs_mem h
theorem sto_dead {n:Nat} (k:Nat):sto (List.replicate n AObj.dead) k=none∨sto (List.replicate n AObj.dead) k=some .dead:=by
 rcases sto_cases (List.replicate n AObj.dead) k with ⟨_,e⟩ | ⟨_,⟨j,i,w,fl,xs,l,_,e2,_⟩ | e⟩
 ·rw [e]
  rcases Nat.lt_or_ge k n with h | h
  ·right; rw [List.getElem?_replicate,if_pos h]; rfl
  ·left; rw [List.getElem?_eq_none (by simpa using h)]; rfl
 ·rw [List.getElem?_replicate] at e2
  split at e2 <;> cases e2
 ·exact .inl e
theorem callsIn_new {f:FuncId} {fn:Func} {c:Code} {as0:List AV} {n:Nat} {e:AExit} {x:AV} {vs:Array Value} {W:World} {M:CM} (hf:P.funcs[f]?=some fn) (hb:fn.body=some c) (hle:as0.length≤fn.ntmps) (hn:n≤BIG)
  (h:Exec P none n c ⟨enumA 0 as0,List.replicate n .dead,fn.ntmps⟩ (.go e st')) (hend:e.ends=true) (hr:resultA P fn st'=some x)
  (hag:∀b o v,M b o=some v→W.cell? ⟨b,o,none⟩=some v) (hsz:vs.size=as0.length) (hrep:∀(j:Nat) (v:Value) (a:AV),vs[j]?=some v→as0[j]?=some a→RepV M noInj v a) :
  Calls P f vs W fun ee W'=>∃v M' ι',ee=.returned v∧CM.Grow W.heap.size M M'∧Rel P W.heap.size W [] M' ι' (sto st'.objs) W'∧(∀k,¬ InB st'.objs.length k→ι' k=none)∧RepV M' ι' v x:=by
 refine callsIn_wide.1 (callsIn_of_wp_marks (F:=FW none) (n:=0) hf hb trivial ?_)
 have h0:Rel P W.heap.size W [] M noInj (sto (List.replicate n AObj.dead)) W:=(rel_start hag).dead (fun k=>.inr (sto_dead k))
 refine h W.heap.size W [] [] M noInj _ W 0 _ none ⟨h0,slots_start fn.ntmps hrep hsz,by simp; omega,⟨rfl,fun r hr=>by simp at hr,List.nodup_nil⟩,fun _ _=>rfl,by simpa using hn⟩ rfl ⟨?_,fun v hv=>by cases hv⟩
 intro e' st'' he dl' M' ι' a' W' g1 g2 g3 g4
 cases he
 have hex:e.exit'=.normal∨e.exit'=.ret:=by cases e <;> simp_all [AExit.ends,AExit.exit']
 have cut:∀R,LeavesInM (FW none) 0 P fn a'.tmps R a'.defers .returning W'→bodyPostM (FW none) 0 P fn R e.exit' a' W':=fun R hR=>by
  rcases hex with e1 | e1 <;> rw [e1] <;> exact hR
 apply cut
 rw [g4.df.defs]
 refine leavesA (by simp) dl' W' g4.rel g4.df.nd g4.df.old (fun W2 h2=>?_)
 obtain ⟨v,k1,k2⟩:=resultA_sound h2 g4.slots hr
 exact ⟨v,k1,v,M',ι',rfl,g1,h2,g4.new,k2⟩
open Classical in
theorem ylL_new {g:Operand} {args:Array Operand} {ts:Array TypeId} {f:FuncId} {fn:Func} {c:Code} {first caps as:List AV} {e:AExit} {x:AV} {s:Slots} {σ:Sto} {n:Nat} {new:List AObj}
  (hw:wantedA ops s o=some true) (ho:o.op=.call { callee:=.value g,args,argTypes:=ts }) (hg:evo s g=some (.fn (.func f) first caps)) (has:evos s args.toList=some as) (hnr:AV.nrL (first++as++caps)=true)
  (hf:P.funcs[f]?=some fn) (hb:fn.body=some c) (hn:(fn.name == "runtime.NumGoroutine")=false) (hle:(first++as++caps).length≤fn.ntmps)
  (h:Exec P none n c ⟨enumA 0 (first++as++caps),List.replicate n .dead,fn.ntmps⟩ (.go e st')) (hend:e.ends=true) (hr:resultA P fn st'=some x)
  (hob:st'.objs=List.replicate n .dead++new) (hbig:n+new.length≤BIG) (hok:new.all (okNew n (n+new.length))=true) (hxi:x.ids.all (okId n (n+new.length))=true) :
  YlL P ops o ⟨some x,effAt n new,n,n+new.length,[]⟩ s σ:=by
 intro s' σ' hs' hσ'
 have hl:=evo_local (ops:=ops) hs'
 rw [ho] at hl
 have hg':evo s' g=some (.fn (.func f) first caps):=by rw [hl g (by simp [Op.operands,Call.operands])]; exact hg
 have has':evos s' args.toList=some as:=by rw [evos_congr (fun y hy=>hl y (by simp [Op.operands,Call.operands]; exact .inr (by simpa using hy)))]; exact has
 refine .inl ⟨by rw [wantedA_local hs']; exact hw,?_⟩
 intro B W0 D M ι a W nn Q r next hrel hsl hfree hpost
 simp only at hfree hpost
 have hgv:=evo_sound hsl hg'
 generalize hgu:a.eval g=gu at hgv
 cases hgv with
 | fn _ first' caps' _ _ hy hm h1 h2 hr1 hr2 =>
 obtain ⟨l1,e1⟩:=evos_sound hsl has'
 refine ⟨fun _ _=>trivial,?_⟩
 rw [Oper.semAt_eq _ _ _ (by rw [ho]; simp)]
 have hrun:(execOp a.eval o).run P W=.ok (.enter f (first'++args.map a.eval++caps')) W:=by
  simp only [execOp,ho,resolve,hgu,Deferred.ofValue,Sem.run_bind,Sem.run_pure,Result.andThen_ok,invoke]
  exact run_callFunc' hf (by rw [hb]; rfl) hn _ W
 rw [hrun,Oper.uponIn_enter]
 have hrep:∀(j:Nat) (v:Value) (y:AV),(first'++args.map a.eval++caps')[j]?=some v→(first++as++caps)[j]?=some y→RepV M ι v y :=
  list3_at h1 (by simpa using l1.symm) h2 hr1 (fun j v y hv hy=>by
   simp only [Array.getElem?_map,Option.map_eq_some_iff] at hv
   obtain ⟨w,hw,rfl⟩:=hv
   exact (e1 j w y (by simpa using hw) hy).2) hr2
 have hsz:(first'++args.map a.eval++caps').size=(first++as++caps).length:=by simp [h1,h2,l1]
 refine ⟨fun hd=>by simp [FW,Fence.wide] at hd,callsIn_FW ((callsIn_new hf hb hle (by omega) h hend hr hrel.agree hsz (fun j v y hv hy=>(hrep j v y hv hy).of_nr (nrL_mem.1 hnr y (List.mem_of_getElem? hy)))).mono ?_)⟩
 rintro ee W1 ⟨v,M1,ι1,rfl,q1,q2,q3,q4⟩
 have hlen:(List.replicate n AObj.dead).length=n:=List.length_replicate
 have hob2:st'.objs.length=n+new.length:=by rw [hob]; simp
 rw [hob] at q2
 have hb':(List.replicate n AObj.dead).length+new.length≤BIG:=by rw [hlen]; exact hbig
 have new_at : ∀k y,InR n (n+new.length) k→sto (List.replicate n AObj.dead++new) k=some y→y≠.dead→(∃j x,k=n+j∧new[j]?=some x∧y=x.plain)∨(∃w fl l,y=.row false false true fl w l):=by
  intro k y hk hy hd
  rcases sto_cases (List.replicate n AObj.dead++new) k with ⟨c,e⟩ | ⟨c,⟨j,i,w,fl,xs,l,_,_,_,e4⟩ | e⟩
  ·rw [e] at hy
   rcases hk with ⟨c1,c2⟩ | ⟨j,i,_,_,rfl⟩
   ·obtain ⟨j,rfl⟩:=Nat.exists_eq_add_of_le c1
    have:=app_at (objs:=List.replicate n AObj.dead) (new:=new) j
    rw [hlen] at this
    rw [this] at hy
    simp only [Option.map_eq_some_iff] at hy
    obtain ⟨x,hx,rfl⟩:=hy
    exact .inl ⟨j,x,rfl,hx,rfl⟩
   ·have:=fid_big j i; omega
  ·rw [e4] at hy; cases hy; exact .inr ⟨_,_,_,rfl⟩
  ·rw [e] at hy; cases hy
 have hok':∀j x,new[j]?=some x→okNew n (n+new.length) x=true:=fun j x hj=>List.all_eq_true.1 hok x (List.mem_of_getElem? hj)
 have key:=Rel.join (N:=InR n (n+new.length)) hrel q2 q1 hfree
  (fun k fn' sl ps as' bd st2 pe hk hl'=>by
   rcases new_at k _ hk hl' (by simp) with ⟨j,x,rfl,hx,e⟩ | ⟨w,fl,l,e⟩
   ·have:=hok' j x hx
    cases x <;> simp_all [okNew,AObj.plain]
   ·cases e)
  (fun k bx ro nr fl w xs hk hl'=>by
   rcases new_at k _ hk hl' (by simp) with ⟨j,x,rfl,hx,e⟩ | ⟨w',fl',l,e⟩
   ·have:=hok' j x hx
    cases x with
    | row bx' ro' nr' fl' w' xs' =>
     simp only [AObj.plain] at e
     cases e
     simp only [okNew,Bool.or_eq_true] at this
     refine this.imp (fun h=>h) (fun h z hz y hy o' ho'=>.inl (okId_in ?_))
     exact List.all_eq_true.1 (List.all_eq_true.1 (List.all_eq_true.1 h z hz) y hy) o' ho'
    | refs j' xs' =>
     simp only [AObj.plain] at e
     cases e
     simp only [okNew] at this
     right
     intro z hz y hy o' ho'
     obtain ⟨q,n',rfl⟩:=famRefs_mem hz
     simp only [AV.flat,List.mem_singleton] at hy
     subst hy
     simp only [AV.ids,List.mem_singleton] at ho'
     subst ho'
     exact .inr ⟨j',q,(okId_in this).1,(okId_in this).2,rfl⟩
    | _=>simp [AObj.plain] at e
   ·cases e; exact .inl rfl)
 have hle2:ι.le (fun k=>if InR n (n+new.length) k then ι1 k else ι k):=fun k q hk=>by
  by_cases e:InR n (n+new.length) k
  ·rw [hfree k e] at hk; cases hk
  ·simp only [e,if_false]; exact hk
 refine hpost v W1 M1 _ (q1.mono hrel.size) hle2 (fun k hk=>by simp only [hk,if_false]) ?_ (fun y hy=>by cases hy; exact q4.congr (fun o' ho'=>by rw [if_pos (.inl (okId_in (List.all_eq_true.1 hxi o' ho')))]))
 refine key.dead (fun k=>?_)
 rcases σ'.puts_at (effAt n new) k with ⟨p1,p2⟩ | ⟨y,p1,p2⟩
 ·by_cases e:InR n (n+new.length) k
  ·right; rw [p1]; exact hrel.used k (hfree k e)
  ·left; rw [p1]; simp only [e,if_false]
 ·have:=effAt_sto (objs:=List.replicate n AObj.dead) hb' (by rw [hlen]; exact p2)
  rw [hlen] at this
  left; rw [p1]; simp only [this.1,if_true]; exact this.2.symm
noncomputable def newEnd (P:Program) (fn:Func) (ops:Array Oper) (i:Nat) (st:St):AOut→Option St
 | .go e st'=>if e.ends && deadN st.objs.length st'.objs && Nat.ble st'.objs.length BIG && (st'.objs.drop st.objs.length).all (okNew st.objs.length st'.objs.length) then match resultA P fn st',ops[i]? with
   | some x,some o=>match putD st.slots st.nt o.dst (some x) with
    | some slots=>if x.ids.all (okId st.objs.length st'.objs.length) then some ⟨slots,st.objs++st'.objs.drop st.objs.length,st.nt⟩ else none
    | none=>none
   | _,_=>none
  else none
 | .pan _=>none
def newSk (st S:St):List Sk:=[(List.range' st.objs.length (S.objs.length - st.objs.length),[])]
theorem inlN {f:FuncId} {fn:Func} {c:Code} {as0:List AV} (hi:callInfo ops i st=some (f,as0)) (hnr:AV.nrL as0=true) (hf:P.funcs[f]?=some fn) (hb:fn.body=some c) (hn:(fn.name == "runtime.NumGoroutine")=false) (hle:Nat.ble as0.length fn.ntmps=true)
  (h:WP P none st.objs.length c ⟨enumA 0 as0,List.replicate st.objs.length .dead,fn.ntmps⟩ (fun out=>∃S,newEnd P fn ops i st out=some S∧RW P rd base ops (dAdd d (newSk st S)) (i+1) S Φ)):RW P rd base ops d i st Φ:=by
 obtain ⟨o,g,args,ts,first,caps,as1,ho,hop,hg,has,rfl⟩:=callInfo_spec hi
 obtain ⟨h1,h2⟩:=opAt_spec ho
 obtain ⟨out,hx,S,hS,k⟩:=h
 unfold newEnd at hS
 split at hS
 ·rename_i e st'
  split at hS
  ·rename_i hc
   simp only [Bool.and_eq_true] at hc
   obtain ⟨⟨⟨c1,c2⟩,c3⟩,c4⟩:=hc
   split at hS
   ·rename_i x o' hr ho'
    rw [h1] at ho'; cases ho'
    split at hS
    ·rename_i slots hp
     split at hS
     ·rename_i hxi
      cases hS
      have hob:=deadN_spec c2
      have hl:st'.objs.length=st.objs.length+(st'.objs.drop st.objs.length).length:=by
       have:=congrArg List.length hob
       rw [List.length_append,List.length_replicate] at this
       exact this
      have hbig:st.objs.length+(st'.objs.drop st.objs.length).length≤BIG:=by rw [←hl]; exact Nat.le_of_ble_eq_true c3
      refine rw_step (st1:=⟨slots,st.objs++st'.objs.drop st.objs.length,st.nt⟩) (s:=(List.range' st.objs.length ((st.objs++st'.objs.drop st.objs.length).length - st.objs.length),[])) ⟨o,⟨some x,effAt st.objs.length (st'.objs.drop st.objs.length),st.objs.length,st.objs.length+(st'.objs.drop st.objs.length).length,[]⟩,h1,?_,?_⟩ k
      ·refine ⟨ylL_new h2 hop hg has hnr hf hb hn (Nat.le_of_ble_eq_true hle) hx c1 hr hob hbig (by rw [←hl]; exact c4) (by rw [←hl]; exact hxi),rfl,by simp,sto_new hbig,by simp,fun _=>by simpa using hbig,fun he=>?_,hp,rfl⟩
       have:=effAt_nil he
       simp [this]
      ·refine ⟨fun e' he'=>?_,fun e' he'=>by cases he'⟩
       obtain ⟨j,y,q1,q2⟩:=mem_effAt.1 he'
       have hj:=(List.getElem?_eq_some_iff.1 q1).1
       refine ⟨st.objs.length+j,?_,?_⟩
       ·simp only [List.mem_range'_1,List.length_append]; omega
       ·rcases q2 with ⟨q,_⟩ | ⟨w,fl,ls,i',l,_,_,q,_⟩
        ·exact .inl q
        ·exact .inr ⟨by omega,i',q⟩
     ·cases hS
    ·cases hS
   ·cases hS
  ·cases hS
 ·cases hS
end
end Go.Ab
