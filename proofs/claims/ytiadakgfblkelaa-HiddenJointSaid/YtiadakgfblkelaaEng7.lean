/- Rules. No conditions. -/
import Derived.Test.YtiadakgfblkelaaEng6
import Derived.RowKit3
import Derived.ChangeSame
set_option linter.all false
namespace Go.Ab
open Go.RowKit
section
variable {P:Program} {rd:Option Nat} {base:Nat} {ops:Array Oper} {st st1 st' S:St} {o:Oper} {F:Foot} {out:AOut} {Φ Ψ:AOut→Prop} {d:Option (List Sk)} {i:Nat} {nf:Bool} {s:Slots} {σ:Sto} {c x y:Code}
theorem Yi {α:Type} {enc:α→AV} {l:List α} {ob w n:Nat} {bx ro fl:Bool} (hrow:σ ob=some (.row bx ro true fl w (l.map enc))):Qu σ (n+1) (.ref ob 0 l.length)=some (.lst fl (l.map enc),[ob]):=by
 have:(l.map enc).take l.length=l.map enc:=List.take_of_length_le (by simp)
 simp [Qu,hrow,this]
theorem Qkm {f:AV→Option (AV × List Nat)}:Q6 f []=some ([],[]):=rfl
theorem Js {f:AV→Option (AV × List Nat)} {x y:AV} {xs ys:List AV} {a b c:List Nat} (h1:f x=some (y,a)) (h2:Q6 f xs=some (ys,b)) (hc:a++b=c:=by rfl):Q6 f (x::xs)=some (y::ys,c):=by
 subst hc; simp [Q6,h1,h2]
theorem Qsg {n:Nat} {cs ys:List AV} {ids:List Nat} (h:Q6 (Qu σ n) cs=some (ys,ids)):Qu σ (n+1) (.agg cs)=some (.agg ys,ids):=by simp [Qu,h]
def Xk (ops:Array Oper) (i:Nat) (st:St):Option (FuncId × List AV) :=
 match X2 ops i st with
 | some o=>match o.op with
  | .call { callee:=.value g,args,.. }=>match evo (lk st.slots) g,Jw (lk st.slots) args.toList with
   | some (.fn (.func f) first caps),some as=>some (f,first++as++caps)
   | _,_=>none
  | _=>none
 | none=>none
theorem Qbs {f:FuncId} {as0:List AV} (h:Xk ops i st=some (f,as0)):∃o g args ts first caps as,X2 ops i st=some o∧o.op=.call { callee:=.value g,args,argTypes:=ts }∧evo (lk st.slots) g=some (.fn (.func f) first caps) ∧
  Jw (lk st.slots) args.toList=some as∧as0=first++as++caps:=by
 unfold Xk at h
 split at h
 ·rename_i o ho
  split at h
  ·rename_i g args ts hop
   split at h
   ·rename_i f' first caps as hg has
    cases h
    exact ⟨o,g,args,ts,first,caps,as,ho,hop,hg,has,rfl⟩
   ·cases h
  ·cases h
 ·cases h
def Qd5 (P:Program) (f:FuncId):Bool :=
 match P.funcs[f]? with
 | some fn=>fn.body.isSome && !(fn.name == "runtime.NumGoroutine")
 | none=>false
noncomputable def Qph (st:St) (ids:List Nat) (r:AV) (objs:List AObj):Option (List (Nat × AObj)) :=
 if objs.all AObj.okRow then
  if ids.isEmpty || (r.cls && objs.all AObj.flat) then some (Y1 st.objs.length st.objs.length objs)
  else match frz st.sto ids with
   | some es=>some (es++Y1 st.objs.length st.objs.length objs)
   | none=>none
 else none
noncomputable def Qf8 (ops:Array Oper) (i:Nat) (st:St) (ids:List Nat) (r:AV) (objs:List AObj):Option St :=
 match Qph st ids r objs with
 | some eff=>match Z5 ops i st (some (r.shift st.objs.length)) eff with
  | some S=>if Nat.beq S.objs.length (st.objs.length+objs.length) then some S else none
  | none=>none
 | none=>none
noncomputable def Qkt (st:St) (ids:List Nat) (r:AV) (objs:List AObj):Sk:=(((Qph st ids r objs).getD []).map (·.1),ids)
open Classical in
noncomputable def Qwa (f:FuncId) (as:List AV) (co:Xp):FuncId→List AV→Option Xp:=fun g bs=>if g=f∧bs=as then some co else none
theorem Qw8 {f:FuncId} {as:List AV} {co:Xp} (h:Zd P f as co) (hb:Qd5 P f=true):Qi2 P (Qwa f as co):=by
 intro g bs out he
 unfold Qwa at he
 split at he
 ·rename_i hc
  obtain ⟨rfl,rfl⟩:=hc
  cases he
  refine ⟨h,?_⟩
  unfold Qd5 at hb
  split at hb
  ·rename_i fn hf
   simp only [Bool.and_eq_true,Bool.not_eq_true'] at hb
   exact ⟨fn,hf,hb.1,hb.2⟩
  ·cases hb
 ·cases he
theorem Q28 {f:FuncId} {as0 us:List AV} {ids:List Nat} {rv:AV} {ro:List AObj} (hi:Xk ops i st=some (f,as0)) (hb:Qd5 P f=true) (hsn:Q6 (Qu st.sto Qs) as0=some (us,ids)) (hc:Zd P f us (.ret rv ro))
  (hS:Qf8 ops i st ids rv ro=some S) (k:RW P rd base ops (Zf d [Qkt st ids rv ro]) (i+1) S Φ):RW P rd base ops d i st Φ:=by
 obtain ⟨o,g,args,ts,first,caps,as1,ho,hop,hg,has,rfl⟩:=Qbs hi
 unfold Qf8 at hS
 unfold Qkt at k
 split at hS
 ·rename_i eff heff
  rw [heff] at k
  split at hS
  ·rename_i S' hS'
   split at hS
   ·rename_i hl
    cases hS
    obtain ⟨h1,h2⟩:=Vt ho
    unfold Z5 at hS'
    rw [h1] at hS'
    simp only at hS'
    split at hS'
    ·rename_i objs slots ha hp
     cases hS'
     refine Qat (s:=(eff.map (·.1),ids)) ⟨o,⟨some (rv.shift st.objs.length),eff,st.objs.length,st.objs.length+ro.length,ids⟩,h1,?_,Qhw _⟩ (by simpa using k)
     refine Qip (nf:=false) (C:=Qwa f us (.ret rv ro)) (Qw8 hc hb) (res:=⟨some (rv.shift st.objs.length),eff,st.objs.length+ro.length,ids⟩) h2 ?_ ha hp (Nat.eq_of_beq_eq_true hl)
     unfold Z0
     rw [hop]
     simp only [Xd,if_true]
     unfold evalOp
     rw [hop]
     simp only [hg,has,Qfu,hsn,Qwa,and_self,if_true]
     unfold Qph at heff
     split at heff
     ·rename_i hok
      rw [if_pos hok]
      split at heff
      ·rename_i hcl
       cases heff
       rw [if_pos hcl]
      ·rename_i hcl
       rw [if_neg hcl]
       split at heff
       ·rename_i es hes
        cases heff
        rw [hes]
       ·cases heff
     ·cases heff
    ·cases hS'
   ·cases hS
  ·cases hS
 ·cases hS
theorem Qxg {α R:Type} {G:Option α} {K:α→Option R} {f:FuncId} {as0 us:List AV} {ids:List Nat} {rv:α→AV} {ro:α→List AObj} {S:α→St} {r:R} (hi:Xk ops i st=some (f,as0)) (hb:Qd5 P f=true)
  (hsn:Q6 (Qu st.sto Qs) as0=some (us,ids)) (hc:∀x,G=some x→Zd P f us (.ret (rv x) (ro x))) (hS:∀x,Qf8 ops i st ids (rv x) (ro x)=some (S x)) (h:G.bind K=some r)
  (k:∀x,G=some x→K x=some r→RW P rd base ops (Zf d [Qkt st ids (rv x) (ro x)]) (i+1) (S x) Φ):RW P rd base ops d i st Φ:=by
 cases hg:G with
 | none=>rw [hg] at h; cases h
 | some x=>rw [hg] at h; exact Q28 hi hb hsn (hc x hg) (hS x) (k x hg h)
theorem Zd.args {f:FuncId} {us:List AV} {co:Xp} (hss:List (List LK)) (h:Zd P f (Qhc hss us) co):Zd P f us co:=by
 intro W M vs h1 h2 h3
 refine h W M vs h1 (by rw [Qhd]; exact h2) (fun j v y hv hy=>?_)
 obtain ⟨hs,z,hz,rfl⟩:=Qqd hss us j y hy
 exact Qd4 hs (h3 j v z hv hz)
theorem Zd.res {f:FuncId} {us:List AV} {r:AV} {objs:List AObj} (hss:List (List LK)) (h:Zd P f us (.ret r objs)):Zd P f us (.ret (Qfp hss r) objs):=by
 intro W M vs h1 h2 h3
 refine (h W M vs h1 h2 h3).mono fun e w he=>?_
 obtain ⟨v,M',ι',g1,g2,g3,g4,g5⟩:=he
 exact ⟨v,M',ι',g1,g2,g3,g4,Quz hss g5⟩
def Qtf (P:Program) (ops:Array Oper) (i:Nat) (st:St):Option (List (Nat × AV)) :=
 match X2 ops i st with
 | some o=>match o.op with
  | .buildSlice _ _ ps=>Kx (lk st.slots) ps.toList
  | _=>none
 | none=>none
noncomputable def Q03 (P:Program) (ops:Array Oper) (i:Nat) (st:St) (he:List LK) (b:Bool) (parts:List (Nat × AV)) (ids:List Nat):Option (St × List (Nat × AObj)) :=
 match X2 ops i st with
 | some o=>match o.op with
  | .buildSlice t n _=>match ti P t with
   | some T=>match T.kind with
    | .slice e=>match ti P e with
     | some E=>if n=0 then none else match E.zero with
      | some z=>if Nat.beq z.flat.length E.size && Nat.blt 0 E.size && Nat.ble (n*E.size) 16777216 then
        match Qce E.size (List.replicate n z) parts,frz st.sto ids with
        | some xs,some es=>match Z5 ops i st (some (.ref st.objs.length 0 n)) (es++[(st.objs.length,.row false false (AV.nrL xs) (b && xs.all AV.scs) E.size (xs.map (Q2 he)))]) with
         | some S=>if Nat.beq S.objs.length (st.objs.length+1) then some (S,es++[(st.objs.length,.row false false (AV.nrL xs) (xs.all AV.scs) E.size xs)]) else none
         | none=>none
        | _,_=>none
       else none
      | none=>none
     | none=>none
    | _=>none
   | none=>none
  | _=>none
 | none=>none
theorem Qo3 (he:List LK) (b:Bool) (es:List (Nat × AObj)) (o:Nat) (bx ro nr fl:Bool) (w:Nat) (xs:List AV):X6 he b (es++[(o,.row bx ro nr fl w xs)])=es++[(o,.row bx ro nr (b && fl) w (xs.map (Q2 he)))]:=by
 induction es with
 | nil=>rfl
 | cons e es ih =>
  obtain ⟨o',x⟩:=e
  cases es with
  | nil=>simp [X6]
  | cons e' es=>simp only [List.cons_append,X6] at ih ⊢; rw [ih]
theorem bsR {parts0 parts:List (Nat × AV)} {ids:List Nat} {es:List (Nat × AObj)} (he:List LK) (b:Bool) (hi:Qtf P ops i st=some parts0) (hsn:Zx st.sto parts0=some (parts,ids)) (hS:Q03 P ops i st he b parts ids=some (S,es))
  (k:RW P rd base ops (Zf d [(es.map (·.1),ids)]) (i+1) S Φ):RW P rd base ops d i st Φ:=by
 unfold Qtf at hi
 unfold Q03 at hS
 split at hi
 ·rename_i o ho
  rw [ho] at hS
  simp only at hS
  split at hi
  ·rename_i t n ps hop
   rw [hop] at hS
   simp only at hS
   split at hS
   ·rename_i T hT
    split at hS
    ·rename_i e hk
     split at hS
     ·rename_i E hE
      split at hS
      ·cases hS
      ·rename_i hn
       split at hS
       ·rename_i z hz
        split at hS
        ·rename_i hc
         split at hS
         ·rename_i xs es' hxs hes
          split at hS
          ·rename_i S' hS'
           split at hS
           ·rename_i hl
            cases hS
            refine Qts (nf:=false) (v:=some (.ref st.objs.length 0 n)) (eff:=es'++[(st.objs.length,.row false false (AV.nrL xs) (xs.all AV.scs) E.size xs)]) (fr:=st.objs.length+1) (rds:=ids) [] he b noC_sound ho ?_
             (by rw [Qo3]; exact hS') (Nat.eq_of_beq_eq_true hl) k
            unfold Z0
            rw [hop]
            simp only [Xd,Bool.false_eq_true,if_false]
            unfold evalOp
            rw [hop]
            simp only [hT,hk,hE,hi,hn,if_false,hz,hsn,Bool.false_eq_true,hc,if_true,hxs,hes,Z7]
           ·cases hS
          ·cases hS
         ·cases hS
        ·cases hS
       ·cases hS
     ·cases hS
    ·cases hS
   ·cases hS
  ·cases hi
 ·cases hi
theorem Qxe:Zx σ []=some ([],[]):=rfl
theorem Quo {j:Nat} {x:AV} {r ys:List (Nat × AV)} {b:List Nat} (hx:x.nr=true) (h:Zx σ r=some (ys,b)):Zx σ ((j,x)::r)=some ((j,x)::ys,b):=by simp [Zx,hx,h]
theorem Qmi {j:Nat} {x y:AV} {r ys:List (Nat × AV)} {a b c:List Nat} (hx:x.nr=false) (h1:Qu σ Qs x=some (y,a)) (h:Zx σ r=some (ys,b)) (hc:a++b=c):Zx σ ((j,x)::r)=some ((j,y)::ys,c):=by subst hc; simp [Zx,hx,h1,h]
theorem Q48 {R:Type} {b:Bool} {S:Bool→St} {A B:Option R} {r:R} (h:(if b=true then A else B)=some r) (h1:b=true→A=some r→RW P rd base ops d i (S true) Φ) (h2:b=false→B=some r→RW P rd base ops d i (S false) Φ):RW P rd base ops d i (S b) Φ:=by
 cases b
 ·exact h2 rfl (by simpa using h)
 ·exact h1 rfl (by simpa using h)
theorem Q15 {R:Type} {b:Bool} {S:Bool→St} {A B:Option R} {r:R} (h:(if b=true then A else B)=some r) (h1:b=true→A=some r→WP P rd base c (S true) Φ) (h2:b=false→B=some r→WP P rd base c (S false) Φ):WP P rd base c (S b) Φ:=by
 cases b
 ·exact h2 rfl (by simpa using h)
 ·exact h1 rfl (by simpa using h)
theorem Q3t {n m:Nat} {S:Nat → St} (hb:n=m) (h:RW P rd base ops d i (S m) Φ):RW P rd base ops d i (S n) Φ:=by rw [hb]; exact h
theorem ne_eq {a b:Int} {c:Bool} (h:(a != b)=c):(a==b)=!c:=by rw [←h]; simp [bne]
theorem Qt4 {op:Operand} (he:evo (lk st.slots) op=some (.bool true)) (h:WP P rd base x st Φ):WP P rd base (.cond op x y) st Φ:=Qpo he (fun _=>h) (fun e=>by cases e)
theorem Qs6 {op:Operand} (he:evo (lk st.slots) op=some (.bool false)) (h:WP P rd base y st Φ):WP P rd base (.cond op x y) st Φ:=Qpo he (fun e=>by cases e) (fun _=>h)
def Qgi {σ ρ:Type} (P:Program) (base:Nat) (I:σ→St) (Ex:ρ→AOut→Prop) (o:Step σ ρ) (out:AOut):Prop :=
 match o with
 | .next s=>∃st1,out=.go .normal st1∧Wk P base st1 (I s)
 | .done x=>Ex x out∧out.normal=false
theorem Qqh {σ ρ:Type} {body:σ→Option (Step σ ρ)} {I:σ→St} {Ex:ρ→AOut→Prop} (round:∀s o,body s=some o→WP P rd base c (I s) (Qgi P base I Ex o)) :
  ∀(n:Nat) (s:σ) (x:ρ),Qd n body s=some x→LWP P rd base c (I s) (Ex x)
 | 0,s,x,h=>by cases h
 | n+1,s,x,h=>by
  simp only [Qd] at h
  split at h
  ·rename_i s' hb
   refine Qgc ((round s _ hb).mono fun out ho=>?_)
   obtain ⟨st1,rfl,hw⟩:=ho
   exact Qkn hw (Qqh round n s' x h)
  ·rename_i x' hb
   cases h
   refine Qgc ((round s _ hb).mono fun out ho=>?_)
   obtain ⟨h1,h2⟩:=ho
   cases out with
   | pan v=>exact h1
   | go e st1=>cases e <;> first | exact h1 | simp [AOut.normal] at h2
  ·cases h
theorem Qtq {σ ρ R:Type} {n:Nat} {body:σ→Option (Step σ ρ)} {I:σ→St} {Ex:ρ→AOut→Prop} {K:ρ→Option R} {r:R} (s0:σ) (hw:Wk P base st (I s0)) (h:(Qd n body s0).bind K=some r)
  (round:∀s o,body s=some o→WP P rd base c (I s) (Qgi P base I Ex o)) (k:∀x,K x=some r→∀out,Ex x out→Φ out):WP P rd base (.loop c) st Φ:=by
 cases hx:Qd n body s0 with
 | none=>rw [hx] at h; cases h
 | some x =>
  rw [hx] at h
  obtain ⟨out,h1,h2⟩:=Qkn hw (Qqh round n s0 x hx)
  exact Qv1 ⟨out,h1,k x h out h2⟩
noncomputable def Qff (P:Program) (fn:Func) (hss:List (List LK)):AOut→Option (AV × List AObj)
 | .go e st'=>if e.ends then match resultA P fn st' with
   | some x=>match Qh5 st' x with
    | some (.ret r objs)=>some (Qfp hss r,objs)
    | _=>none
   | none=>none
  else none
 | .pan _=>none
theorem Qw2 {f:FuncId} {fn:Func} {c:Code} {args:List AV} {rv:AV} {ro:List AObj} (hss:List (List LK)) (hf:P.funcs[f]?=some fn) (hb:fn.body=some c) (hn:(fn.name == "runtime.NumGoroutine")=false) (hle:Nat.ble args.length fn.ntmps=true)
  (h:WP P none 0 c (st0 fn.ntmps args) (fun out=>Qff P fn hss out=some (rv,ro))):Zd P f args (.ret rv ro):=by
 obtain ⟨co,h1,r',h2,h3⟩:=Q3b (R:=fun co=>∃r',co=.ret r' ro∧Qfp hss r'=rv) hf hb hn (Nat.le_of_ble_eq_true hle) (h.mono fun out ho=>by
  cases out with
  | pan v=>cases ho
  | go e st' =>
   simp only [Qff] at ho
   split at ho
   ·rename_i he
    split at ho
    ·rename_i x hx
     split at ho
     ·rename_i r objs hex
      simp only [Option.some.injEq,Prod.mk.injEq] at ho
      obtain ⟨h1,rfl⟩:=ho
      exact ⟨he,x,hx,_,hex,r,rfl,h1⟩
     ·cases ho
    ·cases ho
   ·cases ho)
 rw [←h3]
 rw [h2] at h1
 exact h1.res hss
noncomputable def Qox (P:Program) (fn:Func) (ops:Array Oper) (i:Nat) (st:St):AOut→Option St
 | .go e st'=>if e.ends then match resultA P fn st',ops[i]? with
   | some x,some o=>match V2 st.slots st.nt o.dst (some x) with
    | some slots=>some ⟨slots,st'.objs,st.nt⟩
    | none=>none
   | _,_=>none
  else none
 | .pan _=>none
theorem Qp4 {f:FuncId} {fn:Func} {c:Code} {as0:List AV} (hi:Xk ops i st=some (f,as0)) (hf:P.funcs[f]?=some fn) (hb:fn.body=some c) (hn:(fn.name == "runtime.NumGoroutine")=false) (hle:Nat.ble as0.length fn.ntmps=true)
  (h:WP P none st.objs.length c ⟨J7 0 as0,st.objs,fn.ntmps⟩ (fun out=>∃S,Qox P fn ops i st out=some S∧RW P rd base ops none (i+1) S Φ)):RW P rd base ops none i st Φ:=by
 obtain ⟨o,g,args,ts,first,caps,as1,ho,hop,hg,has,rfl⟩:=Qbs hi
 obtain ⟨h1,h2⟩:=Vt ho
 obtain ⟨out,hx,S,hS,k⟩:=h
 unfold Qox at hS
 split at hS
 ·rename_i e st'
  split at hS
  ·rename_i he
   split at hS
   ·rename_i x o' hr ho'
    rw [h1] at ho'; cases ho'
    split at hS
    ·rename_i slots hp
     cases hS
     obtain ⟨out2,k1,k2⟩:=k
     have hi':i < ops.size:=(Array.getElem?_eq_some_iff.1 h1).1
     refine ⟨out2,?_,k2⟩
     rw [Qfk hi']
     exact Qgz h1 h2 (Qw1 hop hg has hf hb hn (Nat.le_of_ble_eq_true hle) hx he hr hp) k1
    ·cases hS
   ·cases hS
  ·cases hS
 ·cases hS
def Qln (ops:Array Oper) (i l:Nat) (st:St):AOut→Option St
 | .go e st'=>match st'.objs[l]?,ops[i]? with
  | some (.loop nt2 sl2 ps2 as2 bd2 .busy _),some o=>match V2 st.slots st.nt o.dst (some (.bool e.pend.isNone)) with
   | some slots=>some ⟨slots,st'.objs.set l (.loop nt2 sl2 ps2 as2 bd2 (if e.pend.isNone then .ready else .done) e.pend),st.nt⟩
   | none=>none
  | _,_=>none
 | .pan _=>none
def Qpp (ops:Array Oper) (i:Nat) (st:St):Option (Nat × List AV) :=
 match X2 ops i st with
 | some o=>match o.op with
  | .call { callee:=.value g,args,.. }=>match evo (lk st.slots) g,Jw (lk st.slots) args.toList with
   | some (.yld l),some us=>some (l,us)
   | _,_=>none
  | _=>none
 | none=>none
def Qn8 (l nt:Nat):AOut→Option St
 | .go .normal ⟨sl,objs,n⟩=>match objs[l]? with
  | some (.loop ntL slL psL asL bdL .ready peL)=>if Nat.beq n nt then some ⟨sl,objs.set l (.loop ntL slL psL asL bdL .busy peL),nt⟩ else none
  | _=>none
 | _=>none
theorem Q01 {l nt:Nat} {us:List AV} {sl:List (Nat × AV)} {ps:List Tmp} {assign body:Code} {pe:Option Code} (hi:Qpp ops i st=some (l,us)) (hl:st.objs[l]?=some (.loop nt sl ps assign body .ready pe))
  (hlen:(Nat.beq us.length ps.length && ps.all fun t=>Nat.blt t nt)=true)
  (h:WP P (some l) st.objs.length assign ⟨Ql7 sl ps us,st.objs,nt⟩ (fun outA=>∃SA,Qn8 l nt outA=some SA∧WP P (some l) st.objs.length body SA (fun outB=>∃S,Qln ops i l st outB=some S∧RW P rd base ops none (i+1) S Φ))) :
  RW P rd base ops none i st Φ:=by
 unfold Qpp at hi
 split at hi
 ·rename_i o ho
  split at hi
  ·rename_i g args ts hop
   split at hi
   ·rename_i l' us' hg has
    simp only [Option.some.injEq,Prod.mk.injEq] at hi
    obtain ⟨rfl,rfl⟩:=hi
    obtain ⟨h1,h2⟩:=Vt ho
    simp only [Bool.and_eq_true,List.all_eq_true] at hlen
    obtain ⟨outA,hxA,SA,hSA,outB,hxB,S,hS,k⟩:=h
    unfold Qn8 at hSA
    split at hSA
    ·rename_i slA objsA n
     split at hSA
     ·rename_i ntL slL psL asL bdL peL hlA
      split at hSA
      ·rename_i hn
       cases hSA
       have hn:=Nat.eq_of_beq_eq_true hn
       subst hn
       unfold Qln at hS
       split at hS
       ·rename_i e st'
        split at hS
        ·rename_i nt2 sl2 ps2 as2 bd2 pe2 o' hlB ho'
         rw [h1] at ho'; cases ho'
         split at hS
         ·rename_i slots hp
          cases hS
          obtain ⟨out2,k1,k2⟩:=k
          have hi':i < ops.size:=(Array.getElem?_eq_some_iff.1 h1).1
          refine ⟨out2,?_,k2⟩
          rw [Qfk hi']
          exact Qgz h1 h2 (Qz3 hop hg has hl (Nat.eq_of_beq_eq_true hlen.1) (fun t ht=>Yd (hlen.2 t ht)) hxA hlA hxB hlB hp) k1
         ·cases hS
        ·cases hS
       ·cases hS
      ·cases hSA
     ·cases hSA
    ·cases hSA
   ·cases hi
  ·cases hi
 ·cases hi
theorem Qmv {g:Operand} {ps:Array Tmp} {assign body:Code} {f:FuncId} {fn:Func} {c:Code} {first caps:List AV} (hg:evo (lk st.slots) g=some (.fn (.func f) first caps)) (hf:P.funcs[f]?=some fn) (hb:fn.body=some c) (hn:(fn.name == "runtime.NumGoroutine")=false)
  (hle:Nat.ble (first++[AV.yld st.objs.length]++caps).length fn.ntmps=true) (hrd:Q0o rd st.objs=true)
  (h:WP P none (st.objs.length+1) c (Ql6 st ps.toList assign body first caps fn.ntmps) (fun out0=>∃out,J3 P fn st out0=some out∧Φ out)):WP P rd base (.rangeFunc g ps assign body) st Φ:=by
 obtain ⟨out0,h0,out,h1,h2⟩:=h
 refine ⟨out,Qpm hg hf hb hn (Nat.le_of_ble_eq_true hle) (fun l hl=>?_) h0 h1,h2⟩
 subst hl
 simp only [Q0o] at hrd
 split at hrd
 ·rename_i s _ hob
  refine ⟨_,_,_,_,_,_,_,hob,fun e=>?_⟩
  subst e; cases hrd
 ·cases hrd
theorem Ka {base':Nat} (hb:base=base') (hs:st=st') (h:WP P rd base' c st' Φ):WP P rd base c st Φ:=by subst hb; subst hs; exact h
theorem Q8 {α R:Type} {G:Option α} {K:α→Option R} {r:R} {X:Prop} (h:G.bind K=some r) (k:∀a,G=some a→K a=some r→X):X:=by
 cases hg:G with
 | none=>rw [hg] at h; cases h
 | some a=>rw [hg] at h; exact k a hg h
theorem Q4z {i:Nat} (hk:Wk P base st st') (h:RW P rd base ops none i st' Φ):RW P rd base ops none i st Φ:=by
 obtain ⟨out,h1,h2⟩:=h
 refine ⟨out,?_,h2⟩
 intro B W0 D0 dl M ι a W n Q r hs hr hp
 obtain ⟨M',ι',hM,hι,hs'⟩:=hk B W0 D0 dl M ι a W hs
 exact h1 B W0 D0 dl M' ι' a W n Q r hs' (hr.mono hι) (hp.step hM hι (List.suffix_refl _))
end
abbrev vI (n:Int):AV:=.int .i64 n
abbrev eI:Int→AV:=AV.int .i64
abbrev vB (b:Bool):AV:=.bool b
abbrev oR {α:Type} (fl:Bool) (w:Nat) (enc:α→AV) (l:List α):AObj:=.row false false true fl w (l.map enc)
abbrev oX (nr fl:Bool) (w:Nat) (x:AV):AObj:=.row true false nr fl w [x]
def Qf6:Code→List Bool→Code
 | .seq a b,false::r=>Qf6 a r
 | .seq a b,true::r=>Qf6 b r
 | .cond _ a b,false::r=>Qf6 a r
 | .cond _ a b,true::r=>Qf6 b r
 | .block _ b,_::r=>Qf6 b r
 | .loop b,_::r=>Qf6 b r
 | .scope b,_::r=>Qf6 b r
 | .rangeFunc _ _ a b,false::r=>Qf6 a r
 | .rangeFunc _ _ a b,true::r=>Qf6 b r
 | c,_=>c
def cA (fn:Func) (w:List Bool):Code:=Qf6 (fn.body.getD .skip) (w++[false])
def cB (fn:Func) (w:List Bool):Code:=Qf6 (fn.body.getD .skip) (w++[true])
end Go.Ab
namespace Go.Ab
open Go.RowKit
section
variable {P:Program} {B:Nat} {W0 W W1:World} {D:List Nat} {M M1:CM} {ι ι1:Inj} {σ σ' σ1:Sto}
theorem Rel.dead (h:Rel P B W0 D M ι σ W) (hσ:∀k,σ' k=σ k∨σ' k=none∨σ' k=some .dead):Rel P B W0 D M ι σ' W:=by
 have back:∀k x,σ' k=some x→x≠.dead→σ k=some x:=fun k x hk hx=>by
  rcases hσ k with e | e | e
  ·rw [←e]; exact hk
  ·rw [e] at hk; cases hk
  ·rw [e] at hk; cases hk; exact absurd rfl hx
 refine ⟨h.size,h.below,h.defs,h.agree,fun o bx nr fl w xs p k ho=>h.cool o bx nr fl w xs p k (back _ _ ho (by simp)),fun o bx ro nr fl w xs ho=>h.row o bx ro nr fl w xs (back _ _ ho (by simp)),fun o fn sl ps as bd st pe ho=>h.loop o fn sl ps as bd st pe (back _ _ ho (by simp)),
  fun o o' bx nr fl w xs bx' nr' fl' w' xs' p p' hne h1 h2=>h.apart o o' bx nr fl w xs bx' nr' fl' w' xs' p p' hne (back _ _ h1 (by simp)) (back _ _ h2 (by simp)),
  fun o o' fn sl ps as bd st pe fn' sl' ps' as' bd' st' pe' p p' hne h1 h2=>h.loops o o' fn sl ps as bd st pe fn' sl' ps' as' bd' st' pe' p p' hne (back _ _ h1 (by simp)) (back _ _ h2 (by simp)),fun o ho=>?_⟩
 rcases hσ o with e | e
 ·rw [e]; exact h.used o ho
 ·exact e
open Classical in
theorem Rel.join {N:Nat → Prop} (h:Rel P B W0 D M ι σ W) (h1:Rel P W.heap.size W [] M1 ι1 σ1 W1) (hM:CM.Grow W.heap.size M M1) (n0:∀k,N k→ι k=none)
  (nl:∀k fn sl ps as bd st pe,N k→σ1 k≠some (.loop fn sl ps as bd st pe))
  (nc:∀k bx ro nr fl w xs,N k→σ1 k=some (.row bx ro nr fl w xs)→nr=true∨∀x∈xs,∀y∈x.flat,∀o∈y.ids,N o) :
  Rel P B W0 D M1 (fun k=>if N k then ι1 k else ι k) (fun k=>if N k then σ1 k else σ k) W1:=by
 have hrel:=h.old h1.below
 have hle:ι.le (fun k=>if N k then ι1 k else ι k):=fun k q hk=>by
  by_cases e:N k
  ·rw [n0 k e] at hk; cases hk
  ·simp only [e,if_false]; exact hk
 have hold:∀k bx nr fl w xs p,σ k=some (.row bx false nr fl w xs)→ι k=some p→p.blk < W.heap.size∨(p.cap=0∧p.base=0):=by
  intro k bx nr fl w xs p hk hp
  obtain ⟨q,hq,hr⟩:=h.row k _ _ _ _ _ _ hk
  rw [hp] at hq; cases hq
  rcases Nat.eq_zero_or_pos p.cap with hz | hz
  ·exact .inr ⟨hz,by rcases hr.cpos with h4 | h4 <;> omega⟩
  left
  obtain ⟨v,hv⟩:=Option.isSome_iff_exists.1 ((hr.own rfl).2 0 (Nat.mul_pos hz hr.pos)).1
  exact World.block_lt_of_cell? W _ hv
 refine ⟨hrel.size,hrel.below,hrel.defs,h1.agree,fun k bx1 nr1 fl1 w1 xs1 q j hk hq hj=>?_,?_,?_,?_,?_,?_⟩
 ·by_cases e:N k
  ·simp only [e,if_true] at hk hq; exact h1.cool _ _ _ _ _ _ _ _ hk hq hj
  ·simp only [e,if_false] at hk hq; rw [hM.keepC]; exact hrel.cool _ _ _ _ _ _ _ _ hk hq hj
 ·intro k bx ro nr fl w xs hk
  by_cases e:N k
  ·simp only [e,if_true] at hk ⊢
   obtain ⟨p,hp,hr⟩:=h1.row k _ _ _ _ _ _ hk
   refine ⟨p,hp,⟨hr.pw,hr.pos,hr.cpos,hr.len,hr.shaped,hr.nr,hr.fl,fun i j x y hi hj=>?_,fun hro=>⟨Nat.le_trans h.size (hr.own hro).1,(hr.own hro).2⟩,hr.imm⟩⟩
   obtain ⟨v,hv,hrep⟩:=hr.cells i j x y hi hj
   refine ⟨v,hv,?_⟩
   have hxm:=List.mem_of_getElem? hi
   have hym:=List.mem_of_getElem? hj
   rcases nc k bx ro nr fl w xs e hk with c | c
   ·exact hrep.of_nr (AV.nr_flat (Qx.1 (hr.nr c) x hxm) y hym)
   ·exact hrep.congr (fun o ho=>by rw [if_pos (c x hxm y hym o ho)])
  ·simp only [e,if_false] at hk ⊢
   obtain ⟨p,hp,hr⟩:=hrel.row k bx ro nr fl w xs hk
   refine ⟨p,hp,⟨hr.pw,hr.pos,hr.cpos,hr.len,hr.shaped,hr.nr,hr.fl,fun i j x y hi hj=>?_,fun hro=>⟨(hr.own hro).1,fun m hm=>⟨((hr.own hro).2 m hm).1,?_⟩⟩,fun hro i j x y hi hj=>?_⟩⟩
   ·obtain ⟨v,hv,hrep⟩:=hr.cells i j x y hi hj
    exact ⟨v,hv,hrep.mono hM.le hle⟩
   ·subst hro
    rcases hold k _ _ _ _ _ p hk hp with hq | ⟨hz,_⟩
    ·rw [hM.old _ _ hq]; exact ((hr.own rfl).2 m hm).2
    ·rw [hz] at hm; simp at hm
   ·obtain ⟨v,hv,hrep⟩:=hr.imm hro i j x y hi hj
    exact ⟨v,hM.le _ _ _ hv,hrep.mono hM.le (Inj.le_refl _)⟩
 ·intro k fn sl ps as bd st pe hk
  by_cases e:N k
  ·simp only [e,if_true] at hk; exact absurd hk (nl k _ _ _ _ _ _ _ e)
  ·simp only [e,if_false] at hk ⊢
   obtain ⟨q,nt,hq,hnt,hb,tmps,hsz,hrec,hsl⟩:=hrel.loop k fn sl ps as bd st pe hk
   exact ⟨q,nt,hq,by rw [hM.keep]; exact hnt,hb,tmps,hsz,hrec,Qae hM.le hle hsl⟩
 ·intro k k' bx nr fl w xs bx' nr' fl' w' xs' q q' hkk hk hk' hq hq'
  by_cases e:N k
  ·simp only [e,if_true] at hk hq
   by_cases e':N k'
   ·simp only [e',if_true] at hk' hq'
    exact h1.apart k k' _ _ _ _ _ _ _ _ _ _ _ _ hkk hk hk' hq hq'
   ·simp only [e',if_false] at hk' hq'
    obtain ⟨p,hp,hr⟩:=h1.row k _ _ _ _ _ _ hk
    rw [hp] at hq; cases hq
    rcases hold k' _ _ _ _ _ q' hk' hq' with hq2 | ⟨hz,hb⟩
    ·left
     have:=(hr.own rfl).1
     omega
    ·right; right
     rw [hz,hb]; simp
  ·simp only [e,if_false] at hk hq
   by_cases e':N k'
   ·simp only [e',if_true] at hk' hq'
    obtain ⟨p',hp',hr'⟩:=h1.row k' _ _ _ _ _ _ hk'
    rw [hp'] at hq'; cases hq'
    rcases hold k _ _ _ _ _ q hk hq with hq2 | ⟨hz,hb⟩
    ·left
     have:=(hr'.own rfl).1
     omega
    ·right; left
     rw [hz,hb]; simp
   ·simp only [e',if_false] at hk' hq'
    exact h.apart _ _ _ _ _ _ _ _ _ _ _ _ _ _ hkk hk hk' hq hq'
 ·intro k k' fn sl ps as bd st pe fn' sl' ps' as' bd' st' pe' q q' hkk hk hk' hq hq'
  by_cases e:N k
  ·simp only [e,if_true] at hk; exact absurd hk (nl k _ _ _ _ _ _ _ e)
  ·by_cases e':N k'
   ·simp only [e',if_true] at hk'; exact absurd hk' (nl k' _ _ _ _ _ _ _ e')
   ·simp only [e,e',if_false] at hk hq hk' hq'
    exact h.loops _ _ _ _ _ _ _ _ _ _ _ _ _ _ _ _ _ _ hkk hk hk' hq hq'
 ·intro k hk
  by_cases e:N k
  ·simp only [e,if_true] at hk ⊢; exact h1.used k hk
  ·simp only [e,if_false] at hk ⊢; exact h.used k hk
end
def famEff (k w:Nat) (fl:Bool):Nat → List (List AV)→List (Nat × AObj)
 | _,[]=>[]
 | i,l::r=>(fid k i,.row false false true fl w l)::famEff k w fl (i+1) r
def effAt:Nat → List AObj→List (Nat × AObj)
 | _,[]=>[]
 | k,x::r=>(k,x.plain)::((match x with | .fam w fl xs=>famEff k w fl 0 xs | _=>[])++effAt (k+1) r)
theorem Qii {k w:Nat} {fl:Bool} {id:Nat} {y:AObj}:∀{i:Nat} {xs:List (List AV)},(id,y)∈famEff k w fl i xs↔∃j l,xs[j]?=some l∧id=fid k (i+j)∧y=.row false false true fl w l
 | i,[]=>by simp [famEff]
 | i,l::r=>by
  simp only [famEff,List.mem_cons,Prod.mk.injEq,Qii (i:=i+1) (xs:=r)]
  constructor
  ·rintro (⟨rfl,rfl⟩ | ⟨j,l',h1,rfl,rfl⟩)
   ·exact ⟨0,l,rfl,rfl,rfl⟩
   ·exact ⟨j+1,l',by simpa using h1,by congr 1; omega,rfl⟩
  ·rintro ⟨j,l',h1,rfl,rfl⟩
   cases j with
   | zero=>simp at h1; subst h1; exact .inl ⟨rfl,rfl⟩
   | succ j=>exact .inr ⟨j,l',by simpa using h1,by congr 1; omega,rfl⟩
theorem Qeo {id:Nat} {y:AObj}:∀{k:Nat} {xs:List AObj},(id,y)∈effAt k xs↔∃j x,xs[j]?=some x∧((id=k+j∧y=x.plain)∨∃w fl ls i l,x=.fam w fl ls∧ls[i]?=some l∧id=fid (k+j) i∧y=.row false false true fl w l)
 | k,[]=>by simp [effAt]
 | k,x::r=>by
  simp only [effAt,List.mem_cons,List.mem_append,Prod.mk.injEq,Qeo (k:=k+1) (xs:=r)]
  constructor
  ·rintro (⟨rfl,rfl⟩ | h | ⟨j,x',h1,h2⟩)
   ·exact ⟨0,x,rfl,.inl ⟨rfl,rfl⟩⟩
   ·split at h
    ·rename_i w fl xs
     obtain ⟨j,l,h1,rfl,rfl⟩:=Qii.1 h
     exact ⟨0,_,rfl,.inr ⟨w,fl,xs,j,l,rfl,h1,by simp,rfl⟩⟩
    ·cases h
   ·refine ⟨j+1,x',by simpa using h1,?_⟩
    rw [show k+(j+1)=k+1+j by omega]; exact h2
  ·rintro ⟨j,x',h1,h2⟩
   cases j with
   | zero =>
    simp at h1; subst h1
    rcases h2 with ⟨rfl,rfl⟩ | ⟨w,fl,ls,i,l,rfl,h3,rfl,rfl⟩
    ·exact .inl ⟨rfl,rfl⟩
    ·exact .inr (.inl (Qii.2 ⟨i,l,h3,by simp,rfl⟩))
   | succ j =>
    refine .inr (.inr ⟨j,x',by simpa using h1,?_⟩)
    rw [show k+1+j=k+(j+1) by omega]; exact h2
theorem Qys {k:Nat} {xs:List AObj} (h:effAt k xs=[]):xs=[]:=by cases xs <;> simp_all [effAt]
section
variable {objs new:List AObj}
theorem Qkq (j:Nat):(objs++new)[objs.length+j]?=new[j]?:=by
 rw [List.getElem?_append_right (by omega),show objs.length+j - objs.length=j by omega]
theorem Qqj {id:Nat} {y:AObj} (hb:objs.length+new.length≤BIG) (h:(id,y)∈effAt objs.length new):InR objs.length (objs.length+new.length) id∧sto (objs++new) id=some y:=by
 obtain ⟨j,x,h1,h2⟩:=Qeo.1 h
 have hj:j < new.length:=(List.getElem?_eq_some_iff.1 h1).1
 rcases h2 with ⟨rfl,rfl⟩ | ⟨w,fl,ls,i,l,rfl,h3,rfl,rfl⟩
 ·exact ⟨.inl (by omega),by rw [Zr (by omega),Qkq,h1]; rfl⟩
 ·exact ⟨.inr ⟨_,i,by omega,by omega,rfl⟩,Xb (by rw [Qkq]; exact h1) h3⟩
theorem Qzb {id:Nat} (hb:objs.length+new.length≤BIG) (h:∀e∈effAt objs.length new,e.1≠id):(InR objs.length (objs.length+new.length) id→sto (objs++new) id=none)∧sto (objs++new) id=sto objs id:=by
 have hno:∀j x,new[j]?=some x→objs.length+j≠id:=fun j x hj e=>h (objs.length+j,x.plain) (Qeo.2 ⟨j,x,hj,.inl ⟨rfl,rfl⟩⟩) e
 have hfam:∀k w fl ls i l,id=fid k i→(objs++new)[k]?=some (.fam w fl ls)→ls[i]?=some l→k < objs.length:=fun k w fl ls i l e h1 h2=>by
  rcases Nat.lt_or_ge k objs.length with c | c
  ·exact c
  ·obtain ⟨j,rfl⟩:=Nat.exists_eq_add_of_le c
   rw [Qkq] at h1
   exact absurd e.symm (h (fid (objs.length+j) i,_) (Qeo.2 ⟨j,_,h1,.inr ⟨w,fl,ls,i,l,rfl,h2,rfl,rfl⟩⟩))
 constructor
 ·intro hin
  rcases hin with ⟨c1,c2⟩ | ⟨k,i,c1,c2,rfl⟩
  ·exact absurd (Nat.add_sub_cancel' c1) (hno (id - objs.length) (new[id - objs.length]'(by omega)) (List.getElem?_eq_getElem (by omega)))
  ·exact Qo6 (fun w fl xs l e1 e2=>by have:=hfam k w fl xs i l rfl e1 e2; omega)
 ·rcases Nat.lt_or_ge id BIG with c | c
  ·rw [Zr c,Zr c]
   rcases Nat.lt_or_ge id objs.length with d | d
   ·rw [List.getElem?_append_left d]
   ·obtain ⟨j,rfl⟩:=Nat.exists_eq_add_of_le d
    rw [Qkq,List.getElem?_eq_none d]
    cases hj:new[j]? with
    | none=>rfl
    | some x=>exact absurd rfl (hno j x hj)
  ·rcases Yg (objs++new) id with ⟨d,_⟩ | ⟨_,⟨k,i,w,fl,xs,l,rfl,e2,e3,e4⟩ | e⟩
   ·omega
   ·have hk:=hfam k w fl xs i l rfl e2 e3
    rw [e4,Xb (by rw [List.getElem?_append_left hk] at e2; exact e2) e3]
   ·rw [e]
    rcases Yg objs id with ⟨d,_⟩ | ⟨_,⟨k,i,w,fl,xs,l,rfl,e2,e3,e4⟩ | e'⟩
    ·omega
    ·have hk:k < objs.length:=(List.getElem?_eq_some_iff.1 e2).1
     rw [Xb (objs:=objs++new) (by rw [List.getElem?_append_left hk]; exact e2) e3] at e; cases e
    ·rw [e']
theorem Q2t (hb:objs.length+new.length≤BIG):sto (objs++new)=(sto objs).puts (effAt objs.length new):=by
 funext id
 rcases (sto objs).puts_at (effAt objs.length new) id with ⟨h1,h2⟩ | ⟨y,h1,h2⟩
 ·rw [h1]; exact (Qzb hb h2).2
 ·rw [h1]; exact (Qqj hb h2).2
end
def Qpg (n m o:Nat):Bool:=Nat.ble n o && Nat.blt o m
def Qlz (n m:Nat):AObj→Bool
 | .row _ _ nr _ _ xs=>nr || xs.all fun x=>x.flat.all fun y=>y.ids.all (Qpg n m)
 | .refs j _=>Qpg n m j
 | .fam _ _ _=>true
 | .dead=>true
 | .loop ..=>false
def Qrs:Nat → List AObj→Bool
 | 0,_=>true
 | n+1,.dead::r=>Qrs n r
 | _,_=>false
theorem Qop:∀{n:Nat} {objs:List AObj},Qrs n objs=true→objs=List.replicate n .dead++objs.drop n
 | 0,objs,_=>by simp
 | n+1,[],h=>by cases h
 | n+1,x::r,h=>by
  cases x <;> simp only [Qrs] at h <;> first | (cases h; done) | skip
  rw [List.replicate_succ,List.drop_succ_cons,List.cons_append,←Qop h]
theorem Qly {n m o:Nat} (h:Qpg n m o=true):n≤o∧o < m:=by
 simp only [Qpg,Bool.and_eq_true] at h
 exact ⟨Nat.le_of_ble_eq_true h.1,Yc h.2⟩
section
variable {P:Program} {ops:Array Oper} {st st':St} {o:Oper} {rd:Option Nat} {base:Nat} {Φ:AOut→Prop} {d:Option (List Sk)} {i:Nat}
theorem Qmj {k:Nat} {x:AV}:∀{i:Nat} {xs:List (List AV)},x∈Zk k i xs→∃j n,x=.ref (fid k j) 0 n
 | _,[],h=>by cases h
 | i,l::r,h=>by
  simp only [Zk,List.mem_cons] at h
  rcases h with rfl | h
  ·exact ⟨_,_,rfl⟩
  ·exact Qmj h
theorem Q0t {n:Nat} (k:Nat):sto (List.replicate n AObj.dead) k=none∨sto (List.replicate n AObj.dead) k=some .dead:=by
 rcases Yg (List.replicate n AObj.dead) k with ⟨_,e⟩ | ⟨_,⟨j,i,w,fl,xs,l,_,e2,_⟩ | e⟩
 ·rw [e]
  rcases Nat.lt_or_ge k n with h | h
  ·right; rw [List.getElem?_replicate,if_pos h]; rfl
  ·left; rw [List.getElem?_eq_none (by simpa using h)]; rfl
 ·rw [List.getElem?_replicate] at e2
  split at e2 <;> cases e2
 ·exact .inl e
theorem Quw {f:FuncId} {fn:Func} {c:Code} {as0:List AV} {n:Nat} {e:Xg} {x:AV} {vs:Array Value} {W:World} {M:CM} (hf:P.funcs[f]?=some fn) (hb:fn.body=some c) (hle:as0.length≤fn.ntmps) (hn:n≤BIG)
  (h:Xe P none n c ⟨J7 0 as0,List.replicate n .dead,fn.ntmps⟩ (.go e st')) (hend:e.ends=true) (hr:resultA P fn st'=some x)
  (hag:Qaw M W) (hsz:vs.size=as0.length) (hrep:∀(j:Nat) (v:Value) (a:AV),vs[j]?=some v→as0[j]?=some a→Qa M noInj v a) :
  Calls P f vs W fun ee W'=>∃v M' ι',ee=.returned v∧CM.Grow W.heap.size M M'∧Rel P W.heap.size W [] M' ι' (sto st'.objs) W'∧(∀k,¬ InB st'.objs.length k→ι' k=none)∧Qa M' ι' v x:=by
 refine callsIn_wide.1 (callsIn_of_wp_marks (F:=FW none) (n:=0) hf hb trivial ?_)
 have h0:Rel P W.heap.size W [] M noInj (sto (List.replicate n AObj.dead)) W:=(Qkg hag).dead (fun k=>.inr (Q0t k))
 refine h W.heap.size W [] [] M noInj _ W 0 _ none ⟨h0,Qd1 fn.ntmps hrep hsz,by simp; omega,⟨rfl,fun r hr=>by simp at hr,List.nodup_nil⟩,fun _ _=>rfl,by simpa using hn⟩ rfl ⟨?_,fun v hv=>by cases hv⟩
 intro e' st'' he dl' M' ι' a' W' g1 g2 g3 g4
 cases he
 have hex:e.exit'=.normal∨e.exit'=.ret:=by cases e <;> simp_all [Xg.ends,Xg.exit']
 have cut:∀R,LeavesInM (FW none) 0 P fn a'.tmps R a'.defers .returning W'→bodyPostM (FW none) 0 P fn R e.exit' a' W':=fun R hR=>by
  rcases hex with e1 | e1 <;> rw [e1] <;> exact hR
 apply cut
 rw [g4.df.defs]
 refine Qfs (by simp) dl' W' g4.rel g4.df.nd g4.df.old (fun W2 h2=>?_)
 obtain ⟨v,k1,k2⟩:=Qe6 h2 g4.slots hr
 exact ⟨v,k1,v,M',ι',rfl,g1,h2,g4.new,k2⟩
open Classical in
theorem Q2m {g:Operand} {args:Array Operand} {ts:Array TypeId} {f:FuncId} {fn:Func} {c:Code} {first caps as:List AV} {e:Xg} {x:AV} {s:Slots} {σ:Sto} {n:Nat} {new:List AObj}
  (hw:Yj ops s o=some true) (ho:o.op=.call { callee:=.value g,args,argTypes:=ts }) (hg:evo s g=some (.fn (.func f) first caps)) (has:Jw s args.toList=some as) (hnr:AV.nrL (first++as++caps)=true)
  (hf:P.funcs[f]?=some fn) (hb:fn.body=some c) (hn:(fn.name == "runtime.NumGoroutine")=false) (hle:(first++as++caps).length≤fn.ntmps)
  (h:Xe P none n c ⟨J7 0 (first++as++caps),List.replicate n .dead,fn.ntmps⟩ (.go e st')) (hend:e.ends=true) (hr:resultA P fn st'=some x)
  (hob:st'.objs=List.replicate n .dead++new) (hbig:n+new.length≤BIG) (hok:new.all (Qlz n (n+new.length))=true) (hxi:x.ids.all (Qpg n (n+new.length))=true) :
  YlL P ops o ⟨some x,effAt n new,n,n+new.length,[]⟩ s σ:=by
 intro s' σ' hs' hσ'
 have hl:=Qlm (ops:=ops) hs'
 rw [ho] at hl
 have hg':evo s' g=some (.fn (.func f) first caps):=by rw [hl g (by simp [Op.operands,Call.operands])]; exact hg
 have has':Jw s' args.toList=some as:=by rw [evos_congr (fun y hy=>hl y (by simp [Op.operands,Call.operands]; exact .inr (by simpa using hy)))]; exact has
 refine .inl ⟨by rw [Qbk hs']; exact hw,?_⟩
 intro B W0 D M ι a W nn Q r next hrel hsl hfree hpost
 simp only at hfree hpost
 have hgv:=Qg hsl hg'
 generalize hgu:a.eval g=gu at hgv
 cases hgv with
 | fn _ first' caps' _ _ hy hm h1 h2 hr1 hr2 =>
 obtain ⟨l1,e1⟩:=Vn hsl has'
 refine ⟨fun _ _=>trivial,?_⟩
 rw [Oper.semAt_eq _ _ _ (by rw [ho]; simp)]
 have hrun:(execOp a.eval o).run P W=.ok (.enter f (first'++args.map a.eval++caps')) W:=by
  simp only [execOp,ho,resolve,hgu,Deferred.ofValue,Sem.run_bind,Sem.run_pure,Result.andThen_ok,invoke]
  exact Ji hf (by rw [hb]; rfl) hn _ W
 rw [hrun,Oper.uponIn_enter]
 have hrep:∀(j:Nat) (v:Value) (y:AV),(first'++args.map a.eval++caps')[j]?=some v→(first++as++caps)[j]?=some y→Qa M ι v y :=
  Qjg h1 (by simpa using l1.symm) h2 hr1 (fun j v y hv hy=>by
   simp only [Array.getElem?_map,Option.map_eq_some_iff] at hv
   obtain ⟨w,hw,rfl⟩:=hv
   exact (e1 j w y (by simpa using hw) hy).2) hr2
 have hsz:(first'++args.map a.eval++caps').size=(first++as++caps).length:=by simp [h1,h2,l1]
 refine ⟨fun hd=>by simp [FW,Fence.wide] at hd,Qfg ((Quw hf hb hle (by omega) h hend hr hrel.agree hsz (fun j v y hv hy=>(hrep j v y hv hy).of_nr (Qx.1 hnr y (List.mem_of_getElem? hy)))).mono ?_)⟩
 rintro ee W1 ⟨v,M1,ι1,rfl,q1,q2,q3,q4⟩
 have hlen:(List.replicate n AObj.dead).length=n:=List.length_replicate
 have hob2:st'.objs.length=n+new.length:=by rw [hob]; simp
 rw [hob] at q2
 have hb':(List.replicate n AObj.dead).length+new.length≤BIG:=by rw [hlen]; exact hbig
 have new_at : ∀k y,InR n (n+new.length) k→sto (List.replicate n AObj.dead++new) k=some y→y≠.dead→(∃j x,k=n+j∧new[j]?=some x∧y=x.plain)∨(∃w fl l,y=.row false false true fl w l):=by
  intro k y hk hy hd
  rcases Yg (List.replicate n AObj.dead++new) k with ⟨c,e⟩ | ⟨c,⟨j,i,w,fl,xs,l,_,_,_,e4⟩ | e⟩
  ·rw [e] at hy
   rcases hk with ⟨c1,c2⟩ | ⟨j,i,_,_,rfl⟩
   ·obtain ⟨j,rfl⟩:=Nat.exists_eq_add_of_le c1
    have:=Qkq (objs:=List.replicate n AObj.dead) (new:=new) j
    rw [hlen] at this
    rw [this] at hy
    simp only [Option.map_eq_some_iff] at hy
    obtain ⟨x,hx,rfl⟩:=hy
    exact .inl ⟨j,x,rfl,hx,rfl⟩
   ·have:=Zu j i; omega
  ·rw [e4] at hy; cases hy; exact .inr ⟨_,_,_,rfl⟩
  ·rw [e] at hy; cases hy
 have hok':∀j x,new[j]?=some x→Qlz n (n+new.length) x=true:=fun j x hj=>List.all_eq_true.1 hok x (List.mem_of_getElem? hj)
 have key:=Rel.join (N:=InR n (n+new.length)) hrel q2 q1 hfree
  (fun k fn' sl ps as' bd st2 pe hk hl'=>by
   rcases new_at k _ hk hl' (by simp) with ⟨j,x,rfl,hx,e⟩ | ⟨w,fl,l,e⟩
   ·have:=hok' j x hx
    cases x <;> simp_all [Qlz,AObj.plain]
   ·cases e)
  (fun k bx ro nr fl w xs hk hl'=>by
   rcases new_at k _ hk hl' (by simp) with ⟨j,x,rfl,hx,e⟩ | ⟨w',fl',l,e⟩
   ·have:=hok' j x hx
    cases x with
    | row bx' ro' nr' fl' w' xs' =>
     simp only [AObj.plain] at e
     cases e
     simp only [Qlz,Bool.or_eq_true] at this
     refine this.imp (fun h=>h) (fun h z hz y hy o' ho'=>.inl (Qly ?_))
     exact List.all_eq_true.1 (List.all_eq_true.1 (List.all_eq_true.1 h z hz) y hy) o' ho'
    | refs j' xs' =>
     simp only [AObj.plain] at e
     cases e
     simp only [Qlz] at this
     right
     intro z hz y hy o' ho'
     obtain ⟨q,n',rfl⟩:=Qmj hz
     simp only [AV.flat,List.mem_singleton] at hy
     subst hy
     simp only [AV.ids,List.mem_singleton] at ho'
     subst ho'
     exact .inr ⟨j',q,(Qly this).1,(Qly this).2,rfl⟩
    | _=>simp [AObj.plain] at e
   ·cases e; exact .inl rfl)
 have hle2:ι.le (fun k=>if InR n (n+new.length) k then ι1 k else ι k):=fun k q hk=>by
  by_cases e:InR n (n+new.length) k
  ·rw [hfree k e] at hk; cases hk
  ·simp only [e,if_false]; exact hk
 refine hpost v W1 M1 _ (q1.mono hrel.size) hle2 (fun k hk=>by simp only [hk,if_false]) ?_ (fun y hy=>by cases hy; exact q4.congr (fun o' ho'=>by rw [if_pos (.inl (Qly (List.all_eq_true.1 hxi o' ho')))]))
 refine key.dead (fun k=>?_)
 rcases σ'.puts_at (effAt n new) k with ⟨p1,p2⟩ | ⟨y,p1,p2⟩
 ·by_cases e:InR n (n+new.length) k
  ·right; rw [p1]; exact hrel.used k (hfree k e)
  ·left; rw [p1]; simp only [e,if_false]
 ·have:=Qqj (objs:=List.replicate n AObj.dead) hb' (by rw [hlen]; exact p2)
  rw [hlen] at this
  left; rw [p1]; simp only [this.1,if_true]; exact this.2.symm
noncomputable def Qo2 (P:Program) (fn:Func) (ops:Array Oper) (i:Nat) (st:St):AOut→Option St
 | .go e st'=>if e.ends && Qrs st.objs.length st'.objs && Nat.ble st'.objs.length BIG && (st'.objs.drop st.objs.length).all (Qlz st.objs.length st'.objs.length) then match resultA P fn st',ops[i]? with
   | some x,some o=>match V2 st.slots st.nt o.dst (some x) with
    | some slots=>if x.ids.all (Qpg st.objs.length st'.objs.length) then some ⟨slots,st.objs++st'.objs.drop st.objs.length,st.nt⟩ else none
    | none=>none
   | _,_=>none
  else none
 | .pan _=>none
def Qwo (st S:St):List Sk:=[(List.range' st.objs.length (S.objs.length - st.objs.length),[])]
theorem Qz7 {f:FuncId} {fn:Func} {c:Code} {as0:List AV} (hi:Xk ops i st=some (f,as0)) (hnr:AV.nrL as0=true) (hf:P.funcs[f]?=some fn) (hb:fn.body=some c) (hn:(fn.name == "runtime.NumGoroutine")=false) (hle:Nat.ble as0.length fn.ntmps=true)
  (h:WP P none st.objs.length c ⟨J7 0 as0,List.replicate st.objs.length .dead,fn.ntmps⟩ (fun out=>∃S,Qo2 P fn ops i st out=some S∧RW P rd base ops (Zf d (Qwo st S)) (i+1) S Φ)):RW P rd base ops d i st Φ:=by
 obtain ⟨o,g,args,ts,first,caps,as1,ho,hop,hg,has,rfl⟩:=Qbs hi
 obtain ⟨h1,h2⟩:=Vt ho
 obtain ⟨out,hx,S,hS,k⟩:=h
 unfold Qo2 at hS
 split at hS
 ·rename_i e st'
  split at hS
  ·rename_i hc
   simp only [Bool.and_eq_true] at hc
   obtain ⟨⟨⟨c1,c2⟩,c3⟩,c4⟩:=hc
   split at hS
   ·rename_i x o' hr ho'
    rw [h1] at ho'; cases ho'
    split at hS
    ·rename_i slots hp
     split at hS
     ·rename_i hxi
      cases hS
      have hob:=Qop c2
      have hl:st'.objs.length=st.objs.length+(st'.objs.drop st.objs.length).length:=by
       have:=congrArg List.length hob
       rw [List.length_append,List.length_replicate] at this
       exact this
      have hbig:st.objs.length+(st'.objs.drop st.objs.length).length≤BIG:=by rw [←hl]; exact Nat.le_of_ble_eq_true c3
      refine Qat (st1:=⟨slots,st.objs++st'.objs.drop st.objs.length,st.nt⟩) (s:=(List.range' st.objs.length ((st.objs++st'.objs.drop st.objs.length).length - st.objs.length),[])) ⟨o,⟨some x,effAt st.objs.length (st'.objs.drop st.objs.length),st.objs.length,st.objs.length+(st'.objs.drop st.objs.length).length,[]⟩,h1,?_,?_⟩ k
      ·refine ⟨Q2m h2 hop hg has hnr hf hb hn (Nat.le_of_ble_eq_true hle) hx c1 hr hob hbig (by rw [←hl]; exact c4) (by rw [←hl]; exact hxi),rfl,by simp,Q2t hbig,by simp,fun _=>by simpa using hbig,fun he=>?_,hp,rfl⟩
       have:=Qys he
       simp [this]
      ·refine ⟨fun e' he'=>?_,fun e' he'=>by cases he'⟩
       obtain ⟨j,y,q1,q2⟩:=Qeo.1 he'
       have hj:=(List.getElem?_eq_some_iff.1 q1).1
       refine ⟨st.objs.length+j,?_,?_⟩
       ·simp only [List.mem_range'_1,List.length_append]; omega
       ·rcases q2 with ⟨q,_⟩ | ⟨w,fl,ls,i',l,_,_,q,_⟩
        ·exact .inl q
        ·exact .inr ⟨by omega,i',q⟩
     ·cases hS
    ·cases hS
   ·cases hS
  ·cases hS
 ·cases hS
end
end Go.Ab
namespace Go.Ab
open Go.RowKit
section
variable {P:Program} {B:Nat} {W0 W:World} {D D0 dl:List Nat} {M:CM} {ι:Inj} {σ:Sto} {st st':St} {a:Act} {base:Nat}
theorem Rel.row1 (h:Rel P B W0 D M ι σ W) {o:Nat} {bx nr fl bx' nr' fl':Bool} {w:Nat} {xs xs':List AV} (hσ:σ o=some (.row bx false nr fl w xs)) (hl:xs'.length≤xs.length)
  (hs:∀x∈xs',AV.shaped x w) (hnr:nr'=true→AV.nrL xs'=true) (hfl:fl'=true→∀x∈xs',AV.scs x=true)
  (hc:∀(i j:Nat) (x' y':AV),xs'[i]?=some x'→x'.flat[j]?=some y'→∃x y,xs[i]?=some x∧x.flat[j]?=some y∧∀v,Qa M ι v y→Qa M ι v y') :
  Rel P B W0 D M ι (σ.put o (.row bx' false nr' fl' w xs')) W:=by
 obtain ⟨p,hp,hrow⟩:=h.row o _ _ _ _ _ _ hσ
 have key:=h.write (bx':=bx') (nr':=nr') (fl':=fl') (xs':=xs') hσ hp 0 [] (by simp) (Nat.le_trans hl hrow.len) hs hnr hfl (fun i j x y hi hj hlo hhi=>by simp at hhi)
  (fun i j x' y' hi hj _=>by
   obtain ⟨x,y,h1,h2,h3⟩:=hc i j x' y' hi hj
   obtain ⟨v,hv,hr⟩:=hrow.cells i j x y h1 h2
   exact ⟨v,by rw [←Nat.add_assoc]; exact hv,h3 v hr⟩)
 exact key
theorem Rel.virts (h:Rel P B W0 D M ι σ W) (S:Nat → Prop) [DecidablePred S] (w:Nat) (fl:Bool) (hw:0 < w) (hS:∀o,S o→ι o=none) :
  Rel P B W0 D M (fun o=>if S o then some ⟨B,0,w,0⟩ else ι o) (fun o=>if S o then some (.row false false true fl w []) else σ o) W:=by
 have hle:ι.le (fun o=>if S o then some ⟨B,0,w,0⟩ else ι o):=fun o p hp=>by
  by_cases e:S o
  ·rw [hS o e] at hp; cases hp
  ·simp [e,hp]
 refine ⟨h.size,h.below,h.defs,h.agree,fun k bx1 nr1 fl1 w1 xs1 q j hk hq hj=>?_,?_,?_,?_,?_,?_⟩
 ·by_cases e:S k
  ·simp only [e,if_true] at hk hq; cases hk; cases hq; simp at hj
  ·simp only [e,if_false] at hk hq; exact h.cool _ _ _ _ _ _ _ _ hk hq hj
 ·intro o bx ro nr fl' w' xs ho
  by_cases e:S o
  ·simp only [e,if_true] at ho ⊢
   cases ho
   exact ⟨_,rfl,⟨rfl,hw,.inr rfl,Nat.le_refl _,by simp,by simp [AV.nrL],by simp,by simp,fun _=>⟨Nat.le_refl _,fun k hk=>by simp at hk⟩,fun hf=>by cases hf⟩⟩
  ·simp only [e,if_false] at ho ⊢
   obtain ⟨q,hq,hr⟩:=h.row o bx ro nr fl' w' xs ho
   refine ⟨q,hq,⟨hr.pw,hr.pos,hr.cpos,hr.len,hr.shaped,hr.nr,hr.fl,fun i j x y hi hj=>?_,hr.own,hr.imm⟩⟩
   obtain ⟨v,hv,hrep⟩:=hr.cells i j x y hi hj
   exact ⟨v,hv,hrep.mono (CM.le_refl _) hle⟩
 ·intro o fn sl ps as bd st pe ho
  by_cases e:S o
  ·simp [e] at ho
  ·simp only [e,if_false] at ho ⊢
   obtain ⟨q,nt,hq,hnt,hb,tmps,hsz,hrec,hsl⟩:=h.loop o fn sl ps as bd st pe ho
   exact ⟨q,nt,hq,hnt,hb,tmps,hsz,hrec,Qae (CM.le_refl _) hle hsl⟩
 ·intro o o' bx nr fl1 w1 xs1 bx' nr' fl2 w2 xs2 p p' hne h1 h2 hp hp'
  by_cases e:S o
  ·simp only [e,if_true] at hp
   cases hp
   right; left; simp
  ·by_cases e':S o'
   ·simp only [e',if_true] at hp'
    cases hp'
    right; right; simp
   ·simp only [e,e',if_false] at h1 h2 hp hp'
    exact h.apart _ _ _ _ _ _ _ _ _ _ _ _ _ _ hne h1 h2 hp hp'
 ·intro o o' fn sl ps as bd st pe fn' sl' ps' as' bd' st' pe' p p' hne h1 h2 hp hp'
  by_cases e:S o
  ·simp [e] at h1
  ·by_cases e':S o'
   ·simp [e'] at h2
   ·simp only [e,e',if_false] at h1 h2 hp hp'
    exact h.loops _ _ _ _ _ _ _ _ _ _ _ _ _ _ _ _ _ _ hne h1 h2 hp hp'
 ·intro o ho
  by_cases e:S o
  ·simp [e] at ho
  ·simp only [e,if_false] at ho ⊢
   exact h.used o ho
theorem Qr3 (o w:Nat) (fl:Bool) {α γ:Type} {x0:α} {n:Nat} {enc1:α→AV} (enc:γ→AV) {nr0 fl0:Bool} (ho:st.objs[o]?=some (.row false false nr0 fl0 1 ((List.replicate n x0).map enc1))) (ha:Qjf (enc1 x0)=true)
  (hw:(Nat.blt 0 w && Nat.blt st.objs.length BIG)=true)
  (hS:(⟨st.slots,st.objs.set o (.refs st.objs.length ((List.replicate n ([]:List γ)).map fun l=>l.map enc))++[.fam w fl ((List.replicate n ([]:List γ)).map fun l=>l.map enc)],st.nt⟩:St)=st'):Wk P base st st':=by
 classical
 subst hS
 simp only [Bool.and_eq_true] at hw
 have hw0:=Yc hw.1
 have hbig:=Yc hw.2
 intro B W0 D0 dl M ι a W h
 have hol:o < st.objs.length:=(List.getElem?_eq_some_iff.1 ho).1
 have hob:=h.lt ho
 generalize hxs:((List.replicate n ([]:List γ)).map fun l=>l.map enc)=xs at *
 have hxl:xs.length=n:=by rw [←hxs]; simp
 have hxe:∀(i:Nat) (l:List AV),xs[i]?=some l→l=[]:=fun i l hi=>by
  rw [←hxs] at hi
  simp only [List.getElem?_map,List.getElem?_replicate] at hi
  split at hi
  ·simp at hi; exact hi
  ·cases hi
 have hS:∀id,(∃i,id=fid st.objs.length i)→ι id=none:=fun id hid=>h.new id (by
  obtain ⟨i,rfl⟩:=hid
  rintro (c | ⟨k,i',hk,e⟩)
  ·have:=Zu st.objs.length i; omega
  ·have:=(Y4 e).1; omega)
 have r1:=h.rel.virts (fun id=>∃i,id=fid st.objs.length i) w fl hw0 hS
 have hle:ι.le (fun id=>if (∃i,id=fid st.objs.length i) then some ⟨B,0,w,0⟩ else ι id):=fun id p hp=>by
  by_cases e:∃i,id=fid st.objs.length i
  ·rw [hS id e] at hp; cases hp
  ·simp only [e,if_false]; exact hp
 have hno:¬ ∃i,o=fid st.objs.length i:=fun ⟨i,e⟩=>by have:=Zu st.objs.length i; omega
 have hos:(fun id=>if (∃i,id=fid st.objs.length i) then some (AObj.row false false true fl w []) else sto st.objs id) o=some (.row false false nr0 fl0 1 ((List.replicate n x0).map enc1)):=by
  simp only [hno,if_false]; exact Qcv hob ho rfl
 have r2:=r1.row1 (bx':=false) (nr':=false) (fl':=false) (xs':=Zk st.objs.length 0 xs) hos (by simp [Y0,hxl]) (fun x hx=>by
   obtain ⟨i,hi⟩:=List.mem_iff_getElem?.1 hx
   rw [Va] at hi
   cases hl:xs[i]? with
   | none=>rw [hl] at hi; cases hi
   | some l=>rw [hl] at hi; simp at hi; subst hi; exact ⟨.inr rfl,rfl,fun z hz=>by simp [AV.flat] at hz; subst hz; rfl⟩) (by simp) (by simp)
  (fun i c x' y' hi hc=>by
   rw [Va] at hi
   cases hl:xs[i]? with
   | none=>rw [hl] at hi; cases hi
   | some l =>
    rw [hl] at hi
    have hl0:=hxe i l hl
    subst hl0
    simp only [Option.map_some,Nat.zero_add,List.length_nil,Option.some.injEq] at hi
    subst hi
    have hin:i < n:=by rw [←hxl]; exact (List.getElem?_eq_some_iff.1 hl).1
    obtain ⟨p0,_,hrow0⟩:=h.rel.row o _ _ _ _ _ _ (Qcv hob ho rfl)
    have hx0:((List.replicate n x0).map enc1)[i]?=some (enc1 x0):=by simp [hin]
    cases c with
    | succ c=>simp [AV.flat] at hc
    | zero =>
     simp only [AV.flat,List.getElem?_cons_zero,Option.some.injEq] at hc
     subst hc
     have hf:(enc1 x0).flat[0]?=some (enc1 x0):=by cases hz:enc1 x0 <;> simp [hz,Qjf] at ha <;> rfl
     refine ⟨_,_,hx0,hf,fun v hv=>?_⟩
     obtain ⟨ad,rfl⟩:=Qkk ha hv
     exact .ref0 ad _ ⟨B,0,w,0⟩ (if_pos ⟨i,rfl⟩) rfl)
 have key:∀k,sto (st.objs.set o (.refs st.objs.length xs)++[.fam w fl xs]) k=Sto.put (fun id=>if (∃i,id=fid st.objs.length i) then some (AObj.row false false true fl w []) else sto st.objs id) o (.row false false false false 1 (Zk st.objs.length 0 xs)) k ∨
   sto (st.objs.set o (.refs st.objs.length xs)++[.fam w fl xs]) k=none∨sto (st.objs.set o (.refs st.objs.length xs)++[.fam w fl xs]) k=some .dead:=by
  intro k
  have hget:∀m:Nat,m≠o→m≠st.objs.length→(st.objs.set o (AObj.refs st.objs.length xs)++[AObj.fam w fl xs])[m]?=st.objs[m]?:=fun m h1 h2=>by
   rcases Nat.lt_or_ge m st.objs.length with c | c
   ·rw [List.getElem?_append_left (by simpa using c),List.getElem?_set_ne (Ne.symm h1)]
   ·rw [List.getElem?_eq_none (by simp; omega),List.getElem?_eq_none c]
  have hgo:(st.objs.set o (AObj.refs st.objs.length xs)++[AObj.fam w fl xs])[o]?=some (.refs st.objs.length xs):=by
   rw [List.getElem?_append_left (by simpa using hol),List.getElem?_set_self hol]
  have hgj:(st.objs.set o (AObj.refs st.objs.length xs)++[AObj.fam w fl xs])[st.objs.length]?=some (.fam w fl xs):=by
   rw [List.getElem?_append_right (by simp)]; simp
  rcases Nat.lt_or_ge k BIG with c | c
  ·have hnk:¬ ∃i,k=fid st.objs.length i:=fun ⟨i,e⟩=>by have:=Zu st.objs.length i; omega
   rw [Zr c]
   by_cases e:k=o
   ·subst e; left; rw [hgo,Sto.put_same]; rfl
   ·by_cases e2:k=st.objs.length
    ·subst e2; right; right; rw [hgj]; rfl
    ·left; rw [hget k e e2,Sto.put_ne _ _ e]; simp only [hnk,if_false]; rw [Zr c]
  ·have eo:k≠o:=fun e=>by omega
   rw [Sto.put_ne _ _ eo]
   rcases Yg (st.objs.set o (AObj.refs st.objs.length xs)++[AObj.fam w fl xs]) k with ⟨c',_⟩ | ⟨_,⟨m,i,w',fl',ys,l,rfl,e2,e3,e4⟩ | e⟩
   ·omega
   ·left
    rw [e4]
    by_cases em:m=st.objs.length
    ·subst em
     rw [hgj] at e2; cases e2
     have:=hxe i l e3; subst this
     have hex:∃i',fid st.objs.length i=fid st.objs.length i':=⟨i,rfl⟩
     simp only [hex,if_true]
    ·have hex:¬ ∃i',fid m i=fid st.objs.length i':=fun ⟨i',e⟩=>em (Y4 e).1
     simp only [hex,if_false]
     have emo:m≠o:=fun e=>by subst e; rw [hgo] at e2; cases e2
     rw [hget m emo em] at e2
     rw [Xb e2 e3]
   ·exact .inr (.inl e)
 refine ⟨M,_,.refl _ _,hle.leB base,⟨r2.forget key,h.slots.mono (CM.le_refl _) hle,h.nt,h.df,fun k hk=>?_,by simp; omega⟩⟩
 have hk:¬ InB (st.objs.length+1) k:=by simpa using hk
 have hex:¬ ∃i,k=fid st.objs.length i:=fun ⟨i,e⟩=>hk (.inr ⟨st.objs.length,i,Nat.lt_succ_self _,e⟩)
 simp only [hex,if_false]
 exact h.new k (fun c=>hk (c.mono (Nat.le_succ _)))
def Qdp (m:Nat) (ids:List Nat):Bool:=ids.all fun k=>Nat.blt k BIG && !Nat.beq k m
def AObj.safe (m j:Nat):AObj→Bool
 | .row _ _ nr _ _ xs=>nr || Qdp m (AV.idsL xs)
 | .loop _ sl _ _ _ _ _=>Qdp m (AV.idsL (sl.map (·.2)))
 | .refs j' _=>!Nat.beq j' j
 | _=>true
def Qfo (m j o:Nat):Nat → List AObj→Bool
 | _,[]=>true
 | k,x::xs=>(Nat.beq k o || x.safe m j) && Qfo m j o (k+1) xs
theorem Qoy {m j o:Nat}:∀{k:Nat} {xs:List AObj},Qfo m j o k xs=true→∀(i:Nat) (x:AObj),xs[i]?=some x→k+i≠o→x.safe m j=true
 | _,[],_,i,x,h,_=>by simp at h
 | k,y::ys,h,i,x,hi,hne=>by
  simp only [Qfo,Bool.and_eq_true,Bool.or_eq_true] at h
  cases i with
  | zero =>
   simp at hi; subst hi
   rcases h.1 with e | e
   ·exact absurd (Nat.eq_of_beq_eq_true e) hne
   ·exact e
  | succ i=>exact Qoy h.2 i x (by simpa using hi) (by omega)
def Jl (m:Nat) (s:List (Nat × AV)):List Nat → List (Nat × AV)
 | []=>[]
 | t::ts=>match lk s t with
  | some x=>if Qdp m x.ids then (t,x)::Jl m s ts else Jl m s ts
  | none=>Jl m s ts
theorem Qcp {m:Nat} {s:List (Nat × AV)}:∀{ts:List Nat} {t:Nat} {x:AV},lk (Jl m s ts) t=some x→lk s t=some x∧Qdp m x.ids=true
 | [],t,x,h=>by simp [Jl,lk] at h
 | t0::ts,t,x,h=>by
  simp only [Jl] at h
  split at h
  ·rename_i y hy
   split at h
   ·rename_i hs
    simp only [lk] at h
    split at h
    ·rename_i e
     have e:=Nat.eq_of_beq_eq_true e
     subst e; cases h; exact ⟨hy,hs⟩
    ·exact Qcp h
   ·exact Qcp h
  ·exact Qcp h
theorem Qwl {m:Nat} {ids:List Nat} (h:Qdp m ids=true):∀k∈ids,k < BIG∧k≠m:=fun k hk=>by
 simp only [Qdp,List.all_eq_true,Bool.and_eq_true,Bool.not_eq_true'] at h
 obtain ⟨h1,h2⟩:=h k hk
 exact ⟨Yc h1,fun e=>by rw [e,Nat.beq_refl] at h2; cases h2⟩
theorem Q0e {x y:AV} (h:y∈x.flat):∀o∈y.ids,o∈x.ids:=by
 cases x with
 | agg cs=>intro o ho; simp only [AV.ids,Qbt]; exact ⟨y,h,ho⟩
 | _=>simp only [AV.flat,List.mem_singleton] at h; subst h; exact fun o ho=>ho
theorem TrE.congr {ι':Inj} {x:AV} (h:∀o∈x.ids,ι' o=ι o):TrE M ι ι' x x :=
 ⟨fun _ h=>h,fun h=>h,fun j y hj=>⟨y,hj,fun v hv=>hv.congr (fun o ho=>h o (Q0e (List.mem_of_getElem? hj) o ho)),fun v hv=>hv⟩⟩
theorem TrE.ref {ι':Inj} {o o' n:Nat} (h:∀p,ι o=some p→ι' o'=some p):TrE M ι ι' (.ref o 0 n) (.ref o' 0 n):=by
 refine ⟨fun w hw=>Qi9 (f:=fun _=>some o') rfl hw,fun h=>(by cases h),fun c y' hc=>?_⟩
 cases c with
 | succ c=>simp [AV.flat] at hc
 | zero =>
  simp only [AV.flat,List.getElem?_cons_zero,Option.some.injEq] at hc
  subst hc
  refine ⟨_,rfl,fun v hv=>?_,fun v hv=>?_⟩
  ·obtain ⟨p,hp,hq⟩:=Qfm hv
   exact hq _ _ (h p hp)
  ·obtain ⟨p,hp,_⟩:=Qfm hv
   cases hp
theorem Sim.adopt (h:Sim P B W0 D0 dl M ι st a W) {o j m n w:Nat} {fl:Bool} {cells l:List AV} {xs xs':List (List AV)} {live:List Nat}
  (ho:st.objs[o]?=some (.row false false false false 1 cells)) (hj:st.objs[j]?=some (.fam w fl xs)) (hm:st.objs[m]?=some (.row false false true fl w l))
  (hlen:xs'.length=cells.length) (hn:cells[n]?=some (.ref m 0 l.length)) (hxn:xs'[n]?=some l)
  (hoth:∀(i:Nat) (c:AV),i≠n→cells[i]?=some c→∃l',xs'[i]?=some l'∧xs[i]?=some l'∧c=.ref (fid j i) 0 l'.length)
  (hsafe:Qfo m j o 0 st.objs=true) (hbm:base≤m) (hbj:base≤j) :
  ∃ι',Inj.leB base ι ι'∧Sim P B W0 D0 dl M ι' ⟨Jl m st.slots live,((st.objs.set o (.refs j xs')).set j (.fam w fl xs')).set m .dead,st.nt⟩ a W:=by
 classical
 have hob:=h.lt ho
 have hjb:=h.lt hj
 have hmb:=h.lt hm
 have hoj:o≠j:=fun e=>by subst e; rw [ho] at hj; cases hj
 have hom:o≠m:=fun e=>by subst e; rw [ho] at hm; cases hm
 have hjm:j≠m:=fun e=>by subst e; rw [hj] at hm; cases hm
 have hol:=(List.getElem?_eq_some_iff.1 ho).1
 have hjl:=(List.getElem?_eq_some_iff.1 hj).1
 have hml:=(List.getElem?_eq_some_iff.1 hm).1
 have hfm:fid j n≠m:=fun e=>by have:=Zu j n; omega
 generalize hobjs:((st.objs.set o (.refs j xs')).set j (.fam w fl xs')).set m .dead=objs'
 have gO:objs'[o]?=some (.refs j xs'):=by rw [←hobjs,List.getElem?_set_ne hom.symm,List.getElem?_set_ne hoj.symm,List.getElem?_set_self hol]
 have gJ:objs'[j]?=some (.fam w fl xs'):=by rw [←hobjs,List.getElem?_set_ne hjm.symm,List.getElem?_set_self (by simpa using hjl)]
 have gM:objs'[m]?=some .dead:=by rw [←hobjs,List.getElem?_set_self (by simpa using hml)]
 have gE:∀k:Nat,k≠o→k≠j→k≠m→objs'[k]?=st.objs[k]?:=fun k h1 h2 h3=>by
  rw [←hobjs,List.getElem?_set_ne h3.symm,List.getElem?_set_ne h2.symm,List.getElem?_set_ne h1.symm]
 have gL:objs'.length=st.objs.length:=by rw [←hobjs]; simp
 let g:Nat → Option Nat := fun k=>if k=fid j n then some m else if k=m then none else some k
 have g1:g (fid j n)=some m:=if_pos rfl
 have g2:∀k,k≠fid j n→k≠m→g k=some k:=fun k e1 e2=>by simp only [g,e1,e2,if_false]
 let ι':Inj:=fun k=>(g k).bind ι
 have i1:ι' (fid j n)=ι m:=by simp only [ι',g1,Option.bind_some]
 have i2:∀k,k≠fid j n→k≠m→ι' k=ι k:=fun k e1 e2=>by simp only [ι',g2 k e1 e2,Option.bind_some]
 have isafe:∀ids,Qdp m ids=true→∀k∈ids,ι' k=ι k:=fun ids hs k hk=>by
  obtain ⟨c1,c2⟩:=Qwl hs k hk
  exact i2 k (fun e=>by have:=Zu j n; omega) c2
 have hobj:∀k x',sto objs' k=some x'→x'≠.dead→∃q x,g k=some q∧sto st.objs q=some x∧TrO M ι ι' x x':=by
  intro k x' hk hd
  rcases Yg objs' k with ⟨c,e⟩ | ⟨c,⟨q,i,w',fl',ys,z,rfl,e2,e3,e4⟩ | e⟩
  ·rw [e] at hk
   have hkf:k≠fid j n:=fun e=>by have:=Zu j n; omega
   by_cases ko:k=o
   ·subst ko
    rw [gO] at hk; cases hk
    refine ⟨k,_,g2 k hkf hom,Qcv hob ho rfl,.row _ _ _ _ _ _ _ (by simp [Y0,hlen]) (fun e=>by cases e) (fun i c c' h1 h2=>?_)⟩
    rw [Va] at h2
    by_cases ein:i=n
    ·subst ein
     rw [hn] at h1; cases h1
     rw [hxn] at h2
     simp only [Option.map_some,Nat.zero_add,Option.some.injEq] at h2
     subst h2
     exact .ref fun p hp=>by rw [i1]; exact hp
    ·obtain ⟨l',e1,_,rfl⟩:=hoth i c ein h1
     rw [e1] at h2
     simp only [Option.map_some,Nat.zero_add,Option.some.injEq] at h2
     subst h2
     exact .ref fun p hp=>by rw [i2 _ (fun e=>ein (Y4 e).2) (fun e=>by have:=Zu j i; omega)]; exact hp
   ·by_cases kj:k=j
    ·subst kj; rw [gJ] at hk; cases hk; exact absurd rfl hd
    ·by_cases km:k=m
     ·subst km; rw [gM] at hk; cases hk; exact absurd rfl hd
     ·rw [gE k ko kj km] at hk
      cases hx:st.objs[k]? with
      | none=>rw [hx] at hk; cases hk
      | some x =>
       rw [hx] at hk
       simp only [Option.map_some,Option.some.injEq] at hk
       subst hk
       have hs:=Qoy hsafe k x hx (by omega)
       have hst:sto st.objs k=some x.plain:=by rw [Zr c,hx]; rfl
       refine ⟨k,_,g2 k hkf km,hst,?_⟩
       cases x with
       | dead=>exact absurd rfl hd
       | fam _ _ _=>exact absurd rfl hd
       | row bx ro nr fl0 w0 ys =>
        simp only [AObj.safe,Bool.or_eq_true] at hs
        rcases hs with hs | hs
        ·obtain ⟨_,_,hro⟩:=h.rel.row k _ _ _ _ _ _ hst
         exact .sameRow (hro.nr hs)
        ·exact .row _ _ _ _ _ _ _ rfl (fun _ e=>e) (fun i y y' h1 h2=>by
          rw [h1] at h2; cases h2
          exact TrE.congr fun o ho=>isafe _ hs o (Qbt.2 ⟨y,List.mem_of_getElem? h1,ho⟩))
       | loop nt sl ps as bd s pe =>
        simp only [AObj.safe] at hs
        refine .loop _ _ _ _ _ _ _ _ (fun t y hy=>⟨y,hy,fun v hv=>hv.congr fun o ho=>isafe _ hs o (Qbt.2 ⟨y,?_,ho⟩)⟩)
        have:∀(s:List (Nat × AV)),lk s t=some y→y∈s.map (·.2):=fun s=>by
         induction s with
         | nil=>intro e; cases e
         | cons q r ih =>
          intro e
          obtain ⟨k0,v0⟩:=q
          simp only [lk] at e
          split at e
          ·cases e; simp
          ·simp [ih e]
        exact this sl hy
       | refs j' ys =>
        simp only [AObj.safe,Bool.not_eq_true'] at hs
        have hjj:j'≠j:=fun e=>by rw [e,Nat.beq_refl] at hs; cases hs
        refine .row _ _ _ _ _ _ _ rfl (fun _ e=>e) (fun i y y' h1 h2=>?_)
        rw [h1] at h2; cases h2
        rw [Va] at h1
        cases hl:ys[i]? with
        | none=>rw [hl] at h1; cases h1
        | some l0 =>
         rw [hl] at h1
         simp only [Option.map_some,Nat.zero_add,Option.some.injEq] at h1
         subst h1
         exact .ref fun p hp=>by rw [i2 _ (fun e=>hjj (Y4 e).1) (fun e=>by have:=Zu j' i; omega)]; exact hp
  ·rw [e4] at hk; cases hk
   have hfk:fid q i≠m:=fun e=>by have:=Zu q i; omega
   by_cases qj:q=j
   ·subst qj
    rw [gJ] at e2; cases e2
    by_cases ein:i=n
    ·subst ein
     rw [hxn] at e3; cases e3
     have hst:=Qcv hmb hm rfl
     obtain ⟨_,_,hro⟩:=h.rel.row m _ _ _ _ _ _ hst
     exact ⟨m,_,g1,hst,.sameRow (hro.nr rfl)⟩
    ·have hil:i < cells.length:=by rw [←hlen]; exact (List.getElem?_eq_some_iff.1 e3).1
     obtain ⟨l',e1,e5,_⟩:=hoth i _ ein (List.getElem?_eq_getElem hil)
     rw [e1] at e3; cases e3
     have hst:=Xb hj e5
     obtain ⟨_,_,hro⟩:=h.rel.row _ _ _ _ _ _ _ hst
     exact ⟨_,_,g2 _ (fun e=>ein (Y4 e).2) hfk,hst,.sameRow (hro.nr rfl)⟩
   ·have qo:q≠o:=fun e=>by subst e; rw [gO] at e2; cases e2
    have qm:q≠m:=fun e=>by subst e; rw [gM] at e2; cases e2
    rw [gE q qo qj qm] at e2
    have hst:=Xb e2 e3
    obtain ⟨_,_,hro⟩:=h.rel.row _ _ _ _ _ _ _ hst
    exact ⟨_,_,g2 _ (fun e=>qj (Y4 e).1) hfk,hst,.sameRow (hro.nr rfl)⟩
  ·rw [e] at hk; cases hk
 have hrel:Rel P B W0 (dl++D0) M ι' (sto objs') W:=by
  refine h.rel.via g (fun k k' q e1 e2=>?_) (fun k q e=>by simp only [ι',e,Option.bind_some]) hobj (fun k hk=>?_)
  ·by_cases c1:k=fid j n
   ·by_cases c2:k'=fid j n
    ·rw [c1,c2]
    ·by_cases c3:k'=m
     ·simp only [g,c3,Ne.symm hfm,if_false,if_true] at e2; cases e2
     ·rw [g2 k' c2 c3] at e2; cases e2; rw [c1,g1] at e1; cases e1; exact absurd rfl c3
   ·by_cases c3:k=m
    ·simp only [g,c3,Ne.symm hfm,if_false,if_true] at e1; cases e1
    ·rw [g2 k c1 c3] at e1; cases e1
     by_cases c2:k'=fid j n
     ·rw [c2,g1] at e2; cases e2; exact absurd rfl c3
     ·by_cases c4:k'=m
      ·simp only [g,c4,Ne.symm hfm,if_false,if_true] at e2; cases e2
      ·rw [g2 k' c2 c4] at e2; cases e2; rfl
  ·cases hx:sto objs' k with
   | none=>exact .inl rfl
   | some x' =>
    right
    by_cases hd:x'=.dead
    ·rw [hd]
    ·obtain ⟨q,x,e1,e2,e3⟩:=hobj k x' hx hd
     have:ι q=none:=by simpa only [ι',e1,Option.bind_some] using hk
     rcases h.rel.used q this with e | e
     ·rw [e2] at e; cases e
     ·rw [e2] at e; cases e; exact absurd rfl e3.alive
 refine ⟨ι',fun k p hk hp=>?_,⟨hrel,fun t y hy=>?_,h.nt,h.df,fun k hk=>?_,by show objs'.length≤BIG; rw [gL]; exact h.big⟩⟩
 ·have h1:k≠m:=by
   rcases hk with hk | ⟨q,i,hq,rfl⟩
   ·omega
   ·have:=Zu q i; omega
  have h2:k≠fid j n:=by
   rcases hk with hk | ⟨q,i,hq,rfl⟩
   ·intro e
    have:=Zu j n; omega
   ·intro e; have:=(Y4 e).1; omega
  rw [i2 k h2 h1]; exact hp
 ·obtain ⟨q1,q2⟩:=Qcp hy
  exact (h.slots t y q1).congr fun o ho=>isafe _ q2 o ho
 ·have hk:¬ InB objs'.length k:=hk
  rw [gL] at hk
  by_cases c1:k=fid j n
  ·exact absurd (.inr ⟨j,n,hjl,c1⟩) hk
  ·by_cases c2:k=m
   ·exact absurd (.inl (by omega)) hk
   ·rw [i2 k c1 c2]; exact h.new k hk
abbrev eF {γ:Type} (enc:γ→AV) (ls:List (List γ)):List (List AV):=ls.map fun l=>l.map enc
theorem Qug {γ:Type} (enc:γ→AV) (ls:List (List γ)) (n:Nat) (b:List γ):eF enc (ls.set n b)=(eF enc ls).set n (b.map enc):=by simp [eF,List.map_set]
theorem Qm8 (o j m:Nat) {γ:Type} {enc:γ→AV} {ls:List (List γ)} {x b:List γ} {n:Int} {w:Nat} {fl:Bool} (live:List Nat)
  (ho:st.objs[o]?=some (.row false false false false 1 ((Zk j 0 (eF enc ls)).set n.toNat (.ref m 0 b.length)))) (hj:st.objs[j]?=some (.fam w fl (eF enc ls))) (hm:st.objs[m]?=some (.row false false true fl w (b.map enc)))
  (hx:lkI ls n=some x) (hc:(Qfo m j o 0 st.objs && Nat.ble base m && Nat.ble base j)=true)
  (hS:(⟨Jl m st.slots live,((st.objs.set o (.refs j (eF enc (ls.set n.toNat b)))).set j (.fam w fl (eF enc (ls.set n.toNat b)))).set m .dead,st.nt⟩:St)=st'):Wk P base st st':=by
 subst hS
 simp only [Bool.and_eq_true] at hc
 intro B W0 D0 dl M ι a W h
 obtain ⟨_,h2,_⟩:=V6 hx
 obtain ⟨ι',g1,g2⟩:=h.adopt (base:=base) (n:=n.toNat) (xs':=eF enc (ls.set n.toNat b)) (live:=live) ho hj hm (by simp [Y0]) (by rw [List.getElem?_set_self (by simpa [Y0] using h2)]; simp) (by simp [eF,h2])
  (fun i c hi hcc=>by
   rw [List.getElem?_set_ne (Ne.symm hi),Va] at hcc
   cases hl:(eF enc ls)[i]? with
   | none=>rw [hl] at hcc; cases hcc
   | some l' =>
    rw [hl] at hcc
    simp only [Option.map_some,Nat.zero_add,Option.some.injEq] at hcc
    exact ⟨l',by rw [Qug,List.getElem?_set_ne (Ne.symm hi)]; exact hl,rfl,hcc.symm⟩) hc.1.1 (Nat.le_of_ble_eq_true hc.1.2) (Nat.le_of_ble_eq_true hc.2)
 exact ⟨M,ι',.refl _ _,g1,g2⟩
theorem Qqg {σ:Sto} {all:List Nat}:∀(os:List Nat),(∀o∈os,∃bx ro fl w xs,σ o=some (.row bx ro true fl w xs))→∃es,Qcy σ all os=some es
 | [],_=>⟨[],rfl⟩
 | o::os,h=>by
  obtain ⟨es,he⟩:=Qqg (all:=all) os (fun k hk=>h k (by simp [hk]))
  obtain ⟨bx,ro,fl,w,xs,ho⟩:=h o (by simp)
  exact ⟨(o,.row bx true true fl w xs)::es,by simp [Qcy,ho,he]⟩
theorem Qvl (o j:Nat) {γ:Type} {enc:γ→AV} {ls:List (List γ)} {w:Nat} {fl:Bool} (ho:st.objs[o]?=some (.refs j (eF enc ls))) (hj:st.objs[j]?=some (.fam w fl (eF enc ls)))
  (hS:(⟨st.slots,(st.objs.set o (.row false false true false 1 (ls.map fun l=>eL fl enc l))).set j .dead,st.nt⟩:St)=st'):Wk P base st st':=by
 subst hS
 intro B W0 D0 dl M ι a W h
 have hob:=h.lt ho
 have hjb:=h.lt hj
 have hoj:o≠j:=fun e=>by subst e; rw [ho] at hj; cases hj
 have hol:=(List.getElem?_eq_some_iff.1 ho).1
 have hjl:=(List.getElem?_eq_some_iff.1 hj).1
 let ids:=(List.range ls.length).map (fid j)
 have hin:∀i l,(eF enc ls)[i]?=some l→sto st.objs (fid j i)=some (.row false false true fl w l):=fun i l hi=>Xb hj hi
 obtain ⟨es,hes⟩:=Qqg (σ:=sto st.objs) (all:=ids) ids (fun k hk=>by
  simp only [ids,List.mem_map,List.mem_range] at hk
  obtain ⟨i,hi,rfl⟩:=hk
  exact ⟨false,false,fl,w,_,hin i (ls[i].map enc) (by simp [eF,hi])⟩)
 have r1:=Qad h.rel (ids:=ids) hes
 have hg:=h.rel.growC ids
 have hnid:∀k,k < BIG→k ∉ ids:=fun k hk hm=>by
  simp only [ids,List.mem_map,List.mem_range] at hm
  obtain ⟨i,_,rfl⟩:=hm
  have:=Zu j i; omega
 have hos0:sto st.objs o=some (.row false false false false 1 (Zk j 0 (eF enc ls))):=by rw [Zr hob,ho]; rfl
 have hos:(sto st.objs).puts es o=some (.row false false false false 1 (Zk j 0 (eF enc ls))):=by rw [K8 hes (hnid o hob)]; exact hos0
 have r2:=r1.row1 (bx':=false) (nr':=true) (fl':=false) (xs':=ls.map fun l=>eL fl enc l) hos (by simp [Y0,eF]) (fun x hx=>by
   simp only [List.mem_map] at hx
   obtain ⟨l,_,rfl⟩:=hx
   exact ⟨.inr rfl,rfl,fun z hz=>by simp [AV.flat] at hz; subst hz; rfl⟩) (fun _=>Qx.2 fun x hx=>by
   simp only [List.mem_map] at hx
   obtain ⟨l,_,rfl⟩:=hx
   rfl) (by simp)
  (fun i c x' y' hi hc=>by
   simp only [List.getElem?_map,Option.map_eq_some_iff] at hi
   obtain ⟨l,hl,rfl⟩:=hi
   have hle:(eF enc ls)[i]?=some (l.map enc):=by simp [eF,hl]
   cases c with
   | succ c=>simp [AV.flat] at hc
   | zero =>
    simp only [AV.flat,List.getElem?_cons_zero,Option.some.injEq] at hc
    subst hc
    refine ⟨.ref (fid j i) 0 (l.map enc).length,.ref (fid j i) 0 (l.map enc).length,by rw [Va,hle]; simp,rfl,fun v hv=>?_⟩
    have hv0:Qa M ι v (.ref (fid j i) 0 (l.map enc).length):=by
     obtain ⟨p,hp,_⟩:=Qfm hv
     generalize (l.map enc).length=q at *
     cases hv with
     | ref0 _ _ p hp hc=>exact .ref0 _ _ p hp hc
     | ref _ _ _ p off cap hp h1 h2 h3=>exact .ref _ _ _ p off cap hp h1 h2 h3
    have hsn:Qu (sto st.objs) Qs (.ref (fid j i) 0 (l.map enc).length)=some (.lst fl (l.map enc),[fid j i]):=by
     show Qu (sto st.objs) (Qs - 1+1) _=_
     simp only [Qu,hin i _ hle]
     simp [List.take_of_length_le]
    have:=Ys h.rel ids Qs _ _ _ v hsn (fun k hk=>by
     simp at hk; subst hk
     simp only [ids,List.mem_map,List.mem_range]
     exact ⟨i,(List.getElem?_eq_some_iff.1 hl).1,rfl⟩) hv0
    exact this.mono (CM.le_refl _) (Inj.noInj_le _))
 have key:∀k,sto ((st.objs.set o (.row false false true false 1 (ls.map fun l=>eL fl enc l))).set j .dead) k=((sto st.objs).puts es).put o (.row false false true false 1 (ls.map fun l=>eL fl enc l)) k ∨
   sto ((st.objs.set o (.row false false true false 1 (ls.map fun l=>eL fl enc l))).set j .dead) k=none∨sto ((st.objs.set o (.row false false true false 1 (ls.map fun l=>eL fl enc l))).set j .dead) k=some .dead:=by
  intro k
  rcases Nat.lt_or_ge k BIG with c | c
  ·rw [Zr c]
   by_cases ko:k=o
   ·subst ko; left; rw [Sto.put_same,List.getElem?_set_ne hoj.symm,List.getElem?_set_self hol]; rfl
   ·by_cases kj:k=j
    ·subst kj; right; right; rw [List.getElem?_set_self (by simpa using hjl)]; rfl
    ·left; rw [Sto.put_ne _ _ ko,K8 hes (hnid k c),List.getElem?_set_ne (Ne.symm kj),List.getElem?_set_ne (Ne.symm ko),Zr c]
  ·rcases Yg ((st.objs.set o (.row false false true false 1 (ls.map fun l=>eL fl enc l))).set j .dead) k with ⟨c',_⟩ | ⟨_,⟨q,i,w',fl',ys,z,rfl,e2,e3,e4⟩ | e⟩
   ·omega
   ·left
    have qj:q≠j:=fun e=>by subst e; rw [List.getElem?_set_self (by simpa using hjl)] at e2; cases e2
    have qo:q≠o:=fun e=>by subst e; rw [List.getElem?_set_ne (Ne.symm qj),List.getElem?_set_self hol] at e2; cases e2
    rw [List.getElem?_set_ne (Ne.symm qj),List.getElem?_set_ne (Ne.symm qo)] at e2
    rw [e4,Sto.put_ne _ _ (fun e=>by have:=Zu q i; omega),K8 hes (fun hm=>by
     simp only [ids,List.mem_map,List.mem_range] at hm
     obtain ⟨i',_,e⟩:=hm
     exact qj (Y4 e).1.symm),Xb e2 e3]
   ·exact .inr (.inl e)
 exact ⟨_,ι,hg,.refl _ _,⟨r2.forget key,h.slots.mono hg.le (Inj.le_refl _),h.nt,h.df,fun k hk=>h.new k (by simpa using hk),by simpa using h.big⟩⟩
theorem Q16 (h:st=st'):Wk P base st st':=by subst h; exact Zq
theorem Qvw (m q:Nat) {α:Type} {enc:α→AV} {l:List α} {nr fl:Bool} {w:Nat} (hm:st.objs[m]?=some (.row false false nr fl w (l.map enc))) (hS:(⟨st.slots,st.objs.set m (.row false false nr fl w ((l.take q).map enc)),st.nt⟩:St)=st'):Wk P base st st':=by
 subst hS
 intro B W0 D0 dl M ι a W hs
 have hb:=hs.lt hm
 have hst:=Qcv hb hm rfl
 obtain ⟨p,hp,hrow⟩:=hs.rel.row m _ _ _ _ _ _ hst
 have hmem:∀x∈(l.take q).map enc,x∈l.map enc:=fun x hx=>by
  simp only [List.mem_map] at hx ⊢
  obtain ⟨y,hy,e⟩:=hx
  exact ⟨y,List.mem_of_mem_take hy,e⟩
 refine ⟨M,ι,.refl _ _,.refl _ _,⟨?_,hs.slots,hs.nt,hs.df,fun k hk=>hs.new k (by simpa using hk),by simpa using hs.big⟩⟩
 show Rel P B W0 (dl++D0) M ι (sto (st.objs.set m _)) W
 rw [Qci hm rfl rfl hb]
 refine hs.rel.row1 hst (by simp; omega) (fun x hx=>hrow.shaped x (hmem x hx)) (fun hn=>Qx.2 fun x hx=>Qx.1 (hrow.nr hn) x (hmem x hx)) (fun hf x hx=>hrow.fl hf x (hmem x hx))
  (fun i c x' y' hi hc=>⟨x',y',?_,hc,fun v hv=>hv⟩)
 simp only [List.getElem?_map,List.getElem?_take] at hi ⊢
 split at hi
 ·exact hi
 ·cases hi
variable {rd:Option Nat} {ops:Array Oper} {S:St} {o:Oper} {out:AOut} {Φ:AOut→Prop} {d:Option (List Sk)} {i:Nat}
theorem Qyk {v:Option AV} {rds:List Nat} {s:Sk} (ho:X2 ops i st=some o) (he:Z0 P false noC st.sto st.objs.length (lk st.slots) o=some (.val ⟨v,[],st.objs.length,rds⟩))
  (hS:Z5 ops i st v []=some S) (hc:∀e∈rds,∃c∈s.2,Qkw c e) (k:RW P rd base ops (Zf d [s]) (i+1) S Φ):RW P rd base ops d i st Φ:=by
 obtain ⟨h1,h2⟩:=Vt ho
 have hl:=Yv hS
 unfold Z5 at hS
 rw [h1] at hS
 simp only at hS
 split at hS
 ·rename_i objs slots ha hp
  cases hS
  exact Qat ⟨o,_,h1,Qip noC_sound h2 he ha hp hl,⟨fun e he=>(by cases he),hc⟩⟩ k
 ·cases hS
theorem Qz6 {ob cl len:Nat} {ro nr fl:Bool} {w:Nat} {cells:List AV} {n:Int} (hi:Qck P ops i st=some (.ref ob 0 len,n,w)) (hrow:st.sto ob=some (.row false ro nr fl w cells)) (h1:0≤n) (h2:n.toNat < len) (hcl:Qkw cl ob)
  (hS:Z5 ops i st (some (.ptr ob n.toNat 0)) []=some S) (k:RW P rd base ops (Zf d [([],[cl])]) (i+1) S Φ):RW P rd base ops d i st Φ:=by
 obtain ⟨o,t,x,ix,kk,T,e,E,ho,hop,hT,hk,hE,rfl,hx,hix⟩:=Qga hi
 refine Qyk (v:=some (.ptr ob n.toNat 0)) (rds:=[ob]) ho ?_ hS (fun e he=>⟨cl,by simp,by simp at he; subst he; exact hcl⟩) k
 have hneg:¬ n < 0:=by omega
 unfold Z0
 rw [hop]
 simp only [Xd,Bool.false_eq_true,if_false]
 unfold evalOp
 rw [hop]
 simp only [hT,hx,hix,hk,asN,hneg,if_false,hE,hrow,blt_true h2,Bool.true_and,decide_true,if_true,Z7,Nat.zero_add]
theorem Qb6 {γ:Type} {enc:γ→AV} {ls:List (List γ)} {x:List γ} {n:Int} {ob j:Nat} (hi:Qck P ops i st=some (.ref ob 0 ls.length,n,1)) (hrow:st.sto ob=some (.row false false false false 1 (Zk j 0 (eF enc ls))))
  (ha:lkI ls n=some x) (hS:Z5 ops i st (some (.ptr ob n.toNat 0)) []=some S) (k:RW P rd base ops (Zf d [([],[ob])]) (i+1) S Φ):RW P rd base ops d i st Φ:=by
 obtain ⟨h1,h2,_⟩:=V6 ha
 exact Qz6 hi hrow h1 h2 (.inl rfl) hS k
theorem Qht {γ:Type} {enc:γ→AV} {ls:List (List γ)} {x:List γ} {n:Int} {w j:Nat} {fl:Bool} (hj:st.objs[j]?=some (.fam w fl (eF enc ls))) (ha:lkI ls n=some x):st.sto (fid j n.toNat)=some (.row false false true fl w (x.map enc)):=by
 obtain ⟨_,_,h3⟩:=V6 ha
 exact Xb hj (by simp [eF,h3])
theorem Qhh {γ:Type} {enc:γ→AV} {ls:List (List γ)} {x:List γ} {y:γ} {n c:Int} {w j:Nat} {fl:Bool} (hi:Qck P ops i st=some (.ref (fid j n.toNat) 0 x.length,c,w)) (hj:st.objs[j]?=some (.fam w fl (eF enc ls)))
  (ha:lkI ls n=some x) (hy:lkI x c=some y) (hb:Nat.blt j BIG=true) (hS:Z5 ops i st (some (.ptr (fid j n.toNat) c.toNat 0)) []=some S) (k:RW P rd base ops (Zf d [([],[j])]) (i+1) S Φ):RW P rd base ops d i st Φ:=by
 obtain ⟨h1,h2,_⟩:=V6 hy
 exact Qz6 hi (Qht hj ha) h1 h2 (.inr ⟨Yc hb,_,rfl⟩) hS k
theorem Q2f {ob cl m c:Nat} {bx ro nr fl:Bool} {w:Nat} {cells:List AV} {y:AV} (hp:Qbn ops i st=some (ob,m,c)) (hrow:st.sto ob=some (.row bx ro nr fl w cells)) (hy:cells[m]?=some y) (hcl:Qkw cl ob)
  (hS:Qie P ops i st c y=some S) (k:RW P rd base ops (Zf d [([],[cl])]) (i+1) S Φ):RW P rd base ops d i st Φ:=by
 unfold Qie at hS
 split at hS
 ·rename_i o ho
  split at hS
  ·rename_i t x hop
   split at hS
   ·rename_i T hT
    split at hS
    ·rename_i v hv
     have hx:evo (lk st.slots) x=some (.ptr ob m c):=by
      unfold Qbn at hp
      rw [ho] at hp
      simp only [hop] at hp
      split at hp
      ·rename_i hx; cases hp; exact hx
      ·cases hp
     refine Qyk (v:=some v) (rds:=[ob]) ho ?_ hS (fun e he=>⟨cl,by simp,by simp at he; subst he; exact hcl⟩) k
     unfold Z0
     rw [hop]
     simp only [Xd,Bool.false_eq_true,if_false]
     unfold evalOp
     rw [hop]
     simp only [hT,hx,hrow,hy,hv,Option.map_some,Z7]
    ·cases hS
   ·cases hS
  ·cases hS
 ·cases hS
theorem Qdh {γ:Type} {enc:γ→AV} {ls:List (List γ)} {x:List γ} {n:Int} {ob j:Nat} (hp:Qbn ops i st=some (ob,n.toNat,0)) (hrow:st.sto ob=some (.row false false false false 1 (Zk j 0 (eF enc ls))))
  (ha:lkI ls n=some x) (hS:Qie P ops i st 0 (.ref (fid j n.toNat) 0 x.length)=some S) (k:RW P rd base ops (Zf d [([],[ob])]) (i+1) S Φ):RW P rd base ops d i st Φ:=by
 obtain ⟨h1,h2,h3⟩:=V6 ha
 exact Q2f hp hrow (by rw [Va]; simp [eF,h3]) (.inl rfl) hS k
theorem Ql3 {γ:Type} {enc:γ→AV} {ls:List (List γ)} {x:List γ} {y:γ} {n m:Int} {w j c:Nat} {fl:Bool} (hp:Qbn ops i st=some (fid j n.toNat,m.toNat,c)) (hj:st.objs[j]?=some (.fam w fl (eF enc ls)))
  (ha:lkI ls n=some x) (hy:lkI x m=some y) (hb:Nat.blt j BIG=true) (hS:Qie P ops i st c (enc y)=some S) (k:RW P rd base ops (Zf d [([],[j])]) (i+1) S Φ):RW P rd base ops d i st Φ:=by
 obtain ⟨h1,h2,h3⟩:=V6 hy
 exact Q2f hp (Qht hj ha) (by simp [h3]) (.inr ⟨Yc hb,_,rfl⟩) hS k
theorem Qoa {γ:Type} {enc:γ→AV} {ls:List (List γ)} {x:List γ} {n:Int} {ob j m q:Nat} (hp:Qbn ops i st=some (ob,n.toNat,0)) (hrow:st.sto ob=some (.row false false false false 1 (Zk j 0 (eF enc ls))))
  (ha:lkI ls n=some x) (hv:Qh4 P ops i st=some (.ref m 0 q)) (hS:Z5 ops i st none [(ob,.row false false false false 1 ((Zk j 0 (eF enc ls)).set n.toNat (.ref m 0 q)))]=some S) (hl:Nat.beq S.objs.length st.objs.length=true)
  (k:RW P rd base ops (Zf d [([ob],[ob])]) (i+1) S Φ):RW P rd base ops d i st Φ:=by
 obtain ⟨h1,h2,h3⟩:=V6 ha
 obtain ⟨o,t,x0,y,T,ho,hop,hT,hx,hy,hc⟩:=Qd2 hp hv
 refine Vq (nf:=true) (fr:=st.objs.length) (rds:=[ob]) ho ?_ hS (Nat.eq_of_beq_eq_true hl) k
 have hr:(Zk j 0 (eF enc ls))[n.toNat]?=some (.ref (fid j n.toNat) 0 x.length):=by rw [Va]; simp [eF,h3]
 unfold Z0
 rw [hop]
 simp only [Xd,Bool.false_eq_true,if_false]
 unfold evalOp
 rw [hop]
 have hput:Qd7 (.ref (fid j n.toNat) 0 x.length) 0 (.ref m 0 q)=some (.ref m 0 q):=by simp [Qd7,AV.cell]
 simp only [hT,hx,hy,hrow,hr,hc,if_true,Bool.or_true,Bool.true_or,hput,frz,Qcy,List.contains_nil,Bool.false_eq_true,if_false,List.nil_append,Z7,Bool.false_and]
theorem Q0c {objs:List AObj} {o j:Nat} {xs xs':List (List AV)} (ho:objs[o]?=some (.refs j xs)) (he:Zk j 0 xs'=Zk j 0 xs):sto (objs.set o (.refs j xs'))=sto objs:=by
 have hlt:=(List.getElem?_eq_some_iff.1 ho).1
 funext k
 rcases Nat.lt_or_ge k BIG with c | c
 ·rw [Zr c,Zr c]
  by_cases e:k=o
  ·subst e; rw [ho,List.getElem?_set_self hlt]; simp only [Option.map_some,AObj.plain,he]
  ·rw [List.getElem?_set_ne (Ne.symm e)]
 ·refine Qdd (fun q w fl ys=>?_) c
  by_cases e:q=o
  ·subst e; rw [ho,List.getElem?_set_self hlt]; simp
  ·rw [List.getElem?_set_ne (Ne.symm e)]
theorem Qml (j:Nat):∀(i:Nat) (xs:List (List AV)) (n:Nat) (l:List AV),(∀y,xs[n]?=some y→y.length=l.length)→Zk j i (xs.set n l)=Zk j i xs
 | _,[],_,_,_=>rfl
 | i,y::ys,0,l,h=>by simp only [List.set_cons_zero,Zk,h y rfl]
 | i,y::ys,n+1,l,h=>by simp only [List.set_cons_succ,Zk]; rw [Qml j (i+1) ys n l (fun z hz=>h z (by simpa using hz))]
def Q2g (ops:Array Oper) (i j o:Nat) (st:St) (x y:AObj):Option St :=
 match ops[i]? with
 | some op=>match V2 st.slots st.nt op.dst none with
  | some slots=>some ⟨slots,(st.objs.set j x).set o y,st.nt⟩
  | none=>none
 | none=>none
theorem Qea {γ:Type} {enc:γ→AV} {ls:List (List γ)} {x:List γ} {y y':γ} {n m:Int} {w j q c:Nat} {fl:Bool} {v:AV} (hp:Qbn ops i st=some (fid j n.toNat,m.toNat,c)) (hj:st.objs[j]?=some (.fam w fl (eF enc ls))) (hq:st.objs[q]?=some (.refs j (eF enc ls)))
  (ha:lkI ls n=some x) (hy:lkI x m=some y) (hb:Nat.blt j BIG=true) (hv:Qh4 P ops i st=some v) (hk:(v.nr && (v.scs || !fl))=true) (hput:Qd7 (enc y) c v=some (enc y'))
  (hS:Q2g ops i j q st (.fam w fl (eF enc (ls.set n.toNat (x.set m.toNat y')))) (.refs j (eF enc (ls.set n.toNat (x.set m.toNat y'))))=some S) (k:RW P rd base ops (Zf d [([j],[j])]) (i+1) S Φ):RW P rd base ops d i st Φ:=by
 obtain ⟨h1,h2,h3⟩:=V6 hy
 obtain ⟨g1,g2,g3⟩:=V6 ha
 obtain ⟨o,t,x0,y0,T,ho,hop,hT,hx,hyv,hc⟩:=Qd2 hp hv
 obtain ⟨q1,q2⟩:=Vt ho
 simp only [Bool.and_eq_true,Bool.or_eq_true,Bool.not_eq_true'] at hk
 have hrow:=Qht (st:=st) hj ha
 have hfl:(fl && v.scs)=fl:=by
  rcases hk.2 with e | e
  ·simp [e]
  ·simp [e]
 have he:Z0 P false noC st.sto st.objs.length (lk st.slots) o=some (.val ⟨none,[(fid j n.toNat,.row false false true fl w ((x.set m.toNat y').map enc))],st.objs.length,[fid j n.toNat]⟩):=by
  unfold Z0
  rw [hop]
  simp only [Xd,Bool.false_eq_true,if_false]
  unfold evalOp
  rw [hop]
  simp only [hT,hx,hyv,hrow,List.getElem?_map,h3,Option.map_some,hc,if_true,hk.1,Bool.or_true,hput,frz,Qcy,List.contains_nil,Bool.false_eq_true,if_false,List.nil_append,Z7,List.map_set,Bool.true_and,hfl]
 unfold Q2g at hS
 rw [q1] at hS
 simp only at hS
 have hjq:q≠j:=fun e=>by subst e; rw [hj] at hq; cases hq
 split at hS
 ·rename_i slots hpd
  cases hS
  refine Qat (s:=([j],[j])) (st1:=⟨slots,(st.objs.set j (.fam w fl (eF enc (ls.set n.toNat (x.set m.toNat y'))))).set q (.refs j (eF enc (ls.set n.toNat (x.set m.toNat y')))),st.nt⟩) ⟨o,⟨none,[(fid j n.toNat,.row false false true fl w ((x.set m.toNat y').map enc))],st.objs.length,st.objs.length,[fid j n.toNat]⟩,q1,⟨ylL_ev noC_sound q2 he,rfl,by simp,?_,by simp,fun hb=>by simpa using hb,fun e=>(by cases e),hpd,rfl⟩,⟨fun e he=>?_,fun e he=>?_⟩⟩ k
  ·show sto ((st.objs.set j _).set q _)=_
   rw [Q0c (xs:=eF enc ls) (by rw [List.getElem?_set_ne hjq.symm]; exact hq),Qug,Q27 hj (l:=x.map enc) (by simp [eF,g3])]
   ·rfl
   ·rw [Qug]
    exact Qml _ _ _ _ _ (fun y hy=>by simp [eF,g3] at hy; subst hy; simp)
  ·simp at he; subst he; exact ⟨j,by simp,.inr ⟨Yc hb,_,rfl⟩⟩
  ·simp at he; subst he; exact ⟨j,by simp,.inr ⟨Yc hb,_,rfl⟩⟩
 ·cases hS
theorem exec_post {c:Code} {e:Xg} {st1:St} (h:Xe P rd base c st (.go e st')) (hw:Wk P base st' st1):Xe P rd base c st (.go e st1):=by
 intro B W0 D0 dl M ι a W n Q r hs hr hp
 refine h B W0 D0 dl M ι a W n Q r hs hr ⟨fun e' s he dl' M' ι' a' W' g1 g2 g3 g4=>?_,fun v he=>(by cases he)⟩
 cases he
 obtain ⟨M2,ι2,k1,k2,k3⟩:=hw _ _ _ _ _ _ _ _ g4
 exact hp.go e st1 rfl dl' M2 ι2 a' W' (g1.trans k1) (g2.trans k2) g3 k3
theorem Q5 {c:Code} (h:WP P rd base c st (fun out=>match out with | .go e s=>∃s1,Wk P base s s1∧Φ (.go e s1) | .pan v=>Φ (.pan v))):WP P rd base c st Φ:=by
 obtain ⟨out,h1,h2⟩:=h
 cases out with
 | pan v=>exact ⟨_,h1,h2⟩
 | go e s=>obtain ⟨s1,h3,h4⟩:=h2; exact ⟨_,exec_post h1 h3,h4⟩
theorem Qoe {α R:Type} {enc:α→AV} {l:List α} {ob:Nat} {ro nr fl:Bool} {lo hi:Option AV} {a b:Int} {w:Nat} {A:Option R} {r:R} (hi':Qll P ops i st=some (.ref ob 0 l.length,lo,hi,none,w)) (hrow:st.sto ob=some (.row false ro nr fl w (l.map enc)))
  (ha:loI lo=some a) (hb:hiI l.length hi=some b) (hS:Z5 ops i st (some (.ref ob a.toNat (b.toNat - a.toNat))) []=some S)
  (h:(if 0≤a∧a≤b∧b≤l.length then A else none)=some r) (k:(0≤a∧a≤b∧b≤(l.length:Int))→A=some r→RW P rd base ops (Zf d [([],[ob])]) (i+1) S Φ):RW P rd base ops d i st Φ:=by
 by_cases hc:0≤a∧a≤b∧b≤(l.length:Int)
 ·exact Q30 hi' hrow ha hb hS h (fun h=>k hc h)
 ·rw [if_neg hc] at h; cases h
theorem Q0u {α:Type} {l:List α} {a b:Int} (h:0≤a∧a≤b∧b≤(l.length:Int)):b.toNat = (l.take b.toNat).length:=by
 rw [List.length_take]; omega
end
end Go.Ab
namespace Go.Ab
open Go.RowKit
open Go.ChangeShapes in
theorem post_of_below {H:Type} {enc:TypeId × Value→H} {P:Program} {f:Func} {s:ChangeSpec} {apart fresh handsOn again:Bool} {W W':World} {args:Array Value} {v:Value} {ds gs:List (DataW H)} {before pa pv:List MemPlace}
  (hW:DataW.Whole enc P f.params.toList s.vars apart W args.toList ds gs before)
  (hres:∀(b:Nat) (sp:Nat → Bool) (hd:Bool),DataW.TrodAll enc P W' b sp hd f.resultTypes.toList (v.resultList f.resultTypes.size) (s.fn H (ds++gs)).results [])
  (hargs:∀sp:Nat → Bool,(∀p∈before,sp p.block=true)→DataW.TrodAll enc P W' 0 sp true f.params.toList args.toList (s.fn H (ds++gs)).args pa)
  (hvars:∀sp:Nat → Bool,(∀p∈before,sp p.block=true)→DataW.TrodVars enc P W' sp s.vars (s.fn H (ds++gs)).vars pv)
  (hps:before=pa++pv) (hb:Below W.heap.size W W')
  (hok:∀(j:Nat) (t:TypeId) (r:Value),f.resultTypes[j]?=some t→(v.resultList f.resultTypes.size)[j]?=some r→Value.okWide P W' .any 0 t r) :
  s.post enc P f apart fresh handsOn again W args v W':=by
 have hold:∀p∈before,(fun b=>decide (b < W.heap.size)) p.block=true:=fun p hp=>by simpa using hW.lt p hp
 have hlt:=hW.lt
 refine ⟨ds,gs,before,[],pa,pv,hW,hres _ _ _,hargs _ hold,hvars _ hold,World.keptBut_mono (fun p hp=>⟨hp,?_⟩) (hb.frame (·∈before)),fun _=>?_⟩
 ·rw [hps,List.mem_append] at hp
  exact Or.inr hp
 ·obtain ⟨_,_,_,_,_,hz,hn⟩:=hW
  refine ⟨hok,_,_,([]++pa)++pv,⟨[]++pa,pv,trodAll_append (hargs _ (fun _ _=>rfl)) (hres _ _ _),hvars _ (fun _ _=>rfl),rfl,?_,?_⟩,?_⟩
  ·intro b off hp
   have hm:MemPlace.cell b off∈before:=by rw [hps]; simpa using hp
   have h1:b < W.heap.size:=hlt _ hm
   rw [hb.frozen h1]
   exact hz b off hm
  ·intro ha
   have:=hn ha
   rw [hps] at this
   simpa using this
  ·intro p hp _
   rw [hps]
   simpa using hp
end Go.Ab
