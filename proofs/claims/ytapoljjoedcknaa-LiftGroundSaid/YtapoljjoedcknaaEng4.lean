/- Rules. No conditions. -/
import Derived.Test.YtapoljjoedcknaaEng3
import Derived.Test.YtapoljjoedcknaaEng1
import Derived.LoopNIn
import Derived.Scope
import Derived.RangeFuncNested
set_option linter.all false
namespace Go.Ab
open Go.RowKit
def Zz:Op→Bool
 | .panic _=>true
 | .call { callee:=.value _,.. }=>true
 | _=>false
def Zv:Option Vy→Option Vy
 | some (.val r)=>some (.val r)
 | _=>none
def Zr (P:Program) (nf:Bool) (C:FuncId→List AV→Option Z2) (σ:Sto) (fr:Nat) (s:Slots) (o:Oper):Option Vy :=
 if Zz o.op then evalOp P nf C σ fr s o else Zv (evalOp P nf C σ fr s o)
section
variable {P:Program} {nf:Bool} {C:FuncId→List AV→Option Z2} {B:Nat} {W0 W W':World} {D:List Nat} {M:CM} {ι:Inj} {σ:Sto} {s:Slots} {a:Act} {fr:Nat} {o:Oper} {res:Res}
theorem Qtt {r:Option Nat} {n:Nat} {next:Act→World→Prop} {Q:Exit→Act→World→Prop} (hd:Q8 P B W0 D M ι σ fr a o W res) (hnd:∀c,o.op≠.defer c) (hp:Qk5 P B W0 D M ι σ fr a o next Q (.val res)):o.wpIn (FW r) n P a W next Q:=by
 obtain ⟨v,W1,M1,ι1,hrun,k1,k2,k3,k4,k5⟩:=hd
 refine ⟨fun _ _=>trivial,?_⟩
 rw [Oper.semAt_eq _ _ _ hnd]
 have hn:=hp.val res rfl v W1 M1 ι1 k1 k2 k3 k4 k5
 rcases hrun with e | ⟨e,rfl⟩
 ·rw [e,Oper.uponIn_value]; exact hn
 ·rw [e,Oper.uponIn_skip]; exact hn
theorem Qsl (h:Rel P B W0 D M ι σ W) (hs:Qg M ι s a.tmps) {x:Operand} (ho:o.op=.panic x) {out:Vy} (he:evalOp P nf C σ fr s o=some out) {r:Option Nat} {n:Nat} {next:Act→World→Prop} {Q:Exit→Act→World→Prop}
  (hp:Qk5 P B W0 D M ι σ fr a o next Q out):o.wpIn (FW r) n P a W next Q:=by
 unfold evalOp at he
 rw [ho] at he
 simp only at he
 split at he
 ·rename_i t v hx
  split at he
  ·rename_i w hsn
   cases he
   have hv:=Qe hs hx
   have hw:=X4 h [] Qn _ w [] _ hsn (fun k hk=>hk) hv
   refine ⟨fun _ _=>trivial,?_⟩
   rw [Oper.semAt_eq _ _ _ (by rw [ho]; simp)]
   have hrun:(execOp a.eval o).run P W=.halt (.panic (a.eval x)) W:=by
    generalize hu:a.eval x=u at hv
    cases hv
    simp [execOp,ho,hu,Instr.panic]
   rw [hrun,Oper.uponIn_panic]
   exact hp.pan _ rfl _ W M (.refl _ _) h.empty (hw.mono (Qqp h) (Inj.le_refl _))
  ·cases he
 ·cases he
theorem Qxa (hC:Qgr P C) (h:Rel P B W0 D M ι σ W) (hs:Qg M ι s a.tmps) {out:Vy} (he0:Zr P nf C σ fr s o=some out) (hfr:∀res,out=.val res→∀k,fr≤k→k < res.fr→ι k=none)
  {r:Option Nat} {n:Nat} {next:Act→World→Prop} {Q:Exit→Act→World→Prop} (hp:Qk5 P B W0 D M ι σ fr a o next Q out):o.wpIn (FW r) n P a W next Q:=by
 have pure:Zz o.op=false→(∀res,evalOp P nf C σ fr s o=some (.val res)→(∀k,fr≤k→k < res.fr→ι k=none)→Q8 P B W0 D M ι σ fr a o W res)→(∀c,o.op≠.defer c)→o.wpIn (FW r) n P a W next Q:=by
  intro hm hd hnd
  unfold Zr at he0
  rw [hm] at he0
  simp only [Bool.false_eq_true,if_false] at he0
  unfold Zv at he0
  split at he0
  ·rename_i res he
   cases he0
   exact Qtt (hd res he (hfr res rfl)) hnd hp
  ·cases he0
 have he:Zz o.op=true→evalOp P nf C σ fr s o=some out:=fun hm=>by
  unfold Zr at he0
  rw [hm] at he0
  exact he0
 cases ho:o.op with
 | move x=>exact pure (by rw [ho]; rfl) (fun res he _=>Qnc h hs (.inl ho) he) (by rw [ho]; simp)
 | assign x=>exact pure (by rw [ho]; rfl) (fun res he _=>Qnc h hs (.inr ho) he) (by rw [ho]; simp)
 | pick c x y=>exact pure (by rw [ho]; rfl) (fun res he _=>Qur h hs ho he) (by rw [ho]; simp)
 | alloc t=>exact pure (by rw [ho]; rfl) (fun res he hf=>Qs1 h hf ho he) (by rw [ho]; simp)
 | box t x=>exact pure (by rw [ho]; rfl) (fun res he hf=>Qwc h hs hf ho he) (by rw [ho]; simp)
 | build t ps=>exact pure (by rw [ho]; rfl) (fun res he _=>Qsa h hs ho he) (by rw [ho]; simp)
 | buildSlice t k ps=>exact pure (by rw [ho]; rfl) (fun res he hf=>Qln h hs hf ho he) (by rw [ho]; simp)
 | load t x=>exact pure (by rw [ho]; rfl) (fun res he _=>Qv6 h hs ho he) (by rw [ho]; simp)
 | store t x y=>exact pure (by rw [ho]; rfl) (fun res he _=>Qtf h hs ho he) (by rw [ho]; simp)
 | nilCheck x=>exact pure (by rw [ho]; rfl) (fun res he _=>Qny h hs ho he) (by rw [ho]; simp)
 | binOp op t x y u=>exact pure (by rw [ho]; rfl) (fun res he _=>Qso h hs ho he) (by rw [ho]; simp)
 | unOp op t x=>exact pure (by rw [ho]; rfl) (fun res he _=>Qug h hs ho he) (by rw [ho]; simp)
 | convert u t x=>exact pure (by rw [ho]; rfl) (fun res he _=>Qqe h hs ho he) (by rw [ho]; simp)
 | makeFunc f x y=>exact pure (by rw [ho]; rfl) (fun res he _=>Qnx h hs ho he) (by rw [ho]; simp)
 | makeSlice t x y=>exact pure (by rw [ho]; rfl) (fun res he hf=>Qml h hs hf ho he) (by rw [ho]; simp)
 | slice t x lo hi mx=>exact pure (by rw [ho]; rfl) (fun res he _=>Qth h hs ho he) (by rw [ho]; simp)
 | fieldAddr t x f=>exact pure (by rw [ho]; rfl) (fun res he _=>Qm3 h hs ho he) (by rw [ho]; simp)
 | field t x f=>exact pure (by rw [ho]; rfl) (fun res he _=>Qs8 h hs ho he) (by rw [ho]; simp)
 | indexAddr t x y=>exact pure (by rw [ho]; rfl) (fun res he _=>Qmr h hs ho he) (by rw [ho]; simp)
 | index t x y=>exact pure (by rw [ho]; rfl) (fun res he _=>Qsh h hs ho he) (by rw [ho]; simp)
 | makeMap t r=>exact pure (by rw [ho]; rfl) (fun res he hf=>Qp6 h hf ho he) (by rw [ho]; simp)
 | lookup t x y c=>exact pure (by rw [ho]; rfl) (fun res he _=>Qrb h hs ho he) (by rw [ho]; simp)
 | mapUpdate t m x y=>exact pure (by rw [ho]; rfl) (fun res he _=>Qfy h hs (.inl ho) he) (by rw [ho]; simp)
 | insert t m x y=>exact pure (by rw [ho]; rfl) (fun res he _=>Qfy h hs (.inr ho) he) (by rw [ho]; simp)
 | mapEntry t m x=>exact pure (by rw [ho]; rfl) (fun res he _=>Qn7 h hs ho he) (by rw [ho]; simp)
 | entryStore t m x y=>exact pure (by rw [ho]; rfl) (fun res he _=>Qk6 h hs ho he) (by rw [ho]; simp)
 | extract x i=>exact pure (by rw [ho]; rfl) (fun res he _=>Qpv h hs ho he) (by rw [ho]; simp)
 | panic x=>exact Qsl h hs ho (he (by rw [ho]; rfl)) hp
 | call c =>
  obtain ⟨cal,args,ts⟩:=c
  cases cal with
  | value g=>exact Qta hC h hs ho (he (by rw [ho]; rfl)) hfr hp
  | invoke g m=>exact pure (by rw [ho]; rfl) (fun res he _=>by unfold evalOp at he; rw [ho] at he; cases he) (by rw [ho]; simp)
  | builtin b =>
   cases b with
   | len=>exact pure (by rw [ho]; rfl) (fun res he _=>Qxq h hs ho he) (by rw [ho]; simp)
   | cap=>exact pure (by rw [ho]; rfl) (fun res he _=>Qwo h hs ho he) (by rw [ho]; simp)
   | append=>exact pure (by rw [ho]; rfl) (fun res he hf=>Qq1 h hs hf ho he) (by rw [ho]; simp)
   | copy=>exact pure (by rw [ho]; rfl) (fun res he _=>Quo h hs ho he) (by rw [ho]; simp)
   | min=>exact pure (by rw [ho]; rfl) (fun res he _=>Qju h hs (.inl rfl) ho he) (by rw [ho]; simp)
   | max=>exact pure (by rw [ho]; rfl) (fun res he _=>Qju h hs (.inr rfl) ho he) (by rw [ho]; simp)
   | _=>exact pure (by rw [ho]; rfl) (fun res he _=>by unfold evalOp at he; rw [ho] at he; cases he) (by rw [ho]; simp)
 | defer c=>unfold Zr evalOp at he0; rw [ho] at he0; cases he0
 | _=>exact pure (by rw [ho]; rfl) (fun res he _=>by unfold evalOp at he; rw [ho] at he; cases he) (by rw [ho]; simp)
end
end Go.Ab
namespace Go.Ab
open Go.RowKit
structure St where
 slots:List (Nat × AV)
 objs:List AObj
 nt:Nat
 deriving Inhabited
inductive Xq where
 | normal | exit (id:Nat) | ret | goto (l:Nat)
 deriving DecidableEq,Inhabited
inductive AOut where
 | go (e:Xq) (st:St)
 | pan (v:AV)
 deriving Inhabited
def Xq.exit':Xq→Exit
 | .normal=>.normal
 | .exit id=>.exit id
 | .ret=>.ret
 | .goto l=>.goto l
def mk (r:Nat):Deferred:={ target:=.collected r,args:=#[] }
def Inj.leB (base:Nat) (ι ι':Inj):Prop:=∀k p,InB base k→ι k=some p→ι' k=some p
theorem Inj.le.leB {ι ι':Inj} (h:ι.le ι') (base:Nat):Inj.leB base ι ι':=fun k p _ hk=>h k p hk
theorem Inj.leB.refl (base:Nat) (ι:Inj):Inj.leB base ι ι:=fun _ _ _ h=>h
theorem Inj.leB.trans {base:Nat} {ι ι' ι'':Inj} (h:Inj.leB base ι ι') (k:Inj.leB base ι' ι''):Inj.leB base ι ι'':=fun o p ho hp=>k o p ho (h o p ho hp)
structure Ql9 (B:Nat) (D0 dl:List Nat) (a:Act):Prop where
 defs:a.defers=dl.map mk
 old:∀r∈dl,B≤r
 nd:(dl++D0).Nodup
structure Sim (P:Program) (B:Nat) (W0:World) (D0 dl:List Nat) (M:CM) (ι:Inj) (st:St) (a:Act) (W:World):Prop where
 rel:Rel P B W0 (dl++D0) M ι (sto st.objs) W
 slots:Qg M ι (lk st.slots) a.tmps
 nt:a.tmps.size=st.nt
 df:Ql9 B D0 dl a
 new:∀k,¬ InB st.objs.length k→ι k=none
 big:st.objs.length≤BIG
def V3 (ι:Inj) (rd:Option Nat) (r:Option Nat) (base:Nat):Prop :=
 match rd with
 | none=>r=none
 | some o=>o < base∧∃p,ι o=some p∧r=some p.blk
structure Qe4 (P:Program) (base B:Nat) (W0:World) (D0:List Nat) (M:CM) (ι:Inj) (dl:List Nat) (Q:Exit→Act→World→Prop) (out:AOut):Prop where
 go:∀e st,out=.go e st→∀dl' M' ι' a' W',CM.Grow B M M'→Inj.leB base ι ι'→dl <:+ dl'→Sim P B W0 D0 dl' M' ι' st a' W'→Q e.exit' a' W'
 pan:∀v,out=.pan v→∀dl' M' a' W' x,CM.Grow B M M'→dl <:+ dl'→Rel P B W0 (dl'++D0) M' noInj (fun _=>none) W'→Ql9 B D0 dl' a'→Qa M' noInj x v→Q (.panic [{ v:=x,recovered:=false }]) a' W'
def Xa (P:Program) (rd:Option Nat) (base:Nat) (c:Code) (st:St) (out:AOut):Prop :=
 ∀B W0 D0 dl M ι a W n Q r,Sim P B W0 D0 dl M ι st a W→V3 ι rd r base→Qe4 P base B W0 D0 M ι dl Q out→c.wpIn (FW r) n P Q a W
def OpX (P:Program) (rd:Option Nat) (base:Nat) (o:Oper) (st:St) (out:AOut):Prop :=
 ∀B W0 D0 dl M ι a W n Q r,Sim P B W0 D0 dl M ι st a W→V3 ι rd r base→Qe4 P base B W0 D0 M ι dl Q out→o.wpIn (FW r) n P a W (Q .normal) Q
def Qab (P:Program) (rd:Option Nat) (base:Nat) (ops:Array Oper) (l:List Nat) (st:St) (out:AOut):Prop :=
 ∀B W0 D0 dl M ι a W n Q r,Sim P B W0 D0 dl M ι st a W→V3 ι rd r base→Qe4 P base B W0 D0 M ι dl Q out→wpOpsIn (FW r) n P ops Q l a W
def Qgi (P:Program) (rd:Option Nat) (base:Nat) (c:Code) (st:St) (out:AOut):Prop :=
 ∃m,∀B W0 D0 dl M ι a W n Q r,Sim P B W0 D0 dl M ι st a W→V3 ι rd r base→Qe4 P base B W0 D0 M ι dl Q out→Code.roundsIn (FW r) n P c Q m a W
def AOut.normal:AOut→Bool
 | .go .normal _=>true
 | _=>false
def AOut.inBlock (id:Nat):AOut→AOut
 | .go (.exit i) st=>if Nat.beq i id then .go .normal st else .go (.exit i) st
 | out=>out
section
variable {P:Program} {rd:Option Nat} {base:Nat} {c x y:Code} {st st1 st2:St} {out:AOut} {B:Nat} {W0 W:World} {D0 dl dl1:List Nat} {M M1:CM} {ι ι1:Inj} {Q:Exit→Act→World→Prop} {a:Act} {r:Option Nat}
theorem V3.mono (h:V3 ι rd r base) (hι:Inj.leB base ι ι1):V3 ι1 rd r base:=by
 unfold V3 at *
 cases rd with
 | none=>exact h
 | some o=>obtain ⟨h1,p,h2,h3⟩:=h; exact ⟨h1,p,hι _ _ (.inl h1) h2,h3⟩
theorem Qe4.step (h:Qe4 P base B W0 D0 M ι dl Q out) (hM:CM.Grow B M M1) (hι:Inj.leB base ι ι1) (hd:dl <:+ dl1):Qe4 P base B W0 D0 M1 ι1 dl1 Q out :=
 ⟨fun e st he dl' M' ι' a' W' h1 h2 h3 h4=>h.go e st he dl' M' ι' a' W' (hM.trans h1) (hι.trans h2) (hd.trans h3) h4,
 fun v he dl' M' a' W' x h1 h2 h3 h4 h5=>h.pan v he dl' M' a' W' x (hM.trans h1) (hd.trans h2) h3 h4 h5⟩
theorem Qe4.here {e:Xq} (h:Qe4 P base B W0 D0 M ι dl Q (.go e st)) (hs:Sim P B W0 D0 dl M ι st a W):Q e.exit' a W :=
 h.go _ _ rfl dl M ι a W (.refl _ _) (.refl _ _) (List.suffix_refl _) hs
theorem Quy:Xa P rd base .skip st (.go .normal st):=fun B W0 D0 dl M ι a W n Q r hs hr hp=>wpIn_skip (hp.here hs)
theorem Qsp {l:Nat}:Xa P rd base (.label l) st (.go .normal st):=fun B W0 D0 dl M ι a W n Q r hs hr hp=>wpIn_label (hp.here hs)
theorem Qu9 {id:Nat}:Xa P rd base (.exit id) st (.go (.exit id) st):=fun B W0 D0 dl M ι a W n Q r hs hr hp=>wpIn_exit (hp.here hs)
theorem Qvp {l:Nat}:Xa P rd base (.goto l) st (.go (.goto l) st):=fun B W0 D0 dl M ι a W n Q r hs hr hp=>wpIn_goto (hp.here hs)
theorem Qxu:Xa P rd base .ret st (.go .ret st):=fun B W0 D0 dl M ι a W n Q r hs hr hp=>wpIn_ret (hp.here hs)
theorem exec_seq (h1:Xa P rd base x st (.go .normal st1)) (h2:Xa P rd base y st1 out):Xa P rd base (.seq x y) st out:=by
 intro B W0 D0 dl M ι a W n Q r hs hr hp
 refine wpIn_seq (h1 B W0 D0 dl M ι a W n _ r hs hr ⟨fun e st' he dl' M' ι' a' W' g1 g2 g3 g4=>?_,fun v he=>by cases he⟩)
 cases he
 exact h2 B W0 D0 dl' M' ι' a' W' n Q r g4 (hr.mono g2) (hp.step g1 g2 g3)
theorem Qa3 (h1:Xa P rd base x st out) (hn:out.normal=false):Xa P rd base (.seq x y) st out:=by
 intro B W0 D0 dl M ι a W n Q r hs hr hp
 refine wpIn_seq (h1 B W0 D0 dl M ι a W n _ r hs hr ⟨fun e st' he dl' M' ι' a' W' g1 g2 g3 g4=>?_,fun v he dl' M' a' W' x g1 g2 g3 g4 g5=>hp.pan v he dl' M' a' W' x g1 g2 g3 g4 g5⟩)
 subst he
 have:=hp.go e st' rfl dl' M' ι' a' W' g1 g2 g3 g4
 cases e with
 | normal=>simp [AOut.normal] at hn
 | exit id=>exact this
 | ret=>exact this
 | goto l=>exact this
theorem Qt8 {op:Operand} {b:Bool} (hs:Qg M ι (lk st.slots) a.tmps) (he:evo (lk st.slots) op=some (.bool b)):a.eval op=.bool b:=by
 have:=Qe hs he
 generalize a.eval op=v at this
 cases this
 rfl
theorem exec_cond {op:Operand} {b:Bool} (he:evo (lk st.slots) op=some (.bool b)) (h:Xa P rd base (if b then x else y) st out):Xa P rd base (.cond op x y) st out:=by
 intro B W0 D0 dl M ι a W n Q r hs hr hp
 exact wpIn_cond (Qt8 hs.slots he) (h B W0 D0 dl M ι a W n Q r hs hr hp)
theorem exec_block {id:Nat} (h:Xa P rd base c st out):Xa P rd base (.block id c) st (out.inBlock id):=by
 intro B W0 D0 dl M ι a W n Q r hs hr hp
 refine wpIn_block (h B W0 D0 dl M ι a W n _ r hs hr ⟨fun e st' he dl' M' ι' a' W' g1 g2 g3 g4=>?_,fun v he dl' M' a' W' x g1 g2 g3 g4 g5=>?_⟩)
 ·subst he
  cases e with
  | normal=>exact hp.go .normal st' rfl dl' M' ι' a' W' g1 g2 g3 g4
  | ret=>exact hp.go .ret st' rfl dl' M' ι' a' W' g1 g2 g3 g4
  | goto l=>exact hp.go (.goto l) st' rfl dl' M' ι' a' W' g1 g2 g3 g4
  | exit i =>
   show (if i=id then Q .normal a' W' else Q (.exit i) a' W')
   by_cases e:i=id
   ·rw [if_pos e]
    exact hp.go .normal st' (by simp [AOut.inBlock,e]) dl' M' ι' a' W' g1 g2 g3 g4
   ·rw [if_neg e]
    have:Nat.beq i id=false:=by rw [Bool.eq_false_iff]; intro h; exact e (Nat.eq_of_beq_eq_true h)
    exact hp.go (.exit i) st' (by simp [AOut.inBlock,this]) dl' M' ι' a' W' g1 g2 g3 g4
 ·subst he
  exact hp.pan v rfl dl' M' a' W' x g1 g2 g3 g4 g5
theorem Qew (h:Xa P rd base c st out) (hn:out.normal=false):Qgi P rd base c st out:=by
 refine ⟨1,?_⟩
 intro B W0 D0 dl M ι a W n Q r hs hr hp
 show c.wpIn _ n P _ a W
 refine h B W0 D0 dl M ι a W n _ r hs hr ⟨fun e st' he dl' M' ι' a' W' g1 g2 g3 g4=>?_,fun v he dl' M' a' W' x g1 g2 g3 g4 g5=>hp.pan v he dl' M' a' W' x g1 g2 g3 g4 g5⟩
 subst he
 have:=hp.go e st' rfl dl' M' ι' a' W' g1 g2 g3 g4
 cases e with
 | normal=>simp [AOut.normal] at hn
 | exit id=>exact this
 | ret=>exact this
 | goto l=>exact this
theorem loopX_next (h:Xa P rd base c st (.go .normal st1)) (hl:Qgi P rd base c st1 out):Qgi P rd base c st out:=by
 obtain ⟨m,hm⟩:=hl
 refine ⟨m+1,?_⟩
 intro B W0 D0 dl M ι a W n Q r hs hr hp
 show c.wpIn _ n P _ a W
 refine h B W0 D0 dl M ι a W n _ r hs hr ⟨fun e st' he dl' M' ι' a' W' g1 g2 g3 g4=>?_,fun v he=>by cases he⟩
 cases he
 exact hm B W0 D0 dl' M' ι' a' W' n Q r g4 (hr.mono g2) (hp.step g1 g2 g3)
theorem exec_loop (h:Qgi P rd base c st out):Xa P rd base (.loop c) st out:=by
 obtain ⟨m,hm⟩:=h
 intro B W0 D0 dl M ι a W n Q r hs hr hp
 exact wpIn_loop_rounds m (hm B W0 D0 dl M ι a W n Q r hs hr hp)
section scope
variable {b:Frame} {k:List Item} {cs:List Frame} {w:World}
theorem Qqq {c:Code}:step P (lone (b.atR a (.code (.scope c)::k)) cs w)=.next (lone (b.atR a (.code c::.inScope c::k)) cs w) :=
 step_lone_go (by simp [stepG,stepG.exec,Frame.atR])
theorem Qn3 {c:Code}:step P (lone (b.atR a (.inScope c::k)) cs w)=.next (lone (b.atR a k) cs w) :=
 step_lone_go (by simp [stepG,stepG.exec,Frame.atR])
def Qja (F:Fence) (n:Nat) (P:Program) (body x:Code) (Q:Exit→Act→World→Prop) (a:Act) (w:World):Prop :=
 ∀(b:Frame) (k:List Item) (cs:List Frame),b.roundOf=F.round→F.fn b.fn→F.room (cs.length+1+n) →
  ∃e a' w',Q e a' w'∧ArrivesIn (Machine.fenced P F) P (lone (b.atR a (.code x::.inScope body::k)) cs w) b k cs e a' w'
def Qle (F:Fence) (n:Nat) (P:Program) (body:Code) (Q:Exit→Act→World→Prop) (e:Exit) (a:Act) (w:World):Prop :=
 match e with
 | .goto l=>match findLabel body l with
  | some rest=>Qja F n P body rest Q a w
  | none=>Q (.goto l) a w
 | e=>Q e a w
theorem Qkz {F:Fence} {n:Nat} {body c:Code} {w:World} (h:c.wpIn F n P (Qle F n P body Q) a w):Qja F n P body c Q a w:=by
 intro b k cs hro hb hr
 obtain ⟨e,a₁,w₁,hq,harr⟩:=h b (.inScope body::k) cs hro hb hr
 cases e with
 | normal=>exact ⟨.normal,a₁,w₁,hq,StepsIn.trans harr (.one (fenced_calm hb hr rfl) Qn3)⟩
 | exit id =>
  have hx:exitTo id (.inScope body::k)=exitTo id k:=by simp [exitTo]
  exact ⟨.exit id,a₁,w₁,hq,fun k' hk=>harr.1 k' (by rw [hx]; exact hk),fun hr' hk=>harr.2 hr' (by rw [hx]; exact hk)⟩
 | goto l =>
  simp only [Qle] at hq
  cases hf:findLabel body l with
  | some rest =>
   rw [hf] at hq
   obtain ⟨e₂,a₂,w₂,hq₂,harr₂⟩:=hq b k cs hro hb hr
   exact ⟨e₂,a₂,w₂,hq₂,.of_steps (harr.1 (.code rest::.inScope body::k) (by simp [gotoIn,hf])) harr₂⟩
  | none =>
   rw [hf] at hq
   have hx:gotoIn l (.inScope body::k)=gotoIn l k:=by simp [gotoIn,hf]
   exact ⟨.goto l,a₁,w₁,hq,fun k' hk=>harr.1 k' (by rw [hx]; exact hk),fun hr' hk=>harr.2 hr' (by rw [hx]; exact hk)⟩
 | ret=>exact ⟨_,a₁,w₁,hq,harr⟩
 | panic ch=>exact ⟨_,a₁,w₁,hq,harr⟩
 | outgrown=>exact ⟨_,a₁,w₁,hq,harr⟩
theorem Qsz {F:Fence} {n:Nat} {c:Code} {w:World} (h:Qja F n P c c Q a w):(Code.scope c).wpIn F n P Q a w:=by
 intro b k cs hro hb hr
 have h0:StepsIn (Machine.fenced P F) P (lone (b.atR a (.code (.scope c)::k)) cs w) (lone (b.atR a (.code c::.inScope c::k)) cs w):=.one (fenced_calm hb hr rfl) Qqq
 obtain ⟨e,a₁,w₁,hq,harr⟩:=h b k cs hro hb hr
 exact ⟨e,a₁,w₁,hq,.of_steps h0 harr⟩
end scope
def Qiw (P:Program) (rd:Option Nat) (base:Nat) (body x:Code) (st:St) (out:AOut):Prop :=
 ∀B W0 D0 dl M ι a W n Q r,Sim P B W0 D0 dl M ι st a W→V3 ι rd r base→Qe4 P base B W0 D0 M ι dl Q out→Qja (FW r) n P body x Q a W
def AOut.within (body:Code):AOut→Option Code
 | .go (.goto l) _=>findLabel body l
 | _=>none
theorem Qbc {body:Code} (h:Xa P rd base x st out) (hn:out.within body=none):Qiw P rd base body x st out:=by
 intro B W0 D0 dl M ι a W n Q r hs hr hp
 refine Qkz (h B W0 D0 dl M ι a W n _ r hs hr ⟨fun e st' he dl' M' ι' a' W' g1 g2 g3 g4=>?_,fun v he dl' M' a' W' x g1 g2 g3 g4 g5=>hp.pan v he dl' M' a' W' x g1 g2 g3 g4 g5⟩)
 subst he
 have:=hp.go e st' rfl dl' M' ι' a' W' g1 g2 g3 g4
 cases e with
 | goto l=>simp only [AOut.within] at hn; simp only [Xq.exit',Qle,hn]; exact this
 | normal=>exact this
 | exit id=>exact this
 | ret=>exact this
theorem scopeX_goto {body rest:Code} {l:Nat} (h:Xa P rd base x st (.go (.goto l) st1)) (hf:findLabel body l=some rest) (k:Qiw P rd base body rest st1 out):Qiw P rd base body x st out:=by
 intro B W0 D0 dl M ι a W n Q r hs hr hp
 refine Qkz (h B W0 D0 dl M ι a W n _ r hs hr ⟨fun e st' he dl' M' ι' a' W' g1 g2 g3 g4=>?_,fun v he=>by cases he⟩)
 cases he
 simp only [Xq.exit',Qle,hf]
 exact k B W0 D0 dl' M' ι' a' W' n Q r g4 (hr.mono g2) (hp.step g1 g2 g3)
theorem exec_scope (h:Qiw P rd base c c st out):Xa P rd base (.scope c) st out :=
 fun B W0 D0 dl M ι a W n Q r hs hr hp=>Qsz (h B W0 D0 dl M ι a W n Q r hs hr hp)
theorem Qqt {id:Nat} {ops:Array Oper} (h:Qab P rd base ops (List.range ops.size) st out):Xa P rd base (.region id ops false) st out :=
 fun B W0 D0 dl M ι a W n Q r hs hr hp=>wpIn_region (h B W0 D0 dl M ι a W n Q r hs hr hp)
theorem Qw6 {ops:Array Oper}:Qab P rd base ops [] st (.go .normal st):=fun B W0 D0 dl M ι a W n Q r hs hr hp=>hp.here hs
end
end Go.Ab
namespace Go.Ab
open Go.RowKit
def setS:List (Nat × AV)→Nat → AV→List (Nat × AV)
 | [],d,v=>[(d,v)]
 | (k,w)::r,d,v=>if Nat.beq k d then (d,v)::r else (k,w)::setS r d v
def delS:List (Nat × AV)→Nat → List (Nat × AV)
 | [],_=>[]
 | (k,w)::r,d=>if Nat.beq k d then delS r d else (k,w)::delS r d
theorem Qdp (d:Nat) (v:AV):∀(s:List (Nat × AV)) (t:Nat),lk (setS s d v) t=if d=t then some v else lk s t
 | [],t=>by
  simp only [setS,lk]
  by_cases e:d=t
  ·subst e; simp
  ·simp [e]
 | (k,w)::r,t=>by
  simp only [setS]
  by_cases h:k=d
  ·subst h
   simp only [Nat.beq_refl,if_true,lk]
   by_cases e:k=t
   ·subst e; simp
   ·simp [e]
  ·have:Nat.beq k d=false:=by rw [Bool.eq_false_iff]; exact fun x=>h (Nat.eq_of_beq_eq_true x)
   simp only [this,Bool.false_eq_true,if_false,lk,Qdp d v r t]
   by_cases e:k=t
   ·subst e; simp [Ne.symm h]
   ·simp [e]
theorem Qi3 (d:Nat):∀(s:List (Nat × AV)) (t:Nat),lk (delS s d) t=if d=t then none else lk s t
 | [],t=>by simp [delS,lk]
 | (k,w)::r,t=>by
  simp only [delS]
  by_cases h:k=d
  ·subst h
   simp only [Nat.beq_refl,if_true,lk,Qi3 k r t]
   by_cases e:k=t
   ·subst e; simp
   ·simp [e]
  ·have:Nat.beq k d=false:=by rw [Bool.eq_false_iff]; exact fun x=>h (Nat.eq_of_beq_eq_true x)
   simp only [this,Bool.false_eq_true,if_false,lk,Qi3 d r t]
   by_cases e:k=t
   ·subst e; simp [Ne.symm h]
   ·simp [e]
def Y9 (s:List (Nat × AV)) (nt:Nat) (dst:Option Tmp) (v:Option AV):Option (List (Nat × AV)) :=
 match dst with
 | none=>some s
 | some d=>if Nat.blt d nt then (match v with | some x=>some (setS s d x) | none=>some (delS s d)) else none
def Ye (objs:List AObj):List (Nat × AObj)→Option (List AObj)
 | []=>some objs
 | (o,x)::es=>if x.isPlain && Nat.blt o BIG then (match objs[o]? with
   | some y=>if y.isFam then none else Ye (objs.set o x) es
   | none=>if Nat.beq o objs.length then Ye (objs++[x]) es else none) else none
theorem Vi:∀(es:List (Nat × AObj)) (objs objs':List AObj),Ye objs es=some objs'→sto objs'=Sto.puts (sto objs) es∧objs.length≤objs'.length∧(objs.length≤BIG→objs'.length≤BIG)
 | [],objs,objs',h=>by cases h; exact ⟨rfl,Nat.le_refl _,fun h=>h⟩
 | (o,x)::es,objs,objs',h=>by
  simp only [Ye] at h
  split at h
  ·rename_i hc
   simp only [Bool.and_eq_true] at hc
   have hb:=Yc hc.2
   split at h
   ·rename_i y hy
    split at h
    ·cases h
    ·rename_i hf
     obtain ⟨h1,h2,h3⟩:=Vi es _ _ h
     refine ⟨?_,by simpa using h2,fun hl=>h3 (by simpa using hl)⟩
     rw [h1,Qb5 hy (by simpa using hf) hc.1 hb]; rfl
   ·split at h
    ·rename_i heq
     have heq:o=objs.length:=Nat.eq_of_beq_eq_true heq
     subst heq
     obtain ⟨h1,h2,h3⟩:=Vi es _ _ h
     refine ⟨?_,by simp at h2; omega,fun hl=>h3 (by simp; omega)⟩
     rw [h1,Qfh hc.1 hb]; rfl
    ·cases h
  ·cases h
section
variable {P:Program} {rd:Option Nat} {base:Nat} {c x y:Code} {st st1 st2:St} {out:AOut} {B:Nat} {W0 W:World} {D0 D dl dl1:List Nat} {M M1:CM} {ι ι1:Inj} {Q:Exit→Act→World→Prop} {a:Act} {r:Option Nat} {nf:Bool} {C:FuncId→List AV→Option Z2} {o:Oper} {res:Res}
theorem Kt {s s':List (Nat × AV)} {nt:Nat} {dst:Option Tmp} {v:Option AV} {u:Value} (h:Qg M ι (lk s) a.tmps) (hnt:a.tmps.size=nt) (hp:Y9 s nt dst v=some s')
  (hv:∀x,v=some x→Qa M ι u x):Qg M ι (lk s') (a.put dst u).tmps∧(a.put dst u).tmps.size=nt∧(a.put dst u).defers=a.defers:=by
 unfold Y9 at hp
 cases dst with
 | none=>cases hp; exact ⟨h,hnt,rfl⟩
 | some d =>
  simp only at hp
  split at hp
  ·rename_i hlt
   have hlt:d < nt:=by simpa [Nat.blt,Nat.lt_iff_add_one_le] using hlt
   refine ⟨?_,by simp [Act.put,hnt],rfl⟩
   intro t y ht
   have hset:(a.put (some d) u).tmps.getD t undef=if d=t then u else a.tmps.getD t undef:=by
    simp only [Act.put,Array.getD_eq_getD_getElem?]
    by_cases e:d=t
    ·subst e; simp [hnt,hlt]
    ·simp [e,Array.getElem?_setIfInBounds_ne e]
   rw [hset]
   cases v with
   | none =>
    cases hp
    rw [Qi3] at ht
    by_cases e:d=t
    ·rw [if_pos e] at ht; cases ht
    ·rw [if_neg e] at ht; rw [if_neg e]; exact h t y ht
   | some z =>
    cases hp
    rw [Qdp] at ht
    by_cases e:d=t
    ·rw [if_pos e] at ht; cases ht; rw [if_pos e]; exact hv y rfl
    ·rw [if_neg e] at ht; rw [if_neg e]; exact h t y ht
  ·cases hp
theorem Ql9.put {dst:Option Tmp} {u:Value} (h:Ql9 B D0 dl a):Ql9 B D0 dl (a.put dst u):=by
 refine ⟨?_,h.old,h.nd⟩
 cases dst <;> exact h.defs
noncomputable def Q2r (P:Program) (nf:Bool) (C:FuncId→List AV→Option Z2) (st:St) (o:Oper):Option AOut :=
 match Zr P nf C (sto st.objs) st.objs.length (lk st.slots) o with
 | some (.val res)=>match Ye st.objs res.eff,Y9 st.slots st.nt o.dst res.v with
  | some objs,some slots=>if Nat.beq objs.length res.fr then some (.go .normal ⟨slots,objs,st.nt⟩) else none
  | _,_=>none
 | some (.pan v)=>some (.pan v)
 | none=>none
def X9 (ops:Array Oper) (s:Slots) (o:Oper):Option Bool :=
 match o.guard with
 | none=>some true
 | some (j,want)=>match ops[j]? with
  | some oj=>match oj.dst with
   | some d=>match s d with
    | some (.bool b)=>some (b==want)
    | some (.tup [])=>some false
    | _=>none
   | none=>none
  | none=>none
theorem Qnt {M:CM} {ι:Inj}:Qa M ι undef (.tup []):=.tup #[] [] rfl (fun j v y hv hy=>by simp at hy)
theorem K2 {ops:Array Oper} {s:Slots} {b:Bool} (hs:Qg M ι s a.tmps) (h:X9 ops s o=some b):Region.wanted o (yielded ops a.tmps)=b:=by
 unfold X9 at h
 unfold Region.wanted
 split at h
 ·rename_i hg; rw [hg]; cases h; rfl
 ·rename_i j want hg
  rw [hg]
  simp only
  split at h
  ·rename_i oj hj
   split at h
   ·rename_i d hd
    split at h
    ·rename_i b' hb
     cases h
     have:=hs d _ hb
     generalize hv:a.tmps.getD d undef=v at this
     cases this
     have hy:yielded ops a.tmps j=some b':=by
      unfold yielded
      rw [hj]
      simp only [Option.bind_some,hd]
      have hlt:d < a.tmps.size:=by
       rcases Nat.lt_or_ge d a.tmps.size with e | e
       ·exact e
       ·simp [Array.getD_eq_getD_getElem?,Array.getElem?_eq_none e,undef] at hv
      rw [Array.getD_eq_getD_getElem?,Array.getElem?_eq_getElem hlt] at hv
      simp only [Option.getD_some] at hv
      rw [Array.getElem?_eq_getElem hlt,hv]
     rw [hy]
     cases b' <;> cases want <;> rfl
    ·rename_i hb
     cases h
     have:=hs d _ hb
     generalize hv:a.tmps.getD d undef=v at this
     cases this with
     | tup vs' _ hl hr =>
     have hy:yielded ops a.tmps j=none:=by
      unfold yielded
      rw [hj]
      simp only [Option.bind_some,hd]
      rcases Nat.lt_or_ge d a.tmps.size with e | e
      ·rw [Array.getD_eq_getD_getElem?,Array.getElem?_eq_getElem e] at hv
       simp only [Option.getD_some] at hv
       rw [Array.getElem?_eq_getElem e,hv]
      ·rw [Array.getElem?_eq_none e]
     rw [hy]
     rfl
    ·cases h
   ·cases h
  ·cases h
theorem Qer {ops:Array Oper} {i:Nat} {l:List Nat} (ho:ops[i]?=some o) (hw:X9 ops (lk st.slots) o=some true) (h1:OpX P rd base o st (.go .normal st1)) (h2:Qab P rd base ops l st1 out) :
  Qab P rd base ops (i::l) st out:=by
 intro B W0 D0 dl M ι a W n Q r hs hr hp
 simp only [wpOpsIn,ho]
 rw [if_pos (K2 hs.slots hw)]
 have:=h1 B W0 D0 dl M ι a W n (Exit.then (wpOpsIn (FW r) n P ops Q l) Q) r hs hr ⟨fun e st' he dl' M' ι' a' W' g1 g2 g3 g4=>?_,fun v he=>by cases he⟩
 ·exact this.1 |> fun h=>⟨h,by
   have h2:=this.2
   generalize (o.semAt (FW r).round a.eval).run P W=R at h2
   cases R with
   | ok x w' =>
    cases x <;> simp only [Oper.uponIn] at h2 ⊢ <;>
     first
      | exact h2
      | exact ⟨h2.1,CallsIn.mono h2.2 (fun e w'' he=>by
        cases e with
        | returned v=>exact he
        | panicked c=>exact he
        | outgrown=>obtain ⟨a0,w0,hq⟩:=he; exact ⟨a0,w0,hq⟩)⟩
      | exact ⟨h2.1,RoundIn.mono h2.2 (fun e w'' he=>by
        cases e with
        | returned v=>exact he
        | panicked c=>exact he
        | outgrown=>obtain ⟨a0,w0,hq⟩:=he; exact ⟨a0,w0,hq⟩)⟩
   | halt x w'=>cases x <;> simp only [Oper.uponIn] at h2 ⊢ <;> exact h2⟩
 ·cases he
  exact h2 B W0 D0 dl' M' ι' a' W' n Q r g4 (hr.mono g2) (hp.step g1 g2 g3)
theorem Quz {ops:Array Oper} {i:Nat} {l:List Nat} {slots:List (Nat × AV)} (ho:ops[i]?=some o) (hw:X9 ops (lk st.slots) o=some false) (hd:Y9 st.slots st.nt o.dst (some (.tup []))=some slots)
  (h2:Qab P rd base ops l ⟨slots,st.objs,st.nt⟩ out):Qab P rd base ops (i::l) st out:=by
 intro B W0 D0 dl M ι a W n Q r hs hr hp
 simp only [wpOpsIn,ho]
 rw [if_neg (by rw [K2 hs.slots hw]; simp)]
 refine ⟨fun _ _=>trivial,?_⟩
 obtain ⟨k1,k2,k3⟩:=Kt (u:=undef) hs.slots hs.nt hd (fun x hx=>by cases hx; exact Qnt)
 exact h2 B W0 D0 dl M ι _ W n Q r ⟨hs.rel,k1,k2,hs.df.put,hs.new,hs.big⟩ hr hp
end
end Go.Ab
namespace Go.Ab
open Go.RowKit
mutual
def AV.ren (f:Nat → Option Nat):AV→Option AV
 | .ref o i n=>match f o with | some o'=>some (.ref o' i n) | none=>none
 | .ptr o i c=>match f o with | some o'=>some (.ptr o' i c) | none=>none
 | .mp o=>match f o with | some o'=>some (.mp o') | none=>none
 | .yld o=>match f o with | some o'=>some (.yld o') | none=>none
 | .lin ..=>none
 | .agg cs=>match AV.renL f cs with | some x=>some (.agg x) | none=>none
 | .tup vs=>match AV.renL f vs with | some x=>some (.tup x) | none=>none
 | .fn g a b=>match AV.renL f a,AV.renL f b with | some x,some y=>some (.fn g x y) | _,_=>none
 | .ifc t v=>match AV.ren f v with | some x=>some (.ifc t x) | none=>none
 | v=>some v
def AV.renL (f:Nat → Option Nat):List AV→Option (List AV)
 | []=>some []
 | x::xs=>match AV.ren f x,AV.renL f xs with
  | some y,some ys=>some (y::ys)
  | _,_=>none
end
theorem Qav {f:Nat → Option Nat}:∀{xs ys:List AV},AV.renL f xs=some ys→ys.length=xs.length∧∀(j:Nat) (y:AV),ys[j]?=some y→∃x,xs[j]?=some x∧x.ren f=some y
 | [],ys,h=>by simp [AV.renL] at h; subst h; exact ⟨rfl,fun j y hy=>by simp at hy⟩
 | x::xs,ys,h=>by
  simp only [AV.renL] at h
  split at h
  ·rename_i y0 ys0 h1 h2
   cases h
   obtain ⟨l,k⟩:=Qav h2
   refine ⟨by simp [l],fun j y hy=>?_⟩
   cases j with
   | zero=>simp at hy; subst hy; exact ⟨x,rfl,h1⟩
   | succ j=>simp at hy; simpa using k j y hy
  ·cases h
theorem Qkd {f:Nat → Option Nat} {x y:AV} (h:x.ren f=some y):y.cell=x.cell:=by
 cases x <;> simp only [AV.ren] at h <;> first | (cases h; done) | (cases h; rfl) | (split at h <;> first | (cases h; rfl) | cases h)
theorem Qz4 {f:Nat → Option Nat} {x y:AV} (h:x.ren f=some y) (hs:x.sc=true):y.sc=true:=by
 cases x with
 | fn g a b =>
  simp only [AV.sc,Bool.and_eq_true,List.isEmpty_iff] at hs
  obtain ⟨rfl,rfl⟩:=hs
  simp only [AV.ren,AV.renL] at h
  cases h; rfl
 | lst fl xs=>simp only [AV.ren] at h; cases h; exact hs
 | _=>first | (simp only [AV.ren] at h; cases h; rfl) | simp [AV.sc] at hs
theorem Qps {f:Nat → Option Nat} {x y:AV} (h:x.ren f=some y) (hx:x=.agg x.flat ∨ x.cell=true):AV.renL f x.flat = some y.flat ∧ (y=.agg y.flat ∨ y.cell=true):=by
 rcases hx with hx | hx
 ·generalize hf:x.flat = cs at hx
  subst hx
  simp only [AV.ren] at h
  split at h
  ·rename_i z hz
   cases h
   exact ⟨by simpa [AV.flat] using hz,.inl rfl⟩
  ·cases h
 ·have hy:y.cell=true:=by rw [Qkd h]; exact hx
  have e1:x.flat = [x]:=by cases x <;> simp_all [AV.flat,AV.cell]
  have e2:y.flat = [y]:=by cases y <;> simp_all [AV.flat,AV.cell]
  rw [e1,e2]
  exact ⟨by simp [AV.renL,h],.inr hy⟩
theorem Qg5 {f:Nat → Option Nat} {x y:AV} {w:Nat} (h:x.ren f=some y) (hx:x.shaped w):y.shaped w:=by
 obtain ⟨h1,h2⟩:=Qps h hx.form
 obtain ⟨l,k⟩:=Qav h1
 refine ⟨h2,by rw [l]; exact hx.len,fun z hz=>?_⟩
 obtain ⟨j,hj⟩:=List.mem_iff_getElem?.1 hz
 obtain ⟨u,hu,hr⟩:=k j z hj
 rw [Qkd hr]; exact hx.cells u (List.mem_of_getElem? hu)
theorem Qa.ren {M:CM} {ι ι':Inj} {f:Nat → Option Nat} (hf:∀o o' p,f o=some o'→ι o=some p→ι' o'=some p) {v:Value} {x y:AV} (h:Qa M ι v x) (hr:x.ren f=some y):Qa M ι' v y:=by
 induction h generalizing ι' y f with
 | undef h=>simp only [AV.ren] at hr; cases hr; exact .undef h
 | bool b=>simp only [AV.ren] at hr; cases hr; exact .bool b
 | int k n=>simp only [AV.ren] at hr; cases hr; exact .int k n
 | str s=>simp only [AV.ren] at hr; cases hr; exact .str s
 | nilp=>simp only [AV.ren] at hr; cases hr; exact .nilp
 | nils=>simp only [AV.ren] at hr; cases hr; exact .nils
 | nilf=>simp only [AV.ren] at hr; cases hr; exact .nilf
 | nilm=>simp only [AV.ren] at hr; cases hr; exact .nilm
 | nili=>simp only [AV.ren] at hr; cases hr; exact .nili
 | emp a=>simp only [AV.ren] at hr; cases hr; exact .emp a
 | emn a c=>simp only [AV.ren] at hr; cases hr; exact .emn a c
 | lin o i n h ih=>simp only [AV.ren] at hr; cases hr
 | lst0 a fl=>simp only [AV.ren] at hr; cases hr; exact .lst0 a fl
 | ref0 a o p hp hz =>
  simp only [AV.ren] at hr
  split at hr
  ·rename_i o' ho; cases hr; exact .ref0 a o' p (hf _ _ _ ho hp) hz
  ·cases hr
 | fz b off cs g hcs hm hr' ih=>simp only [AV.ren] at hr; cases hr; exact .fz b off cs g hcs hm hr'
 | lst b off cap w fl xs g hcap hfl hc hm hr' ih=>simp only [AV.ren] at hr; cases hr; exact .lst b off cap w fl xs g hcap hfl hc hm hr'
 | ref o i n p off cap hp hi hcap hoff =>
  simp only [AV.ren] at hr
  split at hr
  ·rename_i o' ho; cases hr; exact .ref o' i n p off cap (hf _ _ _ ho hp) hi hcap hoff
  ·cases hr
 | ptr o i c p hp =>
  simp only [AV.ren] at hr
  split at hr
  ·rename_i o' ho; cases hr; exact .ptr o' i c p (hf _ _ _ ho hp)
  ·cases hr
 | mp o p hp =>
  simp only [AV.ren] at hr
  split at hr
  ·rename_i o' ho; cases hr; exact .mp o' p (hf _ _ _ ho hp)
  ·cases hr
 | yld o p hp =>
  simp only [AV.ren] at hr
  split at hr
  ·rename_i o' ho; cases hr; exact .yld o' p (hf _ _ _ ho hp)
  ·cases hr
 | ifc t v' v hr' ih =>
  simp only [AV.ren] at hr
  split at hr
  ·rename_i z hz; cases hr; exact .ifc t v' z (ih hf hz)
  ·cases hr
 | fn g first' caps' first caps hy hm h1 h2 hr1 hr2 ih1 ih2 =>
  simp only [AV.ren] at hr
  split at hr
  ·rename_i x1 x2 e1 e2
   cases hr
   obtain ⟨l1,k1⟩:=Qav e1
   obtain ⟨l2,k2⟩:=Qav e2
   refine .fn g first' caps' x1 x2 hy hm (by omega) (by omega) (fun j v y a b=>?_) (fun j v y a b=>?_)
   ·obtain ⟨z,hz,hzr⟩:=k1 j y b; exact ih1 j v z a hz hf hzr
   ·obtain ⟨z,hz,hzr⟩:=k2 j y b; exact ih2 j v z a hz hf hzr
  ·cases hr
 | agg cs' cs h hc hr' ih =>
  simp only [AV.ren] at hr
  split at hr
  ·rename_i x1 e1
   cases hr
   obtain ⟨l1,k1⟩:=Qav e1
   refine .agg cs' x1 (by omega) (fun y hy=>?_) (fun j v y a b=>?_)
   ·obtain ⟨j,hj⟩:=List.mem_iff_getElem?.1 hy
    obtain ⟨z,hz,hzr⟩:=k1 j y hj
    rw [Qkd hzr]; exact hc z (List.mem_of_getElem? hz)
   ·obtain ⟨z,hz,hzr⟩:=k1 j y b; exact ih j v z a hz hf hzr
  ·cases hr
 | tup vs' vs h hr' ih =>
  simp only [AV.ren] at hr
  split at hr
  ·rename_i x1 e1
   cases hr
   obtain ⟨l1,k1⟩:=Qav e1
   refine .tup vs' x1 (by omega) (fun j v y a b=>?_)
   obtain ⟨z,hz,hzr⟩:=k1 j y b; exact ih j v z a hz hf hzr
  ·cases hr
def Qkb (f:Nat → Option Nat):List (Nat × AV)→Option (List (Nat × AV))
 | []=>some []
 | (t,x)::r=>match x.ren f,Qkb f r with
  | some y,some ys=>some ((t,y)::ys)
  | _,_=>none
theorem Qrr {f:Nat → Option Nat}:∀{s s':List (Nat × AV)},Qkb f s=some s'→∀t y,lk s' t=some y→∃x,lk s t=some x∧x.ren f=some y
 | [],s',h,t,y,hy=>by simp [Qkb] at h; subst h; simp [lk] at hy
 | (k,x)::r,s',h,t,y,hy=>by
  simp only [Qkb] at h
  split at h
  ·rename_i y0 ys0 h1 h2
   cases h
   simp only [lk] at hy ⊢
   split at hy
   ·rename_i e; cases hy; rw [if_pos e]; exact ⟨x,rfl,h1⟩
   ·rename_i e; rw [if_neg e]; exact Qrr h2 t y hy
  ·cases h
def AObj.ren (f:Nat → Option Nat):AObj→Option AObj
 | .row bx ro nr fl w xs=>if nr then some (.row bx ro nr fl w xs) else match AV.renL f xs with | some ys=>some (.row bx ro nr fl w ys) | none=>none
 | .loop fn slots ps as bd st pe=>match Qkb f slots with | some s=>some (.loop fn s ps as bd st pe) | none=>none
 | .fam w fl xs=>some (.fam w fl xs)
 | .refs j xs=>match f j with | some j'=>some (.refs j' xs) | none=>none
 | .dead=>some .dead
def AV.renT (f:Nat → Option Nat):AV→Option AV
 | .lin o i n=>match f o with | some o'=>some (.lin o' i n) | none=>none
 | x=>x.ren f
def Qb7 (f:Nat → Option Nat) (s:List (Nat × AV)):List Nat → List (Nat × AV)
 | []=>[]
 | t::ts=>match lk s t with
  | some x=>match x.renT f with
   | some y=>(t,y)::Qb7 f s ts
   | none=>Qb7 f s ts
  | none=>Qb7 f s ts
theorem Qda {f:Nat → Option Nat} {s:List (Nat × AV)}:∀(ts:List Nat) (t:Nat) (y:AV),lk (Qb7 f s ts) t=some y→∃x,lk s t=some x∧x.renT f=some y
 | [],t,y,h=>by simp [Qb7,lk] at h
 | k::ts,t,y,h=>by
  simp only [Qb7] at h
  split at h
  ·rename_i x hx
   split at h
   ·rename_i z hz
    simp only [lk] at h
    split at h
    ·rename_i e; cases h; have:=Nat.eq_of_beq_eq_true e; subst this; exact ⟨x,hx,hz⟩
    ·exact Qda ts t y h
   ·exact Qda ts t y h
  ·exact Qda ts t y h
def idx (k:Nat):Nat → List Nat → Option Nat
 | _,[]=>none
 | i,x::xs=>if Nat.beq x k then some i else idx k (i+1) xs
theorem Qut (k:Nat):∀(xs:List Nat) (i j:Nat),idx k i xs=some j→i≤j∧xs[j - i]?=some k
 | [],i,j,h=>by simp [idx] at h
 | x::xs,i,j,h=>by
  simp only [idx] at h
  split at h
  ·rename_i e; cases h; have:=Nat.eq_of_beq_eq_true e; subst this; simp
  ·obtain ⟨h1,h2⟩:=Qut k xs (i+1) j h
   refine ⟨by omega,?_⟩
   rw [show j - i=(j - (i+1))+1 by omega]; simpa using h2
def Vn (f:Nat → Option Nat) (objs:List AObj):List Nat → Option (List AObj)
 | []=>some []
 | k::ks=>match objs[k]? with
  | some x=>match x.ren f,Vn f objs ks with
   | some y,some ys=>some (y::ys)
   | _,_=>none
  | none=>none
theorem Qcq {f:Nat → Option Nat} {objs:List AObj}:∀{ks:List Nat} {os:List AObj},Vn f objs ks=some os→os.length=ks.length∧∀(j:Nat) (y:AObj),os[j]?=some y→∃k x,ks[j]?=some k∧objs[k]?=some x∧x.ren f=some y
 | [],os,h=>by simp [Vn] at h; subst h; exact ⟨rfl,fun j y hy=>by simp at hy⟩
 | k::ks,os,h=>by
  simp only [Vn] at h
  split at h
  ·rename_i x hx
   split at h
   ·rename_i y0 ys0 h1 h2
    cases h
    obtain ⟨l,g⟩:=Qcq h2
    refine ⟨by simp [l],fun j y hy=>?_⟩
    cases j with
    | zero=>simp at hy; subst hy; exact ⟨k,x,rfl,hx,h1⟩
    | succ j=>simp at hy; simpa using g j y hy
   ·cases h
  ·cases h
def Qiu:List Nat → Bool
 | []=>true
 | x::xs=>!(xs.any fun y=>Nat.beq x y) && Qiu xs
theorem Qe5:∀{xs:List Nat},Qiu xs=true→xs.Nodup
 | [],_=>List.nodup_nil
 | x::xs,h=>by
  simp only [Qiu,Bool.and_eq_true,Bool.not_eq_true',List.any_eq_false] at h
  refine List.nodup_cons.2 ⟨fun hm=>?_,Qe5 h.2⟩
  exact absurd (Nat.beq_refl x) (by simpa using h.1 x hm)
def ιkeep (ι:Inj) (keep:List Nat):Inj:=fun j=>keep[j]?.bind ι
theorem Qfp {keep:List Nat} {o o':Nat} (h:idx o 0 keep=some o'):keep[o']?=some o:=by
 obtain ⟨_,h3⟩:=Qut _ _ _ _ h
 simpa using h3
theorem ιkeep_idx {ι:Inj} {keep:List Nat}:∀o o' p,idx o 0 keep=some o'→ι o=some p→ιkeep ι keep o'=some p:=by
 intro o o' p h1 h2
 simp [ιkeep,Qfp h1,h2]
open Classical in
noncomputable def gK (keep:List Nat) (o:Nat):Option Nat :=
 if Nat.blt o BIG then keep[o]? else if h:∃(r j i k:Nat),o=fid j i∧keep[j]?=some k∧r=fid k i then some h.choose else none
theorem Qhj {keep:List Nat} {o:Nat} (h:o < BIG):gK keep o=keep[o]?:=by unfold gK; rw [if_pos (Qku h)]
theorem Qla {keep:List Nat} {j i k:Nat} (h:keep[j]?=some k):gK keep (fid j i)=some (fid k i):=by
 have hex:∃(r j' i' k:Nat),fid j i=fid j' i'∧keep[j']?=some k∧r=fid k i':=⟨_,j,i,k,rfl,h,rfl⟩
 unfold gK
 rw [if_neg (by rw [Qib (Zn j i)]; simp),dif_pos hex]
 obtain ⟨j',i',k',e1,e2,e3⟩:=hex.choose_spec
 obtain ⟨rfl,rfl⟩:=Yq e1
 rw [h] at e2; cases e2
 rw [e3]
theorem Qje {keep:List Nat} {o k:Nat} (h:gK keep o=some k):(o < BIG∧keep[o]?=some k)∨∃j i k',o=fid j i∧keep[j]?=some k'∧k=fid k' i:=by
 rcases Nat.lt_or_ge o BIG with c | c
 ·exact .inl ⟨c,by rw [←Qhj c]; exact h⟩
 ·right
  unfold gK at h
  rw [if_neg (by rw [Qib c]; simp)] at h
  split at h
  ·rename_i hx
   obtain ⟨j,i,k',e1,e2,e3⟩:=hx.choose_spec
   simp only [Option.some.injEq] at h
   exact ⟨j,i,k',e1,e2,by rw [←h]; exact e3⟩
  ·cases h
noncomputable def ιK (ι:Inj) (keep:List Nat):Inj:=fun o=>(gK keep o).bind ι
section
variable {P:Program} {B:Nat} {W0 W:World} {D:List Nat} {M:CM} {ι:Inj}
theorem TrE.same {ι':Inj} {x:AV} (h:x.nr=true):TrE M ι ι' x x :=
 ⟨fun _ h=>h,fun h=>h,fun j y hj=>⟨y,hj,fun v hv=>hv.of_nr (AV.nr_flat h y (List.mem_of_getElem? hj)),fun v hv=>hv⟩⟩
theorem TrO.sameRow {ι':Inj} {bx ro nr fl:Bool} {w:Nat} {xs:List AV} (h:AV.nrL xs=true):TrO M ι ι' (.row bx ro nr fl w xs) (.row bx ro nr fl w xs) :=
 .row bx ro nr fl w xs xs rfl (fun _ h=>h) (fun i x x' h1 h2=>by rw [h1] at h2; cases h2; exact TrE.same (Q1.1 h x (List.mem_of_getElem? h1)))
theorem Qdl {v:Value} {o i n:Nat} (h:Qa M ι v (.ref o i n)):∃p,ι o=some p∧∀(ι':Inj) o',ι' o'=some p→Qa M ι' v (.ref o' i n):=by
 cases h with
 | ref0 _ _ p hp hc=>exact ⟨p,hp,fun ι' o' h=>.ref0 _ _ p h hc⟩
 | ref _ _ _ p off cap hp h1 h2 h3=>exact ⟨p,hp,fun ι' o' h=>.ref _ _ _ p off cap h h1 h2 h3⟩
theorem Qa.renT {ι':Inj} {f:Nat → Option Nat} (hf:∀o o' p,f o=some o'→ι o=some p→ι' o'=some p) (hfam:∀j j' i p,f j=some j'→ι (fid j i)=some p→ι' (fid j' i)=some p) {v:Value} {x y:AV} (h:Qa M ι v x) (hr:x.renT f=some y):Qa M ι' v y:=by
 cases x with
 | lin o i n =>
  simp only [AV.renT] at hr
  split at hr
  ·rename_i o' ho
   cases hr
   cases h with
   | lin _ _ _ h =>
    obtain ⟨p,hp,hq⟩:=Qdl h
    exact .lin _ _ _ (hq _ _ (hfam o o' i p ho hp))
  ·cases hr
 | _=>exact h.ren hf hr
theorem Qv8 {σ:Sto} {ι':Inj} {f:Nat → Option Nat} {k:Nat} {x y:AObj} (h:Rel P B W0 D M ι σ W) (hk:σ k=some x.plain) (hr:x.ren f=some y) (hf:∀o o' p,f o=some o'→ι o=some p→ι' o'=some p)
  (hfam:∀j j' i p,f j=some j'→y.isPlain=false→ι (fid j i)=some p→ι' (fid j' i)=some p) (hd:y.plain≠.dead):TrO M ι ι' x.plain y.plain:=by
 cases x with
 | dead=>cases hr; exact absurd rfl hd
 | fam w fl xs=>cases hr; exact absurd rfl hd
 | loop fn sl ps as bd st pe =>
  simp only [AObj.ren] at hr
  split at hr
  ·rename_i s hs
   cases hr
   refine .loop _ _ _ _ _ _ _ _ (fun t y' hy'=>?_)
   obtain ⟨z,hz,hzr⟩:=Qrr hs t y' hy'
   exact ⟨z,hz,fun v hv=>hv.ren hf hzr⟩
  ·cases hr
 | refs j xs =>
  simp only [AObj.ren] at hr
  split at hr
  ·rename_i j' hj'
   cases hr
   refine .row _ _ _ _ _ _ _ (by simp [Yd]) (fun h=>by cases h) (fun i z z' h1 h2=>?_)
   rw [Yi] at h1 h2
   cases hl:xs[i]? with
   | none=>rw [hl] at h1; cases h1
   | some l =>
    rw [hl] at h1 h2
    simp only [Option.map_some,Nat.zero_add,Option.some.injEq] at h1 h2
    subst h1; subst h2
    refine ⟨fun w hw=>Qg5 (f:=fun _=>some (fid j' i)) rfl hw,fun h=>(by cases h),fun c y' hc=>?_⟩
    cases c with
    | succ c=>simp [AV.flat] at hc
    | zero =>
     simp only [AV.flat,List.getElem?_cons_zero,Option.some.injEq] at hc
     subst hc
     refine ⟨_,rfl,fun v hv=>?_,fun v hv=>?_⟩
     ·obtain ⟨p,hp,hq⟩:=Qdl hv
      exact hq _ _ (hfam j j' i p hj' rfl hp)
     ·obtain ⟨p,hp,_⟩:=Qdl hv
      cases hp
  ·cases hr
 | row bx ro nr fl w ys =>
  obtain ⟨p0,hp0,hro⟩:=h.row k bx ro nr fl w ys hk
  simp only [AObj.ren] at hr
  by_cases hn:nr=true
  ·rw [if_pos hn] at hr; cases hr
   exact TrO.sameRow (hro.nr hn)
  ·rw [if_neg hn] at hr
   split at hr
   ·rename_i zs hz
    cases hr
    obtain ⟨lx,ax⟩:=Qav hz
    refine .row bx ro nr fl w ys zs lx (fun e=>absurd e hn) (fun i z z' h1 h2=>?_)
    obtain ⟨z0,g1,g2⟩:=ax i z' h2
    rw [h1] at g1; cases g1
    have hsh:=hro.shaped z (List.mem_of_getElem? h1)
    obtain ⟨hfl1,_⟩:=Qps g2 hsh.form
    obtain ⟨_,k2⟩:=Qav hfl1
    refine ⟨fun w' hw=>Qg5 g2 hw,fun hs=>?_,fun c u' hc=>?_⟩
    ·rw [Qak]
     intro u' hu'
     obtain ⟨c,hc⟩:=List.mem_iff_getElem?.1 hu'
     obtain ⟨u,hu,hur⟩:=k2 c u' hc
     exact Qz4 hur (Qak.1 hs u (List.mem_of_getElem? hu))
    ·obtain ⟨u,hu,hur⟩:=k2 c u' hc
     exact ⟨u,hu,fun v hv=>hv.ren hf hur,fun v hv=>hv.ren (fun o o' p _ hp=>by cases hp) hur⟩
   ·cases hr
theorem Qih {keep:List Nat} (hnd:keep.Nodup) {o o' k:Nat} (h1:keep[o]?=some k) (h2:keep[o']?=some k):o=o':=by
 obtain ⟨l1,e1⟩:=List.getElem?_eq_some_iff.1 h1
 obtain ⟨l2,e2⟩:=List.getElem?_eq_some_iff.1 h2
 exact (List.getElem_inj hnd).1 (e1.trans e2.symm)
theorem TrO.alive {ι':Inj} {x y:AObj} (h:TrO M ι ι' x y):x≠.dead:=by cases h <;> simp
theorem Rel.gcP {objs os:List AObj} {keep:List Nat} (h:Rel P B W0 D M ι (sto objs) W) (hb:objs.length≤BIG) (hg:Vn (fun k=>idx k 0 keep) objs keep=some os) (hnd:keep.Nodup) (hok:∀x∈os,x.isPlain=true) :
  Rel P B W0 D M (ιkeep ι keep) (fun k=>os[k]?) W:=by
 obtain ⟨hl,hat⟩:=Qcq hg
 have hobj:∀o x',os[o]?=some x'→x'≠.dead→∃k x,keep[o]?=some k∧sto objs k=some x∧TrO M ι (ιkeep ι keep) x x':=fun o x' ho hd=>by
  obtain ⟨k,x,h1,h2,h3⟩:=hat o _ ho
  have hk:k < BIG:=Nat.lt_of_lt_of_le (List.getElem?_eq_some_iff.1 h2).1 hb
  have hpl:=hok x' (List.mem_of_getElem? ho)
  have hs:sto objs k=some x.plain:=by rw [Zh hk,h2]; rfl
  refine ⟨k,_,h1,hs,?_⟩
  have:=Qv8 (ι':=ιkeep ι keep) h hs h3 (fun o o' p=>ιkeep_idx o o' p) (fun j j' i p _ e=>by rw [hpl] at e; cases e) (by rw [Qds hpl]; exact hd)
  rwa [Qds hpl] at this
 refine h.via (fun o=>keep[o]?) (fun o o' k h1 h2=>Qih hnd h1 h2) (fun o k hk=>by simp [ιkeep,hk]) hobj (fun o ho=>?_)
 cases hx:os[o]? with
 | none=>exact .inl rfl
 | some x' =>
  right
  by_cases hd:x'=.dead
  ·rw [hd]
  ·obtain ⟨k,x,h1,h2,h3⟩:=hobj o x' hx hd
   have:ι k=none:=by simpa [ιkeep,h1] using ho
   rcases h.used k this with e | e
   ·rw [h2] at e; cases e
   ·rw [h2] at e; cases e; exact absurd rfl h3.alive
theorem Rel.gc {objs os:List AObj} {keep:List Nat} (h:Rel P B W0 D M ι (sto objs) W) (hb:objs.length≤BIG) (hg:Vn (fun k=>idx k 0 keep) objs keep=some os) (hnd:keep.Nodup) (hkb:keep.length≤BIG) :
  Rel P B W0 D M (ιK ι keep) (sto os) W:=by
 obtain ⟨hl,hat⟩:=Qcq hg
 have hlow:∀o k,keep[o]?=some k→k < BIG:=fun o k hk=>by
  have ho:o < os.length:=by rw [hl]; exact (List.getElem?_eq_some_iff.1 hk).1
  obtain ⟨k',x,h1,h2,_⟩:=hat o _ (List.getElem?_eq_getElem ho)
  rw [hk] at h1; cases h1
  exact Nat.lt_of_lt_of_le (List.getElem?_eq_some_iff.1 h2).1 hb
 have hf:∀o o' p,idx o 0 keep=some o'→ι o=some p→ιK ι keep o'=some p:=fun o o' p h1 h2=>by
  have h3:=Qfp h1
  have:o' < BIG:=Nat.lt_of_lt_of_le (List.getElem?_eq_some_iff.1 h3).1 hkb
  simp [ιK,Qhj this,h3,h2]
 have hfam:∀j j' i p,idx j 0 keep=some j'→ι (fid j i)=some p→ιK ι keep (fid j' i)=some p:=fun j j' i p h1 h2=>by
  simp [ιK,Qla (Qfp h1),h2]
 have hobj:∀o x',sto os o=some x'→x'≠.dead→∃k x,gK keep o=some k∧sto objs k=some x∧TrO M ι (ιK ι keep) x x':=fun o x' ho hd=>by
  rcases Vp os o with ⟨c,e⟩ | ⟨c,⟨j,i,w,fl,xs,l,rfl,e2,e3,e4⟩ | e⟩
  ·rw [e] at ho
   cases hy:os[o]? with
   | none=>rw [hy] at ho; cases ho
   | some y =>
    rw [hy] at ho
    simp only [Option.map_some,Option.some.injEq] at ho
    subst ho
    obtain ⟨k,x,h1,h2,h3⟩:=hat o _ hy
    have hs:sto objs k=some x.plain:=by rw [Zh (hlow o k h1),h2]; rfl
    exact ⟨k,_,by rw [Qhj c]; exact h1,hs,Qv8 h hs h3 hf (fun j j' i p h1 _ h2=>hfam j j' i p h1 h2) hd⟩
  ·rw [e4] at ho; cases ho
   obtain ⟨k,x,h1,h2,h3⟩:=hat j _ e2
   have hx:x=.fam w fl xs:=by
    cases x with
    | fam _ _ _=>simpa [AObj.ren] using h3
    | dead=>cases h3
    | row bx ro nr fl' w' ys=>simp only [AObj.ren] at h3; split at h3 <;> first | cases h3 | (split at h3 <;> cases h3)
    | loop _ _ _ _ _ _ _=>simp only [AObj.ren] at h3; split at h3 <;> cases h3
    | refs _ _=>simp only [AObj.ren] at h3; split at h3 <;> cases h3
   subst hx
   have hs:=Xk h2 e3
   obtain ⟨_,_,hro⟩:=h.row _ _ _ _ _ _ _ hs
   exact ⟨_,_,Qla h1,hs,TrO.sameRow (hro.nr rfl)⟩
  ·rw [e] at ho; cases ho
 refine h.via (gK keep) (fun o o' k h1 h2=>?_) (fun o k hk=>by simp [ιK,hk]) hobj (fun o ho=>?_)
 ·rcases Qje h1 with ⟨c,e⟩ | ⟨j,i,k',rfl,e,rfl⟩
  ·rcases Qje h2 with ⟨c',e'⟩ | ⟨j',i',k',rfl,e',rfl⟩
   ·exact Qih hnd e e'
   ·have:=hlow o _ e; have:=Zn k' i'; omega
  ·rcases Qje h2 with ⟨c',e'⟩ | ⟨j',i',k'',rfl,e',e2⟩
   ·have:=hlow o' _ e'; have:=Zn k' i; omega
   ·obtain ⟨rfl,rfl⟩:=Yq e2
    rw [Qih hnd e e']
 ·cases hx:sto os o with
  | none=>exact .inl rfl
  | some x' =>
   right
   by_cases hd:x'=.dead
   ·rw [hd]
   ·obtain ⟨k,x,h1,h2,h3⟩:=hobj o x' hx hd
    have:ι k=none:=by simpa [ιK,h1] using ho
    rcases h.used k this with e | e
    ·rw [h2] at e; cases e
    ·rw [h2] at e; cases e; exact absurd rfl h3.alive
def Qcv (base:Nat) (live keep:List Nat) (st:St):Option St :=
 let ks:=List.range base++keep
 if Qiu ks && Nat.ble ks.length BIG then
  match Vn (fun k=>idx k 0 ks) st.objs ks with
  | some os=>some ⟨Qb7 (fun k=>idx k 0 ks) st.slots live,os,st.nt⟩
  | none=>none
 else none
theorem Sim.gc {base:Nat} {live keep:List Nat} {st st':St} {D0 dl:List Nat} {a:Act} (h:Sim P B W0 D0 dl M ι st a W) (hg:Qcv base live keep st=some st'):∃ι',Inj.leB base ι ι'∧Sim P B W0 D0 dl M ι' st' a W:=by
 unfold Qcv at hg
 simp only at hg
 split at hg
 ·rename_i hnd
  simp only [Bool.and_eq_true] at hnd
  obtain ⟨hnd,hkb⟩:=hnd
  have hkb:(List.range base++keep).length≤BIG:=Nat.le_of_ble_eq_true hkb
  split at hg
  ·rename_i os hos
   cases hg
   obtain ⟨hl,hat⟩:=Qcq hos
   have hlb:∀k,k < base→(List.range base++keep)[k]?=some k:=fun k hk=>by
    simp [List.getElem?_append_left (show k < (List.range base).length by simpa using hk),hk]
   have hbase:base≤BIG:=by simp at hkb; omega
   refine ⟨ιK ι (List.range base++keep),fun k p hk hp=>?_,⟨h.rel.gc h.big hos (Qe5 hnd) hkb,fun t y hy=>?_,h.nt,h.df,fun k hk=>?_,by show os.length≤BIG; omega⟩⟩
   ·rcases hk with hk | ⟨j,i,hj,rfl⟩
    ·simp only [ιK,Qhj (show k < BIG by omega),hlb k hk,Option.bind_some,hp]
    ·simp only [ιK,Qla (hlb j hj),Option.bind_some,hp]
   ·obtain ⟨x,hx,hxr⟩:=Qda live t y hy
    refine (h.slots t x hx).renT (fun o o' p h1 h2=>?_) (fun j j' i p h1 h2=>by simp [ιK,Qla (Qfp h1),h2]) hxr
    have h3:=Qfp h1
    have:o' < BIG:=Nat.lt_of_lt_of_le (List.getElem?_eq_some_iff.1 h3).1 hkb
    simp only [ιK,Qhj this,h3,Option.bind_some,h2]
   ·have hk:¬ InB os.length k:=hk
    cases hx:ιK ι (List.range base++keep) k with
    | none=>rfl
    | some p =>
     exfalso
     refine hk ?_
     unfold ιK at hx
     cases hgk:gK (List.range base++keep) k with
     | none=>rw [hgk] at hx; cases hx
     | some k' =>
      rcases Qje hgk with ⟨_,e⟩ | ⟨j,i,k2,rfl,e,_⟩
      ·exact .inl (by rw [hl]; exact (List.getElem?_eq_some_iff.1 e).1)
      ·exact .inr ⟨j,i,by rw [hl]; exact (List.getElem?_eq_some_iff.1 e).1,rfl⟩
  ·cases hg
 ·cases hg
end
end Go.Ab
namespace Go.Ab
open Go.RowKit
section
variable {P:Program} {B:Nat} {W0 W:World} {D:List Nat} {M:CM} {ι:Inj} {σ:Sto}
theorem Rel.take {r:Nat} (h:Rel P B W0 (r::D) M ι σ W) (hnd:(r::D).Nodup) (hB:B≤r):Rel P B W0 D M ι σ (W.putObj r (.deferred none)):=by
 have hr:=h.defs r (by simp)
 have hc:=fun q=>Qjz (o':=.deferred none) hr rfl rfl q
 have hf:=fun q=>Qha (o':=.deferred none) hr rfl rfl q
 refine ⟨by simpa using h.size,Qi1 _ h.below hB,fun d hd=>?_,⟨fun b o v hv=>by rw [hc]; exact h.agree b o v hv,fun b x hm=>by
  obtain ⟨k1,k2,k3⟩:=h.agree.keep b x hm
  refine ⟨?_,k2,k3⟩
  rw [World.putObj_heap_other (fun e=>by subst e; rw [hr] at k1; cases k1; exact k3 _ rfl)]; exact k1,fun b o v hm=>by simp only [hc,hf]; exact h.agree.keepC b o v hm⟩,fun o bx nr fl w xs p k ho hp hk=>by simp only [hf]; exact h.cool o bx nr fl w xs p k ho hp hk,?_,?_,h.apart,h.loops,h.used⟩
 ·have:d≠r:=fun e=>by subst e; exact (List.nodup_cons.1 hnd).1 hd
  rw [World.putObj_heap_other this]; exact h.defs d (by simp [hd])
 ·intro o bx ro nr fl w xs ho
  obtain ⟨p,hp,hr'⟩:=h.row o bx ro nr fl w xs ho
  exact ⟨p,hp,hr'.world hc⟩
 ·intro o fn sl ps as bd st pe ho
  obtain ⟨p,nt,hp,hnt,hb,tmps,hsz,hrec,hsl⟩:=h.loop o fn sl ps as bd st pe ho
  refine ⟨p,nt,hp,hnt,hb,tmps,hsz,?_,hsl⟩
  rw [World.putObj_heap_other (fun e=>by rw [e,hr] at hrec; exact Qj0 hrec.symm)]; exact hrec
theorem Rel.mem (h:Rel P B W0 D M ι σ W) {D':List Nat} (hd:∀r∈D',r∈D):Rel P B W0 D' M ι σ W :=
 ⟨h.size,h.below,fun r hr=>h.defs r (hd r hr),h.agree,h.cool,h.row,h.loop,h.apart,h.loops,h.used⟩
theorem Rel.allocDef (h:Rel P B W0 D M ι σ W):Rel P B W0 (W.heap.size::D) M ι σ (W.alloc (.deferred (some []))):=by
 have h':=h.allocObj (.deferred (some [])) rfl
 refine ⟨h'.size,h'.below,fun r hr=>?_,h'.agree,h'.cool,h'.row,h'.loop,h'.apart,h'.loops,h'.used⟩
 rcases List.mem_cons.1 hr with rfl | hr
 ·exact World.alloc_heap_new W _
 ·exact h'.defs r hr
theorem Rel.allocLoop (h:Rel P B W0 D M ι σ W) {o:Nat} (ho:ι o=none) {fn:FuncId} {nt:Nat} {tmps:Array Value} (hsz:tmps.size=nt) {sl:List (Nat × AV)} (hsl:Qg M ι (lk sl) tmps) (ps:Array Tmp) (as bd:Code) (d:Nat) :
  Rel P B W0 D M (ι.put o ⟨W.heap.size,d,0,0⟩) (σ.put o (.loop nt sl ps.toList as bd .ready none)) (W.alloc (.loop { state:=.ready,pending:=none,fn,tmps,params:=ps,assign:=as,body:=bd,defers:=d })):=by
 have:=h.allocRec ho (fn:=fn) hsz hsl ps as bd d .ready none
 rwa [Qaq (by simp)] at this
theorem Rel.setLoop (h:Rel P B W0 D M ι σ W) {o:Nat} {nt:Nat} {sl:List (Nat × AV)} {ps:List Tmp} {as bd:Code} {st:LoopState} {pe:Option Code} {p:Place}
  (hσ:σ o=some (.loop nt sl ps as bd st pe)) (hp:ι o=some p) (hst:st≠.exhausted) (st':LoopState) (pe':Option Code) (hst':st'≠.exhausted) :
  ∃(tmps:Array Value) (fn:FuncId),tmps.size=nt∧W.heap[p.blk]?=some (.loop { state:=st,pending:=pe,fn,tmps,params:=ps.toArray,assign:=as,body:=bd,defers:=p.base })∧Qg M ι (lk sl) tmps ∧
   Rel P B W0 D M ι (σ.put o (.loop nt sl ps as bd st' pe')) (W.putObj p.blk (.loop { state:=st',pending:=pe',fn,tmps,params:=ps.toArray,assign:=as,body:=bd,defers:=p.base })):=by
 obtain ⟨q,fn,hq,hnt,hB,tmps,hsz,hrec,hsl⟩:=h.loop o nt sl ps as bd st pe hσ
 rw [hp] at hq; cases hq
 refine ⟨tmps,fn,hsz,by rw [hrec,Qaq hst],hsl,?_⟩
 have:=h.setRec hσ hp (x:=.loop nt sl ps as bd st' pe') (ob:=Qag { state:=st',pending:=pe',fn,tmps,params:=ps.toArray,assign:=as,body:=bd,defers:=p.base }) Qbi (.inr ⟨_,_,_,_,_,_,_,fn,tmps,rfl,rfl,hsz,hsl⟩)
 rw [Qaq hst'] at this
 exact this
theorem Rel.endLoop (h:Rel P B W0 D M ι σ W) {o:Nat} {nt:Nat} {sl:List (Nat × AV)} {ps:List Tmp} {as bd:Code} {st:LoopState} {pe:Option Code} {p:Place}
  (hσ:σ o=some (.loop nt sl ps as bd st pe)) (hp:ι o=some p) (hst:st≠.exhausted) :
  ∃(tmps:Array Value) (fn:FuncId),tmps.size=nt∧W.heap[p.blk]?=some (.loop { state:=st,pending:=pe,fn,tmps,params:=ps.toArray,assign:=as,body:=bd,defers:=p.base })∧Qg M ι (lk sl) tmps ∧
   Rel P B W0 D M ι (σ.put o .dead) (W.putObj p.blk (.loop { state:=.exhausted,pending:=pe,fn,tmps,params:=ps.toArray,assign:=as,body:=bd,defers:=p.base })):=by
 obtain ⟨q,fn,hq,hnt,hB,tmps,hsz,hrec,hsl⟩:=h.loop o nt sl ps as bd st pe hσ
 rw [hp] at hq; cases hq
 exact ⟨tmps,fn,hsz,by rw [hrec,Qaq hst],hsl,h.setRec hσ hp rfl (.inl rfl)⟩
end
end Go.Ab
namespace Go.Ab
open Go.RowKit
def Qsb (P:Program) (σ:Sto) (t:TypeId) (x:AV):Option AV :=
 match ti P t,x with
 | some T,.fz cs=>K6 T cs
 | some T,.ptr o i c=>match σ o with
  | some (.row _ _ _ _ _ xs)=>match xs[i]? with
   | some x=>K6 T (x.flat.drop c)
   | none=>none
  | _=>none
 | _,_=>none
noncomputable def Qun (P:Program) (st:St):ResultVar→Option AV
 | .tmp t=>lk st.slots t
 | .cell a t=>match lk st.slots a with
  | some x=>Qsb P (sto st.objs) t x
  | none=>none
noncomputable def Qir (P:Program) (st:St):List ResultVar→Option (List AV)
 | []=>some []
 | r::rs=>match Qun P st r,Qir P st rs with
  | some x,some xs=>some (x::xs)
  | _,_=>none
noncomputable def resultA (P:Program) (fn:Func) (st:St):Option AV :=
 match Qir P st fn.results.toList with
 | some [x]=>some x
 | some xs=>some (.tup xs)
 | none=>none
def Qoh:List Nat → List Nat → List Nat
 | acc,[]=>acc.reverse
 | acc,x::xs=>if acc.any fun y=>Nat.beq x y then Qoh acc xs else Qoh (x::acc) xs
def Qvv (st:St) (v:AV):Option (AV × List AObj) :=
 let ks:=Qoh [] v.ids
 if Qiu ks then match v.ren (fun k=>idx k 0 ks),Vn (fun k=>idx k 0 ks) st.objs ks with
  | some r,some os=>if os.all AObj.okRow then some (r,os) else none
  | _,_=>none else none
noncomputable def Qf0 (st:St) (v:AV):Option Z2 :=
 match Qvv st v with
 | some (r,os)=>some (.ret r os)
 | none=>match Qt (sto st.objs) Qn v with
  | some (r,_)=>some (.ret r [])
  | none=>none
def K4:Nat → List AV→List (Nat × AV)
 | _,[]=>[]
 | i,x::xs=>(i,x)::K4 (i+1) xs
theorem Qqn:∀(xs:List AV) (i t:Nat) (x:AV),lk (K4 i xs) t=some x→i≤t∧xs[t - i]?=some x
 | [],i,t,x,h=>by simp [K4,lk] at h
 | y::ys,i,t,x,h=>by
  simp only [K4,lk] at h
  split at h
  ·rename_i e; cases h; have:=Nat.eq_of_beq_eq_true e; subst this; simp
  ·obtain ⟨h1,h2⟩:=Qqn ys (i+1) t x h
   refine ⟨by omega,?_⟩
   rw [show t - i=(t - (i+1))+1 by omega]; simpa using h2
section
variable {P:Program} {B:Nat} {W0 W:World} {D D0 dl:List Nat} {M:CM} {ι:Inj} {σ:Sto} {st st':St} {a:Act}
theorem Qqx (h:Rel P B W0 D M ι σ W) {t:TypeId} {x y:AV} {u:Value} (hv:Qa M ι u x) (he:Qsb P σ t x=some y) :
  ∃p v,u=.pointer (some p)∧(loadVar t p).run P W=.ok v W∧Qa M ι v y:=by
 unfold Qsb at he
 split at he
 ·rename_i T cs hT
  cases hv with
  | fz b off cs f hcs hM hrr =>
  obtain ⟨v,h1,h2⟩:=Qbg (W:=W) (M:=M) (ι:=ι) hT he hcs (b:=b) (off:=off) (fun j y hy=>⟨f j,h.agree _ _ _ (hM j y hy),(hrr j y hy).mono (CM.le_refl _) (Inj.noInj_le _)⟩)
  exact ⟨_,v,rfl,h1,h2⟩
 ·rename_i T ob ii c hT
  split at he
  ·rename_i bx ro nr fl w xs hσ
   split at he
   ·rename_i z hz
    obtain ⟨p,hp,hrow⟩:=h.row _ _ _ _ _ _ _ hσ
    cases hv with
    | ptr _ _ _ p' hp' =>
    rw [hp] at hp'; cases hp'
    obtain ⟨v,h1,h2⟩:=Qbg (W:=W) (M:=M) (ι:=ι) hT he (fun q hq=>(hrow.shaped z (List.mem_of_getElem? hz)).cells q (List.mem_of_mem_drop hq)) (b:=p.blk) (off:=p.base+ii*p.w+c) (fun j q hq=>by
     rw [List.getElem?_drop] at hq
     obtain ⟨v,hv,hr⟩:=hrow.cells ii (c+j) z q hz hq
     refine ⟨v,?_,hr⟩
     rw [hrow.pw,show p.base+ii*w+c+j=p.base+ii*w+(c+j) by omega]; exact hv)
    exact ⟨_,v,rfl,h1,h2⟩
   ·cases he
  ·cases he
 ·cases he
def Qi8 (tmps:Array Value):ResultVar→Sem Value
 | .tmp t=>pure (tmps.getD t undef)
 | .cell a t=>do loadVar t (←asAddr (tmps.getD a undef))
theorem Qiq (h:Rel P B W0 D M ι (sto st.objs) W) {tmps:Array Value} (hs:Qg M ι (lk st.slots) tmps):∀(rs:List ResultVar) (xs:List AV),Qir P st rs=some xs →
  ∃vs:List Value,(rs.mapM (Qi8 tmps)).run P W=.ok vs W∧vs.length=xs.length∧∀(j:Nat) (v:Value) (x:AV),vs[j]?=some v→xs[j]?=some x→Qa M ι v x
 | [],xs,he=>by cases he; exact ⟨[],rfl,rfl,fun j v x hv=>by simp at hv⟩
 | r::rs,xs,he=>by
  simp only [Qir] at he
  split at he
  ·rename_i x xs' h1 h2
   cases he
   obtain ⟨vs,g1,g2,g3⟩:=Qiq h hs rs xs' h2
   have key:∃v,(Qi8 tmps r).run P W=.ok v W∧Qa M ι v x:=by
    cases r with
    | tmp t=>exact ⟨_,rfl,hs t x h1⟩
    | cell b t =>
     simp only [Qun] at h1
     split at h1
     ·rename_i y hy
      obtain ⟨p,v,e1,e2,e3⟩:=Qqx h (hs b y hy) h1
      exact ⟨v,by simp [Qi8,Sem.run_bind,e1,asAddr,e2],e3⟩
     ·cases h1
   obtain ⟨v,k1,k2⟩:=key
   refine ⟨v::vs,?_,by simp [g2],fun j u y hu hy=>?_⟩
   ·rw [List.mapM_cons]
    simp only [Sem.run_bind,Sem.run_pure]
    rw [k1]
    simp only [Result.andThen_ok]
    rw [g1]
    simp
   ·cases j with
    | zero=>simp at hu hy; subst hu; subst hy; exact k2
    | succ j=>exact g3 j u y (by simpa using hu) (by simpa using hy)
  ·cases he
theorem Qg7 (h:Rel P B W0 D M ι (sto st.objs) W) {tmps:Array Value} (hs:Qg M ι (lk st.slots) tmps) {fn:Func} {x:AV} (he:resultA P fn st=some x):∃v,(results fn tmps).run P W=.ok v W∧Qa M ι v x:=by
 unfold resultA at he
 have main:∀xs,Qir P st fn.results.toList=some xs→∃vs:Array Value,(results fn tmps).run P W=.ok (if h:vs.size=1 then vs[0] else .tuple vs) W∧vs.size=xs.length∧∀(j:Nat) (v:Value) (x:AV),vs[j]?=some v→xs[j]?=some x→Qa M ι v x:=by
  intro xs hx
  obtain ⟨vs,g1,g2,g3⟩:=Qiq h hs _ _ hx
  refine ⟨vs.toArray,?_,by simpa using g2,fun j v x hv hx=>g3 j v x (by simpa using hv) hx⟩
  show (do let vs ←fn.results.mapM (Qi8 tmps); pure (if h:vs.size=1 then vs[0] else .tuple vs):Sem Value).run P W=_
  rw [Array.mapM_eq_mapM_toList]
  simp [Sem.run_bind,g1]
 split at he
 ·rename_i y hy
  cases he
  obtain ⟨vs,g1,g2,g3⟩:=main _ hy
  have h1:vs.size=1:=by simpa using g2
  rw [dif_pos h1] at g1
  exact ⟨_,g1,g3 0 _ _ (Array.getElem?_eq_getElem (by omega)) rfl⟩
 ·rename_i xs hne hy
  cases he
  obtain ⟨vs,g1,g2,g3⟩:=main _ hy
  have h1:¬ vs.size=1:=fun e=>by
   rw [g2] at e
   cases xs with
   | nil=>simp at e
   | cons z zs=>cases zs with
    | nil=>exact hne z rfl
    | cons _ _=>simp at e
  rw [dif_neg h1] at g1
  exact ⟨_,g1,.tup _ _ g2 g3⟩
 ·cases he
theorem Qfu {F:Fence} {n:Nat} {fn:Func} {tmps:Array Value} {R:Ending→World→Prop} {u:FrameMode} (hu:u≠.run):∀(dl:List Nat) (W:World),Rel P B W0 (dl++D0) M ι σ W→(dl++D0).Nodup→(∀r∈dl,B≤r) →
  (∀W',Rel P B W0 D0 M ι σ W'→LeavesInM F n P fn tmps R [] u W')→LeavesInM F n P fn tmps R (dl.map mk) u W
 | [],W,h,_,_,hk=>hk W h
 | r::dl,W,h,hnd,hB,hk=>by
  refine ⟨hu,.inl ⟨r,_,rfl,run_takeDeferred (h.defs r (by simp)),?_⟩⟩
  exact Qfu hu dl _ (h.take hnd (hB r (by simp))) (List.nodup_cons.1 hnd).2 (fun q hq=>hB q (by simp [hq])) hk
theorem Qqu {x:AObj} (h:x.okRow=true):x.isPlain=true:=by cases x <;> simp_all [AObj.okRow,AObj.isPlain]
theorem Qn4 (h:Rel P B W0 [] M ι (sto st.objs) W) (hb:st.objs.length≤BIG) {v:Value} {x:AV} {out:Z2} (hv:Qa M ι v x) (he:Qf0 st x=some out) :
  ∃r os M' ι',out=.ret r os∧CM.Grow B M M'∧Rel P B W0 [] M' ι' (fun k=>os[k]?) W∧(∀k,os.length≤k→ι' k=none)∧Qa M' ι' v r:=by
 unfold Qf0 at he
 split at he
 ·rename_i r os hm
  unfold Qvv at hm
  simp only at hm
  split at hm
  ·rename_i hnd
   split at hm
   ·rename_i r' os' h1 h2
    split at hm
    ·rename_i hall
     cases hm
     cases he
     refine ⟨r,os,M,_,rfl,.refl _ _,h.gcP hb h2 (Qe5 hnd) (fun x hx=>Qqu (List.all_eq_true.1 hall x hx)),fun k hk=>?_,hv.ren (fun o o' p=>ιkeep_idx o o' p) h1⟩
     obtain ⟨l,_⟩:=Qcq h2
     simp [ιkeep,List.getElem?_eq_none (show (Qoh [] x.ids).length≤k by omega)]
    ·cases hm
   ·cases hm
  ·cases hm
 ·split at he
  ·rename_i r ids hsn
   cases he
   refine ⟨r,[],Zg M W (inC (sto st.objs) ι ids),noInj,rfl,h.growC ids,?_,fun _ _=>rfl,X4 h ids Qn x r ids v hsn (fun k hk=>hk) hv⟩
   exact ⟨h.size,h.below,h.defs,Qbh h.agree,fun o bx nr fl w xs p k ho=>(by simp at ho),fun o bx ro nr fl w xs ho=>(by simp at ho),fun o fn sl ps as bd st pe ho=>(by simp at ho),fun o o' bx nr fl w xs bx' nr' fl' w' xs' p p' _ ho=>(by simp at ho),fun o o' fn sl ps as bd st pe fn' sl' ps' as' bd' st' pe' p p' _ ho=>(by simp at ho),fun o _=>.inl (by simp)⟩
  ·cases he
theorem Qm4 (h:K9 M W):Rel P W.heap.size W [] M noInj (sto []) W:=by
 rw [Qzr]
 exact ⟨Nat.le_refl _,.refl _ _,fun r hr=>(by simp at hr),h,fun o bx nr fl w xs p k ho=>(by simp at ho),fun o bx ro nr fl w xs ho=>(by simp at ho),fun o fn sl ps as bd st pe ho=>(by simp at ho),fun o o' bx nr fl w xs bx' nr' fl' w' xs' p p' _ ho=>(by simp at ho),fun o o' fn sl ps as bd st pe fn' sl' ps' as' bd' st' pe' p p' _ ho=>(by simp at ho),fun o _=>.inl (by simp)⟩
def st0 (nt:Nat) (args:List AV):St:=⟨K4 0 args,[],nt⟩
theorem Qfd {vs:Array Value} {args:List AV} (nt:Nat) (hr:∀(j:Nat) (v:Value) (x:AV),vs[j]?=some v→args[j]?=some x→Qa M ι v x) (hl:vs.size=args.length) :
  Qg M ι (lk (K4 0 args)) (vs++Array.replicate (nt - vs.size) undef):=by
 intro t x ht
 obtain ⟨_,h2⟩:=Qqn _ _ _ _ ht
 simp only [Nat.sub_zero] at h2
 have hlt:t < vs.size:=by rw [hl]; exact (List.getElem?_eq_some_iff.1 h2).1
 rw [Array.getD_eq_getD_getElem?,Array.getElem?_append_left hlt,Array.getElem?_eq_getElem hlt]
 exact hr t _ x (Array.getElem?_eq_getElem hlt) h2
def Xq.ends:Xq→Bool
 | .normal | .ret=>true
 | _=>false
theorem callOk_exec {f:FuncId} {fn:Func} {c:Code} {args:List AV} {e:Xq} {x:AV} {out:Z2} (hf:P.funcs[f]?=some fn) (hb:fn.body=some c) (hle:args.length≤fn.ntmps)
  (h:Xa P none 0 c (st0 fn.ntmps args) (.go e st')) (hend:e.ends=true) (hr:resultA P fn st'=some x) (hx:Qf0 st' x=some out):Zb P f args out:=by
 intro W M vs hag hsz hrep
 refine callsIn_wide.1 (callsIn_of_wp_marks (F:=FW none) (n:=0) hf hb trivial ?_)
 refine h W.heap.size W [] [] M noInj _ W 0 _ none ⟨by simpa [st0] using Qm4 hag,Qfd fn.ntmps hrep hsz,by simp [st0]; omega,⟨rfl,fun r hr=>by simp at hr,List.nodup_nil⟩,fun _ _=>rfl,Nat.zero_le _⟩ rfl ⟨?_,fun v hv=>by cases hv⟩
 intro e' st'' he dl' M' ι' a' W' g1 g2 g3 g4
 cases he
 have hex:e.exit'=.normal∨e.exit'=.ret:=by cases e <;> simp_all [Xq.ends,Xq.exit']
 have cut:∀R,LeavesInM (FW none) 0 P fn a'.tmps R a'.defers .returning W'→bodyPostM (FW none) 0 P fn R e.exit' a' W':=fun R hR=>by
  rcases hex with e1 | e1 <;> rw [e1] <;> exact hR
 apply cut
 rw [g4.df.defs]
 refine Qfu (by simp) dl' W' g4.rel g4.df.nd g4.df.old (fun W2 h2=>?_)
 obtain ⟨v,k1,k2⟩:=Qg7 h2 g4.slots hr
 obtain ⟨r,os,M2,ι2,rfl,q1,q2,q3,q4⟩:=Qn4 h2 g4.big k2 hx
 exact ⟨v,k1,v,M2,ι2,rfl,g1.trans q1,q2,q3,q4⟩
theorem Qk9 {f:FuncId} {fn:Func} {c:Code} {args:List AV} {x:AV} (hf:P.funcs[f]?=some fn) (hb:fn.body=some c) (hle:args.length≤fn.ntmps)
  (h:Xa P none 0 c (st0 fn.ntmps args) (.pan x)):Zb P f args (.pan x):=by
 intro W M vs hag hsz hrep
 refine callsIn_wide.1 (callsIn_of_wp_marks (F:=FW none) (n:=0) hf hb trivial ?_)
 refine h W.heap.size W [] [] M noInj _ W 0 _ none ⟨by simpa [st0] using Qm4 hag,Qfd fn.ntmps hrep hsz,by simp [st0]; omega,⟨rfl,fun r hr=>by simp at hr,List.nodup_nil⟩,fun _ _=>rfl,Nat.zero_le _⟩ rfl ⟨fun e st he=>(by cases he),?_⟩
 intro v he dl' M' a' W' u g1 g2 g3 g4 g5
 cases he
 show LeavesInM (FW none) 0 P fn a'.tmps _ a'.defers (.panicking _) W'
 rw [g4.defs]
 exact Qfu (by simp) dl' W' g3 g4.nd g4.old (fun W2 h2=>⟨u,M',rfl,g1,h2,g5⟩)
end
end Go.Ab
namespace Go.Ab
open Go.RowKit
section
variable {P:Program} {B:Nat} {W0 W:World} {D D0 dl:List Nat} {M:CM} {ι:Inj} {σ:Sto} {st st':St} {a:Act} {rd:Option Nat} {base:Nat} {out:AOut} {o:Oper}
theorem Sim.le {ι':Inj} (h:Sim P B W0 D0 dl M ι st a W) (hl:Inj.leB st.objs.length ι ι'):ι.le ι':=by
 intro k p hk
 refine hl k p ?_ hk
 refine Classical.byContradiction fun e=>?_
 rw [h.new k e] at hk; cases hk
theorem Qxv {r:Option Nat} {n:Nat} {f:FuncId} {args:Array Value} {R:Ending→World→Prop} (h:CallsIn (FW none) 0 P f args W R):CallsIn (FW r) n P f args W R :=
 Qgd (callsIn_wide.1 h)
theorem Qh7 {f:FuncId} {fn:Func} {c:Code} {args:Array Value} {slots:List (Nat × AV)} {objs:List AObj} (hf:P.funcs[f]?=some fn) (hb:fn.body=some c)
  (h:Xa P none objs.length c ⟨slots,objs,fn.ntmps⟩ out)
  (hrel:Rel P B W0 (dl++D0) M ι (sto objs) W) (hnd:(dl++D0).Nodup) (hnew:∀k,¬ InB objs.length k→ι k=none) (hbig:objs.length≤BIG)
  (hsl:Qg M ι (lk slots) (args++Array.replicate (fn.ntmps - args.size) undef)) (hsz:args.size≤fn.ntmps) {r:Option Nat} {n:Nat} {R:Ending→World→Prop}
  (hret:∀e st' x,out=.go e st'→e.ends=true→resultA P fn st'=some x→∀v M' ι' W',CM.Grow B M M'→ι.le ι'→Rel P B W0 (dl++D0) M' ι' (sto st'.objs) W'→(∀k,¬ InB st'.objs.length k→ι' k=none)→st'.objs.length≤BIG→Qa M' ι' v x→R (.returned v) W')
  (hok:match out with | .go e st'=>e.ends=true∧(resultA P fn st').isSome=true | .pan _=>True)
  (hpan:∀x,out=.pan x→∀v M' W',CM.Grow B M M'→Rel P B W0 (dl++D0) M' noInj (fun _=>none) W'→Qa M' noInj v x→R (.panicked [{ v,recovered:=false }]) W') :
  CallsIn (FW r) n P f args W R:=by
 refine Qxv (callsIn_of_wp_marks (F:=FW none) (n:=0) hf hb trivial ?_)
 refine h B W0 (dl++D0) [] M ι _ W 0 _ none ⟨by simpa using hrel,hsl,by simp; omega,⟨rfl,fun r hr=>by simp at hr,by simpa using hnd⟩,hnew,hbig⟩ rfl ⟨?_,?_⟩
 ·intro e st' he dl' M' ι' a' W' g1 g2 g3 g4
  subst he
  obtain ⟨hends,hres⟩:=hok
  obtain ⟨x,hx⟩:=Option.isSome_iff_exists.1 hres
  have hle:ι.le ι':=by
   intro k p hk
   refine g2 k p (Classical.byContradiction fun e=>?_) hk
   rw [hnew k e] at hk; cases hk
  have hex:e.exit'=.normal∨e.exit'=.ret:=by cases e <;> simp_all [Xq.ends,Xq.exit']
  have cut:∀R,LeavesInM (FW none) 0 P fn a'.tmps R a'.defers .returning W'→bodyPostM (FW none) 0 P fn R e.exit' a' W':=fun R hR=>by
   rcases hex with e1 | e1 <;> rw [e1] <;> exact hR
  apply cut
  rw [g4.df.defs]
  refine Qfu (by simp) dl' W' g4.rel g4.df.nd g4.df.old (fun W2 h2=>?_)
  obtain ⟨v,k1,k2⟩:=Qg7 h2 g4.slots hx
  exact ⟨v,k1,hret e st' x rfl hends hx v M' ι' W2 g1 hle h2 g4.new g4.big k2⟩
 ·intro x he dl' M' a' W' u g1 g2 g3 g4 g5
  subst he
  show LeavesInM (FW none) 0 P fn a'.tmps _ a'.defers (.panicking _) W'
  rw [g4.defs]
  exact Qfu (by simp) dl' W' g3 g4.nd g4.old (fun W2 h2=>hpan x rfl u M' W2 g1 h2 g5)
theorem Qlm {first' caps':Array Value} {first caps as:List AV} {vs:Array Value} (h1:first'.size=first.length) (h2:caps'.size=caps.length) (h3:vs.size=as.length)
  (k1:∀(j:Nat) (v:Value) (y:AV),first'[j]?=some v→first[j]?=some y→Qa M ι v y) (k3:∀(j:Nat) (v:Value) (y:AV),vs[j]?=some v→as[j]?=some y→Qa M ι v y)
  (k2:∀(j:Nat) (v:Value) (y:AV),caps'[j]?=some v→caps[j]?=some y→Qa M ι v y) (nt:Nat) :
  Qg M ι (lk (K4 0 (first++as++caps))) ((first'++vs++caps')++Array.replicate (nt - (first'++vs++caps').size) undef) :=
 Qfd nt (Qj1 h1 h3 h2 k1 k3 k2) (by simp [h1,h2,h3])
theorem Qtb {g:Operand} {args:Array Operand} {ts:Array TypeId} {f:FuncId} {fn:Func} {c:Code} {first caps as:List AV} {e:Xq} {x:AV} {slots:List (Nat × AV)}
  (ho:o.op=.call { callee:=.value g,args,argTypes:=ts }) (hg:evo (lk st.slots) g=some (.fn (.func f) first caps)) (has:Ja (lk st.slots) args.toList=some as)
  (hf:P.funcs[f]?=some fn) (hb:fn.body=some c) (hn:(fn.name == "runtime.NumGoroutine")=false) (hle:(first++as++caps).length≤fn.ntmps)
  (h:Xa P none st.objs.length c ⟨K4 0 (first++as++caps),st.objs,fn.ntmps⟩ (.go e st')) (hend:e.ends=true) (hr:resultA P fn st'=some x) (hput:Y9 st.slots st.nt o.dst (some x)=some slots) :
  OpX P rd base o st (.go .normal ⟨slots,st'.objs,st.nt⟩):=by
 intro B W0 D0 dl M ι a W n Q r hs hr' hp
 have hgv:=Qe hs.slots hg
 generalize hgu:a.eval g=gu at hgv
 cases hgv with
 | fn _ first' caps' _ _ hy hm h1 h2 hr1 hr2 =>
 obtain ⟨l1,e1⟩:=Vo hs.slots has
 refine ⟨fun _ _=>trivial,?_⟩
 rw [Oper.semAt_eq _ _ _ (by rw [ho]; simp)]
 have hrun:(execOp a.eval o).run P W=.ok (.enter f (first'++args.map a.eval++caps')) W:=by
  simp only [execOp,ho,resolve,hgu,Deferred.ofValue,Sem.run_bind,Sem.run_pure,Result.andThen_ok,invoke]
  exact Jo hf (by rw [hb]; rfl) hn _ W
 rw [hrun,Oper.uponIn_enter]
 refine ⟨fun hd=>by simp [FW,Fence.wide] at hd,Qh7 hf hb h hs.rel hs.df.nd hs.new hs.big ?_ ?_ ?_ ⟨hend,by rw [hr]; rfl⟩ (fun x hx=>by cases hx)⟩
 ·exact Qlm h1 h2 (by simpa using l1.symm) hr1 (fun j v y hv hy=>by
   simp only [Array.getElem?_map,Option.map_eq_some_iff] at hv
   obtain ⟨w,hw,rfl⟩:=hv
   exact (e1 j w y (by simpa using hw) hy).2) hr2 _
 ·have:(first++as++caps).length=(first'++args.map a.eval++caps').size:=by simp [h1,h2,l1]
  omega
 ·intro e' st'' x' he hends hx v M' ι' W' g1 g2 g3 g4 g4b g5
  cases he
  rw [hr] at hx
  cases hx
  obtain ⟨k1,k2,k3⟩:=Kt (u:=v) (hs.slots.mono g1.le g2) hs.nt hput (fun y hy=>by cases hy; exact g5)
  exact hp.go .normal _ rfl dl M' ι' _ W' g1 (g2.leB base) (List.suffix_refl _) ⟨g3,k1,k2,hs.df.put,g4,g4b⟩
def Qi4:List (Nat × AV)→List Tmp→List AV→List (Nat × AV)
 | s,t::ts,x::xs=>Qi4 (setS s t x) ts xs
 | s,_,_=>s
theorem Qom:∀(ps:List Tmp) (as:List AV) (vs:List Value) (s:List (Nat × AV)) (tmps:Array Value),vs.length=as.length→(∀(j:Nat) (v:Value) (y:AV),vs[j]?=some v→as[j]?=some y→Qa M ι v y) →
  (∀t∈ps,t < tmps.size)→Qg M ι (lk s) tmps→Qg M ι (lk (Qi4 s ps as)) ((ps.zip vs).foldl (fun tmps (t,a)=>tmps.setIfInBounds t a) tmps)∧((ps.zip vs).foldl (fun tmps (t,a)=>tmps.setIfInBounds t a) tmps).size=tmps.size
 | [],as,vs,s,tmps,_,_,_,hs=>by cases as <;> exact ⟨hs,rfl⟩
 | t::ts,[],[],s,tmps,_,_,_,hs=>⟨hs,rfl⟩
 | t::ts,x::xs,v::vs,s,tmps,hl,hr,hlt,hs=>by
  simp only [Qi4,List.zip_cons_cons,List.foldl_cons]
  have h0:Qg M ι (lk (setS s t x)) (tmps.setIfInBounds t v):=by
   intro k y hk
   rw [Qdp] at hk
   by_cases e:t=k
   ·subst e
    rw [if_pos rfl] at hk; cases hk
    rw [Array.getD_eq_getD_getElem?]
    simp [hlt t (by simp)]
    exact hr 0 v x rfl rfl
   ·rw [if_neg e] at hk
    rw [Array.getD_eq_getD_getElem?,Array.getElem?_setIfInBounds_ne e,←Array.getD_eq_getD_getElem?]
    exact hs k y hk
  obtain ⟨h1,h2⟩:=Qom ts xs vs (setS s t x) (tmps.setIfInBounds t v) (by simpa using hl) (fun j u y hu hy=>hr (j+1) u y (by simpa using hu) (by simpa using hy)) (fun q hq=>by simp; exact hlt q (by simp [hq])) h0
  exact ⟨h1,by rw [h2]; simp⟩
def Xq.pend:Xq→Option Code
 | .normal=>none
 | .ret=>some .ret
 | .exit id=>some (.exit id)
 | .goto l=>some (.goto l)
theorem Qvo {ps:List Tmp} {vs:Array Value} {tmps:Array Value}:(ps.toArray.zip vs).foldl (fun tmps (x:Tmp × Value)=>tmps.setIfInBounds x.1 x.2) tmps=(ps.zip vs.toList).foldl (fun tmps (x:Tmp × Value)=>tmps.setIfInBounds x.1 x.2) tmps:=by
 rw [←Array.foldl_toList]
 simp
theorem Qvi {g:Operand} {args:Array Operand} {ts:Array TypeId} {l nt nt2:Nat} {as:List AV} {sl sl2:List (Nat × AV)} {ps ps2:List Tmp} {assign body as2 bd2:Code} {pe pe2:Option Code} {slA slots:List (Nat × AV)} {objsA:List AObj} {e:Xq}
  {slL psL asL bdL peL} {ntL:Nat}
  (ho:o.op=.call { callee:=.value g,args,argTypes:=ts }) (hg:evo (lk st.slots) g=some (.yld l)) (has:Ja (lk st.slots) args.toList=some as)
  (hl:st.objs[l]?=some (.loop nt sl ps assign body .ready pe)) (hlen:as.length=ps.length) (hps:∀t∈ps,t < nt)
  (hA:Xa P (some l) st.objs.length assign ⟨Qi4 sl ps as,st.objs,nt⟩ (.go .normal ⟨slA,objsA,nt⟩))
  (hlA:objsA[l]?=some (.loop ntL slL psL asL bdL .ready peL))
  (hB:Xa P (some l) st.objs.length body ⟨slA,objsA.set l (.loop ntL slL psL asL bdL .busy peL),nt⟩ (.go e st'))
  (hlB:st'.objs[l]?=some (.loop nt2 sl2 ps2 as2 bd2 .busy pe2))
  (hput:Y9 st.slots st.nt o.dst (some (.bool e.pend.isNone))=some slots) :
  OpX P rd base o st (.go .normal ⟨slots,st'.objs.set l (.loop nt2 sl2 ps2 as2 bd2 (if e.pend.isNone then .ready else .done) e.pend),st.nt⟩):=by
 intro B W0 D0 dl M ι a W n Q r hs hr' hp
 have hgv:=Qe hs.slots hg
 generalize hgu:a.eval g=gu at hgv
 cases hgv with
 | yld _ p hpl =>
 obtain ⟨l1,e1⟩:=Vo hs.slots has
 obtain ⟨p',fnc,hp',_,hB0,tmps,hsz,hrec,hsl⟩:=hs.rel.loop l nt sl ps assign body .ready pe (by rw [Zh (Nat.lt_of_lt_of_le (List.getElem?_eq_some_iff.1 hl).1 hs.big),hl]; rfl)
 rw [Qaq (by simp)] at hrec
 rw [hpl] at hp'; cases hp'
 refine ⟨fun _ _=>trivial,?_⟩
 rw [Oper.semAt_eq _ _ _ (by rw [ho]; simp)]
 have hrun:(execOp a.eval o).run P W=(Instr.yield p.blk (args.map a.eval)).run P W:=by
  simp [execOp,ho,resolve,hgu,Deferred.ofValue,Sem.run_bind,Sem.run_pure,Result.andThen_ok,invoke]
 rw [hrun,run_yield hrec (by simp; rw [←hlen,←Array.length_toList]; exact l1.symm)]
 rw [Oper.uponIn_round]
 refine ⟨fun hd=>by simp [FW,Fence.wide] at hd,roundIn_of_wpIn trivial ?_⟩
 have hvals:∀(j:Nat) (v:Value) (y:AV),(args.map a.eval).toList[j]?=some v→as[j]?=some y→Qa M ι v y:=fun j v y hv hy=>by
  simp only [Array.toList_map,List.getElem?_map,Option.map_eq_some_iff] at hv
  obtain ⟨w,hw,rfl⟩:=hv
  exact (e1 j w y hw hy).2
 have htm:=Qom (M:=M) (ι:=ι) ps as (args.map a.eval).toList sl tmps (by simp [l1]) hvals (fun t ht=>by rw [hsz]; exact hps t ht) hsl
 rw [←Qvo] at htm
 have hround:V3 ι (some l) (some p.blk) st.objs.length:=⟨(List.getElem?_eq_some_iff.1 hl).1,p,hpl,rfl⟩
 refine hA B W0 (dl++D0) [] M ι _ W _ _ (some p.blk) ⟨by simpa using hs.rel,htm.1,by rw [htm.2,hsz],⟨rfl,fun r hr=>by simp at hr,by simpa using hs.df.nd⟩,hs.new,hs.big⟩ hround ⟨?_,fun v hv=>by cases hv⟩
 intro eA stA he dlA MA ιA aA WA g1 g2 g3 g4
 cases he
 have hlB0:l < BIG:=Nat.lt_of_lt_of_le (List.getElem?_eq_some_iff.1 hl).1 hs.big
 have hιA:ιA l=some p:=g2 l p (.inl hround.1) hpl
 obtain ⟨tmA,fnA,hszA,hrecA,hslA,hrelA⟩:=g4.rel.setLoop (by rw [Zh hlB0,hlA]; rfl) hιA (by simp) .busy peL (by simp)
 refine ⟨_,run_beginRound hrecA rfl,?_⟩
 have hroundA:V3 ιA (some l) (some p.blk) st.objs.length:=hround.mono g2
 refine hB B W0 (dl++D0) dlA MA ιA aA _ _ _ (some p.blk) ⟨by rw [Qb5 hlA rfl rfl hlB0]; exact hrelA,g4.slots,g4.nt,g4.df,fun k hk=>g4.new k (by simpa using hk),by simpa using g4.big⟩ hroundA ⟨?_,fun v hv=>by cases hv⟩
 intro eB stB he dlB MB ιB aB WB k1 k2 k3 k4
 cases he
 have hιB:ιB l=some p:=k2 l p (.inl hround.1) hιA
 obtain ⟨tmB,fnB,hszB,hrecB,hslB,hrelB⟩:=k4.rel.setLoop (by rw [Zh hlB0,hlB]; rfl) hιB (by simp) (if e.pend.isNone then .ready else .done) e.pend (by split <;> simp)
 have hle:ι.le ιB:=fun k q hk=>by
  have hkl:InB st.objs.length k:=Classical.byContradiction fun e=>by rw [hs.new k e] at hk; cases hk
  exact k2 k q hkl (g2 k q hkl hk)
 have hrelB':Rel P B W0 (dl++D0) MB ιB (sto (st'.objs.set l (.loop nt2 sl2 ps2 as2 bd2 (if e.pend.isNone then .ready else .done) e.pend))) (WB.putObj p.blk (.loop { state:=if e.pend.isNone then .ready else .done,pending:=e.pend,fn:=fnB,tmps:=tmB,params:=ps2.toArray,assign:=as2,body:=bd2,defers:=p.base })):=by
  rw [Qb5 hlB rfl rfl hlB0]; exact hrelB.mem (fun r hr=>List.mem_append.2 (.inr hr))
 have fin:∀v,v=Value.bool e.pend.isNone→Q .normal (a.put o.dst v) (WB.putObj p.blk (.loop { state:=if e.pend.isNone then .ready else .done,pending:=e.pend,fn:=fnB,tmps:=tmB,params:=ps2.toArray,assign:=as2,body:=bd2,defers:=p.base })):=by
  intro v hv
  obtain ⟨q1,q2,q3⟩:=Kt (u:=v) (hs.slots.mono (g1.trans k1).le hle) hs.nt hput (fun y hy=>by cases hy; rw [hv]; exact .bool _)
  exact hp.go .normal _ rfl dl MB ιB _ _ (g1.trans k1) (hle.leB base) (List.suffix_refl _) ⟨hrelB',q1,q2,hs.df.put,fun k hk=>k4.new k (by simpa using hk),by simpa using k4.big⟩
 cases e with
 | normal=>exact ⟨_,_,run_endRound none hrecB,fin _ rfl⟩
 | ret=>exact ⟨_,_,run_endRound (some .ret) hrecB,fin _ rfl⟩
 | exit id=>exact ⟨_,_,run_endRound (some (.exit id)) hrecB,fin _ rfl⟩
 | goto l=>exact ⟨_,_,run_endRound (some (.goto l)) hrecB,fin _ rfl⟩
end
end Go.Ab
