/- Rules. No conditions. -/
import Derived.Test.YtgogkahhifkocaaDoorEng3
import Derived.Test.YtgogkahhifkocaaDoorEng1
import Derived.LoopNIn
import Derived.Scope
import Derived.RangeFuncNested
set_option linter.all false
namespace Go.Ab
open Go.RowKit
def Zq:Op->Bool
 | .panic _=>true
 | .call { callee:=.value _,.. }=>true
 | _=>false
def Zi:Option J9->Option J9
 | some (.val r)=>some (.val r)
 | _=>none
def Ze (P:Program) (nf:Bool) (C:FuncId->List AV->Option Xk) (σ:Sto) (fr:Nat) (s:Slots) (o:Oper):Option J9 :=
 if Zq o.op then evalOp P nf C σ fr s o else Zi (evalOp P nf C σ fr s o)
section
variable {P:Program} {nf:Bool} {C:FuncId->List AV->Option Xk} {B:Nat} {W0 W W':World} {D:List Nat} {M:CM} {ι:Inj} {σ:Sto} {s:Slots} {a:Act} {fr:Nat} {o:Oper} {res:Res}
theorem Qxb {r:Option Nat} {n:Nat} {next:Act->World->Prop} {Q:Exit->Act->World->Prop} (hd:Zc P B W0 D M ι σ fr a o W res) (hnd:∀c,o.op≠.defer c) (hp:Qpd P B W0 D M ι σ fr a o next Q (.val res)):o.wpIn (FW r) n P a W next Q:=by
 obtain ⟨v,W1,M1,ι1,hrun,k1,k2,k3,k4,k5⟩:=hd
 refine ⟨fun _ _=>trivial,?_⟩
 rw [Oper.semAt_eq _ _ _ hnd]
 have hn:=hp.val res rfl v W1 M1 ι1 k1 k2 k3 k4 k5
 rcases hrun with e | ⟨e,rfl⟩
 ·rw [e,Oper.uponIn_value]; exact hn
 rw [e,Oper.uponIn_skip]; exact hn
theorem Qwv (h:Rel P B W0 D M ι σ W) (hs:Ql M ι s a.tmps) {x:Operand} (ho:o.op=.panic x) {out:J9} (he:evalOp P nf C σ fr s o=some out) {r:Option Nat} {n:Nat} {next:Act->World->Prop} {Q:Exit->Act->World->Prop}
  (hp:Qpd P B W0 D M ι σ fr a o next Q out):o.wpIn (FW r) n P a W next Q:=by
 unfold evalOp at he
 rw [ho] at he
 simp only at he
 split at he
 ·rename_i t v hx
  split at he
  ·rename_i w hsn
   cases he
   have hv:=Qg hs hx
   have hw:=Yv h [] Qo _ w [] _ hsn (fun k hk=>hk) hv
   refine ⟨fun _ _=>trivial,?_⟩
   rw [Oper.semAt_eq _ _ _ (by rw [ho]; simp)]
   have hrun:(execOp a.eval o).run P W=.halt (.panic (a.eval x)) W:=by
    generalize hu:a.eval x=u at hv
    cases hv
    simp [execOp,ho,hu,Instr.panic]
   rw [hrun,Oper.uponIn_panic]
   exact hp.pan _ rfl _ W M (.refl _ _) h.empty (hw.mono (Qvd h) (Inj.le_refl _))
  ·cases he
 ·cases he
theorem Q2s (hC:Qj9 P C) (h:Rel P B W0 D M ι σ W) (hs:Ql M ι s a.tmps) {out:J9} (he0:Ze P nf C σ fr s o=some out) (hfr:∀res,out=.val res->∀k,fr<=k->k < res.fr->ι k=none)
  {r:Option Nat} {n:Nat} {next:Act->World->Prop} {Q:Exit->Act->World->Prop} (hp:Qpd P B W0 D M ι σ fr a o next Q out):o.wpIn (FW r) n P a W next Q:=by
 have pure:Zq o.op=false->(∀res,evalOp P nf C σ fr s o=some (.val res)->(∀k,fr<=k->k < res.fr->ι k=none)->Zc P B W0 D M ι σ fr a o W res)->(∀c,o.op≠.defer c)->o.wpIn (FW r) n P a W next Q:=by
  intro hm hd hnd
  unfold Ze at he0
  rw [hm] at he0
  simp only [aT,eJ] at he0
  unfold Zi at he0
  split at he0
  ·rename_i res he
   cases he0
   exact Qxb (hd res he (hfr res rfl)) hnd hp
  cases he0
 have he:Zq o.op=true->evalOp P nf C σ fr s o=some out:=fun hm=>by
  unfold Ze at he0
  rw [hm] at he0
  exact he0
 cases ho:o.op with
 | move x=>exact pure (by rw [ho]; rfl) (fun res he _=>Qq6 h hs (.inl ho) he) (by rw [ho]; simp)
 | assign x=>exact pure (by rw [ho]; rfl) (fun res he _=>Qq6 h hs (.inr ho) he) (by rw [ho]; simp)
 | pick c x y=>exact pure (by rw [ho]; rfl) (fun res he _=>Qyn h hs ho he) (by rw [ho]; simp)
 | alloc t=>exact pure (by rw [ho]; rfl) (fun res he hf=>Qxw h hf ho he) (by rw [ho]; simp)
 | box t x=>exact pure (by rw [ho]; rfl) (fun res he hf=>Q1t h hs hf ho he) (by rw [ho]; simp)
 | build t ps=>exact pure (by rw [ho]; rfl) (fun res he _=>Qwx h hs ho he) (by rw [ho]; simp)
 | buildSlice t k ps=>exact pure (by rw [ho]; rfl) (fun res he hf=>Qof h hs hf ho he) (by rw [ho]; simp)
 | load t x=>exact pure (by rw [ho]; rfl) (fun res he _=>Qzd h hs ho he) (by rw [ho]; simp)
 | store t x y=>exact pure (by rw [ho]; rfl) (fun res he _=>Qw0 h hs ho he) (by rw [ho]; simp)
 | nilCheck x=>exact pure (by rw [ho]; rfl) (fun res he _=>Qrr h hs ho he) (by rw [ho]; simp)
 | binOp op t x y u=>exact pure (by rw [ho]; rfl) (fun res he _=>Qxq h hs ho he) (by rw [ho]; simp)
 | unOp op t x=>exact pure (by rw [ho]; rfl) (fun res he _=>Q0a h hs ho he) (by rw [ho]; simp)
 | convert u t x=>exact pure (by rw [ho]; rfl) (fun res he _=>Qua h hs ho he) (by rw [ho]; simp)
 | makeFunc f x y=>exact pure (by rw [ho]; rfl) (fun res he _=>Qrx h hs ho he) (by rw [ho]; simp)
 | makeSlice t x y=>exact pure (by rw [ho]; rfl) (fun res he hf=>Qqd h hs hf ho he) (by rw [ho]; simp)
 | slice t x lo hi mx=>exact pure (by rw [ho]; rfl) (fun res he _=>Qxu h hs ho he) (by rw [ho]; simp)
 | fieldAddr t x f=>exact pure (by rw [ho]; rfl) (fun res he _=>Qqo h hs ho he) (by rw [ho]; simp)
 | field t x f=>exact pure (by rw [ho]; rfl) (fun res he _=>Qwy h hs ho he) (by rw [ho]; simp)
 | indexAddr t x y=>exact pure (by rw [ho]; rfl) (fun res he _=>Qp1 h hs ho he) (by rw [ho]; simp)
 | index t x y=>exact pure (by rw [ho]; rfl) (fun res he _=>Qxm h hs ho he) (by rw [ho]; simp)
 | makeMap t r=>exact pure (by rw [ho]; rfl) (fun res he hf=>Qtc h hf ho he) (by rw [ho]; simp)
 | lookup t x y c=>exact pure (by rw [ho]; rfl) (fun res he _=>Quy h hs ho he) (by rw [ho]; simp)
 | mapUpdate t m x y=>exact pure (by rw [ho]; rfl) (fun res he _=>Qit h hs (.inl ho) he) (by rw [ho]; simp)
 | insert t m x y=>exact pure (by rw [ho]; rfl) (fun res he _=>Qit h hs (.inr ho) he) (by rw [ho]; simp)
 | mapEntry t m x=>exact pure (by rw [ho]; rfl) (fun res he _=>Qr4 h hs ho he) (by rw [ho]; simp)
 | entryStore t m x y=>exact pure (by rw [ho]; rfl) (fun res he _=>Qpc h hs ho he) (by rw [ho]; simp)
 | extract x i=>exact pure (by rw [ho]; rfl) (fun res he _=>Qt9 h hs ho he) (by rw [ho]; simp)
 | panic x=>exact Qwv h hs ho (he (by rw [ho]; rfl)) hp
 | call c =>
  obtain ⟨cal,args,ts⟩:=c
  cases cal with
  | value g=>exact Qx9 hC h hs ho (he (by rw [ho]; rfl)) hfr hp
  | invoke g m=>exact pure (by rw [ho]; rfl) (fun res he _=>by unfold evalOp at he; rw [ho] at he; cases he) (by rw [ho]; simp)
  | builtin b =>
   cases b with
   | len=>exact pure (by rw [ho]; rfl) (fun res he _=>Q2d h hs ho he) (by rw [ho]; simp)
   | cap=>exact pure (by rw [ho]; rfl) (fun res he _=>Q2g h hs ho he) (by rw [ho]; simp)
   | append=>exact pure (by rw [ho]; rfl) (fun res he hf=>Qu7 h hs hf ho he) (by rw [ho]; simp)
   | copy=>exact pure (by rw [ho]; rfl) (fun res he _=>Qz1 h hs ho he) (by rw [ho]; simp)
   | min=>exact pure (by rw [ho]; rfl) (fun res he _=>Qm4 h hs (.inl rfl) ho he) (by rw [ho]; simp)
   | max=>exact pure (by rw [ho]; rfl) (fun res he _=>Qm4 h hs (.inr rfl) ho he) (by rw [ho]; simp)
   | _=>exact pure (by rw [ho]; rfl) (fun res he _=>by unfold evalOp at he; rw [ho] at he; cases he) (by rw [ho]; simp)
 | defer c=>unfold Ze evalOp at he0; rw [ho] at he0; cases he0
 | _=>exact pure (by rw [ho]; rfl) (fun res he _=>by unfold evalOp at he; rw [ho] at he; cases he) (by rw [ho]; simp)
end
end Go.Ab
namespace Go.Ab
open Go.RowKit
structure St where
 slots:List (Nat × AV)
 objs:List AObj
 nt:Nat
 deriving Inhabited
inductive Xo where
 | normal | exit (id:Nat) | ret | goto (l:Nat)
 deriving DecidableEq,Inhabited
inductive AOut where
 | go (e:Xo) (st:St)
 | pan (v:AV)
 deriving Inhabited
def Xo.exit':Xo->Exit
 | .normal=>.normal
 | .exit id=>.exit id
 | .ret=>.ret
 | .goto l=>.goto l
def mk (r:Nat):Deferred:={ target:=.collected r,args:=#[] }
def Inj.leB (base:Nat) (ι ι':Inj):Prop:=∀k p,InB base k->ι k=some p->ι' k=some p
theorem Inj.le.leB {ι ι':Inj} (h:ι.le ι') (base:Nat):Inj.leB base ι ι':=fun k p _ hk=>h k p hk
theorem Inj.leB.refl (base:Nat) (ι:Inj):Inj.leB base ι ι:=fun _ _ _ h=>h
theorem Inj.leB.trans {base:Nat} {ι ι' ι'':Inj} (h:Inj.leB base ι ι') (k:Inj.leB base ι' ι''):Inj.leB base ι ι'':=fun o p ho hp=>k o p ho (h o p ho hp)
structure Qpp (B:Nat) (D0 dl:List Nat) (a:Act):Prop where
 defs:a.defers=dl.map mk
 old:∀r∈dl,B<=r
 nd:(dl++D0).Nodup
structure Sim (P:Program) (B:Nat) (W0:World) (D0 dl:List Nat) (M:CM) (ι:Inj) (st:St) (a:Act) (W:World):Prop where
 rel:Rel P B W0 (dl++D0) M ι (sto st.objs) W
 slots:Ql M ι (lk st.slots) a.tmps
 nt:a.tmps.size=st.nt
 df:Qpp B D0 dl a
 new:∀k,¬ InB st.objs.length k->ι k=none
 big:st.objs.length<=BIG
def Ke (ι:Inj) (rd:Option Nat) (r:Option Nat) (base:Nat):Prop :=
 match rd with
 | none=>r=none
 | some o=>o < base/\∃p,ι o=some p/\r=some p.blk
structure Qhu (P:Program) (base B:Nat) (W0:World) (D0:List Nat) (M:CM) (ι:Inj) (dl:List Nat) (Q:Exit->Act->World->Prop) (out:AOut):Prop where
 go:∀e st,out=.go e st->∀dl' M' ι' a' W',CM.Grow B M M'->Inj.leB base ι ι'->dl <:+ dl'->Sim P B W0 D0 dl' M' ι' st a' W'->Q e.exit' a' W'
 pan:∀v,out=.pan v->∀dl' M' a' W' x,CM.Grow B M M'->dl <:+ dl'->Rel P B W0 (dl'++D0) M' noInj (fun _=>none) W'->Qpp B D0 dl' a'->Qa M' noInj x v->Q (.panic [{ v:=x,recovered:=false }]) a' W'
def Xi (P:Program) (rd:Option Nat) (base:Nat) (c:Code) (st:St) (out:AOut):Prop :=
 ∀B W0 D0 dl M ι a W n Q r,Sim P B W0 D0 dl M ι st a W->Ke ι rd r base->Qhu P base B W0 D0 M ι dl Q out->c.wpIn (FW r) n P Q a W
def OpX (P:Program) (rd:Option Nat) (base:Nat) (o:Oper) (st:St) (out:AOut):Prop :=
 ∀B W0 D0 dl M ι a W n Q r,Sim P B W0 D0 dl M ι st a W->Ke ι rd r base->Qhu P base B W0 D0 M ι dl Q out->o.wpIn (FW r) n P a W (Q .normal) Q
def Qb6 (P:Program) (rd:Option Nat) (base:Nat) (ops:Array Oper) (l:List Nat) (st:St) (out:AOut):Prop :=
 ∀B W0 D0 dl M ι a W n Q r,Sim P B W0 D0 dl M ι st a W->Ke ι rd r base->Qhu P base B W0 D0 M ι dl Q out->wpOpsIn (FW r) n P ops Q l a W
def Qja (P:Program) (rd:Option Nat) (base:Nat) (c:Code) (st:St) (out:AOut):Prop :=
 ∃m,∀B W0 D0 dl M ι a W n Q r,Sim P B W0 D0 dl M ι st a W->Ke ι rd r base->Qhu P base B W0 D0 M ι dl Q out->Code.roundsIn (FW r) n P c Q m a W
def AOut.normal:AOut->Bool
 | .go .normal _=>true
 | _=>false
def AOut.inBlock (id:Nat):AOut->AOut
 | .go (.exit i) st=>if Nat.beq i id then .go .normal st else .go (.exit i) st
 | out=>out
section
variable {P:Program} {rd:Option Nat} {base:Nat} {c x y:Code} {st st1 st2:St} {out:AOut} {B:Nat} {W0 W:World} {D0 dl dl1:List Nat} {M M1:CM} {ι ι1:Inj} {Q:Exit->Act->World->Prop} {a:Act} {r:Option Nat}
theorem Ke.mono (h:Ke ι rd r base) (hι:Inj.leB base ι ι1):Ke ι1 rd r base:=by
 unfold Ke at *
 cases rd with
 | none=>exact h
 | some o=>obtain ⟨h1,p,h2,h3⟩:=h; exact ⟨h1,p,hι _ _ (.inl h1) h2,h3⟩
theorem Qhu.step (h:Qhu P base B W0 D0 M ι dl Q out) (hM:CM.Grow B M M1) (hι:Inj.leB base ι ι1) (hd:dl <:+ dl1):Qhu P base B W0 D0 M1 ι1 dl1 Q out :=
 ⟨fun e st he dl' M' ι' a' W' h1 h2 h3 h4=>h.go e st he dl' M' ι' a' W' (hM.trans h1) (hι.trans h2) (hd.trans h3) h4,
 fun v he dl' M' a' W' x h1 h2 h3 h4 h5=>h.pan v he dl' M' a' W' x (hM.trans h1) (hd.trans h2) h3 h4 h5⟩
theorem Qhu.here {e:Xo} (h:Qhu P base B W0 D0 M ι dl Q (.go e st)) (hs:Sim P B W0 D0 dl M ι st a W):Q e.exit' a W :=
 h.go _ _ rfl dl M ι a W (.refl _ _) (.refl _ _) (List.suffix_refl _) hs
theorem Qyq:Xi P rd base .skip st (.go .normal st):=fun B W0 D0 dl M ι a W n Q r hs hr hp=>wpIn_skip (hp.here hs)
theorem Qya {l:Nat}:Xi P rd base (.label l) st (.go .normal st):=fun B W0 D0 dl M ι a W n Q r hs hr hp=>wpIn_label (hp.here hs)
theorem Qy5 {id:Nat}:Xi P rd base (.exit id) st (.go (.exit id) st):=fun B W0 D0 dl M ι a W n Q r hs hr hp=>wpIn_exit (hp.here hs)
theorem Q0o {l:Nat}:Xi P rd base (.goto l) st (.go (.goto l) st):=fun B W0 D0 dl M ι a W n Q r hs hr hp=>wpIn_goto (hp.here hs)
theorem Q02:Xi P rd base .ret st (.go .ret st):=fun B W0 D0 dl M ι a W n Q r hs hr hp=>wpIn_ret (hp.here hs)
theorem exec_seq (h1:Xi P rd base x st (.go .normal st1)) (h2:Xi P rd base y st1 out):Xi P rd base (.seq x y) st out:=by
 intro B W0 D0 dl M ι a W n Q r hs hr hp
 refine wpIn_seq (h1 B W0 D0 dl M ι a W n _ r hs hr ⟨fun e st' he dl' M' ι' a' W' g1 g2 g3 g4=>?_,fun v he=>by cases he⟩)
 cases he
 exact h2 B W0 D0 dl' M' ι' a' W' n Q r g4 (hr.mono g2) (hp.step g1 g2 g3)
theorem Qcu (h1:Xi P rd base x st out) (hn:out.normal=false):Xi P rd base (.seq x y) st out:=by
 intro B W0 D0 dl M ι a W n Q r hs hr hp
 refine wpIn_seq (h1 B W0 D0 dl M ι a W n _ r hs hr ⟨fun e st' he dl' M' ι' a' W' g1 g2 g3 g4=>?_,fun v he dl' M' a' W' x g1 g2 g3 g4 g5=>hp.pan v he dl' M' a' W' x g1 g2 g3 g4 g5⟩)
 subst he
 have:=hp.go e st' rfl dl' M' ι' a' W' g1 g2 g3 g4
 cases e with
 | normal=>simp [AOut.normal] at hn
 | exit id=>exact this
 | ret=>exact this
 | goto l=>exact this
theorem Q0b {op:Operand} {b:Bool} (hs:Ql M ι (lk st.slots) a.tmps) (he:evo (lk st.slots) op=some (.bool b)):a.eval op=.bool b:=by
 have:=Qg hs he
 generalize a.eval op=v at this
 cases this
 rfl
theorem exec_cond {op:Operand} {b:Bool} (he:evo (lk st.slots) op=some (.bool b)) (h:Xi P rd base (if b then x else y) st out):Xi P rd base (.cond op x y) st out:=by
 intro B W0 D0 dl M ι a W n Q r hs hr hp
 exact wpIn_cond (Q0b hs.slots he) (h B W0 D0 dl M ι a W n Q r hs hr hp)
theorem exec_block {id:Nat} (h:Xi P rd base c st out):Xi P rd base (.block id c) st (out.inBlock id):=by
 intro B W0 D0 dl M ι a W n Q r hs hr hp
 refine wpIn_block (h B W0 D0 dl M ι a W n _ r hs hr ⟨fun e st' he dl' M' ι' a' W' g1 g2 g3 g4=>?_,fun v he dl' M' a' W' x g1 g2 g3 g4 g5=>?_⟩)
 ·subst he
  cases e with
  | normal=>exact hp.go .normal st' rfl dl' M' ι' a' W' g1 g2 g3 g4
  | ret=>exact hp.go .ret st' rfl dl' M' ι' a' W' g1 g2 g3 g4
  | goto l=>exact hp.go (.goto l) st' rfl dl' M' ι' a' W' g1 g2 g3 g4
  | exit i =>
   show (if i=id then Q .normal a' W' else Q (.exit i) a' W')
   by_cases e:i=id
   ·rw [aH e]
    exact hp.go .normal st' (by simp [AOut.inBlock,e]) dl' M' ι' a' W' g1 g2 g3 g4
   rw [aI e]
   have:Nat.beq i id=false:=by rw [bI]; intro h; exact e (aJ h)
   exact hp.go (.exit i) st' (by simp [AOut.inBlock,this]) dl' M' ι' a' W' g1 g2 g3 g4
 subst he
 exact hp.pan v rfl dl' M' a' W' x g1 g2 g3 g4 g5
theorem Qhr (h:Xi P rd base c st out) (hn:out.normal=false):Qja P rd base c st out:=by
 refine ⟨1,?_⟩
 intro B W0 D0 dl M ι a W n Q r hs hr hp
 show c.wpIn _ n P _ a W
 refine h B W0 D0 dl M ι a W n _ r hs hr ⟨fun e st' he dl' M' ι' a' W' g1 g2 g3 g4=>?_,fun v he dl' M' a' W' x g1 g2 g3 g4 g5=>hp.pan v he dl' M' a' W' x g1 g2 g3 g4 g5⟩
 subst he
 have:=hp.go e st' rfl dl' M' ι' a' W' g1 g2 g3 g4
 cases e with
 | normal=>simp [AOut.normal] at hn
 | exit id=>exact this
 | ret=>exact this
 | goto l=>exact this
theorem loopX_next (h:Xi P rd base c st (.go .normal st1)) (hl:Qja P rd base c st1 out):Qja P rd base c st out:=by
 obtain ⟨m,hm⟩:=hl
 refine ⟨m+1,?_⟩
 intro B W0 D0 dl M ι a W n Q r hs hr hp
 show c.wpIn _ n P _ a W
 refine h B W0 D0 dl M ι a W n _ r hs hr ⟨fun e st' he dl' M' ι' a' W' g1 g2 g3 g4=>?_,fun v he=>by cases he⟩
 cases he
 exact hm B W0 D0 dl' M' ι' a' W' n Q r g4 (hr.mono g2) (hp.step g1 g2 g3)
theorem exec_loop (h:Qja P rd base c st out):Xi P rd base (.loop c) st out:=by
 obtain ⟨m,hm⟩:=h
 intro B W0 D0 dl M ι a W n Q r hs hr hp
 exact wpIn_loop_rounds m (hm B W0 D0 dl M ι a W n Q r hs hr hp)
section scope
variable {b:Frame} {k:List Item} {cs:List Frame} {w:World}
theorem Qvm {c:Code}:step P (lone (b.atR a (.code (.scope c)::k)) cs w)=.next (lone (b.atR a (.code c::.inScope c::k)) cs w) :=
 step_lone_go (by simp [stepG,stepG.exec,Frame.atR])
theorem Qrt {c:Code}:step P (lone (b.atR a (.inScope c::k)) cs w)=.next (lone (b.atR a k) cs w) :=
 step_lone_go (by simp [stepG,stepG.exec,Frame.atR])
def Qmn (F:Fence) (n:Nat) (P:Program) (body x:Code) (Q:Exit->Act->World->Prop) (a:Act) (w:World):Prop :=
 ∀(b:Frame) (k:List Item) (cs:List Frame),b.roundOf=F.round->F.fn b.fn->F.room (cs.length+1+n) ->
  ∃e a' w',Q e a' w'/\ArrivesIn (Machine.fenced P F) P (lone (b.atR a (.code x::.inScope body::k)) cs w) b k cs e a' w'
def Qox (F:Fence) (n:Nat) (P:Program) (body:Code) (Q:Exit->Act->World->Prop) (e:Exit) (a:Act) (w:World):Prop :=
 match e with
 | .goto l=>match findLabel body l with
  | some rest=>Qmn F n P body rest Q a w
  | none=>Q (.goto l) a w
 | e=>Q e a w
theorem Qn5 {F:Fence} {n:Nat} {body c:Code} {w:World} (h:c.wpIn F n P (Qox F n P body Q) a w):Qmn F n P body c Q a w:=by
 intro b k cs hro hb hr
 obtain ⟨e,a₁,w₁,hq,harr⟩:=h b (.inScope body::k) cs hro hb hr
 cases e with
 | normal=>exact ⟨.normal,a₁,w₁,hq,StepsIn.trans harr (.one (fenced_calm hb hr rfl) Qrt)⟩
 | exit id =>
  have hx:exitTo id (.inScope body::k)=exitTo id k:=by simp [exitTo]
  exact ⟨.exit id,a₁,w₁,hq,fun k' hk=>harr.1 k' (by rw [hx]; exact hk),fun hr' hk=>harr.2 hr' (by rw [hx]; exact hk)⟩
 | goto l =>
  simp only [Qox] at hq
  cases hf:findLabel body l with
  | some rest =>
   rw [hf] at hq
   obtain ⟨e₂,a₂,w₂,hq₂,harr₂⟩:=hq b k cs hro hb hr
   exact ⟨e₂,a₂,w₂,hq₂,.of_steps (harr.1 (.code rest::.inScope body::k) (by simp [gotoIn,hf])) harr₂⟩
  | none =>
   rw [hf] at hq
   have hx:gotoIn l (.inScope body::k)=gotoIn l k:=by simp [gotoIn,hf]
   exact ⟨.goto l,a₁,w₁,hq,fun k' hk=>harr.1 k' (by rw [hx]; exact hk),fun hr' hk=>harr.2 hr' (by rw [hx]; exact hk)⟩
 | ret=>exact ⟨_,a₁,w₁,hq,harr⟩
 | panic ch=>exact ⟨_,a₁,w₁,hq,harr⟩
 | outgrown=>exact ⟨_,a₁,w₁,hq,harr⟩
theorem Qw1 {F:Fence} {n:Nat} {c:Code} {w:World} (h:Qmn F n P c c Q a w):(Code.scope c).wpIn F n P Q a w:=by
 intro b k cs hro hb hr
 have h0:StepsIn (Machine.fenced P F) P (lone (b.atR a (.code (.scope c)::k)) cs w) (lone (b.atR a (.code c::.inScope c::k)) cs w):=.one (fenced_calm hb hr rfl) Qvm
 obtain ⟨e,a₁,w₁,hq,harr⟩:=h b k cs hro hb hr
 exact ⟨e,a₁,w₁,hq,.of_steps h0 harr⟩
end scope
def Qlt (P:Program) (rd:Option Nat) (base:Nat) (body x:Code) (st:St) (out:AOut):Prop :=
 ∀B W0 D0 dl M ι a W n Q r,Sim P B W0 D0 dl M ι st a W->Ke ι rd r base->Qhu P base B W0 D0 M ι dl Q out->Qmn (FW r) n P body x Q a W
def AOut.within (body:Code):AOut->Option Code
 | .go (.goto l) _=>findLabel body l
 | _=>none
theorem Qdn {body:Code} (h:Xi P rd base x st out) (hn:out.within body=none):Qlt P rd base body x st out:=by
 intro B W0 D0 dl M ι a W n Q r hs hr hp
 refine Qn5 (h B W0 D0 dl M ι a W n _ r hs hr ⟨fun e st' he dl' M' ι' a' W' g1 g2 g3 g4=>?_,fun v he dl' M' a' W' x g1 g2 g3 g4 g5=>hp.pan v he dl' M' a' W' x g1 g2 g3 g4 g5⟩)
 subst he
 have:=hp.go e st' rfl dl' M' ι' a' W' g1 g2 g3 g4
 cases e with
 | goto l=>simp only [AOut.within] at hn; simp only [Xo.exit',Qox,hn]; exact this
 | normal=>exact this
 | exit id=>exact this
 | ret=>exact this
theorem scopeX_goto {body rest:Code} {l:Nat} (h:Xi P rd base x st (.go (.goto l) st1)) (hf:findLabel body l=some rest) (k:Qlt P rd base body rest st1 out):Qlt P rd base body x st out:=by
 intro B W0 D0 dl M ι a W n Q r hs hr hp
 refine Qn5 (h B W0 D0 dl M ι a W n _ r hs hr ⟨fun e st' he dl' M' ι' a' W' g1 g2 g3 g4=>?_,fun v he=>by cases he⟩)
 cases he
 simp only [Xo.exit',Qox,hf]
 exact k B W0 D0 dl' M' ι' a' W' n Q r g4 (hr.mono g2) (hp.step g1 g2 g3)
theorem exec_scope (h:Qlt P rd base c c st out):Xi P rd base (.scope c) st out :=
 fun B W0 D0 dl M ι a W n Q r hs hr hp=>Qw1 (h B W0 D0 dl M ι a W n Q r hs hr hp)
theorem Qu2 {id:Nat} {ops:Array Oper} (h:Qb6 P rd base ops (List.range ops.size) st out):Xi P rd base (.region id ops false) st out :=
 fun B W0 D0 dl M ι a W n Q r hs hr hp=>wpIn_region (h B W0 D0 dl M ι a W n Q r hs hr hp)
theorem Q1c {ops:Array Oper}:Qb6 P rd base ops [] st (.go .normal st):=fun B W0 D0 dl M ι a W n Q r hs hr hp=>hp.here hs
end
end Go.Ab
namespace Go.Ab
open Go.RowKit
def setS:List (Nat × AV)->Nat -> AV->List (Nat × AV)
 | [],d,v=>[(d,v)]
 | (k,w)::r,d,v=>if Nat.beq k d then (d,v)::r else (k,w)::setS r d v
def delS:List (Nat × AV)->Nat -> List (Nat × AV)
 | [],_=>[]
 | (k,w)::r,d=>if Nat.beq k d then delS r d else (k,w)::delS r d
theorem Qf5 (d:Nat) (v:AV):∀(s:List (Nat × AV)) (t:Nat),lk (setS s d v) t=if d=t then some v else lk s t
 | [],t=>by
  simp only [setS,lk]
  by_cases e:d=t
  ·subst e; simp
  simp [e]
 | (k,w)::r,t=>by
  simp only [setS]
  by_cases h:k=d
  ·subst h
   simp only [dZ,eK,lk]
   by_cases e:k=t
   ·subst e; simp
   simp [e]
  have:Nat.beq k d=false:=by rw [bI]; exact fun x=>h (aJ x)
  simp only [this,aT,eJ,lk,Qf5 d v r t]
  by_cases e:k=t
  ·subst e; simp [Ne.symm h]
  simp [e]
theorem Qmz (d:Nat):∀(s:List (Nat × AV)) (t:Nat),lk (delS s d) t=if d=t then none else lk s t
 | [],t=>by simp [delS,lk]
 | (k,w)::r,t=>by
  simp only [delS]
  by_cases h:k=d
  ·subst h
   simp only [dZ,eK,lk,Qmz k r t]
   by_cases e:k=t
   ·subst e; simp
   simp [e]
  have:Nat.beq k d=false:=by rw [bI]; exact fun x=>h (aJ x)
  simp only [this,aT,eJ,lk,Qmz d r t]
  by_cases e:k=t
  ·subst e; simp [Ne.symm h]
  simp [e]
def Vv (s:List (Nat × AV)) (nt:Nat) (dst:Option Tmp) (v:Option AV):Option (List (Nat × AV)) :=
 match dst with
 | none=>some s
 | some d=>if Nat.blt d nt then (match v with | some x=>some (setS s d x) | none=>some (delS s d)) else none
def Z5 (objs:List AObj):List (Nat × AObj)->Option (List AObj)
 | []=>some objs
 | (o,x)::es=>if x.isPlain && Nat.blt o BIG then (match objs[o]? with
   | some y=>if y.isFam then none else Z5 (objs.set o x) es
   | none=>if Nat.beq o objs.length then Z5 (objs++[x]) es else none) else none
theorem Vr:∀(es:List (Nat × AObj)) (objs objs':List AObj),Z5 objs es=some objs'->sto objs'=Sto.puts (sto objs) es/\objs.length<=objs'.length/\(objs.length<=BIG->objs'.length<=BIG)
 | [],objs,objs',h=>by cases h; exact ⟨rfl,aZ _,fun h=>h⟩
 | (o,x)::es,objs,objs',h=>by
  simp only [Z5] at h
  split at h
  rotate_left
  ·cases h
  rename_i hc
  simp only [aE] at hc
  have hb:=Xr hc.2
  split at h
  ·rename_i y hy
   split at h
   ·cases h
   rename_i hf
   obtain ⟨h1,h2,h3⟩:=Vr es _ _ h
   refine ⟨?_,by simpa using h2,fun hl=>h3 (by simpa using hl)⟩
   rw [h1,Qcg hy (by simpa using hf) hc.1 hb]; rfl
  split at h
  ·rename_i heq
   have heq:o=objs.length:=aJ heq
   subst heq
   obtain ⟨h1,h2,h3⟩:=Vr es _ _ h
   refine ⟨?_,by simp at h2; omega,fun hl=>h3 (by simp; omega)⟩
   rw [h1,Qiw hc.1 hb]; rfl
  cases h
section
variable {P:Program} {rd:Option Nat} {base:Nat} {c x y:Code} {st st1 st2:St} {out:AOut} {B:Nat} {W0 W:World} {D0 D dl dl1:List Nat} {M M1:CM} {ι ι1:Inj} {Q:Exit->Act->World->Prop} {a:Act} {r:Option Nat} {nf:Bool} {C:FuncId->List AV->Option Xk} {o:Oper} {res:Res}
theorem Qbb {s s':List (Nat × AV)} {nt:Nat} {dst:Option Tmp} {v:Option AV} {u:Value} (h:Ql M ι (lk s) a.tmps) (hnt:a.tmps.size=nt) (hp:Vv s nt dst v=some s')
  (hv:∀x,v=some x->Qa M ι u x):Ql M ι (lk s') (a.put dst u).tmps/\(a.put dst u).tmps.size=nt/\(a.put dst u).defers=a.defers:=by
 unfold Vv at hp
 cases dst with
 | none=>cases hp; exact ⟨h,hnt,rfl⟩
 | some d =>
  simp only at hp
  split at hp
  rotate_left
  ·cases hp
  rename_i hlt
  have hlt:d < nt:=by simpa [Nat.blt,Nat.lt_iff_add_one_le] using hlt
  refine ⟨?_,by simp [Act.put,hnt],rfl⟩
  intro t y ht
  have hset:(a.put (some d) u).tmps.getD t undef=if d=t then u else a.tmps.getD t undef:=by
   simp only [Act.put,bC]
   by_cases e:d=t
   ·subst e; simp [hnt,hlt]
   simp [e,Array.getElem?_setIfInBounds_ne e]
  rw [hset]
  cases v with
  | none =>
   cases hp
   rw [Qmz] at ht
   by_cases e:d=t
   ·rw [aH e] at ht; cases ht
   rw [aI e] at ht; rw [aI e]; exact h t y ht
  | some z =>
   cases hp
   rw [Qf5] at ht
   by_cases e:d=t
   ·rw [aH e] at ht; cases ht; rw [aH e]; exact hv y rfl
   rw [aI e] at ht; rw [aI e]; exact h t y ht
theorem Qpp.put {dst:Option Tmp} {u:Value} (h:Qpp B D0 dl a):Qpp B D0 dl (a.put dst u):=by
 refine ⟨?_,h.old,h.nd⟩
 cases dst <;> exact h.defs
noncomputable def Q8w (P:Program) (nf:Bool) (C:FuncId->List AV->Option Xk) (st:St) (o:Oper):Option AOut :=
 match Ze P nf C (sto st.objs) st.objs.length (lk st.slots) o with
 | some (.val res)=>match Z5 st.objs res.eff,Vv st.slots st.nt o.dst res.v with
  | some objs,some slots=>if Nat.beq objs.length res.fr then some (.go .normal ⟨slots,objs,st.nt⟩) else none
  | _,_=>none
 | some (.pan v)=>some (.pan v)
 | none=>none
def Ym (ops:Array Oper) (s:Slots) (o:Oper):Option Bool :=
 match o.guard with
 | none=>some true
 | some (j,want)=>match ops[j]? with
  | some oj=>match oj.dst with
   | some d=>match s d with
    | some (.bool b)=>some (b==want)
    | some (.tup [])=>some false
    | _=>none
   | none=>none
  | none=>none
theorem Qrg {M:CM} {ι:Inj}:Qa M ι undef (.tup []):=.tup #[] [] rfl (fun j v y hv hy=>by simp at hy)
theorem Qbh {ops:Array Oper} {s:Slots} {b:Bool} (hs:Ql M ι s a.tmps) (h:Ym ops s o=some b):Region.wanted o (yielded ops a.tmps)=b:=by
 unfold Ym at h
 unfold Region.wanted
 split at h
 ·rename_i hg; rw [hg]; cases h; rfl
 rename_i j want hg
 rw [hg]
 simp only
 split at h
 rotate_left
 ·cases h
 rename_i oj hj
 split at h
 rotate_left
 ·cases h
 rename_i d hd
 split at h
 ·rename_i b' hb
  cases h
  have:=hs d _ hb
  generalize hv:a.tmps.getD d undef=v at this
  cases this
  have hy:yielded ops a.tmps j=some b':=by
   unfold yielded
   rw [hj]
   simp only [aC,hd]
   have hlt:d < a.tmps.size:=by
    rcases bA d a.tmps.size with e | e
    ·exact e
    simp [bC,eD e,undef] at hv
   rw [bC,aL hlt] at hv
   simp only [cP] at hv
   rw [aL hlt,hv]
  rw [hy]
  cases b' <;> cases want <;> rfl
 ·rename_i hb
  cases h
  have:=hs d _ hb
  generalize hv:a.tmps.getD d undef=v at this
  cases this with
  | tup vs' _ hl hr =>
  have hy:yielded ops a.tmps j=none:=by
   unfold yielded
   rw [hj]
   simp only [aC,hd]
   rcases bA d a.tmps.size with e | e
   ·rw [bC,aL e] at hv
    simp only [cP] at hv
    rw [aL e,hv]
   rw [eD e]
  rw [hy]
  rfl
 cases h
theorem Qhe {ops:Array Oper} {i:Nat} {l:List Nat} (ho:ops[i]?=some o) (hw:Ym ops (lk st.slots) o=some true) (h1:OpX P rd base o st (.go .normal st1)) (h2:Qb6 P rd base ops l st1 out) :
  Qb6 P rd base ops (i::l) st out:=by
 intro B W0 D0 dl M ι a W n Q r hs hr hp
 simp only [wpOpsIn,ho]
 rw [aH (Qbh hs.slots hw)]
 have:=h1 B W0 D0 dl M ι a W n (Exit.then (wpOpsIn (FW r) n P ops Q l) Q) r hs hr ⟨fun e st' he dl' M' ι' a' W' g1 g2 g3 g4=>?_,fun v he=>by cases he⟩
 ·exact this.1 |> fun h=>⟨h,by
   have h2:=this.2
   generalize (o.semAt (FW r).round a.eval).run P W=R at h2
   cases R with
   | ok x w' =>
    cases x <;> simp only [Oper.uponIn] at h2 ⊢ <;>
     first
      | exact h2
      | exact ⟨h2.1,CallsIn.mono h2.2 (fun e w'' he=>by
        cases e with
        | returned v=>exact he
        | panicked c=>exact he
        | outgrown=>obtain ⟨a0,w0,hq⟩:=he; exact ⟨a0,w0,hq⟩)⟩
      | exact ⟨h2.1,RoundIn.mono h2.2 (fun e w'' he=>by
        cases e with
        | returned v=>exact he
        | panicked c=>exact he
        | outgrown=>obtain ⟨a0,w0,hq⟩:=he; exact ⟨a0,w0,hq⟩)⟩
   | halt x w'=>cases x <;> simp only [Oper.uponIn] at h2 ⊢ <;> exact h2⟩
 ·cases he
  exact h2 B W0 D0 dl' M' ι' a' W' n Q r g4 (hr.mono g2) (hp.step g1 g2 g3)
theorem Qzl {ops:Array Oper} {i:Nat} {l:List Nat} {slots:List (Nat × AV)} (ho:ops[i]?=some o) (hw:Ym ops (lk st.slots) o=some false) (hd:Vv st.slots st.nt o.dst (some (.tup []))=some slots)
  (h2:Qb6 P rd base ops l ⟨slots,st.objs,st.nt⟩ out):Qb6 P rd base ops (i::l) st out:=by
 intro B W0 D0 dl M ι a W n Q r hs hr hp
 simp only [wpOpsIn,ho]
 rw [aI (by rw [Qbh hs.slots hw]; simp)]
 refine ⟨fun _ _=>trivial,?_⟩
 obtain ⟨k1,k2,k3⟩:=Qbb (u:=undef) hs.slots hs.nt hd (fun x hx=>by cases hx; exact Qrg)
 exact h2 B W0 D0 dl M ι _ W n Q r ⟨hs.rel,k1,k2,hs.df.put,hs.new,hs.big⟩ hr hp
end
end Go.Ab
namespace Go.Ab
open Go.RowKit
mutual
def AV.ren (f:Nat -> Option Nat):AV->Option AV
 | .ref o i n=>match f o with | some o'=>some (.ref o' i n) | none=>none
 | .ptr o i c=>match f o with | some o'=>some (.ptr o' i c) | none=>none
 | .mp o=>match f o with | some o'=>some (.mp o') | none=>none
 | .yld o=>match f o with | some o'=>some (.yld o') | none=>none
 | .lin ..=>none
 | .agg cs=>match AV.renL f cs with | some x=>some (.agg x) | none=>none
 | .tup vs=>match AV.renL f vs with | some x=>some (.tup x) | none=>none
 | .fn g a b=>match AV.renL f a,AV.renL f b with | some x,some y=>some (.fn g x y) | _,_=>none
 | .ifc t v=>match AV.ren f v with | some x=>some (.ifc t x) | none=>none
 | v=>some v
def AV.renL (f:Nat -> Option Nat):List AV->Option (List AV)
 | []=>some []
 | x::xs=>match AV.ren f x,AV.renL f xs with
  | some y,some ys=>some (y::ys)
  | _,_=>none
end
theorem Qcp {f:Nat -> Option Nat}:∀{xs ys:List AV},AV.renL f xs=some ys->ys.length=xs.length/\∀(j:Nat) (y:AV),ys[j]?=some y->∃x,xs[j]?=some x/\x.ren f=some y
 | [],ys,h=>by simp [AV.renL] at h; subst h; exact ⟨rfl,fun j y hy=>by simp at hy⟩
 | x::xs,ys,h=>by
  simp only [AV.renL] at h
  split at h
  ·rename_i y0 ys0 h1 h2
   cases h
   obtain ⟨l,k⟩:=Qcp h2
   refine ⟨by simp [l],fun j y hy=>?_⟩
   cases j with
   | zero=>simp at hy; subst hy; exact ⟨x,rfl,h1⟩
   | succ j=>simp at hy; simpa using k j y hy
  cases h
theorem Qni {f:Nat -> Option Nat} {x y:AV} (h:x.ren f=some y):y.cell=x.cell:=by
 cases x <;> simp only [AV.ren] at h <;> first | (cases h; done) | (cases h; rfl) | (split at h <;> first | (cases h; rfl) | cases h)
theorem Q44 {f:Nat -> Option Nat} {x y:AV} (h:x.ren f=some y) (hs:x.sc=true):y.sc=true:=by
 cases x with
 | fn g a b =>
  simp only [AV.sc,aE,List.isEmpty_iff] at hs
  obtain ⟨rfl,rfl⟩:=hs
  simp only [AV.ren,AV.renL] at h
  cases h; rfl
 | lst fl xs=>simp only [AV.ren] at h; cases h; exact hs
 | _=>first | (simp only [AV.ren] at h; cases h; rfl) | simp [AV.sc] at hs
theorem Quu {f:Nat -> Option Nat} {x y:AV} (h:x.ren f=some y) (hx:x=.agg x.flat \/ x.cell=true):AV.renL f x.flat = some y.flat /\ (y=.agg y.flat \/ y.cell=true):=by
 rcases hx with hx | hx
 ·generalize hf:x.flat = cs at hx
  subst hx
  simp only [AV.ren] at h
  split at h
  ·rename_i z hz
   cases h
   exact ⟨by simpa [AV.flat] using hz,.inl rfl⟩
  cases h
 have hy:y.cell=true:=by rw [Qni h]; exact hx
 have e1:x.flat = [x]:=by cases x <;> simp_all [AV.flat,AV.cell]
 have e2:y.flat = [y]:=by cases y <;> simp_all [AV.flat,AV.cell]
 rw [e1,e2]
 exact ⟨by simp [AV.renL,h],.inr hy⟩
theorem Qjv {f:Nat -> Option Nat} {x y:AV} {w:Nat} (h:x.ren f=some y) (hx:x.shaped w):y.shaped w:=by
 obtain ⟨h1,h2⟩:=Quu h hx.form
 obtain ⟨l,k⟩:=Qcp h1
 refine ⟨h2,by rw [l]; exact hx.len,fun z hz=>?_⟩
 obtain ⟨j,hj⟩:=bQ.1 hz
 obtain ⟨u,hu,hr⟩:=k j z hj
 rw [Qni hr]; exact hx.cells u (aF hu)
theorem Qa.ren {M:CM} {ι ι':Inj} {f:Nat -> Option Nat} (hf:∀o o' p,f o=some o'->ι o=some p->ι' o'=some p) {v:Value} {x y:AV} (h:Qa M ι v x) (hr:x.ren f=some y):Qa M ι' v y:=by
 induction h generalizing ι' y f with
 | undef h=>simp only [AV.ren] at hr; cases hr; exact .undef h
 | bool b=>simp only [AV.ren] at hr; cases hr; exact .bool b
 | int k n=>simp only [AV.ren] at hr; cases hr; exact .int k n
 | str s=>simp only [AV.ren] at hr; cases hr; exact .str s
 | nilp=>simp only [AV.ren] at hr; cases hr; exact .nilp
 | nils=>simp only [AV.ren] at hr; cases hr; exact .nils
 | nilf=>simp only [AV.ren] at hr; cases hr; exact .nilf
 | nilm=>simp only [AV.ren] at hr; cases hr; exact .nilm
 | nili=>simp only [AV.ren] at hr; cases hr; exact .nili
 | emp a=>simp only [AV.ren] at hr; cases hr; exact .emp a
 | emn a c=>simp only [AV.ren] at hr; cases hr; exact .emn a c
 | lin o i n h ih=>simp only [AV.ren] at hr; cases hr
 | lst0 a fl=>simp only [AV.ren] at hr; cases hr; exact .lst0 a fl
 | ref0 a o p hp hz =>
  simp only [AV.ren] at hr
  split at hr
  ·rename_i o' ho; cases hr; exact .ref0 a o' p (hf _ _ _ ho hp) hz
  cases hr
 | fz b off cs g hcs hm hr' ih=>simp only [AV.ren] at hr; cases hr; exact .fz b off cs g hcs hm hr'
 | lst b off cap w fl xs g hcap hfl hc hm hr' ih=>simp only [AV.ren] at hr; cases hr; exact .lst b off cap w fl xs g hcap hfl hc hm hr'
 | ref o i n p off cap hp hi hcap hoff =>
  simp only [AV.ren] at hr
  split at hr
  ·rename_i o' ho; cases hr; exact .ref o' i n p off cap (hf _ _ _ ho hp) hi hcap hoff
  cases hr
 | ptr o i c p hp =>
  simp only [AV.ren] at hr
  split at hr
  ·rename_i o' ho; cases hr; exact .ptr o' i c p (hf _ _ _ ho hp)
  cases hr
 | mp o p hp =>
  simp only [AV.ren] at hr
  split at hr
  ·rename_i o' ho; cases hr; exact .mp o' p (hf _ _ _ ho hp)
  cases hr
 | yld o p hp =>
  simp only [AV.ren] at hr
  split at hr
  ·rename_i o' ho; cases hr; exact .yld o' p (hf _ _ _ ho hp)
  cases hr
 | ifc t v' v hr' ih =>
  simp only [AV.ren] at hr
  split at hr
  ·rename_i z hz; cases hr; exact .ifc t v' z (ih hf hz)
  cases hr
 | fn g first' caps' first caps hy hm h1 h2 hr1 hr2 ih1 ih2 =>
  simp only [AV.ren] at hr
  split at hr
  ·rename_i x1 x2 e1 e2
   cases hr
   obtain ⟨l1,k1⟩:=Qcp e1
   obtain ⟨l2,k2⟩:=Qcp e2
   refine .fn g first' caps' x1 x2 hy hm (by omega) (by omega) (fun j v y a b=>?_) (fun j v y a b=>?_)
   ·obtain ⟨z,hz,hzr⟩:=k1 j y b; exact ih1 j v z a hz hf hzr
   obtain ⟨z,hz,hzr⟩:=k2 j y b; exact ih2 j v z a hz hf hzr
  cases hr
 | agg cs' cs h hc hr' ih =>
  simp only [AV.ren] at hr
  split at hr
  ·rename_i x1 e1
   cases hr
   obtain ⟨l1,k1⟩:=Qcp e1
   refine .agg cs' x1 (by omega) (fun y hy=>?_) (fun j v y a b=>?_)
   ·obtain ⟨j,hj⟩:=bQ.1 hy
    obtain ⟨z,hz,hzr⟩:=k1 j y hj
    rw [Qni hzr]; exact hc z (aF hz)
   obtain ⟨z,hz,hzr⟩:=k1 j y b; exact ih j v z a hz hf hzr
  cases hr
 | tup vs' vs h hr' ih =>
  simp only [AV.ren] at hr
  split at hr
  ·rename_i x1 e1
   cases hr
   obtain ⟨l1,k1⟩:=Qcp e1
   refine .tup vs' x1 (by omega) (fun j v y a b=>?_)
   obtain ⟨z,hz,hzr⟩:=k1 j y b; exact ih j v z a hz hf hzr
  cases hr
def Qny (f:Nat -> Option Nat):List (Nat × AV)->Option (List (Nat × AV))
 | []=>some []
 | (t,x)::r=>match x.ren f,Qny f r with
  | some y,some ys=>some ((t,y)::ys)
  | _,_=>none
theorem Qvp {f:Nat -> Option Nat}:∀{s s':List (Nat × AV)},Qny f s=some s'->∀t y,lk s' t=some y->∃x,lk s t=some x/\x.ren f=some y
 | [],s',h,t,y,hy=>by simp [Qny] at h; subst h; simp [lk] at hy
 | (k,x)::r,s',h,t,y,hy=>by
  simp only [Qny] at h
  split at h
  ·rename_i y0 ys0 h1 h2
   cases h
   simp only [lk] at hy ⊢
   split at hy
   ·rename_i e; cases hy; rw [aH e]; exact ⟨x,rfl,h1⟩
   rename_i e; rw [aI e]; exact Qvp h2 t y hy
  cases h
def AObj.ren (f:Nat -> Option Nat):AObj->Option AObj
 | .row bx ro nr fl w xs=>if nr then some (.row bx ro nr fl w xs) else match AV.renL f xs with | some ys=>some (.row bx ro nr fl w ys) | none=>none
 | .loop fn slots ps as bd st pe=>match Qny f slots with | some s=>some (.loop fn s ps as bd st pe) | none=>none
 | .fam w fl xs=>some (.fam w fl xs)
 | .refs j xs=>match f j with | some j'=>some (.refs j' xs) | none=>none
 | .dead=>some .dead
def AV.renT (f:Nat -> Option Nat):AV->Option AV
 | .lin o i n=>match f o with | some o'=>some (.lin o' i n) | none=>none
 | x=>x.ren f
def Qdz (f:Nat -> Option Nat) (s:List (Nat × AV)):List Nat -> List (Nat × AV)
 | []=>[]
 | t::ts=>match lk s t with
  | some x=>match x.renT f with
   | some y=>(t,y)::Qdz f s ts
   | none=>Qdz f s ts
  | none=>Qdz f s ts
theorem Qfw {f:Nat -> Option Nat} {s:List (Nat × AV)}:∀(ts:List Nat) (t:Nat) (y:AV),lk (Qdz f s ts) t=some y->∃x,lk s t=some x/\x.renT f=some y
 | [],t,y,h=>by simp [Qdz,lk] at h
 | k::ts,t,y,h=>by
  simp only [Qdz] at h
  split at h
  ·rename_i x hx
   split at h
   ·rename_i z hz
    simp only [lk] at h
    split at h
    ·rename_i e; cases h; have:=aJ e; subst this; exact ⟨x,hx,hz⟩
    exact Qfw ts t y h
   exact Qfw ts t y h
  exact Qfw ts t y h
def idx (k:Nat):Nat -> List Nat -> Option Nat
 | _,[]=>none
 | i,x::xs=>if Nat.beq x k then some i else idx k (i+1) xs
theorem Qy7 (k:Nat):∀(xs:List Nat) (i j:Nat),idx k i xs=some j->i<=j/\xs[j - i]?=some k
 | [],i,j,h=>by simp [idx] at h
 | x::xs,i,j,h=>by
  simp only [idx] at h
  split at h
  ·rename_i e; cases h; have:=aJ e; subst this; simp
  obtain ⟨h1,h2⟩:=Qy7 k xs (i+1) j h
  refine ⟨by omega,?_⟩
  rw [show j - i=(j - (i+1))+1 by omega]; simpa using h2
def Yn (f:Nat -> Option Nat) (objs:List AObj):List Nat -> Option (List AObj)
 | []=>some []
 | k::ks=>match objs[k]? with
  | some x=>match x.ren f,Yn f objs ks with
   | some y,some ys=>some (y::ys)
   | _,_=>none
  | none=>none
theorem Qeg {f:Nat -> Option Nat} {objs:List AObj}:∀{ks:List Nat} {os:List AObj},Yn f objs ks=some os->os.length=ks.length/\∀(j:Nat) (y:AObj),os[j]?=some y->∃k x,ks[j]?=some k/\objs[k]?=some x/\x.ren f=some y
 | [],os,h=>by simp [Yn] at h; subst h; exact ⟨rfl,fun j y hy=>by simp at hy⟩
 | k::ks,os,h=>by
  simp only [Yn] at h
  split at h
  ·rename_i x hx
   split at h
   ·rename_i y0 ys0 h1 h2
    cases h
    obtain ⟨l,g⟩:=Qeg h2
    refine ⟨by simp [l],fun j y hy=>?_⟩
    cases j with
    | zero=>simp at hy; subst hy; exact ⟨k,x,rfl,hx,h1⟩
    | succ j=>simp at hy; simpa using g j y hy
   cases h
  cases h
def Qlc:List Nat -> Bool
 | []=>true
 | x::xs=>!(xs.any fun y=>Nat.beq x y) && Qlc xs
theorem Qh9:∀{xs:List Nat},Qlc xs=true->xs.Nodup
 | [],_=>List.nodup_nil
 | x::xs,h=>by
  simp only [Qlc,aE,bG,List.any_eq_false] at h
  refine List.nodup_cons.2 ⟨fun hm=>?_,Qh9 h.2⟩
  exact absurd (dZ x) (by simpa using h.1 x hm)
def ιkeep (ι:Inj) (keep:List Nat):Inj:=fun j=>keep[j]?.bind ι
theorem Qip {keep:List Nat} {o o':Nat} (h:idx o 0 keep=some o'):keep[o']?=some o:=by
 obtain ⟨_,h3⟩:=Qy7 _ _ _ _ h
 simpa using h3
theorem ιkeep_idx {ι:Inj} {keep:List Nat}:∀o o' p,idx o 0 keep=some o'->ι o=some p->ιkeep ι keep o'=some p:=by
 intro o o' p h1 h2
 simp [ιkeep,Qip h1,h2]
open Classical in
noncomputable def gK (keep:List Nat) (o:Nat):Option Nat :=
 if Nat.blt o BIG then keep[o]? else if h:∃(r j i k:Nat),o=fid j i/\keep[j]?=some k/\r=fid k i then some h.choose else none
theorem Qky {keep:List Nat} {o:Nat} (h:o < BIG):gK keep o=keep[o]?:=by unfold gK; rw [aH (Qk3 h)]
theorem Qoo {keep:List Nat} {j i k:Nat} (h:keep[j]?=some k):gK keep (fid j i)=some (fid k i):=by
 have hex:∃(r j' i' k:Nat),fid j i=fid j' i'/\keep[j']?=some k/\r=fid k i':=⟨_,j,i,k,rfl,h,rfl⟩
 unfold gK
 rw [aI (by rw [Qll (Zy j i)]; simp),dif_pos hex]
 obtain ⟨j',i',k',e1,e2,e3⟩:=hex.choose_spec
 obtain ⟨rfl,rfl⟩:=Vl e1
 rw [h] at e2; cases e2
 rw [e3]
theorem Qms {keep:List Nat} {o k:Nat} (h:gK keep o=some k):(o < BIG/\keep[o]?=some k)\/∃j i k',o=fid j i/\keep[j]?=some k'/\k=fid k' i:=by
 rcases bA o BIG with c | c
 ·exact .inl ⟨c,by rw [<-Qky c]; exact h⟩
 right
 unfold gK at h
 rw [aI (by rw [Qll c]; simp)] at h
 split at h
 ·rename_i hx
  obtain ⟨j,i,k',e1,e2,e3⟩:=hx.choose_spec
  simp only [aK] at h
  exact ⟨j,i,k',e1,e2,by rw [<-h]; exact e3⟩
 cases h
noncomputable def ιK (ι:Inj) (keep:List Nat):Inj:=fun o=>(gK keep o).bind ι
section
variable {P:Program} {B:Nat} {W0 W:World} {D:List Nat} {M:CM} {ι:Inj}
theorem TrE.same {ι':Inj} {x:AV} (h:x.nr=true):TrE M ι ι' x x :=
 ⟨fun _ h=>h,fun h=>h,fun j y hj=>⟨y,hj,fun v hv=>hv.of_nr (AV.nr_flat h y (aF hj)),fun v hv=>hv⟩⟩
theorem TrO.sameRow {ι':Inj} {bx ro nr fl:Bool} {w:Nat} {xs:List AV} (h:AV.nrL xs=true):TrO M ι ι' (.row bx ro nr fl w xs) (.row bx ro nr fl w xs) :=
 .row bx ro nr fl w xs xs rfl (fun _ h=>h) (fun i x x' h1 h2=>by rw [h1] at h2; cases h2; exact TrE.same (Q2.1 h x (aF h1)))
theorem Qgf {v:Value} {o i n:Nat} (h:Qa M ι v (.ref o i n)):∃p,ι o=some p/\∀(ι':Inj) o',ι' o'=some p->Qa M ι' v (.ref o' i n):=by
 cases h with
 | ref0 _ _ p hp hc=>exact ⟨p,hp,fun ι' o' h=>.ref0 _ _ p h hc⟩
 | ref _ _ _ p off cap hp h1 h2 h3=>exact ⟨p,hp,fun ι' o' h=>.ref _ _ _ p off cap h h1 h2 h3⟩
theorem Qa.renT {ι':Inj} {f:Nat -> Option Nat} (hf:∀o o' p,f o=some o'->ι o=some p->ι' o'=some p) (hfam:∀j j' i p,f j=some j'->ι (fid j i)=some p->ι' (fid j' i)=some p) {v:Value} {x y:AV} (h:Qa M ι v x) (hr:x.renT f=some y):Qa M ι' v y:=by
 cases x with
 | lin o i n =>
  simp only [AV.renT] at hr
  split at hr
  ·rename_i o' ho
   cases hr
   cases h with
   | lin _ _ _ h =>
    obtain ⟨p,hp,hq⟩:=Qgf h
    exact .lin _ _ _ (hq _ _ (hfam o o' i p ho hp))
  cases hr
 | _=>exact h.ren hf hr
theorem Q0n {σ:Sto} {ι':Inj} {f:Nat -> Option Nat} {k:Nat} {x y:AObj} (h:Rel P B W0 D M ι σ W) (hk:σ k=some x.plain) (hr:x.ren f=some y) (hf:∀o o' p,f o=some o'->ι o=some p->ι' o'=some p)
  (hfam:∀j j' i p,f j=some j'->y.isPlain=false->ι (fid j i)=some p->ι' (fid j' i)=some p) (hd:y.plain≠.dead):TrO M ι ι' x.plain y.plain:=by
 cases x with
 | dead=>cases hr; exact absurd rfl hd
 | fam w fl xs=>cases hr; exact absurd rfl hd
 | loop fn sl ps as bd st pe =>
  simp only [AObj.ren] at hr
  split at hr
  ·rename_i s hs
   cases hr
   refine .loop _ _ _ _ _ _ _ _ (fun t y' hy'=>?_)
   obtain ⟨z,hz,hzr⟩:=Qvp hs t y' hy'
   exact ⟨z,hz,fun v hv=>hv.ren hf hzr⟩
  cases hr
 | refs j xs =>
  simp only [AObj.ren] at hr
  split at hr
  rotate_left
  ·cases hr
  rename_i j' hj'
  cases hr
  refine .row _ _ _ _ _ _ _ (by simp [Vc]) (fun h=>by cases h) (fun i z z' h1 h2=>?_)
  rw [Vg] at h1 h2
  cases hl:xs[i]? with
  | none=>rw [hl] at h1; cases h1
  | some l =>
   rw [hl] at h1 h2
   simp only [bK,dR,aK] at h1 h2
   subst h1; subst h2
   refine ⟨fun w hw=>Qjv (f:=fun _=>some (fid j' i)) rfl hw,fun h=>(by cases h),fun c y' hc=>?_⟩
   cases c with
   | succ c=>simp [AV.flat] at hc
   | zero =>
    simp only [AV.flat,eN,aK] at hc
    subst hc
    refine ⟨_,rfl,fun v hv=>?_,fun v hv=>?_⟩
    ·obtain ⟨p,hp,hq⟩:=Qgf hv
     exact hq _ _ (hfam j j' i p hj' rfl hp)
    obtain ⟨p,hp,_⟩:=Qgf hv
    cases hp
 | row bx ro nr fl w ys =>
  obtain ⟨p0,hp0,hro⟩:=h.row k bx ro nr fl w ys hk
  simp only [AObj.ren] at hr
  by_cases hn:nr=true
  ·rw [aH hn] at hr; cases hr
   exact TrO.sameRow (hro.nr hn)
  rw [aI hn] at hr
  split at hr
  rotate_left
  ·cases hr
  rename_i zs hz
  cases hr
  obtain ⟨lx,ax⟩:=Qcp hz
  refine .row bx ro nr fl w ys zs lx (fun e=>absurd e hn) (fun i z z' h1 h2=>?_)
  obtain ⟨z0,g1,g2⟩:=ax i z' h2
  rw [h1] at g1; cases g1
  have hsh:=hro.shaped z (aF h1)
  obtain ⟨hfl1,_⟩:=Quu g2 hsh.form
  obtain ⟨_,k2⟩:=Qcp hfl1
  refine ⟨fun w' hw=>Qjv g2 hw,fun hs=>?_,fun c u' hc=>?_⟩
  ·rw [Qbz]
   intro u' hu'
   obtain ⟨c,hc⟩:=bQ.1 hu'
   obtain ⟨u,hu,hur⟩:=k2 c u' hc
   exact Q44 hur (Qbz.1 hs u (aF hu))
  obtain ⟨u,hu,hur⟩:=k2 c u' hc
  exact ⟨u,hu,fun v hv=>hv.ren hf hur,fun v hv=>hv.ren (fun o o' p _ hp=>by cases hp) hur⟩
theorem Qkw {keep:List Nat} (hnd:keep.Nodup) {o o' k:Nat} (h1:keep[o]?=some k) (h2:keep[o']?=some k):o=o':=by
 obtain ⟨l1,e1⟩:=aD.1 h1
 obtain ⟨l2,e2⟩:=aD.1 h2
 exact (List.getElem_inj hnd).1 (e1.trans e2.symm)
theorem TrO.alive {ι':Inj} {x y:AObj} (h:TrO M ι ι' x y):x≠.dead:=by cases h <;> simp
theorem Rel.gcP {objs os:List AObj} {keep:List Nat} (h:Rel P B W0 D M ι (sto objs) W) (hb:objs.length<=BIG) (hg:Yn (fun k=>idx k 0 keep) objs keep=some os) (hnd:keep.Nodup) (hok:∀x∈os,x.isPlain=true) :
  Rel P B W0 D M (ιkeep ι keep) (fun k=>os[k]?) W:=by
 obtain ⟨hl,hat⟩:=Qeg hg
 have hobj:∀o x',os[o]?=some x'->x'≠.dead->∃k x,keep[o]?=some k/\sto objs k=some x/\TrO M ι (ιkeep ι keep) x x':=fun o x' ho hd=>by
  obtain ⟨k,x,h1,h2,h3⟩:=hat o _ ho
  have hk:k < BIG:=bM (aD.1 h2).1 hb
  have hpl:=hok x' (aF ho)
  have hs:sto objs k=some x.plain:=by rw [Zo hk,h2]; rfl
  refine ⟨k,_,h1,hs,?_⟩
  have:=Q0n (ι':=ιkeep ι keep) h hs h3 (fun o o' p=>ιkeep_idx o o' p) (fun j j' i p _ e=>by rw [hpl] at e; cases e) (by rw [Qgp hpl]; exact hd)
  rwa [Qgp hpl] at this
 refine h.via (fun o=>keep[o]?) (fun o o' k h1 h2=>Qkw hnd h1 h2) (fun o k hk=>by simp [ιkeep,hk]) hobj (fun o ho=>?_)
 cases hx:os[o]? with
 | none=>exact .inl rfl
 | some x' =>
  right
  by_cases hd:x'=.dead
  ·rw [hd]
  obtain ⟨k,x,h1,h2,h3⟩:=hobj o x' hx hd
  have:ι k=none:=by simpa [ιkeep,h1] using ho
  rcases h.used k this with e | e
  ·rw [h2] at e; cases e
  rw [h2] at e; cases e; exact absurd rfl h3.alive
theorem Rel.gc {objs os:List AObj} {keep:List Nat} (h:Rel P B W0 D M ι (sto objs) W) (hb:objs.length<=BIG) (hg:Yn (fun k=>idx k 0 keep) objs keep=some os) (hnd:keep.Nodup) (hkb:keep.length<=BIG) :
  Rel P B W0 D M (ιK ι keep) (sto os) W:=by
 obtain ⟨hl,hat⟩:=Qeg hg
 have hlow:∀o k,keep[o]?=some k->k < BIG:=fun o k hk=>by
  have ho:o < os.length:=by rw [hl]; exact (aD.1 hk).1
  obtain ⟨k',x,h1,h2,_⟩:=hat o _ (aG ho)
  rw [hk] at h1; cases h1
  exact bM (aD.1 h2).1 hb
 have hf:∀o o' p,idx o 0 keep=some o'->ι o=some p->ιK ι keep o'=some p:=fun o o' p h1 h2=>by
  have h3:=Qip h1
  have:o' < BIG:=bM (aD.1 h3).1 hkb
  simp [ιK,Qky this,h3,h2]
 have hfam:∀j j' i p,idx j 0 keep=some j'->ι (fid j i)=some p->ιK ι keep (fid j' i)=some p:=fun j j' i p h1 h2=>by
  simp [ιK,Qoo (Qip h1),h2]
 have hobj:∀o x',sto os o=some x'->x'≠.dead->∃k x,gK keep o=some k/\sto objs k=some x/\TrO M ι (ιK ι keep) x x':=fun o x' ho hd=>by
  rcases Jo os o with ⟨c,e⟩ | ⟨c,⟨j,i,w,fl,xs,l,rfl,e2,e3,e4⟩ | e⟩
  ·rw [e] at ho
   cases hy:os[o]? with
   | none=>rw [hy] at ho; cases ho
   | some y =>
    rw [hy] at ho
    simp only [bK,aK] at ho
    subst ho
    obtain ⟨k,x,h1,h2,h3⟩:=hat o _ hy
    have hs:sto objs k=some x.plain:=by rw [Zo (hlow o k h1),h2]; rfl
    exact ⟨k,_,by rw [Qky c]; exact h1,hs,Q0n h hs h3 hf (fun j j' i p h1 _ h2=>hfam j j' i p h1 h2) hd⟩
  ·rw [e4] at ho; cases ho
   obtain ⟨k,x,h1,h2,h3⟩:=hat j _ e2
   have hx:x=.fam w fl xs:=by
    cases x with
    | fam _ _ _=>simpa [AObj.ren] using h3
    | dead=>cases h3
    | row bx ro nr fl' w' ys=>simp only [AObj.ren] at h3; split at h3 <;> first | cases h3 | (split at h3 <;> cases h3)
    | loop _ _ _ _ _ _ _=>simp only [AObj.ren] at h3; split at h3 <;> cases h3
    | refs _ _=>simp only [AObj.ren] at h3; split at h3 <;> cases h3
   subst hx
   have hs:=X7 h2 e3
   obtain ⟨_,_,hro⟩:=h.row _ _ _ _ _ _ _ hs
   exact ⟨_,_,Qoo h1,hs,TrO.sameRow (hro.nr rfl)⟩
  rw [e] at ho; cases ho
 refine h.via (gK keep) (fun o o' k h1 h2=>?_) (fun o k hk=>by simp [ιK,hk]) hobj (fun o ho=>?_)
 ·rcases Qms h1 with ⟨c,e⟩ | ⟨j,i,k',rfl,e,rfl⟩
  ·rcases Qms h2 with ⟨c',e'⟩ | ⟨j',i',k',rfl,e',rfl⟩
   ·exact Qkw hnd e e'
   ·have:=hlow o _ e; have:=Zy k' i'; omega
  ·rcases Qms h2 with ⟨c',e'⟩ | ⟨j',i',k'',rfl,e',e2⟩
   ·have:=hlow o' _ e'; have:=Zy k' i; omega
   ·obtain ⟨rfl,rfl⟩:=Vl e2
    rw [Qkw hnd e e']
 ·cases hx:sto os o with
  | none=>exact .inl rfl
  | some x' =>
   right
   by_cases hd:x'=.dead
   ·rw [hd]
   obtain ⟨k,x,h1,h2,h3⟩:=hobj o x' hx hd
   have:ι k=none:=by simpa [ιK,h1] using ho
   rcases h.used k this with e | e
   ·rw [h2] at e; cases e
   rw [h2] at e; cases e; exact absurd rfl h3.alive
def Qe1 (base:Nat) (live keep:List Nat) (st:St):Option St :=
 let ks:=List.range base++keep
 if Qlc ks && Nat.ble ks.length BIG then
  match Yn (fun k=>idx k 0 ks) st.objs ks with
  | some os=>some ⟨Qdz (fun k=>idx k 0 ks) st.slots live,os,st.nt⟩
  | none=>none
 else none
theorem Sim.gc {base:Nat} {live keep:List Nat} {st st':St} {D0 dl:List Nat} {a:Act} (h:Sim P B W0 D0 dl M ι st a W) (hg:Qe1 base live keep st=some st'):∃ι',Inj.leB base ι ι'/\Sim P B W0 D0 dl M ι' st' a W:=by
 unfold Qe1 at hg
 simp only at hg
 split at hg
 rotate_left
 ·cases hg
 rename_i hnd
 simp only [aE] at hnd
 obtain ⟨hnd,hkb⟩:=hnd
 have hkb:(List.range base++keep).length<=BIG:=bN hkb
 split at hg
 rotate_left
 ·cases hg
 rename_i os hos
 cases hg
 obtain ⟨hl,hat⟩:=Qeg hos
 have hlb:∀k,k < base->(List.range base++keep)[k]?=some k:=fun k hk=>by
  simp [aW (show k < (List.range base).length by simpa using hk),hk]
 have hbase:base<=BIG:=by simp at hkb; omega
 refine ⟨ιK ι (List.range base++keep),fun k p hk hp=>?_,⟨h.rel.gc h.big hos (Qh9 hnd) hkb,fun t y hy=>?_,h.nt,h.df,fun k hk=>?_,by show os.length<=BIG; omega⟩⟩
 ·rcases hk with hk | ⟨j,i,hj,rfl⟩
  ·simp only [ιK,Qky (show k < BIG by omega),hlb k hk,aC,hp]
  simp only [ιK,Qoo (hlb j hj),aC,hp]
 ·obtain ⟨x,hx,hxr⟩:=Qfw live t y hy
  refine (h.slots t x hx).renT (fun o o' p h1 h2=>?_) (fun j j' i p h1 h2=>by simp [ιK,Qoo (Qip h1),h2]) hxr
  have h3:=Qip h1
  have:o' < BIG:=bM (aD.1 h3).1 hkb
  simp only [ιK,Qky this,h3,aC,h2]
 have hk:¬ InB os.length k:=hk
 cases hx:ιK ι (List.range base++keep) k with
 | none=>rfl
 | some p =>
  exfalso
  refine hk ?_
  unfold ιK at hx
  cases hgk:gK (List.range base++keep) k with
  | none=>rw [hgk] at hx; cases hx
  | some k' =>
   rcases Qms hgk with ⟨_,e⟩ | ⟨j,i,k2,rfl,e,_⟩
   ·exact .inl (by rw [hl]; exact (aD.1 e).1)
   exact .inr ⟨j,i,by rw [hl]; exact (aD.1 e).1,rfl⟩
end
end Go.Ab
namespace Go.Ab
open Go.RowKit
section
variable {P:Program} {B:Nat} {W0 W:World} {D:List Nat} {M:CM} {ι:Inj} {σ:Sto}
theorem Rel.take {r:Nat} (h:Rel P B W0 (r::D) M ι σ W) (hnd:(r::D).Nodup) (hB:B<=r):Rel P B W0 D M ι σ (W.putObj r (.deferred none)):=by
 have hr:=h.defs r (by simp)
 have hc:=fun q=>Qm8 (o':=.deferred none) hr rfl rfl q
 have hf:=fun q=>Qkd (o':=.deferred none) hr rfl rfl q
 refine ⟨by simpa using h.size,Qma _ h.below hB,fun d hd=>?_,⟨fun b o v hv=>by rw [hc]; exact h.agree b o v hv,fun b x hm=>by
  obtain ⟨k1,k2,k3⟩:=h.agree.keep b x hm
  refine ⟨?_,k2,k3⟩
  rw [World.putObj_heap_other (fun e=>by subst e; rw [hr] at k1; cases k1; exact k3 _ rfl)]; exact k1,fun b o v hm=>by simp only [hc,hf]; exact h.agree.keepC b o v hm⟩,fun o bx nr fl w xs p k ho hp hk=>by simp only [hf]; exact h.cool o bx nr fl w xs p k ho hp hk,?_,?_,h.apart,h.loops,h.used⟩
 ·have:d≠r:=fun e=>by subst e; exact (List.nodup_cons.1 hnd).1 hd
  rw [World.putObj_heap_other this]; exact h.defs d (by simp [hd])
 ·intro o bx ro nr fl w xs ho
  obtain ⟨p,hp,hr'⟩:=h.row o bx ro nr fl w xs ho
  exact ⟨p,hp,hr'.world hc⟩
 intro o fn sl ps as bd st pe ho
 obtain ⟨p,nt,hp,hnt,hb,tmps,hsz,hrec,hsl⟩:=h.loop o fn sl ps as bd st pe ho
 refine ⟨p,nt,hp,hnt,hb,tmps,hsz,?_,hsl⟩
 rw [World.putObj_heap_other (fun e=>by rw [e,hr] at hrec; exact Qh8 hrec.symm)]; exact hrec
theorem Rel.mem (h:Rel P B W0 D M ι σ W) {D':List Nat} (hd:∀r∈D',r∈D):Rel P B W0 D' M ι σ W :=
 ⟨h.size,h.below,fun r hr=>h.defs r (hd r hr),h.agree,h.cool,h.row,h.loop,h.apart,h.loops,h.used⟩
theorem Rel.allocDef (h:Rel P B W0 D M ι σ W):Rel P B W0 (W.heap.size::D) M ι σ (W.alloc (.deferred (some []))):=by
 have h':=h.allocObj (.deferred (some [])) rfl
 refine ⟨h'.size,h'.below,fun r hr=>?_,h'.agree,h'.cool,h'.row,h'.loop,h'.apart,h'.loops,h'.used⟩
 rcases cC.1 hr with rfl | hr
 ·exact World.alloc_heap_new W _
 exact h'.defs r hr
theorem Rel.allocLoop (h:Rel P B W0 D M ι σ W) {o:Nat} (ho:ι o=none) {fn:FuncId} {nt:Nat} {tmps:Array Value} (hsz:tmps.size=nt) {sl:List (Nat × AV)} (hsl:Ql M ι (lk sl) tmps) (ps:Array Tmp) (as bd:Code) (d:Nat) :
  Rel P B W0 D M (ι.put o ⟨W.heap.size,d,0,0⟩) (σ.put o (.loop nt sl ps.toList as bd .ready none)) (W.alloc (.loop { state:=.ready,pending:=none,fn,tmps,params:=ps,assign:=as,body:=bd,defers:=d })):=by
 have:=h.allocRec ho (fn:=fn) hsz hsl ps as bd d .ready none
 rwa [Qce (by simp)] at this
theorem Rel.setLoop (h:Rel P B W0 D M ι σ W) {o:Nat} {nt:Nat} {sl:List (Nat × AV)} {ps:List Tmp} {as bd:Code} {st:LoopState} {pe:Option Code} {p:Place}
  (hσ:σ o=some (.loop nt sl ps as bd st pe)) (hp:ι o=some p) (hst:st≠.exhausted) (st':LoopState) (pe':Option Code) (hst':st'≠.exhausted) :
  ∃(tmps:Array Value) (fn:FuncId),tmps.size=nt/\W.heap[p.blk]?=some (.loop { state:=st,pending:=pe,fn,tmps,params:=ps.toArray,assign:=as,body:=bd,defers:=p.base })/\Ql M ι (lk sl) tmps /\
   Rel P B W0 D M ι (σ.put o (.loop nt sl ps as bd st' pe')) (W.putObj p.blk (.loop { state:=st',pending:=pe',fn,tmps,params:=ps.toArray,assign:=as,body:=bd,defers:=p.base })):=by
 obtain ⟨q,fn,hq,hnt,hB,tmps,hsz,hrec,hsl⟩:=h.loop o nt sl ps as bd st pe hσ
 rw [hp] at hq; cases hq
 refine ⟨tmps,fn,hsz,by rw [hrec,Qce hst],hsl,?_⟩
 have:=h.setRec hσ hp (x:=.loop nt sl ps as bd st' pe') (ob:=Qa4 { state:=st',pending:=pe',fn,tmps,params:=ps.toArray,assign:=as,body:=bd,defers:=p.base }) Qdi (.inr ⟨_,_,_,_,_,_,_,fn,tmps,rfl,rfl,hsz,hsl⟩)
 rw [Qce hst'] at this
 exact this
theorem Rel.endLoop (h:Rel P B W0 D M ι σ W) {o:Nat} {nt:Nat} {sl:List (Nat × AV)} {ps:List Tmp} {as bd:Code} {st:LoopState} {pe:Option Code} {p:Place}
  (hσ:σ o=some (.loop nt sl ps as bd st pe)) (hp:ι o=some p) (hst:st≠.exhausted) :
  ∃(tmps:Array Value) (fn:FuncId),tmps.size=nt/\W.heap[p.blk]?=some (.loop { state:=st,pending:=pe,fn,tmps,params:=ps.toArray,assign:=as,body:=bd,defers:=p.base })/\Ql M ι (lk sl) tmps /\
   Rel P B W0 D M ι (σ.put o .dead) (W.putObj p.blk (.loop { state:=.exhausted,pending:=pe,fn,tmps,params:=ps.toArray,assign:=as,body:=bd,defers:=p.base })):=by
 obtain ⟨q,fn,hq,hnt,hB,tmps,hsz,hrec,hsl⟩:=h.loop o nt sl ps as bd st pe hσ
 rw [hp] at hq; cases hq
 exact ⟨tmps,fn,hsz,by rw [hrec,Qce hst],hsl,h.setRec hσ hp rfl (.inl rfl)⟩
end
end Go.Ab
namespace Go.Ab
open Go.RowKit
def Qyc (P:Program) (σ:Sto) (t:TypeId) (x:AV):Option AV :=
 match ti P t,x with
 | some T,.fz cs=>Kq T cs
 | some T,.ptr o i c=>match σ o with
  | some (.row _ _ _ _ _ xs)=>match xs[i]? with
   | some x=>Kq T (x.flat.drop c)
   | none=>none
  | _=>none
 | _,_=>none
noncomputable def Q0p (P:Program) (st:St):ResultVar->Option AV
 | .tmp t=>lk st.slots t
 | .cell a t=>match lk st.slots a with
  | some x=>Qyc P (sto st.objs) t x
  | none=>none
noncomputable def Ql3 (P:Program) (st:St):List ResultVar->Option (List AV)
 | []=>some []
 | r::rs=>match Q0p P st r,Ql3 P st rs with
  | some x,some xs=>some (x::xs)
  | _,_=>none
noncomputable def resultA (P:Program) (fn:Func) (st:St):Option AV :=
 match Ql3 P st fn.results.toList with
 | some [x]=>some x
 | some xs=>some (.tup xs)
 | none=>none
def Qsc:List Nat -> List Nat -> List Nat
 | acc,[]=>acc.reverse
 | acc,x::xs=>if acc.any fun y=>Nat.beq x y then Qsc acc xs else Qsc (x::acc) xs
def Qyo (st:St) (v:AV):Option (AV × List AObj) :=
 let ks:=Qsc [] v.ids
 if Qlc ks then match v.ren (fun k=>idx k 0 ks),Yn (fun k=>idx k 0 ks) st.objs ks with
  | some r,some os=>if os.all AObj.okRow then some (r,os) else none
  | _,_=>none else none
noncomputable def Qix (st:St) (v:AV):Option Xk :=
 match Qyo st v with
 | some (r,os)=>some (.ret r os)
 | none=>match Qt (sto st.objs) Qo v with
  | some (r,_)=>some (.ret r [])
  | none=>none
def Vm:Nat -> List AV->List (Nat × AV)
 | _,[]=>[]
 | i,x::xs=>(i,x)::Vm (i+1) xs
theorem Qtf:∀(xs:List AV) (i t:Nat) (x:AV),lk (Vm i xs) t=some x->i<=t/\xs[t - i]?=some x
 | [],i,t,x,h=>by simp [Vm,lk] at h
 | y::ys,i,t,x,h=>by
  simp only [Vm,lk] at h
  split at h
  ·rename_i e; cases h; have:=aJ e; subst this; simp
  obtain ⟨h1,h2⟩:=Qtf ys (i+1) t x h
  refine ⟨by omega,?_⟩
  rw [show t - i=(t - (i+1))+1 by omega]; simpa using h2
section
variable {P:Program} {B:Nat} {W0 W:World} {D D0 dl:List Nat} {M:CM} {ι:Inj} {σ:Sto} {st st':St} {a:Act}
theorem Qvf (h:Rel P B W0 D M ι σ W) {t:TypeId} {x y:AV} {u:Value} (hv:Qa M ι u x) (he:Qyc P σ t x=some y) :
  ∃p v,u=.pointer (some p)/\(loadVar t p).run P W=.ok v W/\Qa M ι v y:=by
 unfold Qyc at he
 split at he
 ·rename_i T cs hT
  cases hv with
  | fz b off cs f hcs hM hrr =>
  obtain ⟨v,h1,h2⟩:=Qdf (W:=W) (M:=M) (ι:=ι) hT he hcs (b:=b) (off:=off) (fun j y hy=>⟨f j,h.agree _ _ _ (hM j y hy),(hrr j y hy).mono (CM.le_refl _) (Inj.noInj_le _)⟩)
  exact ⟨_,v,rfl,h1,h2⟩
 ·rename_i T ob ii c hT
  split at he
  ·rename_i bx ro nr fl w xs hσ
   split at he
   ·rename_i z hz
    obtain ⟨p,hp,hrow⟩:=h.row _ _ _ _ _ _ _ hσ
    cases hv with
    | ptr _ _ _ p' hp' =>
    rw [hp] at hp'; cases hp'
    obtain ⟨v,h1,h2⟩:=Qdf (W:=W) (M:=M) (ι:=ι) hT he (fun q hq=>(hrow.shaped z (aF hz)).cells q (bL hq)) (b:=p.blk) (off:=p.base+ii*p.w+c) (fun j q hq=>by
     rw [bE] at hq
     obtain ⟨v,hv,hr⟩:=hrow.cells ii (c+j) z q hz hq
     refine ⟨v,?_,hr⟩
     rw [hrow.pw,show p.base+ii*w+c+j=p.base+ii*w+(c+j) by omega]; exact hv)
    exact ⟨_,v,rfl,h1,h2⟩
   ·cases he
  ·cases he
 ·cases he
def Qml (tmps:Array Value):ResultVar->Sem Value
 | .tmp t=>pure (tmps.getD t undef)
 | .cell a t=>do loadVar t (<-asAddr (tmps.getD a undef))
theorem Qmg (h:Rel P B W0 D M ι (sto st.objs) W) {tmps:Array Value} (hs:Ql M ι (lk st.slots) tmps):∀(rs:List ResultVar) (xs:List AV),Ql3 P st rs=some xs ->
  ∃vs:List Value,(rs.mapM (Qml tmps)).run P W=.ok vs W/\vs.length=xs.length/\∀(j:Nat) (v:Value) (x:AV),vs[j]?=some v->xs[j]?=some x->Qa M ι v x
 | [],xs,he=>by cases he; exact ⟨[],rfl,rfl,fun j v x hv=>by simp at hv⟩
 | r::rs,xs,he=>by
  simp only [Ql3] at he
  split at he
  rotate_left
  ·cases he
  rename_i x xs' h1 h2
  cases he
  obtain ⟨vs,g1,g2,g3⟩:=Qmg h hs rs xs' h2
  have key:∃v,(Qml tmps r).run P W=.ok v W/\Qa M ι v x:=by
   cases r with
   | tmp t=>exact ⟨_,rfl,hs t x h1⟩
   | cell b t =>
    simp only [Q0p] at h1
    split at h1
    ·rename_i y hy
     obtain ⟨p,v,e1,e2,e3⟩:=Qvf h (hs b y hy) h1
     exact ⟨v,by simp [Qml,Sem.run_bind,e1,asAddr,e2],e3⟩
    cases h1
  obtain ⟨v,k1,k2⟩:=key
  refine ⟨v::vs,?_,by simp [g2],fun j u y hu hy=>?_⟩
  ·rw [List.mapM_cons]
   simp only [Sem.run_bind,Sem.run_pure]
   rw [k1]
   simp only [Result.andThen_ok]
   rw [g1]
   simp
  cases j with
  | zero=>simp at hu hy; subst hu; subst hy; exact k2
  | succ j=>exact g3 j u y (by simpa using hu) (by simpa using hy)
theorem Qey (h:Rel P B W0 D M ι (sto st.objs) W) {tmps:Array Value} (hs:Ql M ι (lk st.slots) tmps) {fn:Func} {x:AV} (he:resultA P fn st=some x):∃v,(results fn tmps).run P W=.ok v W/\Qa M ι v x:=by
 unfold resultA at he
 have main:∀xs,Ql3 P st fn.results.toList=some xs->∃vs:Array Value,(results fn tmps).run P W=.ok (if h:vs.size=1 then vs[0] else .tuple vs) W/\vs.size=xs.length/\∀(j:Nat) (v:Value) (x:AV),vs[j]?=some v->xs[j]?=some x->Qa M ι v x:=by
  intro xs hx
  obtain ⟨vs,g1,g2,g3⟩:=Qmg h hs _ _ hx
  refine ⟨vs.toArray,?_,by simpa using g2,fun j v x hv hx=>g3 j v x (by simpa using hv) hx⟩
  show (do let vs <-fn.results.mapM (Qml tmps); pure (if h:vs.size=1 then vs[0] else .tuple vs):Sem Value).run P W=_
  rw [Array.mapM_eq_mapM_toList]
  simp [Sem.run_bind,g1]
 split at he
 ·rename_i y hy
  cases he
  obtain ⟨vs,g1,g2,g3⟩:=main _ hy
  have h1:vs.size=1:=by simpa using g2
  rw [dif_pos h1] at g1
  exact ⟨_,g1,g3 0 _ _ (aL (by omega)) rfl⟩
 ·rename_i xs hne hy
  cases he
  obtain ⟨vs,g1,g2,g3⟩:=main _ hy
  have h1:¬ vs.size=1:=fun e=>by
   rw [g2] at e
   cases xs with
   | nil=>simp at e
   | cons z zs=>cases zs with
    | nil=>exact hne z rfl
    | cons _ _=>simp at e
  rw [dif_neg h1] at g1
  exact ⟨_,g1,.tup _ _ g2 g3⟩
 cases he
theorem Qf8 {F:Fence} {n:Nat} {fn:Func} {tmps:Array Value} {R:Ending->World->Prop} {u:FrameMode} (hu:u≠.run):∀(dl:List Nat) (W:World),Rel P B W0 (dl++D0) M ι σ W->(dl++D0).Nodup->(∀r∈dl,B<=r) ->
  (∀W',Rel P B W0 D0 M ι σ W'->LeavesInM F n P fn tmps R [] u W')->LeavesInM F n P fn tmps R (dl.map mk) u W
 | [],W,h,_,_,hk=>hk W h
 | r::dl,W,h,hnd,hB,hk=>by
  refine ⟨hu,.inl ⟨r,_,rfl,run_takeDeferred (h.defs r (by simp)),?_⟩⟩
  exact Qf8 hu dl _ (h.take hnd (hB r (by simp))) (List.nodup_cons.1 hnd).2 (fun q hq=>hB q (by simp [hq])) hk
theorem Qu8 {x:AObj} (h:x.okRow=true):x.isPlain=true:=by cases x <;> simp_all [AObj.okRow,AObj.isPlain]
theorem Qrz (h:Rel P B W0 [] M ι (sto st.objs) W) (hb:st.objs.length<=BIG) {v:Value} {x:AV} {out:Xk} (hv:Qa M ι v x) (he:Qix st x=some out) :
  ∃r os M' ι',out=.ret r os/\CM.Grow B M M'/\Rel P B W0 [] M' ι' (fun k=>os[k]?) W/\(∀k,os.length<=k->ι' k=none)/\Qa M' ι' v r:=by
 unfold Qix at he
 split at he
 ·rename_i r os hm
  unfold Qyo at hm
  simp only at hm
  split at hm
  ·rename_i hnd
   split at hm
   ·rename_i r' os' h1 h2
    split at hm
    ·rename_i hall
     cases hm
     cases he
     refine ⟨r,os,M,_,rfl,.refl _ _,h.gcP hb h2 (Qh9 hnd) (fun x hx=>Qu8 (bO.1 hall x hx)),fun k hk=>?_,hv.ren (fun o o' p=>ιkeep_idx o o' p) h1⟩
     obtain ⟨l,_⟩:=Qeg h2
     simp [ιkeep,dL (show (Qsc [] x.ids).length<=k by omega)]
    ·cases hm
   ·cases hm
  ·cases hm
 ·split at he
  ·rename_i r ids hsn
   cases he
   refine ⟨r,[],Zr M W (inC (sto st.objs) ι ids),noInj,rfl,h.growC ids,?_,fun _ _=>rfl,Yv h ids Qo x r ids v hsn (fun k hk=>hk) hv⟩
   exact ⟨h.size,h.below,h.defs,Qcy h.agree,fun o bx nr fl w xs p k ho=>(by simp at ho),fun o bx ro nr fl w xs ho=>(by simp at ho),fun o fn sl ps as bd st pe ho=>(by simp at ho),fun o o' bx nr fl w xs bx' nr' fl' w' xs' p p' _ ho=>(by simp at ho),fun o o' fn sl ps as bd st pe fn' sl' ps' as' bd' st' pe' p p' _ ho=>(by simp at ho),fun o _=>.inl (by simp)⟩
  ·cases he
theorem Qrp (h:Qbj M W):Rel P W.heap.size W [] M noInj (sto []) W:=by
 rw [Q4b]
 exact ⟨aZ _,.refl _ _,fun r hr=>(by simp at hr),h,fun o bx nr fl w xs p k ho=>(by simp at ho),fun o bx ro nr fl w xs ho=>(by simp at ho),fun o fn sl ps as bd st pe ho=>(by simp at ho),fun o o' bx nr fl w xs bx' nr' fl' w' xs' p p' _ ho=>(by simp at ho),fun o o' fn sl ps as bd st pe fn' sl' ps' as' bd' st' pe' p p' _ ho=>(by simp at ho),fun o _=>.inl (by simp)⟩
def st0 (nt:Nat) (args:List AV):St:=⟨Vm 0 args,[],nt⟩
theorem Qd3 {vs:Array Value} {args:List AV} (nt:Nat) (hr:∀(j:Nat) (v:Value) (x:AV),vs[j]?=some v->args[j]?=some x->Qa M ι v x) (hl:vs.size=args.length) :
  Ql M ι (lk (Vm 0 args)) (vs++Array.replicate (nt - vs.size) undef):=by
 intro t x ht
 obtain ⟨_,h2⟩:=Qtf _ _ _ _ ht
 simp only [cZ] at h2
 have hlt:t < vs.size:=by rw [hl]; exact (aD.1 h2).1
 rw [bC,dV hlt,aL hlt]
 exact hr t _ x (aL hlt) h2
def Xo.ends:Xo->Bool
 | .normal | .ret=>true
 | _=>false
theorem callOk_exec {f:FuncId} {fn:Func} {c:Code} {args:List AV} {e:Xo} {x:AV} {out:Xk} (hf:P.funcs[f]?=some fn) (hb:fn.body=some c) (hle:args.length<=fn.ntmps)
  (h:Xi P none 0 c (st0 fn.ntmps args) (.go e st')) (hend:e.ends=true) (hr:resultA P fn st'=some x) (hx:Qix st' x=some out):Q3 P f args out:=by
 intro W M vs hag hsz hrep
 refine callsIn_wide.1 (callsIn_of_wp_marks (F:=FW none) (n:=0) hf hb trivial ?_)
 refine h W.heap.size W [] [] M noInj _ W 0 _ none ⟨by simpa [st0] using Qrp hag,Qd3 fn.ntmps hrep hsz,by simp [st0]; omega,⟨rfl,fun r hr=>by simp at hr,List.nodup_nil⟩,fun _ _=>rfl,eC _⟩ rfl ⟨?_,fun v hv=>by cases hv⟩
 intro e' st'' he dl' M' ι' a' W' g1 g2 g3 g4
 cases he
 have hex:e.exit'=.normal\/e.exit'=.ret:=by cases e <;> simp_all [Xo.ends,Xo.exit']
 have cut:∀R,LeavesInM (FW none) 0 P fn a'.tmps R a'.defers .returning W'->bodyPostM (FW none) 0 P fn R e.exit' a' W':=fun R hR=>by
  rcases hex with e1 | e1 <;> rw [e1] <;> exact hR
 apply cut
 rw [g4.df.defs]
 refine Qf8 (by simp) dl' W' g4.rel g4.df.nd g4.df.old (fun W2 h2=>?_)
 obtain ⟨v,k1,k2⟩:=Qey h2 g4.slots hr
 obtain ⟨r,os,M2,ι2,rfl,q1,q2,q3,q4⟩:=Qrz h2 g4.big k2 hx
 exact ⟨v,k1,v,M2,ι2,rfl,g1.trans q1,q2,q3,q4⟩
theorem Qow {f:FuncId} {fn:Func} {c:Code} {args:List AV} {x:AV} (hf:P.funcs[f]?=some fn) (hb:fn.body=some c) (hle:args.length<=fn.ntmps)
  (h:Xi P none 0 c (st0 fn.ntmps args) (.pan x)):Q3 P f args (.pan x):=by
 intro W M vs hag hsz hrep
 refine callsIn_wide.1 (callsIn_of_wp_marks (F:=FW none) (n:=0) hf hb trivial ?_)
 refine h W.heap.size W [] [] M noInj _ W 0 _ none ⟨by simpa [st0] using Qrp hag,Qd3 fn.ntmps hrep hsz,by simp [st0]; omega,⟨rfl,fun r hr=>by simp at hr,List.nodup_nil⟩,fun _ _=>rfl,eC _⟩ rfl ⟨fun e st he=>(by cases he),?_⟩
 intro v he dl' M' a' W' u g1 g2 g3 g4 g5
 cases he
 show LeavesInM (FW none) 0 P fn a'.tmps _ a'.defers (.panicking _) W'
 rw [g4.defs]
 exact Qf8 (by simp) dl' W' g3 g4.nd g4.old (fun W2 h2=>⟨u,M',rfl,g1,h2,g5⟩)
end
end Go.Ab
namespace Go.Ab
open Go.RowKit
section
variable {P:Program} {B:Nat} {W0 W:World} {D D0 dl:List Nat} {M:CM} {ι:Inj} {σ:Sto} {st st':St} {a:Act} {rd:Option Nat} {base:Nat} {out:AOut} {o:Oper}
theorem Sim.le {ι':Inj} (h:Sim P B W0 D0 dl M ι st a W) (hl:Inj.leB st.objs.length ι ι'):ι.le ι':=by
 intro k p hk
 refine hl k p ?_ hk
 refine Classical.byContradiction fun e=>?_
 rw [h.new k e] at hk; cases hk
theorem Q2h {r:Option Nat} {n:Nat} {f:FuncId} {args:Array Value} {R:Ending->World->Prop} (h:CallsIn (FW none) 0 P f args W R):CallsIn (FW r) n P f args W R :=
 Qfk (callsIn_wide.1 h)
theorem Qlh {f:FuncId} {fn:Func} {c:Code} {args:Array Value} {slots:List (Nat × AV)} {objs:List AObj} (hf:P.funcs[f]?=some fn) (hb:fn.body=some c)
  (h:Xi P none objs.length c ⟨slots,objs,fn.ntmps⟩ out)
  (hrel:Rel P B W0 (dl++D0) M ι (sto objs) W) (hnd:(dl++D0).Nodup) (hnew:∀k,¬ InB objs.length k->ι k=none) (hbig:objs.length<=BIG)
  (hsl:Ql M ι (lk slots) (args++Array.replicate (fn.ntmps - args.size) undef)) (hsz:args.size<=fn.ntmps) {r:Option Nat} {n:Nat} {R:Ending->World->Prop}
  (hret:∀e st' x,out=.go e st'->e.ends=true->resultA P fn st'=some x->∀v M' ι' W',CM.Grow B M M'->ι.le ι'->Rel P B W0 (dl++D0) M' ι' (sto st'.objs) W'->(∀k,¬ InB st'.objs.length k->ι' k=none)->st'.objs.length<=BIG->Qa M' ι' v x->R (.returned v) W')
  (hok:match out with | .go e st'=>e.ends=true/\(resultA P fn st').isSome=true | .pan _=>True)
  (hpan:∀x,out=.pan x->∀v M' W',CM.Grow B M M'->Rel P B W0 (dl++D0) M' noInj (fun _=>none) W'->Qa M' noInj v x->R (.panicked [{ v,recovered:=false }]) W') :
  CallsIn (FW r) n P f args W R:=by
 refine Q2h (callsIn_of_wp_marks (F:=FW none) (n:=0) hf hb trivial ?_)
 refine h B W0 (dl++D0) [] M ι _ W 0 _ none ⟨by simpa using hrel,hsl,by simp; omega,⟨rfl,fun r hr=>by simp at hr,by simpa using hnd⟩,hnew,hbig⟩ rfl ⟨?_,?_⟩
 ·intro e st' he dl' M' ι' a' W' g1 g2 g3 g4
  subst he
  obtain ⟨hends,hres⟩:=hok
  obtain ⟨x,hx⟩:=dP.1 hres
  have hle:ι.le ι':=by
   intro k p hk
   refine g2 k p (Classical.byContradiction fun e=>?_) hk
   rw [hnew k e] at hk; cases hk
  have hex:e.exit'=.normal\/e.exit'=.ret:=by cases e <;> simp_all [Xo.ends,Xo.exit']
  have cut:∀R,LeavesInM (FW none) 0 P fn a'.tmps R a'.defers .returning W'->bodyPostM (FW none) 0 P fn R e.exit' a' W':=fun R hR=>by
   rcases hex with e1 | e1 <;> rw [e1] <;> exact hR
  apply cut
  rw [g4.df.defs]
  refine Qf8 (by simp) dl' W' g4.rel g4.df.nd g4.df.old (fun W2 h2=>?_)
  obtain ⟨v,k1,k2⟩:=Qey h2 g4.slots hx
  exact ⟨v,k1,hret e st' x rfl hends hx v M' ι' W2 g1 hle h2 g4.new g4.big k2⟩
 ·intro x he dl' M' a' W' u g1 g2 g3 g4 g5
  subst he
  show LeavesInM (FW none) 0 P fn a'.tmps _ a'.defers (.panicking _) W'
  rw [g4.defs]
  exact Qf8 (by simp) dl' W' g3 g4.nd g4.old (fun W2 h2=>hpan x rfl u M' W2 g1 h2 g5)
theorem Qo6 {first' caps':Array Value} {first caps as:List AV} {vs:Array Value} (h1:first'.size=first.length) (h2:caps'.size=caps.length) (h3:vs.size=as.length)
  (k1:∀(j:Nat) (v:Value) (y:AV),first'[j]?=some v->first[j]?=some y->Qa M ι v y) (k3:∀(j:Nat) (v:Value) (y:AV),vs[j]?=some v->as[j]?=some y->Qa M ι v y)
  (k2:∀(j:Nat) (v:Value) (y:AV),caps'[j]?=some v->caps[j]?=some y->Qa M ι v y) (nt:Nat) :
  Ql M ι (lk (Vm 0 (first++as++caps))) ((first'++vs++caps')++Array.replicate (nt - (first'++vs++caps').size) undef) :=
 Qd3 nt (Qjb h1 h3 h2 k1 k3 k2) (by simp [h1,h2,h3])
theorem Qxp {g:Operand} {args:Array Operand} {ts:Array TypeId} {f:FuncId} {fn:Func} {c:Code} {first caps as:List AV} {e:Xo} {x:AV} {slots:List (Nat × AV)}
  (ho:o.op=.call { callee:=.value g,args,argTypes:=ts }) (hg:evo (lk st.slots) g=some (.fn (.func f) first caps)) (has:J3 (lk st.slots) args.toList=some as)
  (hf:P.funcs[f]?=some fn) (hb:fn.body=some c) (hn:(fn.name == "runtime.NumGoroutine")=false) (hle:(first++as++caps).length<=fn.ntmps)
  (h:Xi P none st.objs.length c ⟨Vm 0 (first++as++caps),st.objs,fn.ntmps⟩ (.go e st')) (hend:e.ends=true) (hr:resultA P fn st'=some x) (hput:Vv st.slots st.nt o.dst (some x)=some slots) :
  OpX P rd base o st (.go .normal ⟨slots,st'.objs,st.nt⟩):=by
 intro B W0 D0 dl M ι a W n Q r hs hr' hp
 have hgv:=Qg hs.slots hg
 generalize hgu:a.eval g=gu at hgv
 cases hgv with
 | fn _ first' caps' _ _ hy hm h1 h2 hr1 hr2 =>
 obtain ⟨l1,e1⟩:=V0 hs.slots has
 refine ⟨fun _ _=>trivial,?_⟩
 rw [Oper.semAt_eq _ _ _ (by rw [ho]; simp)]
 have hrun:(execOp a.eval o).run P W=.ok (.enter f (first'++args.map a.eval++caps')) W:=by
  simp only [execOp,ho,resolve,hgu,Deferred.ofValue,Sem.run_bind,Sem.run_pure,Result.andThen_ok,invoke]
  exact Ji hf (by rw [hb]; rfl) hn _ W
 rw [hrun,Oper.uponIn_enter]
 refine ⟨fun hd=>by simp [FW,Fence.wide] at hd,Qlh hf hb h hs.rel hs.df.nd hs.new hs.big ?_ ?_ ?_ ⟨hend,by rw [hr]; rfl⟩ (fun x hx=>by cases hx)⟩
 ·exact Qo6 h1 h2 (by simpa using l1.symm) hr1 (fun j v y hv hy=>by
   simp only [Array.getElem?_map,aR] at hv
   obtain ⟨w,hw,rfl⟩:=hv
   exact (e1 j w y (by simpa using hw) hy).2) hr2 _
 ·have:(first++as++caps).length=(first'++args.map a.eval++caps').size:=by simp [h1,h2,l1]
  omega
 ·intro e' st'' x' he hends hx v M' ι' W' g1 g2 g3 g4 g4b g5
  cases he
  rw [hr] at hx
  cases hx
  obtain ⟨k1,k2,k3⟩:=Qbb (u:=v) (hs.slots.mono g1.le g2) hs.nt hput (fun y hy=>by cases hy; exact g5)
  exact hp.go .normal _ rfl dl M' ι' _ W' g1 (g2.leB base) (List.suffix_refl _) ⟨g3,k1,k2,hs.df.put,g4,g4b⟩
def Qmx:List (Nat × AV)->List Tmp->List AV->List (Nat × AV)
 | s,t::ts,x::xs=>Qmx (setS s t x) ts xs
 | s,_,_=>s
theorem Qt3:∀(ps:List Tmp) (as:List AV) (vs:List Value) (s:List (Nat × AV)) (tmps:Array Value),vs.length=as.length->(∀(j:Nat) (v:Value) (y:AV),vs[j]?=some v->as[j]?=some y->Qa M ι v y) ->
  (∀t∈ps,t < tmps.size)->Ql M ι (lk s) tmps->Ql M ι (lk (Qmx s ps as)) ((ps.zip vs).foldl (fun tmps (t,a)=>tmps.setIfInBounds t a) tmps)/\((ps.zip vs).foldl (fun tmps (t,a)=>tmps.setIfInBounds t a) tmps).size=tmps.size
 | [],as,vs,s,tmps,_,_,_,hs=>by cases as <;> exact ⟨hs,rfl⟩
 | t::ts,[],[],s,tmps,_,_,_,hs=>⟨hs,rfl⟩
 | t::ts,x::xs,v::vs,s,tmps,hl,hr,hlt,hs=>by
  simp only [Qmx,List.zip_cons_cons,List.foldl_cons]
  have h0:Ql M ι (lk (setS s t x)) (tmps.setIfInBounds t v):=by
   intro k y hk
   rw [Qf5] at hk
   by_cases e:t=k
   ·subst e
    rw [aH rfl] at hk; cases hk
    rw [bC]
    simp [hlt t (by simp)]
    exact hr 0 v x rfl rfl
   rw [aI e] at hk
   rw [bC,Array.getElem?_setIfInBounds_ne e,<-bC]
   exact hs k y hk
  obtain ⟨h1,h2⟩:=Qt3 ts xs vs (setS s t x) (tmps.setIfInBounds t v) (by simpa using hl) (fun j u y hu hy=>hr (j+1) u y (by simpa using hu) (by simpa using hy)) (fun q hq=>by simp; exact hlt q (by simp [hq])) h0
  exact ⟨h1,by rw [h2]; simp⟩
def Xo.pend:Xo->Option Code
 | .normal=>none
 | .ret=>some .ret
 | .exit id=>some (.exit id)
 | .goto l=>some (.goto l)
theorem Qyy {ps:List Tmp} {vs:Array Value} {tmps:Array Value}:(ps.toArray.zip vs).foldl (fun tmps (x:Tmp × Value)=>tmps.setIfInBounds x.1 x.2) tmps=(ps.zip vs.toList).foldl (fun tmps (x:Tmp × Value)=>tmps.setIfInBounds x.1 x.2) tmps:=by
 rw [<-Array.foldl_toList]
 simp
theorem Qys {g:Operand} {args:Array Operand} {ts:Array TypeId} {l nt nt2:Nat} {as:List AV} {sl sl2:List (Nat × AV)} {ps ps2:List Tmp} {assign body as2 bd2:Code} {pe pe2:Option Code} {slA slots:List (Nat × AV)} {objsA:List AObj} {e:Xo}
  {slL psL asL bdL peL} {ntL:Nat}
  (ho:o.op=.call { callee:=.value g,args,argTypes:=ts }) (hg:evo (lk st.slots) g=some (.yld l)) (has:J3 (lk st.slots) args.toList=some as)
  (hl:st.objs[l]?=some (.loop nt sl ps assign body .ready pe)) (hlen:as.length=ps.length) (hps:∀t∈ps,t < nt)
  (hA:Xi P (some l) st.objs.length assign ⟨Qmx sl ps as,st.objs,nt⟩ (.go .normal ⟨slA,objsA,nt⟩))
  (hlA:objsA[l]?=some (.loop ntL slL psL asL bdL .ready peL))
  (hB:Xi P (some l) st.objs.length body ⟨slA,objsA.set l (.loop ntL slL psL asL bdL .busy peL),nt⟩ (.go e st'))
  (hlB:st'.objs[l]?=some (.loop nt2 sl2 ps2 as2 bd2 .busy pe2))
  (hput:Vv st.slots st.nt o.dst (some (.bool e.pend.isNone))=some slots) :
  OpX P rd base o st (.go .normal ⟨slots,st'.objs.set l (.loop nt2 sl2 ps2 as2 bd2 (if e.pend.isNone then .ready else .done) e.pend),st.nt⟩):=by
 intro B W0 D0 dl M ι a W n Q r hs hr' hp
 have hgv:=Qg hs.slots hg
 generalize hgu:a.eval g=gu at hgv
 cases hgv with
 | yld _ p hpl =>
 obtain ⟨l1,e1⟩:=V0 hs.slots has
 obtain ⟨p',fnc,hp',_,hB0,tmps,hsz,hrec,hsl⟩:=hs.rel.loop l nt sl ps assign body .ready pe (by rw [Zo (bM (aD.1 hl).1 hs.big),hl]; rfl)
 rw [Qce (by simp)] at hrec
 rw [hpl] at hp'; cases hp'
 refine ⟨fun _ _=>trivial,?_⟩
 rw [Oper.semAt_eq _ _ _ (by rw [ho]; simp)]
 have hrun:(execOp a.eval o).run P W=(Instr.yield p.blk (args.map a.eval)).run P W:=by
  simp [execOp,ho,resolve,hgu,Deferred.ofValue,Sem.run_bind,Sem.run_pure,Result.andThen_ok,invoke]
 rw [hrun,run_yield hrec (by simp; rw [<-hlen,<-cW]; exact l1.symm)]
 rw [Oper.uponIn_round]
 refine ⟨fun hd=>by simp [FW,Fence.wide] at hd,roundIn_of_wpIn trivial ?_⟩
 have hvals:∀(j:Nat) (v:Value) (y:AV),(args.map a.eval).toList[j]?=some v->as[j]?=some y->Qa M ι v y:=fun j v y hv hy=>by
  simp only [Array.toList_map,bD,aR] at hv
  obtain ⟨w,hw,rfl⟩:=hv
  exact (e1 j w y hw hy).2
 have htm:=Qt3 (M:=M) (ι:=ι) ps as (args.map a.eval).toList sl tmps (by simp [l1]) hvals (fun t ht=>by rw [hsz]; exact hps t ht) hsl
 rw [<-Qyy] at htm
 have hround:Ke ι (some l) (some p.blk) st.objs.length:=⟨(aD.1 hl).1,p,hpl,rfl⟩
 refine hA B W0 (dl++D0) [] M ι _ W _ _ (some p.blk) ⟨by simpa using hs.rel,htm.1,by rw [htm.2,hsz],⟨rfl,fun r hr=>by simp at hr,by simpa using hs.df.nd⟩,hs.new,hs.big⟩ hround ⟨?_,fun v hv=>by cases hv⟩
 intro eA stA he dlA MA ιA aA WA g1 g2 g3 g4
 cases he
 have hlB0:l < BIG:=bM (aD.1 hl).1 hs.big
 have hιA:ιA l=some p:=g2 l p (.inl hround.1) hpl
 obtain ⟨tmA,fnA,hszA,hrecA,hslA,hrelA⟩:=g4.rel.setLoop (by rw [Zo hlB0,hlA]; rfl) hιA (by simp) .busy peL (by simp)
 refine ⟨_,run_beginRound hrecA rfl,?_⟩
 have hroundA:Ke ιA (some l) (some p.blk) st.objs.length:=hround.mono g2
 refine hB B W0 (dl++D0) dlA MA ιA aA _ _ _ (some p.blk) ⟨by rw [Qcg hlA rfl rfl hlB0]; exact hrelA,g4.slots,g4.nt,g4.df,fun k hk=>g4.new k (by simpa using hk),by simpa using g4.big⟩ hroundA ⟨?_,fun v hv=>by cases hv⟩
 intro eB stB he dlB MB ιB aB WB k1 k2 k3 k4
 cases he
 have hιB:ιB l=some p:=k2 l p (.inl hround.1) hιA
 obtain ⟨tmB,fnB,hszB,hrecB,hslB,hrelB⟩:=k4.rel.setLoop (by rw [Zo hlB0,hlB]; rfl) hιB (by simp) (if e.pend.isNone then .ready else .done) e.pend (by split <;> simp)
 have hle:ι.le ιB:=fun k q hk=>by
  have hkl:InB st.objs.length k:=Classical.byContradiction fun e=>by rw [hs.new k e] at hk; cases hk
  exact k2 k q hkl (g2 k q hkl hk)
 have hrelB':Rel P B W0 (dl++D0) MB ιB (sto (st'.objs.set l (.loop nt2 sl2 ps2 as2 bd2 (if e.pend.isNone then .ready else .done) e.pend))) (WB.putObj p.blk (.loop { state:=if e.pend.isNone then .ready else .done,pending:=e.pend,fn:=fnB,tmps:=tmB,params:=ps2.toArray,assign:=as2,body:=bd2,defers:=p.base })):=by
  rw [Qcg hlB rfl rfl hlB0]; exact hrelB.mem (fun r hr=>bT.2 (.inr hr))
 have fin:∀v,v=Value.bool e.pend.isNone->Q .normal (a.put o.dst v) (WB.putObj p.blk (.loop { state:=if e.pend.isNone then .ready else .done,pending:=e.pend,fn:=fnB,tmps:=tmB,params:=ps2.toArray,assign:=as2,body:=bd2,defers:=p.base })):=by
  intro v hv
  obtain ⟨q1,q2,q3⟩:=Qbb (u:=v) (hs.slots.mono (g1.trans k1).le hle) hs.nt hput (fun y hy=>by cases hy; rw [hv]; exact .bool _)
  exact hp.go .normal _ rfl dl MB ιB _ _ (g1.trans k1) (hle.leB base) (List.suffix_refl _) ⟨hrelB',q1,q2,hs.df.put,fun k hk=>k4.new k (by simpa using hk),by simpa using k4.big⟩
 cases e with
 | normal=>exact ⟨_,_,run_endRound none hrecB,fin _ rfl⟩
 | ret=>exact ⟨_,_,run_endRound (some .ret) hrecB,fin _ rfl⟩
 | exit id=>exact ⟨_,_,run_endRound (some (.exit id)) hrecB,fin _ rfl⟩
 | goto l=>exact ⟨_,_,run_endRound (some (.goto l)) hrecB,fin _ rfl⟩
end
end Go.Ab
