/- Rules. No conditions. -/
import Derived.Test.YtapoljjoedcknaaEng7
set_option linter.all false
namespace Go.Ab
open Go.RowKit
def Xz {κ α:Type} (ke:κ→AV) (enc:α→AV) (p:κ × α):AV × AV:=(ke p.1,enc p.2)
def Vd {κ α:Type} (ke:κ→AV) (enc:α→AV) (l:List (κ × α)):AObj:=mapO (l.map (Xz ke enc))
def kget {κ α:Type} (e:κ→κ→Bool):List (κ × α)→κ→Option α
 | [],_=>none
 | p::r,n=>if e n p.1 then some p.2 else kget e r n
def kput {κ α:Type} (e:κ→κ→Bool):List (κ × α)→κ→α→List (κ × α)
 | [],n,v=>[(n,v)]
 | p::r,n,v=>if e n p.1 then (n,v)::r else p::kput e r n v
section
variable {P:Program} {κ α:Type} {ke:κ→AV} {enc:α→AV} {e:κ→κ→Bool} {kt:TypeId}
theorem Qgm (hk:∀a b,Xj P kt (ke a) (ke b)=some (e a b)) {n:κ}:∀(l:List (κ × α)) (i:Nat),kget e l n=none→Yz (Xj P kt) (ke n) (l.map (Xz ke enc)) i=some none
 | [],i,_=>rfl
 | p::r,i,h=>by
  unfold kget at h
  split at h
  ·cases h
  ·rename_i hc
   simp only [List.map_cons,Xz,Yz,hk]
   rw [show e n p.1=false by simpa using hc]
   exact Qgm hk r (i+1) h
theorem Qly (hk:∀a b,Xj P kt (ke a) (ke b)=some (e a b)) {n:κ} {v:α}:∀(l:List (κ × α)) (i:Nat),kget e l n=some v→∃j,Yz (Xj P kt) (ke n) (l.map (Xz ke enc)) i=some (some (i+j,enc v))∧∀w,(l.map (Xz ke enc)).set j (Xz ke enc (n,w))=(kput e l n w).map (Xz ke enc)
 | [],i,h=>by cases h
 | p::r,i,h=>by
  unfold kget at h
  split at h
  ·rename_i hc
   cases h
   refine ⟨0,?_,fun w=>?_⟩
   ·simp only [List.map_cons,Xz,Yz,hk,hc,Nat.add_zero]
   ·simp only [kput,hc,if_true,List.map_cons,List.set_cons_zero]
  ·rename_i hc
   have hc':e n p.1=false:=by simpa using hc
   obtain ⟨j,h1,h2⟩:=Qly hk r (i+1) h
   refine ⟨j+1,?_,fun w=>?_⟩
   ·simp only [List.map_cons,Xz,Yz,hk,hc']
    rw [show i+(j+1)=i+1+j by omega]
    exact h1
   ·simp only [kput,hc',List.map_cons,List.set_cons_succ,h2 w]
    simp
theorem Qnn {n:κ} {w:α}:∀(l:List (κ × α)),kget e l n=none→l.map (Xz ke enc)++[Xz ke enc (n,w)]=(kput e l n w).map (Xz ke enc)
 | [],_=>rfl
 | p::r,h=>by
  unfold kget at h
  split at h
  ·cases h
  ·rename_i hc
   have hc':e n p.1=false:=by simpa using hc
   simp only [kput,hc',List.map_cons,List.cons_append,Qnn r h]
   simp
end
section
variable {P:Program} {rd:Option Nat} {base:Nat} {ops:Array Oper} {d:Option (List Sk)} {st S:St} {Φ:AOut→Prop} {i:Nat}
noncomputable def Ql3 (P:Program) (ops:Array Oper) (i:Nat) (st:St):Option (Nat × TypeId × AV × Bool × AV) :=
 match Xy ops i st with
 | some o=>match o.op with
  | .lookup t x ix c=>match ti P t,evo (lk st.slots) x,evo (lk st.slots) ix with
   | some T,some (.mp ob),some k=>match T.kind with
    | .map kt et=>match (ti P et).bind (·.zero) with
     | some z=>some (ob,kt,k,c,z)
     | _=>none
    | _=>none
   | _,_,_=>none
  | _=>none
 | none=>none
theorem Qti {κ α:Type} {ke:κ→AV} {enc:α→AV} {e:κ→κ→Bool} {l:List (κ × α)} {n:κ} {z:α} {ob:Nat} {kt:TypeId} {c:Bool} (hi:Ql3 P ops i st=some (ob,kt,ke n,c,enc z)) (hk:∀a b,Xj P kt (ke a) (ke b)=some (e a b)) (hrow:st.sto ob=some (Vd ke enc l)) (hok:∀v,(enc v).okv=true)
  (hS:Z1 ops i st (some (if c then .tup [enc ((kget e l n).getD z),.bool (kget e l n).isSome] else enc ((kget e l n).getD z))) []=some S) (k:RW P rd base ops (Zd d [([],[ob])]) (i+1) S Φ):RW P rd base ops d i st Φ:=by
 unfold Ql3 at hi
 split at hi
 ·rename_i o ho
  split at hi
  ·rename_i t x ix c' hop
   split at hi
   ·rename_i T ob' k' hT hx hix
    split at hi
    ·rename_i kt et hkind
     split at hi
     ·rename_i z' hz
      cases hi
      refine Vr (nf:=false) (v:=some (if c then .tup [enc ((kget e l n).getD z),.bool (kget e l n).isSome] else enc ((kget e l n).getD z))) (eff:=[]) (fr:=st.objs.length) (rds:=[ob]) ho ?_ hS (Yk hS) k
      rw [Qkn]
      simp only [evalOp,hop]
      unfold Qdu
      have hes:(st.sto ob).bind Qa6=some (l.map (Xz ke enc)):=by rw [hrow]; exact Qhu _
      simp only [hT,hx,hix,hkind,hes,hk,hz]
      cases hg:kget e l n with
      | none =>
       rw [Qgm hk l 0 hg]
       simp only [hok,if_true,Option.getD_none,Option.isSome_none]
      | some v =>
       obtain ⟨j,h1,_⟩:=Qly (enc:=enc) hk l 0 hg
       rw [h1]
       simp only [hok,if_true,Option.getD_some,Option.isSome_some]
     ·cases hi
    ·cases hi
   ·cases hi
  ·cases hi
 ·cases hi
end
def kpos {κ α:Type} (e:κ→κ→Bool):List (κ × α)→κ→Nat
 | [],_=>0
 | p::r,n=>if e n p.1 then 0 else kpos e r n+1
section
variable {P:Program} {κ α:Type} {ke:κ→AV} {enc:α→AV} {e:κ→κ→Bool} {kt:TypeId}
theorem Qnk (hk:∀a b,Xj P kt (ke a) (ke b)=some (e a b)) {n:κ} {v:α}:∀(l:List (κ × α)) (i:Nat),kget e l n=some v→Yz (Xj P kt) (ke n) (l.map (Xz ke enc)) i=some (some (i+kpos e l n,enc v))∧∀w,(l.map (Xz ke enc)).set (kpos e l n) (Xz ke enc (n,w))=(kput e l n w).map (Xz ke enc)
 | [],i,h=>by cases h
 | p::r,i,h=>by
  unfold kget at h
  split at h
  ·rename_i hc
   cases h
   refine ⟨?_,fun w=>?_⟩
   ·simp only [List.map_cons,Xz,Yz,hk,hc,kpos,if_true,Nat.add_zero]
   ·simp only [kput,kpos,hc,if_true,List.map_cons,List.set_cons_zero]
  ·rename_i hc
   have hc':e n p.1=false:=by simpa using hc
   obtain ⟨h1,h2⟩:=Qnk hk r (i+1) h
   refine ⟨?_,fun w=>?_⟩
   ·simp only [List.map_cons,Xz,Yz,hk,hc',kpos]
    rw [h1]
    simp only [Bool.false_eq_true,if_false]
    rw [show i+(kpos e r n+1)=i+1+kpos e r n by omega]
   ·simp only [kput,kpos,hc',List.map_cons,Bool.false_eq_true,if_false,List.set_cons_succ,h2 w]
theorem Qm7 {n:κ}:∀(l:List (κ × α)),kget e l n=none→kpos e l n=l.length
 | [],_=>rfl
 | p::r,h=>by
  unfold kget at h
  split at h
  ·cases h
  ·rename_i hc
   have hc':e n p.1=false:=by simpa using hc
   simp only [kpos,hc',Bool.false_eq_true,if_false,List.length_cons,Qm7 r h]
theorem Qol {n:κ} {v w:α}:∀(l:List (κ × α)),((kput e l n w).map (Xz ke enc))[kpos e l n]?=some (ke n,enc w)∧((kput e l n w).map (Xz ke enc)).set (kpos e l n) (ke n,enc v)=(kput e l n v).map (Xz ke enc)
 | []=>⟨rfl,rfl⟩
 | p::r=>by
  obtain ⟨h1,h2⟩:=Qol (n:=n) (v:=v) (w:=w) r
  by_cases hc:e n p.1=true
  ·simp [kput,kpos,hc,Xz]
  ·have hc':e n p.1=false:=by simpa using hc
   simp only [kput,kpos,hc',Bool.false_eq_true,if_false,List.map_cons,List.getElem?_cons_succ,List.set_cons_succ,h1,h2]
   exact ⟨trivial,trivial⟩
end
section
variable {P:Program} {rd:Option Nat} {base:Nat} {ops:Array Oper} {d:Option (List Sk)} {st S:St} {Φ:AOut→Prop} {i:Nat}
noncomputable def Qrt (P:Program) (ops:Array Oper) (i:Nat) (st:St):Option (Nat × TypeId × AV × AV) :=
 match Xy ops i st with
 | some o=>match o.op with
  | .mapEntry t x ix=>match ti P t,evo (lk st.slots) x,evo (lk st.slots) ix with
   | some T,some (.mp ob),some k=>match T.kind with
    | .map kt et=>match (ti P et).bind (·.zero) with
     | some z=>some (ob,kt,k,z)
     | _=>none
    | _=>none
   | _,_,_=>none
  | _=>none
 | none=>none
noncomputable def Qrp (ops:Array Oper) (i:Nat) (st:St):Option (Nat × AV × AV) :=
 match Xy ops i st with
 | some o=>match o.op with
  | .entryStore _ m x y=>match evo (lk st.slots) m,evo (lk st.slots) x,evo (lk st.slots) y with
   | some (.mp ob),some k,some v=>some (ob,k,v)
   | _,_,_=>none
  | _=>none
 | none=>none
theorem Q1b {κ α:Type} {ke:κ→AV} {enc:α→AV} {e:κ→κ→Bool} {l:List (κ × α)} {n:κ} {z:α} {ob:Nat} {kt:TypeId} (hi:Qrt P ops i st=some (ob,kt,ke n,enc z)) (hk:∀a b,Xj P kt (ke a) (ke b)=some (e a b)) (hrow:st.sto ob=some (Vd ke enc l)) (hok:∀v,(enc v).okv=true)
  (hS:Z1 ops i st (some (.tup [enc ((kget e l n).getD z),.int .i64 (kpos e l n:Int)])) [(ob,Vd ke enc (kput e l n ((kget e l n).getD z)))]=some S) (hl:Nat.beq S.objs.length st.objs.length=true) (k:RW P rd base ops (Zd d [([ob],[ob])]) (i+1) S Φ):RW P rd base ops d i st Φ:=by
 unfold Qrt at hi
 split at hi
 ·rename_i o ho
  split at hi
  ·rename_i t x ix hop
   split at hi
   ·rename_i T ob' k' hT hx hix
    split at hi
    ·rename_i kt et hkind
     split at hi
     ·rename_i z' hz
      cases hi
      refine Vr (nf:=false) (v:=some (.tup [enc ((kget e l n).getD z),.int .i64 (kpos e l n:Int)])) (eff:=[(ob,Vd ke enc (kput e l n ((kget e l n).getD z)))]) (fr:=st.objs.length) (rds:=[ob]) ho ?_ hS (Nat.eq_of_beq_eq_true hl) k
      rw [Qkn]
      simp only [evalOp,hop]
      unfold Qfs
      have hes:(st.sto ob).bind Qa6=some (l.map (Xz ke enc)):=by rw [hrow]; exact Qhu _
      simp only [hT,hx,hix,hkind,hes,hk,hz]
      cases hg:kget e l n with
      | none =>
       rw [Qgm hk l 0 hg]
       simp only [hok,if_true,Option.getD_none]
       rw [show (ke n,enc z)=Xz ke enc (n,z) from rfl,Qnn l hg,Qm7 l hg,List.length_map]
       rfl
      | some v =>
       obtain ⟨h1,h2⟩:=Qnk (enc:=enc) hk l 0 hg
       rw [h1]
       simp only [hok,if_true,Option.getD_some,Nat.zero_add]
       rw [show (ke n,enc v)=Xz ke enc (n,v) from rfl,h2]
       rfl
     ·cases hi
    ·cases hi
   ·cases hi
  ·cases hi
 ·cases hi
theorem Q1k {κ α:Type} {ke:κ→AV} {enc:α→AV} {e:κ→κ→Bool} {l:List (κ × α)} {n:κ} {v w:α} {ob:Nat} (hi:Qrp ops i st=some (ob,.int .i64 (kpos e l n:Int),enc v)) (hrow:st.sto ob=some (Vd ke enc (kput e l n w)))
  (hS:Z1 ops i st none [(ob,Vd ke enc (kput e l n v))]=some S) (hl:Nat.beq S.objs.length st.objs.length=true) (k:RW P rd base ops (Zd d [([ob],[ob])]) (i+1) S Φ):RW P rd base ops d i st Φ:=by
 unfold Qrp at hi
 split at hi
 ·rename_i o ho
  split at hi
  ·rename_i t m x y hop
   split at hi
   ·rename_i ob' k' v' hm hx hy
    cases hi
    refine Vr (nf:=false) (v:=none) (eff:=[(ob,Vd ke enc (kput e l n v))]) (fr:=st.objs.length) (rds:=[ob]) ho ?_ hS (Nat.eq_of_beq_eq_true hl) k
    rw [Qkn]
    simp only [evalOp,hop]
    unfold Qee
    have hes:(st.sto ob).bind Qa6=some ((kput e l n w).map (Xz ke enc)):=by rw [hrow]; exact Qhu _
    obtain ⟨h1,h2⟩:=Qol (ke:=ke) (enc:=enc) (e:=e) (n:=n) (v:=v) (w:=w) l
    have hx':evo (lk st.slots) x=some (.int .i64 (.ofNat (kpos e l n))):=hx
    simp only [hm,hx',hy,hes,h1,h2]
    rfl
   ·cases hi
  ·cases hi
 ·cases hi
end
theorem Qnl {κ α:Type} {ke:κ→AV} {enc:α→AV} {f:Nat → Option Nat} (hk:∀v,(ke v).ren f=some (ke v)) (he:∀v,(enc v).ren f=some (enc v)):∀(l:List (κ × α)) (i:Nat),Qkb f (Xg i (l.map (Xz ke enc)))=some (Xg i (l.map (Xz ke enc)))
 | [],i=>rfl
 | x::l,i=>by
  simp only [List.map_cons,Xz,Xg,Qkb,he]
  have h2:=Qnl hk he l (i+2)
  rw [hk]
  simp only [h2]
theorem Qwr {κ α:Type} {ke:κ→AV} {enc:α→AV} {f:Nat → Option Nat} (hk:∀v,(ke v).ren f=some (ke v)) (he:∀v,(enc v).ren f=some (enc v)) (l:List (κ × α)):(Vd ke enc l).ren f=some (Vd ke enc l):=by
 show AObj.ren f (.loop _ _ _ _ _ _ _)=_
 simp only [AObj.ren,Qnl hk he l 0]
 rfl
theorem wk_gcK {P:Program} {base:Nat} {st st':St} {live keep:List Nat} (o:Nat) {κ α:Type} (ke:κ→AV) (enc:α→AV) (L:List (κ × α)) (hK:∀f a,(ke a).ren f=some (ke a)) (hE:∀f a,(enc a).ren f=some (enc a)) (ho:st.objs[o]?=some (Vd ke enc L))
  (h:Qyj base live keep o (Vd ke enc L) st=some st'):Wk P base st st':=by
 refine Z5 (live:=live) (keep:=keep) ?_
 unfold Qyj at h
 have hself:st.objs.set o (Vd ke enc L)=st.objs:=by
  obtain ⟨h1,h2⟩:=List.getElem?_eq_some_iff.1 ho
  apply List.ext_getElem?
  intro i
  by_cases e:o=i
  ·subst e; rw [List.getElem?_set_self h1,ho]
  ·rw [List.getElem?_set_ne e]
 cases hg:Qcv base live keep ⟨st.slots,st.objs.set o (mapO []),st.nt⟩ with
 | none=>rw [hg] at h; cases h
 | some s =>
  rw [hg] at h
  cases h
  unfold Qcv at hg ⊢
  simp only at hg ⊢
  split at hg
  ·rename_i hc
   rw [if_pos hc]
   split at hg
   ·rename_i os hos
    cases hg
    have:=Qgy (Qwr (ke:=ke) (fun a=>hK _ a) (fun a=>hE _ a) L) (List.getElem?_eq_some_iff.1 ho).1 _ _ hos
    rw [hself] at this
    rw [this]
   ·cases hg
  ·cases hg
end Go.Ab
namespace Go.Ab
open Go.RowKit
section
variable {P:Program} {ops:Array Oper} {o:Oper}
end
section
variable {P:Program} {rd:Option Nat} {base:Nat} {ops:Array Oper} {d:Option (List Sk)} {st S:St} {Φ:AOut→Prop} {i:Nat}
theorem Qnz (v:Value) (n:Nat):(Builtin.zeroCells #[v] n).toList=List.replicate n v:=by
 apply List.ext_getElem
 ·simp [Builtin.zeroCells]
 ·intro j h1 h2
  simp [Builtin.zeroCells,Nat.mod_one]
end
end Go.Ab
namespace Go.Ab
open Go.RowKit
theorem Yn.trans {ops:Array Oper} {i m k:Nat} (h:Yn ops i m) (h2:Yn ops m k):Yn ops i k:=by
 induction h2 with
 | one hj he hb hon=>exact .more hj he hb (hon ▸ h)
 | more hj he hb _ ih=>exact .more hj he hb ih
section
variable {F:Fence} {n:Nat} {P:Program} {ops:Array Oper} {Q Q':Exit→Act→World→Prop}
end
section
variable {P:Program} {rd:Option Nat} {base:Nat} {ops:Array Oper} {st st':St} {Φ:AOut→Prop}
def Q2o (P:Program) (rd:Option Nat) (base:Nat) (ops:Array Oper) (j:Nat) (Φ:AOut→Prop):AOut→Prop
 | .go .normal st'=>RW P rd base ops none j st' Φ
 | _=>False
end
end Go.Ab
namespace Go.Ab
inductive Fr where
 | seq (y:Code)
 | blk (id:Nat)
 | inl (fn:Func) (ops:Array Oper) (i:Nat) (st:St) (rd:Option Nat) (base:Nat)
 | inN (fn:Func) (ops:Array Oper) (d:Option (List Sk)) (i:Nat) (st:St) (rd:Option Nat) (base:Nat)
 | rng (fn:Func) (st:St) (rd:Option Nat) (base:Nat)
 | yA (l nt:Nat) (body:Code) (ops:Array Oper) (i:Nat) (st:St) (rd:Option Nat) (base:Nat)
 | yB (l:Nat) (ops:Array Oper) (i:Nat) (st:St) (rd:Option Nat) (base:Nat)
 | lp (c:Code)
 | cut (o:Array Oper) (j:Nat)
 | scp (body:Code)
inductive Pos where
 | lw (c:Code)
 | code (c:Code)
 | ops (o:Array Oper) (d:Option (List Sk)) (i:Nat)
 | out (e:Xq)
structure Cf where
 pos:Pos
 fr:List Fr
 st:St
 rd:Option Nat
 base:Nat
def Phi (P:Program) (Ω:AOut→Prop):List Fr→Option Nat → Nat → AOut→Prop
 | [],_,_=>Ω
 | .seq y::r,rd,b=>Qoc (fun s=>WP P rd b y s (Phi P Ω r rd b)) (Phi P Ω r rd b)
 | .blk id::r,rd,b=>Qpr id (Phi P Ω r rd b)
 | .inl fn ops i st rd b::r,_,_=>fun out=>∃S,Qlr P fn ops i st out=some S∧RW P rd b ops none (i+1) S (Phi P Ω r rd b)
 | .inN fn ops d i st rd b::r,_,_=>fun out=>∃S,Quj P fn ops i st out=some S∧RW P rd b ops (Zd d (Qyv st S)) (i+1) S (Phi P Ω r rd b)
 | .rng fn st rd b::r,_,_=>fun out0=>∃out,Vz P fn st out0=some out∧Phi P Ω r rd b out
 | .yA l nt body ops i st rd b::r,_,_=>fun outA=>∃SA,Qk8 l nt outA=some SA∧WP P (some l) st.objs.length body SA (fun outB=>∃S,Qia ops i l st outB=some S∧RW P rd b ops none (i+1) S (Phi P Ω r rd b))
 | .yB l ops i st rd b::r,_,_=>fun outB=>∃S,Qia ops i l st outB=some S∧RW P rd b ops none (i+1) S (Phi P Ω r rd b)
 | .lp c::r,rd,b=>Qoc (fun s=>LWP P rd b c s (Phi P Ω r rd b)) (Phi P Ω r rd b)
 | .cut o j::r,rd,b=>Q2o P rd b o j (Phi P Ω r rd b)
 | .scp body::r,rd,b=>Qf3 P rd b body (Phi P Ω r rd b)
def Gl (P:Program) (Ω:AOut→Prop):Cf→Prop
 | ⟨.code x,fr,st,rd,b⟩=>WP P rd b x st (Phi P Ω fr rd b)
 | ⟨.ops o d i,fr,st,rd,b⟩=>RW P rd b o d i st (Phi P Ω fr rd b)
 | ⟨.out e,fr,st,rd,b⟩=>Phi P Ω fr rd b (.go e st)
 | ⟨.lw x,fr,st,rd,b⟩=>LWP P rd b x st (Phi P Ω fr rd b)
noncomputable def ctl (P:Program):Cf→Option Cf
 | ⟨.code x,fr,st,rd,b⟩=>match x with
  | .seq x y=>some ⟨.code x,.seq y::fr,st,rd,b⟩
  | .block id x=>some ⟨.code x,.blk id::fr,st,rd,b⟩
  | .scope x=>some ⟨.code x,.scp x::fr,st,rd,b⟩
  | .skip=>some ⟨.out .normal,fr,st,rd,b⟩
  | .label _=>some ⟨.out .normal,fr,st,rd,b⟩
  | .region _ o false=>some ⟨.ops o none 0,fr,st,rd,b⟩
  | _=>none
 | ⟨.ops o d i,fr,st,rd,b⟩=>if Nat.beq i o.size then match d with
   | none=>some ⟨.out .normal,fr,st,rd,b⟩
   | some acc=>if Qdj o.toList acc then some ⟨.out .normal,fr,st,rd,b⟩ else none
  else none
 | ⟨.out e,fr,st,rd,b⟩=>match fr with
  | []=>none
  | .seq y::r=>match e with
   | .normal=>some ⟨.code y,r,st,rd,b⟩
   | e=>some ⟨.out e,r,st,rd,b⟩
  | .blk id::r=>match e with
   | .exit j=>if Nat.beq j id then some ⟨.out .normal,r,st,rd,b⟩ else some ⟨.out (.exit j),r,st,rd,b⟩
   | e=>some ⟨.out e,r,st,rd,b⟩
  | .inl fn ops i st0 rd0 b0::r=>match Qlr P fn ops i st0 (.go e st) with
   | some S=>some ⟨.ops ops none (i+1),r,S,rd0,b0⟩
   | none=>none
  | .inN fn ops d i st0 rd0 b0::r=>match Quj P fn ops i st0 (.go e st) with
   | some S=>some ⟨.ops ops (Zd d (Qyv st0 S)) (i+1),r,S,rd0,b0⟩
   | none=>none
  | .rng fn st0 rd0 b0::r=>match Vz P fn st0 (.go e st) with
   | some (.go e' S)=>some ⟨.out e',r,S,rd0,b0⟩
   | _=>none
  | .yA l nt body ops i st0 rd0 b0::r=>match Qk8 l nt (.go e st) with
   | some S=>some ⟨.code body,.yB l ops i st0 rd0 b0::r,S,some l,st0.objs.length⟩
   | none=>none
  | .yB l ops i st0 rd0 b0::r=>match Qia ops i l st0 (.go e st) with
   | some S=>some ⟨.ops ops none (i+1),r,S,rd0,b0⟩
   | none=>none
  | .lp c::r=>match e with
   | .normal=>some ⟨.lw c,r,st,rd,b⟩
   | e=>some ⟨.out e,r,st,rd,b⟩
  | .cut o j::r=>match e with
   | .normal=>some ⟨.ops o none j,r,st,rd,b⟩
   | _=>none
  | .scp body::r=>match e with
   | .goto l=>match findLabel body l with
    | some rest=>some ⟨.code rest,.scp body::r,st,rd,b⟩
    | none=>some ⟨.out (.goto l),r,st,rd,b⟩
   | e=>some ⟨.out e,r,st,rd,b⟩
 | ⟨.lw _,_,_,_,_⟩=>none
noncomputable def stp (P:Program):Cf→Option Cf
 | ⟨.code x,fr,st,rd,b⟩=>match x with
  | .cond op x y=>match evo (lk st.slots) op with
   | some (.bool v)=>match v with
    | true=>some ⟨.code x,fr,st,rd,b⟩
    | false=>some ⟨.code y,fr,st,rd,b⟩
   | _=>none
  | .region _ o true=>if P.follows .mixedOrders && Qtr o then some ⟨.ops o (some []) 0,fr,st,rd,b⟩ else none
  | .ret=>some ⟨.out .ret,fr,st,rd,b⟩
  | .exit j=>some ⟨.out (.exit j),fr,st,rd,b⟩
  | .goto l=>some ⟨.out (.goto l),fr,st,rd,b⟩
  | _=>none
 | ⟨.ops o d i,fr,st,rd,b⟩=>match Qs0 P false o 1 i st with
  | some S=>some ⟨.ops o (Zd d (Qsf P false o 1 i st)) (i+1),fr,S,rd,b⟩
  | none=>none
 | ⟨.out _,_,_,_,_⟩=>none
 | ⟨.lw _,_,_,_,_⟩=>none
noncomputable def settle (P:Program):Nat → Cf→Cf
 | 0,c=>c
 | n+1,c=>match ctl P c with
  | some c'=>settle P n c'
  | none=>c
noncomputable def go (P:Program):Nat → Cf→Option Cf
 | 0,c=>some (settle P 1000 c)
 | n+1,c=>match stp P (settle P 1000 c) with
  | some c'=>go P n c'
  | none=>none
def Cf.bad:Cf:=⟨.out .normal,[],⟨[],[],0⟩,none,0⟩
noncomputable def gg (P:Program) (n:Nat) (c:Cf):Cf:=match go P n c with | some c=>c | none=>.bad
section
variable {P:Program} {Ω:AOut→Prop} {c c':Cf}
theorem Q1d (h:ctl P c=some c') (g:Gl P Ω c'):Gl P Ω c:=by
 obtain ⟨pos,fr,st,rd,b⟩:=c
 cases pos with
 | code x =>
  simp only [ctl] at h
  split at h
  ·cases h; exact Qz7 g
  ·cases h; exact Qxj g
  ·cases h; exact Qxi g
  ·cases h; exact wp_skip g
  ·cases h; exact Qwm g
  ·cases h; exact Q0b g
  ·cases h
 | ops o d i =>
  simp only [ctl] at h
  split at h
  ·rename_i hi
   have hi:=Nat.eq_of_beq_eq_true hi
   cases d with
   | none=>cases h; exact Qzn hi g
   | some acc =>
    simp only at h
    split at h
    ·rename_i hc; cases h; exact Qxm (rd:=rd) (base:=b) hi hc g
    ·cases h
  ·cases h
 | out e =>
  simp only [ctl] at h
  split at h
  ·cases h
  ·split at h
   ·cases h; exact g
   ·rename_i hne
    cases h
    cases e with
    | normal=>exact absurd rfl hne
    | exit j=>exact g
    | ret=>exact g
    | goto l=>exact g
  ·split at h
   ·rename_i j
    split at h
    ·rename_i hj
     cases h
     show Phi P Ω _ _ _ (AOut.inBlock _ (.go (.exit j) st))
     simp only [AOut.inBlock,hj,if_true]; exact g
    ·rename_i hj
     cases h
     show Phi P Ω _ _ _ (AOut.inBlock _ (.go (.exit j) st))
     simp only [AOut.inBlock,hj,if_false]; exact g
   ·rename_i hne
    cases h
    cases e with
    | normal=>exact g
    | exit j=>exact absurd rfl (hne j)
    | ret=>exact g
    | goto l=>exact g
  ·split at h
   ·rename_i hS; cases h; exact ⟨_,hS,g⟩
   ·cases h
  ·split at h
   ·rename_i hS; cases h; exact ⟨_,hS,g⟩
   ·cases h
  ·split at h
   ·rename_i hS; cases h; exact ⟨_,hS,g⟩
   ·cases h
  ·split at h
   ·rename_i hS; cases h; exact ⟨_,hS,g⟩
   ·cases h
  ·split at h
   ·rename_i hS; cases h; exact ⟨_,hS,g⟩
   ·cases h
  ·split at h
   ·cases h; exact g
   ·rename_i hne
    cases h
    cases e with
    | normal=>exact absurd rfl hne
    | exit j=>exact g
    | ret=>exact g
    | goto l=>exact g
  ·split at h
   ·cases h; exact g
   ·cases h
  ·split at h
   ·split at h
    ·rename_i hf
     cases h
     unfold Gl Phi
     simp only [Qf3,hf]
     exact Qu7 g
    ·rename_i hf
     cases h
     unfold Gl Phi
     simp only [Qf3,hf]
     exact g
   ·rename_i hne
    cases h
    cases e with
    | normal=>exact g
    | exit j=>exact g
    | ret=>exact g
    | goto l=>exact absurd rfl (hne l)
 | lw x=>cases h
theorem Q03 (h:stp P c=some c') (g:Gl P Ω c'):Gl P Ω c:=by
 obtain ⟨pos,fr,st,rd,b⟩:=c
 cases pos with
 | code x =>
  simp only [stp] at h
  split at h
  ·split at h
   ·rename_i v he
    cases v with
    | true=>cases h; exact Qwv he g
    | false=>cases h; exact Qwu he g
   ·cases h
  ·split at h
   ·rename_i hm
    simp only [Bool.and_eq_true] at hm
    cases h; exact rga hm.1 g hm.2
   ·cases h
  ·cases h; exact Q0o g
  ·cases h; exact Qzt g
  ·cases h; exact Qzu g
  ·cases h
 | ops o d i =>
  simp only [stp] at h
  split at h
  ·rename_i S hS; cases h; exact sg false 1 _ hS rfl g
  ·cases h
 | out e=>cases h
 | lw x=>cases h
theorem Qh3:∀(n:Nat) (c:Cf),Gl P Ω (settle P n c)→Gl P Ω c
 | 0,c,g=>g
 | n+1,c,g=>by
  unfold settle at g
  split at g
  ·rename_i c' hc; exact Q1d hc (Qh3 n c' g)
  ·exact g
theorem Qi5:∀(n:Nat) (c c':Cf),go P n c=some c'→Gl P Ω c'→Gl P Ω c
 | 0,c,c',h,g=>by unfold go at h; cases h; exact Qh3 _ _ g
 | n+1,c,c',h,g=>by
  unfold go at h
  split at h
  ·rename_i c1 hc; exact Qh3 _ _ (Q03 hc (Qi5 n c1 c' h g))
  ·cases h
theorem Qej {n:Nat} (h:(go P n c).isSome=true) (g:Gl P Ω (gg P n c)):Gl P Ω c:=by
 unfold gg at g
 split at g
 ·rename_i c1 hc; exact Qi5 n c c1 hc g
 ·rename_i hn; rw [hn] at h; cases h
def Cf.o (c:Cf):Array Oper:=match c.pos with | .ops o _ _=>o | _=>#[]
def Cf.d (c:Cf):Option (List Sk):=match c.pos with | .ops _ d _=>d | _=>none
def Cf.i (c:Cf):Nat := match c.pos with | .ops _ _ i=>i | _=>0
def Cf.isO (c:Cf):Bool:=match c.pos with | .ops _ _ _=>true | _=>false
def Cf.x (c:Cf):Code:=match c.pos with | .code x=>x | _=>.skip
def Cf.isX (c:Cf):Bool:=match c.pos with | .code _=>true | _=>false
def Cf.free (c:Cf):Bool:=match c.pos with | .code _=>true | .ops _ none _=>true | .lw _=>true | _=>false
def Cf.nx (c:Cf) (s:List Sk) (S:St):Cf:=⟨.ops c.o (Zd c.d s) (c.i+1),c.fr,S,c.rd,c.base⟩
def Cf.to (c:Cf) (S:St):Cf:=⟨c.pos,c.fr,S,c.rd,c.base⟩
noncomputable def goO (P:Program) (n:Nat) (c:Cf):Bool:=match go P n c with | some c=>c.isO | none=>false
noncomputable def goX (P:Program) (n:Nat) (c:Cf):Bool:=match go P n c with | some c=>c.isX | none=>false
noncomputable def goF (P:Program) (n:Nat) (c:Cf):Bool:=match go P n c with | some c=>c.free | none=>false
theorem Qdz {n:Nat} (h:goO P n c=true) (g:(gg P n c).isO=true→Gl P Ω (gg P n c)):Gl P Ω c:=by
 unfold goO at h
 split at h
 ·rename_i c1 hc; exact Qej (by rw [hc]; rfl) (g (by unfold gg; rw [hc]; exact h))
 ·cases h
theorem Q04 {n:Nat} (h:goX P n c=true) (g:(gg P n c).isX=true→Gl P Ω (gg P n c)):Gl P Ω c:=by
 unfold goX at h
 split at h
 ·rename_i c1 hc; exact Qej (by rw [hc]; rfl) (g (by unfold gg; rw [hc]; exact h))
 ·cases h
theorem Q0f {n:Nat} (h:goF P n c=true) (g:(gg P n c).free=true→Gl P Ω (gg P n c)):Gl P Ω c:=by
 unfold goF at h
 split at h
 ·rename_i c1 hc; exact Qej (by rw [hc]; rfl) (g (by unfold gg; rw [hc]; exact h))
 ·cases h
theorem Qec (h:c.isO=true) (g:RW P c.rd c.base c.o c.d c.i c.st (Phi P Ω c.fr c.rd c.base)):Gl P Ω c:=by
 obtain ⟨pos,fr,st,rd,b⟩:=c
 cases pos with
 | ops o d i=>exact g
 | _=>cases h
theorem Qzp (h:c.isX=true) (g:WP P c.rd c.base c.x c.st (Phi P Ω c.fr c.rd c.base)):Gl P Ω c:=by
 obtain ⟨pos,fr,st,rd,b⟩:=c
 cases pos with
 | code x=>exact g
 | _=>cases h
theorem Q15 {S:St} (h:c.free=true) (hw:Wk P c.base c.st S) (g:Gl P Ω (c.to S)):Gl P Ω c:=by
 obtain ⟨pos,fr,st,rd,b⟩:=c
 cases pos with
 | code x=>exact Qya hw g
 | ops o d i =>
  cases d with
  | none=>exact Q18 hw g
  | some _=>cases h
 | out _=>cases h
 | lw x=>exact Qh8 hw g
end
def Hl {R:Type} (P:Program) (Ω:R→AOut→Prop) (c:Cf) (D:Option R):Prop:=∀r,D=some r→Gl P (Ω r) c
section
variable {P:Program} {R:Type} {Ω:R→AOut→Prop} {c:Cf} {D A B:Option R}
theorem hnn:Hl P Ω c none:=fun _ h=>by cases h
theorem hbd {α:Type} {o:Option α} {K:α→Option R} (k:∀a,o=some a→Hl P Ω c (K a)):Hl P Ω c (o.bind K):=fun r h=>Qu8 h fun a q h=>k a q r h
theorem hop (n:Nat) {S:St} {s:List Sk} (rule:∀Φ:AOut→Prop,RW P (gg P n c).rd (gg P n c).base (gg P n c).o (Zd (gg P n c).d s) ((gg P n c).i+1) S Φ→RW P (gg P n c).rd (gg P n c).base (gg P n c).o (gg P n c).d (gg P n c).i (gg P n c).st Φ)
  (k:Hl P Ω ((gg P n c).nx s S) D) (e:goO P n c=true:=by kernel_rfl):Hl P Ω c D:=fun r h=>Qdz e fun hO=>Qec hO (rule _ (k r h))
theorem hoh (n:Nat) {S:St} {s:List Sk} (rule:∀(Φ:AOut→Prop) (r:R),D=some r→(A=some r→RW P (gg P n c).rd (gg P n c).base (gg P n c).o (Zd (gg P n c).d s) ((gg P n c).i+1) S Φ)→RW P (gg P n c).rd (gg P n c).base (gg P n c).o (gg P n c).d (gg P n c).i (gg P n c).st Φ)
  (k:Hl P Ω ((gg P n c).nx s S) A) (e:goO P n c=true:=by kernel_rfl):Hl P Ω c D:=fun r h=>Qdz e fun hO=>Qec hO (rule _ r h fun h=>k r h)
theorem hwk (n:Nat) {S:St} (w:Wk P (gg P n c).base (gg P n c).st S) (k:Hl P Ω ((gg P n c).to S) D) (e:goF P n c=true:=by kernel_rfl):Hl P Ω c D:=fun r h=>Q0f e fun hF=>Q15 hF w (k r h)
theorem hbq (n:Nat) (ts:List Nat) {b:Bool} (k:b=true→Hl P Ω ((gg P n c).to (pB ts true (gg P n c).st)) A) (k':b=false→Hl P Ω ((gg P n c).to (pB ts false (gg P n c).st)) B)
  (e:(go P n c).isSome=true:=by kernel_rfl) (hS:(gg P n c).st=pB ts b (gg P n c).st:=by kernel_rfl):Hl P Ω c (if b=true then A else B):=fun r h=>Qej e (by
 have ht:gg P n c=(gg P n c).to (pB ts b (gg P n c).st):=by rw [←hS]; rfl
 rw [ht]
 cases b with
 | true=>exact k rfl r (by simpa using h)
 | false=>exact k' rfl r (by simpa using h))
theorem hbr (n:Nat) (ts:List Nat) {b:Bool} (k:Hl P Ω ((gg P n c).to (pB ts true (gg P n c).st)) A) (k':Hl P Ω ((gg P n c).to (pB ts false (gg P n c).st)) B)
  (e:(go P n c).isSome=true:=by kernel_rfl) (hS:(gg P n c).st=pB ts b (gg P n c).st:=by kernel_rfl):Hl P Ω c (if b=true then A else B):=hbq n ts (fun _=>k) (fun _=>k') e hS
theorem hkb (n:Nat) (ts:List Nat) {b b':Bool} (hb:b=b') (k:Hl P Ω ((gg P n c).to (pB ts b' (gg P n c).st)) D) (e:(go P n c).isSome=true:=by kernel_rfl) (hS:(gg P n c).st=pB ts b (gg P n c).st:=by kernel_rfl):Hl P Ω c D:=fun r h=>Qej e (by
 have ht:gg P n c=(gg P n c).to (pB ts b (gg P n c).st):=by rw [←hS]; rfl
 rw [ht,hb]; exact k r h)
theorem hkn (n:Nat) {α:Type} {x y:α} (S:α→St) (hb:x=y) (k:Hl P Ω ((gg P n c).to (S y)) D) (e:(go P n c).isSome=true:=by kernel_rfl) (hS:(gg P n c).st=S x:=by kernel_rfl):Hl P Ω c D:=fun r h=>Qej e (by
 have ht:gg P n c=(gg P n c).to (S x):=by rw [←hS]; rfl
 rw [ht,hb]; exact k r h)
theorem hkl (n:Nat) (ts:List Nat) {x y:Nat} (hb:x=y) (k:Hl P Ω ((gg P n c).to (pL ts y (gg P n c).st)) D) (e:(go P n c).isSome=true:=by kernel_rfl) (hS:(gg P n c).st=pL ts x (gg P n c).st:=by kernel_rfl):Hl P Ω c D:=hkn n (fun x=>pL ts x (gg P n c).st) hb k e hS
theorem ls {α:Type} (l:List α) (i:Nat) (a:α):l.length=(l.set i a).length:=by simp
structure Wt where
 i:Nat
 n:Nat
 xs:List AV
 ys:List AV
 h:i+n≤xs.length∧(xs.drop i).take n=ys
def F {α:Type} (enc:α→AV) (l:List α):Option Wt:=some ⟨0,l.length,l.map enc,l.map enc,by simp [List.take_of_length_le]⟩
def Qe2 (f:AV→List (Option Wt)→Option (AV × List Nat × List ((Nat × Nat × List AV) × Wt) × List (Option Wt))):List AV→List (Option Wt)→Option (List AV × List Nat × List ((Nat × Nat × List AV) × Wt) × List (Option Wt))
 | [],ws=>some ([],[],[],ws)
 | x::xs,ws=>match f x ws with
  | some (y,a,e,ws1)=>match Qe2 f xs ws1 with
   | some (ys,b,e',ws2)=>some (y::ys,a++b,e++e',ws2)
   | none=>none
  | none=>none
def snW (σ:Sto):Nat → AV→List (Option Wt)→Option (AV × List Nat × List ((Nat × Nat × List AV) × Wt) × List (Option Wt))
 | 0,_,_=>none
 | d+1,a,ws=>match a with
  | .ref o i n=>match ws with
   | some w::ws=>match σ o with
    | some (.row _ _ true fl _ xs)=>some (.lst fl w.ys,[o],[((i,n,xs),w)],ws)
    | _=>none
   | ws=>match Qt σ (d+1) (.ref o i n) with
    | some (y,ids)=>some (y,ids,[],ws.tail)
    | none=>none
  | .agg cs=>match Qe2 (snW σ d) cs ws with | some (ys,r)=>some (.agg ys,r) | none=>none
  | .tup cs=>match Qe2 (snW σ d) cs ws with | some (ys,r)=>some (.tup ys,r) | none=>none
  | .ptr o i c=>match ws with
   | some w::ws=>match σ o with
    | some (.row _ _ _ _ _ xs)=>match Qe2 (snW σ d) xs (some w::ws) with
     | some (ys,ids,e,ws')=>match ys[i]? with
      | some y=>some (.fz (y.flat.drop c),o::ids,e,ws')
      | none=>none
     | none=>none
    | _=>none
   | ws=>match Qt σ (d+1) (.ptr o i c) with
    | some (y,ids)=>some (y,ids,[],ws)
    | none=>none
  | .fn f a b=>match ws with
   | some w::ws=>match Qe2 (snW σ d) a (some w::ws) with
    | some (x,i,e,ws1)=>match Qe2 (snW σ d) b ws1 with
     | some (y,j,e',ws2)=>some (.fn f x y,i++j,e++e',ws2)
     | none=>none
    | none=>none
   | ws=>match Qt σ (d+1) (.fn f a b) with
    | some (y,ids)=>some (y,ids,[],ws)
    | none=>none
  | a=>match Qt σ (d+1) a with
   | some (y,ids)=>some (y,ids,[],ws)
   | none=>none
def eqW (e:List ((Nat × Nat × List AV) × Wt)):Prop:=e.map (·.1)=e.map fun p=>(p.2.i,p.2.n,p.2.xs)
theorem Qgc {a b:List ((Nat × Nat × List AV) × Wt)} (h:eqW (a++b)):eqW a∧eqW b:=by
 unfold eqW at h ⊢
 rw [List.map_append,List.map_append] at h
 exact List.append_inj h (by simp)
theorem Qbw {f:AV→List (Option Wt)→Option (AV × List Nat × List ((Nat × Nat × List AV) × Wt) × List (Option Wt))} {g:AV→Option (AV × List Nat)}
  (hf:∀x ws y a e ws',f x ws=some (y,a,e,ws')→eqW e→g x=some (y,a)):∀(xs:List AV) (ws:List (Option Wt)) ys b e ws',Qe2 f xs ws=some (ys,b,e,ws')→eqW e→Q4 g xs=some (ys,b)
 | [],ws,ys,b,e,ws',h,he=>by simp only [Qe2,Option.some.injEq,Prod.mk.injEq] at h; obtain ⟨rfl,rfl,rfl,rfl⟩:=h; rfl
 | x::xs,ws,ys,b,e,ws',h,he=>by
  simp only [Qe2] at h
  split at h
  ·rename_i y a e1 ws1 h1
   split at h
   ·rename_i ys2 b2 e2 ws2 h2
    simp only [Option.some.injEq,Prod.mk.injEq] at h
    obtain ⟨rfl,rfl,rfl,rfl⟩:=h
    obtain ⟨g1,g2⟩:=Qgc he
    simp only [Q4,hf _ _ _ _ _ _ h1 g1,Qbw hf xs _ _ _ _ _ h2 g2]
   ·cases h
  ·cases h
theorem Qbq {σ:Sto}:∀(d:Nat) (x:AV) (ws:List (Option Wt)) y a e ws',snW σ d x ws=some (y,a,e,ws')→eqW e→Qt σ d x=some (y,a)
 | 0,x,ws,y,a,e,ws',h,he=>by cases h
 | d+1,x,ws,y,a,e,ws',h,he=>by
  unfold snW at h
  split at h
  ·rename_i o i n
   split at h
   ·rename_i w ws0
    split at h
    ·rename_i xs hσ
     simp only [Option.some.injEq,Prod.mk.injEq] at h
     obtain ⟨rfl,rfl,rfl,rfl⟩:=h
     simp only [eqW,List.map_cons,List.map_nil,List.cons.injEq,Prod.mk.injEq,and_true] at he
     obtain ⟨e1,e2,e3⟩:=he
     subst e1 e2 e3
     simp [Qt,hσ,w.h.1,w.h.2]
    ·cases h
   ·split at h
    ·rename_i hs
     simp only [Option.some.injEq,Prod.mk.injEq] at h
     obtain ⟨rfl,rfl,rfl,rfl⟩:=h; exact hs
    ·cases h
  ·split at h
   ·rename_i ys r hm
    simp only [Option.some.injEq,Prod.mk.injEq] at h
    obtain ⟨rfl,rfl⟩:=h
    have:=Qbw (Qbq d) _ _ _ _ _ _ hm he
    simp only [Qt,this]
   ·cases h
  ·split at h
   ·rename_i ys r hm
    simp only [Option.some.injEq,Prod.mk.injEq] at h
    obtain ⟨rfl,rfl⟩:=h
    have:=Qbw (Qbq d) _ _ _ _ _ _ hm he
    simp only [Qt,this]
   ·cases h
  ·split at h
   ·split at h
    ·rename_i hσ
     split at h
     ·rename_i hm
      split at h
      ·rename_i y hy
       simp only [Option.some.injEq,Prod.mk.injEq] at h
       obtain ⟨rfl,rfl,rfl,rfl⟩:=h
       have:=Qbw (Qbq d) _ _ _ _ _ _ hm he
       simp only [Qt,hσ,this,hy]
      ·cases h
     ·cases h
    ·cases h
   ·split at h
    ·rename_i hs
     simp only [Option.some.injEq,Prod.mk.injEq] at h
     obtain ⟨rfl,rfl,rfl,rfl⟩:=h; exact hs
    ·cases h
  ·split at h
   ·split at h
    ·rename_i hm
     split at h
     ·rename_i hm2
      simp only [Option.some.injEq,Prod.mk.injEq] at h
      obtain ⟨rfl,rfl,rfl,rfl⟩:=h
      obtain ⟨g1,g2⟩:=Qgc he
      have h1:=Qbw (Qbq d) _ _ _ _ _ _ hm g1
      have h2:=Qbw (Qbq d) _ _ _ _ _ _ hm2 g2
      simp only [Qt,h1,h2]
     ·cases h
    ·cases h
   ·split at h
    ·rename_i hs
     simp only [Option.some.injEq,Prod.mk.injEq] at h
     obtain ⟨rfl,rfl,rfl,rfl⟩:=h; exact hs
    ·cases h
  ·split at h
   ·rename_i hs
    simp only [Option.some.injEq,Prod.mk.injEq] at h
    obtain ⟨rfl,rfl,rfl,rfl⟩:=h; exact hs
   ·cases h
noncomputable def Cf.sn (c:Cf) (ws:List (Option Wt)):Option (List AV × List Nat × List ((Nat × Nat × List AV) × Wt) × List (Option Wt)):=match Xh c.o c.i c.st with
 | some (_,as0)=>Qe2 (snW c.st.sto Qn) as0 ws
 | none=>none
noncomputable def Cf.ids (c:Cf) (ws:List (Option Wt)):List Nat := match c.sn ws with | some x=>x.2.1 | none=>[]
noncomputable def Cf.eqs (c:Cf) (ws:List (Option Wt)):List ((Nat × Nat × List AV) × Wt):=match c.sn ws with | some x=>x.2.2.1 | none=>[]
noncomputable def Cf.us (c:Cf) (ws:List (Option Wt)):Option (List AV):=(c.sn ws).map (·.1)
noncomputable def Cf.cl (c:Cf) (ws:List (Option Wt)) (r:AV) (objs:List AObj):Cf:=c.nx [Qlg c.st (c.ids ws) r objs] (gt0 (Qil c.o c.i c.st (c.ids ws) r objs))
theorem hcl (n:Nat) (ws:List (Option Wt)) {α:Type} {G:Option α} {K:α→Option R} {f:FuncId} {us:List AV} {rv:α→AV} {ro:α→List AObj} (C:∀x,G=some x→Zb P f us (.ret (rv x) (ro x)))
  (k:∀x,G=some x→Hl P Ω ((gg P n c).cl ws (rv x) (ro x)) (K x)) (e:goO P n c=true:=by kernel_rfl) (hb:Qk7 P f=true:=by kernel_rfl)
  (hi:(Xh (gg P n c).o (gg P n c).i (gg P n c).st).map (·.1)=some f:=by kernel_rfl) (hu:(gg P n c).us ws=some us:=by kernel_rfl) (hw:((gg P n c).eqs ws).map (·.1)=((gg P n c).eqs ws).map (fun p=>(p.2.i,p.2.n,p.2.xs)):=by kernel_rfl)
  (hS:∀x,(Qil (gg P n c).o (gg P n c).i (gg P n c).st ((gg P n c).ids ws) (rv x) (ro x)).isSome=true:=by (intro _; kernel_rfl)):Hl P Ω c (G.bind K):=fun r h=>Qdz e fun hO=>Qec hO (by
 generalize gg P n c=c' at *
 have hsn:∃as0,Xh c'.o c'.i c'.st=some (f,as0)∧Q4 (Qt c'.st.sto Qn) as0=some (us,c'.ids ws):=by
  cases hc:Xh c'.o c'.i c'.st with
  | none=>rw [hc] at hi; cases hi
  | some y =>
   obtain ⟨g,as0⟩:=y
   rw [hc] at hi
   simp only [Option.map_some,Option.some.injEq] at hi
   subst hi
   refine ⟨as0,rfl,?_⟩
   unfold Cf.us at hu
   unfold Cf.ids; unfold Cf.eqs at hw
   cases hs:c'.sn ws with
   | none=>rw [hs] at hu; cases hu
   | some z =>
    obtain ⟨ys,ids,es,ws'⟩:=z
    rw [hs] at hu hw
    simp only [Option.map_some,Option.some.injEq] at hu
    subst hu
    unfold Cf.sn at hs
    rw [hc] at hs
    exact Qbw (Qbq Qn) _ _ _ _ _ _ hs hw
 obtain ⟨as0,h1,h2⟩:=hsn
 exact Q2b h1 hb h2 C (fun x=>gE (hS x)) h fun x q h=>k x q r h)
theorem hob (n:Nat) {α:Type} {G:Option α} {K:α→Option R} {S:α→St} {s:α→List Sk}
  (rule:∀(Φ:AOut→Prop) (r:R),G.bind K=some r→(∀x,K x=some r→RW P (gg P n c).rd (gg P n c).base (gg P n c).o (Zd (gg P n c).d (s x)) ((gg P n c).i+1) (S x) Φ)→RW P (gg P n c).rd (gg P n c).base (gg P n c).o (gg P n c).d (gg P n c).i (gg P n c).st Φ)
  (k:∀x,Hl P Ω ((gg P n c).nx (s x) (S x)) (K x)) (e:goO P n c=true:=by kernel_rfl):Hl P Ω c (G.bind K):=fun r h=>Qdz e fun hO=>Qec hO (rule _ r h fun x h=>k x r h)
def RdI {σ ρ:Type} (P:Program) (base:Nat) (I:σ→St) (E:ρ→Xq × St) (o:Qk σ ρ):AOut→Prop:=Qgu P base I (fun v out=>out=.go (E v).1 (E v).2) o
def Cf.lb (c:Cf):Code:=match c.x with | .loop x=>x | _=>.skip
noncomputable def goL (P:Program) (n:Nat) (c:Cf):Bool:=match go P n c with | some c=>(match c.pos with | .code (.loop _)=>true | _=>false) | none=>false
def Cf.at' (c:Cf) (x:Code) (S:St):Cf:=⟨.code x,[],S,c.rd,c.base⟩
def Cf.ex (c:Cf) (y:Xq × St):Cf:=⟨.out y.1,c.fr,y.2,c.rd,c.base⟩
theorem Qv4 {n:Nat} (h:goL P n c=true) {Ψ:AOut→Prop} (g:WP P (gg P n c).rd (gg P n c).base (.loop (gg P n c).lb) (gg P n c).st (Phi P Ψ (gg P n c).fr (gg P n c).rd (gg P n c).base)):Gl P Ψ c:=by
 unfold goL at h
 split at h
 ·rename_i c1 hc
  have hg:gg P n c=c1:=by unfold gg; rw [hc]
  rw [hg] at g
  refine Qi5 n c c1 hc ?_
  obtain ⟨pos,fr,st,rd,b⟩:=c1
  cases pos with
  | code x=>cases x <;> first | exact g | cases h
  | _=>cases h
 ·cases h
theorem hlp (n:Nat) {σ ρ:Type} {N:Nat} {body:σ→Option (Qk σ ρ)} {K:ρ→Option R} {s0:σ} (I:σ→St) (E:ρ→Xq × St) (w:Wk P (gg P n c).base (gg P n c).st (I s0))
  (b:∀s,Hl P (RdI P (gg P n c).base I E) ((gg P n c).at' (gg P n c).lb (I s)) (body s)) (k:∀x,Hl P Ω ((gg P n c).ex (E x)) (K x)) (e:goL P n c=true:=by kernel_rfl):Hl P Ω c ((Qc N body s0).bind K):=fun r h =>
 Qv4 e (Qxn s0 w h (fun s o ho=>b s o ho) fun x hx out ho=>by subst ho; exact k x r hx)
theorem hsm {α β:Type} {D:α ⊕ β→Option R} {C:α ⊕ β→Cf} (k:∀x,Hl P Ω (C (.inl x)) (D (.inl x))) (k':∀x,Hl P Ω (C (.inr x)) (D (.inr x))):∀x,Hl P Ω (C x) (D x)
 | .inl x=>k x
 | .inr x=>k' x
theorem wkv {base:Nat} {st:St} {α:Type} {x y:α} (S:α→St) (hb:x=y) (hS:st=S x:=by kernel_rfl):Wk P base st (S y):=by rw [hS,hb]; exact Qzq
theorem wz {base:Nat} {st S:St} (keep:List Nat) (h:Qcv base (S.slots.map (·.1)) keep st=some S:=by kernel_rfl):Wk P base st S:=Z5 h
theorem wl {base:Nat} {st:St} (live keep:List Nat) (h:(Qcv base live keep st).isSome=true:=by kernel_rfl):Wk P base st (gt0 (Qcv base live keep st)):=Z5 (gE h)
noncomputable def goN (P:Program) (n:Nat) (c:Cf):Bool:=match go P n c with | some ⟨.out .normal,[],_,_,_⟩=>true | _=>false
noncomputable def goE (P:Program) (n:Nat) (c:Cf):Option AOut:=match go P n c with | some ⟨.out e,[],st,_,_⟩=>some (.go e st) | _=>none
theorem hnx (n:Nat) {σ ρ:Type} {b0:Nat} {I:σ→St} {E:ρ→Xq × St} {s':σ} (w:Wk P b0 (gg P n c).st (I s')) (e:goN P n c=true:=by kernel_rfl):Hl P (RdI P b0 I E) c (some (.next s')):=fun r h=>by
 cases h
 unfold goN at e
 split at e
 ·rename_i st rd b hc
  refine Qi5 n c _ hc ⟨_,rfl,?_⟩
  have:(gg P n c).st=st:=by unfold gg; rw [hc]
  rw [←this]; exact w
 ·cases e
theorem hdn (n:Nat) {σ ρ:Type} {b0:Nat} {I:σ→St} {E:ρ→Xq × St} {v:ρ} (e:goE P n c=some (.go (E v).1 (E v).2):=by kernel_rfl) (hn:(AOut.go (E v).1 (E v).2).normal=false:=by kernel_rfl):Hl P (RdI P b0 I E) c (some (.done v)):=fun r h=>by
 cases h
 unfold goE at e
 split at e
 ·rename_i ex st rd b hc
  cases e
  exact Qi5 n c _ hc ⟨rfl,hn⟩
 ·cases e
theorem hdx (n:Nat) {σ ρ:Type} {b0:Nat} {I:σ→St} {E:ρ→Xq × St} {v:ρ} (w:Wk P (gg P n c).base (gg P n c).st (E v).2) (f:goF P n c=true:=by kernel_rfl) (e:goE P 1 ((gg P n c).to (E v).2)=some (.go (E v).1 (E v).2):=by kernel_rfl)
  (hn:(AOut.go (E v).1 (E v).2).normal=false:=by kernel_rfl):Hl P (RdI P b0 I E) c (some (.done v)):=hwk n w (hdn 1 e hn) f
theorem hrt (n:Nat) {fn:Func} {hss:List (List LK)} {rv:R→AV} {ro:R→List AObj} {v:R} (e:(goE P n c).bind (Qlk P fn hss)=some (rv v,ro v):=by kernel_rfl):Hl P (fun x out=>Qlk P fn hss out=some (rv x,ro x)) c (some v):=fun r h=>by
 cases h
 unfold goE at e
 split at e
 ·rename_i ex st rd b hc
  exact Qi5 n c _ hc e
 ·cases e
def Ct {R:Type} (P:Program) (f:FuncId) (args:List AV) (D:Option R) (rv:R→AV) (ro:R→List AObj):Prop:=∀x,D=some x→Zb P f args (.ret (rv x) (ro x))
def Func.cd (fn:Func):Code:=fn.body.getD .skip
theorem hfn (hss:List (List LK)) {f:FuncId} {fn:Func} {args:List AV} (hf:P.funcs[f]?=some fn) {rv:R→AV} {ro:R→List AObj}
  (k:Hl P (fun x out=>Qlk P fn hss out=some (rv x,ro x)) ⟨.code (Func.cd fn),[],st0 fn.ntmps args,none,0⟩ D) (hb:fn.body.isSome=true:=by kernel_rfl) (hn:(fn.name == "runtime.NumGoroutine")=false:=by decide +kernel) (hle:Nat.ble args.length fn.ntmps=true:=by kernel_rfl):Ct P f args D rv ro:=fun x h=>by
 cases hc:fn.body with
 | none=>rw [hc] at hb; cases hb
 | some cd=>have:=k x h; simp only [Func.cd,hc] at this; exact Q16 hss hf hc hn hle this
noncomputable def Cf.as (c:Cf):List AV:=match Xh c.o c.i c.st with | some (_,zs)=>zs | none=>[]
noncomputable def Cf.fid (c:Cf):Option FuncId:=(Xh c.o c.i c.st).map (·.1)
noncomputable def Cf.il (c:Cf) (fn:Func):Cf:=⟨.code (Func.cd fn),.inl fn c.o c.i c.st c.rd c.base::c.fr,⟨K4 0 c.as,c.st.objs,fn.ntmps⟩,none,c.st.objs.length⟩
theorem Q0r {f:FuncId} (h:c.fid=some f):Xh c.o c.i c.st=some (f,c.as):=by
 unfold Cf.fid at h
 unfold Cf.as
 cases hc:Xh c.o c.i c.st with
 | none=>rw [hc] at h; cases h
 | some y=>rw [hc] at h; simp only [Option.map_some,Option.some.injEq] at h; subst h; rfl
theorem Qyw {fn:Func} (h:fn.body.isSome=true):fn.body=some (Func.cd fn):=by
 unfold Func.cd
 cases hc:fn.body with
 | none=>rw [hc] at h; cases h
 | some x=>rfl
theorem hil (n:Nat) {f:FuncId} {fn:Func} (hf:P.funcs[f]?=some fn) (k:Hl P Ω ((gg P n c).il fn) D) (e:goO P n c=true:=by kernel_rfl) (hi:(gg P n c).fid=some f:=by kernel_rfl) (hd:(gg P n c).d=none:=by kernel_rfl)
  (hb:fn.body.isSome=true:=by kernel_rfl) (hn:(fn.name == "runtime.NumGoroutine")=false:=by decide +kernel) (hle:Nat.ble (gg P n c).as.length fn.ntmps=true:=by kernel_rfl):Hl P Ω c D:=fun r h=>Qdz e fun hO=>Qec hO (by
 rw [hd]; exact Q2i (Q0r hi) hf (Qyw hb) hn hle (k r h))
noncomputable def Cf.rg (c:Cf):Option (FuncId × List AV × List AV × List Tmp × Code × Code):=match c.x with
 | .rangeFunc g ps a b=>match evo (lk c.st.slots) g with
  | some (.fn (.func f) first caps)=>some (f,first,caps,ps.toList,a,b)
  | _=>none
 | _=>none
noncomputable def Cf.rS (c:Cf) (fn:Func):Cf:=match c.rg with
 | some (_,first,caps,ps,a,b)=>⟨.code (Func.cd fn),.rng fn c.st c.rd c.base::c.fr,Qjj c.st ps a b first caps fn.ntmps,none,c.st.objs.length+1⟩
 | none=>.bad
noncomputable def Cf.rL (c:Cf):Nat := match c.rg with
 | some (_,first,caps,_)=>(first++[AV.yld c.st.objs.length]++caps).length
 | none=>0
theorem hrg (n:Nat) {f:FuncId} {fn:Func} (hf:P.funcs[f]?=some fn) (k:Hl P Ω ((gg P n c).rS fn) D) (e:goX P n c=true:=by kernel_rfl) (hi:(gg P n c).rg.map (·.1)=some f:=by kernel_rfl)
  (hb:fn.body.isSome=true:=by kernel_rfl) (hn:(fn.name == "runtime.NumGoroutine")=false:=by decide +kernel) (hle:Nat.ble (gg P n c).rL fn.ntmps=true:=by kernel_rfl) (hr:Qxo (gg P n c).rd (gg P n c).st.objs=true:=by kernel_rfl):Hl P Ω c D:=fun r h=>Q04 e fun hX=>Qzp hX (by
 have k:=k r h
 generalize gg P n c=c' at *
 cases hc:c'.rg with
 | none=>rw [hc] at hi; cases hi
 | some y =>
  obtain ⟨g,first,caps,ps,a,b⟩:=y
  rw [hc] at hi
  simp only [Option.map_some,Option.some.injEq] at hi
  subst hi
  unfold Cf.rL at hle
  unfold Cf.rS at k
  rw [hc] at hle k
  unfold Cf.rg at hc
  split at hc
  ·rename_i g' ps' a' b' hx
   split at hc
   ·rename_i he
    cases hc
    rw [hx]
    exact Qw2 he hf (Qyw hb) hn hle hr k
   ·cases hc
  ·cases hc)
noncomputable def Cf.yi (c:Cf):Option (Nat × Nat × List AV × List (Nat × AV) × List Tmp × Code × Code):=match Qmn c.o c.i c.st with
 | some (l,us)=>match c.st.objs[l]? with
  | some (.loop nt sl ps a b .ready _)=>some (l,nt,us,sl,ps,a,b)
  | _=>none
 | none=>none
noncomputable def Cf.yS (c:Cf):Cf:=match c.yi with
 | some (l,nt,us,sl,ps,a,b)=>⟨.code a,.yA l nt b c.o c.i c.st c.rd c.base::c.fr,⟨Qi4 sl ps us,c.st.objs,nt⟩,some l,c.st.objs.length⟩
 | none=>.bad
noncomputable def Cf.yb (c:Cf):Bool:=match c.yi with
 | some (l,nt,us,sl,ps,a,b)=>Nat.beq us.length ps.length && ps.all fun t=>Nat.blt t nt
 | none=>false
theorem hyl (n:Nat) (k:Hl P Ω (gg P n c).yS D) (e:goO P n c=true:=by kernel_rfl) (hd:(gg P n c).d=none:=by kernel_rfl) (hy:(gg P n c).yb=true:=by kernel_rfl):Hl P Ω c D:=fun r h=>Qdz e fun hO=>Qec hO (by
 have k:=k r h
 generalize gg P n c=c' at *
 rw [hd]
 cases hc:c'.yi with
 | none=>unfold Cf.yb at hy; rw [hc] at hy; cases hy
 | some y =>
  obtain ⟨l,nt,us,sl,ps,a,b⟩:=y
  unfold Cf.yb at hy
  unfold Cf.yS at k
  rw [hc] at hy k
  unfold Cf.yi at hc
  split at hc
  ·rename_i hi
   split at hc
   ·rename_i hl
    cases hc
    exact Q2m hi hl hy k
   ·cases hc
  ·cases hc)
noncomputable def Qgz (t:Nat) (ws:List (Option Wt)) (st:St):Option (Option St × List ((Nat × Nat × List AV) × Wt)):=match lk st.slots t with
 | some x=>match snW st.sto Qn x ws with
  | some (y,ids,es,_)=>some (Qkl t y ids st,es)
  | none=>none
 | none=>none
noncomputable def Qgg (o i:Nat) (ws:List (Option Wt)) (st:St):Option (Option St × List ((Nat × Nat × List AV) × Wt)):=match st.sto o with
 | some (.row _ _ _ _ _ xs)=>match xs[i]? with
  | some x=>match snW st.sto Qn x ws with
   | some (y,ids,es,_)=>if Qb6 ids o then none else some (Ql2 o i y ids st,es)
   | none=>none
  | none=>none
 | _=>none
noncomputable def sn1 (x:Option (Option St × List ((Nat × Nat × List AV) × Wt))):Option St:=match x with | some (s,_)=>s | none=>none
noncomputable def sn2 (x:Option (Option St × List ((Nat × Nat × List AV) × Wt))):List ((Nat × Nat × List AV) × Wt):=match x with | some (_,e)=>e | none=>[]
theorem wsk {base:Nat} {st S:St} (t:Nat) (ws:List (Option Wt)) (h:sn1 (Qgz t ws st)=some S:=by kernel_rfl) (he:(sn2 (Qgz t ws st)).map (·.1)=(sn2 (Qgz t ws st)).map (fun p=>(p.2.i,p.2.n,p.2.xs)):=by kernel_rfl):Wk P base st S:=by
 cases hs:Qgz t ws st with
 | none=>rw [hs] at h; cases h
 | some z =>
  obtain ⟨s,es⟩:=z
  rw [hs] at h he
  unfold Qgz at hs
  split at hs
  ·rename_i x hx
   split at hs
   ·rename_i y ids es' ws' hsn
    cases hs
    exact Qy9 t hx (Qbq Qn _ _ _ _ _ _ hsn he) h
   ·cases hs
  ·cases hs
theorem wsn {base:Nat} {st:St} (t:Nat) (ws:List (Option Wt)) (h:(sn1 (Qgz t ws st)).isSome=true:=by kernel_rfl) (he:(sn2 (Qgz t ws st)).map (·.1)=(sn2 (Qgz t ws st)).map (fun p=>(p.2.i,p.2.n,p.2.xs)):=by kernel_rfl):Wk P base st (gt0 (sn1 (Qgz t ws st))):=wsk t ws (gE h) he
theorem wok {base:Nat} {st S:St} (o i:Nat) (ws:List (Option Wt)) (h:sn1 (Qgg o i ws st)=some S:=by kernel_rfl) (he:(sn2 (Qgg o i ws st)).map (·.1)=(sn2 (Qgg o i ws st)).map (fun p=>(p.2.i,p.2.n,p.2.xs)):=by kernel_rfl):Wk P base st S:=by
 cases hs:Qgg o i ws st with
 | none=>rw [hs] at h; cases h
 | some z =>
  obtain ⟨s,es⟩:=z
  rw [hs] at h he
  unfold Qgg at hs
  split at hs
  ·rename_i ho
   split at hs
   ·rename_i x hx
    split at hs
    ·rename_i y ids es' ws' hsn
     split at hs
     ·cases hs
     ·rename_i hn
      cases hs
      exact Qxe o i ho hx (by simpa using hn) (Qbq Qn _ _ _ _ _ _ hsn he) h
    ·cases hs
   ·cases hs
  ·cases hs
theorem won {base:Nat} {st:St} (o i:Nat) (ws:List (Option Wt)) (h:(sn1 (Qgg o i ws st)).isSome=true:=by kernel_rfl) (he:(sn2 (Qgg o i ws st)).map (·.1)=(sn2 (Qgg o i ws st)).map (fun p=>(p.2.i,p.2.n,p.2.xs)):=by kernel_rfl):Wk P base st (gt0 (sn1 (Qgg o i ws st))):=wok o i ws (gE h) he
def snP (σ:Sto):List (Nat × AV)→List (Option Wt)→Option (List (Nat × AV) × List Nat × List ((Nat × Nat × List AV) × Wt))
 | [],_=>some ([],[],[])
 | (i,x)::r,ws=>if x.nr then match snP σ r ws with
   | some (ys,b,e)=>some ((i,x)::ys,b,e)
   | none=>none
  else match snW σ Qn x ws with
   | some (y,a,e,ws)=>match snP σ r ws with
    | some (ys,b,e')=>some ((i,y)::ys,a++b,e++e')
    | none=>none
   | none=>none
theorem Qo1 {σ:Sto}:∀(ps:List (Nat × AV)) (ws:List (Option Wt)) ys b e,snP σ ps ws=some (ys,b,e)→eqW e→Zp σ ps=some (ys,b)
 | [],ws,ys,b,e,h,he=>by cases h; rfl
 | (i,x)::r,ws,ys,b,e,h,he=>by
  unfold snP at h
  split at h
  ·rename_i hx
   split at h
   ·rename_i ys2 b2 e2 h2
    cases h
    exact Qq0 hx (Qo1 r _ _ _ _ h2 he)
   ·cases h
  ·rename_i hx
   split at h
   ·rename_i y a e1 ws1 h1
    split at h
    ·rename_i ys2 b2 e2 h2
     cases h
     obtain ⟨g1,g2⟩:=Qgc he
     exact Qq8 (by simpa using hx) (Qbq _ _ _ _ _ _ _ h1 g1) (Qo1 r _ _ _ _ h2 g2) rfl
    ·cases h
   ·cases h
noncomputable def Cf.bs (P:Program) (c:Cf) (he:List LK) (b:Bool) (ws:List (Option Wt)):Option (St × List (Nat × AObj) × List Nat × List ((Nat × Nat × List AV) × Wt)):=match Qpj P c.o c.i c.st with
 | some ps=>match snP c.st.sto ps ws with
  | some (parts,ids,e)=>match Qw9 P c.o c.i c.st he b parts ids with
   | some (S,es)=>some (S,es,ids,e)
   | none=>none
  | none=>none
 | none=>none
noncomputable def Cf.bS (P:Program) (c:Cf) (he:List LK) (b:Bool) (ws:List (Option Wt)):Cf:=match c.bs P he b ws with
 | some (S,es,ids,_)=>c.nx [(es.map (·.1),ids)] S
 | none=>.bad
noncomputable def Cf.be (P:Program) (c:Cf) (he:List LK) (b:Bool) (ws:List (Option Wt)):List ((Nat × Nat × List AV) × Wt):=match c.bs P he b ws with
 | some (_,_,_,e)=>e
 | none=>[]
theorem hbs (n:Nat) (he:List LK) (b:Bool) (ws:List (Option Wt)) (k:Hl P Ω ((gg P n c).bS P he b ws) D) (e:goO P n c=true:=by kernel_rfl) (h:((gg P n c).bs P he b ws).isSome=true:=by kernel_rfl)
  (hw:((gg P n c).be P he b ws).map (·.1)=((gg P n c).be P he b ws).map (fun p=>(p.2.i,p.2.n,p.2.xs)):=by kernel_rfl):Hl P Ω c D:=fun r hr=>Qdz e fun hO=>by
 have k:=k r hr
 revert k h hw
 unfold Cf.bS Cf.be
 generalize gg P n c=c' at *
 cases hs:c'.bs P he b ws with
 | none=>intro h; cases h
 | some z =>
  obtain ⟨S,es,ids,eq⟩:=z
  intro h hw k
  refine Qec hO ?_
  unfold Cf.bs at hs
  split at hs
  ·rename_i ps hi
   split at hs
   ·rename_i parts ids' e' hp
    split at hs
    ·rename_i S' es' hS
     cases hs
     exact bsR he b hi (Qo1 _ _ _ _ _ hp hw) hS k
    ·cases hs
   ·cases hs
  ·cases hs
def Cf.lc (c:Cf) (S:St):Cf:=⟨.code c.lb,.lp c.lb::c.fr,S,c.rd,c.base⟩
theorem hst (n:Nat) {σ ρ:Type} {N:Nat} {cnd:σ→Bool} {body:σ→Option (Qk σ ρ)} {K:σ ⊕ ρ→Option R} {s0:σ} (I:σ→St) (E:ρ→Xq × St) (w:Wk P (gg P n c).base (gg P n c).st (I s0))
  (b:∀s,Hl P (RdI P (gg P n c).base I E) ((gg P n c).at' (gg P n c).lb (I s)) (body s)) (k1:∀y,Hl P Ω ((gg P n c).lc (I y)) (K (.inl y))) (k2:∀x,Hl P Ω ((gg P n c).ex (E x)) (K (.inr x))) (e:goL P n c=true:=by kernel_rfl):Hl P Ω c ((Qc N (Qhq cnd body) s0).bind K):=fun r h =>
 Qv4 e (Qt9 s0 w h (fun s o ho=>b s o ho) (fun y hy=>Qef (k1 y r hy)) fun x hx out ho=>by subst ho; exact k2 x r hx)
def Cf.rb (fn:Func) (N:Nat) (S:St):Cf:=⟨.code (Func.cd fn),[],S,none,N⟩
end
section
variable {P:Program} {R:Type} {Ω:R→AOut→Prop} {c:Cf} {D A B:Option R}
end
attribute [irreducible] Hl Gl Phi ctl stp settle go gg goO goX goF goL goN goE Cf.o Cf.d Cf.i Cf.isO Cf.x Cf.isX Cf.free Cf.nx Cf.to Cf.sn Cf.ids Cf.eqs Cf.us Cf.cl Cf.lb Cf.at' Cf.ex Cf.as Cf.fid Cf.il Cf.rg Cf.rS Cf.rL Cf.yi Cf.yS Cf.yb Cf.bs Cf.bS Cf.be Cf.lc Cf.rb RdI Func.cd
end Go.Ab
