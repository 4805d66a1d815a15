/- What functions compute. No conditions. -/
import Derived.Test.YtokcpkcoahlkjaaProg
import Derived.Tactics
import Derived.Tactics2
import Derived.Defers
import Derived.Recover
import Derived.Laws.Pointers
import Derived.Test.YtokcpkcoahlkjaaEng8
import Derived.Test.YtokcpkcoahlkjaaEng9
import Derived.KernelRfl
set_option linter.all false
namespace Go.Ab
open Go Go.Proofs
set_option maxRecDepth 100000
set_option maxHeartbeats 1000000
theorem Q0x (p q:Addr) (w:World):CallsD Try.prog 101 #[.pointer (some p),.pointer (some q)] .returning w fun e u' w'=>e=.returned (.tuple #[])∧u'=.returning∧w'=w:=by
 refine callsD_of_wpS Try.func101 rfl fun c₀ cs hu=>?_
 apply wpS_seq
 apply wpS_region
 simp [wpOpsS,go_sem,recoverD,hu,Try.ntmps101,Exit.thenS]
 refine wpS_cond (t:=false) (by simp [Act.eval,Act.put,Array.replicate]) ?_
 simp only [Bool.false_eq_true,if_false]
 refine wpS_of_wp (_root_.Go.wp_skip ?_)
 cases c₀
 simp_all [bodyPostS,results,Try.results101,Act.put]
theorem Q24:Q0k Try.prog 82 39 50:=by
 intro g gfn caps w x y R hf hb hn h
 have hmf:∀(fn:Fn) (first cap:Array Value) (w:World),(Instr.makeFunc fn first cap).run Try.prog w=.ok (.func fn first cap) w:=fun _ _ _ _=>rfl
 go_enter_defers Try.func82,Try.ntmps82
 go_wp2
 rw [J3 hf hb hn,Oper.upon_enter]
 refine h.mono ?_
 rintro e w' ⟨rfl,c1,c2,c3,f1,f2,f3,hR⟩
 go_wp2
 refine leaves_cons (f:=101) (args:=#[.pointer (some ⟨w.heap.size,0,none⟩),.pointer (some ⟨w.heap.size+1,0,none⟩)]) (by simp) (by simp [go_sem]) ?_
 refine (Q0x _ _ _).mono ?_
 rintro e u' w'' ⟨rfl,rfl,rfl⟩
 have d1:=World.cell?_setCell_same w' ⟨w.heap.size,0,none⟩ (.int .i64 x) c1
 simp [Leaves,_root_.Go.settle,results,Try.results82,go_sem,d1,c1,c2,c3]
 exact hR
theorem Q03 (p q:Addr) (w:World):CallsD Try.prog 120 #[.pointer (some p),.pointer (some q)] .returning w fun e u' w'=>e=.returned (.tuple #[])∧u'=.returning∧w'=w:=by
 refine callsD_of_wpS Try.func120 rfl fun c₀ cs hu=>?_
 apply wpS_seq
 apply wpS_region
 simp [wpOpsS,go_sem,recoverD,hu,Try.ntmps120,Exit.thenS]
 refine wpS_cond (t:=false) (by simp [Act.eval,Act.put,Array.replicate]) ?_
 simp only [Bool.false_eq_true,if_false]
 refine wpS_of_wp (_root_.Go.wp_skip ?_)
 cases c₀
 simp_all [bodyPostS,results,Try.results120,Act.put]
theorem Q1s:Q1r Try.prog 113 3 50:=by
 intro g gfn caps w x R hf hb hn h
 have hmf:∀(fn:Fn) (first cap:Array Value) (w:World),(Instr.makeFunc fn first cap).run Try.prog w=.ok (.func fn first cap) w:=fun _ _ _ _=>rfl
 go_enter_defers Try.func113,Try.ntmps113
 go_wp2
 rw [J3 hf hb hn,Oper.upon_enter]
 refine h.mono ?_
 rintro e w' ⟨rfl,c1,c3,f1,f3,hR⟩
 go_wp2
 refine leaves_cons (f:=120) (args:=#[.pointer (some ⟨w.heap.size,0,none⟩),.pointer (some ⟨w.heap.size+1,0,none⟩)]) (by simp) (by simp [go_sem]) ?_
 refine (Q03 _ _ _).mono ?_
 rintro e u' w'' ⟨rfl,rfl,rfl⟩
 have d1:=World.cell?_setCell_same w' ⟨w.heap.size,0,none⟩ (.int .i64 x) c1
 simp [Leaves,_root_.Go.settle,results,Try.results113,go_sem,d1,c1,c3]
 exact hR
end Go.Ab
namespace Go.Ab
open Go
structure Tapi_Node where
 Card:Int
 Parents:(List Int)
 Rows:(List (List Int))
 deriving DecidableEq,Inhabited
@[reducible] def eTapi_Node (x:Tapi_Node):AV:=.agg [vI x.Card,eL true eI x.Parents,eL false (eL true eI) x.Rows]
@[reducible] def eoTapi_Node (x:Int ⊕ Tapi_Node):AV:=match x with | .inl c=>.agg [vI c,.nils,.nils] | .inr y=>eTapi_Node y
def coTapi_Node (x:Int ⊕ Tapi_Node):Tapi_Node:=match x with | .inl c=>⟨c,[],[]⟩ | .inr y=>y
structure Qb where
 Grain:Int
 Nodes:(List Tapi_Node)
 deriving DecidableEq,Inhabited
structure Tharuspexref02_Draft where
 C:(List Int)
 Which:Int
 Order:(List Int)
 deriving DecidableEq,Inhabited
structure Q0 where
 Card:Int
 Parents:Int
 W:(List Int)
 deriving DecidableEq,Inhabited
@[reducible] def eTharuspexref05_Piece (x:Q0):AV:=.agg [.int .u8 x.Card,.int .u8 x.Parents,eL true (AV.int .u8) x.W]
structure Qf where
 Grain:Int
 Nodes:(List Q0)
 Order:(List Int)
 deriving DecidableEq,Inhabited
@[reducible] def Qki (x:Qf):AV:=.agg [.int .u8 x.Grain,eL false eTharuspexref05_Piece x.Nodes,eL true (AV.int .u8) x.Order]
structure Tharuspexref05_Known where
 Which:Int
 V:(Int × Int × Int × Int × Int × Int × Int × Int)
 deriving Inhabited
@[reducible] def Qjp (x:Tharuspexref05_Known):AV:=.agg [.int .u8 x.Which,.int .u8 x.V.1,.int .u8 x.V.2.1,.int .u8 x.V.2.2.1,.int .u8 x.V.2.2.2.1,.int .u8 x.V.2.2.2.2.1,.int .u8 x.V.2.2.2.2.2.1,.int .u8 x.V.2.2.2.2.2.2.1,.int .u8 x.V.2.2.2.2.2.2.2]
structure Xc where
 V:Int
 Value:Int
 Node:Int
 Row:Int
 From:Int
 To:Int
 deriving DecidableEq,Inhabited
@[reducible] def Qj7 (x:Xc):AV:=.agg [.int .u8 x.V,.int .u8 x.Value,.int .u8 x.Node,.int .u8 x.Row,.int .u8 x.From,.int .u8 x.To]
structure Tapi_Shift where
 Node:Int
 Row:Int
 From:Int
 To:Int
 deriving DecidableEq,Inhabited
@[reducible] def Qww (x:Tapi_Shift):AV:=.agg [vI x.Node,vI x.Row,vI x.From,vI x.To]
structure Zr where
 What : Int
 At:Int
 Row:Int
 N:Int
 deriving DecidableEq,Inhabited
@[reducible] def Qk4 (x:Zr):AV:=.agg [.int .u8 x.What,.int .u8 x.At,.int .u8 x.Row,vI x.N]
structure Tharuspexlaw24_Story where
 N:Qf
 C:Zr
 K:Tharuspexref05_Known
 D:Xc
 Raw:(List Int)
 V:Int
 Value:Int
 S:Tapi_Shift
 deriving Inhabited
@[reducible] def eTharuspexlaw24_Story (x:Tharuspexlaw24_Story):AV:=.agg [.int .u8 x.N.Grain,eL false eTharuspexref05_Piece x.N.Nodes,eL true (AV.int .u8) x.N.Order,.int .u8 x.C.What,.int .u8 x.C.At,.int .u8 x.C.Row,vI x.C.N,.int .u8 x.K.Which,.int .u8 x.K.V.1,.int .u8 x.K.V.2.1,.int .u8 x.K.V.2.2.1,.int .u8 x.K.V.2.2.2.1,.int .u8 x.K.V.2.2.2.2.1,.int .u8 x.K.V.2.2.2.2.2.1,.int .u8 x.K.V.2.2.2.2.2.2.1,.int .u8 x.K.V.2.2.2.2.2.2.2,.int .u8 x.D.V,.int .u8 x.D.Value,.int .u8 x.D.Node,.int .u8 x.D.Row,.int .u8 x.D.From,.int .u8 x.D.To,eL true eI x.Raw,vI x.V,vI x.Value,vI x.S.Node,vI x.S.Row,vI x.S.From,vI x.S.To]
structure Qi where
 n:Qb
 e:(List Int)
 v:Int
 value:Int
 s:Tapi_Shift
 deriving DecidableEq,Inhabited
@[reducible] def Ql1 (x:Qi):AV:=.agg [vI x.n.Grain,eL false eTapi_Node x.n.Nodes,eL true eI x.e,vI x.v,vI x.value,vI x.s.Node,vI x.s.Row,vI x.s.From,vI x.s.To]
structure Za where
 Net:Qb
 cards:(List Int)
 sets:(List Int)
 order:(List Int)
 deriving DecidableEq,Inhabited
structure Tapi_Q where
 N:Int
 D:Int
 deriving DecidableEq,Inhabited
def Qgc (p1:(List Int)) (p0:(List Int)) (s1:(Int × (List Int))):Option (Qm (Int × (List Int)) (List Int)) :=
 if (decide (s1.1 < (p1.length:Int)))=true then
  (lkI p1 s1.1).bind fun a4 =>
  (lkI p0 a4).bind fun a6 =>
  if (s1.2++([a6]:(List Int))).length*8≤140737488355328 then
   some (.next (zw (s1.1+1),(s1.2++([a6]:(List Int)))))
  else none
 else
 some (.done s1.2)
def Qco (p0:(List Int)) (p1:(List Int)):Option (List Int) :=
 (Qd fuel (Qgc p1 p0) (0,([]:(List Int)))).bind fun x9 =>
 some x9
def Jp (p0:Qb) (s1:(Int × (List Int))):Option (Qm (Int × (List Int)) (List Int)) :=
 if (decide (s1.1 < (p0.Nodes.length:Int)))=true then
  (lkI p0.Nodes s1.1).bind fun a4 =>
  if (s1.2++([a4.Card]:(List Int))).length*8≤140737488355328 then
   some (.next (zw (s1.1+1),(s1.2++([a4.Card]:(List Int)))))
  else none
 else
 some (.done s1.2)
def Vf (p0:Qb):Option (List Int) :=
 (Qd fuel (Jp p0) (0,([]:(List Int)))).bind fun x7 =>
 some x7
def Q3 (p0:Qb) (p1:Int):Option (List Int) :=
 (Vf p0).bind fun x1 =>
 (lkI p0.Nodes p1).bind fun a3 =>
 (Qco x1 a3.Parents).bind fun x5 =>
 some x5
def Ks (p0:Tharuspexref02_Draft) (s1:(Int × (List Int))):Option (Qm (Int × (List Int)) (List Int)) :=
 if (decide (s1.1 < (p0.C.length:Int)))=true then
  if (decide (s1.1 < 5))=true then
   (lkI p0.C s1.1).bind fun a6 =>
   if (s1.2++([zw (1+(zw (Int.tmod a6 4)))]:(List Int))).length*8≤140737488355328 then
    some (.next (zw (s1.1+1),(s1.2++([zw (1+(zw (Int.tmod a6 4)))]:(List Int)))))
   else none
  else
  some (.done s1.2)
 else
 some (.done s1.2)
def Ju (p0:Tharuspexref02_Draft):Option (List Int) :=
 (Qd fuel (Ks p0) (0,([]:(List Int)))).bind fun x9 =>
 some x9
def Vl (p0:Tharuspexref02_Draft) (s1:(Int × (List Int))):Option (Qm (Int × (List Int)) (List Int)) :=
 (Ju p0).bind fun x2 =>
 if (decide (s1.1 < (x2.length:Int)))=true then
  if (decide (s1.1 < (p0.Order.length:Int)))=true then
   (lkI p0.Order s1.1).bind fun a8 =>
   if (zw (s1.1+1))≠0 then
    if 0≤(0:Int)∧(0:Int)≤(Int.tmod (zw (a8)) (zw (s1.1+1)))∧(Int.tmod (zw (a8)) (zw (s1.1+1)))≤(s1.2.length:Int) then
     if (sub s1.2 0 (Int.tmod (zw (a8)) (zw (s1.1+1)))).length*8≤140737488355328 then
      if ((sub s1.2 0 (Int.tmod (zw (a8)) (zw (s1.1+1))))++([s1.1]:(List Int))).length*8≤140737488355328 then
       if 0≤(Int.tmod (zw (a8)) (zw (s1.1+1)))∧(Int.tmod (zw (a8)) (zw (s1.1+1)))≤(s1.2.length:Int)∧(s1.2.length:Int)≤(s1.2.length:Int) then
        if (((sub s1.2 0 (Int.tmod (zw (a8)) (zw (s1.1+1))))++([s1.1]:(List Int)))++(sub s1.2 (Int.tmod (zw (a8)) (zw (s1.1+1))) (s1.2.length:Int))).length*8≤140737488355328 then
         some (.next (zw (s1.1+1),(((sub s1.2 0 (Int.tmod (zw (a8)) (zw (s1.1+1))))++([s1.1]:(List Int)))++(sub s1.2 (Int.tmod (zw (a8)) (zw (s1.1+1))) (s1.2.length:Int)))))
        else none
       else none
      else none
     else none
    else none
   else none
  else
  if 0≤(0:Int)∧(0:Int)≤(0:Int)∧(0:Int)≤(s1.2.length:Int) then
   if (sub s1.2 0 0).length*8≤140737488355328 then
    if ((sub s1.2 0 0)++([s1.1]:(List Int))).length*8≤140737488355328 then
     if 0≤(0:Int)∧(0:Int)≤(s1.2.length:Int)∧(s1.2.length:Int)≤(s1.2.length:Int) then
      if (((sub s1.2 0 0)++([s1.1]:(List Int)))++(sub s1.2 0 (s1.2.length:Int))).length*8≤140737488355328 then
       some (.next (zw (s1.1+1),(((sub s1.2 0 0)++([s1.1]:(List Int)))++(sub s1.2 0 (s1.2.length:Int)))))
      else none
     else none
    else none
   else none
  else none
 else
 some (.done s1.2)
def Yx (p0:Tharuspexref02_Draft):Option (List Int) :=
 (Qd fuel (Vl p0) (0,([]:(List Int)))).bind fun x15 =>
 some x15
def Ke (p0:(List Int)) (s1:(Int × Int)):Option (Qm (Int × Int) Int) :=
 if (decide (s1.2 < (p0.length:Int)))=true then
  (lkI p0 s1.2).bind fun a4 =>
  some (.next (zw (s1.1*a4),zw (s1.2+1)))
 else
 some (.done s1.1)
def Y8 (p0:(List Int)):Option Int :=
 (Qd fuel (Ke p0) (1,0)).bind fun x7 =>
 some x7
def Jk (p1:Int) (p2:(List Int)) (p3:Int) (s1:(Int × Int × (List Int))):Option (Qm (Int × Int × (List Int)) (Int × (List Int))) :=
 if (decide (s1.2.1 < p1))=true then
  if (decide ((p2.length:Int) > 0))=true then
   if (p2.length:Int)≠0 then
    (lkI p2 (Int.tmod (zw (p3+s1.2.1)) (p2.length:Int))).bind fun a6 =>
    (lkI s1.2.2 s1.2.1).bind fun a8 =>
    some (.next (zw (s1.1+(zw (Int.tmod a6 8))),zw (s1.2.1+1),(List.set s1.2.2 (Int.toNat s1.2.1) (zw (Int.tmod a6 8)))))
   else none
  else
  (lkI s1.2.2 s1.2.1).bind fun a11 =>
  some (.next (zw (s1.1+a11),zw (s1.2.1+1),s1.2.2))
 else
 some (.done (s1.1,s1.2.2))
def Qfe (p1:Int) (x14:(Int × (List Int))) (p0:Int) (s15:(Int × Int × Int × (List Int))):Option (Qm (Int × Int × Int × (List Int)) (Int × Int × (List Int))) :=
 if (decide (s15.2.2.1 < p1))=true then
  (lkI s15.2.2.2 s15.2.2.1).bind fun a18 =>
  if (decide (a18 > 0))=true then
   if x14.1≠0 then
    some (.next (zw (s15.1 - (zw (Int.tdiv (zw (p0*a18)) x14.1))),s15.2.2.1,zw (s15.2.2.1+1),(List.set s15.2.2.2 (Int.toNat s15.2.2.1) (zw (Int.tdiv (zw (p0*a18)) x14.1)))))
   else none
  else
  some (.next (zw (s15.1 - a18),s15.2.1,zw (s15.2.2.1+1),s15.2.2.2))
 else
 some (.done (s15.1,s15.2.1,s15.2.2.2))
def Qcx (p0:Int) (p1:Int) (p2:(List Int)) (p3:Int):Option (List Int) :=
 if 0≤p1∧p1≤p1∧p1*8≤140737488355328 then
  (Qd fuel (Jk p1 p2 p3) (0,0,(List.replicate (Int.toNat p1) (0:Int)))).bind fun x14 =>
  (Qd fuel (Qfe p1 x14 p0) (p0,0,0,x14.2)).bind fun x24 =>
  (lkI x24.2.2 x24.2.1).bind fun a25 =>
  some (List.set x24.2.2 (Int.toNat x24.2.1) (zw (a25+x24.1)))
 else none
def Va (p0:Qf) (x1:(List Int)) (s3:(Int × Int × (List (Int ⊕ Tapi_Node)))):Option (Qm (Int × Int × (List (Int ⊕ Tapi_Node))) (List (Int ⊕ Tapi_Node))) :=
 if (decide (s3.2.1 < (if 5 < (if 1 > (p0.Nodes.length:Int) then 1 else (p0.Nodes.length:Int)) then 5 else (if 1 > (p0.Nodes.length:Int) then 1 else (p0.Nodes.length:Int)))))=true then
  if (decide (s3.2.1 < (p0.Nodes.length:Int)))=true then
   (lkI p0.Nodes s3.2.1).bind fun a8 =>
   if 0≤(zv (zw ((zw ((if 5 < (if 1 > (p0.Nodes.length:Int) then 1 else (p0.Nodes.length:Int)) then 5 else (if 1 > (p0.Nodes.length:Int) then 1 else (p0.Nodes.length:Int))) - 1)) - s3.2.1))) then
    if (decide ((zw ((zw (s3.1*(zw (2+(zw (Int.tmod a8.Card 2))))))*2^min (Int.toNat (zv (zw ((zw ((if 5 < (if 1 > (p0.Nodes.length:Int) then 1 else (p0.Nodes.length:Int)) then 5 else (if 1 > (p0.Nodes.length:Int) then 1 else (p0.Nodes.length:Int))) - 1)) - s3.2.1)))) (IntKind.bits .i64))) > 100))=true then
     (lkI x1 s3.2.1).bind fun a12 =>
     (lkL s3.2.2 a12).bind fun a14 =>
     some (.next (zw (s3.1*2),zw (s3.2.1+1),(List.set s3.2.2 (Int.toNat a12) (Sum.inl 2))))
    else
    (lkI x1 s3.2.1).bind fun a17 =>
    (lkL s3.2.2 a17).bind fun a19 =>
    some (.next (zw (s3.1*(zw (2+(zw (Int.tmod a8.Card 2))))),zw (s3.2.1+1),(List.set s3.2.2 (Int.toNat a17) (Sum.inl (zw (2+(zw (Int.tmod a8.Card 2))))))))
   else none
  else
  if 0≤(zv (zw ((zw ((if 5 < (if 1 > (p0.Nodes.length:Int) then 1 else (p0.Nodes.length:Int)) then 5 else (if 1 > (p0.Nodes.length:Int) then 1 else (p0.Nodes.length:Int))) - 1)) - s3.2.1))) then
   if (decide ((zw ((zw (s3.1*(zw (2+(zw (Int.tmod 0 2))))))*2^min (Int.toNat (zv (zw ((zw ((if 5 < (if 1 > (p0.Nodes.length:Int) then 1 else (p0.Nodes.length:Int)) then 5 else (if 1 > (p0.Nodes.length:Int) then 1 else (p0.Nodes.length:Int))) - 1)) - s3.2.1)))) (IntKind.bits .i64))) > 100))=true then
    (lkI x1 s3.2.1).bind fun a24 =>
    (lkL s3.2.2 a24).bind fun a26 =>
    some (.next (zw (s3.1*2),zw (s3.2.1+1),(List.set s3.2.2 (Int.toNat a24) (Sum.inl 2))))
   else
   (lkI x1 s3.2.1).bind fun a29 =>
   (lkL s3.2.2 a29).bind fun a31 =>
   some (.next (zw (s3.1*(zw (2+(zw (Int.tmod 0 2))))),zw (s3.2.1+1),(List.set s3.2.2 (Int.toNat a29) (Sum.inl (zw (2+(zw (Int.tmod 0 2))))))))
  else none
 else
 some (.done s3.2.2)
def Y2 (s36:(Int × (List (Int ⊕ Tapi_Node)))) (x1:(List Int)) (s55:(Int × (List Int))) (a49:Q0) (s58:(Int × (List Int))):Option (Qm (Int × (List Int)) (List Int)) :=
 if (decide (s58.1 < s36.1))=true then
  (lkI x1 s58.1).bind fun a61 =>
  if (a61==s55.1)=true then
   if 0≤(zv (s58.1)) then
    if ((IntKind.u8.wrap (BitVec.ofInt (IntKind.bits .u8) (Int.fdiv a49.Parents (2^min (Int.toNat (zv (s58.1))) (IntKind.bits .u8))) &&& BitVec.ofInt (IntKind.bits .u8) 1).toNat)==1)=true then
     if (decide ((s58.2.length:Int) < 3))=true then
      if (s58.2++([s55.1]:(List Int))).length*8≤140737488355328 then
       some (.next (zw (s58.1+1),(s58.2++([s55.1]:(List Int)))))
      else none
     else
     some (.next (zw (s58.1+1),s58.2))
    else
    some (.next (zw (s58.1+1),s58.2))
   else none
  else
  some (.next (zw (s58.1+1),s58.2))
 else
 some (.done s58.2)
def X6 (p0:Qf) (s36:(Int × (List (Int ⊕ Tapi_Node)))) (x1:(List Int)) (a49:Q0) (s55:(Int × (List Int))):Option (Qm (Int × (List Int)) (List Int)) :=
 if (decide (s55.1 < (if 5 < (if 1 > (p0.Nodes.length:Int) then 1 else (p0.Nodes.length:Int)) then 5 else (if 1 > (p0.Nodes.length:Int) then 1 else (p0.Nodes.length:Int)))))=true then
  (Qd fuel (Y2 s36 x1 s55 a49) (0,s55.2)).bind fun x70 =>
  some (.next (zw (s55.1+1),x70))
 else
 some (.done s55.2)
def Y9 (p0:Qf) (s36:(Int × (List (Int ⊕ Tapi_Node)))) (a51:Int) (a53:Int) (x72:(List Int)) (a49:Q0) (s73:(Int × (List (List Int)))):Option (Qm (Int × (List (List Int))) (List (List Int))) :=
 (Q3 (Qb.mk (zw (1+(zw (Int.tmod p0.Grain 60)))) (List.set (List.map coTapi_Node s36.2) (Int.toNat a51) (Tapi_Node.mk a53 x72 s73.2))) a51).bind fun x74 =>
 (Y8 x74).bind fun x76 =>
 if (decide (s73.1 < x76))=true then
  (Qcx (zw (1+(zw (Int.tmod p0.Grain 60)))) a53 a49.W (zw (s73.1*(zw (a53+1))))).bind fun x80 =>
  if (s73.2++([x80]:(List (List Int)))).length*24≤140737488355328 then
   some (.next (zw (s73.1+1),(s73.2++([x80]:(List (List Int))))))
  else none
 else
 some (.done s73.2)
def Qkz (s36:(Int × (List (Int ⊕ Tapi_Node)))) (x1:(List Int)) (s90:(Int × (List Int))) (s93:(Int × (List Int))):Option (Qm (Int × (List Int)) (List Int)) :=
 if (decide (s93.1 < s36.1))=true then
  (lkI x1 s93.1).bind fun a96 =>
  if (a96==s90.1)=true then
   if 0≤(zv (s93.1)) then
    if ((IntKind.u8.wrap (BitVec.ofInt (IntKind.bits .u8) (Int.fdiv 0 (2^min (Int.toNat (zv (s93.1))) (IntKind.bits .u8))) &&& BitVec.ofInt (IntKind.bits .u8) 1).toNat)==1)=true then
     if (decide ((s93.2.length:Int) < 3))=true then
      if (s93.2++([s90.1]:(List Int))).length*8≤140737488355328 then
       some (.next (zw (s93.1+1),(s93.2++([s90.1]:(List Int)))))
      else none
     else
     some (.next (zw (s93.1+1),s93.2))
    else
    some (.next (zw (s93.1+1),s93.2))
   else none
  else
  some (.next (zw (s93.1+1),s93.2))
 else
 some (.done s93.2)
def Qeo (p0:Qf) (s36:(Int × (List (Int ⊕ Tapi_Node)))) (x1:(List Int)) (s90:(Int × (List Int))):Option (Qm (Int × (List Int)) (List Int)) :=
 if (decide (s90.1 < (if 5 < (if 1 > (p0.Nodes.length:Int) then 1 else (p0.Nodes.length:Int)) then 5 else (if 1 > (p0.Nodes.length:Int) then 1 else (p0.Nodes.length:Int)))))=true then
  (Qd fuel (Qkz s36 x1 s90) (0,s90.2)).bind fun x105 =>
  some (.next (zw (s90.1+1),x105))
 else
 some (.done s90.2)
def Qko (p0:Qf) (s36:(Int × (List (Int ⊕ Tapi_Node)))) (a86:Int) (a88:Int) (x107:(List Int)) (s108:(Int × (List (List Int)))):Option (Qm (Int × (List (List Int))) (List (List Int))) :=
 (Q3 (Qb.mk (zw (1+(zw (Int.tmod p0.Grain 60)))) (List.set (List.map coTapi_Node s36.2) (Int.toNat a86) (Tapi_Node.mk a88 x107 s108.2))) a86).bind fun x109 =>
 (Y8 x109).bind fun x111 =>
 if (decide (s108.1 < x111))=true then
  (Qcx (zw (1+(zw (Int.tmod p0.Grain 60)))) a88 [] (zw (s108.1*(zw (a88+1))))).bind fun x115 =>
  if (s108.2++([x115]:(List (List Int)))).length*24≤140737488355328 then
   some (.next (zw (s108.1+1),(s108.2++([x115]:(List (List Int))))))
  else none
 else
 some (.done s108.2)
def Y7 (p0:Qf) (x1:(List Int)) (s36:(Int × (List (Int ⊕ Tapi_Node)))):Option (Qm (Int × (List (Int ⊕ Tapi_Node))) (List (Int ⊕ Tapi_Node))) :=
 if (decide (s36.1 < (if 5 < (if 1 > (p0.Nodes.length:Int) then 1 else (p0.Nodes.length:Int)) then 5 else (if 1 > (p0.Nodes.length:Int) then 1 else (p0.Nodes.length:Int)))))=true then
  if (decide (s36.1 < (p0.Nodes.length:Int)))=true then
   (lkI p0.Nodes s36.1).bind fun a49 =>
   (lkI x1 s36.1).bind fun a51 =>
   (lkL s36.2 a51).bind fun a53 =>
   (Qd fuel (X6 p0 s36 x1 a49) (0,([]:(List Int)))).bind fun x72 =>
   (Qd fuel (Y9 p0 s36 a51 a53 x72 a49) (0,([]:(List (List Int))))).bind fun x83 =>
   some (.next (zw (s36.1+1),(List.set s36.2 (Int.toNat a51) (Sum.inr (Tapi_Node.mk a53 x72 x83)))))
  else
  (lkI x1 s36.1).bind fun a86 =>
  (lkL s36.2 a86).bind fun a88 =>
  (Qd fuel (Qeo p0 s36 x1) (0,([]:(List Int)))).bind fun x107 =>
  (Qd fuel (Qko p0 s36 a86 a88 x107) (0,([]:(List (List Int))))).bind fun x118 =>
  some (.next (zw (s36.1+1),(List.set s36.2 (Int.toNat a86) (Sum.inr (Tapi_Node.mk a88 x107 x118)))))
 else
 some (.done s36.2)
def Ja (p0:Qf):Option Qb :=
 if 0≤(if 5 < (if 1 > (p0.Nodes.length:Int) then 1 else (p0.Nodes.length:Int)) then 5 else (if 1 > (p0.Nodes.length:Int) then 1 else (p0.Nodes.length:Int)))∧(if 5 < (if 1 > (p0.Nodes.length:Int) then 1 else (p0.Nodes.length:Int)) then 5 else (if 1 > (p0.Nodes.length:Int) then 1 else (p0.Nodes.length:Int)))≤(if 5 < (if 1 > (p0.Nodes.length:Int) then 1 else (p0.Nodes.length:Int)) then 5 else (if 1 > (p0.Nodes.length:Int) then 1 else (p0.Nodes.length:Int)))∧(if 5 < (if 1 > (p0.Nodes.length:Int) then 1 else (p0.Nodes.length:Int)) then 5 else (if 1 > (p0.Nodes.length:Int) then 1 else (p0.Nodes.length:Int)))*56≤140737488355328 then
  if 0≤(if 5 < (if 1 > (p0.Nodes.length:Int) then 1 else (p0.Nodes.length:Int)) then 5 else (if 1 > (p0.Nodes.length:Int) then 1 else (p0.Nodes.length:Int)))∧(if 5 < (if 1 > (p0.Nodes.length:Int) then 1 else (p0.Nodes.length:Int)) then 5 else (if 1 > (p0.Nodes.length:Int) then 1 else (p0.Nodes.length:Int)))≤(if 5 < (if 1 > (p0.Nodes.length:Int) then 1 else (p0.Nodes.length:Int)) then 5 else (if 1 > (p0.Nodes.length:Int) then 1 else (p0.Nodes.length:Int)))∧(if 5 < (if 1 > (p0.Nodes.length:Int) then 1 else (p0.Nodes.length:Int)) then 5 else (if 1 > (p0.Nodes.length:Int) then 1 else (p0.Nodes.length:Int)))*1≤140737488355328 then
   (Yx (Tharuspexref02_Draft.mk (List.replicate (Int.toNat (if 5 < (if 1 > (p0.Nodes.length:Int) then 1 else (p0.Nodes.length:Int)) then 5 else (if 1 > (p0.Nodes.length:Int) then 1 else (p0.Nodes.length:Int)))) (0:Int)) 0 p0.Order)).bind fun x1 =>
   (Qd fuel (Va p0 x1) (1,0,(List.replicate (Int.toNat (if 5 < (if 1 > (p0.Nodes.length:Int) then 1 else (p0.Nodes.length:Int)) then 5 else (if 1 > (p0.Nodes.length:Int) then 1 else (p0.Nodes.length:Int)))) ((Sum.inl 0):(Int ⊕ Tapi_Node))))).bind fun x35 =>
   (Qd fuel (Y7 p0 x1) (0,x35)).bind fun x122 =>
   (alr x122).bind fun m123 =>
   some (Qb.mk (zw (1+(zw (Int.tmod p0.Grain 60)))) m123)
  else none
 else none
def Jx (p1:Qb) (p0:Tharuspexref05_Known) (s1:(Int × (List Int))):Option (Qm (Int × (List Int)) (List Int)) :=
 if (decide (s1.1 < (p1.Nodes.length:Int)))=true then
  if 0≤(zv (s1.1)) then
   if ((IntKind.u8.wrap (BitVec.ofInt (IntKind.bits .u8) (Int.fdiv p0.Which (2^min (Int.toNat (zv (s1.1))) (IntKind.bits .u8))) &&& BitVec.ofInt (IntKind.bits .u8) 1).toNat)==1)=true then
    if s1.1=0 then
     (lkI p1.Nodes 0).bind fun a7 =>
     if a7.Card≠0 then
      if (s1.2++([Int.tmod (zw (p0.V.1)) a7.Card]:(List Int))).length*8≤140737488355328 then
       some (.next (1,(s1.2++([Int.tmod (zw (p0.V.1)) a7.Card]:(List Int)))))
      else none
     else none
    else
    if s1.1=1 then
     (lkI p1.Nodes 1).bind fun a10 =>
     if a10.Card≠0 then
      if (s1.2++([Int.tmod (zw (p0.V.2.1)) a10.Card]:(List Int))).length*8≤140737488355328 then
       some (.next (2,(s1.2++([Int.tmod (zw (p0.V.2.1)) a10.Card]:(List Int)))))
      else none
     else none
    else
    if s1.1=2 then
     (lkI p1.Nodes 2).bind fun a13 =>
     if a13.Card≠0 then
      if (s1.2++([Int.tmod (zw (p0.V.2.2.1)) a13.Card]:(List Int))).length*8≤140737488355328 then
       some (.next (3,(s1.2++([Int.tmod (zw (p0.V.2.2.1)) a13.Card]:(List Int)))))
      else none
     else none
    else
    if s1.1=3 then
     (lkI p1.Nodes 3).bind fun a16 =>
     if a16.Card≠0 then
      if (s1.2++([Int.tmod (zw (p0.V.2.2.2.1)) a16.Card]:(List Int))).length*8≤140737488355328 then
       some (.next (4,(s1.2++([Int.tmod (zw (p0.V.2.2.2.1)) a16.Card]:(List Int)))))
      else none
     else none
    else
    if s1.1=4 then
     (lkI p1.Nodes 4).bind fun a19 =>
     if a19.Card≠0 then
      if (s1.2++([Int.tmod (zw (p0.V.2.2.2.2.1)) a19.Card]:(List Int))).length*8≤140737488355328 then
       some (.next (5,(s1.2++([Int.tmod (zw (p0.V.2.2.2.2.1)) a19.Card]:(List Int)))))
      else none
     else none
    else
    if s1.1=5 then
     (lkI p1.Nodes 5).bind fun a22 =>
     if a22.Card≠0 then
      if (s1.2++([Int.tmod (zw (p0.V.2.2.2.2.2.1)) a22.Card]:(List Int))).length*8≤140737488355328 then
       some (.next (6,(s1.2++([Int.tmod (zw (p0.V.2.2.2.2.2.1)) a22.Card]:(List Int)))))
      else none
     else none
    else
    if s1.1=6 then
     (lkI p1.Nodes 6).bind fun a25 =>
     if a25.Card≠0 then
      if (s1.2++([Int.tmod (zw (p0.V.2.2.2.2.2.2.1)) a25.Card]:(List Int))).length*8≤140737488355328 then
       some (.next (7,(s1.2++([Int.tmod (zw (p0.V.2.2.2.2.2.2.1)) a25.Card]:(List Int)))))
      else none
     else none
    else
    if s1.1=7 then
     (lkI p1.Nodes 7).bind fun a28 =>
     if a28.Card≠0 then
      if (s1.2++([Int.tmod (zw (p0.V.2.2.2.2.2.2.2)) a28.Card]:(List Int))).length*8≤140737488355328 then
       some (.next (8,(s1.2++([Int.tmod (zw (p0.V.2.2.2.2.2.2.2)) a28.Card]:(List Int)))))
      else none
     else none
    else
    none
   else
   if (s1.2++([-1]:(List Int))).length*8≤140737488355328 then
    some (.next (zw (s1.1+1),(s1.2++([-1]:(List Int)))))
   else none
  else none
 else
 some (.done s1.2)
def Qap (p0:Tharuspexref05_Known) (p1:Qb):Option (List Int) :=
 (Qd fuel (Jx p1 p0) (0,([]:(List Int)))).bind fun x31 =>
 some x31
def Qak (p0:Xc) (p1:Qb):Option (Int × Int × Tapi_Shift) :=
 if (p1.Nodes.length:Int)≠0 then
  if (p1.Nodes.length:Int)≠0 then
   (lkI p1.Nodes (Int.tmod (zw (p0.Node)) (p1.Nodes.length:Int))).bind fun a1 =>
   if (a1.Rows.length:Int)≠0 then
    if a1.Card≠0 then
     if (if (zw (a1.Card - 1)) > 1 then (zw (a1.Card - 1)) else 1)≠0 then
      if a1.Card≠0 then
       (lkI p1.Nodes (Int.tmod (zw (p0.V)) (p1.Nodes.length:Int))).bind fun a3 =>
       if a3.Card≠0 then
        some (Int.tmod (zw (p0.V)) (p1.Nodes.length:Int),Int.tmod (zw (p0.Value)) a3.Card,(Tapi_Shift.mk (Int.tmod (zw (p0.Node)) (p1.Nodes.length:Int)) (Int.tmod (zw (p0.Row)) (a1.Rows.length:Int)) (Int.tmod (zw (p0.From)) a1.Card) (Int.tmod (zw ((zw ((Int.tmod (zw (p0.From)) a1.Card)+1))+(Int.tmod (zw (p0.To)) (if (zw (a1.Card - 1)) > 1 then (zw (a1.Card - 1)) else 1)))) a1.Card)))
       else none
      else none
     else none
    else none
   else none
  else none
 else none
def Xv (a4:Tapi_Node) (s6:(Int × (List (List Int)))):Option (Qm (Int × (List (List Int))) (List (List Int))) :=
 if (decide (s6.1 < (a4.Rows.length:Int)))=true then
  (lkI a4.Rows s6.1).bind fun a9 =>
  if a9.length*8≤140737488355328 then
   if (s6.2++[a9]).length*24≤140737488355328 then
    some (.next (zw (s6.1+1),(s6.2++[a9])))
   else none
  else none
 else
 some (.done s6.2)
def Yq (p1:Qb) (s1:(Int × (List Tapi_Node))):Option (Qm (Int × (List Tapi_Node)) (List Tapi_Node)) :=
 if (decide (s1.1 < (p1.Nodes.length:Int)))=true then
  (lkI p1.Nodes s1.1).bind fun a4 =>
  if a4.Parents.length*8≤140737488355328 then
   (Qd fuel (Xv a4) (0,([]:List (List Int)))).bind fun x12 =>
   if (s1.2++([(Tapi_Node.mk a4.Card a4.Parents x12)]:(List Tapi_Node))).length*56≤140737488355328 then
    some (.next (zw (s1.1+1),(s1.2++([(Tapi_Node.mk a4.Card a4.Parents x12)]:(List Tapi_Node)))))
   else none
  else none
 else
 some (.done s1.2)
def Qfv (w0_0:Int) (w0_1:(List Tapi_Node)):Option Qb :=
 some (Qb.mk w0_0 w0_1)
def Qfs (a20:Tapi_Node) (s22:(Int × (List (List Int)))):Option (Qm (Int × (List (List Int))) (List (List Int))) :=
 if (decide (s22.1 < (a20.Rows.length:Int)))=true then
  (lkI a20.Rows s22.1).bind fun a25 =>
  if a25.length*8≤140737488355328 then
   if (s22.2++[a25]).length*24≤140737488355328 then
    some (.next (zw (s22.1+1),(s22.2++[a25])))
   else none
  else none
 else
 some (.done s22.2)
def Qfx (a32:Tapi_Node) (s34:(Int × (List (List Int)))):Option (Qm (Int × (List (List Int))) (List (List Int))) :=
 if (decide (s34.1 < (a32.Rows.length:Int)))=true then
  (lkI a32.Rows s34.1).bind fun a37 =>
  if a37.length*8≤140737488355328 then
   if (s34.2++[a37]).length*24≤140737488355328 then
    some (.next (zw (s34.1+1),(s34.2++[a37])))
   else none
  else none
 else
 some (.done s34.2)
def Vy (p1:Qb) (y17:(Int × (List Tapi_Node))) (s29:(Int × (List Tapi_Node))):Option (Qm (Int × (List Tapi_Node)) (List Tapi_Node)) :=
 if (decide (s29.1 < (p1.Nodes.length:Int)))=true then
  (lkI p1.Nodes s29.1).bind fun a32 =>
  if a32.Parents.length*8≤140737488355328 then
   (Qd fuel (Qfx a32) (0,([]:List (List Int)))).bind fun x40 =>
   (lkI s29.2 (y17.2.length:Int)).bind fun a41 =>
   if (s29.2++([(Tapi_Node.mk a32.Card a32.Parents x40)]:(List Tapi_Node))).length*56≤140737488355328 then
    some (.next (zw (s29.1+1),(s29.2++([(Tapi_Node.mk a32.Card a32.Parents x40)]:(List Tapi_Node)))))
   else none
  else none
 else
 some (.done s29.2)
def Qfo (w1_0:Int) (w1_1:(List Tapi_Node)) (w1_2:Int) (w1_3:Int) (w1_4:(List Int)) (w1_5:(List (List Int))):Option Qb :=
 (lkI w1_1 w1_2).bind fun a47 =>
 some (Qb.mk w1_0 (List.set w1_1 (Int.toNat w1_2) (Tapi_Node.mk w1_3 w1_4 w1_5)))
def Qp (w3_0:Int) (w3_1:(List Tapi_Node)) (w3_2:Int) (w3_3:Int) (w3_4:(List Int)) (w3_5:(List (List Int))):Option Qb :=
 (lkI w3_1 w3_2).bind fun a58 =>
 some (Qb.mk w3_0 (List.set w3_1 (Int.toNat w3_2) (Tapi_Node.mk w3_3 w3_4 w3_5)))
def Qbq (w4_0:Int) (w4_1:(List Tapi_Node)) (w4_2:Int) (w4_3:Int) (w4_4:(List (List Int))):Option Qb :=
 (lkI w4_1 w4_2).bind fun a74 =>
 some (Qb.mk w4_0 (List.set w4_1 (Int.toNat w4_2) (Tapi_Node.mk w4_3 [] w4_4)))
def Qbt (w5_0:Int) (w5_1:(List Tapi_Node)):Option Qb :=
 some (Qb.mk w5_0 w5_1)
def Qbj (w2_1:Int) (s136:(Int × Int × (List (List Int)))):Option (Qm (Int × Int × (List (List Int))) (List (List Int))) :=
 if (decide (s136.1 < s136.2.1))=true then
  (lkI s136.2.2 w2_1).bind fun a139 =>
  (lkI a139 s136.1).bind fun a141 =>
  (lkI a139 s136.2.1).bind fun a143 =>
  (lkI (List.set a139 (Int.toNat s136.1) a143) s136.2.1).bind fun a145 =>
  some (.next (zw (s136.1+1),zw (s136.2.1 - 1),(List.set (List.set s136.2.2 (Int.toNat w2_1) (List.set a139 (Int.toNat s136.1) a143)) (Int.toNat w2_1) (List.set (List.set a139 (Int.toNat s136.1) a143) (Int.toNat s136.2.1) a141))))
 else
 some (.done s136.2.2)
def Vr (w2_0:Nat) (w2_1:Int) (w2_2:Int) (w2_3:Int) (w2_4:Int) (w2_5:Int) (w2_6:Int) (w2_7:Int) (w2_8:(List Tapi_Node)) (w2_9:Int) (w2_10:Int) (w2_11:(List Int)) (w2_12:(List (List Int))):Option Qb :=
 if ((Int.tmod w2_2 12)==0)=true then
  Qp w2_5 w2_8 w2_9 w2_10 w2_11 w2_12
 else
 if ((Int.tmod w2_2 12)==1)=true then
  (lkI w2_8 w2_9).bind fun a64 =>
  Qp w2_6 w2_8 w2_9 w2_5 w2_11 w2_12
 else
 if ((Int.tmod w2_2 12)==2)=true then
  (lkI w2_8 w2_9).bind fun a68 =>
  if (w2_11++([w2_5]:(List Int))).length*8≤140737488355328 then
   Qp w2_6 w2_8 w2_9 w2_10 (w2_11++([w2_5]:(List Int))) w2_12
  else none
 else
 if ((Int.tmod w2_2 12)==3)=true then
  (lkI w2_8 w2_9).bind fun a72 =>
  Qbq w2_6 w2_8 w2_9 w2_10 w2_12
 else
 if ((Int.tmod w2_2 12)==4)=true then
  (lkI w2_8 w2_9).bind fun a80 =>
  if (w2_12++[([w2_5]:(List Int))]).length*24≤140737488355328 then
   Qp w2_6 w2_8 w2_9 w2_10 w2_11 (w2_12++[([w2_5]:(List Int))])
  else none
 else
 if ((Int.tmod w2_2 12)==5)=true then
  if (decide (w2_1≥0))=true then
   (lkI w2_8 w2_9).bind fun a86 =>
   if 0≤(0:Int)∧(0:Int)≤w2_1∧w2_1≤(w2_12.length:Int) then
    Qbt w2_6 (List.set w2_8 (Int.toNat w2_9) (Tapi_Node.mk w2_10 w2_11 (sub w2_12 0 w2_1)))
   else none
  else
  Qp w2_6 w2_8 w2_9 w2_10 w2_11 w2_12
 else
 if ((Int.tmod w2_2 12)==6)=true then
  if (decide (w2_1≥0))=true then
   (lkI w2_8 w2_9).bind fun a95 =>
   (lkI w2_12 w2_1).bind fun a97 =>
   if (decide ((a97.length:Int) > 0))=true then
    (lkI a97 0).bind fun a101 =>
    Qp w2_6 w2_8 w2_9 w2_10 w2_11 (List.set w2_12 (Int.toNat w2_1) (List.set a97 (Int.toNat 0) w2_5))
   else
   Qp w2_6 w2_8 w2_9 w2_10 w2_11 w2_12
  else
  Qp w2_6 w2_8 w2_9 w2_10 w2_11 w2_12
 else
 if ((Int.tmod w2_2 12)==7)=true then
  if (decide (w2_1≥0))=true then
   (lkI w2_12 w2_1).bind fun a108 =>
   (lkI w2_8 w2_9).bind fun a111 =>
   if (a108++([0]:(List Int))).length*8≤140737488355328 then
    Qp w2_6 w2_8 w2_9 w2_10 w2_11 (List.set (List.set w2_12 (Int.toNat w2_1) ([]:List Int)) (Int.toNat w2_1) (a108++([0]:(List Int))))
   else none
  else
  Qp w2_6 w2_8 w2_9 w2_10 w2_11 w2_12
 else
 if ((Int.tmod w2_2 12)==8)=true then
  if (decide (w2_1≥0))=true then
   (lkI w2_8 w2_9).bind fun a118 =>
   (lkI w2_12 w2_1).bind fun a120 =>
   if (decide ((a120.length:Int) > 0))=true then
    if 0≤(a120.length:Int)∧(a120.length:Int)≤(a120.length:Int)∧(a120.length:Int)*8≤140737488355328 then
     (lkI (List.replicate (Int.toNat (a120.length:Int)) (0:Int)) 0).bind fun a125 =>
     Qp w2_6 w2_8 w2_9 w2_10 w2_11 (List.set (List.set w2_12 (Int.toNat w2_1) (List.replicate (Int.toNat (a120.length:Int)) (0:Int))) (Int.toNat w2_1) (List.set (List.replicate (Int.toNat (a120.length:Int)) (0:Int)) (Int.toNat 0) w2_6))
    else none
   else
   Qp w2_6 w2_8 w2_9 w2_10 w2_11 w2_12
  else
  Qp w2_6 w2_8 w2_9 w2_10 w2_11 w2_12
 else
 if ((Int.tmod w2_2 12)==9)=true then
  if (decide (w2_1≥0))=true then
   (lkI w2_8 w2_9).bind fun a132 =>
   (lkI w2_12 w2_1).bind fun a134 =>
   (Qd fuel (Qbj w2_1) (0,zw ((a134.length:Int) - 1),w2_12)).bind fun x150 =>
   Qp w2_6 w2_8 w2_9 w2_10 w2_11 x150
  else
  Qp w2_6 w2_8 w2_9 w2_10 w2_11 w2_12
 else
 if ((Int.tmod w2_2 12)==10)=true then
  (lkI w2_8 w2_9).bind fun a153 =>
  if (w2_8++([(Tapi_Node.mk 1 [] [[w2_6]])]:(List Tapi_Node))).length*56≤140737488355328 then
   Qp w2_6 (w2_8++([(Tapi_Node.mk 1 [] [[w2_6]])]:(List Tapi_Node))) w2_9 w2_10 w2_11 w2_12
  else none
 else
 (lkI w2_8 w2_9).bind fun a155 =>
 if 0≤(0:Int)∧(0:Int)≤(zw ((((List.set w2_8 (Int.toNat w2_9) (Tapi_Node.mk w2_10 w2_11 w2_12)).length):Int) - 1))∧(zw ((((List.set w2_8 (Int.toNat w2_9) (Tapi_Node.mk w2_10 w2_11 w2_12)).length):Int) - 1))≤((List.set w2_8 (Int.toNat w2_9) (Tapi_Node.mk w2_10 w2_11 w2_12)).length:Int) then
  some (Qb.mk w2_6 (sub (List.set w2_8 (Int.toNat w2_9) (Tapi_Node.mk w2_10 w2_11 w2_12)) 0 (zw ((((List.set w2_8 (Int.toNat w2_9) (Tapi_Node.mk w2_10 w2_11 w2_12)).length):Int) - 1))))
 else none
def Kh (p0:Zr) (p1:Qb):Option Qb :=
 (Qd fuel (Qbk (fun s=>decide (s.1=(Int.tmod (zw p0.At) (p1.Nodes.length:Int)))) (Yq p1)) (0,([]:(List Tapi_Node)))).bind fun x160=>match x160 with
 | .inl y17=>(
  if (decide (y17.1 < (p1.Nodes.length:Int)))=true then
   (lkI p1.Nodes y17.1).bind fun a20 =>
   if a20.Parents.length*8≤140737488355328 then
    (Qd fuel (Qfs a20) (0,([]:List (List Int)))).bind fun x28 =>
    if (y17.2++[(default:Tapi_Node)]).length*56≤140737488355328 then
     (Qd fuel (Vy p1 y17) (zw (y17.1+1),(y17.2++[(default:Tapi_Node)]))).bind fun x44 =>
     if ((x44.length:Int)==0)=true then
      Qfo p1.Grain x44 (y17.2.length:Int) a20.Card a20.Parents x28
     else
     if (x44.length:Int)≠0 then
      (lkI x44 (y17.2.length:Int)).bind fun a51 =>
      if Int.tmod (zw (p0.At)) (x44.length:Int)=(y17.2.length:Int) then
       if (decide ((x28.length:Int) > 0))=true then
        if (x28.length:Int)≠0 then
         Vr (Int.toNat (y17.2.length:Int)) (Int.tmod (zw (p0.Row)) (x28.length:Int)) p0.What p0.At p0.Row p0.N p1.Grain 0 x44 (y17.2.length:Int) a20.Card a20.Parents x28
        else none
       else
       Vr (Int.toNat (y17.2.length:Int)) (-1) p0.What p0.At p0.Row p0.N p1.Grain 0 x44 (y17.2.length:Int) a20.Card a20.Parents x28
      else none
     else none
    else none
   else none
  else
  none)
 | .inr x14=>(
  if ((x14.length:Int)==0)=true then
   Qfv p1.Grain x14
  else
  none)
def Kd (p0:Tharuspexlaw24_Story):Option (Qi × Qi × Qi × Qi × Qi) :=
 (Ja p0.N).bind fun x1 =>
 (Qap (Tharuspexref05_Known.mk p0.K.Which (p0.K.V.1,p0.K.V.2.1,p0.K.V.2.2.1,p0.K.V.2.2.2.1,p0.K.V.2.2.2.2.1,p0.K.V.2.2.2.2.2.1,p0.K.V.2.2.2.2.2.2.1,p0.K.V.2.2.2.2.2.2.2)) x1).bind fun x3 =>
 (Qak p0.D x1).bind fun x5 =>
 if 0≤(0:Int)∧(0:Int)≤(if 9 < (p0.Raw.length:Int) then 9 else (p0.Raw.length:Int))∧(if 9 < (p0.Raw.length:Int) then 9 else (p0.Raw.length:Int))≤(p0.Raw.length:Int) then
  (Kh p0.C x1).bind fun x7 =>
  some ((Qi.mk x1 x3 x5.1 x5.2.1 x5.2.2),(Qi.mk x7 x3 x5.1 x5.2.1 x5.2.2),(Qi.mk x1 (sub p0.Raw 0 (if 9 < (p0.Raw.length:Int) then 9 else (p0.Raw.length:Int))) x5.1 x5.2.1 x5.2.2),(Qi.mk x1 x3 p0.V p0.Value x5.2.2),(Qi.mk x1 x3 x5.1 x5.2.1 p0.S))
 else none
def Xb (p1:Tapi_Node) (p0:Za) (s1:(Int × Int)):Option (Qm (Int × Int) Int) :=
 if (decide (s1.2 < (p1.Parents.length:Int)))=true then
  (lkI p1.Parents s1.2).bind fun a4 =>
  (lkI p0.cards a4).bind fun a6 =>
  some (.next (zw (s1.1*a6),zw (s1.2+1)))
 else
 some (.done s1.1)
def Q9 (a15:(List Int)) (s17:(Int × Int)):Option (Qm (Int × Int) (Unit ⊕ Int)) :=
 if (decide (s17.2 < (a15.length:Int)))=true then
  (lkI a15 s17.2).bind fun a20 =>
  if (decide (a20 < 0))=true then
   some (.done (Sum.inl ()))
  else
  if (decide (a20 > s17.1))=true then
   some (.done (Sum.inl ()))
  else
  some (.next (zw (s17.1 - a20),zw (s17.2+1)))
 else
 some (.done (Sum.inr s17.1))
def Zw (p1:Tapi_Node) (p0:Za) (s12:Int):Option (Qm Int (Unit ⊕ Unit)) :=
 if (decide (s12 < (p1.Rows.length:Int)))=true then
  (lkI p1.Rows s12).bind fun a15 =>
  (Qd fuel (Q9 a15) (p0.Net.Grain,0)).bind fun x26=>match x26 with
  | .inl x27=>(
   some (.done (Sum.inl ())))
  | .inr x28=>(
   if ((a15.length:Int) != p1.Card)=true then
    some (.done (Sum.inl ()))
   else
   if (x28 != 0)=true then
    some (.done (Sum.inl ()))
   else
   some (.next (zw (s12+1))))
 else
 some (.done (Sum.inr ()))
def Xg (p0:Za) (p1:Tapi_Node):Option Bool :=
 (Qd fuel (Xb p1 p0) (1,0)).bind fun x9 =>
 if ((p1.Rows.length:Int) != x9)=true then
  some false
 else
 (Qd fuel (Zw p1 p0) 0).bind fun x33=>match x33 with
 | .inl x34=>(
  some false)
 | .inr x35=>(
  some true)
def V6 (p0:(List Int)) (s1:(Int × (List Int))) (s4:Int):Option (Qm Int ((Int × (List Int)) ⊕ Unit)) :=
 if (decide (s4 < (p0.length:Int)))=true then
  (lkI p0 s4).bind fun a7 =>
  if 0≤s4 then
   if ((zv (zb (Int.fdiv s1.1 (2^min (Int.toNat s4) (IntKind.bits .u64))) &&& zb 1).toNat)==0)=true then
    if ((zv (zb a7 &&& ~~~ zb s1.1).toNat)==0)=true then
     if (s1.2++([s4]:(List Int))).length*8≤140737488355328 then
      if 0≤s4 then
       some (.done (Sum.inl (zv (zb s1.1 ||| zb (zv (1*2^min (Int.toNat s4) (IntKind.bits .u64)))).toNat,(s1.2++([s4]:(List Int))))))
      else none
     else none
    else
    some (.next (zw (s4+1)))
   else
   some (.next (zw (s4+1)))
  else none
 else
 some (.done (Sum.inr ()))
def Xq (p0:(List Int)) (s1:(Int × (List Int))):Option (Qm (Int × (List Int)) (Unit ⊕ (List Int))) :=
 if (decide ((s1.2.length:Int) < (p0.length:Int)))=true then
  (Qd fuel (V6 p0 s1) 0).bind fun x13=>match x13 with
  | .inl x14=>(
   some (.next (x14.1,x14.2)))
  | .inr x15=>(
   some (.done (Sum.inl ())))
 else
 some (.done (Sum.inr s1.2))
def Vt (p0:(List Int)):Option ((List Int) × Bool) :=
 if 0≤(0:Int)∧(0:Int)≤(p0.length:Int)∧(p0.length:Int)*8≤140737488355328 then
  (Qd fuel (Xq p0) (0,(List.replicate (Int.toNat 0) (0:Int)))).bind fun x16=>match x16 with
  | .inl x17=>(
   some (([]:(List Int)),false))
  | .inr x18=>(
   some (x18,true))
 else none
def X1 (p0:Qb) (s9:(Int × Int × (List Int))):Option (Qm (Int × Int × (List Int)) (Unit ⊕ (Int × (List Int)))) :=
 if (decide (s9.2.1 < (p0.Nodes.length:Int)))=true then
  (lkI p0.Nodes s9.2.1).bind fun a12 =>
  if (decide (a12.Card < 1))=true then
   some (.done (Sum.inl ()))
  else
  if (decide (a12.Card > 4))=true then
   some (.done (Sum.inl ()))
  else
  (lkI s9.2.2 s9.2.1).bind fun a18 =>
  some (.next (zw (s9.1*a12.Card),zw (s9.2.1+1),(List.set s9.2.2 (Int.toNat s9.2.1) a12.Card)))
 else
 some (.done (Sum.inr (s9.1,s9.2.2)))
def X4 (a29:Tapi_Node) (p0:Qb) (s26:(Int × (List Int))) (s31:(Int × Int × (List Int))):Option (Qm (Int × Int × (List Int)) (Unit ⊕ (List Int))) :=
 if (decide (s31.2.1 < (a29.Parents.length:Int)))=true then
  (lkI a29.Parents s31.2.1).bind fun a34 =>
  if (decide (a34≤s31.1))=true then
   some (.done (Sum.inl ()))
  else
  if (decide (a34≥(p0.Nodes.length:Int)))=true then
   some (.done (Sum.inl ()))
  else
  if (a34==s26.1)=true then
   some (.done (Sum.inl ()))
  else
  (lkI s31.2.2 s26.1).bind fun a42 =>
  if 0≤a34 then
   some (.next (a34,zw (s31.2.1+1),(List.set s31.2.2 (Int.toNat s26.1) (zv (zb a42 ||| zb (zv (1*2^min (Int.toNat a34) (IntKind.bits .u64)))).toNat))))
  else none
 else
 some (.done (Sum.inr s31.2.2))
def X2 (p0:Qb) (x23:(Int × (List Int))) (s26:(Int × (List Int))):Option (Qm (Int × (List Int)) (Unit ⊕ (List Int))) :=
 if (decide (s26.1 < (p0.Nodes.length:Int)))=true then
  (lkI p0.Nodes s26.1).bind fun a29 =>
  (Qd fuel (X4 a29 p0 s26) (-1,0,s26.2)).bind fun x45=>match x45 with
  | .inl x46=>(
   some (.done (Sum.inl ())))
  | .inr x47=>(
   (Xg (Za.mk p0 x23.2 x47 []) a29).bind fun x48 =>
   if (!x48)=true then
    some (.done (Sum.inl ()))
   else
   some (.next (zw (s26.1+1),x47)))
 else
 some (.done (Sum.inr s26.2))
def J7 (p0:Qb):Option (Za × Int) :=
 if (decide (p0.Grain < 1))=true then
  some ((Za.mk (Qb.mk 0 []) [] [] []),50)
 else
 if (decide (p0.Grain > 60))=true then
  some ((Za.mk (Qb.mk 0 []) [] [] []),50)
 else
 if (decide ((p0.Nodes.length:Int) < 1))=true then
  some ((Za.mk (Qb.mk 0 []) [] [] []),50)
 else
 if (decide ((p0.Nodes.length:Int) > 8))=true then
  some ((Za.mk (Qb.mk 0 []) [] [] []),50)
 else
 if 0≤(p0.Nodes.length:Int)∧(p0.Nodes.length:Int)≤(p0.Nodes.length:Int)∧(p0.Nodes.length:Int)*8≤140737488355328 then
  if 0≤(p0.Nodes.length:Int)∧(p0.Nodes.length:Int)≤(p0.Nodes.length:Int)∧(p0.Nodes.length:Int)*8≤140737488355328 then
   (Qd fuel (X1 p0) (1,0,(List.replicate (Int.toNat (p0.Nodes.length:Int)) (0:Int)))).bind fun x21=>match x21 with
   | .inl x22=>(
    some ((Za.mk (Qb.mk 0 []) [] [] []),50))
   | .inr x23=>(
    if (decide (x23.1 > 1024))=true then
     some ((Za.mk (Qb.mk 0 []) [] [] []),50)
    else
    (Qd fuel (X2 p0 x23) (0,(List.replicate (Int.toNat (p0.Nodes.length:Int)) (0:Int)))).bind fun x52=>match x52 with
    | .inl x53=>(
     some ((Za.mk (Qb.mk 0 []) [] [] []),50))
    | .inr x54=>(
     (Vt x54).bind fun x55 =>
     if (!x55.2)=true then
      some ((Za.mk (Qb.mk 0 []) [] [] []),50)
     else
     some ((Za.mk p0 x23.2 x54 x55.1),0)))
  else none
 else none
def Qa0 (p0:Qb):Option Int :=
 (J7 p0).bind fun x1 =>
 some x1.2
def Zh (p1:(List Int)) (x1:(Za × Int)) (s7:Int):Option (Qm Int (Unit ⊕ Unit)) :=
 if (decide (s7 < (p1.length:Int)))=true then
  (lkI p1 s7).bind fun a10 =>
  if (decide (a10 < (-1)))=true then
   some (.done (Sum.inl ()))
  else
  (lkI x1.1.cards s7).bind fun a14 =>
  if (decide (a10≥a14))=true then
   some (.done (Sum.inl ()))
  else
  some (.next (zw (s7+1)))
 else
 some (.done (Sum.inr ()))
def Zs (p0:Qb) (p1:(List Int)):Option Int :=
 (J7 p0).bind fun x1 =>
 if (x1.2 != 0)=true then
  some x1.2
 else
 if ((p1.length:Int) != (x1.1.Net.Nodes.length:Int))=true then
  some 2
 else
 (Qd fuel (Zh p1 x1) 0).bind fun x18=>match x18 with
 | .inl x19=>(
  some 2)
 | .inr x20=>(
  some 0)
def Zi (p4:(List Int)) (p0:Qb) (p2:Int) (s13:Int):Option (Qm Int (Unit ⊕ Unit)) :=
 if (decide (s13 < (p4.length:Int)))=true then
  (lkI p4 s13).bind fun a16 =>
  if (decide (a16 < 0))=true then
   some (.done (Sum.inl ()))
  else
  (lkI p0.Nodes p2).bind fun a20 =>
  if (decide (a16≥a20.Card))=true then
   some (.done (Sum.inl ()))
  else
  some (.next (zw (s13+1)))
 else
 some (.done (Sum.inr ()))
def Ze (p0:Qb) (p1:(List Int)) (p2:Int) (p3:Tapi_Shift) (p4:(List Int)):Option Int :=
 (Qa0 p0).bind fun x1 =>
 if (x1 != 0)=true then
  some x1
 else
 (Zs p0 p1).bind fun x5 =>
 if (x5 != 0)=true then
  some x5
 else
 if (decide (p2 < 0))=true then
  some 2
 else
 if (decide (p2≥(p0.Nodes.length:Int)))=true then
  some 2
 else
 (Qd fuel (Zi p4 p0 p2) 0).bind fun x24=>match x24 with
 | .inl x25=>(
  some 2)
 | .inr x26=>(
  if (decide (p3.Node < 0))=true then
   some 2
  else
  if (decide (p3.Node≥(p0.Nodes.length:Int)))=true then
   some 2
  else
  (lkI p0.Nodes p3.Node).bind fun a31 =>
  if (decide (p3.Row < 0))=true then
   some 2
  else
  if (decide (p3.Row≥(a31.Rows.length:Int)))=true then
   some 2
  else
  if (decide (p3.From < 0))=true then
   some 2
  else
  if (decide (p3.From≥a31.Card))=true then
   some 2
  else
  if (decide (p3.To < 0))=true then
   some 2
  else
  if (decide (p3.To≥a31.Card))=true then
   some 2
  else
  if (p3.From==p3.To)=true then
   some 2
  else
  some 0)
def Jf (a4:Tapi_Node) (p0:Qb) (p1:(List Int)) (s6:(Int × Int)):Option (Qm (Int × Int) Int) :=
 if (decide (s6.2 < (a4.Parents.length:Int)))=true then
  (lkI a4.Parents s6.2).bind fun a9 =>
  (lkI p0.Nodes a9).bind fun a11 =>
  (lkI p1 a9).bind fun a13 =>
  some (.next (zw ((zw (s6.1*a11.Card))+a13),zw (s6.2+1)))
 else
 some (.done s6.1)
def Je (p0:Qb) (p1:(List Int)) (p2:Tapi_Shift) (s1:(Int × Int × Int × Int)):Option (Qm (Int × Int × Int × Int) (Int × Int × Int)) :=
 if (decide (s1.2.2.2 < (p0.Nodes.length:Int)))=true then
  (lkI p0.Nodes s1.2.2.2).bind fun a4 =>
  (Qd fuel (Jf a4 p0 p1) (0,0)).bind fun x16 =>
  (lkI a4.Rows x16).bind fun a17 =>
  (lkI p1 s1.2.2.2).bind fun a19 =>
  (lkI a17 a19).bind fun a21 =>
  if (!((s1.2.2.2==p2.Node) && ((x16==p2.Row) && true)))=true then
   some (.next (zw (s1.1*a21),s1.2.1,s1.2.2.1,zw (s1.2.2.2+1)))
  else
  if (a19==p2.From)=true then
   some (.next (s1.1,a21,-1,zw (s1.2.2.2+1)))
  else
  if (a19==p2.To)=true then
   some (.next (s1.1,a21,1,zw (s1.2.2.2+1)))
  else
  some (.next (s1.1,a21,s1.2.2.1,zw (s1.2.2.2+1)))
 else
 some (.done (s1.1,s1.2.1,s1.2.2.1))
def Ky (p0:Qb) (p1:(List Int)) (p2:Tapi_Shift):Option (Int × Int) :=
 (Qd fuel (Je p0 p1 p2) (1,1,0,0)).bind fun x30 =>
 some (zw (x30.1*x30.2.1),zw (x30.1*x30.2.2))
def Jd (a16:Tapi_Node) (p1:(List Int)) (s3:(Int × (List (Int × Int × Int × Int)) × Int × Int × (List Int))) (r4:((Int × (List (Int × Int × Int × Int)) × Int × Int × (List Int))→Option ((List (Int × Int × Int × Int)) × Int × Int × (List Int)))) (s18:(Int × (List (Int × Int × Int × Int)) × Int × Int × (List Int))):Option (Qm (Int × (List (Int × Int × Int × Int)) × Int × Int × (List Int)) ((List (Int × Int × Int × Int)) × Int × Int × (List Int))) :=
 if (decide (s18.1 < a16.Card))=true then
  (lkI p1 s3.1).bind fun a21 =>
  if (a21==(-1))=true then
   (lkI s18.2.2.2.2 s3.1).bind fun a25 =>
   (r4 (zw (s3.1+1),s18.2.1,s18.2.2.1,s18.2.2.2.1,(List.set s18.2.2.2.2 (Int.toNat s3.1) s18.1))).bind fun x27 =>
   some (.next (zw (s18.1+1),x27.1,x27.2.1,x27.2.2.1,x27.2.2.2))
  else
  if (a21==s18.1)=true then
   (lkI s18.2.2.2.2 s3.1).bind fun a31 =>
   (r4 (zw (s3.1+1),s18.2.1,s18.2.2.1,s18.2.2.2.1,(List.set s18.2.2.2.2 (Int.toNat s3.1) s18.1))).bind fun x33 =>
   some (.next (zw (s18.1+1),x33.1,x33.2.1,x33.2.2.1,x33.2.2.2))
  else
  some (.next (zw (s18.1+1),s18.2.1,s18.2.2.1,s18.2.2.2.1,s18.2.2.2.2))
 else
 some (.done (s18.2.1,s18.2.2.1,s18.2.2.2.1,s18.2.2.2.2))
def Q8 (p0:Qb) (p3:Tapi_Shift) (p2:Int) (p1:(List Int)) (r4:((Int × (List (Int × Int × Int × Int)) × Int × Int × (List Int))→Option ((List (Int × Int × Int × Int)) × Int × Int × (List Int)))) (s3:(Int × (List (Int × Int × Int × Int)) × Int × Int × (List Int))):Option ((List (Int × Int × Int × Int)) × Int × Int × (List Int)) :=
 if (s3.1==(s3.2.2.2.2.length:Int))=true then
  (Ky p0 s3.2.2.2.2 p3).bind fun x8 =>
  (lkI s3.2.2.2.2 p2).bind fun a10 =>
  (lkI s3.2.1 a10).bind fun a12 =>
  some ((List.set (List.set s3.2.1 (Int.toNat a10) (zw (a12.1+x8.1),a12.2.1,a12.2.2.1,a12.2.2.2)) (Int.toNat a10) ((zw (a12.1+x8.1),a12.2.1,a12.2.2.1,a12.2.2.2).1,zw (((zw (a12.1+x8.1),a12.2.1,a12.2.2.1,a12.2.2.2).2.1)+x8.2),(zw (a12.1+x8.1),a12.2.1,a12.2.2.1,a12.2.2.2).2.2.1,(zw (a12.1+x8.1),a12.2.1,a12.2.2.1,a12.2.2.2).2.2.2)),zw (s3.2.2.1+x8.1),zw (s3.2.2.2.1+x8.2),s3.2.2.2.2)
 else
 (lkI p0.Nodes s3.1).bind fun a16 =>
 (Qd fuel (Jd a16 p1 s3 r4) (0,s3.2.1,s3.2.2.1,s3.2.2.2.1,s3.2.2.2.2)).bind fun x36 =>
 some (x36.1,x36.2.1,x36.2.2.1,x36.2.2.2)
def Y4 (x37:((List (Int × Int × Int × Int)) × Int × Int × (List Int))) (s39:(Int × (List (Int × Int × Int × Int)))):Option (Qm (Int × (List (Int × Int × Int × Int))) (List (Int × Int × Int × Int))) :=
 if (decide (s39.1 < (x37.1.length:Int)))=true then
  (lkI s39.2 s39.1).bind fun a42 =>
  some (.next (zw (s39.1+1),(List.set (List.set s39.2 (Int.toNat s39.1) (a42.1,a42.2.1,x37.2.1,a42.2.2.2)) (Int.toNat s39.1) ((a42.1,a42.2.1,x37.2.1,a42.2.2.2).1,(a42.1,a42.2.1,x37.2.1,a42.2.2.2).2.1,(a42.1,a42.2.1,x37.2.1,a42.2.2.2).2.2.1,x37.2.2.1))))
 else
 some (.done s39.2)
def Vc (p0:Qb) (p1:(List Int)) (p2:Int) (p3:Tapi_Shift):Option (List (Int × Int × Int × Int)) :=
 (lkI p0.Nodes p2).bind fun a1 =>
 if 0≤a1.Card∧a1.Card≤a1.Card∧a1.Card*32≤140737488355328 then
  if 0≤(p0.Nodes.length:Int)∧(p0.Nodes.length:Int)≤(p0.Nodes.length:Int)∧(p0.Nodes.length:Int)*8≤140737488355328 then
   (Qk0 (Q8 p0 p3 p2 p1) fuel (0,(List.replicate (Int.toNat a1.Card) ((0,0,0,0):(Int × Int × Int × Int))),0,0,(List.replicate (Int.toNat (p0.Nodes.length:Int)) (0:Int)))).bind fun x37 =>
   (Qd fuel (Y4 x37) (0,x37.1)).bind fun x47 =>
   some x47
  else none
 else none
def Xw (p0:Qb) (p1:(List Int)) (p2:Int) (p3:Int) (p4:Tapi_Shift):Option ((Int × Int × Int × Int) × Int) :=
 (Ze p0 p1 p2 p4 [p3]).bind fun x1 =>
 if (x1 != 0)=true then
  some ((0,0,0,0),x1)
 else
 (Vc p0 p1 p2 p4).bind fun x5 =>
 (lkI x5 p3).bind fun a7 =>
 some ((a7.1,a7.2.1,a7.2.2.1,a7.2.2.2),0)
def Jb (p0:(List Int)) (p1:Int) (s1:Int):Option (Qm Int (Unit ⊕ Unit)) :=
 if (decide (s1 < (p0.length:Int)))=true then
  (lkI p0 s1).bind fun a4 =>
  if (decide (a4 < 0))=true then
   some (.done (Sum.inl ()))
  else
  if (decide (a4≥p1))=true then
   some (.done (Sum.inl ()))
  else
  if (decide (s1 > 0))=true then
   (lkI p0 (zw (s1 - 1))).bind fun a12 =>
   if (decide (a4≤a12))=true then
    some (.done (Sum.inl ()))
   else
   some (.next (zw (s1+1)))
  else
  some (.next (zw (s1+1)))
 else
 some (.done (Sum.inr ()))
def K4 (p0:(List Int)) (p1:Int):Option Bool :=
 (Qd fuel (Jb p0 p1) 0).bind fun x16=>match x16 with
 | .inl x17=>(
  some false)
 | .inr x18=>(
  some true)
def Qes (p0:Int) (p1:Int):Option Bool :=
 if 0≤(zv (p1)) then
  some ((zv (zb (Int.fdiv p0 (2^min (Int.toNat (zv (p1))) (IntKind.bits .u64))) &&& zb 1).toNat)==1)
 else none
def Qar (p0:(List Int)) (s4:(Int × Int)):Option (Qm (Int × Int) Int) :=
 if (decide (s4.2 < (p0.length:Int)))=true then
  (Qes s4.1 s4.2).bind fun x7 =>
  if x7=true then
   (lkI p0 s4.2).bind fun a11 =>
   some (.next (zv (zb s4.1 ||| zb a11).toNat,zw (s4.2+1)))
  else
  some (.next (s4.1,zw (s4.2+1)))
 else
 some (.done s4.1)
def Qc3 (p0:(List Int)) (s1:(Int × Int)):Option (Qm (Int × Int) Int) :=
 if (decide (s1.2 < (p0.length:Int)))=true then
  (Qd fuel (Qar p0) (s1.1,0)).bind fun x14 =>
  some (.next (x14,zw (s1.2+1)))
 else
 some (.done s1.1)
def Qgp (p0:(List Int)) (p1:Int):Option Int :=
 (Qd fuel (Qc3 p0) (p1,0)).bind fun x16 =>
 some x16
def V1 (p0:(List Int)) (s1:Int):Option (Qm Int (Unit ⊕ Unit)) :=
 if (decide (s1 < (p0.length:Int)))=true then
  (lkI p0 s1).bind fun a4 =>
  (Qgp p0 a4).bind fun x6 =>
  (Qes x6 s1).bind fun x8 =>
  if x8=true then
   some (.done (Sum.inl ()))
  else
  some (.next (zw (s1+1)))
 else
 some (.done (Sum.inr ()))
def Kb (p0:(List Int)):Option Bool :=
 (Qd fuel (V1 p0) 0).bind fun x12=>match x12 with
 | .inl x13=>(
  some false)
 | .inr x14=>(
  some true)
def V5 (p0:Qb) (s1:(Int × (List Int))) (s4:(Int × Int)):Option (Qm (Int × Int) Int) :=
 (lkI p0.Nodes s1.1).bind fun a5 =>
 if (decide (s4.2 < (a5.Parents.length:Int)))=true then
  (lkI a5.Parents s4.2).bind fun a9 =>
  if 0≤(zv (a9)) then
   some (.next (zv (zb s4.1 ||| zb (zv (1*2^min (Int.toNat (zv (a9))) (IntKind.bits .u64)))).toNat,zw (s4.2+1)))
  else none
 else
 some (.done s4.1)
def V2 (p0:Qb) (s1:(Int × (List Int))):Option (Qm (Int × (List Int)) (List Int)) :=
 if (decide (s1.1 < (p0.Nodes.length:Int)))=true then
  (Qd fuel (V5 p0 s1) (0,0)).bind fun x12 =>
  if (s1.2++([x12]:(List Int))).length*8≤140737488355328 then
   some (.next (zw (s1.1+1),(s1.2++([x12]:(List Int)))))
  else none
 else
 some (.done s1.2)
def J9 (p0:Qb):Option (List Int) :=
 (Qd fuel (V2 p0) (0,([]:(List Int)))).bind fun x14 =>
 some x14
def Yn (p0:Qb) (s9:(Int × Int)):Option (Qm (Int × Int) (Unit ⊕ Int)) :=
 if (decide (s9.2 < (p0.Nodes.length:Int)))=true then
  (lkI p0.Nodes s9.2).bind fun a12 =>
  if (decide (a12.Card < 1))=true then
   some (.done (Sum.inl ()))
  else
  if (decide (a12.Card > 4))=true then
   some (.done (Sum.inl ()))
  else
  (K4 a12.Parents (p0.Nodes.length:Int)).bind fun x18 =>
  if (!x18)=true then
   some (.done (Sum.inl ()))
  else
  some (.next (zw (s9.1*a12.Card),zw (s9.2+1)))
 else
 some (.done (Sum.inr s9.1))
def Yj (a47:(List Int)) (p0:Qb) (s51:(Int × Int)):Option (Qm (Int × Int) (Unit ⊕ Int)) :=
 if (decide (s51.2 < (a47.length:Int)))=true then
  (lkI a47 s51.2).bind fun a54 =>
  if (decide (a54 < 0))=true then
   some (.done (Sum.inl ()))
  else
  if (decide (a54 > p0.Grain))=true then
   some (.done (Sum.inl ()))
  else
  some (.next (zw (s51.1+a54),zw (s51.2+1)))
 else
 some (.done (Sum.inr s51.1))
def Ym (a36:Tapi_Node) (p0:Qb) (s44:Int):Option (Qm Int (Unit ⊕ Unit)) :=
 if (decide (s44 < (a36.Rows.length:Int)))=true then
  (lkI a36.Rows s44).bind fun a47 =>
  if ((a47.length:Int) != a36.Card)=true then
   some (.done (Sum.inl ()))
  else
  (Qd fuel (Yj a47 p0) (0,0)).bind fun x60=>match x60 with
  | .inl x61=>(
   some (.done (Sum.inl ())))
  | .inr x62=>(
   if (x62 != p0.Grain)=true then
    some (.done (Sum.inl ()))
   else
   some (.next (zw (s44+1))))
 else
 some (.done (Sum.inr ()))
def Yp (p0:Qb) (s33:Int):Option (Qm Int (Unit ⊕ Unit)) :=
 if (decide (s33 < (p0.Nodes.length:Int)))=true then
  (lkI p0.Nodes s33).bind fun a36 =>
  (Q3 p0 s33).bind fun x38 =>
  (Y8 x38).bind fun x40 =>
  if ((a36.Rows.length:Int) != x40)=true then
   some (.done (Sum.inl ()))
  else
  (Qd fuel (Ym a36 p0) 0).bind fun x65=>match x65 with
  | .inl x66=>(
   some (.done (Sum.inl ())))
  | .inr x67=>(
   some (.next (zw (s33+1))))
 else
 some (.done (Sum.inr ()))
def J4 (p0:Qb):Option Bool :=
 if (decide (p0.Grain < 1))=true then
  some false
 else
 if (decide (p0.Grain > 60))=true then
  some false
 else
 if (decide ((p0.Nodes.length:Int) < 1))=true then
  some false
 else
 if (decide ((p0.Nodes.length:Int) > 8))=true then
  some false
 else
 (Qd fuel (Yn p0) (1,0)).bind fun x22=>match x22 with
 | .inl x23=>(
  some false)
 | .inr x24=>(
  if (decide (x24 > 1024))=true then
   some false
  else
  (J9 p0).bind fun x27 =>
  (Kb x27).bind fun x29 =>
  if (!x29)=true then
   some false
  else
  (Qd fuel (Yp p0) 0).bind fun x68=>match x68 with
  | .inl x69=>(
   some false)
  | .inr x70=>(
   some true))
def Xl (p1:(List Int)) (p0:Qb) (s3:Int):Option (Qm Int (Unit ⊕ Unit)) :=
 if (decide (s3 < (p1.length:Int)))=true then
  (lkI p1 s3).bind fun a6 =>
  if (decide (a6 < (-1)))=true then
   some (.done (Sum.inl ()))
  else
  (lkI p0.Nodes s3).bind fun a10 =>
  if (decide (a6≥a10.Card))=true then
   some (.done (Sum.inl ()))
  else
  some (.next (zw (s3+1)))
 else
 some (.done (Sum.inr ()))
def Jq (p0:Qb) (p1:(List Int)):Option Bool :=
 if ((p1.length:Int) != (p0.Nodes.length:Int))=true then
  some false
 else
 (Qd fuel (Xl p1 p0) 0).bind fun x14=>match x14 with
 | .inl x15=>(
  some false)
 | .inr x16=>(
  some true)
def Zk (p0:Qb) (p1:Tapi_Shift):Option Bool :=
 if (decide (p1.Node < 0))=true then
  some false
 else
 if (decide (p1.Node≥(p0.Nodes.length:Int)))=true then
  some false
 else
 if (decide (p1.Row < 0))=true then
  some false
 else
 (lkI p0.Nodes p1.Node).bind fun a7 =>
 if (decide (p1.Row≥(a7.Rows.length:Int)))=true then
  some false
 else
 if (decide (p1.From≥0))=true then
  if (decide (p1.From < a7.Card))=true then
   if (decide (p1.To≥0))=true then
    if (decide (p1.To < a7.Card))=true then
     some (p1.From != p1.To)
    else
    some false
   else
   some false
  else
  some false
 else
 some false
def Vn (p0:Qb) (p1:(List Int)) (p2:Int) (p3:Int) (p4:Tapi_Shift):Option Int :=
 (J4 p0).bind fun x1 =>
 if (!x1)=true then
  some 50
 else
 (Jq p0 p1).bind fun x5 =>
 if (!x5)=true then
  some 2
 else
 if (decide (p2 < 0))=true then
  some 2
 else
 if (decide (p2≥(p0.Nodes.length:Int)))=true then
  some 2
 else
 if (decide (p3 < 0))=true then
  some 2
 else
 (lkI p0.Nodes p2).bind fun a15 =>
 if (decide (p3≥a15.Card))=true then
  some 2
 else
 (Zk p0 p4).bind fun x19 =>
 if (!x19)=true then
  some 2
 else
 some 0
def Qcj (p0:Qb):Option Int :=
 (Vf p0).bind fun x1 =>
 (Y8 x1).bind fun x3 =>
 some x3
def Qct (p0:(List Int)) (s1:(Int × Int × (List Int))):Option (Qm (Int × Int × (List Int)) (List Int)) :=
 if (decide (s1.2.1≥0))=true then
  (lkI p0 s1.2.1).bind fun a4 =>
  if a4≠0 then
   (lkI s1.2.2 s1.2.1).bind fun a6 =>
   if a4≠0 then
    some (.next (zw (Int.tdiv s1.1 a4),zw (s1.2.1 - 1),(List.set s1.2.2 (Int.toNat s1.2.1) (Int.tmod s1.1 a4))))
   else none
  else none
 else
 some (.done s1.2.2)
def Qfd (p0:(List Int)) (p1:Int):Option (List Int) :=
 if 0≤(p0.length:Int)∧(p0.length:Int)≤(p0.length:Int)∧(p0.length:Int)*8≤140737488355328 then
  (Qd fuel (Qct p0) (p1,zw ((p0.length:Int) - 1),(List.replicate (Int.toNat (p0.length:Int)) (0:Int)))).bind fun x10 =>
  some x10
 else none
def K9 (p0:Qb) (p1:Int):Option (List Int) :=
 (Vf p0).bind fun x1 =>
 (Qfd x1 p1).bind fun x3 =>
 some x3
def Vu (p0:(List Int)) (p1:(List Int)) (s1:Int):Option (Qm Int (Unit ⊕ Unit)) :=
 if (decide (s1 < (p0.length:Int)))=true then
  (lkI p1 s1).bind fun a4 =>
  if (decide (a4≥0))=true then
   (lkI p0 s1).bind fun a8 =>
   if (a4 != a8)=true then
    some (.done (Sum.inl ()))
   else
   some (.next (zw (s1+1)))
  else
  some (.next (zw (s1+1)))
 else
 some (.done (Sum.inr ()))
def V4 (p0:(List Int)) (p1:(List Int)):Option Bool :=
 (Qd fuel (Vu p0 p1) 0).bind fun x12=>match x12 with
 | .inl x13=>(
  some false)
 | .inr x14=>(
  some true)
def Qdm (p1:(List Int)) (p0:(List Int)) (s1:(Int × Int × Int)):Option (Qm (Int × Int × Int) Int) :=
 if (decide (s1.2.2≥0))=true then
  (lkI p1 s1.2.2).bind fun a4 =>
  (lkI p0 s1.2.2).bind fun a6 =>
  some (.next (zw (s1.1+(zw (a4*s1.2.1))),zw (s1.2.1*a6),zw (s1.2.2 - 1)))
 else
 some (.done s1.1)
def Qat (p0:(List Int)) (p1:(List Int)):Option Int :=
 (Qd fuel (Qdm p1 p0) (0,1,zw ((p0.length:Int) - 1))).bind fun x9 =>
 some x9
def Qa3 (p0:Qb) (p1:Int) (p2:(List Int)):Option (List Int) :=
 (lkI p0.Nodes p1).bind fun a1 =>
 (Q3 p0 p1).bind fun x3 =>
 (Qco p2 a1.Parents).bind fun x5 =>
 (Qat x3 x5).bind fun x7 =>
 (lkI a1.Rows x7).bind fun a9 =>
 some a9
def Qcv (p0:Qb) (x1:(List Int)) (s3:(Int × Int)):Option (Qm (Int × Int) Int) :=
 if (decide (s3.2 < (p0.Nodes.length:Int)))=true then
  (Qa3 p0 s3.2 x1).bind fun x6 =>
  (lkI x1 s3.2).bind fun a8 =>
  (lkI x6 a8).bind fun a10 =>
  some (.next (zw (s3.1*a10),zw (s3.2+1)))
 else
 some (.done s3.1)
def Qci (p0:Qb) (p1:Int):Option Int :=
 (K9 p0 p1).bind fun x1 =>
 (Qd fuel (Qcv p0 x1) (1,0)).bind fun x13 =>
 some x13
def V8 (p0:Qb) (p4:Tapi_Shift) (x6:(List Int)) (s28:(Int × Int)):Option (Qm (Int × Int) Int) :=
 if (decide (s28.2 < (p0.Nodes.length:Int)))=true then
  if (s28.2 != p4.Node)=true then
   (Qa3 p0 s28.2 x6).bind fun x33 =>
   (lkI x6 s28.2).bind fun a35 =>
   (lkI x33 a35).bind fun a37 =>
   some (.next (zw (s28.1*a37),zw (s28.2+1)))
  else
  some (.next (s28.1,zw (s28.2+1)))
 else
 some (.done s28.1)
def Qic (p0:Qb) (p4:Tapi_Shift) (x6:(List Int)) (s48:(Int × Int)):Option (Qm (Int × Int) Int) :=
 if (decide (s48.2 < (p0.Nodes.length:Int)))=true then
  if (s48.2 != p4.Node)=true then
   (Qa3 p0 s48.2 x6).bind fun x53 =>
   (lkI x6 s48.2).bind fun a55 =>
   (lkI x53 a55).bind fun a57 =>
   some (.next (zw (s48.1*a57),zw (s48.2+1)))
  else
  some (.next (s48.1,zw (s48.2+1)))
 else
 some (.done s48.1)
def V3 (p0:Qb) (p1:(List Int)) (p4:Tapi_Shift) (p2:Int) (p3:Int) (s1:(Int × Int × Int × Int × Int)):Option (Qm (Int × Int × Int × Int × Int) (Int × Int × Int × Int)) :=
 (Qcj p0).bind fun x2 =>
 if (decide (s1.1 < x2))=true then
  (K9 p0 s1.1).bind fun x6 =>
  (V4 x6 p1).bind fun x8 =>
  if (!x8)=true then
   some (.next (zw (s1.1+1),s1.2.1,s1.2.2.1,s1.2.2.2.1,s1.2.2.2.2))
  else
  (Qci p0 s1.1).bind fun x12 =>
  (Q3 p0 p4.Node).bind fun x14 =>
  (lkI p0.Nodes p4.Node).bind fun a16 =>
  (Qco x6 a16.Parents).bind fun x18 =>
  (Qat x14 x18).bind fun x20 =>
  if (x20==p4.Row)=true then
   (lkI x6 p4.Node).bind fun a24 =>
   if (a24==p4.From)=true then
    (Qd fuel (V8 p0 p4 x6) (1,0)).bind fun x40 =>
    (lkI x6 p2).bind fun a42 =>
    if (a42==p3)=true then
     some (.next (zw (s1.1+1),zw (s1.2.1+x12),zw (s1.2.2.1+(zw (0 - x40))),zw (s1.2.2.2.1+x12),zw (s1.2.2.2.2+(zw (0 - x40)))))
    else
    some (.next (zw (s1.1+1),s1.2.1,s1.2.2.1,zw (s1.2.2.2.1+x12),zw (s1.2.2.2.2+(zw (0 - x40)))))
   else
   if (a24==p4.To)=true then
    (Qd fuel (Qic p0 p4 x6) (1,0)).bind fun x60 =>
    (lkI x6 p2).bind fun a62 =>
    if (a62==p3)=true then
     some (.next (zw (s1.1+1),zw (s1.2.1+x12),zw (s1.2.2.1+x60),zw (s1.2.2.2.1+x12),zw (s1.2.2.2.2+x60)))
    else
    some (.next (zw (s1.1+1),s1.2.1,s1.2.2.1,zw (s1.2.2.2.1+x12),zw (s1.2.2.2.2+x60)))
   else
   (lkI x6 p2).bind fun a66 =>
   if (a66==p3)=true then
    some (.next (zw (s1.1+1),zw (s1.2.1+x12),zw (s1.2.2.1+0),zw (s1.2.2.2.1+x12),zw (s1.2.2.2.2+0)))
   else
   some (.next (zw (s1.1+1),s1.2.1,s1.2.2.1,zw (s1.2.2.2.1+x12),zw (s1.2.2.2.2+0)))
  else
  (lkI x6 p2).bind fun a70 =>
  if (a70==p3)=true then
   some (.next (zw (s1.1+1),zw (s1.2.1+x12),zw (s1.2.2.1+0),zw (s1.2.2.2.1+x12),zw (s1.2.2.2.2+0)))
  else
  some (.next (zw (s1.1+1),s1.2.1,s1.2.2.1,zw (s1.2.2.2.1+x12),zw (s1.2.2.2.2+0)))
 else
 some (.done (s1.2.1,s1.2.2.1,s1.2.2.2.1,s1.2.2.2.2))
def Qbz (p0:Qb) (p1:(List Int)) (p2:Int) (p3:Int) (p4:Tapi_Shift):Option (Int × Int × Int × Int) :=
 (Qd fuel (V3 p0 p1 p4 p2 p3) (0,0,0,0,0)).bind fun x75 =>
 some (x75.1,x75.2.1,x75.2.2.1,x75.2.2.2)
def Qcu  (s1:(Int × (List Int))):Option (Qm (Int × (List Int)) (List Int)) :=
 if (s1.1 != 0)=true then
  if (s1.2++([(if (zw (0 - (Int.tmod s1.1 10000))) > (Int.tmod s1.1 10000) then (zw (0 - (Int.tmod s1.1 10000))) else (Int.tmod s1.1 10000))]:(List Int))).length*8≤140737488355328 then
   some (.next (zw (Int.tdiv s1.1 10000),(s1.2++([(if (zw (0 - (Int.tmod s1.1 10000))) > (Int.tmod s1.1 10000) then (zw (0 - (Int.tmod s1.1 10000))) else (Int.tmod s1.1 10000))]:(List Int)))))
  else none
 else
 some (.done s1.2)
def Xk (p0:Int):Option (List Int) :=
 (Qd fuel (Qcu) (p0,([]:(List Int)))).bind fun x5 =>
 some x5
def Kk (p0:(List Int)) (p1:(List Int)) (s5:Int):Option (Qm Int (Int ⊕ Unit)) :=
 if (decide (s5≥0))=true then
  (lkI p0 s5).bind fun a8 =>
  (lkI p1 s5).bind fun a10 =>
  if (a8 != a10)=true then
   if (decide (a8 < a10))=true then
    some (.done (Sum.inl (-1)))
   else
   some (.done (Sum.inl 1))
  else
  some (.next (zw (s5 - 1)))
 else
 some (.done (Sum.inr ()))
def Y6 (p0:(List Int)) (p1:(List Int)):Option Int :=
 if ((p0.length:Int) != (p1.length:Int))=true then
  if (decide ((p0.length:Int) < (p1.length:Int)))=true then
   some (-1)
  else
  some 1
 else
 (Qd fuel (Kk p0 p1) (zw ((p0.length:Int) - 1))).bind fun x16=>match x16 with
 | .inl x17=>(
  some x17)
 | .inr x18=>(
  some 0)
def Qjt  (s1:(List Int)):Option (Qm (List Int) (List Int)) :=
 if (decide ((s1.length:Int) > 0))=true then
  (lkI s1 (zw ((s1.length:Int) - 1))).bind fun a4 =>
  if (a4==0)=true then
   if 0≤(0:Int)∧(0:Int)≤(zw ((s1.length:Int) - 1))∧(zw ((s1.length:Int) - 1))≤(s1.length:Int) then
    some (.next (sub s1 0 (zw ((s1.length:Int) - 1))))
   else none
  else
  some (.done s1)
 else
 some (.done s1)
def Jh (p0:(List Int)):Option (List Int) :=
 (Qd fuel (Qjt) p0).bind fun x9 =>
 some x9
def Qdd (p1:(List Int)) (s1:(Int × (List Int))) (p0:(List Int)) (s4:(Int × Int × (List Int))):Option (Qm (Int × Int × (List Int)) (List Int)) :=
 if (decide (s4.2.1 < (p1.length:Int)))=true then
  (lkI s4.2.2 (zw (s1.1+s4.2.1))).bind fun a7 =>
  (lkI p0 s1.1).bind fun a10 =>
  (lkI p1 s4.2.1).bind fun a12 =>
  (lkI s4.2.2 (zw (s1.1+s4.2.1))).bind fun a14 =>
  some (.next (zw (Int.tdiv (zw ((zw (s4.1+a7))+(zw (a10*a12)))) 10000),zw (s4.2.1+1),(List.set s4.2.2 (Int.toNat (zw (s1.1+s4.2.1))) (Int.tmod (zw ((zw (s4.1+a7))+(zw (a10*a12)))) 10000))))
 else
 if (decide (s4.1 > 0))=true then
  (lkI s4.2.2 (zw (s1.1+s4.2.1))).bind fun a19 =>
  (lkI s4.2.2 (zw (s1.1+s4.2.1))).bind fun a22 =>
  some (.next (zw (Int.tdiv (zw (s4.1+a19)) 10000),zw (s4.2.1+1),(List.set s4.2.2 (Int.toNat (zw (s1.1+s4.2.1))) (Int.tmod (zw (s4.1+a19)) 10000))))
 else
 some (.done s4.2.2)
def Qdj (p0:(List Int)) (p1:(List Int)) (s1:(Int × (List Int))):Option (Qm (Int × (List Int)) (List Int)) :=
 if (decide (s1.1 < (p0.length:Int)))=true then
  (Qd fuel (Qdd p1 s1 p0) (0,0,s1.2)).bind fun x26 =>
  some (.next (zw (s1.1+1),x26))
 else
 some (.done s1.2)
def Ve (p0:(List Int)) (p1:(List Int)):Option (List Int) :=
 if 0≤(zw ((p0.length:Int)+(p1.length:Int)))∧(zw ((p0.length:Int)+(p1.length:Int)))≤(zw ((p0.length:Int)+(p1.length:Int)))∧(zw ((p0.length:Int)+(p1.length:Int)))*8≤140737488355328 then
  (Qd fuel (Qdj p0 p1) (0,(List.replicate (Int.toNat (zw ((p0.length:Int)+(p1.length:Int)))) (0:Int)))).bind fun x28 =>
  (Jh x28).bind fun x29 =>
  some x29
 else none
def Qdg (p0:(List Int)) (p1:(List Int)) (s1:(Int × Int × (List Int))):Option (Qm (Int × Int × (List Int)) (List Int)) :=
 if (decide (s1.2.1 < (p0.length:Int)))=true then
  (lkI p0 s1.2.1).bind fun a4 =>
  if (decide (s1.2.1 < (p1.length:Int)))=true then
   (lkI p1 s1.2.1).bind fun a8 =>
   if (decide ((zw ((zw (a4 - s1.1)) - a8)) < 0))=true then
    if (s1.2.2++([zw ((zw ((zw (a4 - s1.1)) - a8))+10000)]:(List Int))).length*8≤140737488355328 then
     some (.next (1,zw (s1.2.1+1),(s1.2.2++([zw ((zw ((zw (a4 - s1.1)) - a8))+10000)]:(List Int)))))
    else none
   else
   if (s1.2.2++([zw ((zw (a4 - s1.1)) - a8)]:(List Int))).length*8≤140737488355328 then
    some (.next (0,zw (s1.2.1+1),(s1.2.2++([zw ((zw (a4 - s1.1)) - a8)]:(List Int)))))
   else none
  else
  if (decide ((zw (a4 - s1.1)) < 0))=true then
   if (s1.2.2++([zw ((zw (a4 - s1.1))+10000)]:(List Int))).length*8≤140737488355328 then
    some (.next (1,zw (s1.2.1+1),(s1.2.2++([zw ((zw (a4 - s1.1))+10000)]:(List Int)))))
   else none
  else
  if (s1.2.2++([zw (a4 - s1.1)]:(List Int))).length*8≤140737488355328 then
   some (.next (0,zw (s1.2.1+1),(s1.2.2++([zw (a4 - s1.1)]:(List Int)))))
  else none
 else
 some (.done s1.2.2)
def Qc5 (p0:(List Int)) (p1:(List Int)):Option (List Int) :=
 (Qd fuel (Qdg p0 p1) (0,0,([]:(List Int)))).bind fun x15 =>
 (Jh x15).bind fun x16 =>
 some x16
def Qcq (p1:(List Int)) (x8:(List Int)) (s10:(Int × Int × Int)):Option (Qm (Int × Int × Int) (Int × Int)) :=
 if (decide (s10.2.2≥(if (zw ((zw ((p1.length:Int) - 1)) - 1)) > 0 then (zw ((zw ((p1.length:Int) - 1)) - 1)) else 0)))=true then
  if (decide (s10.2.2 < (x8.length:Int)))=true then
   (lkI x8 s10.2.2).bind fun a15 =>
   if (decide (s10.2.2≤(zw ((p1.length:Int) - 1))))=true then
    (lkI p1 s10.2.2).bind fun a19 =>
    some (.next (zw ((zw (s10.1*10000))+a19),zw ((zw (s10.2.1*10000))+a15),zw (s10.2.2 - 1)))
   else
   some (.next (s10.1,zw ((zw (s10.2.1*10000))+a15),zw (s10.2.2 - 1)))
  else
  if (decide (s10.2.2≤(zw ((p1.length:Int) - 1))))=true then
   (lkI p1 s10.2.2).bind fun a23 =>
   some (.next (zw ((zw (s10.1*10000))+a23),zw (s10.2.1*10000),zw (s10.2.2 - 1)))
  else
  some (.next (s10.1,zw (s10.2.1*10000),zw (s10.2.2 - 1)))
 else
 some (.done (s10.1,s10.2.1))
def Qcs (p1:(List Int)) (x8:(List Int)) (s27:(Int × Int)):Option (Qm (Int × Int) Int) :=
 if (decide (s27.1 < s27.2))=true then
  (Ve p1 [zw (Int.tdiv (zw ((zw (s27.1+s27.2))+1)) 2)]).bind fun x30 =>
  (Y6 x30 x8).bind fun x32 =>
  if (decide (x32≤0))=true then
   some (.next (zw (Int.tdiv (zw ((zw (s27.1+s27.2))+1)) 2),s27.2))
  else
  some (.next (s27.1,zw ((zw (Int.tdiv (zw ((zw (s27.1+s27.2))+1)) 2)) - 1)))
 else
 some (.done s27.1)
def Qcr (p0:(List Int)) (p1:(List Int)) (s3:((List Int) × Int × (List Int))):Option (Qm ((List Int) × Int × (List Int)) ((List Int) × (List Int))) :=
 if (decide (s3.2.1≥0))=true then
  (lkI p0 s3.2.1).bind fun a6 =>
  if (([a6]:(List Int))++s3.1).length*8≤140737488355328 then
   (Jh (([a6]:(List Int))++s3.1)).bind fun x8 =>
   (Qd fuel (Qcq p1 x8) (0,0,zw ((zw ((p1.length:Int) - 1))+1))).bind fun x26 =>
   if (zw (x26.1+1))≠0 then
    if x26.1≠0 then
     (Qd fuel (Qcs p1 x8) (zw (Int.tdiv x26.2 (zw (x26.1+1))),zw (Int.tdiv x26.2 x26.1))).bind fun x37 =>
     (lkI s3.2.2 s3.2.1).bind fun a38 =>
     (Jh [x37]).bind fun x40 =>
     (Ve p1 x40).bind fun x42 =>
     (Qc5 x8 x42).bind fun x44 =>
     some (.next (x44,zw (s3.2.1 - 1),(List.set s3.2.2 (Int.toNat s3.2.1) x37)))
    else none
   else none
  else none
 else
 some (.done (s3.1,s3.2.2))
def Jl (p0:(List Int)) (p1:(List Int)):Option ((List Int) × (List Int)) :=
 if (decide ((p0.length:Int)≤(zw ((p1.length:Int) - 1))))=true then
  if p0.length*8≤140737488355328 then
   some ([],p0)
  else none
 else
 if 0≤(zw ((p0.length:Int) - (zw ((p1.length:Int) - 1))))∧(zw ((p0.length:Int) - (zw ((p1.length:Int) - 1))))≤(zw ((p0.length:Int) - (zw ((p1.length:Int) - 1))))∧(zw ((p0.length:Int) - (zw ((p1.length:Int) - 1))))*8≤140737488355328 then
  if 0≤(zw ((p0.length:Int) - (zw ((p1.length:Int) - 1))))∧(zw ((p0.length:Int) - (zw ((p1.length:Int) - 1))))≤(p0.length:Int)∧(p0.length:Int)≤(p0.length:Int) then
   if (sub p0 (zw ((p0.length:Int) - (zw ((p1.length:Int) - 1)))) (p0.length:Int)).length*8≤140737488355328 then
    (Qd fuel (Qcr p0 p1) ((sub p0 (zw ((p0.length:Int) - (zw ((p1.length:Int) - 1)))) (p0.length:Int)),zw ((((List.replicate (Int.toNat (zw ((p0.length:Int) - (zw ((p1.length:Int) - 1))))) (0:Int)).length):Int) - 1),(List.replicate (Int.toNat (zw ((p0.length:Int) - (zw ((p1.length:Int) - 1))))) (0:Int)))).bind fun x48 =>
    (Jh x48.2).bind fun x49 =>
    some (x49,x48.1)
   else none
  else none
 else none
def Qj9  (s1:((List Int) × (List Int))):Option (Qm ((List Int) × (List Int)) (List Int)) :=
 if (decide ((s1.2.length:Int) > 0))=true then
  (Jl s1.1 s1.2).bind fun x4 =>
  some (.next (s1.2,x4.2))
 else
 some (.done s1.1)
def Qfm (p0:(List Int)) (p1:(List Int)):Option (List Int) :=
 (Qd fuel (Qj9) (p0,p1)).bind fun x7 =>
 some x7
def Qhw (p0:(List Int)) (s7:(Int × Int)):Option (Qm (Int × Int) Int) :=
 if (decide (s7.2≥0))=true then
  (lkI p0 s7.2).bind fun a10 =>
  some (.next (zw ((zw (10000*s7.1))+a10),zw (s7.2 - 1)))
 else
 some (.done s7.1)
def Qas (p0:(List Int)):Option (Int × Bool) :=
 (Xk 4611686018427387903).bind fun x1 =>
 (Y6 p0 x1).bind fun x3 =>
 if (decide (x3 > 0))=true then
  some (0,false)
 else
 (Qd fuel (Qhw p0) (0,zw ((p0.length:Int) - 1))).bind fun x13 =>
 some (x13,true)
def Qet (p0:Bool) (p1:(List Int)) (p2:(List Int)):Option (Tapi_Q × Bool) :=
 (Qfm p1 p2).bind fun x1 =>
 (Jl p1 x1).bind fun x3 =>
 (Jl p2 x1).bind fun x5 =>
 (Qas x3.1).bind fun x7 =>
 (Qas x5.1).bind fun x9 =>
 if (!x7.2)=true then
  some ((Tapi_Q.mk 0 0),false)
 else
 if (!x9.2)=true then
  some ((Tapi_Q.mk 0 0),false)
 else
 if p0=true then
  some ((Tapi_Q.mk (zw (0 - x7.1)) x9.1),true)
 else
 some ((Tapi_Q.mk x7.1 x9.1),true)
def Qd7 (p0:Int) (p1:Int):Option (Tapi_Q × Bool) :=
 (Xk p0).bind fun x1 =>
 (Xk p1).bind fun x3 =>
 (Qet (!((decide (p0 < 0))==(decide (p1 < 0)))) x1 x3).bind fun x5 =>
 some (x5.1,x5.2)
def Qao (p0:Int) (p1:Int):Option Tapi_Q :=
 (Qd7 p0 p1).bind fun x1 =>
 some x1.1
def Qhx  (s1:(Int × Int)):Option (Qm (Int × Int) Int) :=
 if (s1.2 != 0)=true then
  if s1.2≠0 then
   some (.next (s1.2,Int.tmod s1.1 s1.2))
  else none
 else
 some (.done s1.1)
def Qav (p0:Int) (p1:Int):Option Int :=
 (Qd fuel (Qhx) (p0,p1)).bind fun x5 =>
 some x5
def Yz (p0:Int):Option Int :=
 if (decide (p0 < 0))=true then
  some (zv (0 - (zv (p0))))
 else
 some (zv (p0))
def K3 (p0:Tapi_Q):Option Int :=
 if (decide (p0.D < 1))=true then
  some 5
 else
 if (decide (p0.D > 4611686018427387903))=true then
  some 5
 else
 if (decide (p0.N < (-4611686018427387903)))=true then
  some 5
 else
 if (decide (p0.N > 4611686018427387903))=true then
  some 5
 else
 (Yz p0.N).bind fun x9 =>
 (Qav x9 (zv (p0.D))).bind fun x11 =>
 if (x11 != 1)=true then
  some 5
 else
 some 0
def Kr (p0:Tapi_Q):Option Int :=
 (K3 p0).bind fun x1 =>
 if (x1 != 0)=true then
  some x1
 else
 if (decide (p0.N < (-1000)))=true then
  some 2
 else
 if (decide (p0.N > 1000))=true then
  some 2
 else
 if (decide (p0.D > 1000))=true then
  some 2
 else
 some 0
def Xy (p0:Qb) (p1:Tapi_Shift):Option (Int × Int) :=
 (lkI p0.Nodes p1.Node).bind fun a1 =>
 (lkI a1.Rows p1.Row).bind fun a3 =>
 (lkI a3 p1.To).bind fun a5 =>
 (lkI a3 p1.From).bind fun a7 =>
 some (zw (0 - a5),a7)
def Qlf (p0:Bool) (p1:(Int × Int)) (p2:(Int × Int)):Option Tapi_Q :=
 if (p1.1 != 0)=true then
  none
 else
 if (decide (p1.2 > 4611686018427387903))=true then
  none
 else
 if (p2.1 != 0)=true then
  none
 else
 if (decide (p2.2 > 4611686018427387903))=true then
  none
 else
 if p0=true then
  some (Tapi_Q.mk (zw (0 - (zw (p1.2)))) (zw (p2.2)))
 else
 some (Tapi_Q.mk (zw (p1.2)) (zw (p2.2)))
def Qdl (c0:Int) (c1:Int):Option Tapi_Q :=
 (Yz c0).bind fun x1 =>
 (Yz c1).bind fun x3 =>
 (Qav x1 x3).bind fun x5 =>
 (Yz c0).bind fun x7 =>
 if x5≠0 then
  (Yz c1).bind fun x9 =>
  if x5≠0 then
   (Qlf (!((decide (c0 < 0))==(decide (c1 < 0)))) (0,zv (Int.tdiv x7 x5)) (0,zv (Int.tdiv x9 x5))).bind fun x11 =>
   some x11
  else none
 else none
def Qay (p0:Int) (p1:Int):Option (Tapi_Q × Int) :=
 if (p1==0)=true then
  some ((Tapi_Q.mk 0 0),2)
 else
 (Qdl p0 p1).bind fun x3 =>
 some (x3,0)
def K0 (p0:Qb) (p1:(List Int)) (p2:Int) (p3:Int) (p4:Tapi_Shift) (p5:Tapi_Q):Option (Tapi_Q × Int) :=
 (Xw p0 p1 p2 p3 p4).bind fun x1 =>
 if (x1.2 != 0)=true then
  some ((Tapi_Q.mk 0 0),x1.2)
 else
 (Kr p5).bind fun x5 =>
 if (x5 != 0)=true then
  some ((Tapi_Q.mk 0 0),x5)
 else
 (Xy p0 p4).bind fun x9 =>
 if (decide (p5.N < (zw (x9.1*p5.D))))=true then
  some ((Tapi_Q.mk 0 0),2)
 else
 if (decide (p5.N > (zw (x9.2*p5.D))))=true then
  some ((Tapi_Q.mk 0 0),2)
 else
 if ((zw ((zw (x1.1.2.2.1*p5.D))+(zw (x1.1.2.2.2*p5.N))))==0)=true then
  some ((Tapi_Q.mk 0 0),7)
 else
 (Qay (zw ((zw (x1.1.1*p5.D))+(zw (x1.1.2.1*p5.N)))) (zw ((zw (x1.1.2.2.1*p5.D))+(zw (x1.1.2.2.2*p5.N))))).bind fun x17 =>
 some (x17.1,x17.2)
def Kw (p0:Tapi_Q) (p1:Tapi_Q):Option Int :=
 (Xk p0.N).bind fun x1 =>
 (Xk p1.D).bind fun x3 =>
 (Ve x1 x3).bind fun x5 =>
 (Xk p1.N).bind fun x7 =>
 (Xk p0.D).bind fun x9 =>
 (Ve x7 x9).bind fun x11 =>
 if (decide (p0.N < 0))=true then
  if (decide (p1.N < 0))=true then
   (Y6 x11 x5).bind fun x17 =>
   some x17
  else
  some (-1)
 else
 if (decide (p1.N < 0))=true then
  some 1
 else
 (Y6 x5 x11).bind fun x23 =>
 some x23
def Qf6 (p0:Qb) (p1:Tapi_Shift):Option (Int × Int) :=
 (lkI p0.Nodes p1.Node).bind fun a1 =>
 (lkI a1.Rows p1.Row).bind fun a3 =>
 (lkI a3 p1.To).bind fun a5 =>
 (lkI a3 p1.From).bind fun a7 =>
 some (zw (0 - a5),a7)
def Qca  : Option Qb :=
 some (Qb.mk 10 ([(Tapi_Node.mk 2 [] [[7,3]]),(Tapi_Node.mk 2 [0] [[8,2],[2,8]])]:(List Tapi_Node)))
def Qgn (p0:Int) (p1:Int) (p2:Int):Option Bool :=
 (Qca).bind fun x1 =>
 (K0 x1 [-1,1] 0 1 (Tapi_Shift.mk 0 0 0 1) (Tapi_Q.mk p0 1)).bind fun x3 =>
 if (x3.2==0)=true then
  some ((x3.1.N==p1) && ((x3.1.D==p2) && true))
 else
 some false
def Kz (p0:Int) (p1:Int):Option (Int × Int) :=
 some (zv ((zv ((zv ((Int.fdiv p0 (2^min (Int.toNat 32) (IntKind.bits .u64)))*(Int.fdiv p1 (2^min (Int.toNat 32) (IntKind.bits .u64)))))+(Int.fdiv (zv ((zv ((Int.fdiv p0 (2^min (Int.toNat 32) (IntKind.bits .u64)))*(zv (zb p1 &&& zb 4294967295).toNat)))+(Int.fdiv (zv ((zv (zb p0 &&& zb 4294967295).toNat)*(zv (zb p1 &&& zb 4294967295).toNat))) (2^min (Int.toNat 32) (IntKind.bits .u64))))) (2^min (Int.toNat 32) (IntKind.bits .u64)))))+(Int.fdiv (zv ((zv (zb (zv ((zv ((Int.fdiv p0 (2^min (Int.toNat 32) (IntKind.bits .u64)))*(zv (zb p1 &&& zb 4294967295).toNat)))+(Int.fdiv (zv ((zv (zb p0 &&& zb 4294967295).toNat)*(zv (zb p1 &&& zb 4294967295).toNat))) (2^min (Int.toNat 32) (IntKind.bits .u64))))) &&& zb 4294967295).toNat)+(zv ((zv (zb p0 &&& zb 4294967295).toNat)*(Int.fdiv p1 (2^min (Int.toNat 32) (IntKind.bits .u64))))))) (2^min (Int.toNat 32) (IntKind.bits .u64)))),zv (p0*p1))
def Qei (p0:Int) (p1:Int):Option (Int × Int) :=
 (Kz p0 p1).bind fun x1 =>
 some (x1.1,x1.2)
def Qfi (p0:(Int × Int)) (p1:(Int × Int)):Option Bool :=
 if (decide (p0.1 < p1.1))=true then
  some true
 else
 if (p0.1==p1.1)=true then
  some (decide (p0.2 < p1.2))
 else
 some false
def Qeh (p0:Tapi_Q) (p1:Tapi_Q):Option Int :=
 (Yz p0.N).bind fun x1 =>
 (Qei x1 (zv (p1.D))).bind fun x3 =>
 (Yz p1.N).bind fun x5 =>
 (Qei x5 (zv (p0.D))).bind fun x7 =>
 if (!((decide (p0.N < 0))==(decide (p1.N < 0))))=true then
  if (decide (p0.N < 0))=true then
   some (-1)
  else
  some 1
 else
 if ((x3.1==x7.1) && ((x3.2==x7.2) && true))=true then
  some 0
 else
 (Qfi (x3.1,x3.2) (x7.1,x7.2)).bind fun x15 =>
 if (x15==(decide (p0.N≥0)))=true then
  some (-1)
 else
 some 1
def Qam (c0:Int) (c1:Int) (c2:Int) (c3:Int):Option Int :=
 (Qeh (Tapi_Q.mk c0 c1) (Tapi_Q.mk c2 c3)).bind fun x1 =>
 some x1
def Qk3 (p0:Tapi_Q) (p1:Tapi_Q):Option (Int × Int) :=
 (K3 p0).bind fun x1 =>
 if (x1 != 0)=true then
  some (0,5)
 else
 (K3 p1).bind fun x5 =>
 if (x5 != 0)=true then
  some (0,5)
 else
 (Qam p0.N p0.D p1.N p1.D).bind fun x9 =>
 some (x9,0)
def Yo (p0:Tapi_Q) (p1:Tapi_Q):Option Bool :=
 (Qk3 p0 p1).bind fun x1 =>
 some (decide (x1.1 < 0))
def Qex (p0:Tapi_Q) (p1:Int) (p2:Int):Option Bool :=
 (Yo p0 (Tapi_Q.mk p1 1)).bind fun x1 =>
 if (!x1)=true then
  (Yo (Tapi_Q.mk p2 1) p0).bind fun x5 =>
  some (!x5)
 else
 some false
def Qej (p0:(Int × Int × Int × Int)) (p1:Tapi_Q) (p2:Int) (p3:Int):Option Bool :=
 if (p0.2.2.1==0)=true then
  if (p0.2.2.2==0)=true then
   some false
  else
  if (p1.D==1)=true then
   if (p1.N==p2)=true then
    some (decide ((zw (p0.2.2.1+(zw (p0.2.2.2*p1.N)))) > 0))
   else
   if (p1.N==p3)=true then
    some (decide ((zw (p0.2.2.1+(zw (p0.2.2.2*p1.N)))) > 0))
   else
   some true
  else
  some true
 else
 if (p1.D==1)=true then
  if (p1.N==p2)=true then
   some (decide ((zw (p0.2.2.1+(zw (p0.2.2.2*p1.N)))) > 0))
  else
  if (p1.N==p3)=true then
   some (decide ((zw (p0.2.2.1+(zw (p0.2.2.2*p1.N)))) > 0))
  else
  some true
 else
 some true
def Qd3 (p0:Qb) (p1:(List Int)) (p2:Int) (p3:Int) (p4:Tapi_Shift) (p5:Tapi_Q):Option (Tapi_Q × Int) :=
 (Xw p0 p1 p2 p3 p4).bind fun x1 =>
 if (x1.2 != 0)=true then
  some ((Tapi_Q.mk 0 0),x1.2)
 else
 (Kr p5).bind fun x5 =>
 if (x5 != 0)=true then
  some ((Tapi_Q.mk 0 0),x5)
 else
 if (decide (p5.N < 0))=true then
  some ((Tapi_Q.mk 0 0),2)
 else
 if (decide (p5.N > p5.D))=true then
  some ((Tapi_Q.mk 0 0),2)
 else
 (Xy p0 p4).bind fun x13 =>
 if ((zw ((zw (x1.1.2.1*p5.D)) - (zw (x1.1.2.2.2*p5.N))))==0)=true then
  if ((zw ((zw (x1.1.2.2.1*p5.N)) - (zw (x1.1.1*p5.D)))) != 0)=true then
   some ((Tapi_Q.mk 0 0),4)
  else
  if (x13.1 != x13.2)=true then
   some ((Tapi_Q.mk 0 0),4)
  else
  if (x1.1.2.2.1==0)=true then
   some ((Tapi_Q.mk 0 0),4)
  else
  some ((Tapi_Q.mk 0 1),0)
 else
 (Qay (zw ((zw (x1.1.2.2.1*p5.N)) - (zw (x1.1.1*p5.D)))) (zw ((zw (x1.1.2.1*p5.D)) - (zw (x1.1.2.2.2*p5.N))))).bind fun x23 =>
 if (x23.2 != 0)=true then
  some ((Tapi_Q.mk 0 0),x23.2)
 else
 (Qex x23.1 x13.1 x13.2).bind fun x27 =>
 if (!x27)=true then
  some ((Tapi_Q.mk 0 0),4)
 else
 (Qej (x1.1.1,x1.1.2.1,x1.1.2.2.1,x1.1.2.2.2) x23.1 x13.1 x13.2).bind fun x31 =>
 if (!x31)=true then
  some ((Tapi_Q.mk 0 0),4)
 else
 some (x23.1,0)
def Vd (p0:(List Int)) (p1:Tapi_Shift) (p2:Tapi_Q) (p3:Tapi_Q) (p4:Int):Option Bool :=
 (Qca).bind fun x1 =>
 (Qd3 x1 p0 0 1 p1 p2).bind fun x3 =>
 if (x3.2==p4)=true then
  some ((x3.1.N==p3.N) && ((x3.1.D==p3.D) && true))
 else
 some false
def Jt (x5:(List (Int × Int × Int × Int))) (s11:(Int × Int)):Option (Qm (Int × Int) Int) :=
 if (decide (s11.2 < (x5.length:Int)))=true then
  (lkI x5 s11.2).bind fun a14 =>
  (lkI x5 s11.1).bind fun a16 =>
  if (decide (a14.1 > a16.1))=true then
   some (.next (s11.2,zw (s11.2+1)))
  else
  some (.next (s11.1,zw (s11.2+1)))
 else
 some (.done s11.1)
def Jy (x5:(List (Int × Int × Int × Int))) (x21:Int) (s24:(Int × Int × Int × Int × Int)):Option (Qm (Int × Int × Int × Int × Int) (Int × Int × Int × Int)) :=
 if (decide (s24.1 < (x5.length:Int)))=true then
  (lkI x5 s24.1).bind fun a27 =>
  (lkI x5 x21).bind fun a29 =>
  if ((zw (a29.2.1 - a27.2.1))==0)=true then
   some (.next (zw (s24.1+1),s24.2.1,s24.2.2.1,s24.2.2.2.1,s24.2.2.2.2))
  else
  (Qay (zw (0 - (zw (a29.1 - a27.1)))) (zw (a29.2.1 - a27.2.1))).bind fun x33 =>
  if (x33.2 != 0)=true then
   some (.next (zw (s24.1+1),s24.2.1,s24.2.2.1,s24.2.2.2.1,s24.2.2.2.2))
  else
  if (decide ((zw (a29.2.1 - a27.2.1)) < 0))=true then
   (Yo x33.1 (Tapi_Q.mk s24.2.2.2.1 s24.2.2.2.2)).bind fun x39 =>
   if x39=true then
    some (.next (zw (s24.1+1),s24.2.1,s24.2.2.1,x33.1.N,x33.1.D))
   else
   some (.next (zw (s24.1+1),s24.2.1,s24.2.2.1,s24.2.2.2.1,s24.2.2.2.2))
  else
  (Yo (Tapi_Q.mk s24.2.1 s24.2.2.1) x33.1).bind fun x43 =>
  if x43=true then
   some (.next (zw (s24.1+1),x33.1.N,x33.1.D,s24.2.2.2.1,s24.2.2.2.2))
  else
  some (.next (zw (s24.1+1),s24.2.1,s24.2.2.1,s24.2.2.2.1,s24.2.2.2.2))
 else
 some (.done (s24.2.1,s24.2.2.1,s24.2.2.2.1,s24.2.2.2.2))
def Xd (p0:Qb) (p1:(List Int)) (p2:Int) (p3:Tapi_Shift):Option (Tapi_Q × Tapi_Q × Int) :=
 (Ze p0 p1 p2 p3 []).bind fun x1 =>
 if (x1 != 0)=true then
  some ((Tapi_Q.mk 0 0),(Tapi_Q.mk 0 0),x1)
 else
 (Vc p0 p1 p2 p3).bind fun x5 =>
 (lkI x5 0).bind fun a7 =>
 if (a7.2.2.1==0)=true then
  some ((Tapi_Q.mk 0 0),(Tapi_Q.mk 0 0),7)
 else
 (Qd fuel (Jt x5) (0,0)).bind fun x21 =>
 (Xy p0 p3).bind fun x22 =>
 (Qd fuel (Jy x5 x21) (0,x22.1,1,x22.2,1)).bind fun x48 =>
 some ((Tapi_Q.mk x48.1 x48.2.1),(Tapi_Q.mk x48.2.2.1 x48.2.2.2),0)
def Qg8 (p0:(List Int)) (p1:Int) (p2:Int):Option Bool :=
 (Qca).bind fun x1 =>
 (Xd x1 p0 0 (Tapi_Shift.mk 0 0 0 1)).bind fun x3 =>
 if (x3.2.2==0)=true then
  if ((x3.1.N==p1) && ((x3.1.D==1) && true))=true then
   some ((x3.2.1.N==p2) && ((x3.2.1.D==1) && true))
  else
  some false
 else
 some false
def Qf7  : Option Bool :=
 (Qca).bind fun x1 =>
 (Xw x1 [-1,1] 0 1 (Tapi_Shift.mk 0 0 0 1)).bind fun x3 =>
 (Xw x1 [-1,1] 0 1 (Tapi_Shift.mk 1 1 1 0)).bind fun x5 =>
 (K0 x1 [-1,1] 0 1 (Tapi_Shift.mk 0 0 0 1) (Tapi_Q.mk 8 1)).bind fun x7 =>
 (Xw x1 [2,0] 0 1 (Tapi_Shift.mk 0 0 0 1)).bind fun x9 =>
 (Xw x1 [-1,1] 2 0 (Tapi_Shift.mk 0 0 0 1)).bind fun x11 =>
 (Xw x1 [-1,1] 0 1 (Tapi_Shift.mk 0 0 0 0)).bind fun x13 =>
 (K0 x1 [-1,1] 0 1 (Tapi_Shift.mk 0 0 0 1) (Tapi_Q.mk 2 4)).bind fun x15 =>
 (K0 x1 [-1,1] 0 1 (Tapi_Shift.mk 0 0 0 1) (Tapi_Q.mk 1 2000)).bind fun x17 =>
 if ((x3.1.1==24) && ((x3.1.2.1==8) && ((x3.1.2.2.1==38) && ((x3.1.2.2.2==6) && true))))=true then
  if (x3.2==0)=true then
   if ((x5.1.1==24) && ((x5.1.2.1==(-3)) && ((x5.1.2.2.1==38) && ((x5.1.2.2.2==(-3)) && true))))=true then
    if (x5.2==0)=true then
     if (x7.2==2)=true then
      if (x9.2==2)=true then
       if (x11.2==2)=true then
        if (x13.2==2)=true then
         if (x15.2==5)=true then
          if (x17.2==2)=true then
           (Qgn 0 12 19).bind fun x39 =>
           if x39=true then
            (Qgn 1 8 11).bind fun x43 =>
            if x43=true then
             (Qgn 7 1 1).bind fun x47 =>
             if x47=true then
              (Vd [-1,1] (Tapi_Shift.mk 0 0 0 1) (Tapi_Q.mk 1 2) (Tapi_Q.mk (-1) 1) 0).bind fun x51 =>
              if x51=true then
               (Qg8 [-1,1] (-1) 7).bind fun x55 =>
               if x55=true then
                (Qg8 [-1,-1] (-3) 2).bind fun x59 =>
                if x59=true then
                 (Vd [-1,1] (Tapi_Shift.mk 0 0 0 1) (Tapi_Q.mk 0 1) (Tapi_Q.mk (-3) 1) 0).bind fun x63 =>
                 if x63=true then
                  (Vd [-1,1] (Tapi_Shift.mk 1 1 1 0) (Tapi_Q.mk 1 2) (Tapi_Q.mk 10 3) 0).bind fun x67 =>
                  if x67=true then
                   (Vd [1,1] (Tapi_Shift.mk 0 0 0 1) (Tapi_Q.mk 1 1) (Tapi_Q.mk 0 0) 4).bind fun x71 =>
                   if x71=true then
                    (Vd [-1,1] (Tapi_Shift.mk 1 1 1 0) (Tapi_Q.mk 3 4) (Tapi_Q.mk 0 0) 4).bind fun x75 =>
                    some x75
                   else
                   some false
                  else
                  some false
                 else
                 some false
                else
                some false
               else
               some false
              else
              some false
             else
             some false
            else
            some false
           else
           some false
          else
          some false
         else
         some false
        else
        some false
       else
       some false
      else
      some false
     else
     some false
    else
    some false
   else
   some false
  else
  some false
 else
 some false
def Qbc (p0:Qb) (p2:Int) (p1:(List Int)) (p3:Tapi_Shift) (s1:(Int × Int × (List (Int × Int × Int × Int)))):Option (Qm (Int × Int × (List (Int × Int × Int × Int))) (Int × (List (Int × Int × Int × Int)))) :=
 (lkI p0.Nodes p2).bind fun a2 =>
 if (decide (s1.2.1 < a2.Card))=true then
  (Qbz p0 p1 p2 s1.2.1 p3).bind fun x6 =>
  if (s1.2.2++([(x6.1,x6.2.1,x6.2.2.1,x6.2.2.2)]:(List (Int × Int × Int × Int)))).length*32≤140737488355328 then
   (lkI (s1.2.2++([(x6.1,x6.2.1,x6.2.2.1,x6.2.2.2)]:(List (Int × Int × Int × Int)))) s1.1).bind fun a8 =>
   if (decide (x6.1 > a8.1))=true then
    some (.next (s1.2.1,zw (s1.2.1+1),(s1.2.2++([(x6.1,x6.2.1,x6.2.2.1,x6.2.2.2)]:(List (Int × Int × Int × Int))))))
   else
   some (.next (s1.1,zw (s1.2.1+1),(s1.2.2++([(x6.1,x6.2.1,x6.2.2.1,x6.2.2.2)]:(List (Int × Int × Int × Int))))))
  else none
 else
 some (.done (s1.1,s1.2.2))
def Qbe (x13:(Int × (List (Int × Int × Int × Int)))) (s16:(Int × Int × Int × Int × Int)):Option (Qm (Int × Int × Int × Int × Int) (Int × Int × Int × Int)) :=
 if (decide (s16.1 < (x13.2.length:Int)))=true then
  (lkI x13.2 x13.1).bind fun a19 =>
  (lkI x13.2 s16.1).bind fun a21 =>
  if (decide ((zw (a19.2.1 - a21.2.1)) > 0))=true then
   (Qao (zw (0 - (zw (a19.1 - a21.1)))) (zw (a19.2.1 - a21.2.1))).bind fun x25 =>
   (Kw x25 (Tapi_Q.mk s16.2.1 s16.2.2.1)).bind fun x27 =>
   if (decide (x27 > 0))=true then
    if (decide ((zw (a19.2.1 - a21.2.1)) < 0))=true then
     (Qao (zw (0 - (zw (a19.1 - a21.1)))) (zw (a19.2.1 - a21.2.1))).bind fun x33 =>
     (Kw x33 (Tapi_Q.mk s16.2.2.2.1 s16.2.2.2.2)).bind fun x35 =>
     if (decide (x35 < 0))=true then
      some (.next (zw (s16.1+1),x25.N,x25.D,x33.N,x33.D))
     else
     some (.next (zw (s16.1+1),x25.N,x25.D,s16.2.2.2.1,s16.2.2.2.2))
    else
    some (.next (zw (s16.1+1),x25.N,x25.D,s16.2.2.2.1,s16.2.2.2.2))
   else
   if (decide ((zw (a19.2.1 - a21.2.1)) < 0))=true then
    (Qao (zw (0 - (zw (a19.1 - a21.1)))) (zw (a19.2.1 - a21.2.1))).bind fun x41 =>
    (Kw x41 (Tapi_Q.mk s16.2.2.2.1 s16.2.2.2.2)).bind fun x43 =>
    if (decide (x43 < 0))=true then
     some (.next (zw (s16.1+1),s16.2.1,s16.2.2.1,x41.N,x41.D))
    else
    some (.next (zw (s16.1+1),s16.2.1,s16.2.2.1,s16.2.2.2.1,s16.2.2.2.2))
   else
   some (.next (zw (s16.1+1),s16.2.1,s16.2.2.1,s16.2.2.2.1,s16.2.2.2.2))
  else
  if (decide ((zw (a19.2.1 - a21.2.1)) < 0))=true then
   (Qao (zw (0 - (zw (a19.1 - a21.1)))) (zw (a19.2.1 - a21.2.1))).bind fun x49 =>
   (Kw x49 (Tapi_Q.mk s16.2.2.2.1 s16.2.2.2.2)).bind fun x51 =>
   if (decide (x51 < 0))=true then
    some (.next (zw (s16.1+1),s16.2.1,s16.2.2.1,x49.N,x49.D))
   else
   some (.next (zw (s16.1+1),s16.2.1,s16.2.2.1,s16.2.2.2.1,s16.2.2.2.2))
  else
  some (.next (zw (s16.1+1),s16.2.1,s16.2.2.1,s16.2.2.2.1,s16.2.2.2.2))
 else
 some (.done (s16.2.1,s16.2.2.1,s16.2.2.2.1,s16.2.2.2.2))
def Qel (p0:Qb) (p1:(List Int)) (p2:Int) (p3:Tapi_Shift):Option (Tapi_Q × Tapi_Q) :=
 (Qd fuel (Qbc p0 p2 p1 p3) (0,0,([]:(List (Int × Int × Int × Int))))).bind fun x13 =>
 (Qf6 p0 p3).bind fun x14 =>
 (Qd fuel (Qbe x13) (0,x14.1,1,x14.2,1)).bind fun x56 =>
 some ((Tapi_Q.mk x56.1 x56.2.1),(Tapi_Q.mk x56.2.2.1 x56.2.2.2))
def Xo (x1:(Qi × Qi × Qi × Qi × Qi)) (s3:Int):Option (Qm Int (Unit ⊕ Unit)) :=
 if (decide (s3 < 5))=true then
  (lkI ([x1.1,x1.2.1,x1.2.2.1,x1.2.2.2.1,x1.2.2.2.2]:(List Qi)) s3).bind fun a6 =>
  (Xd a6.n a6.e a6.v a6.s).bind fun x8 =>
  (Vn a6.n a6.e a6.v 0 a6.s).bind fun x10 =>
  if (x10==0)=true then
   (Qbz a6.n a6.e a6.v 0 a6.s).bind fun x14 =>
   if (x14.2.2.1==0)=true then
    if (x8.2.2 != 7)=true then
     some (.done (Sum.inl ()))
    else
    if (!((x8.1.N==0) && ((x8.1.D==0) && true)))=true then
     some (.done (Sum.inl ()))
    else
    if (!((x8.2.1.N==0) && ((x8.2.1.D==0) && true)))=true then
     some (.done (Sum.inl ()))
    else
    some (.next (zw (s3+1)))
   else
   (Qel a6.n a6.e a6.v a6.s).bind fun x24 =>
   if (x8.2.2 != x10)=true then
    some (.done (Sum.inl ()))
   else
   if (!((x8.1.N==x24.1.N) && ((x8.1.D==x24.1.D) && true)))=true then
    some (.done (Sum.inl ()))
   else
   if (!((x8.2.1.N==x24.2.N) && ((x8.2.1.D==x24.2.D) && true)))=true then
    some (.done (Sum.inl ()))
   else
   some (.next (zw (s3+1)))
  else
  if (x8.2.2 != x10)=true then
   some (.done (Sum.inl ()))
  else
  if (!((x8.1.N==0) && ((x8.1.D==0) && true)))=true then
   some (.done (Sum.inl ()))
  else
  if (!((x8.2.1.N==0) && ((x8.2.1.D==0) && true)))=true then
   some (.done (Sum.inl ()))
  else
  some (.next (zw (s3+1)))
 else
 some (.done (Sum.inr ()))
def Kx (p0:Tharuspexlaw24_Story):Option Bool :=
 (Kd (Tharuspexlaw24_Story.mk p0.N p0.C (Tharuspexref05_Known.mk p0.K.Which (p0.K.V.1,p0.K.V.2.1,p0.K.V.2.2.1,p0.K.V.2.2.2.1,p0.K.V.2.2.2.2.1,p0.K.V.2.2.2.2.2.1,p0.K.V.2.2.2.2.2.2.1,p0.K.V.2.2.2.2.2.2.2)) p0.D p0.Raw p0.V p0.Value p0.S)).bind fun x1 =>
 (Qd fuel (Xo x1) 0).bind fun x38=>match x38 with
 | .inl x39=>(
  some false)
 | .inr x40=>(
  (Qf7).bind fun x41 =>
  some x41)
end Go.Ab
namespace Go.Ab
open Go Go.Proofs
set_option maxRecDepth 100000
set_option maxHeartbeats 4000000
theorem Q18:(Try.prog.follows .mixedOrders)=true:=by kernel_rfl
theorem Qvr:Qgs Try.prog 45=true:=by kernel_rfl
theorem Q3q:Qgs Try.prog 74=true:=by kernel_rfl
section
attribute [local irreducible] RW WP
theorem g_ref02_At_ok (p0:(List Int)) (p1:(List Int)):Ct Try.prog 46 [z1 p0,z1 p1] (Qco p0 p1) (fun x=>.ref 0 0 x.length) (fun x=>[oR true 1 eI x]):=by
 refine hfn [] Try.func46 <| hlp 3 (fun s1=>⟨[(0,z1 p0),(1,z1 p1),(5,.ref 0 0 s1.2.length),(6,vI s1.1)],[oR true 1 eI s1.2],24⟩) (fun v=>(.exit 0,⟨[(5,.ref 0 0 v.length)],[oR true 1 eI v],24⟩)) (wk_trans (Zd (live:=[0,1,5,6]) (keep:=[]) gE) (wk_trans (Qbl 5 1 true true gE) (Zd (live:=[0,1,5,6]) (keep:=[0]) kr))) (fun s1=>?_) fun x9=>?_
 ·refine hop 2 (fun _=>Qr (enc:=eI) (l:=p1) (fl:=true) kr gE) <| hbr 1 [10] (?_) ?_
  ·refine hbd fun a4 q5=>hop 5 (fun _=>Qe (enc:=eI) (l:=p1) (n:=s1.1) (fl:=true) (w:=1) (a:=a4) kr kr gE q5) <| hbd fun a6 q7=>hop 1 (fun _=>Qe (enc:=eI) (l:=p0) (n:=a4) (fl:=true) (w:=1) (a:=a6) kr kr gE q7) <| hop 1 (fun _=>sgL false [] [] true gE) <| hoh 0 (fun _ _ h k=>Yi (enc:=eI) (l:=s1.2) (m:=([a6]:(List Int))) (w:=1) (bytes:=8) (ob:=0) (nr:=true) (fl:=true) (nr':=true) (fl':=true) (b:=.ref 1 0 1) (rds:=[1]) false kr kr kr kr gE kr h k) <| hnx 4 (wz [2])
  refine hdx 1 (wz [0])
 refine hrt 3
theorem g_ref05_Cards_ok (p0:Qb):Ct Try.prog 78 [.agg [vI p0.Grain,eL false eTapi_Node p0.Nodes]] (Vf p0) (fun x=>.ref 0 0 x.length) (fun x=>[oR true 1 eI x]):=by
 refine hfn [] Try.func78 <| hop 0 (fun _=>sgL false [] [] false gE) <| hlp 3 (fun s1=>⟨[(1,.ptr 0 0 0),(3,.ref 1 0 s1.2.length),(4,vI s1.1)],[oX true false 2 (.agg [vI p0.Grain,eL false eTapi_Node p0.Nodes]),oR true 1 eI s1.2],22⟩) (fun v=>(.exit 0,⟨[(3,.ref 0 0 v.length)],[oR true 1 eI v],22⟩)) (wk_trans (Zd (live:=[1,3,4]) (keep:=[0]) gE) (wk_trans (Qbl 3 1 true true gE) (Zd (live:=[1,3,4]) (keep:=[0,1]) kr))) (fun s1=>?_) fun x7=>?_
 ·refine hop 3 (fun _=>Qr (enc:=eTapi_Node) (l:=p0.Nodes) (fl:=false) kr gE) <| hbr 1 [9] (?_) ?_
  ·refine hbd fun a4 q5=>hop 5 (fun _=>Qe (enc:=eTapi_Node) (l:=p0.Nodes) (n:=s1.1) (fl:=false) (w:=3) (a:=a4) kr kr gE q5) <| hop 2 (fun _=>sgL false [] [] true gE) <| hoh 0 (fun _ _ h k=>Yi (enc:=eI) (l:=s1.2) (m:=([a4.Card]:(List Int))) (w:=1) (bytes:=8) (ob:=1) (nr:=true) (fl:=true) (nr':=true) (fl':=true) (b:=.ref 2 0 1) (rds:=[2]) false kr kr kr kr gE kr h k) <| hnx 4 (wz [0,3])
  refine hdx 1 (wz [1])
 refine hrt 3
theorem Yg (p0:Qb) (p1:Int):Ct Try.prog 45 [.agg [vI p0.Grain,eL false eTapi_Node p0.Nodes],vI p1] (Q3 p0 p1) (fun x=>.ref 0 0 x.length) (fun x=>[oR true 1 eI x]):=by
 refine hfn [] Try.func45 <| hop 0 (fun _=>sgL false [] [] false gE) <| hcl 3 [] (us:=[.agg [vI p0.Grain,eL false eTapi_Node p0.Nodes]]) (rv:=fun x1=>z1 x1) (ro:=fun x1=>[]) (fun x1 q2=>Qx.froz (g_ref05_Cards_ok p0 x1 q2) (Z3 (w:=1) (bx:=false) (ro:=false) (enc:=eI) (l:=x1) (fl:=true) rfl)) fun x1 _=>hbd fun a3 q4=>hop 3 (fun _=>Qe (enc:=eTapi_Node) (l:=p0.Nodes) (n:=p1) (fl:=false) (w:=3) (a:=a3) kr kr gE q4) <| hcl 2 [] (g_ref02_At_ok x1 a3.Parents) fun x5 _=>hrt 2
theorem Qjd (p0:Tharuspexref02_Draft):Ct Try.prog 90 [.agg [eL true (AV.int .u8) p0.C,.int .u16 p0.Which,eL true (AV.int .u8) p0.Order]] (Ju p0) (fun x=>.ref 0 0 x.length) (fun x=>[oR true 1 eI x]):=by
 refine hfn [] Try.func90 <| hop 0 (fun _=>sgL false [] [] false gE) <| hlp 3 (fun s1=>⟨[(1,.ptr 0 0 0),(3,.ref 1 0 s1.2.length),(4,vI s1.1)],[oX true false 3 (.agg [eL true (AV.int .u8) p0.C,.int .u16 p0.Which,eL true (AV.int .u8) p0.Order]),oR true 1 eI s1.2],28⟩) (fun v=>(.exit 0,⟨[(3,.ref 0 0 v.length)],[oR true 1 eI v],28⟩)) (wk_trans (Zd (live:=[1,3,4]) (keep:=[0]) gE) (wk_trans (Qbl 3 1 true true gE) (Zd (live:=[1,3,4]) (keep:=[0,1]) kr))) (fun s1=>?_) fun x9=>?_
 ·refine hop 3 (fun _=>Qr (enc:=(AV.int .u8)) (l:=p0.C) (fl:=true) kr gE) <| hbr 2 [9,10] (?_) ?_
  ·refine hbr 3 [12,13] (?_) ?_
   ·refine hbd fun a6 q7=>hop 5 (fun _=>Qe (enc:=(AV.int .u8)) (l:=p0.C) (n:=s1.1) (fl:=true) (w:=1) (a:=a6) kr kr gE q7) <| hop 4 (fun _=>sgL false [] [] true gE) <| hoh 0 (fun _ _ h k=>Yi (enc:=eI) (l:=s1.2) (m:=([zw (1+(zw (Int.tmod a6 4)))]:(List Int))) (w:=1) (bytes:=8) (ob:=1) (nr:=true) (fl:=true) (nr':=true) (fl':=true) (b:=.ref 2 0 1) (rds:=[2]) false kr kr kr kr gE kr h k) <| hnx 4 (wz [0,3])
   refine hdx 1 (wz [1])
  refine hdx 4 (wz [1])
 refine hrt 3
theorem g_ref02_Draft_Permutation_ok (p0:Tharuspexref02_Draft):Ct Try.prog 61 [.agg [eL true (AV.int .u8) p0.C,.int .u16 p0.Which,eL true (AV.int .u8) p0.Order]] (Yx p0) (fun x=>.ref 0 0 x.length) (fun x=>[oR true 1 eI x]):=by
 refine hfn [] Try.func61 <| hop 0 (fun _=>sgL false [] [] false gE) <| hlp 3 (fun s1=>⟨[(1,.ptr 0 0 0),(3,.ref 1 0 s1.2.length),(4,vI s1.1)],[oX true false 3 (.agg [eL true (AV.int .u8) p0.C,.int .u16 p0.Which,eL true (AV.int .u8) p0.Order]),oR true 1 eI s1.2],42⟩) (fun v=>(.exit 0,⟨[(3,.ref 0 0 v.length)],[oR true 1 eI v],42⟩)) (wk_trans (Zd (live:=[1,3,4]) (keep:=[0]) gE) (wk_trans (Qbl 3 1 true true gE) (Zd (live:=[1,3,4]) (keep:=[0,1]) kr))) (fun s1=>?_) fun x15=>?_
 ·refine hcl 2 [] (Qjd p0) fun x2 _=>hbr 2 [11] (?_) ?_
  ·refine hop 5 (fun _=>Qr (enc:=(AV.int .u8)) (l:=p0.Order) (fl:=true) kr gE) <| hbr 1 [18] (?_) ?_
   ·refine hbd fun a8 q9=>hop 4 (fun _=>Qe (enc:=(AV.int .u8)) (l:=p0.Order) (n:=s1.1) (fl:=true) (w:=1) (a:=a8) kr kr gE q9) <| hoh 4 (fun _ _ h k=>Kv (k:=.i64) (a:=zw (a8)) (b:=zw (s1.1+1)) kr gE h k) <| hoq 5 (fun _ _ h k=>Qjr (enc:=eI) (l:=s1.2) (ob:=1) (ro:=false) (nr:=true) (fl:=true) (lo:=none) (hi:=(some (vI (Int.tmod (zw (a8)) (zw (s1.1+1)))))) (a:=0) (b:=Int.tmod (zw (a8)) (zw (s1.1+1))) (w:=1) kr kr kr kr gE h k) fun q10=>hoh 0 (fun _ _ h k=>Qiz (enc:=eI) (m:=(sub s1.2 0 (Int.tmod (zw (a8)) (zw (s1.1+1))))) (w:=1) (bytes:=8) (nr':=true) (fl':=true) (a:=.nils) (b:=.ref 1 0 (zt (Int.tmod (zw (a8)) (zw (s1.1+1))) - zt (0:Int))) (rds:=[1]) false kr (.inl rfl) (Qgt (a:=0) (b:=Int.tmod (zw (a8)) (zw (s1.1+1))) (ro:=false) kr q10) kr gE kr h k) <| hop 1 (fun _=>sgL false [] [] true gE) <| hoh 0 (fun _ _ h k=>Yi (enc:=eI) (l:=(sub s1.2 0 (Int.tmod (zw (a8)) (zw (s1.1+1))))) (m:=([s1.1]:(List Int))) (w:=1) (bytes:=8) (ob:=3) (nr:=true) (fl:=true) (nr':=true) (fl':=true) (b:=.ref 4 0 1) (rds:=[4]) false kr kr kr kr gE kr h k) <| hoq 4 (fun _ _ h k=>Qjr (enc:=eI) (l:=s1.2) (ob:=1) (ro:=false) (nr:=true) (fl:=true) (lo:=(some (vI (Int.tmod (zw (a8)) (zw (s1.1+1)))))) (hi:=none) (a:=Int.tmod (zw (a8)) (zw (s1.1+1))) (b:=(zn s1.2)) (w:=1) kr kr kr kr gE h k) fun q11=>hoh 0 (fun _ _ h k=>Yi (enc:=eI) (l:=((sub s1.2 0 (Int.tmod (zw (a8)) (zw (s1.1+1))))++([s1.1]:(List Int)))) (m:=(sub s1.2 (Int.tmod (zw (a8)) (zw (s1.1+1))) (zn s1.2))) (w:=1) (bytes:=8) (ob:=5) (nr:=true) (fl:=true) (nr':=true) (fl':=true) (b:=.ref 1 (zt (Int.tmod (zw (a8)) (zw (s1.1+1)))) (zt (zn s1.2) - zt (Int.tmod (zw (a8)) (zw (s1.1+1))))) (rds:=[1]) false kr kr (Qgt (a:=Int.tmod (zw (a8)) (zw (s1.1+1))) (b:=(zn s1.2)) (ro:=false) kr q11) kr gE kr h k) <| ?_
    refine hnx 4 (wz [0,6])
   refine hoq 5 (fun _ _ h k=>Qjr (enc:=eI) (l:=s1.2) (ob:=1) (ro:=false) (nr:=true) (fl:=true) (lo:=none) (hi:=(some (vI 0))) (a:=0) (b:=0) (w:=1) kr kr kr kr gE h k) fun q12=>hoh 0 (fun _ _ h k=>Qiz (enc:=eI) (m:=(sub s1.2 0 0)) (w:=1) (bytes:=8) (nr':=true) (fl':=true) (a:=.nils) (b:=.ref 1 0 0) (rds:=[1]) false kr (.inl rfl) (Qgt (a:=0) (b:=0) (ro:=false) kr q12) kr gE kr h k) <| hop 1 (fun _=>sgL false [] [] true gE) <| hoh 0 (fun _ _ h k=>Yi (enc:=eI) (l:=(sub s1.2 0 0)) (m:=([s1.1]:(List Int))) (w:=1) (bytes:=8) (ob:=3) (nr:=true) (fl:=true) (nr':=true) (fl':=true) (b:=.ref 4 0 1) (rds:=[4]) false kr kr kr kr gE kr h k) <| hoq 4 (fun _ _ h k=>Qjr (enc:=eI) (l:=s1.2) (ob:=1) (ro:=false) (nr:=true) (fl:=true) (lo:=(some (vI 0))) (hi:=none) (a:=0) (b:=(zn s1.2)) (w:=1) kr kr kr kr gE h k) fun q13=>hoh 0 (fun _ _ h k=>Yi (enc:=eI) (l:=((sub s1.2 0 0)++([s1.1]:(List Int)))) (m:=(sub s1.2 0 (zn s1.2))) (w:=1) (bytes:=8) (ob:=5) (nr:=true) (fl:=true) (nr':=true) (fl':=true) (b:=.ref 1 0 (zt (zn s1.2) - zt (0:Int))) (rds:=[1]) false kr kr (Qgt (a:=0) (b:=(zn s1.2)) (ro:=false) kr q13) kr gE kr h k) <| hnx 4 (wz [0,6])
  refine hdx 1 (wz [1])
 refine hrt 3
theorem Qbd (p0:(List Int)):Ct Try.prog 62 [z1 p0] (Y8 p0) (fun x=>vI x) (fun x=>[]):=by
 refine hfn [] Try.func62 <| hlp 3 (fun s1=>⟨[(0,z1 p0),(3,vI s1.1),(4,vI s1.2)],[],18⟩) (fun v=>(.exit 0,⟨[(3,vI v)],[],18⟩)) (wz []) (fun s1=>?_) fun x7=>?_
 ·refine hop 2 (fun _=>Qr (enc:=eI) (l:=p0) (fl:=true) kr gE) <| hbr 1 [8] (hbd fun a4 q5=>hop 4 (fun _=>Qe (enc:=eI) (l:=p0) (n:=s1.2) (fl:=true) (w:=1) (a:=a4) kr kr gE q5) <| hnx 6 (wz [])) <| ?_
  refine hdx 1 (wz [])
 refine hrt 3
theorem Qj1 (p0:Int) (p1:Int) (p2:(List Int)) (p3:Int):Ct Try.prog 63 [vI p0,vI p1,eL true (AV.int .u8) p2,vI p3] (Qcx p0 p1 p2 p3) (fun x=>.ref 0 0 x.length) (fun x=>[oR true 1 eI x]):=by
 refine hfn [] Try.func63 <| hoh 2 (fun _ _ h k=>mkL (enc:=eI) (z:=(0:Int)) (z0:=vI 0) (n:=p1) (m:=p1) (w:=1) (bytes:=8) [] true kr kr gE kr h k) <| hlp 3 (fun s1=>⟨[(0,vI p0),(1,vI p1),(2,eL true (AV.int .u8) p2),(3,vI p3),(9,.ref 0 0 s1.2.2.length),(10,vI s1.1),(11,vI s1.2.1)],[oR true 1 eI s1.2.2],84⟩) (fun v=>(.exit 0,⟨[(0,vI p0),(1,vI p1),(9,.ref 0 0 v.2.length),(10,vI v.1)],[oR true 1 eI v.2],84⟩)) (wz [0]) (fun s1=>?_) fun x14=>?_
 ·refine hbr 3 [19] (?_) ?_
  ·refine hop 2 (fun _=>Qr (enc:=(AV.int .u8)) (l:=p2) (fl:=true) kr gE) <| hbr 1 [24] (?_) ?_
   ·refine hop 8 (fun _=>Qr (enc:=(AV.int .u8)) (l:=p2) (fl:=true) kr gE) <| hoh 0 (fun _ _ h k=>Kv (k:=.i64) (a:=zw (p3+s1.2.1)) (b:=(zn p2)) kr gE h k) <| hbd fun a6 q7=>hop 0 (fun _=>Qe (enc:=(AV.int .u8)) (l:=p2) (n:=Int.tmod (zw (p3+s1.2.1)) (zn p2)) (fl:=true) (w:=1) (a:=a6) kr kr gE q7) <| hbd fun a8 q9=>hop 3 (fun _=>Q2 (enc:=eI) (l:=s1.2.2) (n:=s1.2.1) (w:=1) (ob:=0) (ro:=false) (nr:=true) (fl:=true) (a:=a8) kr kr gE q9) <| hop 0 (fun _=>Vi (enc:=eI) (l:=s1.2.2) (n:=s1.2.1) (ob:=0) (w:=1) (bx:=false) (nr:=true) (fl:=true) (c:=0) (a:=a8) (a':=zw (Int.tmod a6 8)) (v:=vI (zw (Int.tmod a6 8))) false kr kr q9 kr kr kr gE kr) <| hkl 0 [9,25] (ls s1.2.2 (zt s1.2.1) (zw (Int.tmod a6 8))) <| hop 3 (fun _=>Q2 (enc:=eI) (l:=(List.set s1.2.2 (zt s1.2.1) (zw (Int.tmod a6 8)))) (n:=s1.2.1) (w:=1) (ob:=0) (ro:=false) (nr:=true) (fl:=true) (a:=(zw (Int.tmod a6 8))) kr kr gE (lkI_set (zw (Int.tmod a6 8)) q9)) <| ?_
    refine hop 0 (fun _=>Zo (enc:=eI) (l:=(List.set s1.2.2 (zt s1.2.1) (zw (Int.tmod a6 8)))) (n:=s1.2.1) (w:=1) (ob:=0) (c:=0) (bx:=false) (ro:=false) (nr:=true) (fl:=true) (a:=(zw (Int.tmod a6 8))) kr kr (lkI_set (zw (Int.tmod a6 8)) q9) gE) <| hnx 5 (wz [0])
   refine hbd fun a11 q12=>hop 4 (fun _=>Q2 (enc:=eI) (l:=s1.2.2) (n:=s1.2.1) (w:=1) (ob:=0) (ro:=false) (nr:=true) (fl:=true) (a:=a11) kr kr gE q12) <| hop 0 (fun _=>Zo (enc:=eI) (l:=s1.2.2) (n:=s1.2.1) (w:=1) (ob:=0) (c:=0) (bx:=false) (ro:=false) (nr:=true) (fl:=true) (a:=a11) kr kr q12 gE) <| hnx 5 (wz [0])
  refine hdx 1 (wz [0])
 refine hlp 4 (fun s15=>⟨[(0,vI p0),(1,vI p1),(9,.ref 0 0 s15.2.2.2.length),(10,vI x14.1),(12,vI s15.1),(13,vI s15.2.1),(14,vI s15.2.2.1)],[oR true 1 eI s15.2.2.2],84⟩) (fun v=>(.exit 2,⟨[(9,.ref 0 0 v.2.2.length),(12,vI v.1),(13,vI v.2.1)],[oR true 1 eI v.2.2],84⟩)) (wz [0]) (fun s15=>?_) fun x24=>?_
 ·refine hbr 3 [48] (?_) ?_
  ·refine hbd fun a18 q19=>hop 3 (fun _=>Q2 (enc:=eI) (l:=s15.2.2.2) (n:=s15.2.2.1) (w:=1) (ob:=0) (ro:=false) (nr:=true) (fl:=true) (a:=a18) kr kr gE q19) <| hop 0 (fun _=>Zo (enc:=eI) (l:=s15.2.2.2) (n:=s15.2.2.1) (w:=1) (ob:=0) (c:=0) (bx:=false) (ro:=false) (nr:=true) (fl:=true) (a:=a18) kr kr q19 gE) <| hbr 1 [55] (?_) ?_
   ·refine hop 6 (fun _=>Q2 (enc:=eI) (l:=s15.2.2.2) (n:=s15.2.2.1) (w:=1) (ob:=0) (ro:=false) (nr:=true) (fl:=true) (a:=a18) kr kr gE q19) <| hop 0 (fun _=>Zo (enc:=eI) (l:=s15.2.2.2) (n:=s15.2.2.1) (w:=1) (ob:=0) (c:=0) (bx:=false) (ro:=false) (nr:=true) (fl:=true) (a:=a18) kr kr q19 gE) <| hoh 2 (fun _ _ h k=>Qr4 (k:=.i64) (a:=zw (p0*a18)) (b:=x14.1) kr gE h k) <| hop 0 (fun _=>Q2 (enc:=eI) (l:=s15.2.2.2) (n:=s15.2.2.1) (w:=1) (ob:=0) (ro:=false) (nr:=true) (fl:=true) (a:=a18) kr kr gE q19) <| hop 0 (fun _=>Vi (enc:=eI) (l:=s15.2.2.2) (n:=s15.2.2.1) (ob:=0) (w:=1) (bx:=false) (nr:=true) (fl:=true) (c:=0) (a:=a18) (a':=zw (Int.tdiv (zw (p0*a18)) x14.1)) (v:=vI (zw (Int.tdiv (zw (p0*a18)) x14.1))) false kr kr q19 kr kr kr gE kr) <| hkl 0 [9,51,56,59] (ls s15.2.2.2 (zt s15.2.2.1) (zw (Int.tdiv (zw (p0*a18)) x14.1))) <| hop 5 (fun _=>Q2 (enc:=eI) (l:=(List.set s15.2.2.2 (zt s15.2.2.1) (zw (Int.tdiv (zw (p0*a18)) x14.1)))) (n:=s15.2.2.1) (w:=1) (ob:=0) (ro:=false) (nr:=true) (fl:=true) (a:=(zw (Int.tdiv (zw (p0*a18)) x14.1))) kr kr gE (lkI_set (zw (Int.tdiv (zw (p0*a18)) x14.1)) q19)) <| hop 0 (fun _=>Zo (enc:=eI) (l:=(List.set s15.2.2.2 (zt s15.2.2.1) (zw (Int.tdiv (zw (p0*a18)) x14.1)))) (n:=s15.2.2.1) (w:=1) (ob:=0) (c:=0) (bx:=false) (ro:=false) (nr:=true) (fl:=true) (a:=(zw (Int.tdiv (zw (p0*a18)) x14.1))) kr kr (lkI_set (zw (Int.tdiv (zw (p0*a18)) x14.1)) q19) gE) <| hnx 5 (wz [0])
   refine hop 4 (fun _=>Q2 (enc:=eI) (l:=s15.2.2.2) (n:=s15.2.2.1) (w:=1) (ob:=0) (ro:=false) (nr:=true) (fl:=true) (a:=a18) kr kr gE q19) <| hop 0 (fun _=>Zo (enc:=eI) (l:=s15.2.2.2) (n:=s15.2.2.1) (w:=1) (ob:=0) (c:=0) (bx:=false) (ro:=false) (nr:=true) (fl:=true) (a:=a18) kr kr q19 gE) <| hnx 5 (wz [0])
  refine hdx 1 (wz [0])
 refine hbd fun a25 q26=>hop 4 (fun _=>Q2 (enc:=eI) (l:=x24.2.2) (n:=x24.2.1) (w:=1) (ob:=0) (ro:=false) (nr:=true) (fl:=true) (a:=a25) kr kr gE q26) <| hop 0 (fun _=>Zo (enc:=eI) (l:=x24.2.2) (n:=x24.2.1) (w:=1) (ob:=0) (c:=0) (bx:=false) (ro:=false) (nr:=true) (fl:=true) (a:=a25) kr kr q26 gE) <| hop 2 (fun _=>Q2 (enc:=eI) (l:=x24.2.2) (n:=x24.2.1) (w:=1) (ob:=0) (ro:=false) (nr:=true) (fl:=true) (a:=a25) kr kr gE q26) <| hop 0 (fun _=>Vi (enc:=eI) (l:=x24.2.2) (n:=x24.2.1) (ob:=0) (w:=1) (bx:=false) (nr:=true) (fl:=true) (c:=0) (a:=a25) (a':=zw (a25+x24.1)) (v:=vI (zw (a25+x24.1))) false kr kr q26 kr kr kr gE kr) <| hkl 0 [9,74,76] (ls x24.2.2 (zt x24.2.1) (zw (a25+x24.1))) <| hrt 3
end
end Go.Ab
