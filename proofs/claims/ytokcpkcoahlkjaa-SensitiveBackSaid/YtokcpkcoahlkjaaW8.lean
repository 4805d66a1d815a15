/- What functions compute. No conditions. -/
import Derived.Test.YtokcpkcoahlkjaaProg
import Derived.Tactics
import Derived.Tactics2
import Derived.Defers
import Derived.Recover
import Derived.Laws.Pointers
import Derived.Test.YtokcpkcoahlkjaaEng7
import Derived.KernelRfl
set_option linter.all false
namespace Go.Ab
open Go Go.Proofs
set_option maxRecDepth 100000
set_option maxHeartbeats 1000000
theorem catch_101 (p q:Addr) (w:World):CallsD Try.prog 101 #[.pointer (some p),.pointer (some q)] .returning w fun e u' w'=>e=.returned (.tuple #[])∧u'=.returning∧w'=w:=by
 refine callsD_of_wpS Try.func101 rfl fun c₀ cs hu=>?_
 apply wpS_seq
 apply wpS_region
 simp [wpOpsS,go_sem,recoverD,hu,Try.ntmps101,Exit.thenS]
 refine wpS_cond (t:=false) (by simp [Act.eval,Act.put,Array.replicate]) ?_
 simp only [Bool.false_eq_true,if_false]
 refine wpS_of_wp (_root_.Go.wp_skip ?_)
 cases c₀
 simp_all [bodyPostS,results,Try.results101,Act.put]
theorem guard_82:GuardQ Try.prog 82 39 50:=by
 intro g gfn caps w x y R hf hb hn h
 have hmf:∀(fn:Fn) (first cap:Array Value) (w:World),(Instr.makeFunc fn first cap).run Try.prog w=.ok (.func fn first cap) w:=fun _ _ _ _=>rfl
 go_enter_defers Try.func82,Try.ntmps82
 go_wp2
 rw [run_callFunc' hf hb hn,Oper.upon_enter]
 refine h.mono ?_
 rintro e w' ⟨rfl,c1,c2,c3,f1,f2,f3,hR⟩
 go_wp2
 refine leaves_cons (f:=101) (args:=#[.pointer (some ⟨w.heap.size,0,none⟩),.pointer (some ⟨w.heap.size+1,0,none⟩)]) (by simp) (by simp [go_sem]) ?_
 refine (catch_101 _ _ _).mono ?_
 rintro e u' w'' ⟨rfl,rfl,rfl⟩
 have d1:=World.cell?_setCell_same w' ⟨w.heap.size,0,none⟩ (.int .i64 x) c1
 simp [Leaves,settle,results,Try.results82,go_sem,d1,c1,c2,c3]
 exact hR
theorem catch_120 (p q:Addr) (w:World):CallsD Try.prog 120 #[.pointer (some p),.pointer (some q)] .returning w fun e u' w'=>e=.returned (.tuple #[])∧u'=.returning∧w'=w:=by
 refine callsD_of_wpS Try.func120 rfl fun c₀ cs hu=>?_
 apply wpS_seq
 apply wpS_region
 simp [wpOpsS,go_sem,recoverD,hu,Try.ntmps120,Exit.thenS]
 refine wpS_cond (t:=false) (by simp [Act.eval,Act.put,Array.replicate]) ?_
 simp only [Bool.false_eq_true,if_false]
 refine wpS_of_wp (_root_.Go.wp_skip ?_)
 cases c₀
 simp_all [bodyPostS,results,Try.results120,Act.put]
theorem guard_113:GuardI Try.prog 113 3 50:=by
 intro g gfn caps w x R hf hb hn h
 have hmf:∀(fn:Fn) (first cap:Array Value) (w:World),(Instr.makeFunc fn first cap).run Try.prog w=.ok (.func fn first cap) w:=fun _ _ _ _=>rfl
 go_enter_defers Try.func113,Try.ntmps113
 go_wp2
 rw [run_callFunc' hf hb hn,Oper.upon_enter]
 refine h.mono ?_
 rintro e w' ⟨rfl,c1,c3,f1,f3,hR⟩
 go_wp2
 refine leaves_cons (f:=120) (args:=#[.pointer (some ⟨w.heap.size,0,none⟩),.pointer (some ⟨w.heap.size+1,0,none⟩)]) (by simp) (by simp [go_sem]) ?_
 refine (catch_120 _ _ _).mono ?_
 rintro e u' w'' ⟨rfl,rfl,rfl⟩
 have d1:=World.cell?_setCell_same w' ⟨w.heap.size,0,none⟩ (.int .i64 x) c1
 simp [Leaves,settle,results,Try.results113,go_sem,d1,c1,c3]
 exact hR
end Go.Ab
namespace Go.Ab
open Go
structure Tapi_Node where
 Card:Int
 Parents:(List Int)
 Rows:(List (List Int))
 deriving DecidableEq,Inhabited
@[reducible] def eTapi_Node (x:Tapi_Node):AV:=.agg [vI x.Card,eL true eI x.Parents,eL false (eL true eI) x.Rows]
@[reducible] def eoTapi_Node (x:Int ⊕ Tapi_Node):AV:=match x with | .inl c=>.agg [vI c,.nils,.nils] | .inr y=>eTapi_Node y
def coTapi_Node (x:Int ⊕ Tapi_Node):Tapi_Node:=match x with | .inl c=>⟨c,[],[]⟩ | .inr y=>y
structure Tapi_Net where
 Grain:Int
 Nodes:(List Tapi_Node)
 deriving DecidableEq,Inhabited
structure Tnet_network where
 Net:Tapi_Net
 cards:(List Int)
 sets:(List Int)
 order:(List Int)
 deriving DecidableEq,Inhabited
structure Tapi_Shift where
 Node:Int
 Row:Int
 From:Int
 To:Int
 deriving DecidableEq,Inhabited
@[reducible] def eTapi_Shift (x:Tapi_Shift):AV:=.agg [vI x.Node,vI x.Row,vI x.From,vI x.To]
structure Tapi_Q where
 N:Int
 D:Int
 deriving DecidableEq,Inhabited
structure Tharuspexref02_Draft where
 C:(List Int)
 Which:Int
 Order:(List Int)
 deriving DecidableEq,Inhabited
structure Tharuspexref05_Piece where
 Card:Int
 Parents:Int
 W:(List Int)
 deriving DecidableEq,Inhabited
@[reducible] def eTharuspexref05_Piece (x:Tharuspexref05_Piece):AV:=.agg [.int .u8 x.Card,.int .u8 x.Parents,eL true (AV.int .u8) x.W]
structure Tharuspexref05_Draft where
 Grain:Int
 Nodes:(List Tharuspexref05_Piece)
 Order:(List Int)
 deriving DecidableEq,Inhabited
@[reducible] def eTharuspexref05_Draft (x:Tharuspexref05_Draft):AV:=.agg [.int .u8 x.Grain,eL false eTharuspexref05_Piece x.Nodes,eL true (AV.int .u8) x.Order]
structure Tharuspexref05_Known where
 Which:Int
 V:(Int × Int × Int × Int × Int × Int × Int × Int)
 deriving Inhabited
@[reducible] def eTharuspexref05_Known (x:Tharuspexref05_Known):AV:=.agg [.int .u8 x.Which,.int .u8 x.V.1,.int .u8 x.V.2.1,.int .u8 x.V.2.2.1,.int .u8 x.V.2.2.2.1,.int .u8 x.V.2.2.2.2.1,.int .u8 x.V.2.2.2.2.2.1,.int .u8 x.V.2.2.2.2.2.2.1,.int .u8 x.V.2.2.2.2.2.2.2]
structure Tharuspexref24_Draft where
 V:Int
 Value:Int
 Node:Int
 Row:Int
 From:Int
 To:Int
 deriving DecidableEq,Inhabited
@[reducible] def eTharuspexref24_Draft (x:Tharuspexref24_Draft):AV:=.agg [.int .u8 x.V,.int .u8 x.Value,.int .u8 x.Node,.int .u8 x.Row,.int .u8 x.From,.int .u8 x.To]
structure Tharuspexref05_Bend where
 What : Int
 At:Int
 Row:Int
 N:Int
 deriving DecidableEq,Inhabited
@[reducible] def eTharuspexref05_Bend (x:Tharuspexref05_Bend):AV:=.agg [.int .u8 x.What,.int .u8 x.At,.int .u8 x.Row,vI x.N]
structure Tharuspexlaw24_Story where
 N:Tharuspexref05_Draft
 C:Tharuspexref05_Bend
 K:Tharuspexref05_Known
 D:Tharuspexref24_Draft
 Raw:(List Int)
 V:Int
 Value:Int
 S:Tapi_Shift
 deriving Inhabited
@[reducible] def eTharuspexlaw24_Story (x:Tharuspexlaw24_Story):AV:=.agg [.int .u8 x.N.Grain,eL false eTharuspexref05_Piece x.N.Nodes,eL true (AV.int .u8) x.N.Order,.int .u8 x.C.What,.int .u8 x.C.At,.int .u8 x.C.Row,vI x.C.N,.int .u8 x.K.Which,.int .u8 x.K.V.1,.int .u8 x.K.V.2.1,.int .u8 x.K.V.2.2.1,.int .u8 x.K.V.2.2.2.1,.int .u8 x.K.V.2.2.2.2.1,.int .u8 x.K.V.2.2.2.2.2.1,.int .u8 x.K.V.2.2.2.2.2.2.1,.int .u8 x.K.V.2.2.2.2.2.2.2,.int .u8 x.D.V,.int .u8 x.D.Value,.int .u8 x.D.Node,.int .u8 x.D.Row,.int .u8 x.D.From,.int .u8 x.D.To,eL true eI x.Raw,vI x.V,vI x.Value,vI x.S.Node,vI x.S.Row,vI x.S.From,vI x.S.To]
def g_net_network_filled_b0 (p1:Tapi_Node) (p0:Tnet_network) (s1:(Int × Int)):Option (Step (Int × Int) Int) :=
 if (decide (s1.2 < (p1.Parents.length:Int)))=true then
  (lkI p1.Parents s1.2).bind fun a4 =>
  (lkI p0.cards a4).bind fun a6 =>
  some (.next (IntKind.i64.wrap (s1.1*a6),IntKind.i64.wrap (s1.2+1)))
 else
 some (.done s1.1)
def g_net_network_filled_b1 (a15:(List Int)) (s17:(Int × Int)):Option (Step (Int × Int) (Unit ⊕ Int)) :=
 if (decide (s17.2 < (a15.length:Int)))=true then
  (lkI a15 s17.2).bind fun a20 =>
  if (decide (a20 < 0))=true then
   some (.done (Sum.inl ()))
  else
  if (decide (a20 > s17.1))=true then
   some (.done (Sum.inl ()))
  else
  some (.next (IntKind.i64.wrap (s17.1 - a20),IntKind.i64.wrap (s17.2+1)))
 else
 some (.done (Sum.inr s17.1))
def g_net_network_filled_b2 (p1:Tapi_Node) (p0:Tnet_network) (s12:Int):Option (Step Int (Unit ⊕ Unit)) :=
 if (decide (s12 < (p1.Rows.length:Int)))=true then
  (lkI p1.Rows s12).bind fun a15 =>
  (whileN fuel (g_net_network_filled_b1 a15) (p0.Net.Grain,0)).bind fun x26=>match x26 with
  | .inl x27=>(
   some (.done (Sum.inl ())))
  | .inr x28=>(
   if ((a15.length:Int) != p1.Card)=true then
    some (.done (Sum.inl ()))
   else
   if (x28 != 0)=true then
    some (.done (Sum.inl ()))
   else
   some (.next (IntKind.i64.wrap (s12+1))))
 else
 some (.done (Sum.inr ()))
def g_net_network_filled (p0:Tnet_network) (p1:Tapi_Node):Option Bool :=
 (whileN fuel (g_net_network_filled_b0 p1 p0) (1,0)).bind fun x9 =>
 if ((p1.Rows.length:Int) != x9)=true then
  some false
 else
 (whileN fuel (g_net_network_filled_b2 p1 p0) 0).bind fun x33=>match x33 with
 | .inl x34=>(
  some false)
 | .inr x35=>(
  some true)
def g_net_sorted_b0 (p0:(List Int)) (s1:(Int × (List Int))) (s4:Int):Option (Step Int ((Int × (List Int)) ⊕ Unit)) :=
 if (decide (s4 < (p0.length:Int)))=true then
  (lkI p0 s4).bind fun a7 =>
  if 0≤s4 then
   if ((IntKind.u64.wrap (BitVec.ofInt (IntKind.bits .u64) (Int.fdiv s1.1 (2^min (Int.toNat s4) (IntKind.bits .u64))) &&& BitVec.ofInt (IntKind.bits .u64) 1).toNat)==0)=true then
    if ((IntKind.u64.wrap (BitVec.ofInt (IntKind.bits .u64) a7 &&& ~~~ BitVec.ofInt (IntKind.bits .u64) s1.1).toNat)==0)=true then
     if (s1.2++([s4]:(List Int))).length*8≤140737488355328 then
      if 0≤s4 then
       some (.done (Sum.inl (IntKind.u64.wrap (BitVec.ofInt (IntKind.bits .u64) s1.1 ||| BitVec.ofInt (IntKind.bits .u64) (IntKind.u64.wrap (1*2^min (Int.toNat s4) (IntKind.bits .u64)))).toNat,(s1.2++([s4]:(List Int))))))
      else none
     else none
    else
    some (.next (IntKind.i64.wrap (s4+1)))
   else
   some (.next (IntKind.i64.wrap (s4+1)))
  else none
 else
 some (.done (Sum.inr ()))
def g_net_sorted_b1 (p0:(List Int)) (s1:(Int × (List Int))):Option (Step (Int × (List Int)) (Unit ⊕ (List Int))) :=
 if (decide ((s1.2.length:Int) < (p0.length:Int)))=true then
  (whileN fuel (g_net_sorted_b0 p0 s1) 0).bind fun x13=>match x13 with
  | .inl x14=>(
   some (.next (x14.1,x14.2)))
  | .inr x15=>(
   some (.done (Sum.inl ())))
 else
 some (.done (Sum.inr s1.2))
def g_net_sorted (p0:(List Int)):Option ((List Int) × Bool) :=
 if 0≤(0:Int)∧(0:Int)≤(p0.length:Int)∧(p0.length:Int)*8≤140737488355328 then
  (whileN fuel (g_net_sorted_b1 p0) (0,(List.replicate (Int.toNat 0) (0:Int)))).bind fun x16=>match x16 with
  | .inl x17=>(
   some (([]:(List Int)),false))
  | .inr x18=>(
   some (x18,true))
 else none
def g_net_read_b0 (p0:Tapi_Net) (s9:(Int × Int × (List Int))):Option (Step (Int × Int × (List Int)) (Unit ⊕ (Int × (List Int)))) :=
 if (decide (s9.2.1 < (p0.Nodes.length:Int)))=true then
  (lkI p0.Nodes s9.2.1).bind fun a12 =>
  if (decide (a12.Card < 1))=true then
   some (.done (Sum.inl ()))
  else
  if (decide (a12.Card > 4))=true then
   some (.done (Sum.inl ()))
  else
  (lkI s9.2.2 s9.2.1).bind fun a18 =>
  some (.next (IntKind.i64.wrap (s9.1*a12.Card),IntKind.i64.wrap (s9.2.1+1),(List.set s9.2.2 (Int.toNat s9.2.1) a12.Card)))
 else
 some (.done (Sum.inr (s9.1,s9.2.2)))
def g_net_read_b1 (a29:Tapi_Node) (p0:Tapi_Net) (s26:(Int × (List Int))) (s31:(Int × Int × (List Int))):Option (Step (Int × Int × (List Int)) (Unit ⊕ (List Int))) :=
 if (decide (s31.2.1 < (a29.Parents.length:Int)))=true then
  (lkI a29.Parents s31.2.1).bind fun a34 =>
  if (decide (a34≤s31.1))=true then
   some (.done (Sum.inl ()))
  else
  if (decide (a34≥(p0.Nodes.length:Int)))=true then
   some (.done (Sum.inl ()))
  else
  if (a34==s26.1)=true then
   some (.done (Sum.inl ()))
  else
  (lkI s31.2.2 s26.1).bind fun a42 =>
  if 0≤a34 then
   some (.next (a34,IntKind.i64.wrap (s31.2.1+1),(List.set s31.2.2 (Int.toNat s26.1) (IntKind.u64.wrap (BitVec.ofInt (IntKind.bits .u64) a42 ||| BitVec.ofInt (IntKind.bits .u64) (IntKind.u64.wrap (1*2^min (Int.toNat a34) (IntKind.bits .u64)))).toNat))))
  else none
 else
 some (.done (Sum.inr s31.2.2))
def g_net_read_b2 (p0:Tapi_Net) (x23:(Int × (List Int))) (s26:(Int × (List Int))):Option (Step (Int × (List Int)) (Unit ⊕ (List Int))) :=
 if (decide (s26.1 < (p0.Nodes.length:Int)))=true then
  (lkI p0.Nodes s26.1).bind fun a29 =>
  (whileN fuel (g_net_read_b1 a29 p0 s26) (-1,0,s26.2)).bind fun x45=>match x45 with
  | .inl x46=>(
   some (.done (Sum.inl ())))
  | .inr x47=>(
   (g_net_network_filled (Tnet_network.mk p0 x23.2 x47 []) a29).bind fun x48 =>
   if (!x48)=true then
    some (.done (Sum.inl ()))
   else
   some (.next (IntKind.i64.wrap (s26.1+1),x47)))
 else
 some (.done (Sum.inr s26.2))
def g_net_read (p0:Tapi_Net):Option (Tnet_network × Int) :=
 if (decide (p0.Grain < 1))=true then
  some ((Tnet_network.mk (Tapi_Net.mk 0 []) [] [] []),50)
 else
 if (decide (p0.Grain > 60))=true then
  some ((Tnet_network.mk (Tapi_Net.mk 0 []) [] [] []),50)
 else
 if (decide ((p0.Nodes.length:Int) < 1))=true then
  some ((Tnet_network.mk (Tapi_Net.mk 0 []) [] [] []),50)
 else
 if (decide ((p0.Nodes.length:Int) > 8))=true then
  some ((Tnet_network.mk (Tapi_Net.mk 0 []) [] [] []),50)
 else
 if 0≤(p0.Nodes.length:Int)∧(p0.Nodes.length:Int)≤(p0.Nodes.length:Int)∧(p0.Nodes.length:Int)*8≤140737488355328 then
  if 0≤(p0.Nodes.length:Int)∧(p0.Nodes.length:Int)≤(p0.Nodes.length:Int)∧(p0.Nodes.length:Int)*8≤140737488355328 then
   (whileN fuel (g_net_read_b0 p0) (1,0,(List.replicate (Int.toNat (p0.Nodes.length:Int)) (0:Int)))).bind fun x21=>match x21 with
   | .inl x22=>(
    some ((Tnet_network.mk (Tapi_Net.mk 0 []) [] [] []),50))
   | .inr x23=>(
    if (decide (x23.1 > 1024))=true then
     some ((Tnet_network.mk (Tapi_Net.mk 0 []) [] [] []),50)
    else
    (whileN fuel (g_net_read_b2 p0 x23) (0,(List.replicate (Int.toNat (p0.Nodes.length:Int)) (0:Int)))).bind fun x52=>match x52 with
    | .inl x53=>(
     some ((Tnet_network.mk (Tapi_Net.mk 0 []) [] [] []),50))
    | .inr x54=>(
     (g_net_sorted x54).bind fun x55 =>
     if (!x55.2)=true then
      some ((Tnet_network.mk (Tapi_Net.mk 0 []) [] [] []),50)
     else
     some ((Tnet_network.mk p0 x23.2 x54 x55.1),0)))
  else none
 else none
def g_net_Check (p0:Tapi_Net):Option Int :=
 (g_net_read p0).bind fun x1 =>
 some x1.2
def g_net_CheckEvidence_b0 (p1:(List Int)) (x1:(Tnet_network × Int)) (s7:Int):Option (Step Int (Unit ⊕ Unit)) :=
 if (decide (s7 < (p1.length:Int)))=true then
  (lkI p1 s7).bind fun a10 =>
  if (decide (a10 < (-1)))=true then
   some (.done (Sum.inl ()))
  else
  (lkI x1.1.cards s7).bind fun a14 =>
  if (decide (a10≥a14))=true then
   some (.done (Sum.inl ()))
  else
  some (.next (IntKind.i64.wrap (s7+1)))
 else
 some (.done (Sum.inr ()))
def g_net_CheckEvidence (p0:Tapi_Net) (p1:(List Int)):Option Int :=
 (g_net_read p0).bind fun x1 =>
 if (x1.2 != 0)=true then
  some x1.2
 else
 if ((p1.length:Int) != (x1.1.Net.Nodes.length:Int))=true then
  some 2
 else
 (whileN fuel (g_net_CheckEvidence_b0 p1 x1) 0).bind fun x18=>match x18 with
 | .inl x19=>(
  some 2)
 | .inr x20=>(
  some 0)
def g_sensitive_check_b0 (p4:(List Int)) (p0:Tapi_Net) (p2:Int) (s13:Int):Option (Step Int (Unit ⊕ Unit)) :=
 if (decide (s13 < (p4.length:Int)))=true then
  (lkI p4 s13).bind fun a16 =>
  if (decide (a16 < 0))=true then
   some (.done (Sum.inl ()))
  else
  (lkI p0.Nodes p2).bind fun a20 =>
  if (decide (a16≥a20.Card))=true then
   some (.done (Sum.inl ()))
  else
  some (.next (IntKind.i64.wrap (s13+1)))
 else
 some (.done (Sum.inr ()))
def g_sensitive_check (p0:Tapi_Net) (p1:(List Int)) (p2:Int) (p3:Tapi_Shift) (p4:(List Int)):Option Int :=
 (g_net_Check p0).bind fun x1 =>
 if (x1 != 0)=true then
  some x1
 else
 (g_net_CheckEvidence p0 p1).bind fun x5 =>
 if (x5 != 0)=true then
  some x5
 else
 if (decide (p2 < 0))=true then
  some 2
 else
 if (decide (p2≥(p0.Nodes.length:Int)))=true then
  some 2
 else
 (whileN fuel (g_sensitive_check_b0 p4 p0 p2) 0).bind fun x24=>match x24 with
 | .inl x25=>(
  some 2)
 | .inr x26=>(
  if (decide (p3.Node < 0))=true then
   some 2
  else
  if (decide (p3.Node≥(p0.Nodes.length:Int)))=true then
   some 2
  else
  (lkI p0.Nodes p3.Node).bind fun a31 =>
  if (decide (p3.Row < 0))=true then
   some 2
  else
  if (decide (p3.Row≥(a31.Rows.length:Int)))=true then
   some 2
  else
  if (decide (p3.From < 0))=true then
   some 2
  else
  if (decide (p3.From≥a31.Card))=true then
   some 2
  else
  if (decide (p3.To < 0))=true then
   some 2
  else
  if (decide (p3.To≥a31.Card))=true then
   some 2
  else
  if (p3.From==p3.To)=true then
   some 2
  else
  some 0)
def g_sensitive_weigh_b0 (a4:Tapi_Node) (p0:Tapi_Net) (p1:(List Int)) (s6:(Int × Int)):Option (Step (Int × Int) Int) :=
 if (decide (s6.2 < (a4.Parents.length:Int)))=true then
  (lkI a4.Parents s6.2).bind fun a9 =>
  (lkI p0.Nodes a9).bind fun a11 =>
  (lkI p1 a9).bind fun a13 =>
  some (.next (IntKind.i64.wrap ((IntKind.i64.wrap (s6.1*a11.Card))+a13),IntKind.i64.wrap (s6.2+1)))
 else
 some (.done s6.1)
def g_sensitive_weigh_b1 (p0:Tapi_Net) (p1:(List Int)) (p2:Tapi_Shift) (s1:(Int × Int × Int × Int)):Option (Step (Int × Int × Int × Int) (Int × Int × Int)) :=
 if (decide (s1.2.2.2 < (p0.Nodes.length:Int)))=true then
  (lkI p0.Nodes s1.2.2.2).bind fun a4 =>
  (whileN fuel (g_sensitive_weigh_b0 a4 p0 p1) (0,0)).bind fun x16 =>
  (lkI a4.Rows x16).bind fun a17 =>
  (lkI p1 s1.2.2.2).bind fun a19 =>
  (lkI a17 a19).bind fun a21 =>
  if (!((s1.2.2.2==p2.Node) && ((x16==p2.Row) && true)))=true then
   some (.next (IntKind.i64.wrap (s1.1*a21),s1.2.1,s1.2.2.1,IntKind.i64.wrap (s1.2.2.2+1)))
  else
  if (a19==p2.From)=true then
   some (.next (s1.1,a21,-1,IntKind.i64.wrap (s1.2.2.2+1)))
  else
  if (a19==p2.To)=true then
   some (.next (s1.1,a21,1,IntKind.i64.wrap (s1.2.2.2+1)))
  else
  some (.next (s1.1,a21,s1.2.2.1,IntKind.i64.wrap (s1.2.2.2+1)))
 else
 some (.done (s1.1,s1.2.1,s1.2.2.1))
def g_sensitive_weigh (p0:Tapi_Net) (p1:(List Int)) (p2:Tapi_Shift):Option (Int × Int) :=
 (whileN fuel (g_sensitive_weigh_b1 p0 p1 p2) (1,1,0,0)).bind fun x30 =>
 some (IntKind.i64.wrap (x30.1*x30.2.1),IntKind.i64.wrap (x30.1*x30.2.2))
def g_sensitive_lines_b0 (a16:Tapi_Node) (p1:(List Int)) (s3:(Int × (List (Int × Int × Int × Int)) × Int × Int × (List Int))) (r4:((Int × (List (Int × Int × Int × Int)) × Int × Int × (List Int))→Option ((List (Int × Int × Int × Int)) × Int × Int × (List Int)))) (s18:(Int × (List (Int × Int × Int × Int)) × Int × Int × (List Int))):Option (Step (Int × (List (Int × Int × Int × Int)) × Int × Int × (List Int)) ((List (Int × Int × Int × Int)) × Int × Int × (List Int))) :=
 if (decide (s18.1 < a16.Card))=true then
  (lkI p1 s3.1).bind fun a21 =>
  if (a21==(-1))=true then
   (lkI s18.2.2.2.2 s3.1).bind fun a25 =>
   (r4 (IntKind.i64.wrap (s3.1+1),s18.2.1,s18.2.2.1,s18.2.2.2.1,(List.set s18.2.2.2.2 (Int.toNat s3.1) s18.1))).bind fun x27 =>
   some (.next (IntKind.i64.wrap (s18.1+1),x27.1,x27.2.1,x27.2.2.1,x27.2.2.2))
  else
  if (a21==s18.1)=true then
   (lkI s18.2.2.2.2 s3.1).bind fun a31 =>
   (r4 (IntKind.i64.wrap (s3.1+1),s18.2.1,s18.2.2.1,s18.2.2.2.1,(List.set s18.2.2.2.2 (Int.toNat s3.1) s18.1))).bind fun x33 =>
   some (.next (IntKind.i64.wrap (s18.1+1),x33.1,x33.2.1,x33.2.2.1,x33.2.2.2))
  else
  some (.next (IntKind.i64.wrap (s18.1+1),s18.2.1,s18.2.2.1,s18.2.2.2.1,s18.2.2.2.2))
 else
 some (.done (s18.2.1,s18.2.2.1,s18.2.2.2.1,s18.2.2.2.2))
def g_sensitive_lines_r1 (p0:Tapi_Net) (p3:Tapi_Shift) (p2:Int) (p1:(List Int)) (r4:((Int × (List (Int × Int × Int × Int)) × Int × Int × (List Int))→Option ((List (Int × Int × Int × Int)) × Int × Int × (List Int)))) (s3:(Int × (List (Int × Int × Int × Int)) × Int × Int × (List Int))):Option ((List (Int × Int × Int × Int)) × Int × Int × (List Int)) :=
 if (s3.1==(s3.2.2.2.2.length:Int))=true then
  (g_sensitive_weigh p0 s3.2.2.2.2 p3).bind fun x8 =>
  (lkI s3.2.2.2.2 p2).bind fun a10 =>
  (lkI s3.2.1 a10).bind fun a12 =>
  some ((List.set (List.set s3.2.1 (Int.toNat a10) (IntKind.i64.wrap (a12.1+x8.1),a12.2.1,a12.2.2.1,a12.2.2.2)) (Int.toNat a10) ((IntKind.i64.wrap (a12.1+x8.1),a12.2.1,a12.2.2.1,a12.2.2.2).1,IntKind.i64.wrap (((IntKind.i64.wrap (a12.1+x8.1),a12.2.1,a12.2.2.1,a12.2.2.2).2.1)+x8.2),(IntKind.i64.wrap (a12.1+x8.1),a12.2.1,a12.2.2.1,a12.2.2.2).2.2.1,(IntKind.i64.wrap (a12.1+x8.1),a12.2.1,a12.2.2.1,a12.2.2.2).2.2.2)),IntKind.i64.wrap (s3.2.2.1+x8.1),IntKind.i64.wrap (s3.2.2.2.1+x8.2),s3.2.2.2.2)
 else
 (lkI p0.Nodes s3.1).bind fun a16 =>
 (whileN fuel (g_sensitive_lines_b0 a16 p1 s3 r4) (0,s3.2.1,s3.2.2.1,s3.2.2.2.1,s3.2.2.2.2)).bind fun x36 =>
 some (x36.1,x36.2.1,x36.2.2.1,x36.2.2.2)
def g_sensitive_lines_b2 (x37:((List (Int × Int × Int × Int)) × Int × Int × (List Int))) (s39:(Int × (List (Int × Int × Int × Int)))):Option (Step (Int × (List (Int × Int × Int × Int))) (List (Int × Int × Int × Int))) :=
 if (decide (s39.1 < (x37.1.length:Int)))=true then
  (lkI s39.2 s39.1).bind fun a42 =>
  some (.next (IntKind.i64.wrap (s39.1+1),(List.set (List.set s39.2 (Int.toNat s39.1) (a42.1,a42.2.1,x37.2.1,a42.2.2.2)) (Int.toNat s39.1) ((a42.1,a42.2.1,x37.2.1,a42.2.2.2).1,(a42.1,a42.2.1,x37.2.1,a42.2.2.2).2.1,(a42.1,a42.2.1,x37.2.1,a42.2.2.2).2.2.1,x37.2.2.1))))
 else
 some (.done s39.2)
def g_sensitive_lines (p0:Tapi_Net) (p1:(List Int)) (p2:Int) (p3:Tapi_Shift):Option (List (Int × Int × Int × Int)) :=
 (lkI p0.Nodes p2).bind fun a1 =>
 if 0≤a1.Card∧a1.Card≤a1.Card∧a1.Card*32≤140737488355328 then
  if 0≤(p0.Nodes.length:Int)∧(p0.Nodes.length:Int)≤(p0.Nodes.length:Int)∧(p0.Nodes.length:Int)*8≤140737488355328 then
   (recN (g_sensitive_lines_r1 p0 p3 p2 p1) fuel (0,(List.replicate (Int.toNat a1.Card) ((0,0,0,0):(Int × Int × Int × Int))),0,0,(List.replicate (Int.toNat (p0.Nodes.length:Int)) (0:Int)))).bind fun x37 =>
   (whileN fuel (g_sensitive_lines_b2 x37) (0,x37.1)).bind fun x47 =>
   some x47
  else none
 else none
def g_sensitive_Line (p0:Tapi_Net) (p1:(List Int)) (p2:Int) (p3:Int) (p4:Tapi_Shift):Option ((Int × Int × Int × Int) × Int) :=
 (g_sensitive_check p0 p1 p2 p4 [p3]).bind fun x1 =>
 if (x1 != 0)=true then
  some ((0,0,0,0),x1)
 else
 (g_sensitive_lines p0 p1 p2 p4).bind fun x5 =>
 (lkI x5 p3).bind fun a7 =>
 some ((a7.1,a7.2.1,a7.2.2.1,a7.2.2.2),0)
def g_frac_common_b0  (s1:(Int × Int)):Option (Step (Int × Int) Int) :=
 if (s1.2 != 0)=true then
  if s1.2≠0 then
   some (.next (s1.2,Int.tmod s1.1 s1.2))
  else none
 else
 some (.done s1.1)
def g_frac_common (p0:Int) (p1:Int):Option Int :=
 (whileN fuel (g_frac_common_b0) (p0,p1)).bind fun x5 =>
 some x5
def g_frac_size (p0:Int):Option Int :=
 if (decide (p0 < 0))=true then
  some (IntKind.u64.wrap (0 - (IntKind.u64.wrap (p0))))
 else
 some (IntKind.u64.wrap (p0))
def g_frac_Check (p0:Tapi_Q):Option Int :=
 if (decide (p0.D < 1))=true then
  some 5
 else
 if (decide (p0.D > 4611686018427387903))=true then
  some 5
 else
 if (decide (p0.N < (-4611686018427387903)))=true then
  some 5
 else
 if (decide (p0.N > 4611686018427387903))=true then
  some 5
 else
 (g_frac_size p0.N).bind fun x9 =>
 (g_frac_common x9 (IntKind.u64.wrap (p0.D))).bind fun x11 =>
 if (x11 != 1)=true then
  some 5
 else
 some 0
def g_sensitive_checkSmall (p0:Tapi_Q):Option Int :=
 (g_frac_Check p0).bind fun x1 =>
 if (x1 != 0)=true then
  some x1
 else
 if (decide (p0.N < (-1000)))=true then
  some 2
 else
 if (decide (p0.N > 1000))=true then
  some 2
 else
 if (decide (p0.D > 1000))=true then
  some 2
 else
 some 0
def g_sensitive_ends (p0:Tapi_Net) (p1:Tapi_Shift):Option (Int × Int) :=
 (lkI p0.Nodes p1.Node).bind fun a1 =>
 (lkI a1.Rows p1.Row).bind fun a3 =>
 (lkI a3 p1.To).bind fun a5 =>
 (lkI a3 p1.From).bind fun a7 =>
 some (IntKind.i64.wrap (0 - a5),a7)
def g_frac_fit (p0:Bool) (p1:(Int × Int)) (p2:(Int × Int)):Option Tapi_Q :=
 if (p1.1 != 0)=true then
  none
 else
 if (decide (p1.2 > 4611686018427387903))=true then
  none
 else
 if (p2.1 != 0)=true then
  none
 else
 if (decide (p2.2 > 4611686018427387903))=true then
  none
 else
 if p0=true then
  some (Tapi_Q.mk (IntKind.i64.wrap (0 - (IntKind.i64.wrap (p1.2)))) (IntKind.i64.wrap (p2.2)))
 else
 some (Tapi_Q.mk (IntKind.i64.wrap (p1.2)) (IntKind.i64.wrap (p2.2)))
def g_frac_Make_1_k0 (c0:Int) (c1:Int):Option Tapi_Q :=
 (g_frac_size c0).bind fun x1 =>
 (g_frac_size c1).bind fun x3 =>
 (g_frac_common x1 x3).bind fun x5 =>
 (g_frac_size c0).bind fun x7 =>
 if x5≠0 then
  (g_frac_size c1).bind fun x9 =>
  if x5≠0 then
   (g_frac_fit (!((decide (c0 < 0))==(decide (c1 < 0)))) (0,IntKind.u64.wrap (Int.tdiv x7 x5)) (0,IntKind.u64.wrap (Int.tdiv x9 x5))).bind fun x11 =>
   some x11
  else none
 else none
def g_frac_Make (p0:Int) (p1:Int):Option (Tapi_Q × Int) :=
 if (p1==0)=true then
  some ((Tapi_Q.mk 0 0),2)
 else
 (g_frac_Make_1_k0 p0 p1).bind fun x3 =>
 some (x3,0)
def g_sensitive_At (p0:Tapi_Net) (p1:(List Int)) (p2:Int) (p3:Int) (p4:Tapi_Shift) (p5:Tapi_Q):Option (Tapi_Q × Int) :=
 (g_sensitive_Line p0 p1 p2 p3 p4).bind fun x1 =>
 if (x1.2 != 0)=true then
  some ((Tapi_Q.mk 0 0),x1.2)
 else
 (g_sensitive_checkSmall p5).bind fun x5 =>
 if (x5 != 0)=true then
  some ((Tapi_Q.mk 0 0),x5)
 else
 (g_sensitive_ends p0 p4).bind fun x9 =>
 if (decide (p5.N < (IntKind.i64.wrap (x9.1*p5.D))))=true then
  some ((Tapi_Q.mk 0 0),2)
 else
 if (decide (p5.N > (IntKind.i64.wrap (x9.2*p5.D))))=true then
  some ((Tapi_Q.mk 0 0),2)
 else
 if ((IntKind.i64.wrap ((IntKind.i64.wrap (x1.1.2.2.1*p5.D))+(IntKind.i64.wrap (x1.1.2.2.2*p5.N))))==0)=true then
  some ((Tapi_Q.mk 0 0),7)
 else
 (g_frac_Make (IntKind.i64.wrap ((IntKind.i64.wrap (x1.1.1*p5.D))+(IntKind.i64.wrap (x1.1.2.1*p5.N)))) (IntKind.i64.wrap ((IntKind.i64.wrap (x1.1.2.2.1*p5.D))+(IntKind.i64.wrap (x1.1.2.2.2*p5.N))))).bind fun x17 =>
 some (x17.1,x17.2)
def g_law24_rain  : Option Tapi_Net :=
 some (Tapi_Net.mk 10 ([(Tapi_Node.mk 2 [] [[7,3]]),(Tapi_Node.mk 2 [0] [[8,2],[2,8]])]:(List Tapi_Node)))
def g_law24_at (p0:Int) (p1:Int) (p2:Int):Option Bool :=
 (g_law24_rain).bind fun x1 =>
 (g_sensitive_At x1 [-1,1] 0 1 (Tapi_Shift.mk 0 0 0 1) (Tapi_Q.mk p0 1)).bind fun x3 =>
 if (x3.2==0)=true then
  some ((x3.1.N==p1) && ((x3.1.D==p2) && true))
 else
 some false
def g_math_bits_Mul64 (p0:Int) (p1:Int):Option (Int × Int) :=
 some (IntKind.u64.wrap ((IntKind.u64.wrap ((IntKind.u64.wrap ((Int.fdiv p0 (2^min (Int.toNat 32) (IntKind.bits .u64)))*(Int.fdiv p1 (2^min (Int.toNat 32) (IntKind.bits .u64)))))+(Int.fdiv (IntKind.u64.wrap ((IntKind.u64.wrap ((Int.fdiv p0 (2^min (Int.toNat 32) (IntKind.bits .u64)))*(IntKind.u64.wrap (BitVec.ofInt (IntKind.bits .u64) p1 &&& BitVec.ofInt (IntKind.bits .u64) 4294967295).toNat)))+(Int.fdiv (IntKind.u64.wrap ((IntKind.u64.wrap (BitVec.ofInt (IntKind.bits .u64) p0 &&& BitVec.ofInt (IntKind.bits .u64) 4294967295).toNat)*(IntKind.u64.wrap (BitVec.ofInt (IntKind.bits .u64) p1 &&& BitVec.ofInt (IntKind.bits .u64) 4294967295).toNat))) (2^min (Int.toNat 32) (IntKind.bits .u64))))) (2^min (Int.toNat 32) (IntKind.bits .u64)))))+(Int.fdiv (IntKind.u64.wrap ((IntKind.u64.wrap (BitVec.ofInt (IntKind.bits .u64) (IntKind.u64.wrap ((IntKind.u64.wrap ((Int.fdiv p0 (2^min (Int.toNat 32) (IntKind.bits .u64)))*(IntKind.u64.wrap (BitVec.ofInt (IntKind.bits .u64) p1 &&& BitVec.ofInt (IntKind.bits .u64) 4294967295).toNat)))+(Int.fdiv (IntKind.u64.wrap ((IntKind.u64.wrap (BitVec.ofInt (IntKind.bits .u64) p0 &&& BitVec.ofInt (IntKind.bits .u64) 4294967295).toNat)*(IntKind.u64.wrap (BitVec.ofInt (IntKind.bits .u64) p1 &&& BitVec.ofInt (IntKind.bits .u64) 4294967295).toNat))) (2^min (Int.toNat 32) (IntKind.bits .u64))))) &&& BitVec.ofInt (IntKind.bits .u64) 4294967295).toNat)+(IntKind.u64.wrap ((IntKind.u64.wrap (BitVec.ofInt (IntKind.bits .u64) p0 &&& BitVec.ofInt (IntKind.bits .u64) 4294967295).toNat)*(Int.fdiv p1 (2^min (Int.toNat 32) (IntKind.bits .u64))))))) (2^min (Int.toNat 32) (IntKind.bits .u64)))),IntKind.u64.wrap (p0*p1))
def g_frac_times (p0:Int) (p1:Int):Option (Int × Int) :=
 (g_math_bits_Mul64 p0 p1).bind fun x1 =>
 some (x1.1,x1.2)
def g_frac_less (p0:(Int × Int)) (p1:(Int × Int)):Option Bool :=
 if (decide (p0.1 < p1.1))=true then
  some true
 else
 if (p0.1==p1.1)=true then
  some (decide (p0.2 < p1.2))
 else
 some false
def g_frac_Cmp_1 (p0:Tapi_Q) (p1:Tapi_Q):Option Int :=
 (g_frac_size p0.N).bind fun x1 =>
 (g_frac_times x1 (IntKind.u64.wrap (p1.D))).bind fun x3 =>
 (g_frac_size p1.N).bind fun x5 =>
 (g_frac_times x5 (IntKind.u64.wrap (p0.D))).bind fun x7 =>
 if (!((decide (p0.N < 0))==(decide (p1.N < 0))))=true then
  if (decide (p0.N < 0))=true then
   some (-1)
  else
  some 1
 else
 if ((x3.1==x7.1) && ((x3.2==x7.2) && true))=true then
  some 0
 else
 (g_frac_less (x3.1,x3.2) (x7.1,x7.2)).bind fun x15 =>
 if (x15==(decide (p0.N≥0)))=true then
  some (-1)
 else
 some 1
def g_frac_both_int_1_k1 (c0:Int) (c1:Int) (c2:Int) (c3:Int):Option Int :=
 (g_frac_Cmp_1 (Tapi_Q.mk c0 c1) (Tapi_Q.mk c2 c3)).bind fun x1 =>
 some x1
def g_frac_Cmp (p0:Tapi_Q) (p1:Tapi_Q):Option (Int × Int) :=
 (g_frac_Check p0).bind fun x1 =>
 if (x1 != 0)=true then
  some (0,5)
 else
 (g_frac_Check p1).bind fun x5 =>
 if (x5 != 0)=true then
  some (0,5)
 else
 (g_frac_both_int_1_k1 p0.N p0.D p1.N p1.D).bind fun x9 =>
 some (x9,0)
def g_sensitive_less (p0:Tapi_Q) (p1:Tapi_Q):Option Bool :=
 (g_frac_Cmp p0 p1).bind fun x1 =>
 some (decide (x1.1 < 0))
def g_sensitive_inRange (p0:Tapi_Q) (p1:Int) (p2:Int):Option Bool :=
 (g_sensitive_less p0 (Tapi_Q.mk p1 1)).bind fun x1 =>
 if (!x1)=true then
  (g_sensitive_less (Tapi_Q.mk p2 1) p0).bind fun x5 =>
  some (!x5)
 else
 some false
def g_sensitive_positive (p0:(Int × Int × Int × Int)) (p1:Tapi_Q) (p2:Int) (p3:Int):Option Bool :=
 if (p0.2.2.1==0)=true then
  if (p0.2.2.2==0)=true then
   some false
  else
  if (p1.D==1)=true then
   if (p1.N==p2)=true then
    some (decide ((IntKind.i64.wrap (p0.2.2.1+(IntKind.i64.wrap (p0.2.2.2*p1.N)))) > 0))
   else
   if (p1.N==p3)=true then
    some (decide ((IntKind.i64.wrap (p0.2.2.1+(IntKind.i64.wrap (p0.2.2.2*p1.N)))) > 0))
   else
   some true
  else
  some true
 else
 if (p1.D==1)=true then
  if (p1.N==p2)=true then
   some (decide ((IntKind.i64.wrap (p0.2.2.1+(IntKind.i64.wrap (p0.2.2.2*p1.N)))) > 0))
  else
  if (p1.N==p3)=true then
   some (decide ((IntKind.i64.wrap (p0.2.2.1+(IntKind.i64.wrap (p0.2.2.2*p1.N)))) > 0))
  else
  some true
 else
 some true
def g_sensitive_Threshold (p0:Tapi_Net) (p1:(List Int)) (p2:Int) (p3:Int) (p4:Tapi_Shift) (p5:Tapi_Q):Option (Tapi_Q × Int) :=
 (g_sensitive_Line p0 p1 p2 p3 p4).bind fun x1 =>
 if (x1.2 != 0)=true then
  some ((Tapi_Q.mk 0 0),x1.2)
 else
 (g_sensitive_checkSmall p5).bind fun x5 =>
 if (x5 != 0)=true then
  some ((Tapi_Q.mk 0 0),x5)
 else
 if (decide (p5.N < 0))=true then
  some ((Tapi_Q.mk 0 0),2)
 else
 if (decide (p5.N > p5.D))=true then
  some ((Tapi_Q.mk 0 0),2)
 else
 (g_sensitive_ends p0 p4).bind fun x13 =>
 if ((IntKind.i64.wrap ((IntKind.i64.wrap (x1.1.2.1*p5.D)) - (IntKind.i64.wrap (x1.1.2.2.2*p5.N))))==0)=true then
  if ((IntKind.i64.wrap ((IntKind.i64.wrap (x1.1.2.2.1*p5.N)) - (IntKind.i64.wrap (x1.1.1*p5.D)))) != 0)=true then
   some ((Tapi_Q.mk 0 0),4)
  else
  if (x13.1 != x13.2)=true then
   some ((Tapi_Q.mk 0 0),4)
  else
  if (x1.1.2.2.1==0)=true then
   some ((Tapi_Q.mk 0 0),4)
  else
  some ((Tapi_Q.mk 0 1),0)
 else
 (g_frac_Make (IntKind.i64.wrap ((IntKind.i64.wrap (x1.1.2.2.1*p5.N)) - (IntKind.i64.wrap (x1.1.1*p5.D)))) (IntKind.i64.wrap ((IntKind.i64.wrap (x1.1.2.1*p5.D)) - (IntKind.i64.wrap (x1.1.2.2.2*p5.N))))).bind fun x23 =>
 if (x23.2 != 0)=true then
  some ((Tapi_Q.mk 0 0),x23.2)
 else
 (g_sensitive_inRange x23.1 x13.1 x13.2).bind fun x27 =>
 if (!x27)=true then
  some ((Tapi_Q.mk 0 0),4)
 else
 (g_sensitive_positive (x1.1.1,x1.1.2.1,x1.1.2.2.1,x1.1.2.2.2) x23.1 x13.1 x13.2).bind fun x31 =>
 if (!x31)=true then
  some ((Tapi_Q.mk 0 0),4)
 else
 some (x23.1,0)
def g_law24_threshold (p0:(List Int)) (p1:Tapi_Shift) (p2:Tapi_Q) (p3:Tapi_Q) (p4:Int):Option Bool :=
 (g_law24_rain).bind fun x1 =>
 (g_sensitive_Threshold x1 p0 0 1 p1 p2).bind fun x3 =>
 if (x3.2==p4)=true then
  some ((x3.1.N==p3.N) && ((x3.1.D==p3.D) && true))
 else
 some false
def g_sensitive_Stay_b0 (x5:(List (Int × Int × Int × Int))) (s11:(Int × Int)):Option (Step (Int × Int) Int) :=
 if (decide (s11.2 < (x5.length:Int)))=true then
  (lkI x5 s11.2).bind fun a14 =>
  (lkI x5 s11.1).bind fun a16 =>
  if (decide (a14.1 > a16.1))=true then
   some (.next (s11.2,IntKind.i64.wrap (s11.2+1)))
  else
  some (.next (s11.1,IntKind.i64.wrap (s11.2+1)))
 else
 some (.done s11.1)
def g_sensitive_Stay_b1 (x5:(List (Int × Int × Int × Int))) (x21:Int) (s24:(Int × Int × Int × Int × Int)):Option (Step (Int × Int × Int × Int × Int) (Int × Int × Int × Int)) :=
 if (decide (s24.1 < (x5.length:Int)))=true then
  (lkI x5 s24.1).bind fun a27 =>
  (lkI x5 x21).bind fun a29 =>
  if ((IntKind.i64.wrap (a29.2.1 - a27.2.1))==0)=true then
   some (.next (IntKind.i64.wrap (s24.1+1),s24.2.1,s24.2.2.1,s24.2.2.2.1,s24.2.2.2.2))
  else
  (g_frac_Make (IntKind.i64.wrap (0 - (IntKind.i64.wrap (a29.1 - a27.1)))) (IntKind.i64.wrap (a29.2.1 - a27.2.1))).bind fun x33 =>
  if (x33.2 != 0)=true then
   some (.next (IntKind.i64.wrap (s24.1+1),s24.2.1,s24.2.2.1,s24.2.2.2.1,s24.2.2.2.2))
  else
  if (decide ((IntKind.i64.wrap (a29.2.1 - a27.2.1)) < 0))=true then
   (g_sensitive_less x33.1 (Tapi_Q.mk s24.2.2.2.1 s24.2.2.2.2)).bind fun x39 =>
   if x39=true then
    some (.next (IntKind.i64.wrap (s24.1+1),s24.2.1,s24.2.2.1,x33.1.N,x33.1.D))
   else
   some (.next (IntKind.i64.wrap (s24.1+1),s24.2.1,s24.2.2.1,s24.2.2.2.1,s24.2.2.2.2))
  else
  (g_sensitive_less (Tapi_Q.mk s24.2.1 s24.2.2.1) x33.1).bind fun x43 =>
  if x43=true then
   some (.next (IntKind.i64.wrap (s24.1+1),x33.1.N,x33.1.D,s24.2.2.2.1,s24.2.2.2.2))
  else
  some (.next (IntKind.i64.wrap (s24.1+1),s24.2.1,s24.2.2.1,s24.2.2.2.1,s24.2.2.2.2))
 else
 some (.done (s24.2.1,s24.2.2.1,s24.2.2.2.1,s24.2.2.2.2))
def g_sensitive_Stay (p0:Tapi_Net) (p1:(List Int)) (p2:Int) (p3:Tapi_Shift):Option (Tapi_Q × Tapi_Q × Int) :=
 (g_sensitive_check p0 p1 p2 p3 []).bind fun x1 =>
 if (x1 != 0)=true then
  some ((Tapi_Q.mk 0 0),(Tapi_Q.mk 0 0),x1)
 else
 (g_sensitive_lines p0 p1 p2 p3).bind fun x5 =>
 (lkI x5 0).bind fun a7 =>
 if (a7.2.2.1==0)=true then
  some ((Tapi_Q.mk 0 0),(Tapi_Q.mk 0 0),7)
 else
 (whileN fuel (g_sensitive_Stay_b0 x5) (0,0)).bind fun x21 =>
 (g_sensitive_ends p0 p3).bind fun x22 =>
 (whileN fuel (g_sensitive_Stay_b1 x5 x21) (0,x22.1,1,x22.2,1)).bind fun x48 =>
 some ((Tapi_Q.mk x48.1 x48.2.1),(Tapi_Q.mk x48.2.2.1 x48.2.2.2),0)
def g_law24_stay (p0:(List Int)) (p1:Int) (p2:Int):Option Bool :=
 (g_law24_rain).bind fun x1 =>
 (g_sensitive_Stay x1 p0 0 (Tapi_Shift.mk 0 0 0 1)).bind fun x3 =>
 if (x3.2.2==0)=true then
  if ((x3.1.N==p1) && ((x3.1.D==1) && true))=true then
   some ((x3.2.1.N==p2) && ((x3.2.1.D==1) && true))
  else
  some false
 else
 some false
def g_law24_works  : Option Bool :=
 (g_law24_rain).bind fun x1 =>
 (g_sensitive_Line x1 [-1,1] 0 1 (Tapi_Shift.mk 0 0 0 1)).bind fun x3 =>
 (g_sensitive_Line x1 [-1,1] 0 1 (Tapi_Shift.mk 1 1 1 0)).bind fun x5 =>
 (g_sensitive_At x1 [-1,1] 0 1 (Tapi_Shift.mk 0 0 0 1) (Tapi_Q.mk 8 1)).bind fun x7 =>
 (g_sensitive_Line x1 [2,0] 0 1 (Tapi_Shift.mk 0 0 0 1)).bind fun x9 =>
 (g_sensitive_Line x1 [-1,1] 2 0 (Tapi_Shift.mk 0 0 0 1)).bind fun x11 =>
 (g_sensitive_Line x1 [-1,1] 0 1 (Tapi_Shift.mk 0 0 0 0)).bind fun x13 =>
 (g_sensitive_At x1 [-1,1] 0 1 (Tapi_Shift.mk 0 0 0 1) (Tapi_Q.mk 2 4)).bind fun x15 =>
 (g_sensitive_At x1 [-1,1] 0 1 (Tapi_Shift.mk 0 0 0 1) (Tapi_Q.mk 1 2000)).bind fun x17 =>
 if ((x3.1.1==24) && ((x3.1.2.1==8) && ((x3.1.2.2.1==38) && ((x3.1.2.2.2==6) && true))))=true then
  if (x3.2==0)=true then
   if ((x5.1.1==24) && ((x5.1.2.1==(-3)) && ((x5.1.2.2.1==38) && ((x5.1.2.2.2==(-3)) && true))))=true then
    if (x5.2==0)=true then
     if (x7.2==2)=true then
      if (x9.2==2)=true then
       if (x11.2==2)=true then
        if (x13.2==2)=true then
         if (x15.2==5)=true then
          if (x17.2==2)=true then
           (g_law24_at 0 12 19).bind fun x39 =>
           if x39=true then
            (g_law24_at 1 8 11).bind fun x43 =>
            if x43=true then
             (g_law24_at 7 1 1).bind fun x47 =>
             if x47=true then
              (g_law24_threshold [-1,1] (Tapi_Shift.mk 0 0 0 1) (Tapi_Q.mk 1 2) (Tapi_Q.mk (-1) 1) 0).bind fun x51 =>
              if x51=true then
               (g_law24_stay [-1,1] (-1) 7).bind fun x55 =>
               if x55=true then
                (g_law24_stay [-1,-1] (-3) 2).bind fun x59 =>
                if x59=true then
                 (g_law24_threshold [-1,1] (Tapi_Shift.mk 0 0 0 1) (Tapi_Q.mk 0 1) (Tapi_Q.mk (-3) 1) 0).bind fun x63 =>
                 if x63=true then
                  (g_law24_threshold [-1,1] (Tapi_Shift.mk 1 1 1 0) (Tapi_Q.mk 1 2) (Tapi_Q.mk 10 3) 0).bind fun x67 =>
                  if x67=true then
                   (g_law24_threshold [1,1] (Tapi_Shift.mk 0 0 0 1) (Tapi_Q.mk 1 1) (Tapi_Q.mk 0 0) 4).bind fun x71 =>
                   if x71=true then
                    (g_law24_threshold [-1,1] (Tapi_Shift.mk 1 1 1 0) (Tapi_Q.mk 3 4) (Tapi_Q.mk 0 0) 4).bind fun x75 =>
                    some x75
                   else
                   some false
                  else
                  some false
                 else
                 some false
                else
                some false
               else
               some false
              else
              some false
             else
             some false
            else
            some false
           else
           some false
          else
          some false
         else
         some false
        else
        some false
       else
       some false
      else
      some false
     else
     some false
    else
    some false
   else
   some false
  else
  some false
 else
 some false
def g_ref02_At_b0 (p1:(List Int)) (p0:(List Int)) (s1:(Int × (List Int))):Option (Step (Int × (List Int)) (List Int)) :=
 if (decide (s1.1 < (p1.length:Int)))=true then
  (lkI p1 s1.1).bind fun a4 =>
  (lkI p0 a4).bind fun a6 =>
  if (s1.2++([a6]:(List Int))).length*8≤140737488355328 then
   some (.next (IntKind.i64.wrap (s1.1+1),(s1.2++([a6]:(List Int)))))
  else none
 else
 some (.done s1.2)
def g_ref02_At (p0:(List Int)) (p1:(List Int)):Option (List Int) :=
 (whileN fuel (g_ref02_At_b0 p1 p0) (0,([]:(List Int)))).bind fun x9 =>
 some x9
def g_ref05_Cards_b0 (p0:Tapi_Net) (s1:(Int × (List Int))):Option (Step (Int × (List Int)) (List Int)) :=
 if (decide (s1.1 < (p0.Nodes.length:Int)))=true then
  (lkI p0.Nodes s1.1).bind fun a4 =>
  if (s1.2++([a4.Card]:(List Int))).length*8≤140737488355328 then
   some (.next (IntKind.i64.wrap (s1.1+1),(s1.2++([a4.Card]:(List Int)))))
  else none
 else
 some (.done s1.2)
def g_ref05_Cards (p0:Tapi_Net):Option (List Int) :=
 (whileN fuel (g_ref05_Cards_b0 p0) (0,([]:(List Int)))).bind fun x7 =>
 some x7
def g_ref05_ParentCards (p0:Tapi_Net) (p1:Int):Option (List Int) :=
 (g_ref05_Cards p0).bind fun x1 =>
 (lkI p0.Nodes p1).bind fun a3 =>
 (g_ref02_At x1 a3.Parents).bind fun x5 =>
 some x5
def g_ref02_Draft_Cards_b0 (p0:Tharuspexref02_Draft) (s1:(Int × (List Int))):Option (Step (Int × (List Int)) (List Int)) :=
 if (decide (s1.1 < (p0.C.length:Int)))=true then
  if (decide (s1.1 < 5))=true then
   (lkI p0.C s1.1).bind fun a6 =>
   if (s1.2++([IntKind.i64.wrap (1+(IntKind.i64.wrap (Int.tmod a6 4)))]:(List Int))).length*8≤140737488355328 then
    some (.next (IntKind.i64.wrap (s1.1+1),(s1.2++([IntKind.i64.wrap (1+(IntKind.i64.wrap (Int.tmod a6 4)))]:(List Int)))))
   else none
  else
  some (.done s1.2)
 else
 some (.done s1.2)
def g_ref02_Draft_Cards (p0:Tharuspexref02_Draft):Option (List Int) :=
 (whileN fuel (g_ref02_Draft_Cards_b0 p0) (0,([]:(List Int)))).bind fun x9 =>
 some x9
def g_ref02_Draft_Permutation_b0 (p0:Tharuspexref02_Draft) (s1:(Int × (List Int))):Option (Step (Int × (List Int)) (List Int)) :=
 (g_ref02_Draft_Cards p0).bind fun x2 =>
 if (decide (s1.1 < (x2.length:Int)))=true then
  if (decide (s1.1 < (p0.Order.length:Int)))=true then
   (lkI p0.Order s1.1).bind fun a8 =>
   if (IntKind.i64.wrap (s1.1+1))≠0 then
    if 0≤(0:Int)∧(0:Int)≤(Int.tmod (IntKind.i64.wrap (a8)) (IntKind.i64.wrap (s1.1+1)))∧(Int.tmod (IntKind.i64.wrap (a8)) (IntKind.i64.wrap (s1.1+1)))≤(s1.2.length:Int) then
     if (sub s1.2 0 (Int.tmod (IntKind.i64.wrap (a8)) (IntKind.i64.wrap (s1.1+1)))).length*8≤140737488355328 then
      if ((sub s1.2 0 (Int.tmod (IntKind.i64.wrap (a8)) (IntKind.i64.wrap (s1.1+1))))++([s1.1]:(List Int))).length*8≤140737488355328 then
       if 0≤(Int.tmod (IntKind.i64.wrap (a8)) (IntKind.i64.wrap (s1.1+1)))∧(Int.tmod (IntKind.i64.wrap (a8)) (IntKind.i64.wrap (s1.1+1)))≤(s1.2.length:Int)∧(s1.2.length:Int)≤(s1.2.length:Int) then
        if (((sub s1.2 0 (Int.tmod (IntKind.i64.wrap (a8)) (IntKind.i64.wrap (s1.1+1))))++([s1.1]:(List Int)))++(sub s1.2 (Int.tmod (IntKind.i64.wrap (a8)) (IntKind.i64.wrap (s1.1+1))) (s1.2.length:Int))).length*8≤140737488355328 then
         some (.next (IntKind.i64.wrap (s1.1+1),(((sub s1.2 0 (Int.tmod (IntKind.i64.wrap (a8)) (IntKind.i64.wrap (s1.1+1))))++([s1.1]:(List Int)))++(sub s1.2 (Int.tmod (IntKind.i64.wrap (a8)) (IntKind.i64.wrap (s1.1+1))) (s1.2.length:Int)))))
        else none
       else none
      else none
     else none
    else none
   else none
  else
  if 0≤(0:Int)∧(0:Int)≤(0:Int)∧(0:Int)≤(s1.2.length:Int) then
   if (sub s1.2 0 0).length*8≤140737488355328 then
    if ((sub s1.2 0 0)++([s1.1]:(List Int))).length*8≤140737488355328 then
     if 0≤(0:Int)∧(0:Int)≤(s1.2.length:Int)∧(s1.2.length:Int)≤(s1.2.length:Int) then
      if (((sub s1.2 0 0)++([s1.1]:(List Int)))++(sub s1.2 0 (s1.2.length:Int))).length*8≤140737488355328 then
       some (.next (IntKind.i64.wrap (s1.1+1),(((sub s1.2 0 0)++([s1.1]:(List Int)))++(sub s1.2 0 (s1.2.length:Int)))))
      else none
     else none
    else none
   else none
  else none
 else
 some (.done s1.2)
def g_ref02_Draft_Permutation (p0:Tharuspexref02_Draft):Option (List Int) :=
 (whileN fuel (g_ref02_Draft_Permutation_b0 p0) (0,([]:(List Int)))).bind fun x15 =>
 some x15
def g_ref02_Size_b0 (p0:(List Int)) (s1:(Int × Int)):Option (Step (Int × Int) Int) :=
 if (decide (s1.2 < (p0.length:Int)))=true then
  (lkI p0 s1.2).bind fun a4 =>
  some (.next (IntKind.i64.wrap (s1.1*a4),IntKind.i64.wrap (s1.2+1)))
 else
 some (.done s1.1)
def g_ref02_Size (p0:(List Int)):Option Int :=
 (whileN fuel (g_ref02_Size_b0 p0) (1,0)).bind fun x7 =>
 some x7
def g_ref05_row_b0 (p1:Int) (p2:(List Int)) (p3:Int) (s1:(Int × Int × (List Int))):Option (Step (Int × Int × (List Int)) (Int × (List Int))) :=
 if (decide (s1.2.1 < p1))=true then
  if (decide ((p2.length:Int) > 0))=true then
   if (p2.length:Int)≠0 then
    (lkI p2 (Int.tmod (IntKind.i64.wrap (p3+s1.2.1)) (p2.length:Int))).bind fun a6 =>
    (lkI s1.2.2 s1.2.1).bind fun a8 =>
    some (.next (IntKind.i64.wrap (s1.1+(IntKind.i64.wrap (Int.tmod a6 8))),IntKind.i64.wrap (s1.2.1+1),(List.set s1.2.2 (Int.toNat s1.2.1) (IntKind.i64.wrap (Int.tmod a6 8)))))
   else none
  else
  (lkI s1.2.2 s1.2.1).bind fun a11 =>
  some (.next (IntKind.i64.wrap (s1.1+a11),IntKind.i64.wrap (s1.2.1+1),s1.2.2))
 else
 some (.done (s1.1,s1.2.2))
def g_ref05_row_b1 (p1:Int) (x14:(Int × (List Int))) (p0:Int) (s15:(Int × Int × Int × (List Int))):Option (Step (Int × Int × Int × (List Int)) (Int × Int × (List Int))) :=
 if (decide (s15.2.2.1 < p1))=true then
  (lkI s15.2.2.2 s15.2.2.1).bind fun a18 =>
  if (decide (a18 > 0))=true then
   if x14.1≠0 then
    some (.next (IntKind.i64.wrap (s15.1 - (IntKind.i64.wrap (Int.tdiv (IntKind.i64.wrap (p0*a18)) x14.1))),s15.2.2.1,IntKind.i64.wrap (s15.2.2.1+1),(List.set s15.2.2.2 (Int.toNat s15.2.2.1) (IntKind.i64.wrap (Int.tdiv (IntKind.i64.wrap (p0*a18)) x14.1)))))
   else none
  else
  some (.next (IntKind.i64.wrap (s15.1 - a18),s15.2.1,IntKind.i64.wrap (s15.2.2.1+1),s15.2.2.2))
 else
 some (.done (s15.1,s15.2.1,s15.2.2.2))
def g_ref05_row (p0:Int) (p1:Int) (p2:(List Int)) (p3:Int):Option (List Int) :=
 if 0≤p1∧p1≤p1∧p1*8≤140737488355328 then
  (whileN fuel (g_ref05_row_b0 p1 p2 p3) (0,0,(List.replicate (Int.toNat p1) (0:Int)))).bind fun x14 =>
  (whileN fuel (g_ref05_row_b1 p1 x14 p0) (p0,0,0,x14.2)).bind fun x24 =>
  (lkI x24.2.2 x24.2.1).bind fun a25 =>
  some (List.set x24.2.2 (Int.toNat x24.2.1) (IntKind.i64.wrap (a25+x24.1)))
 else none
def g_ref05_Draft_Net_b0 (p0:Tharuspexref05_Draft) (x1:(List Int)) (s3:(Int × Int × (List (Int ⊕ Tapi_Node)))):Option (Step (Int × Int × (List (Int ⊕ Tapi_Node))) (List (Int ⊕ Tapi_Node))) :=
 if (decide (s3.2.1 < (if 5 < (if 1 > (p0.Nodes.length:Int) then 1 else (p0.Nodes.length:Int)) then 5 else (if 1 > (p0.Nodes.length:Int) then 1 else (p0.Nodes.length:Int)))))=true then
  if (decide (s3.2.1 < (p0.Nodes.length:Int)))=true then
   (lkI p0.Nodes s3.2.1).bind fun a8 =>
   if 0≤(IntKind.u64.wrap (IntKind.i64.wrap ((IntKind.i64.wrap ((if 5 < (if 1 > (p0.Nodes.length:Int) then 1 else (p0.Nodes.length:Int)) then 5 else (if 1 > (p0.Nodes.length:Int) then 1 else (p0.Nodes.length:Int))) - 1)) - s3.2.1))) then
    if (decide ((IntKind.i64.wrap ((IntKind.i64.wrap (s3.1*(IntKind.i64.wrap (2+(IntKind.i64.wrap (Int.tmod a8.Card 2))))))*2^min (Int.toNat (IntKind.u64.wrap (IntKind.i64.wrap ((IntKind.i64.wrap ((if 5 < (if 1 > (p0.Nodes.length:Int) then 1 else (p0.Nodes.length:Int)) then 5 else (if 1 > (p0.Nodes.length:Int) then 1 else (p0.Nodes.length:Int))) - 1)) - s3.2.1)))) (IntKind.bits .i64))) > 100))=true then
     (lkI x1 s3.2.1).bind fun a12 =>
     (lkL s3.2.2 a12).bind fun a14 =>
     some (.next (IntKind.i64.wrap (s3.1*2),IntKind.i64.wrap (s3.2.1+1),(List.set s3.2.2 (Int.toNat a12) (Sum.inl 2))))
    else
    (lkI x1 s3.2.1).bind fun a17 =>
    (lkL s3.2.2 a17).bind fun a19 =>
    some (.next (IntKind.i64.wrap (s3.1*(IntKind.i64.wrap (2+(IntKind.i64.wrap (Int.tmod a8.Card 2))))),IntKind.i64.wrap (s3.2.1+1),(List.set s3.2.2 (Int.toNat a17) (Sum.inl (IntKind.i64.wrap (2+(IntKind.i64.wrap (Int.tmod a8.Card 2))))))))
   else none
  else
  if 0≤(IntKind.u64.wrap (IntKind.i64.wrap ((IntKind.i64.wrap ((if 5 < (if 1 > (p0.Nodes.length:Int) then 1 else (p0.Nodes.length:Int)) then 5 else (if 1 > (p0.Nodes.length:Int) then 1 else (p0.Nodes.length:Int))) - 1)) - s3.2.1))) then
   if (decide ((IntKind.i64.wrap ((IntKind.i64.wrap (s3.1*(IntKind.i64.wrap (2+(IntKind.i64.wrap (Int.tmod 0 2))))))*2^min (Int.toNat (IntKind.u64.wrap (IntKind.i64.wrap ((IntKind.i64.wrap ((if 5 < (if 1 > (p0.Nodes.length:Int) then 1 else (p0.Nodes.length:Int)) then 5 else (if 1 > (p0.Nodes.length:Int) then 1 else (p0.Nodes.length:Int))) - 1)) - s3.2.1)))) (IntKind.bits .i64))) > 100))=true then
    (lkI x1 s3.2.1).bind fun a24 =>
    (lkL s3.2.2 a24).bind fun a26 =>
    some (.next (IntKind.i64.wrap (s3.1*2),IntKind.i64.wrap (s3.2.1+1),(List.set s3.2.2 (Int.toNat a24) (Sum.inl 2))))
   else
   (lkI x1 s3.2.1).bind fun a29 =>
   (lkL s3.2.2 a29).bind fun a31 =>
   some (.next (IntKind.i64.wrap (s3.1*(IntKind.i64.wrap (2+(IntKind.i64.wrap (Int.tmod 0 2))))),IntKind.i64.wrap (s3.2.1+1),(List.set s3.2.2 (Int.toNat a29) (Sum.inl (IntKind.i64.wrap (2+(IntKind.i64.wrap (Int.tmod 0 2))))))))
  else none
 else
 some (.done s3.2.2)
def g_ref05_Draft_Net_b1 (s36:(Int × (List (Int ⊕ Tapi_Node)))) (x1:(List Int)) (s55:(Int × (List Int))) (a49:Tharuspexref05_Piece) (s58:(Int × (List Int))):Option (Step (Int × (List Int)) (List Int)) :=
 if (decide (s58.1 < s36.1))=true then
  (lkI x1 s58.1).bind fun a61 =>
  if (a61==s55.1)=true then
   if 0≤(IntKind.u64.wrap (s58.1)) then
    if ((IntKind.u8.wrap (BitVec.ofInt (IntKind.bits .u8) (Int.fdiv a49.Parents (2^min (Int.toNat (IntKind.u64.wrap (s58.1))) (IntKind.bits .u8))) &&& BitVec.ofInt (IntKind.bits .u8) 1).toNat)==1)=true then
     if (decide ((s58.2.length:Int) < 3))=true then
      if (s58.2++([s55.1]:(List Int))).length*8≤140737488355328 then
       some (.next (IntKind.i64.wrap (s58.1+1),(s58.2++([s55.1]:(List Int)))))
      else none
     else
     some (.next (IntKind.i64.wrap (s58.1+1),s58.2))
    else
    some (.next (IntKind.i64.wrap (s58.1+1),s58.2))
   else none
  else
  some (.next (IntKind.i64.wrap (s58.1+1),s58.2))
 else
 some (.done s58.2)
def g_ref05_Draft_Net_b2 (p0:Tharuspexref05_Draft) (s36:(Int × (List (Int ⊕ Tapi_Node)))) (x1:(List Int)) (a49:Tharuspexref05_Piece) (s55:(Int × (List Int))):Option (Step (Int × (List Int)) (List Int)) :=
 if (decide (s55.1 < (if 5 < (if 1 > (p0.Nodes.length:Int) then 1 else (p0.Nodes.length:Int)) then 5 else (if 1 > (p0.Nodes.length:Int) then 1 else (p0.Nodes.length:Int)))))=true then
  (whileN fuel (g_ref05_Draft_Net_b1 s36 x1 s55 a49) (0,s55.2)).bind fun x70 =>
  some (.next (IntKind.i64.wrap (s55.1+1),x70))
 else
 some (.done s55.2)
def g_ref05_Draft_Net_b3 (p0:Tharuspexref05_Draft) (s36:(Int × (List (Int ⊕ Tapi_Node)))) (a51:Int) (a53:Int) (x72:(List Int)) (a49:Tharuspexref05_Piece) (s73:(Int × (List (List Int)))):Option (Step (Int × (List (List Int))) (List (List Int))) :=
 (g_ref05_ParentCards (Tapi_Net.mk (IntKind.i64.wrap (1+(IntKind.i64.wrap (Int.tmod p0.Grain 60)))) (List.set (List.map coTapi_Node s36.2) (Int.toNat a51) (Tapi_Node.mk a53 x72 s73.2))) a51).bind fun x74 =>
 (g_ref02_Size x74).bind fun x76 =>
 if (decide (s73.1 < x76))=true then
  (g_ref05_row (IntKind.i64.wrap (1+(IntKind.i64.wrap (Int.tmod p0.Grain 60)))) a53 a49.W (IntKind.i64.wrap (s73.1*(IntKind.i64.wrap (a53+1))))).bind fun x80 =>
  if (s73.2++([x80]:(List (List Int)))).length*24≤140737488355328 then
   some (.next (IntKind.i64.wrap (s73.1+1),(s73.2++([x80]:(List (List Int))))))
  else none
 else
 some (.done s73.2)
def g_ref05_Draft_Net_b4 (s36:(Int × (List (Int ⊕ Tapi_Node)))) (x1:(List Int)) (s90:(Int × (List Int))) (s93:(Int × (List Int))):Option (Step (Int × (List Int)) (List Int)) :=
 if (decide (s93.1 < s36.1))=true then
  (lkI x1 s93.1).bind fun a96 =>
  if (a96==s90.1)=true then
   if 0≤(IntKind.u64.wrap (s93.1)) then
    if ((IntKind.u8.wrap (BitVec.ofInt (IntKind.bits .u8) (Int.fdiv 0 (2^min (Int.toNat (IntKind.u64.wrap (s93.1))) (IntKind.bits .u8))) &&& BitVec.ofInt (IntKind.bits .u8) 1).toNat)==1)=true then
     if (decide ((s93.2.length:Int) < 3))=true then
      if (s93.2++([s90.1]:(List Int))).length*8≤140737488355328 then
       some (.next (IntKind.i64.wrap (s93.1+1),(s93.2++([s90.1]:(List Int)))))
      else none
     else
     some (.next (IntKind.i64.wrap (s93.1+1),s93.2))
    else
    some (.next (IntKind.i64.wrap (s93.1+1),s93.2))
   else none
  else
  some (.next (IntKind.i64.wrap (s93.1+1),s93.2))
 else
 some (.done s93.2)
def g_ref05_Draft_Net_b5 (p0:Tharuspexref05_Draft) (s36:(Int × (List (Int ⊕ Tapi_Node)))) (x1:(List Int)) (s90:(Int × (List Int))):Option (Step (Int × (List Int)) (List Int)) :=
 if (decide (s90.1 < (if 5 < (if 1 > (p0.Nodes.length:Int) then 1 else (p0.Nodes.length:Int)) then 5 else (if 1 > (p0.Nodes.length:Int) then 1 else (p0.Nodes.length:Int)))))=true then
  (whileN fuel (g_ref05_Draft_Net_b4 s36 x1 s90) (0,s90.2)).bind fun x105 =>
  some (.next (IntKind.i64.wrap (s90.1+1),x105))
 else
 some (.done s90.2)
def g_ref05_Draft_Net_b6 (p0:Tharuspexref05_Draft) (s36:(Int × (List (Int ⊕ Tapi_Node)))) (a86:Int) (a88:Int) (x107:(List Int)) (s108:(Int × (List (List Int)))):Option (Step (Int × (List (List Int))) (List (List Int))) :=
 (g_ref05_ParentCards (Tapi_Net.mk (IntKind.i64.wrap (1+(IntKind.i64.wrap (Int.tmod p0.Grain 60)))) (List.set (List.map coTapi_Node s36.2) (Int.toNat a86) (Tapi_Node.mk a88 x107 s108.2))) a86).bind fun x109 =>
 (g_ref02_Size x109).bind fun x111 =>
 if (decide (s108.1 < x111))=true then
  (g_ref05_row (IntKind.i64.wrap (1+(IntKind.i64.wrap (Int.tmod p0.Grain 60)))) a88 [] (IntKind.i64.wrap (s108.1*(IntKind.i64.wrap (a88+1))))).bind fun x115 =>
  if (s108.2++([x115]:(List (List Int)))).length*24≤140737488355328 then
   some (.next (IntKind.i64.wrap (s108.1+1),(s108.2++([x115]:(List (List Int))))))
  else none
 else
 some (.done s108.2)
def g_ref05_Draft_Net_b7 (p0:Tharuspexref05_Draft) (x1:(List Int)) (s36:(Int × (List (Int ⊕ Tapi_Node)))):Option (Step (Int × (List (Int ⊕ Tapi_Node))) (List (Int ⊕ Tapi_Node))) :=
 if (decide (s36.1 < (if 5 < (if 1 > (p0.Nodes.length:Int) then 1 else (p0.Nodes.length:Int)) then 5 else (if 1 > (p0.Nodes.length:Int) then 1 else (p0.Nodes.length:Int)))))=true then
  if (decide (s36.1 < (p0.Nodes.length:Int)))=true then
   (lkI p0.Nodes s36.1).bind fun a49 =>
   (lkI x1 s36.1).bind fun a51 =>
   (lkL s36.2 a51).bind fun a53 =>
   (whileN fuel (g_ref05_Draft_Net_b2 p0 s36 x1 a49) (0,([]:(List Int)))).bind fun x72 =>
   (whileN fuel (g_ref05_Draft_Net_b3 p0 s36 a51 a53 x72 a49) (0,([]:(List (List Int))))).bind fun x83 =>
   some (.next (IntKind.i64.wrap (s36.1+1),(List.set s36.2 (Int.toNat a51) (Sum.inr (Tapi_Node.mk a53 x72 x83)))))
  else
  (lkI x1 s36.1).bind fun a86 =>
  (lkL s36.2 a86).bind fun a88 =>
  (whileN fuel (g_ref05_Draft_Net_b5 p0 s36 x1) (0,([]:(List Int)))).bind fun x107 =>
  (whileN fuel (g_ref05_Draft_Net_b6 p0 s36 a86 a88 x107) (0,([]:(List (List Int))))).bind fun x118 =>
  some (.next (IntKind.i64.wrap (s36.1+1),(List.set s36.2 (Int.toNat a86) (Sum.inr (Tapi_Node.mk a88 x107 x118)))))
 else
 some (.done s36.2)
def g_ref05_Draft_Net (p0:Tharuspexref05_Draft):Option Tapi_Net :=
 if 0≤(if 5 < (if 1 > (p0.Nodes.length:Int) then 1 else (p0.Nodes.length:Int)) then 5 else (if 1 > (p0.Nodes.length:Int) then 1 else (p0.Nodes.length:Int)))∧(if 5 < (if 1 > (p0.Nodes.length:Int) then 1 else (p0.Nodes.length:Int)) then 5 else (if 1 > (p0.Nodes.length:Int) then 1 else (p0.Nodes.length:Int)))≤(if 5 < (if 1 > (p0.Nodes.length:Int) then 1 else (p0.Nodes.length:Int)) then 5 else (if 1 > (p0.Nodes.length:Int) then 1 else (p0.Nodes.length:Int)))∧(if 5 < (if 1 > (p0.Nodes.length:Int) then 1 else (p0.Nodes.length:Int)) then 5 else (if 1 > (p0.Nodes.length:Int) then 1 else (p0.Nodes.length:Int)))*56≤140737488355328 then
  if 0≤(if 5 < (if 1 > (p0.Nodes.length:Int) then 1 else (p0.Nodes.length:Int)) then 5 else (if 1 > (p0.Nodes.length:Int) then 1 else (p0.Nodes.length:Int)))∧(if 5 < (if 1 > (p0.Nodes.length:Int) then 1 else (p0.Nodes.length:Int)) then 5 else (if 1 > (p0.Nodes.length:Int) then 1 else (p0.Nodes.length:Int)))≤(if 5 < (if 1 > (p0.Nodes.length:Int) then 1 else (p0.Nodes.length:Int)) then 5 else (if 1 > (p0.Nodes.length:Int) then 1 else (p0.Nodes.length:Int)))∧(if 5 < (if 1 > (p0.Nodes.length:Int) then 1 else (p0.Nodes.length:Int)) then 5 else (if 1 > (p0.Nodes.length:Int) then 1 else (p0.Nodes.length:Int)))*1≤140737488355328 then
   (g_ref02_Draft_Permutation (Tharuspexref02_Draft.mk (List.replicate (Int.toNat (if 5 < (if 1 > (p0.Nodes.length:Int) then 1 else (p0.Nodes.length:Int)) then 5 else (if 1 > (p0.Nodes.length:Int) then 1 else (p0.Nodes.length:Int)))) (0:Int)) 0 p0.Order)).bind fun x1 =>
   (whileN fuel (g_ref05_Draft_Net_b0 p0 x1) (1,0,(List.replicate (Int.toNat (if 5 < (if 1 > (p0.Nodes.length:Int) then 1 else (p0.Nodes.length:Int)) then 5 else (if 1 > (p0.Nodes.length:Int) then 1 else (p0.Nodes.length:Int)))) ((Sum.inl 0):(Int ⊕ Tapi_Node))))).bind fun x35 =>
   (whileN fuel (g_ref05_Draft_Net_b7 p0 x1) (0,x35)).bind fun x122 =>
   (alr x122).bind fun m123 =>
   some (Tapi_Net.mk (IntKind.i64.wrap (1+(IntKind.i64.wrap (Int.tmod p0.Grain 60)))) m123)
  else none
 else none
def g_ref05_Known_Of_b0 (p1:Tapi_Net) (p0:Tharuspexref05_Known) (s1:(Int × (List Int))):Option (Step (Int × (List Int)) (List Int)) :=
 if (decide (s1.1 < (p1.Nodes.length:Int)))=true then
  if 0≤(IntKind.u64.wrap (s1.1)) then
   if ((IntKind.u8.wrap (BitVec.ofInt (IntKind.bits .u8) (Int.fdiv p0.Which (2^min (Int.toNat (IntKind.u64.wrap (s1.1))) (IntKind.bits .u8))) &&& BitVec.ofInt (IntKind.bits .u8) 1).toNat)==1)=true then
    if s1.1=0 then
     (lkI p1.Nodes 0).bind fun a7 =>
     if a7.Card≠0 then
      if (s1.2++([Int.tmod (IntKind.i64.wrap (p0.V.1)) a7.Card]:(List Int))).length*8≤140737488355328 then
       some (.next (1,(s1.2++([Int.tmod (IntKind.i64.wrap (p0.V.1)) a7.Card]:(List Int)))))
      else none
     else none
    else
    if s1.1=1 then
     (lkI p1.Nodes 1).bind fun a10 =>
     if a10.Card≠0 then
      if (s1.2++([Int.tmod (IntKind.i64.wrap (p0.V.2.1)) a10.Card]:(List Int))).length*8≤140737488355328 then
       some (.next (2,(s1.2++([Int.tmod (IntKind.i64.wrap (p0.V.2.1)) a10.Card]:(List Int)))))
      else none
     else none
    else
    if s1.1=2 then
     (lkI p1.Nodes 2).bind fun a13 =>
     if a13.Card≠0 then
      if (s1.2++([Int.tmod (IntKind.i64.wrap (p0.V.2.2.1)) a13.Card]:(List Int))).length*8≤140737488355328 then
       some (.next (3,(s1.2++([Int.tmod (IntKind.i64.wrap (p0.V.2.2.1)) a13.Card]:(List Int)))))
      else none
     else none
    else
    if s1.1=3 then
     (lkI p1.Nodes 3).bind fun a16 =>
     if a16.Card≠0 then
      if (s1.2++([Int.tmod (IntKind.i64.wrap (p0.V.2.2.2.1)) a16.Card]:(List Int))).length*8≤140737488355328 then
       some (.next (4,(s1.2++([Int.tmod (IntKind.i64.wrap (p0.V.2.2.2.1)) a16.Card]:(List Int)))))
      else none
     else none
    else
    if s1.1=4 then
     (lkI p1.Nodes 4).bind fun a19 =>
     if a19.Card≠0 then
      if (s1.2++([Int.tmod (IntKind.i64.wrap (p0.V.2.2.2.2.1)) a19.Card]:(List Int))).length*8≤140737488355328 then
       some (.next (5,(s1.2++([Int.tmod (IntKind.i64.wrap (p0.V.2.2.2.2.1)) a19.Card]:(List Int)))))
      else none
     else none
    else
    if s1.1=5 then
     (lkI p1.Nodes 5).bind fun a22 =>
     if a22.Card≠0 then
      if (s1.2++([Int.tmod (IntKind.i64.wrap (p0.V.2.2.2.2.2.1)) a22.Card]:(List Int))).length*8≤140737488355328 then
       some (.next (6,(s1.2++([Int.tmod (IntKind.i64.wrap (p0.V.2.2.2.2.2.1)) a22.Card]:(List Int)))))
      else none
     else none
    else
    if s1.1=6 then
     (lkI p1.Nodes 6).bind fun a25 =>
     if a25.Card≠0 then
      if (s1.2++([Int.tmod (IntKind.i64.wrap (p0.V.2.2.2.2.2.2.1)) a25.Card]:(List Int))).length*8≤140737488355328 then
       some (.next (7,(s1.2++([Int.tmod (IntKind.i64.wrap (p0.V.2.2.2.2.2.2.1)) a25.Card]:(List Int)))))
      else none
     else none
    else
    if s1.1=7 then
     (lkI p1.Nodes 7).bind fun a28 =>
     if a28.Card≠0 then
      if (s1.2++([Int.tmod (IntKind.i64.wrap (p0.V.2.2.2.2.2.2.2)) a28.Card]:(List Int))).length*8≤140737488355328 then
       some (.next (8,(s1.2++([Int.tmod (IntKind.i64.wrap (p0.V.2.2.2.2.2.2.2)) a28.Card]:(List Int)))))
      else none
     else none
    else
    none
   else
   if (s1.2++([-1]:(List Int))).length*8≤140737488355328 then
    some (.next (IntKind.i64.wrap (s1.1+1),(s1.2++([-1]:(List Int)))))
   else none
  else none
 else
 some (.done s1.2)
def g_ref05_Known_Of (p0:Tharuspexref05_Known) (p1:Tapi_Net):Option (List Int) :=
 (whileN fuel (g_ref05_Known_Of_b0 p1 p0) (0,([]:(List Int)))).bind fun x31 =>
 some x31
def g_ref24_Draft_Of (p0:Tharuspexref24_Draft) (p1:Tapi_Net):Option (Int × Int × Tapi_Shift) :=
 if (p1.Nodes.length:Int)≠0 then
  if (p1.Nodes.length:Int)≠0 then
   (lkI p1.Nodes (Int.tmod (IntKind.i64.wrap (p0.Node)) (p1.Nodes.length:Int))).bind fun a1 =>
   if (a1.Rows.length:Int)≠0 then
    if a1.Card≠0 then
     if (if (IntKind.i64.wrap (a1.Card - 1)) > 1 then (IntKind.i64.wrap (a1.Card - 1)) else 1)≠0 then
      if a1.Card≠0 then
       (lkI p1.Nodes (Int.tmod (IntKind.i64.wrap (p0.V)) (p1.Nodes.length:Int))).bind fun a3 =>
       if a3.Card≠0 then
        some (Int.tmod (IntKind.i64.wrap (p0.V)) (p1.Nodes.length:Int),Int.tmod (IntKind.i64.wrap (p0.Value)) a3.Card,(Tapi_Shift.mk (Int.tmod (IntKind.i64.wrap (p0.Node)) (p1.Nodes.length:Int)) (Int.tmod (IntKind.i64.wrap (p0.Row)) (a1.Rows.length:Int)) (Int.tmod (IntKind.i64.wrap (p0.From)) a1.Card) (Int.tmod (IntKind.i64.wrap ((IntKind.i64.wrap ((Int.tmod (IntKind.i64.wrap (p0.From)) a1.Card)+1))+(Int.tmod (IntKind.i64.wrap (p0.To)) (if (IntKind.i64.wrap (a1.Card - 1)) > 1 then (IntKind.i64.wrap (a1.Card - 1)) else 1)))) a1.Card)))
       else none
      else none
     else none
    else none
   else none
  else none
 else none
def g_ref01_digits_b0  (s1:(Int × (List Int))):Option (Step (Int × (List Int)) (List Int)) :=
 if (s1.1 != 0)=true then
  if (s1.2++([(if (IntKind.i64.wrap (0 - (Int.tmod s1.1 10000))) > (Int.tmod s1.1 10000) then (IntKind.i64.wrap (0 - (Int.tmod s1.1 10000))) else (Int.tmod s1.1 10000))]:(List Int))).length*8≤140737488355328 then
   some (.next (IntKind.i64.wrap (Int.tdiv s1.1 10000),(s1.2++([(if (IntKind.i64.wrap (0 - (Int.tmod s1.1 10000))) > (Int.tmod s1.1 10000) then (IntKind.i64.wrap (0 - (Int.tmod s1.1 10000))) else (Int.tmod s1.1 10000))]:(List Int)))))
  else none
 else
 some (.done s1.2)
def g_ref01_digits (p0:Int):Option (List Int) :=
 (whileN fuel (g_ref01_digits_b0) (p0,([]:(List Int)))).bind fun x5 =>
 some x5
def g_ref01_compare_b0 (p0:(List Int)) (p1:(List Int)) (s5:Int):Option (Step Int (Int ⊕ Unit)) :=
 if (decide (s5≥0))=true then
  (lkI p0 s5).bind fun a8 =>
  (lkI p1 s5).bind fun a10 =>
  if (a8 != a10)=true then
   if (decide (a8 < a10))=true then
    some (.done (Sum.inl (-1)))
   else
   some (.done (Sum.inl 1))
  else
  some (.next (IntKind.i64.wrap (s5 - 1)))
 else
 some (.done (Sum.inr ()))
def g_ref01_compare (p0:(List Int)) (p1:(List Int)):Option Int :=
 if ((p0.length:Int) != (p1.length:Int))=true then
  if (decide ((p0.length:Int) < (p1.length:Int)))=true then
   some (-1)
  else
  some 1
 else
 (whileN fuel (g_ref01_compare_b0 p0 p1) (IntKind.i64.wrap ((p0.length:Int) - 1))).bind fun x16=>match x16 with
 | .inl x17=>(
  some x17)
 | .inr x18=>(
  some 0)
def g_ref01_cut_b0  (s1:(List Int)):Option (Step (List Int) (List Int)) :=
 if (decide ((s1.length:Int) > 0))=true then
  (lkI s1 (IntKind.i64.wrap ((s1.length:Int) - 1))).bind fun a4 =>
  if (a4==0)=true then
   if 0≤(0:Int)∧(0:Int)≤(IntKind.i64.wrap ((s1.length:Int) - 1))∧(IntKind.i64.wrap ((s1.length:Int) - 1))≤(s1.length:Int) then
    some (.next (sub s1 0 (IntKind.i64.wrap ((s1.length:Int) - 1))))
   else none
  else
  some (.done s1)
 else
 some (.done s1)
def g_ref01_cut (p0:(List Int)):Option (List Int) :=
 (whileN fuel (g_ref01_cut_b0) p0).bind fun x9 =>
 some x9
def g_ref01_times_b0 (p1:(List Int)) (s1:(Int × (List Int))) (p0:(List Int)) (s4:(Int × Int × (List Int))):Option (Step (Int × Int × (List Int)) (List Int)) :=
 if (decide (s4.2.1 < (p1.length:Int)))=true then
  (lkI s4.2.2 (IntKind.i64.wrap (s1.1+s4.2.1))).bind fun a7 =>
  (lkI p0 s1.1).bind fun a10 =>
  (lkI p1 s4.2.1).bind fun a12 =>
  (lkI s4.2.2 (IntKind.i64.wrap (s1.1+s4.2.1))).bind fun a14 =>
  some (.next (IntKind.i64.wrap (Int.tdiv (IntKind.i64.wrap ((IntKind.i64.wrap (s4.1+a7))+(IntKind.i64.wrap (a10*a12)))) 10000),IntKind.i64.wrap (s4.2.1+1),(List.set s4.2.2 (Int.toNat (IntKind.i64.wrap (s1.1+s4.2.1))) (Int.tmod (IntKind.i64.wrap ((IntKind.i64.wrap (s4.1+a7))+(IntKind.i64.wrap (a10*a12)))) 10000))))
 else
 if (decide (s4.1 > 0))=true then
  (lkI s4.2.2 (IntKind.i64.wrap (s1.1+s4.2.1))).bind fun a19 =>
  (lkI s4.2.2 (IntKind.i64.wrap (s1.1+s4.2.1))).bind fun a22 =>
  some (.next (IntKind.i64.wrap (Int.tdiv (IntKind.i64.wrap (s4.1+a19)) 10000),IntKind.i64.wrap (s4.2.1+1),(List.set s4.2.2 (Int.toNat (IntKind.i64.wrap (s1.1+s4.2.1))) (Int.tmod (IntKind.i64.wrap (s4.1+a19)) 10000))))
 else
 some (.done s4.2.2)
def g_ref01_times_b1 (p0:(List Int)) (p1:(List Int)) (s1:(Int × (List Int))):Option (Step (Int × (List Int)) (List Int)) :=
 if (decide (s1.1 < (p0.length:Int)))=true then
  (whileN fuel (g_ref01_times_b0 p1 s1 p0) (0,0,s1.2)).bind fun x26 =>
  some (.next (IntKind.i64.wrap (s1.1+1),x26))
 else
 some (.done s1.2)
def g_ref01_times (p0:(List Int)) (p1:(List Int)):Option (List Int) :=
 if 0≤(IntKind.i64.wrap ((p0.length:Int)+(p1.length:Int)))∧(IntKind.i64.wrap ((p0.length:Int)+(p1.length:Int)))≤(IntKind.i64.wrap ((p0.length:Int)+(p1.length:Int)))∧(IntKind.i64.wrap ((p0.length:Int)+(p1.length:Int)))*8≤140737488355328 then
  (whileN fuel (g_ref01_times_b1 p0 p1) (0,(List.replicate (Int.toNat (IntKind.i64.wrap ((p0.length:Int)+(p1.length:Int)))) (0:Int)))).bind fun x28 =>
  (g_ref01_cut x28).bind fun x29 =>
  some x29
 else none
def g_ref01_minus_b0 (p0:(List Int)) (p1:(List Int)) (s1:(Int × Int × (List Int))):Option (Step (Int × Int × (List Int)) (List Int)) :=
 if (decide (s1.2.1 < (p0.length:Int)))=true then
  (lkI p0 s1.2.1).bind fun a4 =>
  if (decide (s1.2.1 < (p1.length:Int)))=true then
   (lkI p1 s1.2.1).bind fun a8 =>
   if (decide ((IntKind.i64.wrap ((IntKind.i64.wrap (a4 - s1.1)) - a8)) < 0))=true then
    if (s1.2.2++([IntKind.i64.wrap ((IntKind.i64.wrap ((IntKind.i64.wrap (a4 - s1.1)) - a8))+10000)]:(List Int))).length*8≤140737488355328 then
     some (.next (1,IntKind.i64.wrap (s1.2.1+1),(s1.2.2++([IntKind.i64.wrap ((IntKind.i64.wrap ((IntKind.i64.wrap (a4 - s1.1)) - a8))+10000)]:(List Int)))))
    else none
   else
   if (s1.2.2++([IntKind.i64.wrap ((IntKind.i64.wrap (a4 - s1.1)) - a8)]:(List Int))).length*8≤140737488355328 then
    some (.next (0,IntKind.i64.wrap (s1.2.1+1),(s1.2.2++([IntKind.i64.wrap ((IntKind.i64.wrap (a4 - s1.1)) - a8)]:(List Int)))))
   else none
  else
  if (decide ((IntKind.i64.wrap (a4 - s1.1)) < 0))=true then
   if (s1.2.2++([IntKind.i64.wrap ((IntKind.i64.wrap (a4 - s1.1))+10000)]:(List Int))).length*8≤140737488355328 then
    some (.next (1,IntKind.i64.wrap (s1.2.1+1),(s1.2.2++([IntKind.i64.wrap ((IntKind.i64.wrap (a4 - s1.1))+10000)]:(List Int)))))
   else none
  else
  if (s1.2.2++([IntKind.i64.wrap (a4 - s1.1)]:(List Int))).length*8≤140737488355328 then
   some (.next (0,IntKind.i64.wrap (s1.2.1+1),(s1.2.2++([IntKind.i64.wrap (a4 - s1.1)]:(List Int)))))
  else none
 else
 some (.done s1.2.2)
def g_ref01_minus (p0:(List Int)) (p1:(List Int)):Option (List Int) :=
 (whileN fuel (g_ref01_minus_b0 p0 p1) (0,0,([]:(List Int)))).bind fun x15 =>
 (g_ref01_cut x15).bind fun x16 =>
 some x16
def g_ref01_divide_b0 (p1:(List Int)) (x8:(List Int)) (s10:(Int × Int × Int)):Option (Step (Int × Int × Int) (Int × Int)) :=
 if (decide (s10.2.2≥(if (IntKind.i64.wrap ((IntKind.i64.wrap ((p1.length:Int) - 1)) - 1)) > 0 then (IntKind.i64.wrap ((IntKind.i64.wrap ((p1.length:Int) - 1)) - 1)) else 0)))=true then
  if (decide (s10.2.2 < (x8.length:Int)))=true then
   (lkI x8 s10.2.2).bind fun a15 =>
   if (decide (s10.2.2≤(IntKind.i64.wrap ((p1.length:Int) - 1))))=true then
    (lkI p1 s10.2.2).bind fun a19 =>
    some (.next (IntKind.i64.wrap ((IntKind.i64.wrap (s10.1*10000))+a19),IntKind.i64.wrap ((IntKind.i64.wrap (s10.2.1*10000))+a15),IntKind.i64.wrap (s10.2.2 - 1)))
   else
   some (.next (s10.1,IntKind.i64.wrap ((IntKind.i64.wrap (s10.2.1*10000))+a15),IntKind.i64.wrap (s10.2.2 - 1)))
  else
  if (decide (s10.2.2≤(IntKind.i64.wrap ((p1.length:Int) - 1))))=true then
   (lkI p1 s10.2.2).bind fun a23 =>
   some (.next (IntKind.i64.wrap ((IntKind.i64.wrap (s10.1*10000))+a23),IntKind.i64.wrap (s10.2.1*10000),IntKind.i64.wrap (s10.2.2 - 1)))
  else
  some (.next (s10.1,IntKind.i64.wrap (s10.2.1*10000),IntKind.i64.wrap (s10.2.2 - 1)))
 else
 some (.done (s10.1,s10.2.1))
def g_ref01_divide_b1 (p1:(List Int)) (x8:(List Int)) (s27:(Int × Int)):Option (Step (Int × Int) Int) :=
 if (decide (s27.1 < s27.2))=true then
  (g_ref01_times p1 [IntKind.i64.wrap (Int.tdiv (IntKind.i64.wrap ((IntKind.i64.wrap (s27.1+s27.2))+1)) 2)]).bind fun x30 =>
  (g_ref01_compare x30 x8).bind fun x32 =>
  if (decide (x32≤0))=true then
   some (.next (IntKind.i64.wrap (Int.tdiv (IntKind.i64.wrap ((IntKind.i64.wrap (s27.1+s27.2))+1)) 2),s27.2))
  else
  some (.next (s27.1,IntKind.i64.wrap ((IntKind.i64.wrap (Int.tdiv (IntKind.i64.wrap ((IntKind.i64.wrap (s27.1+s27.2))+1)) 2)) - 1)))
 else
 some (.done s27.1)
def g_ref01_divide_b2 (p0:(List Int)) (p1:(List Int)) (s3:((List Int) × Int × (List Int))):Option (Step ((List Int) × Int × (List Int)) ((List Int) × (List Int))) :=
 if (decide (s3.2.1≥0))=true then
  (lkI p0 s3.2.1).bind fun a6 =>
  if (([a6]:(List Int))++s3.1).length*8≤140737488355328 then
   (g_ref01_cut (([a6]:(List Int))++s3.1)).bind fun x8 =>
   (whileN fuel (g_ref01_divide_b0 p1 x8) (0,0,IntKind.i64.wrap ((IntKind.i64.wrap ((p1.length:Int) - 1))+1))).bind fun x26 =>
   if (IntKind.i64.wrap (x26.1+1))≠0 then
    if x26.1≠0 then
     (whileN fuel (g_ref01_divide_b1 p1 x8) (IntKind.i64.wrap (Int.tdiv x26.2 (IntKind.i64.wrap (x26.1+1))),IntKind.i64.wrap (Int.tdiv x26.2 x26.1))).bind fun x37 =>
     (lkI s3.2.2 s3.2.1).bind fun a38 =>
     (g_ref01_cut [x37]).bind fun x40 =>
     (g_ref01_times p1 x40).bind fun x42 =>
     (g_ref01_minus x8 x42).bind fun x44 =>
     some (.next (x44,IntKind.i64.wrap (s3.2.1 - 1),(List.set s3.2.2 (Int.toNat s3.2.1) x37)))
    else none
   else none
  else none
 else
 some (.done (s3.1,s3.2.2))
def g_ref01_divide (p0:(List Int)) (p1:(List Int)):Option ((List Int) × (List Int)) :=
 if (decide ((p0.length:Int)≤(IntKind.i64.wrap ((p1.length:Int) - 1))))=true then
  if p0.length*8≤140737488355328 then
   some ([],p0)
  else none
 else
 if 0≤(IntKind.i64.wrap ((p0.length:Int) - (IntKind.i64.wrap ((p1.length:Int) - 1))))∧(IntKind.i64.wrap ((p0.length:Int) - (IntKind.i64.wrap ((p1.length:Int) - 1))))≤(IntKind.i64.wrap ((p0.length:Int) - (IntKind.i64.wrap ((p1.length:Int) - 1))))∧(IntKind.i64.wrap ((p0.length:Int) - (IntKind.i64.wrap ((p1.length:Int) - 1))))*8≤140737488355328 then
  if 0≤(IntKind.i64.wrap ((p0.length:Int) - (IntKind.i64.wrap ((p1.length:Int) - 1))))∧(IntKind.i64.wrap ((p0.length:Int) - (IntKind.i64.wrap ((p1.length:Int) - 1))))≤(p0.length:Int)∧(p0.length:Int)≤(p0.length:Int) then
   if (sub p0 (IntKind.i64.wrap ((p0.length:Int) - (IntKind.i64.wrap ((p1.length:Int) - 1)))) (p0.length:Int)).length*8≤140737488355328 then
    (whileN fuel (g_ref01_divide_b2 p0 p1) ((sub p0 (IntKind.i64.wrap ((p0.length:Int) - (IntKind.i64.wrap ((p1.length:Int) - 1)))) (p0.length:Int)),IntKind.i64.wrap ((((List.replicate (Int.toNat (IntKind.i64.wrap ((p0.length:Int) - (IntKind.i64.wrap ((p1.length:Int) - 1))))) (0:Int)).length):Int) - 1),(List.replicate (Int.toNat (IntKind.i64.wrap ((p0.length:Int) - (IntKind.i64.wrap ((p1.length:Int) - 1))))) (0:Int)))).bind fun x48 =>
    (g_ref01_cut x48.2).bind fun x49 =>
    some (x49,x48.1)
   else none
  else none
 else none
def g_ref01_gcd_b0  (s1:((List Int) × (List Int))):Option (Step ((List Int) × (List Int)) (List Int)) :=
 if (decide ((s1.2.length:Int) > 0))=true then
  (g_ref01_divide s1.1 s1.2).bind fun x4 =>
  some (.next (s1.2,x4.2))
 else
 some (.done s1.1)
def g_ref01_gcd (p0:(List Int)) (p1:(List Int)):Option (List Int) :=
 (whileN fuel (g_ref01_gcd_b0) (p0,p1)).bind fun x7 =>
 some x7
def g_ref01_value_b0 (p0:(List Int)) (s7:(Int × Int)):Option (Step (Int × Int) Int) :=
 if (decide (s7.2≥0))=true then
  (lkI p0 s7.2).bind fun a10 =>
  some (.next (IntKind.i64.wrap ((IntKind.i64.wrap (10000*s7.1))+a10),IntKind.i64.wrap (s7.2 - 1)))
 else
 some (.done s7.1)
def g_ref01_value (p0:(List Int)):Option (Int × Bool) :=
 (g_ref01_digits 4611686018427387903).bind fun x1 =>
 (g_ref01_compare p0 x1).bind fun x3 =>
 if (decide (x3 > 0))=true then
  some (0,false)
 else
 (whileN fuel (g_ref01_value_b0 p0) (0,IntKind.i64.wrap ((p0.length:Int) - 1))).bind fun x13 =>
 some (x13,true)
def g_ref01_made (p0:Bool) (p1:(List Int)) (p2:(List Int)):Option (Tapi_Q × Bool) :=
 (g_ref01_gcd p1 p2).bind fun x1 =>
 (g_ref01_divide p1 x1).bind fun x3 =>
 (g_ref01_divide p2 x1).bind fun x5 =>
 (g_ref01_value x3.1).bind fun x7 =>
 (g_ref01_value x5.1).bind fun x9 =>
 if (!x7.2)=true then
  some ((Tapi_Q.mk 0 0),false)
 else
 if (!x9.2)=true then
  some ((Tapi_Q.mk 0 0),false)
 else
 if p0=true then
  some ((Tapi_Q.mk (IntKind.i64.wrap (0 - x7.1)) x9.1),true)
 else
 some ((Tapi_Q.mk x7.1 x9.1),true)
def g_ref01_Make (p0:Int) (p1:Int):Option (Tapi_Q × Bool) :=
 (g_ref01_digits p0).bind fun x1 =>
 (g_ref01_digits p1).bind fun x3 =>
 (g_ref01_made (!((decide (p0 < 0))==(decide (p1 < 0)))) x1 x3).bind fun x5 =>
 some (x5.1,x5.2)
def g_ref01_Of (p0:Int) (p1:Int):Option Tapi_Q :=
 (g_ref01_Make p0 p1).bind fun x1 =>
 some x1.1
def g_ref01_Right (p0:Tapi_Q):Option Bool :=
 if (decide (p0.D < 1))=true then
  some false
 else
 if (decide (p0.D > 4611686018427387903))=true then
  some false
 else
 if (decide (p0.N > 4611686018427387903))=true then
  some false
 else
 if (decide (p0.N < (-4611686018427387903)))=true then
  some false
 else
 (g_ref01_digits p0.N).bind fun x9 =>
 (g_ref01_digits p0.D).bind fun x11 =>
 (g_ref01_gcd x9 x11).bind fun x13 =>
 (g_ref01_compare x13 [1]).bind fun x15 =>
 some (x15==0)
def g_law24_SensitiveBack_b0 (a37:(List Int)) (x9:(Int × Int × Tapi_Shift)) (x5:Tapi_Net) (x7:(List Int)) (x13:Tapi_Q) (s41:(Int × Int × Int)):Option (Step (Int × Int × Int) (Unit ⊕ (Int × Int))) :=
 (lkI a37 x9.2.2.From).bind fun a42 =>
 if (decide (s41.2.2≤a42))=true then
  (g_sensitive_At x5 x7 x9.1 x9.2.1 x9.2.2 (Tapi_Q.mk s41.2.2 1)).bind fun x46 =>
  if (x46.2==0)=true then
   if ((x46.1.N==x13.N) && ((x46.1.D==x13.D) && true))=true then
    some (.next (IntKind.i64.wrap (s41.1+1),IntKind.i64.wrap (s41.2.1+1),IntKind.i64.wrap (s41.2.2+1)))
   else
   some (.next (s41.1,IntKind.i64.wrap (s41.2.1+1),IntKind.i64.wrap (s41.2.2+1)))
  else
  if (x46.2 != 7)=true then
   some (.done (Sum.inl ()))
  else
  some (.next (s41.1,s41.2.1,IntKind.i64.wrap (s41.2.2+1)))
 else
 some (.done (Sum.inr (s41.1,s41.2.1)))
def g_law24_SensitiveBack (p0:Tharuspexlaw24_Story) (p1:(Int × Int)):Option Bool :=
 (g_law24_works).bind fun x1 =>
 if (!x1)=true then
  some false
 else
 (g_ref05_Draft_Net p0.N).bind fun x5 =>
 (g_ref05_Known_Of (Tharuspexref05_Known.mk p0.K.Which (p0.K.V.1,p0.K.V.2.1,p0.K.V.2.2.1,p0.K.V.2.2.2.1,p0.K.V.2.2.2.2.1,p0.K.V.2.2.2.2.2.1,p0.K.V.2.2.2.2.2.2.1,p0.K.V.2.2.2.2.2.2.2)) x5).bind fun x7 =>
 (g_ref24_Draft_Of p0.D x5).bind fun x9 =>
 if (x9.2.2.From==x9.2.2.To)=true then
  some true
 else
 if (IntKind.i64.wrap (2+(IntKind.i64.wrap (Int.tmod p1.2 12))))≠0 then
  (g_ref01_Of (Int.tmod (IntKind.i64.wrap (p1.1)) (IntKind.i64.wrap (2+(IntKind.i64.wrap (Int.tmod p1.2 12))))) (IntKind.i64.wrap (1+(IntKind.i64.wrap (Int.tmod p1.2 12))))).bind fun x13 =>
  (g_sensitive_Threshold x5 x7 x9.1 x9.2.1 x9.2.2 x13).bind fun x15 =>
  if (x15.2==0)=true then
   (g_ref01_Right x15.1).bind fun x19 =>
   if (!x19)=true then
    some false
   else
   if (decide (x15.1.N > 1000))=true then
    some true
   else
   if (decide (x15.1.N < (-1000)))=true then
    some true
   else
   if (decide (x15.1.D > 1000))=true then
    some true
   else
   (g_sensitive_At x5 x7 x9.1 x9.2.1 x9.2.2 x15.1).bind fun x29 =>
   if (x29.2==0)=true then
    some ((x29.1.N==x13.N) && ((x29.1.D==x13.D) && true))
   else
   some false
  else
  if (x15.2 != 4)=true then
   some false
  else
  (lkI x5.Nodes x9.2.2.Node).bind fun a35 =>
  (lkI a35.Rows x9.2.2.Row).bind fun a37 =>
  (lkI a37 x9.2.2.To).bind fun a39 =>
  (whileN fuel (g_law24_SensitiveBack_b0 a37 x9 x5 x7 x13) (0,0,IntKind.i64.wrap (0 - a39))).bind fun x56=>match x56 with
  | .inl x57=>(
   some false)
  | .inr x58=>(
   if (x58.1==0)=true then
    some true
   else
   if (x58.1==x58.2)=true then
    if (decide (x58.1 > 1))=true then
     some true
    else
    if (x58.1==1)=true then
     if (x58.2==1)=true then
      (lkI a37 x9.2.2.From).bind fun a69 =>
      some (decide ((IntKind.i64.wrap (a39+a69)) > 0))
     else
     some false
    else
    some false
   else
   if (x58.1==1)=true then
    if (x58.2==1)=true then
     (lkI a37 x9.2.2.From).bind fun a75 =>
     some (decide ((IntKind.i64.wrap (a39+a75)) > 0))
    else
    some false
   else
   some false)
 else none
end Go.Ab
namespace Go.Ab
open Go Go.Proofs
set_option maxRecDepth 100000
set_option maxHeartbeats 4000000
theorem hfol:(Try.prog.follows .mixedOrders)=true:=by kernel_rfl
theorem bodyB_12:bodyB Try.prog 12=true:=by kernel_rfl
theorem bodyB_15:bodyB Try.prog 15=true:=by kernel_rfl
theorem bodyB_16:bodyB Try.prog 16=true:=by kernel_rfl
theorem bodyB_20:bodyB Try.prog 20=true:=by kernel_rfl
theorem bodyB_21:bodyB Try.prog 21=true:=by kernel_rfl
theorem bodyB_23:bodyB Try.prog 23=true:=by kernel_rfl
theorem bodyB_25:bodyB Try.prog 25=true:=by kernel_rfl
theorem bodyB_26:bodyB Try.prog 26=true:=by kernel_rfl
theorem bodyB_27:bodyB Try.prog 27=true:=by kernel_rfl
theorem bodyB_29:bodyB Try.prog 29=true:=by kernel_rfl
theorem bodyB_31:bodyB Try.prog 31=true:=by kernel_rfl
theorem bodyB_35:bodyB Try.prog 35=true:=by kernel_rfl
theorem bodyB_36:bodyB Try.prog 36=true:=by kernel_rfl
theorem bodyB_45:bodyB Try.prog 45=true:=by kernel_rfl
theorem bodyB_46:bodyB Try.prog 46=true:=by kernel_rfl
theorem bodyB_48:bodyB Try.prog 48=true:=by kernel_rfl
theorem bodyB_49:bodyB Try.prog 49=true:=by kernel_rfl
theorem bodyB_50:bodyB Try.prog 50=true:=by kernel_rfl
theorem bodyB_51:bodyB Try.prog 51=true:=by kernel_rfl
theorem bodyB_53:bodyB Try.prog 53=true:=by kernel_rfl
theorem bodyB_54:bodyB Try.prog 54=true:=by kernel_rfl
theorem bodyB_55:bodyB Try.prog 55=true:=by kernel_rfl
theorem bodyB_56:bodyB Try.prog 56=true:=by kernel_rfl
theorem bodyB_57:bodyB Try.prog 57=true:=by kernel_rfl
theorem bodyB_60:bodyB Try.prog 60=true:=by kernel_rfl
theorem bodyB_61:bodyB Try.prog 61=true:=by kernel_rfl
theorem bodyB_62:bodyB Try.prog 62=true:=by kernel_rfl
theorem bodyB_63:bodyB Try.prog 63=true:=by kernel_rfl
theorem bodyB_64:bodyB Try.prog 64=true:=by kernel_rfl
theorem bodyB_65:bodyB Try.prog 65=true:=by kernel_rfl
theorem bodyB_66:bodyB Try.prog 66=true:=by kernel_rfl
theorem bodyB_67:bodyB Try.prog 67=true:=by kernel_rfl
theorem bodyB_70:bodyB Try.prog 70=true:=by kernel_rfl
theorem bodyB_71:bodyB Try.prog 71=true:=by kernel_rfl
theorem bodyB_74:bodyB Try.prog 74=true:=by kernel_rfl
theorem bodyB_78:bodyB Try.prog 78=true:=by kernel_rfl
theorem bodyB_80:bodyB Try.prog 80=true:=by kernel_rfl
theorem bodyB_81:bodyB Try.prog 81=true:=by kernel_rfl
theorem bodyB_82:bodyB Try.prog 82=true:=by kernel_rfl
theorem bodyB_84:bodyB Try.prog 84=true:=by kernel_rfl
theorem bodyB_85:bodyB Try.prog 85=true:=by kernel_rfl
theorem bodyB_86:bodyB Try.prog 86=true:=by kernel_rfl
theorem bodyB_89:bodyB Try.prog 89=true:=by kernel_rfl
theorem bodyB_90:bodyB Try.prog 90=true:=by kernel_rfl
theorem bodyB_91:bodyB Try.prog 91=true:=by kernel_rfl
theorem bodyB_92:bodyB Try.prog 92=true:=by kernel_rfl
theorem bodyB_96:bodyB Try.prog 96=true:=by kernel_rfl
theorem bodyB_100:bodyB Try.prog 100=true:=by kernel_rfl
theorem bodyB_103:bodyB Try.prog 103=true:=by kernel_rfl
theorem bodyB_104:bodyB Try.prog 104=true:=by kernel_rfl
theorem bodyB_105:bodyB Try.prog 105=true:=by kernel_rfl
theorem bodyB_106:bodyB Try.prog 106=true:=by kernel_rfl
theorem bodyB_111:bodyB Try.prog 111=true:=by kernel_rfl
theorem bodyB_112:bodyB Try.prog 112=true:=by kernel_rfl
theorem bodyB_113:bodyB Try.prog 113=true:=by kernel_rfl
theorem bodyB_115:bodyB Try.prog 115=true:=by kernel_rfl
noncomputable abbrev s111_17 (p1:Tapi_Node) (s12:Int) (a15:(List Int)):List (Nat × AV):=[(0,.yld 4),(6,z2 p1.Rows),(7,vI (zn p1.Rows)),(8,vI s12),(9,vB true),(10,vI s12),(11,.fz [z1 a15]),(12,z1 a15),(3,vI s12),(4,z1 a15),(13,.yld 4),(14,vI s12),(15,z1 a15)]
theorem g_net_network_filled_ok (p0:Tnet_network) (p1:Tapi_Node) (x:Bool) (h:g_net_network_filled p0 p1=some x):CallOk Try.prog 111 [.agg [vI p0.Net.Grain,eL false eTapi_Node p0.Net.Nodes,z1 p0.cards,eL true (AV.int .u64) p0.sets,z1 p0.order],.agg [vI p1.Card,z1 p1.Parents,z2 p1.Rows]] (.ret (vB x) []):=by
 refine fn_ok [] Try.func111 rfl (by decide +kernel) rfl ?_
 unfold g_net_network_filled at h
 refine wp_eqB (base':=0) (st':=⟨[(0,.agg [vI p0.Net.Grain,eL false eTapi_Node p0.Net.Nodes,z1 p0.cards,eL true (AV.int .u64) p0.sets,z1 p0.order]),(1,.agg [vI p1.Card,z1 p1.Parents,z2 p1.Rows])],[],66⟩) kr kr ?_
 refine wp_seq (reg_in ?_)
 refine sgL false [] [] false gE ?_
 refine sgL false [] [] false gE ?_
 refine sz 1 3 (reg_end rfl (sq (wp_seq (wp_seq (reg_in (sz 2 2 ?_))))))
 refine lenL (enc:=eI) (l:=p1.Parents) (fl:=true) kr gE ?_
 refine sz 1 4 (reg_end rfl (wp_block ?_))
 refine wwh h (fun s1=>⟨[(2,.ptr 0 0 0),(3,.ptr 1 0 0),(4,.ptr 2 0 0),(5,vI s1.1),(14,z1 p1.Parents),(15,vI (zn p1.Parents)),(16,vI s1.2)],[oX true false 5 (.agg [vI p0.Net.Grain,eL false eTapi_Node p0.Net.Nodes,z1 p0.cards,eL true (AV.int .u64) p0.sets,z1 p0.order]),oX true false 3 (.agg [vI p1.Card,z1 p1.Parents,z2 p1.Rows]),oX true true 1 (vB false)],66⟩) (fun v out=>out=.go (.exit 0) ⟨[(2,.ptr 0 0 0),(3,.ptr 1 0 0),(4,.ptr 2 0 0),(5,vI v)],[oX true false 5 (.agg [vI p0.Net.Grain,eL false eTapi_Node p0.Net.Nodes,z1 p0.cards,eL true (AV.int .u64) p0.sets,z1 p0.order]),oX true false 3 (.agg [vI p1.Card,z1 p1.Parents,z2 p1.Rows]),oX true true 1 (vB false)],66⟩) (wk_gc (live:=[2,3,4,5,14,15,16]) (keep:=[0,1,2]) kr) ?_ ?_
 ·intro s1 o h
  unfold g_net_network_filled_b0 at h
  refine sq (wp_seq ?_)
  refine wb [17] h (fun q3 h=>?_) (fun q3 h=>?_)
  ·refine wcT (wp_skip (wp_seq (wp_block (wp_seq (reg_in ?_)))))
   refine bind_elim h (fun a4 q5 h=>?_)
   refine idxL' (enc:=eI) (l:=p1.Parents) (n:=s1.2) (fl:=true) (w:=1) (a:=a4) kr rfl gE q5 ?_
   refine sz 2 3 (reg_end rfl (reg_in (sz 4 4 ?_)))
   refine bind_elim h (fun a6 q7 h=>?_)
   refine idxL' (enc:=eI) (l:=p0.cards) (n:=a4) (fl:=true) (w:=1) (a:=a6) kr rfl gE q7 ?_
   refine sz 3 8 (reg_end rfl ?_)
   refine wgc [2,3,4,5,14,15,16] [0,1,2] ⟨[(2,.ptr 0 0 0),(3,.ptr 1 0 0),(4,.ptr 2 0 0),(5,vI (zw (s1.1*a6))),(14,z1 p1.Parents),(15,vI (zn p1.Parents)),(16,vI s1.2)],[oX true false 5 (.agg [vI p0.Net.Grain,eL false eTapi_Node p0.Net.Nodes,z1 p0.cards,eL true (AV.int .u64) p0.sets,z1 p0.order]),oX true false 3 (.agg [vI p1.Card,z1 p1.Parents,z2 p1.Rows]),oX true true 1 (vB false)],66⟩ ?_
   refine rn ?_
   cases h
   exact ⟨_,rfl,(wk_gc (live:=[2,3,4,5,14,15,16]) (keep:=[0,1,2]) kr)⟩
  refine wcF (wg [2,3,4,5] [0,1,2] ?_)
  refine wp_exit ?_
  cases h
  exact ⟨kr,rfl⟩
 intro x9 h out hx
 subst hx
 refine wp_seq (wp_seq (reg_in (sz 2 2 ?_)))
 refine lenL (enc:=z1) (l:=p1.Rows) (fl:=false) kr gE ?_
 refine sz 2 5 (reg_end rfl ?_)
 refine wbz h (fun q11 h=>?_) (fun q11 h=>?_)
 ·refine wp_seq (wg [4] [2] (rn (wg [4] [0] ?_)))
  cases h
  exact wp_ret (show fnOut _ _ _ _=_ from by kernel_rfl)
 refine wp_skip (wp_seq (wp_seq (wg [2,3,4] [0,1,2] (reg_in (sz 1 1 ?_)))))
 refine inlR (f:=119) (fn:=Try.f119) (as0:=[.agg [vI p1.Card,z1 p1.Parents,z2 p1.Rows]]) kr Try.func119 rfl (by decide +kernel) rfl ?_
 refine wp_eqB (base':=3) (st':=⟨[(0,.agg [vI p1.Card,z1 p1.Parents,z2 p1.Rows])],[oX true false 5 (.agg [vI p0.Net.Grain,eL false eTapi_Node p0.Net.Nodes,z1 p0.cards,eL true (AV.int .u64) p0.sets,z1 p0.order]),oX true false 3 (.agg [vI p1.Card,z1 p1.Parents,z2 p1.Rows]),oX true true 1 (vB false)],4⟩) kr kr ?_
 refine wp_seq (reg_in ?_)
 refine sgL false [] [] false gE ?_
 refine sz 1 2 (reg_end rfl (sq (wg [2] [3] ?_)))
 refine wp_ret ?_
 refine ⟨⟨[(2,.ptr 0 0 0),(3,.ptr 1 0 0),(4,.ptr 2 0 0),(33,.agg [vI p1.Card,z1 p1.Parents,z2 p1.Rows]),(34,.fn (.func 125) [] [.ptr 3 0 0])],[oX true false 5 (.agg [vI p0.Net.Grain,eL false eTapi_Node p0.Net.Nodes,z1 p0.cards,eL true (AV.int .u64) p0.sets,z1 p0.order]),oX true false 3 (.agg [vI p1.Card,z1 p1.Parents,z2 p1.Rows]),oX true true 1 (vB false),oX true false 3 (.agg [vI p1.Card,z1 p1.Parents,z2 p1.Rows])],66⟩,by as_aux_lemma=>kernel_rfl,?_⟩
 refine reg_end rfl (wp_block ?_)
 refine wgc [2,3,4,34] [0,1,2,3] ⟨[(2,.ptr 0 0 0),(3,.ptr 1 0 0),(4,.ptr 2 0 0),(34,.fn (.func 125) [] [.ptr 3 0 0])],[oX true false 5 (.agg [vI p0.Net.Grain,eL false eTapi_Node p0.Net.Nodes,z1 p0.cards,eL true (AV.int .u64) p0.sets,z1 p0.order]),oX true false 3 (.agg [vI p1.Card,z1 p1.Parents,z2 p1.Rows]),oX true true 1 (vB false),oX true false 3 (.agg [vI p1.Card,z1 p1.Parents,z2 p1.Rows])],66⟩ ?_
 refine wp_range (f:=125) (fn:=Try.f125) (first:=[]) (caps:=[.ptr 3 0 0]) rfl Try.func125 rfl (by decide +kernel) rfl rfl ?_
 refine wp_eqB (base':=5) (st':=⟨[(0,.yld 4),(1,.ptr 3 0 0)],[oX true false 5 (.agg [vI p0.Net.Grain,eL false eTapi_Node p0.Net.Nodes,z1 p0.cards,eL true (AV.int .u64) p0.sets,z1 p0.order]),oX true false 3 (.agg [vI p1.Card,z1 p1.Parents,z2 p1.Rows]),oX true true 1 (vB false),oX true false 3 (.agg [vI p1.Card,z1 p1.Parents,z2 p1.Rows]),.loop 66 [(2,.ptr 0 0 0),(3,.ptr 1 0 0),(4,.ptr 2 0 0),(34,.fn (.func 125) [] [.ptr 3 0 0])] [35,36] (cA Try.f111 [true,true,true,true,false,true,true]) (cB Try.f111 [true,true,true,true,false,true,true]) .ready none],19⟩) kr kr ?_
 refine wp_seq (reg_in (sz 2 2 ?_))
 refine lenL (enc:=z1) (l:=p1.Rows) (fl:=false) kr gE ?_
 refine sz 1 4 (reg_end rfl (wp_block ?_))
 refine wwh h (fun s12=>⟨[(0,.yld 4),(6,z2 p1.Rows),(7,vI (zn p1.Rows)),(8,vI s12)],[oX true false 5 (.agg [vI p0.Net.Grain,eL false eTapi_Node p0.Net.Nodes,z1 p0.cards,eL true (AV.int .u64) p0.sets,z1 p0.order]),oX true false 3 (.agg [vI p1.Card,z1 p1.Parents,z2 p1.Rows]),oX true true 1 (vB false),oX true false 3 (.agg [vI p1.Card,z1 p1.Parents,z2 p1.Rows]),.loop 66 [(2,.ptr 0 0 0),(3,.ptr 1 0 0),(4,.ptr 2 0 0),(34,.fn (.func 125) [] [.ptr 3 0 0])] [35,36] (cA Try.f111 [true,true,true,true,false,true,true]) (cB Try.f111 [true,true,true,true,false,true,true]) .ready none],19⟩) (fun x out=>out=match x with | .inl v=>.go (.ret) ⟨[],[oX true false 5 (.agg [vI p0.Net.Grain,eL false eTapi_Node p0.Net.Nodes,z1 p0.cards,eL true (AV.int .u64) p0.sets,z1 p0.order]),oX true false 3 (.agg [vI p1.Card,z1 p1.Parents,z2 p1.Rows]),oX true true 1 (vB false),oX true false 3 (.agg [vI p1.Card,z1 p1.Parents,z2 p1.Rows]),.loop 66 [(2,.ptr 0 0 0),(3,.ptr 1 0 0),(4,.ptr 2 0 0),(34,.fn (.func 125) [] [.ptr 3 0 0])] [35,36] (cA Try.f111 [true,true,true,true,false,true,true]) (cB Try.f111 [true,true,true,true,false,true,true]) .done (some .ret)],19⟩ | .inr v=>.go (.exit 0) ⟨[],[oX true false 5 (.agg [vI p0.Net.Grain,eL false eTapi_Node p0.Net.Nodes,z1 p0.cards,eL true (AV.int .u64) p0.sets,z1 p0.order]),oX true false 3 (.agg [vI p1.Card,z1 p1.Parents,z2 p1.Rows]),oX true true 1 (vB false),oX true false 3 (.agg [vI p1.Card,z1 p1.Parents,z2 p1.Rows]),.loop 66 [(2,.ptr 0 0 0),(3,.ptr 1 0 0),(4,.ptr 2 0 0),(34,.fn (.func 125) [] [.ptr 3 0 0])] [35,36] (cA Try.f111 [true,true,true,true,false,true,true]) (cB Try.f111 [true,true,true,true,false,true,true]) .ready none],19⟩) (wk_gc (live:=[0,6,7,8]) (keep:=[]) kr) ?_ ?_
 ·intro s12 o h
  unfold g_net_network_filled_b2 at h
  refine sq (wp_seq ?_)
  refine wb [9] h (fun q14 h=>?_) (fun q14 h=>?_)
  ·refine wcT (wp_skip (wp_seq (wp_block (wp_seq (reg_in (sz 1 1 ?_))))))
   refine bind_elim h (fun a15 q16 h=>?_)
   refine idxL' (enc:=z1) (l:=p1.Rows) (n:=s12) (fl:=false) (w:=1) (a:=a15) kr rfl gE q16 ?_
   refine sz 3 5 (reg_end rfl (wp_seq (reg_in (sz 3 3 ?_))))
   refine yldR (l:=4) (nt:=66) (us:=[vI s12,z1 a15]) (sl:=[(2,.ptr 0 0 0),(3,.ptr 1 0 0),(4,.ptr 2 0 0),(34,.fn (.func 125) [] [.ptr 3 0 0])]) (ps:=[35,36]) (assign:=cA Try.f111 [true,true,true,true,false,true,true]) (body:=cB Try.f111 [true,true,true,true,false,true,true]) (pe:=none) kr kr rfl ?_
   refine wp_eqB (base':=5) (st':=⟨[(2,.ptr 0 0 0),(3,.ptr 1 0 0),(4,.ptr 2 0 0),(34,.fn (.func 125) [] [.ptr 3 0 0]),(35,vI s12),(36,z1 a15)],[oX true false 5 (.agg [vI p0.Net.Grain,eL false eTapi_Node p0.Net.Nodes,z1 p0.cards,eL true (AV.int .u64) p0.sets,z1 p0.order]),oX true false 3 (.agg [vI p1.Card,z1 p1.Parents,z2 p1.Rows]),oX true true 1 (vB false),oX true false 3 (.agg [vI p1.Card,z1 p1.Parents,z2 p1.Rows]),.loop 66 [(2,.ptr 0 0 0),(3,.ptr 1 0 0),(4,.ptr 2 0 0),(34,.fn (.func 125) [] [.ptr 3 0 0])] [35,36] (cA Try.f111 [true,true,true,true,false,true,true]) (cB Try.f111 [true,true,true,true,false,true,true]) .ready none],66⟩) kr kr ?_
   refine rn ?_
   refine ⟨⟨[(2,.ptr 0 0 0),(3,.ptr 1 0 0),(4,.ptr 2 0 0),(34,.fn (.func 125) [] [.ptr 3 0 0]),(35,vI s12),(36,z1 a15),(9,z1 a15)],[oX true false 5 (.agg [vI p0.Net.Grain,eL false eTapi_Node p0.Net.Nodes,z1 p0.cards,eL true (AV.int .u64) p0.sets,z1 p0.order]),oX true false 3 (.agg [vI p1.Card,z1 p1.Parents,z2 p1.Rows]),oX true true 1 (vB false),oX true false 3 (.agg [vI p1.Card,z1 p1.Parents,z2 p1.Rows]),.loop 66 [(2,.ptr 0 0 0),(3,.ptr 1 0 0),(4,.ptr 2 0 0),(34,.fn (.func 125) [] [.ptr 3 0 0])] [35,36] (cA Try.f111 [true,true,true,true,false,true,true]) (cB Try.f111 [true,true,true,true,false,true,true]) .busy none],66⟩,by as_aux_lemma=>kernel_rfl,?_⟩
   refine wp_block (sq (wp_seq (wp_seq (wg [3,4,9,10] [] (reg_in (sz 1 1 ?_))))))
   refine lenL (enc:=eI) (l:=a15) (fl:=true) kr gE ?_
   refine sz 1 3 (reg_end rfl (wp_block ?_))
   refine wwh h (fun s17=>⟨[(3,.ptr 1 0 0),(4,.ptr 2 0 0),(9,z1 a15),(10,vI s17.1),(40,z1 a15),(41,vI (zn a15)),(42,vI s17.2)],[oX true false 5 (.agg [vI p0.Net.Grain,eL false eTapi_Node p0.Net.Nodes,z1 p0.cards,eL true (AV.int .u64) p0.sets,z1 p0.order]),oX true false 3 (.agg [vI p1.Card,z1 p1.Parents,z2 p1.Rows]),oX true true 1 (vB false),oX true false 3 (.agg [vI p1.Card,z1 p1.Parents,z2 p1.Rows]),.loop 66 [(2,.ptr 0 0 0),(3,.ptr 1 0 0),(4,.ptr 2 0 0),(34,.fn (.func 125) [] [.ptr 3 0 0])] [35,36] (cA Try.f111 [true,true,true,true,false,true,true]) (cB Try.f111 [true,true,true,true,false,true,true]) .busy none],66⟩) (fun x out=>out=match x with | .inl v=>.go (.ret) ⟨[(4,.ptr 2 0 0)],[oX true false 5 (.agg [vI p0.Net.Grain,eL false eTapi_Node p0.Net.Nodes,z1 p0.cards,eL true (AV.int .u64) p0.sets,z1 p0.order]),oX true false 3 (.agg [vI p1.Card,z1 p1.Parents,z2 p1.Rows]),oX true true 1 (vB false),oX true false 3 (.agg [vI p1.Card,z1 p1.Parents,z2 p1.Rows]),.loop 66 [(2,.ptr 0 0 0),(3,.ptr 1 0 0),(4,.ptr 2 0 0),(34,.fn (.func 125) [] [.ptr 3 0 0])] [35,36] (cA Try.f111 [true,true,true,true,false,true,true]) (cB Try.f111 [true,true,true,true,false,true,true]) .busy none],66⟩ | .inr v=>.go (.exit 4) ⟨[(3,.ptr 1 0 0),(4,.ptr 2 0 0),(9,z1 a15),(10,vI v)],[oX true false 5 (.agg [vI p0.Net.Grain,eL false eTapi_Node p0.Net.Nodes,z1 p0.cards,eL true (AV.int .u64) p0.sets,z1 p0.order]),oX true false 3 (.agg [vI p1.Card,z1 p1.Parents,z2 p1.Rows]),oX true true 1 (vB false),oX true false 3 (.agg [vI p1.Card,z1 p1.Parents,z2 p1.Rows]),.loop 66 [(2,.ptr 0 0 0),(3,.ptr 1 0 0),(4,.ptr 2 0 0),(34,.fn (.func 125) [] [.ptr 3 0 0])] [35,36] (cA Try.f111 [true,true,true,true,false,true,true]) (cB Try.f111 [true,true,true,true,false,true,true]) .busy none],66⟩) (wk_gc (live:=[3,4,9,10,40,41,42]) (keep:=[]) kr) ?_ ?_
   ·intro s17 o h
    unfold g_net_network_filled_b1 at h
    refine sq (wp_seq ?_)
    refine wb [43] h (fun q19 h=>?_) (fun q19 h=>?_)
    ·refine wcT (wp_skip (wp_seq (wp_block (wp_seq (reg_in ?_)))))
     refine bind_elim h (fun a20 q21 h=>?_)
     refine idxL' (enc:=eI) (l:=a15) (n:=s17.2) (fl:=true) (w:=1) (a:=a20) kr rfl gE q21 ?_
     refine sz 2 3 (reg_end rfl (wp_seq (wp_seq (reg_in (sz 3 3 ?_)))))
     refine rw_wk (wk_gc (live:=[3,4,9,10,40,41,42,12,48]) (keep:=[]) (st':=⟨[(3,.ptr 1 0 0),(4,.ptr 2 0 0),(9,z1 a15),(10,vI s17.1),(40,z1 a15),(41,vI (zn a15)),(42,vI s17.2),(12,vI a20),(48,vB (decide (a20 < 0)))],[oX true false 5 (.agg [vI p0.Net.Grain,eL false eTapi_Node p0.Net.Nodes,z1 p0.cards,eL true (AV.int .u64) p0.sets,z1 p0.order]),oX true false 3 (.agg [vI p1.Card,z1 p1.Parents,z2 p1.Rows]),oX true true 1 (vB false),oX true false 3 (.agg [vI p1.Card,z1 p1.Parents,z2 p1.Rows]),.loop 66 [(2,.ptr 0 0 0),(3,.ptr 1 0 0),(4,.ptr 2 0 0),(34,.fn (.func 125) [] [.ptr 3 0 0])] [35,36] (cA Try.f111 [true,true,true,true,false,true,true]) (cB Try.f111 [true,true,true,true,false,true,true]) .busy none],66⟩) kr) ?_
     refine rb [48] h (fun q23 h=>?_) (fun q23 h=>?_)
     ·refine sz 4 7 (reg_end rfl (wcT (wp_seq (wg [4] [] (rn (wg [4] [] ?_))))))
      refine wp_ret ?_
      cases h
      exact ⟨kr,rfl⟩
     refine sz 4 7 (reg_end rfl ?_)
     refine wbz h (fun q25 h=>?_) (fun q25 h=>?_)
     ·refine wp_seq (wg [4] [] (rn (wg [4] [] ?_)))
      refine wp_ret ?_
      cases h
      exact ⟨kr,rfl⟩
     refine wp_skip (wg [3,4,9,10,40,41,42,12] [] (rn (rn ?_)))
     cases h
     exact ⟨_,rfl,(wk_gc (live:=[3,4,9,10,40,41,42]) (keep:=[]) kr)⟩
    refine wcF (wg [3,4,9,10] [] ?_)
    refine wp_exit ?_
    cases h
    exact ⟨kr,rfl⟩
   intro x26 h out hx
   subst hx
   rcases x26 with x27 | x28
   ·dsimp only at h ⊢
    refine ⟨⟨(s111_17 p1 s12 a15)++[(16,vB false)],[oX true false 5 (.agg [vI p0.Net.Grain,eL false eTapi_Node p0.Net.Nodes,z1 p0.cards,eL true (AV.int .u64) p0.sets,z1 p0.order]),oX true false 3 (.agg [vI p1.Card,z1 p1.Parents,z2 p1.Rows]),oX true true 1 (vB false),oX true false 3 (.agg [vI p1.Card,z1 p1.Parents,z2 p1.Rows]),.loop 66 [(2,.ptr 0 0 0),(3,.ptr 1 0 0),(4,.ptr 2 0 0),(34,.fn (.func 125) [] [.ptr 3 0 0])] [35,36] (cA Try.f111 [true,true,true,true,false,true,true]) (cB Try.f111 [true,true,true,true,false,true,true]) .done (some .ret)],19⟩,by as_aux_lemma=>kernel_rfl,?_⟩
    refine sz 1 5 (reg_end rfl (wcT (wg [] [] ?_)))
    refine wp_ret ?_
    cases h
    exact ⟨kr,rfl⟩
   ·dsimp only at h ⊢
    refine wp_seq (reg_in (sz 1 1 ?_))
    refine lenL (enc:=eI) (l:=a15) (fl:=true) kr gE ?_
    refine sz 4 6 (rwg [4,10,62] [] ?_)
    refine rb [62] h (fun q30 h=>?_) (fun q30 h=>?_)
    ·refine sz 3 9 (reg_end rfl (wcT (wp_seq (wg [4] [] (rn ?_)))))
     refine wgc [4] [] ⟨[(4,.ptr 2 0 0)],[oX true false 5 (.agg [vI p0.Net.Grain,eL false eTapi_Node p0.Net.Nodes,z1 p0.cards,eL true (AV.int .u64) p0.sets,z1 p0.order]),oX true false 3 (.agg [vI p1.Card,z1 p1.Parents,z2 p1.Rows]),oX true true 1 (vB false),oX true false 3 (.agg [vI p1.Card,z1 p1.Parents,z2 p1.Rows]),.loop 66 [(2,.ptr 0 0 0),(3,.ptr 1 0 0),(4,.ptr 2 0 0),(34,.fn (.func 125) [] [.ptr 3 0 0])] [35,36] (cA Try.f111 [true,true,true,true,false,true,true]) (cB Try.f111 [true,true,true,true,false,true,true]) .busy none],66⟩ ?_
     refine wp_ret ?_
     refine ⟨⟨(s111_17 p1 s12 a15)++[(16,vB false)],[oX true false 5 (.agg [vI p0.Net.Grain,eL false eTapi_Node p0.Net.Nodes,z1 p0.cards,eL true (AV.int .u64) p0.sets,z1 p0.order]),oX true false 3 (.agg [vI p1.Card,z1 p1.Parents,z2 p1.Rows]),oX true true 1 (vB false),oX true false 3 (.agg [vI p1.Card,z1 p1.Parents,z2 p1.Rows]),.loop 66 [(2,.ptr 0 0 0),(3,.ptr 1 0 0),(4,.ptr 2 0 0),(34,.fn (.func 125) [] [.ptr 3 0 0])] [35,36] (cA Try.f111 [true,true,true,true,false,true,true]) (cB Try.f111 [true,true,true,true,false,true,true]) .done (some .ret)],19⟩,by as_aux_lemma=>kernel_rfl,?_⟩
     refine sz 1 5 (reg_end rfl (wcT (wg [] [] ?_)))
     refine wp_ret ?_
     cases h
     exact ⟨kr,rfl⟩
    refine sz 3 9 (reg_end rfl ?_)
    refine wb [64,65] h (fun q32 h=>?_) (fun q32 h=>?_)
    ·refine wcT (wp_seq (wg [4] [] (rn ?_)))
     refine wgc [4] [] ⟨[(4,.ptr 2 0 0)],[oX true false 5 (.agg [vI p0.Net.Grain,eL false eTapi_Node p0.Net.Nodes,z1 p0.cards,eL true (AV.int .u64) p0.sets,z1 p0.order]),oX true false 3 (.agg [vI p1.Card,z1 p1.Parents,z2 p1.Rows]),oX true true 1 (vB false),oX true false 3 (.agg [vI p1.Card,z1 p1.Parents,z2 p1.Rows]),.loop 66 [(2,.ptr 0 0 0),(3,.ptr 1 0 0),(4,.ptr 2 0 0),(34,.fn (.func 125) [] [.ptr 3 0 0])] [35,36] (cA Try.f111 [true,true,true,true,false,true,true]) (cB Try.f111 [true,true,true,true,false,true,true]) .busy none],66⟩ ?_
     refine wp_ret ?_
     refine ⟨⟨(s111_17 p1 s12 a15)++[(16,vB false)],[oX true false 5 (.agg [vI p0.Net.Grain,eL false eTapi_Node p0.Net.Nodes,z1 p0.cards,eL true (AV.int .u64) p0.sets,z1 p0.order]),oX true false 3 (.agg [vI p1.Card,z1 p1.Parents,z2 p1.Rows]),oX true true 1 (vB false),oX true false 3 (.agg [vI p1.Card,z1 p1.Parents,z2 p1.Rows]),.loop 66 [(2,.ptr 0 0 0),(3,.ptr 1 0 0),(4,.ptr 2 0 0),(34,.fn (.func 125) [] [.ptr 3 0 0])] [35,36] (cA Try.f111 [true,true,true,true,false,true,true]) (cB Try.f111 [true,true,true,true,false,true,true]) .done (some .ret)],19⟩,by as_aux_lemma=>kernel_rfl,?_⟩
     refine sz 1 5 (reg_end rfl (wcT (wg [] [] ?_)))
     refine wp_ret ?_
     cases h
     exact ⟨kr,rfl⟩
    refine wcF (wp_skip ?_)
    refine ⟨⟨(s111_17 p1 s12 a15)++[(16,vB true)],[oX true false 5 (.agg [vI p0.Net.Grain,eL false eTapi_Node p0.Net.Nodes,z1 p0.cards,eL true (AV.int .u64) p0.sets,z1 p0.order]),oX true false 3 (.agg [vI p1.Card,z1 p1.Parents,z2 p1.Rows]),oX true true 1 (vB false),oX true false 3 (.agg [vI p1.Card,z1 p1.Parents,z2 p1.Rows]),.loop 66 [(2,.ptr 0 0 0),(3,.ptr 1 0 0),(4,.ptr 2 0 0),(34,.fn (.func 125) [] [.ptr 3 0 0])] [35,36] (cA Try.f111 [true,true,true,true,false,true,true]) (cB Try.f111 [true,true,true,true,false,true,true]) .ready none],19⟩,by as_aux_lemma=>kernel_rfl,?_⟩
    refine sz 1 5 (reg_end rfl (wcF (wp_skip ?_)))
    refine wgc [0,6,7,8] [] ⟨[(0,.yld 4),(6,z2 p1.Rows),(7,vI (zn p1.Rows)),(8,vI s12)],[oX true false 5 (.agg [vI p0.Net.Grain,eL false eTapi_Node p0.Net.Nodes,z1 p0.cards,eL true (AV.int .u64) p0.sets,z1 p0.order]),oX true false 3 (.agg [vI p1.Card,z1 p1.Parents,z2 p1.Rows]),oX true true 1 (vB false),oX true false 3 (.agg [vI p1.Card,z1 p1.Parents,z2 p1.Rows]),.loop 66 [(2,.ptr 0 0 0),(3,.ptr 1 0 0),(4,.ptr 2 0 0),(34,.fn (.func 125) [] [.ptr 3 0 0])] [35,36] (cA Try.f111 [true,true,true,true,false,true,true]) (cB Try.f111 [true,true,true,true,false,true,true]) .ready none],19⟩ ?_
    refine rn ?_
    cases h
    exact ⟨_,rfl,(wk_gc (live:=[0,6,7,8]) (keep:=[]) kr)⟩
  refine wcF (wg [] [] ?_)
  refine wp_exit ?_
  cases h
  exact ⟨kr,rfl⟩
 intro x33 h out hx
 subst hx
 rcases x33 with x34 | x35
 ·dsimp only at h ⊢
  refine ⟨.go .ret ⟨[(2,.ptr 0 0 0),(3,.ptr 1 0 0),(4,.ptr 2 0 0),(34,.fn (.func 125) [] [.ptr 3 0 0])],[oX true false 5 (.agg [vI p0.Net.Grain,eL false eTapi_Node p0.Net.Nodes,z1 p0.cards,eL true (AV.int .u64) p0.sets,z1 p0.order]),oX true false 3 (.agg [vI p1.Card,z1 p1.Parents,z2 p1.Rows]),oX true true 1 (vB false),oX true false 3 (.agg [vI p1.Card,z1 p1.Parents,z2 p1.Rows]),.dead],66⟩,by as_aux_lemma=>kernel_rfl,?_⟩
  cases h
  show fnOut _ _ _ _=_
  kernel_rfl
 ·dsimp only at h ⊢
  refine ⟨.go .normal ⟨[(2,.ptr 0 0 0),(3,.ptr 1 0 0),(4,.ptr 2 0 0),(34,.fn (.func 125) [] [.ptr 3 0 0])],[oX true false 5 (.agg [vI p0.Net.Grain,eL false eTapi_Node p0.Net.Nodes,z1 p0.cards,eL true (AV.int .u64) p0.sets,z1 p0.order]),oX true false 3 (.agg [vI p1.Card,z1 p1.Parents,z2 p1.Rows]),oX true true 1 (vB false),oX true false 3 (.agg [vI p1.Card,z1 p1.Parents,z2 p1.Rows]),.dead],66⟩,by as_aux_lemma=>kernel_rfl,?_⟩
  refine sq (wg [4] [2] ?_)
  cases h
  exact wp_ret (show fnOut _ _ _ _=_ from by kernel_rfl)
theorem g_net_sorted_ok (p0:(List Int)) (x:((List Int) × Bool)) (h:g_net_sorted p0=some x):CallOk Try.prog 112 [eL true (AV.int .u64) p0] (.ret (.tup [.ref 0 0 x.1.length,vB x.2]) [oR true 1 eI x.1]):=by
 refine fn_ok [] Try.func112 rfl (by decide +kernel) rfl ?_
 unfold g_net_sorted at h
 refine wp_eqB (base':=0) (st':=⟨[(0,eL true (AV.int .u64) p0)],[],44⟩) kr kr ?_
 refine sq ?_
 refine wp_scope ?_
 refine wp_seq (reg_in (sz 1 1 ?_))
 refine lenL (enc:=(AV.int .u64)) (l:=p0) (fl:=true) kr gE ?_
 refine mkL (enc:=eI) (z:=(0:Int)) (z0:=vI 0) (n:=0) (m:=(zn p0)) (w:=1) (bytes:=8) [] true kr rfl gE kr h (fun h=>?_)
 refine sgz 2 5 (S:=⟨[(0,eL true (AV.int .u64) p0),(2,.nils),(3,vB false),(8,eL true (AV.int .u64) p0),(9,vI (zn p0)),(10,.ref 0 0 ((List.replicate (zt 0) (0:Int)).length)),(4,.ref 0 0 ((List.replicate (zt 0) (0:Int)).length)),(5,.int .u64 0)],[oR true 1 eI (List.replicate (zt 0) (0:Int))],44⟩) ?_
 refine reg_end rfl (wp_seq ?_)
 refine wp_label ?_
 refine wp_seq (wp_block ?_)
 refine wwh h (fun s1=>⟨[(0,eL true (AV.int .u64) p0),(4,.ref 0 0 s1.2.length),(5,.int .u64 s1.1)],[oR true 1 eI s1.2],44⟩) (fun x out=>out=match x with | .inl v=>.go (.ret) ⟨[(2,.ref 0 0 0),(3,vB false)],[.row false false true true 1 []],44⟩ | .inr v=>.go (.exit 0) ⟨[(4,.ref 0 0 v.length)],[oR true 1 eI v],44⟩) (wk_gc (live:=[0,4,5]) (keep:=[0]) kr) ?_ ?_
 ·intro s1 o h
  unfold g_net_sorted_b1 at h
  refine wp_seq (wp_seq (reg_in (sz 3 3 ?_)))
  refine lenL (enc:=(AV.int .u64)) (l:=p0) (fl:=true) kr gE ?_
  refine sz 1 5 (reg_end rfl ?_)
  refine wbz h (fun q3 h=>?_) (fun q3 h=>?_)
  ·refine wp_skip (wp_block (wp_seq (wp_seq (wg [0,4,5] [0] (reg_in (sz 1 1 ?_))))))
   refine lenL (enc:=(AV.int .u64)) (l:=p0) (fl:=true) kr gE ?_
   refine sz 1 3 (reg_end rfl (wp_block ?_))
   refine wwh h (fun s4=>⟨[(0,eL true (AV.int .u64) p0),(4,.ref 0 0 s1.2.length),(5,.int .u64 s1.1),(16,eL true (AV.int .u64) p0),(17,vI (zn p0)),(18,vI s4)],[oR true 1 eI s1.2],44⟩) (fun x out=>out=match x with | .inl v=>.go (.exit 1) ⟨[(0,eL true (AV.int .u64) p0),(4,.ref 0 0 v.2.length),(5,.int .u64 v.1)],[oR true 1 eI v.2],44⟩ | .inr v=>.go (.exit 2) ⟨[],[],44⟩) (wk_gc (live:=[0,4,5,16,17,18]) (keep:=[0]) kr) ?_ ?_
   ·intro s4 o h
    unfold g_net_sorted_b0 at h
    refine sq (wp_seq ?_)
    refine wb [19] h (fun q6 h=>?_) (fun q6 h=>?_)
    ·refine wcT (wp_skip (wp_seq (wp_block (wp_seq (reg_in (sz 1 1 ?_))))))
     refine bind_elim h (fun a7 q8 h=>?_)
     refine idxL' (enc:=(AV.int .u64)) (l:=p0) (n:=s4) (fl:=true) (w:=1) (a:=a7) kr rfl gE q8 ?_
     refine sz 3 5 (reg_end rfl (wp_seq (reg_in (sz 2 2 ?_))))
     refine shrR (k:=.u64) (k':=.i64) (a:=s1.1) (b:=s4) kr gE h (fun h=>?_)
     refine sz 3 6 ?_
     refine rw_wk (wk_gc (live:=[0,4,5,16,17,18,6,7,28]) (keep:=[0]) (st':=⟨[(0,eL true (AV.int .u64) p0),(4,.ref 0 0 s1.2.length),(5,.int .u64 s1.1),(16,eL true (AV.int .u64) p0),(17,vI (zn p0)),(18,vI s4),(6,vI s4),(7,.int .u64 a7),(28,vB ((zv (BitVec.ofInt (IntKind.bits .u64) (Int.fdiv s1.1 (2^min (zt s4) (IntKind.bits .u64))) &&& BitVec.ofInt (IntKind.bits .u64) 1).toNat)==0))],[oR true 1 eI s1.2],44⟩) kr) ?_
     refine rb [28] h (fun q10 h=>?_) (fun q10 h=>?_)
     ·refine sz 5 11 (reg_end rfl ?_)
      refine wbz h (fun q12 h=>?_) (fun q12 h=>?_)
      ·refine wp_seq (wg [0,4,5,6] [0] (reg_in (sz 2 2 ?_)))
       refine sgL false [] [] true gE ?_
       refine appR (enc:=eI) (l:=s1.2) (m:=([s4]:(List Int))) (w:=1) (bytes:=8) (ob:=0) (nr:=true) (fl:=true) (nr':=true) (fl':=true) (b:=.ref 1 0 1) (rds:=[1]) false kr kr kr rfl gE kr h (fun h=>?_)
       refine sz 1 5 (reg_end rfl (wp_seq (reg_in (sz 2 2 ?_))))
       refine shlR (k:=.u64) (k':=.i64) (a:=1) (b:=s4) kr gE h (fun h=>?_)
       refine sz 2 5 (reg_end rfl ?_)
       refine wgc [0,4,5] [2] ⟨[(0,eL true (AV.int .u64) p0),(4,.ref 0 0 ((s1.2++([s4]:(List Int))).length)),(5,.int .u64 (zv (BitVec.ofInt (IntKind.bits .u64) s1.1 ||| BitVec.ofInt (IntKind.bits .u64) (zv (1*2^min (zt s4) (IntKind.bits .u64)))).toNat))],[oR true 1 eI (s1.2++([s4]:(List Int)))],44⟩ ?_
       refine wp_exit ?_
       cases h
       exact ⟨kr,rfl⟩
      refine wp_skip (wg [0,4,5,16,17,18] [0] (rn ?_))
      cases h
      exact ⟨_,rfl,(wk_gc (live:=[0,4,5,16,17,18]) (keep:=[0]) kr)⟩
     refine sz 5 11 (reg_end rfl (wcF (wp_skip (wg [0,4,5,16,17,18] [0] (rn ?_)))))
     cases h
     exact ⟨_,rfl,(wk_gc (live:=[0,4,5,16,17,18]) (keep:=[0]) kr)⟩
    refine wcF (wg [] [] ?_)
    refine wp_exit ?_
    cases h
    exact ⟨kr,rfl⟩
   intro x13 h out hx
   subst hx
   rcases x13 with x14 | x15
   ·dsimp only at h ⊢
    cases h
    exact ⟨_,rfl,(wk_gc (live:=[0,4,5]) (keep:=[0]) kr)⟩
   ·dsimp only at h ⊢
    refine sq (wg [2,3] [] ?_)
    refine wp_wk (wk_nil 2 1 true true gE) ?_
    refine wp_ret ?_
    cases h
    exact ⟨kr,rfl⟩
  refine wg [4] [0] ?_
  refine wp_exit ?_
  cases h
  exact ⟨kr,rfl⟩
 intro x16 h out hx
 subst hx
 rcases x16 with x17 | x18
 ·dsimp only at h ⊢
  cases h
  show fnOut _ _ _ _=_
  kernel_rfl
 ·dsimp only at h ⊢
  refine sq (wg [2,3] [0] ?_)
  cases h
  exact wp_ret (show fnOut _ _ _ _=_ from by kernel_rfl)
noncomputable abbrev s96_62 (s26:(Int × (List Int))) (p0:Tapi_Net) (a29:Tapi_Node) (s31:(Int × Int × (List Int))) (a34:Int):List (Nat × AV):=[(2,.ptr 0 0 0),(4,.ptr 1 0 0),(8,vI s26.1),(9,.ptr 2 0 0),(80,eL false eTapi_Node p0.Nodes),(81,vI (zn p0.Nodes)),(82,vI s26.1),(88,z1 a29.Parents),(89,vI (zn a29.Parents)),(90,vI s31.2.1),(12,vI a34)]
theorem g_net_read_ok (p0:Tapi_Net) (x:(Tnet_network × Int)) (h:g_net_read p0=some x):CallOk Try.prog 96 [.agg [vI p0.Grain,eL false eTapi_Node p0.Nodes]] (.ret (.tup [.agg [vI x.1.Net.Grain,eL false eTapi_Node x.1.Net.Nodes,z1 x.1.cards,eL true (AV.int .u64) x.1.sets,z1 x.1.order],vI x.2]) []):=by
 refine fn_ok [[.keep,.lst false,.lst true,.lst true,.lst true],[.keep]] Try.func96 rfl (by decide +kernel) rfl ?_
 unfold g_net_read at h
 refine wp_eqB (base':=0) (st':=⟨[(0,.agg [vI p0.Grain,eL false eTapi_Node p0.Nodes])],[],140⟩) kr kr ?_
 refine wp_seq (reg_in ?_)
 refine sgL false [] [] false gE ?_
 refine sgL false [] [] false gE ?_
 refine sz 1 3 (reg_end rfl (wp_seq (wp_seq (reg_in (sz 4 4 (rwg [1,2,18] [0,1] ?_))))))
 refine rb [18] h (fun q2 h=>?_) (fun q2 h=>?_)
 ·refine sz 16 20 (reg_end rfl (wcT (wp_seq ?_)))
  refine wgc [2] [1] ⟨[(2,.ptr 0 0 0)],[oX true false 5 (.agg [vI 0,.nils,.nils,.nils,.nils])],140⟩ ?_
  refine rn (wg [2,3] [0] ?_)
  cases h
  exact wp_ret (show fnOut _ _ _ _=_ from by kernel_rfl)
 refine sz 5 9 ?_
 refine rw_wk (wk_gc (live:=[1,2,23]) (keep:=[0,1]) (st':=⟨[(1,.ptr 0 0 0),(2,.ptr 1 0 0),(23,vB (decide (p0.Grain > 60)))],[oX true false 2 (.agg [vI p0.Grain,eL false eTapi_Node p0.Nodes]),oX true false 5 (.agg [vI 0,.nils,.nils,.nils,.nils])],140⟩) kr) ?_
 refine rb [23] h (fun q4 h=>?_) (fun q4 h=>?_)
 ·refine sz 11 20 (reg_end rfl (wcT (wp_seq (wg [2] [1] (rn ?_)))))
  refine wgc [2,3] [0] ⟨[(2,.ptr 0 0 0),(3,vI 50)],[oX true false 5 (.agg [vI 0,.nils,.nils,.nils,.nils])],140⟩ ?_
  cases h
  exact wp_ret (show fnOut _ _ _ _=_ from by kernel_rfl)
 refine sz 2 11 ?_
 refine lenL (enc:=eTapi_Node) (l:=p0.Nodes) (fl:=false) kr gE ?_
 refine sz 3 15 (rwg [1,2,29] [0,1] ?_)
 refine rb [29] h (fun q6 h=>?_) (fun q6 h=>?_)
 ·refine sz 5 20 (reg_end rfl (wcT (wp_seq (wg [2] [1] (rn ?_)))))
  refine wgc [2,3] [0] ⟨[(2,.ptr 0 0 0),(3,vI 50)],[oX true false 5 (.agg [vI 0,.nils,.nils,.nils,.nils])],140⟩ ?_
  cases h
  exact wp_ret (show fnOut _ _ _ _=_ from by kernel_rfl)
 refine sz 2 17 ?_
 refine lenL (enc:=eTapi_Node) (l:=p0.Nodes) (fl:=false) kr gE ?_
 refine sz 2 20 (reg_end rfl ?_)
 refine wbz h (fun q8 h=>?_) (fun q8 h=>?_)
 ·refine wp_seq (wg [2] [1] (rn ?_))
  refine wgc [2,3] [0] ⟨[(2,.ptr 0 0 0),(3,vI 50)],[oX true false 5 (.agg [vI 0,.nils,.nils,.nils,.nils])],140⟩ ?_
  cases h
  exact wp_ret (show fnOut _ _ _ _=_ from by kernel_rfl)
 refine wp_skip (wp_seq (wg [1,2] [0,1] (rga hfol (sy 3 3 ?_))))
 refine lenL (enc:=eTapi_Node) (l:=p0.Nodes) (fl:=false) kr gE ?_
 refine mkL (enc:=eI) (z:=(0:Int)) (z0:=vI 0) (n:=(zn p0.Nodes)) (m:=(zn p0.Nodes)) (w:=1) (bytes:=8) [] true kr rfl gE kr h (fun h=>?_)
 refine sy 2 7 ?_
 refine lenL (enc:=eTapi_Node) (l:=p0.Nodes) (fl:=false) kr gE ?_
 refine mkL (enc:=(AV.int .u64)) (z:=(0:Int)) (z0:=.int .u64 0) (n:=(zn p0.Nodes)) (m:=(zn p0.Nodes)) (w:=1) (bytes:=8) [] true kr rfl gE kr h (fun h=>?_)
 refine sy 1 10 ?_
 refine sgL false [] [] false gE ?_
 refine sy 1 12 (rgd (wp_seq ?_))
 refine wgc [2,4] [1,4,2,3] ⟨[(2,.ptr 0 0 0),(4,.ptr 1 0 0)],[oX true false 5 (.agg [vI 0,.nils,.nils,.nils,.nils]),oX false false 5 (.agg [vI p0.Grain,eL false eTapi_Node p0.Nodes,.ref 2 0 ((List.replicate (zt (zn p0.Nodes)) (0:Int)).length),.ref 3 0 ((List.replicate (zt (zn p0.Nodes)) (0:Int)).length),.nils]),oR true 1 eI (List.replicate (zt (zn p0.Nodes)) (0:Int)),oR true 1 (AV.int .u64) (List.replicate (zt (zn p0.Nodes)) (0:Int))],140⟩ ?_
 refine rn (wp_seq (wp_seq (reg_in (sz 3 3 ?_))))
 refine lenL (enc:=eTapi_Node) (l:=p0.Nodes) (fl:=false) kr gE ?_
 refine sz 1 5 (reg_end rfl (wp_block ?_))
 refine wwh h (fun s9=>⟨[(2,.ptr 0 0 0),(4,.ptr 1 0 0),(5,vI s9.1),(48,eL false eTapi_Node p0.Nodes),(49,vI (zn p0.Nodes)),(50,vI s9.2.1)],[oX true false 5 (.agg [vI 0,.nils,.nils,.nils,.nils]),oX false false 5 (.agg [vI p0.Grain,eL false eTapi_Node p0.Nodes,.ref 2 0 s9.2.2.length,.ref 3 0 ((List.replicate (zt (zn p0.Nodes)) (0:Int)).length),.nils]),oR true 1 eI s9.2.2,oR true 1 (AV.int .u64) (List.replicate (zt (zn p0.Nodes)) (0:Int))],140⟩) (fun x out=>out=match x with | .inl v=>.go (.ret) ⟨[(2,.ptr 0 0 0),(3,vI 50)],[oX true false 5 (.agg [vI 0,.nils,.nils,.nils,.nils])],140⟩ | .inr v=>.go (.exit 0) ⟨[(2,.ptr 0 0 0),(4,.ptr 1 0 0),(5,vI v.1)],[oX true false 5 (.agg [vI 0,.nils,.nils,.nils,.nils]),oX false false 5 (.agg [vI p0.Grain,eL false eTapi_Node p0.Nodes,.ref 2 0 v.2.length,.ref 3 0 ((List.replicate (zt (zn p0.Nodes)) (0:Int)).length),.nils]),oR true 1 eI v.2,oR true 1 (AV.int .u64) (List.replicate (zt (zn p0.Nodes)) (0:Int))],140⟩) (wk_gc (live:=[2,4,5,48,49,50]) (keep:=[0,1,2,3]) kr) ?_ ?_
 ·intro s9 o h
  unfold g_net_read_b0 at h
  refine sq (wp_seq ?_)
  refine wb [51] h (fun q11 h=>?_) (fun q11 h=>?_)
  ·refine wcT (wp_skip (wp_seq (wp_block (wp_seq (reg_in (sz 1 1 ?_))))))
   refine bind_elim h (fun a12 q13 h=>?_)
   refine idxL' (enc:=eTapi_Node) (l:=p0.Nodes) (n:=s9.2.1) (fl:=false) (w:=3) (a:=a12) kr rfl gE q13 ?_
   refine sz 1 3 ?_
   refine sgL false [] [] false gE ?_
   refine sz 2 6 (reg_end rfl (wp_seq (wp_seq (reg_in (sz 4 4 ?_)))))
   refine rw_wk (wk_gc (live:=[2,4,5,48,49,50,7,6,58]) (keep:=[0,1,4,2,3]) (st':=⟨[(2,.ptr 0 0 0),(4,.ptr 1 0 0),(5,vI s9.1),(48,eL false eTapi_Node p0.Nodes),(49,vI (zn p0.Nodes)),(50,vI s9.2.1),(7,.ptr 2 0 0),(6,vI s9.2.1),(58,vB (decide (a12.Card < 1)))],[oX true false 5 (.agg [vI 0,.nils,.nils,.nils,.nils]),oX false false 5 (.agg [vI p0.Grain,eL false eTapi_Node p0.Nodes,.ref 3 0 s9.2.2.length,.ref 4 0 ((List.replicate (zt (zn p0.Nodes)) (0:Int)).length),.nils]),oX true false 3 (.agg [vI a12.Card,z1 a12.Parents,z2 a12.Rows]),oR true 1 eI s9.2.2,oR true 1 (AV.int .u64) (List.replicate (zt (zn p0.Nodes)) (0:Int))],140⟩) kr) ?_
   refine rb [58] h (fun q15 h=>?_) (fun q15 h=>?_)
   ·refine sz 4 8 (reg_end rfl (wcT (wp_seq (wg [2] [0] (rn (wg [2,3] [0] ?_))))))
    refine wp_ret ?_
    cases h
    exact ⟨kr,rfl⟩
   refine sz 4 8 (reg_end rfl ?_)
   refine wbz h (fun q17 h=>?_) (fun q17 h=>?_)
   ·refine wp_seq (wg [2] [0] (rn (wg [2,3] [0] ?_)))
    refine wp_ret ?_
    cases h
    exact ⟨kr,rfl⟩
   refine wp_skip (wp_seq (wg [2,4,5,48,49,50,7,6] [0,1,2,3,4] (reg_in (sz 5 5 ?_))))
   refine bind_elim h (fun a18 q19 h=>?_)
   refine idxR' (enc:=eI) (l:=s9.2.2) (n:=s9.2.1) (w:=1) (ob:=3) (ro:=false) (nr:=true) (fl:=true) (a:=a18) kr kr gE q19 ?_
   refine storeR (enc:=eI) (l:=s9.2.2) (n:=s9.2.1) (ob:=3) (w:=1) (bx:=false) (nr:=true) (fl:=true) (c:=0) (a:=a18) (a':=a12.Card) (v:=vI a12.Card) false kr kr q19 kr rfl kr gE kr ?_
   refine rknN (n:=s9.2.2.length) (m:=(List.set s9.2.2 (zt s9.2.1) a12.Card).length) (S:=fun n20=>⟨[(2,.ptr 0 0 0),(4,.ptr 1 0 0),(5,vI s9.1),(48,eL false eTapi_Node p0.Nodes),(49,vI (zn p0.Nodes)),(50,vI s9.2.1),(7,.ptr 2 0 0),(6,vI s9.2.1)]++[(64,.ptr 1 0 2),(65,.ref 3 0 n20),(66,vI s9.2.1),(67,.ptr 2 0 0),(68,vI a12.Card),(69,.ptr 3 (zt s9.2.1) 0)],[oX true false 5 (.agg [vI 0,.nils,.nils,.nils,.nils]),oX false false 5 (.agg [vI p0.Grain,eL false eTapi_Node p0.Nodes,.ref 3 0 n20,.ref 4 0 ((List.replicate (zt (zn p0.Nodes)) (0:Int)).length),.nils]),oX true false 3 (.agg [vI a12.Card,z1 a12.Parents,z2 a12.Rows]),oR true 1 eI (List.set s9.2.2 (zt s9.2.1) a12.Card),oR true 1 (AV.int .u64) (List.replicate (zt (zn p0.Nodes)) (0:Int))],140⟩) (by simp only [List.length_set]) ?_
   refine reg_end rfl (wg [2,4,5,48,49,50,7] [0,1,2,3,4] (rn (wg [2,4,5,48,49,50] [0,1,3,4] (rn ?_))))
   cases h
   exact ⟨_,rfl,(wk_gc (live:=[2,4,5,48,49,50]) (keep:=[0,1,2,3]) kr)⟩
  refine wcF (wg [2,4,5] [0,1,2,3] ?_)
  refine wp_exit ?_
  cases h
  exact ⟨kr,rfl⟩
 intro x21 h out hx
 subst hx
 rcases x21 with x22 | x23
 ·dsimp only at h ⊢
  cases h
  show fnOut _ _ _ _=_
  kernel_rfl
 ·dsimp only at h ⊢
  refine wp_seq (sq ?_)
  refine wb [76] h (fun q25 h=>?_) (fun q25 h=>?_)
  ·refine wcT (sq (wg [2,3] [0] ?_))
   cases h
   exact wp_ret (show fnOut _ _ _ _=_ from by kernel_rfl)
  refine wcF (wp_skip (wp_seq (wp_seq (reg_in (sz 3 3 ?_)))))
  refine lenL (enc:=eTapi_Node) (l:=p0.Nodes) (fl:=false) kr gE ?_
  refine sz 1 5 (reg_end rfl (wp_block ?_))
  refine wwh h (fun s26=>⟨[(2,.ptr 0 0 0),(4,.ptr 1 0 0),(80,eL false eTapi_Node p0.Nodes),(81,vI (zn p0.Nodes)),(82,vI s26.1)],[oX true false 5 (.agg [vI 0,.nils,.nils,.nils,.nils]),oX false false 5 (.agg [vI p0.Grain,eL false eTapi_Node p0.Nodes,.ref 2 0 x23.2.length,.ref 3 0 s26.2.length,.nils]),oR true 1 eI x23.2,oR true 1 (AV.int .u64) s26.2],140⟩) (fun x out=>out=match x with | .inl v=>.go (.ret) ⟨[(2,.ptr 0 0 0),(3,vI 50)],[oX true false 5 (.agg [vI 0,.nils,.nils,.nils,.nils])],140⟩ | .inr v=>.go (.exit 2) ⟨[(2,.ptr 0 0 0),(4,.ptr 1 0 0)],[oX true false 5 (.agg [vI 0,.nils,.nils,.nils,.nils]),oX false false 5 (.agg [vI p0.Grain,eL false eTapi_Node p0.Nodes,.ref 2 0 x23.2.length,.ref 3 0 v.length,.nils]),oR true 1 eI x23.2,oR true 1 (AV.int .u64) v],140⟩) (wk_gc (live:=[2,4,80,81,82]) (keep:=[0,1,2,3]) kr) ?_ ?_
  ·intro s26 o h
   unfold g_net_read_b2 at h
   refine sq (wp_seq ?_)
   refine wb [83] h (fun q28 h=>?_) (fun q28 h=>?_)
   ·refine wcT (wp_skip (wp_seq (wp_block (wp_seq (reg_in (sz 1 1 ?_))))))
    refine bind_elim h (fun a29 q30 h=>?_)
    refine idxL' (enc:=eTapi_Node) (l:=p0.Nodes) (n:=s26.1) (fl:=false) (w:=3) (a:=a29) kr rfl gE q30 ?_
    refine sz 1 3 ?_
    refine sgL false [] [] false gE ?_
    refine sz 2 6 (reg_end rfl (sq (wp_seq (wp_seq (reg_in (sz 2 2 ?_))))))
    refine lenL (enc:=eI) (l:=a29.Parents) (fl:=true) kr gE ?_
    refine sz 1 4 (reg_end rfl (wp_block ?_))
    refine wwh h (fun s31=>⟨[(2,.ptr 0 0 0),(4,.ptr 1 0 0),(8,vI s26.1),(9,.ptr 2 0 0),(10,vI s31.1),(80,eL false eTapi_Node p0.Nodes),(81,vI (zn p0.Nodes)),(82,vI s26.1),(88,z1 a29.Parents),(89,vI (zn a29.Parents)),(90,vI s31.2.1)],[oX true false 5 (.agg [vI 0,.nils,.nils,.nils,.nils]),oX false false 5 (.agg [vI p0.Grain,eL false eTapi_Node p0.Nodes,.ref 3 0 x23.2.length,.ref 4 0 s31.2.2.length,.nils]),oX true false 3 (.agg [vI a29.Card,z1 a29.Parents,z2 a29.Rows]),oR true 1 eI x23.2,oR true 1 (AV.int .u64) s31.2.2],140⟩) (fun x out=>out=match x with | .inl v=>.go (.ret) ⟨[(2,.ptr 0 0 0),(3,vI 50)],[oX true false 5 (.agg [vI 0,.nils,.nils,.nils,.nils])],140⟩ | .inr v=>.go (.exit 4) ⟨[(2,.ptr 0 0 0),(4,.ptr 1 0 0),(9,.ptr 2 0 0),(80,eL false eTapi_Node p0.Nodes),(81,vI (zn p0.Nodes)),(82,vI s26.1)],[oX true false 5 (.agg [vI 0,.nils,.nils,.nils,.nils]),oX false false 5 (.agg [vI p0.Grain,eL false eTapi_Node p0.Nodes,.ref 3 0 x23.2.length,.ref 4 0 v.length,.nils]),oX true false 3 (.agg [vI a29.Card,z1 a29.Parents,z2 a29.Rows]),oR true 1 eI x23.2,oR true 1 (AV.int .u64) v],140⟩) (wk_gc (live:=[2,4,8,9,10,80,81,82,88,89,90]) (keep:=[0,1,4,2,3]) kr) ?_ ?_
    ·intro s31 o h
     unfold g_net_read_b1 at h
     refine sq (wp_seq ?_)
     refine wb [91] h (fun q33 h=>?_) (fun q33 h=>?_)
     ·refine wcT (wp_skip (wp_seq (wp_block (wp_seq (reg_in ?_)))))
      refine bind_elim h (fun a34 q35 h=>?_)
      refine idxL' (enc:=eI) (l:=a29.Parents) (n:=s31.2.1) (fl:=true) (w:=1) (a:=a34) kr rfl gE q35 ?_
      refine sz 2 3 (reg_end rfl (wp_seq (wp_seq (reg_in (sz 4 4 ?_)))))
      refine rw_wk (wk_gc (live:=[2,4,8,9,80,81,82,88,89,90,12,97]) (keep:=[0,1,2,3,4]) (st':=⟨[(2,.ptr 0 0 0),(4,.ptr 1 0 0),(8,vI s26.1),(9,.ptr 2 0 0),(80,eL false eTapi_Node p0.Nodes),(81,vI (zn p0.Nodes)),(82,vI s26.1),(88,z1 a29.Parents),(89,vI (zn a29.Parents)),(90,vI s31.2.1),(12,vI a34),(97,vB (decide (a34≤s31.1)))],[oX true false 5 (.agg [vI 0,.nils,.nils,.nils,.nils]),oX false false 5 (.agg [vI p0.Grain,eL false eTapi_Node p0.Nodes,.ref 3 0 x23.2.length,.ref 4 0 s31.2.2.length,.nils]),oX true false 3 (.agg [vI a29.Card,z1 a29.Parents,z2 a29.Rows]),oR true 1 eI x23.2,oR true 1 (AV.int .u64) s31.2.2],140⟩) kr) ?_
      refine rb [97] h (fun q37 h=>?_) (fun q37 h=>?_)
      ·refine sz 12 16 (reg_end rfl (wcT (wp_seq (wg [2] [0] (rn ?_)))))
       refine wgc [2,3] [0] ⟨[(2,.ptr 0 0 0),(3,vI 50)],[oX true false 5 (.agg [vI 0,.nils,.nils,.nils,.nils])],140⟩ ?_
       refine wp_ret ?_
       cases h
       exact ⟨kr,rfl⟩
      refine sz 4 8 ?_
      refine lenL (enc:=eTapi_Node) (l:=p0.Nodes) (fl:=false) kr gE ?_
      refine sz 3 12 (rwg [2,4,8,9,80,81,82,88,89,90,12,105] [0,1,2,3,4] ?_)
      refine rb [105] h (fun q39 h=>?_) (fun q39 h=>?_)
      ·refine sz 4 16 (reg_end rfl (wcT (wp_seq (wg [2] [0] (rn ?_)))))
       refine wgc [2,3] [0] ⟨[(2,.ptr 0 0 0),(3,vI 50)],[oX true false 5 (.agg [vI 0,.nils,.nils,.nils,.nils])],140⟩ ?_
       refine wp_ret ?_
       cases h
       exact ⟨kr,rfl⟩
      refine sz 4 16 (reg_end rfl ?_)
      refine wbz h (fun q41 h=>?_) (fun q41 h=>?_)
      ·refine wp_seq (wg [2] [0] (rn ?_))
       refine wgc [2,3] [0] ⟨[(2,.ptr 0 0 0),(3,vI 50)],[oX true false 5 (.agg [vI 0,.nils,.nils,.nils,.nils])],140⟩ ?_
       refine wp_ret ?_
       cases h
       exact ⟨kr,rfl⟩
      refine wp_skip (wp_seq ?_)
      refine wgc [2,4,8,9,80,81,82,88,89,90,12] [0,1,2,3,4] ⟨(s96_62 s26 p0 a29 s31 a34),[oX true false 5 (.agg [vI 0,.nils,.nils,.nils,.nils]),oX false false 5 (.agg [vI p0.Grain,eL false eTapi_Node p0.Nodes,.ref 3 0 x23.2.length,.ref 4 0 s31.2.2.length,.nils]),oX true false 3 (.agg [vI a29.Card,z1 a29.Parents,z2 a29.Rows]),oR true 1 eI x23.2,oR true 1 (AV.int .u64) s31.2.2],140⟩ ?_
      refine rn (rga hfol (sy 3 3 ?_))
      refine bind_elim h (fun a42 q43 h=>?_)
      refine idxR' (enc:=(AV.int .u64)) (l:=s31.2.2) (n:=s26.1) (w:=1) (ob:=4) (ro:=false) (nr:=true) (fl:=true) (a:=a42) kr kr gE q43 ?_
      refine loadR (enc:=(AV.int .u64)) (l:=s31.2.2) (n:=s26.1) (w:=1) (ob:=4) (c:=0) (bx:=false) (ro:=false) (nr:=true) (fl:=true) (a:=a42) kr kr q43 gE ?_
      refine sy 1 6 ?_
      refine shlR (k:=.u64) (k':=.i64) (a:=1) (b:=a34) kr gE h (fun h=>?_)
      refine sy 1 8 ?_
      refine idxR' (enc:=(AV.int .u64)) (l:=s31.2.2) (n:=s26.1) (w:=1) (ob:=4) (ro:=false) (nr:=true) (fl:=true) (a:=a42) kr kr gE q43 ?_
      refine storeR (enc:=(AV.int .u64)) (l:=s31.2.2) (n:=s26.1) (ob:=4) (w:=1) (bx:=false) (nr:=true) (fl:=true) (c:=0) (a:=a42) (a':=zv (BitVec.ofInt (IntKind.bits .u64) a42 ||| BitVec.ofInt (IntKind.bits .u64) (zv (1*2^min (zt a34) (IntKind.bits .u64)))).toNat) (v:=.int .u64 (zv (BitVec.ofInt (IntKind.bits .u64) a42 ||| BitVec.ofInt (IntKind.bits .u64) (zv (1*2^min (zt a34) (IntKind.bits .u64)))).toNat)) false kr kr q43 kr rfl kr gE kr ?_
      refine rknN (n:=s31.2.2.length) (m:=(List.set s31.2.2 (zt s26.1) (zv (BitVec.ofInt (IntKind.bits .u64) a42 ||| BitVec.ofInt (IntKind.bits .u64) (zv (1*2^min (zt a34) (IntKind.bits .u64)))).toNat)).length) (S:=fun n44=>⟨(s96_62 s26 p0 a29 s31 a34)++[(111,vI a34),(10,vI a34),(112,.ptr 1 0 3),(113,.ref 4 0 n44),(114,vI s26.1),(115,.ptr 4 (zt s26.1) 0),(116,.int .u64 a42),(117,vI a34),(118,.int .u64 (zv (1*2^min (zt a34) (IntKind.bits .u64)))),(119,.int .u64 (zv (BitVec.ofInt (IntKind.bits .u64) a42 ||| BitVec.ofInt (IntKind.bits .u64) (zv (1*2^min (zt a34) (IntKind.bits .u64)))).toNat)),(120,.ptr 4 (zt s26.1) 0)],[oX true false 5 (.agg [vI 0,.nils,.nils,.nils,.nils]),oX false false 5 (.agg [vI p0.Grain,eL false eTapi_Node p0.Nodes,.ref 3 0 x23.2.length,.ref 4 0 n44,.nils]),oX true false 3 (.agg [vI a29.Card,z1 a29.Parents,z2 a29.Rows]),oR true 1 eI x23.2,oR true 1 (AV.int .u64) (List.set s31.2.2 (zt s26.1) (zv (BitVec.ofInt (IntKind.bits .u64) a42 ||| BitVec.ofInt (IntKind.bits .u64) (zv (1*2^min (zt a34) (IntKind.bits .u64)))).toNat))],140⟩) (by simp only [List.length_set]) ?_
      refine rgd (wg [2,4,8,9,80,81,82,88,89,90,10] [0,1,2,3,4] (rn ?_))
      cases h
      exact ⟨_,rfl,(wk_gc (live:=[2,4,8,9,10,80,81,82,88,89,90]) (keep:=[0,1,2,3,4]) kr)⟩
     refine wcF (wg [2,4,9,80,81,82] [0,1,2,3,4] ?_)
     refine wp_exit ?_
     cases h
     exact ⟨kr,rfl⟩
    intro x45 h out hx
    subst hx
    rcases x45 with x46 | x47
    ·dsimp only at h ⊢
     cases h
     exact ⟨kr,rfl⟩
    ·dsimp only at h ⊢
     refine wp_seq (reg_in (sz 2 2 ?_))
     refine callR (as0:=[.agg [vI p0.Grain,eL false eTapi_Node p0.Nodes,.ref 3 0 x23.2.length,.ref 4 0 x47.length,.nils],.agg [vI a29.Card,z1 a29.Parents,z2 a29.Rows]]) (us:=[.agg [vI p0.Grain,eL false eTapi_Node p0.Nodes,z1 x23.2,eL true (AV.int .u64) x47,.nils],.agg [vI a29.Card,z1 a29.Parents,z2 a29.Rows]]) (ids:=[3,4]) kr bodyB_111 (msnap_cons (snap_agg (msnap_cons rfl (msnap_cons rfl (msnap_cons (snap_full (w:=1) (bx:=false) (ro:=false) kr) (msnap_cons (snap_full (w:=1) (bx:=false) (ro:=false) kr) (msnap_cons rfl msnap_nil (by rfl)) (by rfl)) (by rfl)) (by rfl)) (by rfl))) (msnap_cons (snap_agg (msnap_cons rfl (msnap_cons rfl (msnap_cons rfl msnap_nil (by rfl)) (by rfl)) (by rfl))) msnap_nil (by rfl)) (by rfl)) (fun x48 q49=>CallOk.args [[.keep,.keep,.keep,.keep,.lst true],[.keep,.keep,.keep]] (g_net_network_filled_ok (Tnet_network.mk p0 x23.2 x47 []) a29 x48 q49)) gF h (fun x48 q49 h=>?_)
     refine sz 1 4 (reg_end rfl ?_)
     refine wbz h (fun q51 h=>?_) (fun q51 h=>?_)
     ·refine wp_seq (wg [2] [0] (rn (wg [2,3] [0] ?_)))
      refine wp_ret ?_
      cases h
      exact ⟨kr,rfl⟩
     refine wp_skip (wg [2,4,80,81,82] [0,1,3,4] (rn ?_))
     cases h
     exact ⟨_,rfl,(wk_gc (live:=[2,4,80,81,82]) (keep:=[0,1,2,3]) kr)⟩
   refine wcF (wg [2,4] [0,1,2,3] ?_)
   refine wp_exit ?_
   cases h
   exact ⟨kr,rfl⟩
  intro x52 h out hx
  subst hx
  rcases x52 with x53 | x54
  ·dsimp only at h ⊢
   cases h
   show fnOut _ _ _ _=_
   kernel_rfl
  ·dsimp only at h ⊢
   refine wp_seq (reg_in (sz 2 2 ?_))
   refine callR (as0:=[.ref 3 0 x54.length]) (ids:=[3]) kr bodyB_112 (msnap_cons (snap_full (w:=1) (bx:=false) (ro:=false) kr) msnap_nil (by rfl)) (fun x55 q56=>g_net_sorted_ok x54 x55 q56) gF h (fun x55 q56 h=>?_)
   refine sz 5 8 (reg_end rfl (wp_seq (wp_seq (wg [2,4,13,14] [0,1,4,2,3] (rn ?_)))))
   refine wb [135] h (fun q58 h=>?_) (fun q58 h=>?_)
   ·refine wcT (wp_seq ?_)
    refine wgc [2] [0] ⟨[(2,.ptr 0 0 0)],[oX true false 5 (.agg [vI 0,.nils,.nils,.nils,.nils])],140⟩ ?_
    refine rn (wg [2,3] [0] ?_)
    cases h
    exact wp_ret (show fnOut _ _ _ _=_ from by kernel_rfl)
   refine wcF (wp_skip (sq (wp_seq ?_)))
   refine wgc [2,4] [0,1,3,4,2] ⟨[(2,.ptr 0 0 0),(4,.ptr 1 0 0)],[oX true false 5 (.agg [vI 0,.nils,.nils,.nils,.nils]),oX false false 5 (.agg [vI p0.Grain,eL false eTapi_Node p0.Nodes,.ref 2 0 x23.2.length,.ref 3 0 x54.length,.ref 4 0 x55.1.length]),oR true 1 eI x23.2,oR true 1 (AV.int .u64) x54,oR true 1 eI x55.1],140⟩ ?_
   refine rn ?_
   refine wgc [2,3] [0,2,3,4] ⟨[(2,.ptr 0 0 0),(3,vI 0)],[oX false false 5 (.agg [vI p0.Grain,eL false eTapi_Node p0.Nodes,.ref 1 0 x23.2.length,.ref 2 0 x54.length,.ref 3 0 x55.1.length]),oR true 1 eI x23.2,oR true 1 (AV.int .u64) x54,oR true 1 eI x55.1],140⟩ ?_
   refine wp_wk (wk_snapO 0 0 (st':=⟨[(2,.ptr 0 0 0),(3,vI 0)],[oX false false 5 (.agg [vI p0.Grain,eL false eTapi_Node p0.Nodes,z1 x23.2,eL true (AV.int .u64) x54,z1 x55.1]),.row false true true true 1 (List.map eI x23.2),.row false true true true 1 (List.map (AV.int .u64) x54),.row false true true true 1 (List.map eI x55.1)],140⟩) (y:=.agg [vI p0.Grain,eL false eTapi_Node p0.Nodes,z1 x23.2,eL true (AV.int .u64) x54,z1 x55.1]) (ids:=[1,2,3]) rfl rfl rfl (snap_agg (msnap_cons rfl (msnap_cons rfl (msnap_cons (snap_full (w:=1) (bx:=false) (ro:=false) kr) (msnap_cons (snap_full (w:=1) (bx:=false) (ro:=false) kr) (msnap_cons (snap_full (w:=1) (bx:=false) (ro:=false) kr) msnap_nil (by rfl)) (by rfl)) (by rfl)) (by rfl)) (by rfl))) kr) ?_
   cases h
   exact wp_ret (show fnOut _ _ _ _=_ from by kernel_rfl)
theorem g_net_Check_ok (p0:Tapi_Net) (x:Int) (h:g_net_Check p0=some x):CallOk Try.prog 70 [.agg [vI p0.Grain,eL false eTapi_Node p0.Nodes]] (.ret (vI x) []):=by
 refine fn_ok [] Try.func70 rfl (by decide +kernel) rfl ?_
 unfold g_net_Check at h
 refine wp_eqB (base':=0) (st':=⟨[(0,.agg [vI p0.Grain,eL false eTapi_Node p0.Nodes])],[],11⟩) kr kr ?_
 refine wp_seq (reg_in ?_)
 refine sgL false [] [] false gE ?_
 refine sz 1 2 (reg_end rfl (wp_seq (reg_in (sz 1 1 ?_))))
 refine callW bodyB_96 (g_net_read_ok p0) h (fun x1 _ h=>?_)
 refine sz 3 5 ?_
 refine sgL false [] [] false gE ?_
 refine sz 2 8 (reg_end rfl (wp_seq (wg [4] [] (rn ?_))))
 refine wgc [2] [] ⟨[(2,vI x1.2)],[],11⟩ ?_
 cases h
 exact wp_ret (show fnOut _ _ _ _=_ from by kernel_rfl)
end Go.Ab
