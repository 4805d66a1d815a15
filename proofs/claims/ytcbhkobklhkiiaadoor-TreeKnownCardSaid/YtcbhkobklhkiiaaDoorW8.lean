/- What functions compute. No conditions. -/
import Derived.Test.YtcbhkobklhkiiaaDoorEng7
import Derived.Test.YtcbhkobklhkiiaaDoorProg
import Derived.KernelRfl
set_option linter.all false
namespace Go.Ab
open Go
structure Tapi_Node where
 Card:Int
 Parents:(List Int)
 Rows:(List (List Int))
 deriving DecidableEq,Inhabited
@[reducible] def eTapi_Node (x:Tapi_Node):AV:=.agg [vI x.Card,eL true eI x.Parents,eL false (eL true eI) x.Rows]
structure Tapi_Net where
 Grain:Int
 Nodes:(List Tapi_Node)
 deriving DecidableEq,Inhabited
structure Tnet_network where
 Net:Tapi_Net
 cards:(List Int)
 sets:(List Int)
 order:(List Int)
 deriving DecidableEq,Inhabited
structure Tapi_Tree where
 Cliques:(List Int)
 Up:(List Int)
 Home:(List Int)
 deriving DecidableEq,Inhabited
structure Ttree_graph where
 near:(List Int)
 deriving DecidableEq,Inhabited
structure Ttree_maker where
 graph:Ttree_graph
 order:(List Int)
 deriving DecidableEq,Inhabited
structure Tharuspexref10_Bend where
 What : Int
 At:Int
 N:Int
 S:Int
 deriving DecidableEq,Inhabited
@[reducible] def eTharuspexref10_Bend (x:Tharuspexref10_Bend):AV:=.agg [.int .u8 x.What,.int .u8 x.At,vI x.N,.int .u64 x.S]
def g_net_network_filled_b0 (p1:Tapi_Node) (p0:Tnet_network) (s1:(Int × Int)):Option (Step (Int × Int) Int) :=
 if (decide (s1.2 < (p1.Parents.length:Int)))=true then
  (lkI p1.Parents s1.2).bind fun a4 =>
  (lkI p0.cards a4).bind fun a6 =>
  some (.next (IntKind.i64.wrap (s1.1*a6),IntKind.i64.wrap (s1.2+1)))
 else
 some (.done s1.1)
def g_net_network_filled_b1 (a15:(List Int)) (s17:(Int × Int)):Option (Step (Int × Int) (Unit ⊕ Int)) :=
 if (decide (s17.2 < (a15.length:Int)))=true then
  (lkI a15 s17.2).bind fun a20 =>
  if (decide (a20 < 0))=true then
   some (.done (Sum.inl ()))
  else
  if (decide (a20 > s17.1))=true then
   some (.done (Sum.inl ()))
  else
  some (.next (IntKind.i64.wrap (s17.1 - a20),IntKind.i64.wrap (s17.2+1)))
 else
 some (.done (Sum.inr s17.1))
def g_net_network_filled_b2 (p1:Tapi_Node) (p0:Tnet_network) (s12:Int):Option (Step Int (Unit ⊕ Unit)) :=
 if (decide (s12 < (p1.Rows.length:Int)))=true then
  (lkI p1.Rows s12).bind fun a15 =>
  (whileN fuel (g_net_network_filled_b1 a15) (p0.Net.Grain,0)).bind fun x26=>match x26 with
  | .inl x27=>(
   some (.done (Sum.inl ())))
  | .inr x28=>(
   if ((a15.length:Int) != p1.Card)=true then
    some (.done (Sum.inl ()))
   else
   if (x28 != 0)=true then
    some (.done (Sum.inl ()))
   else
   some (.next (IntKind.i64.wrap (s12+1))))
 else
 some (.done (Sum.inr ()))
def g_net_network_filled (p0:Tnet_network) (p1:Tapi_Node):Option Bool :=
 (whileN fuel (g_net_network_filled_b0 p1 p0) (1,0)).bind fun x9 =>
 if ((p1.Rows.length:Int) != x9)=true then
  some false
 else
 (whileN fuel (g_net_network_filled_b2 p1 p0) 0).bind fun x33=>match x33 with
 | .inl x34=>(
  some false)
 | .inr x35=>(
  some true)
def g_net_sorted_b0 (p0:(List Int)) (s1:(Int × (List Int))) (s4:Int):Option (Step Int ((Int × (List Int)) ⊕ Unit)) :=
 if (decide (s4 < (p0.length:Int)))=true then
  (lkI p0 s4).bind fun a7 =>
  if 0≤s4 then
   if ((IntKind.u64.wrap (BitVec.ofInt (IntKind.bits .u64) (Int.fdiv s1.1 (2^min (Int.toNat s4) (IntKind.bits .u64))) &&& BitVec.ofInt (IntKind.bits .u64) 1).toNat)==0)=true then
    if ((IntKind.u64.wrap (BitVec.ofInt (IntKind.bits .u64) a7 &&& ~~~ BitVec.ofInt (IntKind.bits .u64) s1.1).toNat)==0)=true then
     if (s1.2++([s4]:(List Int))).length*8≤140737488355328 then
      if 0≤s4 then
       some (.done (Sum.inl (IntKind.u64.wrap (BitVec.ofInt (IntKind.bits .u64) s1.1 ||| BitVec.ofInt (IntKind.bits .u64) (IntKind.u64.wrap (1*2^min (Int.toNat s4) (IntKind.bits .u64)))).toNat,(s1.2++([s4]:(List Int))))))
      else none
     else none
    else
    some (.next (IntKind.i64.wrap (s4+1)))
   else
   some (.next (IntKind.i64.wrap (s4+1)))
  else none
 else
 some (.done (Sum.inr ()))
def g_net_sorted_b1 (p0:(List Int)) (s1:(Int × (List Int))):Option (Step (Int × (List Int)) (Unit ⊕ (List Int))) :=
 if (decide ((s1.2.length:Int) < (p0.length:Int)))=true then
  (whileN fuel (g_net_sorted_b0 p0 s1) 0).bind fun x13=>match x13 with
  | .inl x14=>(
   some (.next (x14.1,x14.2)))
  | .inr x15=>(
   some (.done (Sum.inl ())))
 else
 some (.done (Sum.inr s1.2))
def g_net_sorted (p0:(List Int)):Option ((List Int) × Bool) :=
 if 0≤(0:Int)∧(0:Int)≤(p0.length:Int)∧(p0.length:Int)*8≤140737488355328 then
  (whileN fuel (g_net_sorted_b1 p0) (0,(List.replicate (Int.toNat 0) (0:Int)))).bind fun x16=>match x16 with
  | .inl x17=>(
   some (([]:(List Int)),false))
  | .inr x18=>(
   some (x18,true))
 else none
def g_net_read_b0 (p0:Tapi_Net) (s9:(Int × Int × (List Int))):Option (Step (Int × Int × (List Int)) (Unit ⊕ (Int × (List Int)))) :=
 if (decide (s9.2.1 < (p0.Nodes.length:Int)))=true then
  (lkI p0.Nodes s9.2.1).bind fun a12 =>
  if (decide (a12.Card < 1))=true then
   some (.done (Sum.inl ()))
  else
  if (decide (a12.Card > 4))=true then
   some (.done (Sum.inl ()))
  else
  (lkI s9.2.2 s9.2.1).bind fun a18 =>
  some (.next (IntKind.i64.wrap (s9.1*a12.Card),IntKind.i64.wrap (s9.2.1+1),(List.set s9.2.2 (Int.toNat s9.2.1) a12.Card)))
 else
 some (.done (Sum.inr (s9.1,s9.2.2)))
def g_net_read_b1 (a29:Tapi_Node) (p0:Tapi_Net) (s26:(Int × (List Int))) (s31:(Int × Int × (List Int))):Option (Step (Int × Int × (List Int)) (Unit ⊕ (List Int))) :=
 if (decide (s31.2.1 < (a29.Parents.length:Int)))=true then
  (lkI a29.Parents s31.2.1).bind fun a34 =>
  if (decide (a34≤s31.1))=true then
   some (.done (Sum.inl ()))
  else
  if (decide (a34≥(p0.Nodes.length:Int)))=true then
   some (.done (Sum.inl ()))
  else
  if (a34==s26.1)=true then
   some (.done (Sum.inl ()))
  else
  (lkI s31.2.2 s26.1).bind fun a42 =>
  if 0≤a34 then
   some (.next (a34,IntKind.i64.wrap (s31.2.1+1),(List.set s31.2.2 (Int.toNat s26.1) (IntKind.u64.wrap (BitVec.ofInt (IntKind.bits .u64) a42 ||| BitVec.ofInt (IntKind.bits .u64) (IntKind.u64.wrap (1*2^min (Int.toNat a34) (IntKind.bits .u64)))).toNat))))
  else none
 else
 some (.done (Sum.inr s31.2.2))
def g_net_read_b2 (p0:Tapi_Net) (x23:(Int × (List Int))) (s26:(Int × (List Int))):Option (Step (Int × (List Int)) (Unit ⊕ (List Int))) :=
 if (decide (s26.1 < (p0.Nodes.length:Int)))=true then
  (lkI p0.Nodes s26.1).bind fun a29 =>
  (whileN fuel (g_net_read_b1 a29 p0 s26) (-1,0,s26.2)).bind fun x45=>match x45 with
  | .inl x46=>(
   some (.done (Sum.inl ())))
  | .inr x47=>(
   (g_net_network_filled (Tnet_network.mk p0 x23.2 x47 []) a29).bind fun x48 =>
   if (!x48)=true then
    some (.done (Sum.inl ()))
   else
   some (.next (IntKind.i64.wrap (s26.1+1),x47)))
 else
 some (.done (Sum.inr s26.2))
def g_net_read (p0:Tapi_Net):Option (Tnet_network × Int) :=
 if (decide (p0.Grain < 1))=true then
  some ((Tnet_network.mk (Tapi_Net.mk 0 []) [] [] []),50)
 else
 if (decide (p0.Grain > 60))=true then
  some ((Tnet_network.mk (Tapi_Net.mk 0 []) [] [] []),50)
 else
 if (decide ((p0.Nodes.length:Int) < 1))=true then
  some ((Tnet_network.mk (Tapi_Net.mk 0 []) [] [] []),50)
 else
 if (decide ((p0.Nodes.length:Int) > 8))=true then
  some ((Tnet_network.mk (Tapi_Net.mk 0 []) [] [] []),50)
 else
 if 0≤(p0.Nodes.length:Int)∧(p0.Nodes.length:Int)≤(p0.Nodes.length:Int)∧(p0.Nodes.length:Int)*8≤140737488355328 then
  if 0≤(p0.Nodes.length:Int)∧(p0.Nodes.length:Int)≤(p0.Nodes.length:Int)∧(p0.Nodes.length:Int)*8≤140737488355328 then
   (whileN fuel (g_net_read_b0 p0) (1,0,(List.replicate (Int.toNat (p0.Nodes.length:Int)) (0:Int)))).bind fun x21=>match x21 with
   | .inl x22=>(
    some ((Tnet_network.mk (Tapi_Net.mk 0 []) [] [] []),50))
   | .inr x23=>(
    if (decide (x23.1 > 1024))=true then
     some ((Tnet_network.mk (Tapi_Net.mk 0 []) [] [] []),50)
    else
    (whileN fuel (g_net_read_b2 p0 x23) (0,(List.replicate (Int.toNat (p0.Nodes.length:Int)) (0:Int)))).bind fun x52=>match x52 with
    | .inl x53=>(
     some ((Tnet_network.mk (Tapi_Net.mk 0 []) [] [] []),50))
    | .inr x54=>(
     (g_net_sorted x54).bind fun x55 =>
     if (!x55.2)=true then
      some ((Tnet_network.mk (Tapi_Net.mk 0 []) [] [] []),50)
     else
     some ((Tnet_network.mk p0 x23.2 x54 x55.1),0)))
  else none
 else none
def g_tree_readFamilies_b0 (p0:Tapi_Net) (s9:(Int × Int × (List Int))):Option (Step (Int × Int × (List Int)) (Unit ⊕ (Int × (List Int)))) :=
 if (decide (s9.2.1 < (p0.Nodes.length:Int)))=true then
  (lkI p0.Nodes s9.2.1).bind fun a12 =>
  if (decide (a12.Card < 1))=true then
   some (.done (Sum.inl ()))
  else
  if (decide (a12.Card > 4))=true then
   some (.done (Sum.inl ()))
  else
  (lkI s9.2.2 s9.2.1).bind fun a18 =>
  some (.next (IntKind.i64.wrap (s9.1*a12.Card),IntKind.i64.wrap (s9.2.1+1),(List.set s9.2.2 (Int.toNat s9.2.1) a12.Card)))
 else
 some (.done (Sum.inr (s9.1,s9.2.2)))
def g_tree_readFamilies_b1 (a29:Tapi_Node) (p0:Tapi_Net) (s26:(Int × (List Int))) (s31:(Int × Int × (List Int))):Option (Step (Int × Int × (List Int)) (Unit ⊕ (List Int))) :=
 if (decide (s31.2.1 < (a29.Parents.length:Int)))=true then
  (lkI a29.Parents s31.2.1).bind fun a34 =>
  if (decide (a34≤s31.1))=true then
   some (.done (Sum.inl ()))
  else
  if (decide (a34≥(p0.Nodes.length:Int)))=true then
   some (.done (Sum.inl ()))
  else
  if (a34==s26.1)=true then
   some (.done (Sum.inl ()))
  else
  (lkI s31.2.2 s26.1).bind fun a42 =>
  if 0≤a34 then
   some (.next (a34,IntKind.i64.wrap (s31.2.1+1),(List.set s31.2.2 (Int.toNat s26.1) (IntKind.u64.wrap (BitVec.ofInt (IntKind.bits .u64) a42 ||| BitVec.ofInt (IntKind.bits .u64) (IntKind.u64.wrap (1*2^min (Int.toNat a34) (IntKind.bits .u64)))).toNat))))
  else none
 else
 some (.done (Sum.inr s31.2.2))
def g_tree_readFamilies_b2 (p0:Tapi_Net) (x23:(Int × (List Int))) (s26:(Int × (List Int))):Option (Step (Int × (List Int)) (Unit ⊕ (List Int))) :=
 if (decide (s26.1 < (p0.Nodes.length:Int)))=true then
  (lkI p0.Nodes s26.1).bind fun a29 =>
  (whileN fuel (g_tree_readFamilies_b1 a29 p0 s26) (-1,0,s26.2)).bind fun x45=>match x45 with
  | .inl x46=>(
   some (.done (Sum.inl ())))
  | .inr x47=>(
   (g_net_network_filled (Tnet_network.mk p0 x23.2 x47 []) a29).bind fun x48 =>
   if (!x48)=true then
    some (.done (Sum.inl ()))
   else
   some (.next (IntKind.i64.wrap (s26.1+1),x47)))
 else
 some (.done (Sum.inr s26.2))
def g_tree_readFamilies_b3 (x54:(List Int)) (s59:(Int × (List Int))):Option (Step (Int × (List Int)) (List Int)) :=
 if (decide (s59.1 < (x54.length:Int)))=true then
  (lkI s59.2 s59.1).bind fun a62 =>
  if 0≤s59.1 then
   some (.next (IntKind.i64.wrap (s59.1+1),(List.set s59.2 (Int.toNat s59.1) (IntKind.u64.wrap (BitVec.ofInt (IntKind.bits .u64) a62 ||| BitVec.ofInt (IntKind.bits .u64) (IntKind.u64.wrap (1*2^min (Int.toNat s59.1) (IntKind.bits .u64)))).toNat))))
  else none
 else
 some (.done s59.2)
def g_tree_readFamilies (p0:Tapi_Net):Option ((List Int) × Int) :=
 if (decide (p0.Grain < 1))=true then
  some (([]:(List Int)),50)
 else
 if (decide (p0.Grain > 60))=true then
  some (([]:(List Int)),50)
 else
 if (decide ((p0.Nodes.length:Int) < 1))=true then
  some (([]:(List Int)),50)
 else
 if (decide ((p0.Nodes.length:Int) > 8))=true then
  some (([]:(List Int)),50)
 else
 if 0≤(p0.Nodes.length:Int)∧(p0.Nodes.length:Int)≤(p0.Nodes.length:Int)∧(p0.Nodes.length:Int)*8≤140737488355328 then
  if 0≤(p0.Nodes.length:Int)∧(p0.Nodes.length:Int)≤(p0.Nodes.length:Int)∧(p0.Nodes.length:Int)*8≤140737488355328 then
   (whileN fuel (g_tree_readFamilies_b0 p0) (1,0,(List.replicate (Int.toNat (p0.Nodes.length:Int)) (0:Int)))).bind fun x21=>match x21 with
   | .inl x22=>(
    some (([]:(List Int)),50))
   | .inr x23=>(
    if (decide (x23.1 > 1024))=true then
     some (([]:(List Int)),50)
    else
    (whileN fuel (g_tree_readFamilies_b2 p0 x23) (0,(List.replicate (Int.toNat (p0.Nodes.length:Int)) (0:Int)))).bind fun x52=>match x52 with
    | .inl x53=>(
     some (([]:(List Int)),50))
    | .inr x54=>(
     (g_net_sorted x54).bind fun x55 =>
     if (!x55.2)=true then
      some (([]:(List Int)),50)
     else
     (whileN fuel (g_tree_readFamilies_b3 x54) (0,x54)).bind fun x66 =>
     some (x66,0)))
  else none
 else none
def g_tree_Check_b0 (p1:Tapi_Tree) (x1:((List Int) × Int)) (s13:(Int × Int)):Option (Step (Int × Int) (Unit ⊕ Unit)) :=
 if (decide (s13.2 < (p1.Cliques.length:Int)))=true then
  (lkI p1.Cliques s13.2).bind fun a16 =>
  if (a16==0)=true then
   some (.done (Sum.inl ()))
  else
  if 0≤(x1.1.length:Int) then
   if ((Int.fdiv a16 (2^min (Int.toNat (x1.1.length:Int)) (IntKind.bits .u64))) != 0)=true then
    some (.done (Sum.inl ()))
   else
   (lkI p1.Up s13.2).bind fun a22 =>
   if (s13.2==0)=true then
    if (a22 != (-1))=true then
     some (.done (Sum.inl ()))
    else
    some (.next (IntKind.u64.wrap (BitVec.ofInt (IntKind.bits .u64) s13.1 ||| BitVec.ofInt (IntKind.bits .u64) a16).toNat,IntKind.i64.wrap (s13.2+1)))
   else
   if (decide (a22 < 0))=true then
    some (.done (Sum.inl ()))
   else
   if (decide (a22≥s13.2))=true then
    some (.done (Sum.inl ()))
   else
   (lkI p1.Cliques a22).bind fun a32 =>
   if ((IntKind.u64.wrap (BitVec.ofInt (IntKind.bits .u64) (IntKind.u64.wrap (BitVec.ofInt (IntKind.bits .u64) a16 &&& BitVec.ofInt (IntKind.bits .u64) s13.1).toNat) &&& ~~~ BitVec.ofInt (IntKind.bits .u64) a32).toNat) != 0)=true then
    some (.done (Sum.inl ()))
   else
   some (.next (IntKind.u64.wrap (BitVec.ofInt (IntKind.bits .u64) s13.1 ||| BitVec.ofInt (IntKind.bits .u64) a16).toNat,IntKind.i64.wrap (s13.2+1)))
  else none
 else
 some (.done (Sum.inr ()))
def g_tree_Check_b1 (p1:Tapi_Tree) (x1:((List Int) × Int)) (s39:Int):Option (Step Int (Unit ⊕ Unit)) :=
 if (decide (s39 < (p1.Home.length:Int)))=true then
  (lkI p1.Home s39).bind fun a42 =>
  if (decide (a42 < 0))=true then
   some (.done (Sum.inl ()))
  else
  if (decide (a42≥(p1.Cliques.length:Int)))=true then
   some (.done (Sum.inl ()))
  else
  (lkI x1.1 s39).bind fun a48 =>
  (lkI p1.Cliques a42).bind fun a50 =>
  if ((IntKind.u64.wrap (BitVec.ofInt (IntKind.bits .u64) a48 &&& ~~~ BitVec.ofInt (IntKind.bits .u64) a50).toNat) != 0)=true then
   some (.done (Sum.inl ()))
  else
  some (.next (IntKind.i64.wrap (s39+1)))
 else
 some (.done (Sum.inr ()))
def g_tree_Check (p0:Tapi_Net) (p1:Tapi_Tree):Option Int :=
 (g_tree_readFamilies p0).bind fun x1 =>
 if (x1.2 != 0)=true then
  some x1.2
 else
 if (decide ((p1.Cliques.length:Int) < 1))=true then
  some 100
 else
 if (decide ((p1.Cliques.length:Int) > 8))=true then
  some 100
 else
 if ((p1.Up.length:Int) != (p1.Cliques.length:Int))=true then
  some 100
 else
 if ((p1.Home.length:Int) != (x1.1.length:Int))=true then
  some 100
 else
 (whileN fuel (g_tree_Check_b0 p1 x1) (0,0)).bind fun x36=>match x36 with
 | .inl x37=>(
  some 100)
 | .inr x38=>(
  (whileN fuel (g_tree_Check_b1 p1 x1) 0).bind fun x54=>match x54 with
  | .inl x55=>(
   some 100)
  | .inr x56=>(
   some 0))
def g_math_bits_OnesCount64 (p0:Int):Option Int :=
 some (IntKind.i64.wrap (BitVec.ofInt (IntKind.bits .i64) (IntKind.i64.wrap (IntKind.u64.wrap ((IntKind.u64.wrap ((IntKind.u64.wrap ((IntKind.u64.wrap (BitVec.ofInt (IntKind.bits .u64) (IntKind.u64.wrap ((Int.fdiv (IntKind.u64.wrap ((IntKind.u64.wrap (BitVec.ofInt (IntKind.bits .u64) (Int.fdiv (IntKind.u64.wrap ((IntKind.u64.wrap (BitVec.ofInt (IntKind.bits .u64) (Int.fdiv p0 (2^min (Int.toNat 1) (IntKind.bits .u64))) &&& BitVec.ofInt (IntKind.bits .u64) 6148914691236517205).toNat)+(IntKind.u64.wrap (BitVec.ofInt (IntKind.bits .u64) p0 &&& BitVec.ofInt (IntKind.bits .u64) 6148914691236517205).toNat))) (2^min (Int.toNat 2) (IntKind.bits .u64))) &&& BitVec.ofInt (IntKind.bits .u64) 3689348814741910323).toNat)+(IntKind.u64.wrap (BitVec.ofInt (IntKind.bits .u64) (IntKind.u64.wrap ((IntKind.u64.wrap (BitVec.ofInt (IntKind.bits .u64) (Int.fdiv p0 (2^min (Int.toNat 1) (IntKind.bits .u64))) &&& BitVec.ofInt (IntKind.bits .u64) 6148914691236517205).toNat)+(IntKind.u64.wrap (BitVec.ofInt (IntKind.bits .u64) p0 &&& BitVec.ofInt (IntKind.bits .u64) 6148914691236517205).toNat))) &&& BitVec.ofInt (IntKind.bits .u64) 3689348814741910323).toNat))) (2^min (Int.toNat 4) (IntKind.bits .u64)))+(IntKind.u64.wrap ((IntKind.u64.wrap (BitVec.ofInt (IntKind.bits .u64) (Int.fdiv (IntKind.u64.wrap ((IntKind.u64.wrap (BitVec.ofInt (IntKind.bits .u64) (Int.fdiv p0 (2^min (Int.toNat 1) (IntKind.bits .u64))) &&& BitVec.ofInt (IntKind.bits .u64) 6148914691236517205).toNat)+(IntKind.u64.wrap (BitVec.ofInt (IntKind.bits .u64) p0 &&& BitVec.ofInt (IntKind.bits .u64) 6148914691236517205).toNat))) (2^min (Int.toNat 2) (IntKind.bits .u64))) &&& BitVec.ofInt (IntKind.bits .u64) 3689348814741910323).toNat)+(IntKind.u64.wrap (BitVec.ofInt (IntKind.bits .u64) (IntKind.u64.wrap ((IntKind.u64.wrap (BitVec.ofInt (IntKind.bits .u64) (Int.fdiv p0 (2^min (Int.toNat 1) (IntKind.bits .u64))) &&& BitVec.ofInt (IntKind.bits .u64) 6148914691236517205).toNat)+(IntKind.u64.wrap (BitVec.ofInt (IntKind.bits .u64) p0 &&& BitVec.ofInt (IntKind.bits .u64) 6148914691236517205).toNat))) &&& BitVec.ofInt (IntKind.bits .u64) 3689348814741910323).toNat))))) &&& BitVec.ofInt (IntKind.bits .u64) 1085102592571150095).toNat)+(Int.fdiv (IntKind.u64.wrap (BitVec.ofInt (IntKind.bits .u64) (IntKind.u64.wrap ((Int.fdiv (IntKind.u64.wrap ((IntKind.u64.wrap (BitVec.ofInt (IntKind.bits .u64) (Int.fdiv (IntKind.u64.wrap ((IntKind.u64.wrap (BitVec.ofInt (IntKind.bits .u64) (Int.fdiv p0 (2^min (Int.toNat 1) (IntKind.bits .u64))) &&& BitVec.ofInt (IntKind.bits .u64) 6148914691236517205).toNat)+(IntKind.u64.wrap (BitVec.ofInt (IntKind.bits .u64) p0 &&& BitVec.ofInt (IntKind.bits .u64) 6148914691236517205).toNat))) (2^min (Int.toNat 2) (IntKind.bits .u64))) &&& BitVec.ofInt (IntKind.bits .u64) 3689348814741910323).toNat)+(IntKind.u64.wrap (BitVec.ofInt (IntKind.bits .u64) (IntKind.u64.wrap ((IntKind.u64.wrap (BitVec.ofInt (IntKind.bits .u64) (Int.fdiv p0 (2^min (Int.toNat 1) (IntKind.bits .u64))) &&& BitVec.ofInt (IntKind.bits .u64) 6148914691236517205).toNat)+(IntKind.u64.wrap (BitVec.ofInt (IntKind.bits .u64) p0 &&& BitVec.ofInt (IntKind.bits .u64) 6148914691236517205).toNat))) &&& BitVec.ofInt (IntKind.bits .u64) 3689348814741910323).toNat))) (2^min (Int.toNat 4) (IntKind.bits .u64)))+(IntKind.u64.wrap ((IntKind.u64.wrap (BitVec.ofInt (IntKind.bits .u64) (Int.fdiv (IntKind.u64.wrap ((IntKind.u64.wrap (BitVec.ofInt (IntKind.bits .u64) (Int.fdiv p0 (2^min (Int.toNat 1) (IntKind.bits .u64))) &&& BitVec.ofInt (IntKind.bits .u64) 6148914691236517205).toNat)+(IntKind.u64.wrap (BitVec.ofInt (IntKind.bits .u64) p0 &&& BitVec.ofInt (IntKind.bits .u64) 6148914691236517205).toNat))) (2^min (Int.toNat 2) (IntKind.bits .u64))) &&& BitVec.ofInt (IntKind.bits .u64) 3689348814741910323).toNat)+(IntKind.u64.wrap (BitVec.ofInt (IntKind.bits .u64) (IntKind.u64.wrap ((IntKind.u64.wrap (BitVec.ofInt (IntKind.bits .u64) (Int.fdiv p0 (2^min (Int.toNat 1) (IntKind.bits .u64))) &&& BitVec.ofInt (IntKind.bits .u64) 6148914691236517205).toNat)+(IntKind.u64.wrap (BitVec.ofInt (IntKind.bits .u64) p0 &&& BitVec.ofInt (IntKind.bits .u64) 6148914691236517205).toNat))) &&& BitVec.ofInt (IntKind.bits .u64) 3689348814741910323).toNat))))) &&& BitVec.ofInt (IntKind.bits .u64) 1085102592571150095).toNat) (2^min (Int.toNat 8) (IntKind.bits .u64)))))+(Int.fdiv (IntKind.u64.wrap ((IntKind.u64.wrap (BitVec.ofInt (IntKind.bits .u64) (IntKind.u64.wrap ((Int.fdiv (IntKind.u64.wrap ((IntKind.u64.wrap (BitVec.ofInt (IntKind.bits .u64) (Int.fdiv (IntKind.u64.wrap ((IntKind.u64.wrap (BitVec.ofInt (IntKind.bits .u64) (Int.fdiv p0 (2^min (Int.toNat 1) (IntKind.bits .u64))) &&& BitVec.ofInt (IntKind.bits .u64) 6148914691236517205).toNat)+(IntKind.u64.wrap (BitVec.ofInt (IntKind.bits .u64) p0 &&& BitVec.ofInt (IntKind.bits .u64) 6148914691236517205).toNat))) (2^min (Int.toNat 2) (IntKind.bits .u64))) &&& BitVec.ofInt (IntKind.bits .u64) 3689348814741910323).toNat)+(IntKind.u64.wrap (BitVec.ofInt (IntKind.bits .u64) (IntKind.u64.wrap ((IntKind.u64.wrap (BitVec.ofInt (IntKind.bits .u64) (Int.fdiv p0 (2^min (Int.toNat 1) (IntKind.bits .u64))) &&& BitVec.ofInt (IntKind.bits .u64) 6148914691236517205).toNat)+(IntKind.u64.wrap (BitVec.ofInt (IntKind.bits .u64) p0 &&& BitVec.ofInt (IntKind.bits .u64) 6148914691236517205).toNat))) &&& BitVec.ofInt (IntKind.bits .u64) 3689348814741910323).toNat))) (2^min (Int.toNat 4) (IntKind.bits .u64)))+(IntKind.u64.wrap ((IntKind.u64.wrap (BitVec.ofInt (IntKind.bits .u64) (Int.fdiv (IntKind.u64.wrap ((IntKind.u64.wrap (BitVec.ofInt (IntKind.bits .u64) (Int.fdiv p0 (2^min (Int.toNat 1) (IntKind.bits .u64))) &&& BitVec.ofInt (IntKind.bits .u64) 6148914691236517205).toNat)+(IntKind.u64.wrap (BitVec.ofInt (IntKind.bits .u64) p0 &&& BitVec.ofInt (IntKind.bits .u64) 6148914691236517205).toNat))) (2^min (Int.toNat 2) (IntKind.bits .u64))) &&& BitVec.ofInt (IntKind.bits .u64) 3689348814741910323).toNat)+(IntKind.u64.wrap (BitVec.ofInt (IntKind.bits .u64) (IntKind.u64.wrap ((IntKind.u64.wrap (BitVec.ofInt (IntKind.bits .u64) (Int.fdiv p0 (2^min (Int.toNat 1) (IntKind.bits .u64))) &&& BitVec.ofInt (IntKind.bits .u64) 6148914691236517205).toNat)+(IntKind.u64.wrap (BitVec.ofInt (IntKind.bits .u64) p0 &&& BitVec.ofInt (IntKind.bits .u64) 6148914691236517205).toNat))) &&& BitVec.ofInt (IntKind.bits .u64) 3689348814741910323).toNat))))) &&& BitVec.ofInt (IntKind.bits .u64) 1085102592571150095).toNat)+(Int.fdiv (IntKind.u64.wrap (BitVec.ofInt (IntKind.bits .u64) (IntKind.u64.wrap ((Int.fdiv (IntKind.u64.wrap ((IntKind.u64.wrap (BitVec.ofInt (IntKind.bits .u64) (Int.fdiv (IntKind.u64.wrap ((IntKind.u64.wrap (BitVec.ofInt (IntKind.bits .u64) (Int.fdiv p0 (2^min (Int.toNat 1) (IntKind.bits .u64))) &&& BitVec.ofInt (IntKind.bits .u64) 6148914691236517205).toNat)+(IntKind.u64.wrap (BitVec.ofInt (IntKind.bits .u64) p0 &&& BitVec.ofInt (IntKind.bits .u64) 6148914691236517205).toNat))) (2^min (Int.toNat 2) (IntKind.bits .u64))) &&& BitVec.ofInt (IntKind.bits .u64) 3689348814741910323).toNat)+(IntKind.u64.wrap (BitVec.ofInt (IntKind.bits .u64) (IntKind.u64.wrap ((IntKind.u64.wrap (BitVec.ofInt (IntKind.bits .u64) (Int.fdiv p0 (2^min (Int.toNat 1) (IntKind.bits .u64))) &&& BitVec.ofInt (IntKind.bits .u64) 6148914691236517205).toNat)+(IntKind.u64.wrap (BitVec.ofInt (IntKind.bits .u64) p0 &&& BitVec.ofInt (IntKind.bits .u64) 6148914691236517205).toNat))) &&& BitVec.ofInt (IntKind.bits .u64) 3689348814741910323).toNat))) (2^min (Int.toNat 4) (IntKind.bits .u64)))+(IntKind.u64.wrap ((IntKind.u64.wrap (BitVec.ofInt (IntKind.bits .u64) (Int.fdiv (IntKind.u64.wrap ((IntKind.u64.wrap (BitVec.ofInt (IntKind.bits .u64) (Int.fdiv p0 (2^min (Int.toNat 1) (IntKind.bits .u64))) &&& BitVec.ofInt (IntKind.bits .u64) 6148914691236517205).toNat)+(IntKind.u64.wrap (BitVec.ofInt (IntKind.bits .u64) p0 &&& BitVec.ofInt (IntKind.bits .u64) 6148914691236517205).toNat))) (2^min (Int.toNat 2) (IntKind.bits .u64))) &&& BitVec.ofInt (IntKind.bits .u64) 3689348814741910323).toNat)+(IntKind.u64.wrap (BitVec.ofInt (IntKind.bits .u64) (IntKind.u64.wrap ((IntKind.u64.wrap (BitVec.ofInt (IntKind.bits .u64) (Int.fdiv p0 (2^min (Int.toNat 1) (IntKind.bits .u64))) &&& BitVec.ofInt (IntKind.bits .u64) 6148914691236517205).toNat)+(IntKind.u64.wrap (BitVec.ofInt (IntKind.bits .u64) p0 &&& BitVec.ofInt (IntKind.bits .u64) 6148914691236517205).toNat))) &&& BitVec.ofInt (IntKind.bits .u64) 3689348814741910323).toNat))))) &&& BitVec.ofInt (IntKind.bits .u64) 1085102592571150095).toNat) (2^min (Int.toNat 8) (IntKind.bits .u64))))) (2^min (Int.toNat 16) (IntKind.bits .u64)))))+(Int.fdiv (IntKind.u64.wrap ((IntKind.u64.wrap ((IntKind.u64.wrap (BitVec.ofInt (IntKind.bits .u64) (IntKind.u64.wrap ((Int.fdiv (IntKind.u64.wrap ((IntKind.u64.wrap (BitVec.ofInt (IntKind.bits .u64) (Int.fdiv (IntKind.u64.wrap ((IntKind.u64.wrap (BitVec.ofInt (IntKind.bits .u64) (Int.fdiv p0 (2^min (Int.toNat 1) (IntKind.bits .u64))) &&& BitVec.ofInt (IntKind.bits .u64) 6148914691236517205).toNat)+(IntKind.u64.wrap (BitVec.ofInt (IntKind.bits .u64) p0 &&& BitVec.ofInt (IntKind.bits .u64) 6148914691236517205).toNat))) (2^min (Int.toNat 2) (IntKind.bits .u64))) &&& BitVec.ofInt (IntKind.bits .u64) 3689348814741910323).toNat)+(IntKind.u64.wrap (BitVec.ofInt (IntKind.bits .u64) (IntKind.u64.wrap ((IntKind.u64.wrap (BitVec.ofInt (IntKind.bits .u64) (Int.fdiv p0 (2^min (Int.toNat 1) (IntKind.bits .u64))) &&& BitVec.ofInt (IntKind.bits .u64) 6148914691236517205).toNat)+(IntKind.u64.wrap (BitVec.ofInt (IntKind.bits .u64) p0 &&& BitVec.ofInt (IntKind.bits .u64) 6148914691236517205).toNat))) &&& BitVec.ofInt (IntKind.bits .u64) 3689348814741910323).toNat))) (2^min (Int.toNat 4) (IntKind.bits .u64)))+(IntKind.u64.wrap ((IntKind.u64.wrap (BitVec.ofInt (IntKind.bits .u64) (Int.fdiv (IntKind.u64.wrap ((IntKind.u64.wrap (BitVec.ofInt (IntKind.bits .u64) (Int.fdiv p0 (2^min (Int.toNat 1) (IntKind.bits .u64))) &&& BitVec.ofInt (IntKind.bits .u64) 6148914691236517205).toNat)+(IntKind.u64.wrap (BitVec.ofInt (IntKind.bits .u64) p0 &&& BitVec.ofInt (IntKind.bits .u64) 6148914691236517205).toNat))) (2^min (Int.toNat 2) (IntKind.bits .u64))) &&& BitVec.ofInt (IntKind.bits .u64) 3689348814741910323).toNat)+(IntKind.u64.wrap (BitVec.ofInt (IntKind.bits .u64) (IntKind.u64.wrap ((IntKind.u64.wrap (BitVec.ofInt (IntKind.bits .u64) (Int.fdiv p0 (2^min (Int.toNat 1) (IntKind.bits .u64))) &&& BitVec.ofInt (IntKind.bits .u64) 6148914691236517205).toNat)+(IntKind.u64.wrap (BitVec.ofInt (IntKind.bits .u64) p0 &&& BitVec.ofInt (IntKind.bits .u64) 6148914691236517205).toNat))) &&& BitVec.ofInt (IntKind.bits .u64) 3689348814741910323).toNat))))) &&& BitVec.ofInt (IntKind.bits .u64) 1085102592571150095).toNat)+(Int.fdiv (IntKind.u64.wrap (BitVec.ofInt (IntKind.bits .u64) (IntKind.u64.wrap ((Int.fdiv (IntKind.u64.wrap ((IntKind.u64.wrap (BitVec.ofInt (IntKind.bits .u64) (Int.fdiv (IntKind.u64.wrap ((IntKind.u64.wrap (BitVec.ofInt (IntKind.bits .u64) (Int.fdiv p0 (2^min (Int.toNat 1) (IntKind.bits .u64))) &&& BitVec.ofInt (IntKind.bits .u64) 6148914691236517205).toNat)+(IntKind.u64.wrap (BitVec.ofInt (IntKind.bits .u64) p0 &&& BitVec.ofInt (IntKind.bits .u64) 6148914691236517205).toNat))) (2^min (Int.toNat 2) (IntKind.bits .u64))) &&& BitVec.ofInt (IntKind.bits .u64) 3689348814741910323).toNat)+(IntKind.u64.wrap (BitVec.ofInt (IntKind.bits .u64) (IntKind.u64.wrap ((IntKind.u64.wrap (BitVec.ofInt (IntKind.bits .u64) (Int.fdiv p0 (2^min (Int.toNat 1) (IntKind.bits .u64))) &&& BitVec.ofInt (IntKind.bits .u64) 6148914691236517205).toNat)+(IntKind.u64.wrap (BitVec.ofInt (IntKind.bits .u64) p0 &&& BitVec.ofInt (IntKind.bits .u64) 6148914691236517205).toNat))) &&& BitVec.ofInt (IntKind.bits .u64) 3689348814741910323).toNat))) (2^min (Int.toNat 4) (IntKind.bits .u64)))+(IntKind.u64.wrap ((IntKind.u64.wrap (BitVec.ofInt (IntKind.bits .u64) (Int.fdiv (IntKind.u64.wrap ((IntKind.u64.wrap (BitVec.ofInt (IntKind.bits .u64) (Int.fdiv p0 (2^min (Int.toNat 1) (IntKind.bits .u64))) &&& BitVec.ofInt (IntKind.bits .u64) 6148914691236517205).toNat)+(IntKind.u64.wrap (BitVec.ofInt (IntKind.bits .u64) p0 &&& BitVec.ofInt (IntKind.bits .u64) 6148914691236517205).toNat))) (2^min (Int.toNat 2) (IntKind.bits .u64))) &&& BitVec.ofInt (IntKind.bits .u64) 3689348814741910323).toNat)+(IntKind.u64.wrap (BitVec.ofInt (IntKind.bits .u64) (IntKind.u64.wrap ((IntKind.u64.wrap (BitVec.ofInt (IntKind.bits .u64) (Int.fdiv p0 (2^min (Int.toNat 1) (IntKind.bits .u64))) &&& BitVec.ofInt (IntKind.bits .u64) 6148914691236517205).toNat)+(IntKind.u64.wrap (BitVec.ofInt (IntKind.bits .u64) p0 &&& BitVec.ofInt (IntKind.bits .u64) 6148914691236517205).toNat))) &&& BitVec.ofInt (IntKind.bits .u64) 3689348814741910323).toNat))))) &&& BitVec.ofInt (IntKind.bits .u64) 1085102592571150095).toNat) (2^min (Int.toNat 8) (IntKind.bits .u64)))))+(Int.fdiv (IntKind.u64.wrap ((IntKind.u64.wrap (BitVec.ofInt (IntKind.bits .u64) (IntKind.u64.wrap ((Int.fdiv (IntKind.u64.wrap ((IntKind.u64.wrap (BitVec.ofInt (IntKind.bits .u64) (Int.fdiv (IntKind.u64.wrap ((IntKind.u64.wrap (BitVec.ofInt (IntKind.bits .u64) (Int.fdiv p0 (2^min (Int.toNat 1) (IntKind.bits .u64))) &&& BitVec.ofInt (IntKind.bits .u64) 6148914691236517205).toNat)+(IntKind.u64.wrap (BitVec.ofInt (IntKind.bits .u64) p0 &&& BitVec.ofInt (IntKind.bits .u64) 6148914691236517205).toNat))) (2^min (Int.toNat 2) (IntKind.bits .u64))) &&& BitVec.ofInt (IntKind.bits .u64) 3689348814741910323).toNat)+(IntKind.u64.wrap (BitVec.ofInt (IntKind.bits .u64) (IntKind.u64.wrap ((IntKind.u64.wrap (BitVec.ofInt (IntKind.bits .u64) (Int.fdiv p0 (2^min (Int.toNat 1) (IntKind.bits .u64))) &&& BitVec.ofInt (IntKind.bits .u64) 6148914691236517205).toNat)+(IntKind.u64.wrap (BitVec.ofInt (IntKind.bits .u64) p0 &&& BitVec.ofInt (IntKind.bits .u64) 6148914691236517205).toNat))) &&& BitVec.ofInt (IntKind.bits .u64) 3689348814741910323).toNat))) (2^min (Int.toNat 4) (IntKind.bits .u64)))+(IntKind.u64.wrap ((IntKind.u64.wrap (BitVec.ofInt (IntKind.bits .u64) (Int.fdiv (IntKind.u64.wrap ((IntKind.u64.wrap (BitVec.ofInt (IntKind.bits .u64) (Int.fdiv p0 (2^min (Int.toNat 1) (IntKind.bits .u64))) &&& BitVec.ofInt (IntKind.bits .u64) 6148914691236517205).toNat)+(IntKind.u64.wrap (BitVec.ofInt (IntKind.bits .u64) p0 &&& BitVec.ofInt (IntKind.bits .u64) 6148914691236517205).toNat))) (2^min (Int.toNat 2) (IntKind.bits .u64))) &&& BitVec.ofInt (IntKind.bits .u64) 3689348814741910323).toNat)+(IntKind.u64.wrap (BitVec.ofInt (IntKind.bits .u64) (IntKind.u64.wrap ((IntKind.u64.wrap (BitVec.ofInt (IntKind.bits .u64) (Int.fdiv p0 (2^min (Int.toNat 1) (IntKind.bits .u64))) &&& BitVec.ofInt (IntKind.bits .u64) 6148914691236517205).toNat)+(IntKind.u64.wrap (BitVec.ofInt (IntKind.bits .u64) p0 &&& BitVec.ofInt (IntKind.bits .u64) 6148914691236517205).toNat))) &&& BitVec.ofInt (IntKind.bits .u64) 3689348814741910323).toNat))))) &&& BitVec.ofInt (IntKind.bits .u64) 1085102592571150095).toNat)+(Int.fdiv (IntKind.u64.wrap (BitVec.ofInt (IntKind.bits .u64) (IntKind.u64.wrap ((Int.fdiv (IntKind.u64.wrap ((IntKind.u64.wrap (BitVec.ofInt (IntKind.bits .u64) (Int.fdiv (IntKind.u64.wrap ((IntKind.u64.wrap (BitVec.ofInt (IntKind.bits .u64) (Int.fdiv p0 (2^min (Int.toNat 1) (IntKind.bits .u64))) &&& BitVec.ofInt (IntKind.bits .u64) 6148914691236517205).toNat)+(IntKind.u64.wrap (BitVec.ofInt (IntKind.bits .u64) p0 &&& BitVec.ofInt (IntKind.bits .u64) 6148914691236517205).toNat))) (2^min (Int.toNat 2) (IntKind.bits .u64))) &&& BitVec.ofInt (IntKind.bits .u64) 3689348814741910323).toNat)+(IntKind.u64.wrap (BitVec.ofInt (IntKind.bits .u64) (IntKind.u64.wrap ((IntKind.u64.wrap (BitVec.ofInt (IntKind.bits .u64) (Int.fdiv p0 (2^min (Int.toNat 1) (IntKind.bits .u64))) &&& BitVec.ofInt (IntKind.bits .u64) 6148914691236517205).toNat)+(IntKind.u64.wrap (BitVec.ofInt (IntKind.bits .u64) p0 &&& BitVec.ofInt (IntKind.bits .u64) 6148914691236517205).toNat))) &&& BitVec.ofInt (IntKind.bits .u64) 3689348814741910323).toNat))) (2^min (Int.toNat 4) (IntKind.bits .u64)))+(IntKind.u64.wrap ((IntKind.u64.wrap (BitVec.ofInt (IntKind.bits .u64) (Int.fdiv (IntKind.u64.wrap ((IntKind.u64.wrap (BitVec.ofInt (IntKind.bits .u64) (Int.fdiv p0 (2^min (Int.toNat 1) (IntKind.bits .u64))) &&& BitVec.ofInt (IntKind.bits .u64) 6148914691236517205).toNat)+(IntKind.u64.wrap (BitVec.ofInt (IntKind.bits .u64) p0 &&& BitVec.ofInt (IntKind.bits .u64) 6148914691236517205).toNat))) (2^min (Int.toNat 2) (IntKind.bits .u64))) &&& BitVec.ofInt (IntKind.bits .u64) 3689348814741910323).toNat)+(IntKind.u64.wrap (BitVec.ofInt (IntKind.bits .u64) (IntKind.u64.wrap ((IntKind.u64.wrap (BitVec.ofInt (IntKind.bits .u64) (Int.fdiv p0 (2^min (Int.toNat 1) (IntKind.bits .u64))) &&& BitVec.ofInt (IntKind.bits .u64) 6148914691236517205).toNat)+(IntKind.u64.wrap (BitVec.ofInt (IntKind.bits .u64) p0 &&& BitVec.ofInt (IntKind.bits .u64) 6148914691236517205).toNat))) &&& BitVec.ofInt (IntKind.bits .u64) 3689348814741910323).toNat))))) &&& BitVec.ofInt (IntKind.bits .u64) 1085102592571150095).toNat) (2^min (Int.toNat 8) (IntKind.bits .u64))))) (2^min (Int.toNat 16) (IntKind.bits .u64))))) (2^min (Int.toNat 32) (IntKind.bits .u64)))))) &&& BitVec.ofInt (IntKind.bits .i64) 127).toNat)
def g_math_bits_OnesCount (p0:Int):Option Int :=
 (g_math_bits_OnesCount64 p0).bind fun x1 =>
 some x1
def g_tree_Width_b0 (p1:Tapi_Tree) (s5:(Int × Int)):Option (Step (Int × Int) Int) :=
 if (decide (s5.2 < (p1.Cliques.length:Int)))=true then
  (lkI p1.Cliques s5.2).bind fun a8 =>
  (g_math_bits_OnesCount a8).bind fun x10 =>
  some (.next ((if x10 > s5.1 then x10 else s5.1),IntKind.i64.wrap (s5.2+1)))
 else
 some (.done s5.1)
def g_tree_Width (p0:Tapi_Net) (p1:Tapi_Tree):Option (Int × Int) :=
 (g_tree_Check p0 p1).bind fun x1 =>
 if (x1 != 0)=true then
  some (0,x1)
 else
 (whileN fuel (g_tree_Width_b0 p1) (0,0)).bind fun x13 =>
 some (IntKind.i64.wrap (x13 - 1),0)
def g_tree_Separator (p0:Tapi_Net) (p1:Tapi_Tree) (p2:Int):Option (Int × Int) :=
 (g_tree_Check p0 p1).bind fun x1 =>
 if (x1 != 0)=true then
  some (0,x1)
 else
 if (decide (p2 < 1))=true then
  some (0,2)
 else
 if (decide (p2≥(p1.Cliques.length:Int)))=true then
  some (0,2)
 else
 (lkI p1.Cliques p2).bind fun a9 =>
 (lkI p1.Up p2).bind fun a11 =>
 (lkI p1.Cliques a11).bind fun a13 =>
 some (IntKind.u64.wrap (BitVec.ofInt (IntKind.bits .u64) a9 &&& BitVec.ofInt (IntKind.bits .u64) a13).toNat,0)
def g_net_network_moral_b0 (s1:(Int × (List Int))) (a4:Int) (s6:(Int × (List Int))):Option (Step (Int × (List Int)) (List Int)) :=
 if (decide (s6.1 < (s1.2.length:Int)))=true then
  if 0≤s6.1 then
   if ((IntKind.u64.wrap (BitVec.ofInt (IntKind.bits .u64) (Int.fdiv (IntKind.u64.wrap (BitVec.ofInt (IntKind.bits .u64) a4 ||| BitVec.ofInt (IntKind.bits .u64) (IntKind.u64.wrap (1*2^min (Int.toNat s1.1) (IntKind.bits .u64)))).toNat) (2^min (Int.toNat s6.1) (IntKind.bits .u64))) &&& BitVec.ofInt (IntKind.bits .u64) 1).toNat)==1)=true then
    (lkI s6.2 s6.1).bind fun a11 =>
    if 0≤s6.1 then
     some (.next (IntKind.i64.wrap (s6.1+1),(List.set s6.2 (Int.toNat s6.1) (IntKind.u64.wrap (BitVec.ofInt (IntKind.bits .u64) a11 ||| BitVec.ofInt (IntKind.bits .u64) (IntKind.u64.wrap (BitVec.ofInt (IntKind.bits .u64) (IntKind.u64.wrap (BitVec.ofInt (IntKind.bits .u64) a4 ||| BitVec.ofInt (IntKind.bits .u64) (IntKind.u64.wrap (1*2^min (Int.toNat s1.1) (IntKind.bits .u64)))).toNat) &&& ~~~ BitVec.ofInt (IntKind.bits .u64) (IntKind.u64.wrap (1*2^min (Int.toNat s6.1) (IntKind.bits .u64)))).toNat)).toNat))))
    else none
   else
   some (.next (IntKind.i64.wrap (s6.1+1),s6.2))
  else none
 else
 some (.done s6.2)
def g_net_network_moral_b1 (p0:Tnet_network) (s1:(Int × (List Int))):Option (Step (Int × (List Int)) (List Int)) :=
 if (decide (s1.1 < (p0.sets.length:Int)))=true then
  (lkI p0.sets s1.1).bind fun a4 =>
  if 0≤s1.1 then
   (whileN fuel (g_net_network_moral_b0 s1 a4) (0,s1.2)).bind fun x15 =>
   some (.next (IntKind.i64.wrap (s1.1+1),x15))
  else none
 else
 some (.done s1.2)
def g_net_network_moral (p0:Tnet_network):Option (List Int) :=
 if 0≤(p0.sets.length:Int)∧(p0.sets.length:Int)≤(p0.sets.length:Int)∧(p0.sets.length:Int)*8≤140737488355328 then
  (whileN fuel (g_net_network_moral_b1 p0) (0,(List.replicate (Int.toNat (p0.sets.length:Int)) (0:Int)))).bind fun x17 =>
  some x17
 else none
def g_net_Moral (p0:Tapi_Net):Option ((List Int) × Int) :=
 (g_net_read p0).bind fun x1 =>
 if (x1.2 != 0)=true then
  some (([]:(List Int)),x1.2)
 else
 (g_net_network_moral x1.1).bind fun x5 =>
 some (x5,0)
def g_slices_Clone_uint_uint_c (c0:Int) (d0:(List Int)):Option (List Int) :=
 if (c0::d0).length*8≤140737488355328 then
  some (c0::d0)
 else none
def g_slices_Clone_uint_uint_e  : Option (List Int) :=
 some ([]:(List Int))
def g_slices_Clone_uint_uint_n  : Option (List Int) :=
 some ([]:(List Int))
def g_slices_Clone_uint_uint (p0:(List Int)):Option (List Int) :=
 match p0 with
 | []=>(g_slices_Clone_uint_uint_n).bind fun x=>(g_slices_Clone_uint_uint_e).bind fun y=>if x=y then some x else none
 | c0::d0=>g_slices_Clone_uint_uint_c c0 d0
def g_tree_maker_cliques_b0 (s3:(Int × Int × (List Int) × (List Int))) (a8:Int) (a6:Int) (s10:Int):Option (Step Int (Unit ⊕ Unit)) :=
 if (decide (s10 < (s3.2.2.1.length:Int)))=true then
  (lkI s3.2.2.1 s10).bind fun a13 =>
  if ((IntKind.u64.wrap (BitVec.ofInt (IntKind.bits .u64) (IntKind.u64.wrap (BitVec.ofInt (IntKind.bits .u64) (IntKind.u64.wrap (BitVec.ofInt (IntKind.bits .u64) a8 &&& BitVec.ofInt (IntKind.bits .u64) s3.1).toNat) ||| BitVec.ofInt (IntKind.bits .u64) (IntKind.u64.wrap (1*2^min (Int.toNat a6) (IntKind.bits .u64)))).toNat) &&& ~~~ BitVec.ofInt (IntKind.bits .u64) a13).toNat)==0)=true then
   some (.done (Sum.inl ()))
  else
  some (.next (IntKind.i64.wrap (s10+1)))
 else
 some (.done (Sum.inr ()))
def g_tree_maker_cliques_b1 (s3:(Int × Int × (List Int) × (List Int))) (a8:Int) (a6:Int) (s19:(Int × (List Int))):Option (Step (Int × (List Int)) (List Int)) :=
 if (decide (s19.1 < (s3.2.2.2.length:Int)))=true then
  if 0≤s19.1 then
   if ((IntKind.u64.wrap (BitVec.ofInt (IntKind.bits .u64) (Int.fdiv (IntKind.u64.wrap (BitVec.ofInt (IntKind.bits .u64) (IntKind.u64.wrap (BitVec.ofInt (IntKind.bits .u64) a8 &&& BitVec.ofInt (IntKind.bits .u64) s3.1).toNat) ||| BitVec.ofInt (IntKind.bits .u64) (IntKind.u64.wrap (1*2^min (Int.toNat a6) (IntKind.bits .u64)))).toNat) (2^min (Int.toNat s19.1) (IntKind.bits .u64))) &&& BitVec.ofInt (IntKind.bits .u64) 1).toNat)==1)=true then
    (lkI s19.2 s19.1).bind fun a24 =>
    if 0≤s19.1 then
     some (.next (IntKind.i64.wrap (s19.1+1),(List.set s19.2 (Int.toNat s19.1) (IntKind.u64.wrap (BitVec.ofInt (IntKind.bits .u64) a24 ||| BitVec.ofInt (IntKind.bits .u64) (IntKind.u64.wrap (BitVec.ofInt (IntKind.bits .u64) (IntKind.u64.wrap (BitVec.ofInt (IntKind.bits .u64) (IntKind.u64.wrap (BitVec.ofInt (IntKind.bits .u64) a8 &&& BitVec.ofInt (IntKind.bits .u64) s3.1).toNat) ||| BitVec.ofInt (IntKind.bits .u64) (IntKind.u64.wrap (1*2^min (Int.toNat a6) (IntKind.bits .u64)))).toNat) &&& ~~~ BitVec.ofInt (IntKind.bits .u64) (IntKind.u64.wrap (1*2^min (Int.toNat s19.1) (IntKind.bits .u64)))).toNat)).toNat))))
    else none
   else
   some (.next (IntKind.i64.wrap (s19.1+1),s19.2))
  else none
 else
 some (.done s19.2)
def g_tree_maker_cliques_b2 (s3:(Int × Int × (List Int) × (List Int))) (a8:Int) (a6:Int) (s30:(Int × (List Int))):Option (Step (Int × (List Int)) (List Int)) :=
 if (decide (s30.1 < (s3.2.2.2.length:Int)))=true then
  if 0≤s30.1 then
   if ((IntKind.u64.wrap (BitVec.ofInt (IntKind.bits .u64) (Int.fdiv (IntKind.u64.wrap (BitVec.ofInt (IntKind.bits .u64) (IntKind.u64.wrap (BitVec.ofInt (IntKind.bits .u64) a8 &&& BitVec.ofInt (IntKind.bits .u64) s3.1).toNat) ||| BitVec.ofInt (IntKind.bits .u64) (IntKind.u64.wrap (1*2^min (Int.toNat a6) (IntKind.bits .u64)))).toNat) (2^min (Int.toNat s30.1) (IntKind.bits .u64))) &&& BitVec.ofInt (IntKind.bits .u64) 1).toNat)==1)=true then
    (lkI s30.2 s30.1).bind fun a35 =>
    if 0≤s30.1 then
     some (.next (IntKind.i64.wrap (s30.1+1),(List.set s30.2 (Int.toNat s30.1) (IntKind.u64.wrap (BitVec.ofInt (IntKind.bits .u64) a35 ||| BitVec.ofInt (IntKind.bits .u64) (IntKind.u64.wrap (BitVec.ofInt (IntKind.bits .u64) (IntKind.u64.wrap (BitVec.ofInt (IntKind.bits .u64) (IntKind.u64.wrap (BitVec.ofInt (IntKind.bits .u64) a8 &&& BitVec.ofInt (IntKind.bits .u64) s3.1).toNat) ||| BitVec.ofInt (IntKind.bits .u64) (IntKind.u64.wrap (1*2^min (Int.toNat a6) (IntKind.bits .u64)))).toNat) &&& ~~~ BitVec.ofInt (IntKind.bits .u64) (IntKind.u64.wrap (1*2^min (Int.toNat s30.1) (IntKind.bits .u64)))).toNat)).toNat))))
    else none
   else
   some (.next (IntKind.i64.wrap (s30.1+1),s30.2))
  else none
 else
 some (.done s30.2)
def g_tree_maker_cliques_b3 (p0:Ttree_maker) (s3:(Int × Int × (List Int) × (List Int))):Option (Step (Int × Int × (List Int) × (List Int)) (List Int)) :=
 if (decide (s3.2.1 < (p0.order.length:Int)))=true then
  (lkI p0.order s3.2.1).bind fun a6 =>
  (lkI s3.2.2.2 a6).bind fun a8 =>
  if 0≤a6 then
   (whileN fuel (g_tree_maker_cliques_b0 s3 a8 a6) 0).bind fun x17=>match x17 with
   | .inl x18=>(
    if 0≤a6 then
     (whileN fuel (g_tree_maker_cliques_b1 s3 a8 a6) (0,s3.2.2.2)).bind fun x28 =>
     some (.next (IntKind.u64.wrap (BitVec.ofInt (IntKind.bits .u64) s3.1 &&& ~~~ BitVec.ofInt (IntKind.bits .u64) (IntKind.u64.wrap (1*2^min (Int.toNat a6) (IntKind.bits .u64)))).toNat,IntKind.i64.wrap (s3.2.1+1),s3.2.2.1,x28))
    else none)
   | .inr x29=>(
    if (s3.2.2.1++([IntKind.u64.wrap (BitVec.ofInt (IntKind.bits .u64) (IntKind.u64.wrap (BitVec.ofInt (IntKind.bits .u64) a8 &&& BitVec.ofInt (IntKind.bits .u64) s3.1).toNat) ||| BitVec.ofInt (IntKind.bits .u64) (IntKind.u64.wrap (1*2^min (Int.toNat a6) (IntKind.bits .u64)))).toNat]:(List Int))).length*8≤140737488355328 then
     if 0≤a6 then
      (whileN fuel (g_tree_maker_cliques_b2 s3 a8 a6) (0,s3.2.2.2)).bind fun x39 =>
      some (.next (IntKind.u64.wrap (BitVec.ofInt (IntKind.bits .u64) s3.1 &&& ~~~ BitVec.ofInt (IntKind.bits .u64) (IntKind.u64.wrap (1*2^min (Int.toNat a6) (IntKind.bits .u64)))).toNat,IntKind.i64.wrap (s3.2.1+1),(s3.2.2.1++([IntKind.u64.wrap (BitVec.ofInt (IntKind.bits .u64) (IntKind.u64.wrap (BitVec.ofInt (IntKind.bits .u64) a8 &&& BitVec.ofInt (IntKind.bits .u64) s3.1).toNat) ||| BitVec.ofInt (IntKind.bits .u64) (IntKind.u64.wrap (1*2^min (Int.toNat a6) (IntKind.bits .u64)))).toNat]:(List Int))),x39))
     else none
    else none)
  else none
 else
 some (.done s3.2.2.1)
def g_tree_maker_cliques (p0:Ttree_maker):Option (List Int) :=
 (g_slices_Clone_uint_uint p0.graph.near).bind fun x1 =>
 (whileN fuel (g_tree_maker_cliques_b3 p0) (18446744073709551615,0,([]:(List Int)),x1)).bind fun x41 =>
 some x41
def g_tree_most_b0 (p0:(List Int)) (p1:Int) (s1:(Int × Int)):Option (Step (Int × Int) Int) :=
 if (decide (s1.2 < (p0.length:Int)))=true then
  (lkI p0 s1.2).bind fun a4 =>
  (g_math_bits_OnesCount (IntKind.u64.wrap (BitVec.ofInt (IntKind.bits .u64) a4 &&& BitVec.ofInt (IntKind.bits .u64) p1).toNat)).bind fun x6 =>
  some (.next ((if x6 > s1.1 then x6 else s1.1),IntKind.i64.wrap (s1.2+1)))
 else
 some (.done s1.1)
def g_tree_most (p0:(List Int)) (p1:Int):Option Int :=
 (whileN fuel (g_tree_most_b0 p0 p1) (0,0)).bind fun x9 =>
 some x9
def g_tree_first_uint_k0_b0 (p0:(List Int)) (c0:Int) (s1:Int):Option (Step Int (Int ⊕ Unit)) :=
 if (decide (s1 < (p0.length:Int)))=true then
  (lkI p0 s1).bind fun a4 =>
  if ((IntKind.u64.wrap (BitVec.ofInt (IntKind.bits .u64) c0 &&& ~~~ BitVec.ofInt (IntKind.bits .u64) a4).toNat)==0)=true then
   some (.done (Sum.inl s1))
  else
  some (.next (IntKind.i64.wrap (s1+1)))
 else
 some (.done (Sum.inr ()))
def g_tree_first_uint_k0 (p0:(List Int)) (c0:Int):Option Int :=
 (whileN fuel (g_tree_first_uint_k0_b0 p0 c0) 0).bind fun x8=>match x8 with
 | .inl x9=>(
  some x9)
 | .inr x10=>(
  some (-1))
def g_tree_build_b0 (s11:((List Int) × (List Int) × (List Int))) (s18:(Int × Int × Int)):Option (Step (Int × Int × Int) (Int × Int)) :=
 if (decide (s18.2.1 < (s11.1.length:Int)))=true then
  (lkI s11.1 s18.2.1).bind fun a21 =>
  (g_tree_most s11.2.1 a21).bind fun x23 =>
  if (decide (x23≥s18.2.2))=true then
   some (.next (s18.2.1,IntKind.i64.wrap (s18.2.1+1),x23))
  else
  some (.next (s18.1,IntKind.i64.wrap (s18.2.1+1),s18.2.2))
 else
 some (.done (s18.1,s18.2.2))
def g_tree_build_b1 (s11:((List Int) × (List Int) × (List Int))) (a29:Int) (x28:(Int × Int)) (s31:Int):Option (Step Int (Int ⊕ Unit)) :=
 if (decide (s31 < (s11.2.1.length:Int)))=true then
  (lkI s11.2.1 s31).bind fun a34 =>
  (g_math_bits_OnesCount (IntKind.u64.wrap (BitVec.ofInt (IntKind.bits .u64) a34 &&& BitVec.ofInt (IntKind.bits .u64) a29).toNat)).bind fun x36 =>
  if (x36==x28.2)=true then
   some (.done (Sum.inl s31))
  else
  some (.next (IntKind.i64.wrap (s31+1)))
 else
 some (.done (Sum.inr ()))
def g_tree_build_b2  (s11:((List Int) × (List Int) × (List Int))):Option (Step ((List Int) × (List Int) × (List Int)) ((List Int) × (List Int))) :=
 if (decide ((s11.1.length:Int) > 0))=true then
  (whileN fuel (g_tree_build_b0 s11) (0,0,-1)).bind fun x28 =>
  (lkI s11.1 x28.1).bind fun a29 =>
  (whileN fuel (g_tree_build_b1 s11 a29 x28) 0).bind fun x40=>match x40 with
  | .inl x41=>(
   if (s11.2.1++([a29]:(List Int))).length*8≤140737488355328 then
    if (s11.2.2++([x41]:(List Int))).length*8≤140737488355328 then
     if 0≤x28.1∧x28.1≤(IntKind.i64.wrap (x28.1+1))∧(IntKind.i64.wrap (x28.1+1))≤(s11.1.length:Int)∧(s11.1.length:Int)≤(s11.1.length:Int) then
      if (x28.1==(IntKind.i64.wrap (x28.1+1)))=true then
       some (.next (s11.1,(s11.2.1++([a29]:(List Int))),(s11.2.2++([x41]:(List Int)))))
      else
      if 0≤(0:Int)∧(0:Int)≤x28.1∧x28.1≤(s11.1.length:Int) then
       if 0≤(IntKind.i64.wrap (x28.1+1))∧(IntKind.i64.wrap (x28.1+1))≤(s11.1.length:Int)∧(s11.1.length:Int)≤(s11.1.length:Int) then
        if (Int.toNat x28.1 - Int.toNat (0:Int)) < s11.1.length∧((Int.toNat x28.1 - Int.toNat (0:Int))+(sub s11.1 (IntKind.i64.wrap (x28.1+1)) (s11.1.length:Int)).length)≤s11.1.length then
         if 0≤((((Int.toNat x28.1 - Int.toNat (0:Int))+(sub s11.1 (IntKind.i64.wrap (x28.1+1)) (s11.1.length:Int)).length):Nat):Int)∧((((Int.toNat x28.1 - Int.toNat (0:Int))+(sub s11.1 (IntKind.i64.wrap (x28.1+1)) (s11.1.length:Int)).length):Nat):Int)≤(s11.1.length:Int)∧(s11.1.length:Int)≤((ovr s11.1 (Int.toNat x28.1 - Int.toNat (0:Int)) (sub s11.1 (IntKind.i64.wrap (x28.1+1)) (s11.1.length:Int))).length:Int) then
          if (Int.toNat ((((Int.toNat x28.1 - Int.toNat (0:Int))+(sub s11.1 (IntKind.i64.wrap (x28.1+1)) (s11.1.length:Int)).length):Nat):Int))+(Int.toNat (s11.1.length:Int) - Int.toNat ((((Int.toNat x28.1 - Int.toNat (0:Int))+(sub s11.1 (IntKind.i64.wrap (x28.1+1)) (s11.1.length:Int)).length):Nat):Int))≤(ovr s11.1 (Int.toNat x28.1 - Int.toNat (0:Int)) (sub s11.1 (IntKind.i64.wrap (x28.1+1)) (s11.1.length:Int))).length then
           some (.next ((List.take ((Int.toNat x28.1 - Int.toNat (0:Int))+(sub s11.1 (IntKind.i64.wrap (x28.1+1)) (s11.1.length:Int)).length) (ovr (ovr s11.1 (Int.toNat x28.1 - Int.toNat (0:Int)) (sub s11.1 (IntKind.i64.wrap (x28.1+1)) (s11.1.length:Int))) (Int.toNat ((((Int.toNat x28.1 - Int.toNat (0:Int))+(sub s11.1 (IntKind.i64.wrap (x28.1+1)) (s11.1.length:Int)).length):Nat):Int)) (List.replicate (Int.toNat (s11.1.length:Int) - Int.toNat ((((Int.toNat x28.1 - Int.toNat (0:Int))+(sub s11.1 (IntKind.i64.wrap (x28.1+1)) (s11.1.length:Int)).length):Nat):Int)) 0))),(s11.2.1++([a29]:(List Int))),(s11.2.2++([x41]:(List Int)))))
          else none
         else none
        else none
       else none
      else none
     else none
    else none
   else none)
  | .inr x51=>(
   if (s11.2.1++([a29]:(List Int))).length*8≤140737488355328 then
    if (s11.2.2++([-1]:(List Int))).length*8≤140737488355328 then
     if 0≤x28.1∧x28.1≤(IntKind.i64.wrap (x28.1+1))∧(IntKind.i64.wrap (x28.1+1))≤(s11.1.length:Int)∧(s11.1.length:Int)≤(s11.1.length:Int) then
      if (x28.1==(IntKind.i64.wrap (x28.1+1)))=true then
       some (.next (s11.1,(s11.2.1++([a29]:(List Int))),(s11.2.2++([-1]:(List Int)))))
      else
      if 0≤(0:Int)∧(0:Int)≤x28.1∧x28.1≤(s11.1.length:Int) then
       if 0≤(IntKind.i64.wrap (x28.1+1))∧(IntKind.i64.wrap (x28.1+1))≤(s11.1.length:Int)∧(s11.1.length:Int)≤(s11.1.length:Int) then
        if (Int.toNat x28.1 - Int.toNat (0:Int)) < s11.1.length∧((Int.toNat x28.1 - Int.toNat (0:Int))+(sub s11.1 (IntKind.i64.wrap (x28.1+1)) (s11.1.length:Int)).length)≤s11.1.length then
         if 0≤((((Int.toNat x28.1 - Int.toNat (0:Int))+(sub s11.1 (IntKind.i64.wrap (x28.1+1)) (s11.1.length:Int)).length):Nat):Int)∧((((Int.toNat x28.1 - Int.toNat (0:Int))+(sub s11.1 (IntKind.i64.wrap (x28.1+1)) (s11.1.length:Int)).length):Nat):Int)≤(s11.1.length:Int)∧(s11.1.length:Int)≤((ovr s11.1 (Int.toNat x28.1 - Int.toNat (0:Int)) (sub s11.1 (IntKind.i64.wrap (x28.1+1)) (s11.1.length:Int))).length:Int) then
          if (Int.toNat ((((Int.toNat x28.1 - Int.toNat (0:Int))+(sub s11.1 (IntKind.i64.wrap (x28.1+1)) (s11.1.length:Int)).length):Nat):Int))+(Int.toNat (s11.1.length:Int) - Int.toNat ((((Int.toNat x28.1 - Int.toNat (0:Int))+(sub s11.1 (IntKind.i64.wrap (x28.1+1)) (s11.1.length:Int)).length):Nat):Int))≤(ovr s11.1 (Int.toNat x28.1 - Int.toNat (0:Int)) (sub s11.1 (IntKind.i64.wrap (x28.1+1)) (s11.1.length:Int))).length then
           some (.next ((List.take ((Int.toNat x28.1 - Int.toNat (0:Int))+(sub s11.1 (IntKind.i64.wrap (x28.1+1)) (s11.1.length:Int)).length) (ovr (ovr s11.1 (Int.toNat x28.1 - Int.toNat (0:Int)) (sub s11.1 (IntKind.i64.wrap (x28.1+1)) (s11.1.length:Int))) (Int.toNat ((((Int.toNat x28.1 - Int.toNat (0:Int))+(sub s11.1 (IntKind.i64.wrap (x28.1+1)) (s11.1.length:Int)).length):Nat):Int)) (List.replicate (Int.toNat (s11.1.length:Int) - Int.toNat ((((Int.toNat x28.1 - Int.toNat (0:Int))+(sub s11.1 (IntKind.i64.wrap (x28.1+1)) (s11.1.length:Int)).length):Nat):Int)) 0))),(s11.2.1++([a29]:(List Int))),(s11.2.2++([-1]:(List Int)))))
          else none
         else none
        else none
       else none
      else none
     else none
    else none
   else none)
 else
 some (.done (s11.2.1,s11.2.2))
def g_tree_build_b3 (p1:(List Int)) (x62:((List Int) × (List Int))) (s63:(Int × (List Int))):Option (Step (Int × (List Int)) (List Int)) :=
 if (decide (s63.1 < (p1.length:Int)))=true then
  (lkI p1 s63.1).bind fun a66 =>
  (g_tree_first_uint_k0 x62.1 a66).bind fun x68 =>
  if (s63.2++([x68]:(List Int))).length*8≤140737488355328 then
   some (.next (IntKind.i64.wrap (s63.1+1),(s63.2++([x68]:(List Int)))))
  else none
 else
 some (.done s63.2)
def g_tree_build (p0:Tapi_Net) (p1:(List Int)) (p2:(List Int)):Option (Tapi_Tree × Int) :=
 (g_net_Moral p0).bind fun x1 =>
 if (x1.2 != 0)=true then
  some ((Tapi_Tree.mk ([]:(List Int)) ([]:(List Int)) ([]:(List Int))),x1.2)
 else
 (g_tree_maker_cliques (Ttree_maker.mk (Ttree_graph.mk x1.1) p2)).bind fun x5 =>
 (lkI x5 (IntKind.i64.wrap ((x5.length:Int) - 1))).bind fun a7 =>
 if 0≤(0:Int)∧(0:Int)≤(IntKind.i64.wrap ((x5.length:Int) - 1))∧(IntKind.i64.wrap ((x5.length:Int) - 1))≤(x5.length:Int) then
  (whileN fuel (g_tree_build_b2) ((List.take (Int.toNat (IntKind.i64.wrap ((x5.length:Int) - 1))) x5),([a7]:(List Int)),([-1]:(List Int)))).bind fun x62 =>
  (whileN fuel (g_tree_build_b3 p1 x62) (0,([]:(List Int)))).bind fun x71 =>
  some ((Tapi_Tree.mk x62.1 x62.2 x71),0)
 else none
def g_tree_Make_b0 (p1:(List Int)) (x1:((List Int) × Int)) (s7:(Int × Int)):Option (Step (Int × Int) (Unit ⊕ Unit)) :=
 if (decide (s7.2 < (p1.length:Int)))=true then
  (lkI p1 s7.2).bind fun a10 =>
  if (decide (a10 < 0))=true then
   some (.done (Sum.inl ()))
  else
  if (decide (a10≥(x1.1.length:Int)))=true then
   some (.done (Sum.inl ()))
  else
  if 0≤a10 then
   if ((IntKind.u64.wrap (BitVec.ofInt (IntKind.bits .u64) (Int.fdiv s7.1 (2^min (Int.toNat a10) (IntKind.bits .u64))) &&& BitVec.ofInt (IntKind.bits .u64) 1).toNat)==1)=true then
    some (.done (Sum.inl ()))
   else
   if 0≤a10 then
    some (.next (IntKind.u64.wrap (BitVec.ofInt (IntKind.bits .u64) s7.1 ||| BitVec.ofInt (IntKind.bits .u64) (IntKind.u64.wrap (1*2^min (Int.toNat a10) (IntKind.bits .u64)))).toNat,IntKind.i64.wrap (s7.2+1)))
   else none
  else none
 else
 some (.done (Sum.inr ()))
def g_tree_Make (p0:Tapi_Net) (p1:(List Int)):Option (Tapi_Tree × Int) :=
 (g_tree_readFamilies p0).bind fun x1 =>
 if (x1.2 != 0)=true then
  some ((Tapi_Tree.mk ([]:(List Int)) ([]:(List Int)) ([]:(List Int))),x1.2)
 else
 if ((p1.length:Int) != (x1.1.length:Int))=true then
  some ((Tapi_Tree.mk ([]:(List Int)) ([]:(List Int)) ([]:(List Int))),2)
 else
 (whileN fuel (g_tree_Make_b0 p1 x1) (0,0)).bind fun x18=>match x18 with
 | .inl x19=>(
  some ((Tapi_Tree.mk ([]:(List Int)) ([]:(List Int)) ([]:(List Int))),2))
 | .inr x20=>(
  (g_tree_build p0 x1.1 p1).bind fun x21 =>
  some (x21.1,x21.2))
def g_ref05_Sets_b0 (p0:(List Int)) (p1:(List Int)) (s3:Int):Option (Step Int (Unit ⊕ Unit)) :=
 if (decide (s3 < (p0.length:Int)))=true then
  (lkI p0 s3).bind fun a6 =>
  (lkI p1 s3).bind fun a8 =>
  if (a6 != a8)=true then
   some (.done (Sum.inl ()))
  else
  some (.next (IntKind.i64.wrap (s3+1)))
 else
 some (.done (Sum.inr ()))
def g_ref05_Sets (p0:(List Int)) (p1:(List Int)):Option Bool :=
 if ((p0.length:Int) != (p1.length:Int))=true then
  some false
 else
 (whileN fuel (g_ref05_Sets_b0 p0 p1) 0).bind fun x12=>match x12 with
 | .inl x13=>(
  some false)
 | .inr x14=>(
  some true)
def g_ref02_Same_b0 (p0:(List Int)) (p1:(List Int)) (s3:Int):Option (Step Int (Unit ⊕ Unit)) :=
 if (decide (s3 < (p0.length:Int)))=true then
  (lkI p0 s3).bind fun a6 =>
  (lkI p1 s3).bind fun a8 =>
  if (a6 != a8)=true then
   some (.done (Sum.inl ()))
  else
  some (.next (IntKind.i64.wrap (s3+1)))
 else
 some (.done (Sum.inr ()))
def g_ref02_Same (p0:(List Int)) (p1:(List Int)):Option Bool :=
 if ((p0.length:Int) != (p1.length:Int))=true then
  some false
 else
 (whileN fuel (g_ref02_Same_b0 p0 p1) 0).bind fun x12=>match x12 with
 | .inl x13=>(
  some false)
 | .inr x14=>(
  some true)
def g_ref10_Same (p0:Tapi_Tree) (p1:Tapi_Tree):Option Bool :=
 (g_ref05_Sets p0.Cliques p1.Cliques).bind fun x1 =>
 if x1=true then
  (g_ref02_Same p0.Up p1.Up).bind fun x5 =>
  if x5=true then
   (g_ref02_Same p0.Home p1.Home).bind fun x9 =>
   some x9
  else
  some false
 else
 some false
def g_order_Check_b0 (p0:(List Int)) (s5:Int) (a8:Int) (s14:Int):Option (Step Int (Unit ⊕ Unit)) :=
 if (decide (s14 < (p0.length:Int)))=true then
  if 0≤s14 then
   (lkI p0 s14).bind fun a17 =>
   if 0≤s5 then
    if ((IntKind.u64.wrap (BitVec.ofInt (IntKind.bits .u64) (Int.fdiv a8 (2^min (Int.toNat s14) (IntKind.bits .u64))) &&& BitVec.ofInt (IntKind.bits .u64) 1).toNat) != (IntKind.u64.wrap (BitVec.ofInt (IntKind.bits .u64) (Int.fdiv a17 (2^min (Int.toNat s5) (IntKind.bits .u64))) &&& BitVec.ofInt (IntKind.bits .u64) 1).toNat))=true then
     some (.done (Sum.inl ()))
    else
    some (.next (IntKind.i64.wrap (s14+1)))
   else none
  else none
 else
 some (.done (Sum.inr ()))
def g_order_Check_b1 (p0:(List Int)) (s5:Int):Option (Step Int (Unit ⊕ Unit)) :=
 if (decide (s5 < (p0.length:Int)))=true then
  (lkI p0 s5).bind fun a8 =>
  if 0≤(p0.length:Int) then
   if ((Int.fdiv a8 (2^min (Int.toNat (p0.length:Int)) (IntKind.bits .u64))) != 0)=true then
    some (.done (Sum.inl ()))
   else
   if 0≤s5 then
    if ((IntKind.u64.wrap (BitVec.ofInt (IntKind.bits .u64) (Int.fdiv a8 (2^min (Int.toNat s5) (IntKind.bits .u64))) &&& BitVec.ofInt (IntKind.bits .u64) 1).toNat)==1)=true then
     some (.done (Sum.inl ()))
    else
    (whileN fuel (g_order_Check_b0 p0 s5 a8) 0).bind fun x21=>match x21 with
    | .inl x22=>(
     some (.done (Sum.inl ())))
    | .inr x23=>(
     some (.next (IntKind.i64.wrap (s5+1))))
   else none
  else none
 else
 some (.done (Sum.inr ()))
def g_order_Check (p0:(List Int)):Option Int :=
 if (decide ((p0.length:Int) < 1))=true then
  some 80
 else
 if (decide ((p0.length:Int) > 10))=true then
  some 80
 else
 (whileN fuel (g_order_Check_b1 p0) 0).bind fun x24=>match x24 with
 | .inl x25=>(
  some 80)
 | .inr x26=>(
  some 0)
def g_math_bits_TrailingZeros64 (p0:Int):Option Int :=
 if (p0==0)=true then
  some 64
 else
 (lkI tab1 (Int.fdiv (IntKind.u64.wrap ((IntKind.u64.wrap (BitVec.ofInt (IntKind.bits .u64) p0 &&& BitVec.ofInt (IntKind.bits .u64) (IntKind.u64.wrap (0 - p0))).toNat)*285870213051353865)) (2^min (Int.toNat 58) (IntKind.bits .u64)))).bind fun a3 =>
 some (IntKind.i64.wrap (a3))
def g_math_bits_TrailingZeros (p0:Int):Option Int :=
 (g_math_bits_TrailingZeros64 p0).bind fun x1 =>
 some x1
def g_order_late_b0 (p2:Int) (p0:(List Int)) (s3:(Int × Int × Int)):Option (Step (Int × Int × Int) Int) :=
 if (s3.2.2 != 0)=true then
  (g_math_bits_TrailingZeros s3.2.2).bind fun x6 =>
  if 0≤x6 then
   if 0≤x6 then
    if ((IntKind.u64.wrap (BitVec.ofInt (IntKind.bits .u64) (Int.fdiv p2 (2^min (Int.toNat x6) (IntKind.bits .u64))) &&& BitVec.ofInt (IntKind.bits .u64) 1).toNat)==0)=true then
     if 0≤x6 then
      some (.next (IntKind.u64.wrap (BitVec.ofInt (IntKind.bits .u64) s3.1 ||| BitVec.ofInt (IntKind.bits .u64) (IntKind.u64.wrap (1*2^min (Int.toNat x6) (IntKind.bits .u64)))).toNat,IntKind.u64.wrap (BitVec.ofInt (IntKind.bits .u64) s3.2.1 ||| BitVec.ofInt (IntKind.bits .u64) (IntKind.u64.wrap (1*2^min (Int.toNat x6) (IntKind.bits .u64)))).toNat,IntKind.u64.wrap (BitVec.ofInt (IntKind.bits .u64) s3.2.2 &&& BitVec.ofInt (IntKind.bits .u64) (IntKind.u64.wrap (s3.2.2 - 1))).toNat))
     else none
    else
    (lkI p0 x6).bind fun a10 =>
    some (.next (IntKind.u64.wrap (BitVec.ofInt (IntKind.bits .u64) s3.1 ||| BitVec.ofInt (IntKind.bits .u64) (IntKind.u64.wrap (1*2^min (Int.toNat x6) (IntKind.bits .u64)))).toNat,s3.2.1,IntKind.u64.wrap (BitVec.ofInt (IntKind.bits .u64) (IntKind.u64.wrap (BitVec.ofInt (IntKind.bits .u64) s3.2.2 &&& BitVec.ofInt (IntKind.bits .u64) (IntKind.u64.wrap (s3.2.2 - 1))).toNat) ||| BitVec.ofInt (IntKind.bits .u64) (IntKind.u64.wrap (BitVec.ofInt (IntKind.bits .u64) a10 &&& ~~~ BitVec.ofInt (IntKind.bits .u64) (IntKind.u64.wrap (BitVec.ofInt (IntKind.bits .u64) s3.1 ||| BitVec.ofInt (IntKind.bits .u64) (IntKind.u64.wrap (1*2^min (Int.toNat x6) (IntKind.bits .u64)))).toNat)).toNat)).toNat))
   else none
  else none
 else
 some (.done s3.2.1)
def g_order_late (p0:(List Int)) (p1:Int) (p2:Int):Option Int :=
 if 0≤p1 then
  (lkI p0 p1).bind fun a1 =>
  (whileN fuel (g_order_late_b0 p2 p0) (IntKind.u64.wrap (1*2^min (Int.toNat p1) (IntKind.bits .u64)),0,a1)).bind fun x13 =>
  (g_math_bits_OnesCount x13).bind fun x14 =>
  some x14
 else none
def g_order_Best_b0 (p0:(List Int)) (s5:(Int × (List (Int × Int)))) (r6:((Int × (List (Int × Int)))→Option (Int × (List (Int × Int))))) (s10:(Int × (List (Int × Int)) × Int)):Option (Step (Int × (List (Int × Int)) × Int) ((List (Int × Int)) × Int)) :=
 if (s10.1 != 0)=true then
  (g_math_bits_TrailingZeros s10.1).bind fun x13 =>
  (g_order_late p0 x13 (IntKind.u64.wrap (BitVec.ofInt (IntKind.bits .u64) (IntKind.u64.wrap ((IntKind.u64.wrap (1*2^min (Int.toNat (p0.length:Int)) (IntKind.bits .u64))) - 1)) &&& ~~~ BitVec.ofInt (IntKind.bits .u64) s5.1).toNat)).bind fun x15 =>
  if 0≤x13 then
   (r6 (IntKind.u64.wrap (BitVec.ofInt (IntKind.bits .u64) s5.1 &&& ~~~ BitVec.ofInt (IntKind.bits .u64) (IntKind.u64.wrap (1*2^min (Int.toNat x13) (IntKind.bits .u64)))).toNat,s10.2.1)).bind fun x17 =>
   some (.next (IntKind.u64.wrap (BitVec.ofInt (IntKind.bits .u64) s10.1 &&& BitVec.ofInt (IntKind.bits .u64) (IntKind.u64.wrap (s10.1 - 1))).toNat,x17.2,(if (if x17.1 > x15 then x17.1 else x15) < s10.2.2 then (if x17.1 > x15 then x17.1 else x15) else s10.2.2)))
  else none
 else
 some (.done (s10.2.1,s10.2.2))
def g_order_Best_r1 (p0:(List Int)) (r6:((Int × (List (Int × Int)))→Option (Int × (List (Int × Int))))) (s5:(Int × (List (Int × Int)))):Option (Int × (List (Int × Int))) :=
 if (mget s5.2 s5.1).isSome=true then
  some ((mget s5.2 s5.1).getD 0,s5.2)
 else
 (whileN fuel (g_order_Best_b0 p0 s5 r6) (s5.1,s5.2,(p0.length:Int))).bind fun x19 =>
 some (x19.2,mput x19.1 s5.1 x19.2)
def g_order_Best_b2 (p0:(List Int)) (s34:(Int × (List (Int × Int)))) (r35:((Int × (List (Int × Int)))→Option (Int × (List (Int × Int))))) (s39:(Int × (List (Int × Int)) × Int)):Option (Step (Int × (List (Int × Int)) × Int) ((List (Int × Int)) × Int)) :=
 if (s39.1 != 0)=true then
  (g_math_bits_TrailingZeros s39.1).bind fun x42 =>
  (g_order_late p0 x42 (IntKind.u64.wrap (BitVec.ofInt (IntKind.bits .u64) (IntKind.u64.wrap ((IntKind.u64.wrap (1*2^min (Int.toNat (p0.length:Int)) (IntKind.bits .u64))) - 1)) &&& ~~~ BitVec.ofInt (IntKind.bits .u64) s34.1).toNat)).bind fun x44 =>
  if 0≤x42 then
   (r35 (IntKind.u64.wrap (BitVec.ofInt (IntKind.bits .u64) s34.1 &&& ~~~ BitVec.ofInt (IntKind.bits .u64) (IntKind.u64.wrap (1*2^min (Int.toNat x42) (IntKind.bits .u64)))).toNat,s39.2.1)).bind fun x46 =>
   some (.next (IntKind.u64.wrap (BitVec.ofInt (IntKind.bits .u64) s39.1 &&& BitVec.ofInt (IntKind.bits .u64) (IntKind.u64.wrap (s39.1 - 1))).toNat,x46.2,(if (if x46.1 > x44 then x46.1 else x44) < s39.2.2 then (if x46.1 > x44 then x46.1 else x44) else s39.2.2)))
  else none
 else
 some (.done (s39.2.1,s39.2.2))
def g_order_Best_r3 (p0:(List Int)) (r35:((Int × (List (Int × Int)))→Option (Int × (List (Int × Int))))) (s34:(Int × (List (Int × Int)))):Option (Int × (List (Int × Int))) :=
 if (mget s34.2 s34.1).isSome=true then
  some ((mget s34.2 s34.1).getD 0,s34.2)
 else
 (whileN fuel (g_order_Best_b2 p0 s34 r35) (s34.1,s34.2,(p0.length:Int))).bind fun x48 =>
 some (x48.2,mput x48.1 s34.1 x48.2)
def g_order_Best_b4 (p0:(List Int)) (s22:(Int × (List Int) × (List (Int × Int)))) (x20:(Int × (List (Int × Int)))) (s25:(Int × (List (Int × Int)))):Option (Step (Int × (List (Int × Int))) ((Int × (List (Int × Int)) × (List Int)) ⊕ (List (Int × Int)))) :=
 if (s25.1 != 0)=true then
  (g_math_bits_TrailingZeros s25.1).bind fun x28 =>
  (g_order_late p0 x28 (IntKind.u64.wrap (BitVec.ofInt (IntKind.bits .u64) (IntKind.u64.wrap ((IntKind.u64.wrap (1*2^min (Int.toNat (p0.length:Int)) (IntKind.bits .u64))) - 1)) &&& ~~~ BitVec.ofInt (IntKind.bits .u64) s22.1).toNat)).bind fun x30 =>
  if (decide (x30≤x20.1))=true then
   if 0≤x28 then
    (recN (g_order_Best_r3 p0) fuel (IntKind.u64.wrap (BitVec.ofInt (IntKind.bits .u64) s22.1 &&& ~~~ BitVec.ofInt (IntKind.bits .u64) (IntKind.u64.wrap (1*2^min (Int.toNat x28) (IntKind.bits .u64)))).toNat,s25.2)).bind fun x49 =>
    if (decide (x49.1≤x20.1))=true then
     if (s22.2.1++([x28]:(List Int))).length*8≤140737488355328 then
      if 0≤x28 then
       some (.done (Sum.inl (IntKind.u64.wrap (BitVec.ofInt (IntKind.bits .u64) s22.1 &&& ~~~ BitVec.ofInt (IntKind.bits .u64) (IntKind.u64.wrap (1*2^min (Int.toNat x28) (IntKind.bits .u64)))).toNat,x49.2,(s22.2.1++([x28]:(List Int))))))
      else none
     else none
    else
    some (.next (IntKind.u64.wrap (BitVec.ofInt (IntKind.bits .u64) s25.1 &&& BitVec.ofInt (IntKind.bits .u64) (IntKind.u64.wrap (s25.1 - 1))).toNat,x49.2))
   else none
  else
  some (.next (IntKind.u64.wrap (BitVec.ofInt (IntKind.bits .u64) s25.1 &&& BitVec.ofInt (IntKind.bits .u64) (IntKind.u64.wrap (s25.1 - 1))).toNat,s25.2))
 else
 some (.done (Sum.inr s25.2))
def g_order_Best_b5 (p0:(List Int)) (x20:(Int × (List (Int × Int)))) (s22:(Int × (List Int) × (List (Int × Int)))):Option (Step (Int × (List Int) × (List (Int × Int))) (List Int)) :=
 if (s22.1 != 0)=true then
  (whileN fuel (g_order_Best_b4 p0 s22 x20) (s22.1,s22.2.2)).bind fun x53=>match x53 with
  | .inl x54=>(
   some (.next (x54.1,x54.2.2,x54.2.1)))
  | .inr x55=>(
   some (.done s22.2.1))
 else
 some (.done s22.2.1)
def g_order_Best (p0:(List Int)):Option ((List Int) × Int × Int) :=
 (g_order_Check p0).bind fun x1 =>
 if (x1 != 0)=true then
  some (([]:(List Int)),0,x1)
 else
 if 0≤(p0.length:Int) then
  (recN (g_order_Best_r1 p0) fuel (IntKind.u64.wrap ((IntKind.u64.wrap (1*2^min (Int.toNat (p0.length:Int)) (IntKind.bits .u64))) - 1),mput [] (0:Int) (0:Int))).bind fun x20 =>
  (whileN fuel (g_order_Best_b5 p0 x20) (IntKind.u64.wrap ((IntKind.u64.wrap (1*2^min (Int.toNat (p0.length:Int)) (IntKind.bits .u64))) - 1),([]:(List Int)),x20.2)).bind fun x57 =>
  some (x57,x20.1,0)
 else none
def g_tree_Least (p0:Tapi_Net):Option (Tapi_Tree × Int) :=
 (g_tree_readFamilies p0).bind fun x1 =>
 if (x1.2 != 0)=true then
  some ((Tapi_Tree.mk ([]:(List Int)) ([]:(List Int)) ([]:(List Int))),x1.2)
 else
 (g_net_Moral p0).bind fun x5 =>
 if (x5.2 != 0)=true then
  some ((Tapi_Tree.mk ([]:(List Int)) ([]:(List Int)) ([]:(List Int))),x5.2)
 else
 (g_order_Best x5.1).bind fun x9 =>
 if (x9.2.2 != 0)=true then
  some ((Tapi_Tree.mk ([]:(List Int)) ([]:(List Int)) ([]:(List Int))),x9.2.2)
 else
 (g_tree_build p0 x1.1 x9.1).bind fun x13 =>
 some (x13.1,x13.2)
def g_law09_Sample  : Option Tapi_Net :=
 some (Tapi_Net.mk 4 ([(Tapi_Node.mk 2 [] [[1,3]]),(Tapi_Node.mk 2 [0] [[4,0],[2,2]]),(Tapi_Node.mk 2 [1] [[1,3],[4,0]])]:(List Tapi_Node)))
def g_law10_Sample  : Option Tapi_Tree :=
 some (Tapi_Tree.mk ([6,3]:(List Int)) ([-1,0]:(List Int)) ([1,1,0]:(List Int)))
def g_law10_wakes  : Option Bool :=
 (g_law09_Sample).bind fun x1 =>
 (g_tree_Make x1 [0,1,2]).bind fun x3 =>
 (g_tree_Width x1 x3.1).bind fun x5 =>
 (g_tree_Separator x1 x3.1 1).bind fun x7 =>
 (g_tree_Least x1).bind fun x9 =>
 if (x3.2==0)=true then
  (g_law10_Sample).bind fun x13 =>
  (g_ref10_Same x3.1 x13).bind fun x15 =>
  if x15=true then
   if (x5.1==1)=true then
    if (x5.2==0)=true then
     if (x7.1==2)=true then
      if (x7.2==0)=true then
       if (x9.2==0)=true then
        (g_law10_Sample).bind fun x29 =>
        (g_ref10_Same x9.1 x29).bind fun x31 =>
        if x31=true then
         (g_law10_Sample).bind fun x35 =>
         (g_tree_Check x1 x35).bind fun x37 =>
         if (x37==0)=true then
          (g_tree_Check x1 (Tapi_Tree.mk [] [] [])).bind fun x41 =>
          some (x41==100)
         else
         some false
        else
        some false
       else
       some false
      else
      some false
     else
     some false
    else
    some false
   else
   some false
  else
  some false
 else
 some false
def g_ref10_Bend_Of (p0:Tharuspexref10_Bend) (p1:Tapi_Tree):Option Tapi_Tree :=
 if p1.Cliques.length*8≤140737488355328 then
  if p1.Up.length*8≤140737488355328 then
   if p1.Home.length*8≤140737488355328 then
    if ((Int.tmod p0.What 8)==0)=true then
     if (decide ((p1.Cliques.length:Int) > 0))=true then
      if (p1.Cliques.length:Int)≠0 then
       (lkI p1.Cliques (Int.tmod (IntKind.i64.wrap (p0.At)) (p1.Cliques.length:Int))).bind fun a5 =>
       (lkI p1.Cliques (Int.tmod (IntKind.i64.wrap (p0.At)) (p1.Cliques.length:Int))).bind fun a7 =>
       some (Tapi_Tree.mk (List.set p1.Cliques (Int.toNat (Int.tmod (IntKind.i64.wrap (p0.At)) (p1.Cliques.length:Int))) p0.S) p1.Up p1.Home)
      else none
     else
     some p1
    else
    if ((Int.tmod p0.What 8)==1)=true then
     if (decide ((p1.Cliques.length:Int) > 0))=true then
      if (p1.Cliques.length:Int)≠0 then
       if (p1.Cliques.length:Int)≠0 then
        (lkI p1.Cliques (Int.tmod (IntKind.i64.wrap (p0.At)) (p1.Cliques.length:Int))).bind fun a14 =>
        (lkI p1.Cliques (Int.tmod (IntKind.i64.wrap (p0.At)) (p1.Cliques.length:Int))).bind fun a16 =>
        some (Tapi_Tree.mk (List.set p1.Cliques (Int.toNat (Int.tmod (IntKind.i64.wrap (p0.At)) (p1.Cliques.length:Int))) (IntKind.u64.wrap (BitVec.ofInt (IntKind.bits .u64) a14 ||| BitVec.ofInt (IntKind.bits .u64) p0.S).toNat)) p1.Up p1.Home)
       else none
      else none
     else
     some p1
    else
    if ((Int.tmod p0.What 8)==2)=true then
     if (decide ((p1.Up.length:Int) > 0))=true then
      if (p1.Up.length:Int)≠0 then
       (lkI p1.Up (Int.tmod (IntKind.i64.wrap (p0.At)) (p1.Up.length:Int))).bind fun a23 =>
       (lkI p1.Up (Int.tmod (IntKind.i64.wrap (p0.At)) (p1.Up.length:Int))).bind fun a25 =>
       some (Tapi_Tree.mk p1.Cliques (List.set p1.Up (Int.toNat (Int.tmod (IntKind.i64.wrap (p0.At)) (p1.Up.length:Int))) p0.N) p1.Home)
      else none
     else
     some p1
    else
    if ((Int.tmod p0.What 8)==3)=true then
     if (decide ((p1.Home.length:Int) > 0))=true then
      if (p1.Home.length:Int)≠0 then
       (lkI p1.Home (Int.tmod (IntKind.i64.wrap (p0.At)) (p1.Home.length:Int))).bind fun a32 =>
       (lkI p1.Home (Int.tmod (IntKind.i64.wrap (p0.At)) (p1.Home.length:Int))).bind fun a34 =>
       some (Tapi_Tree.mk p1.Cliques p1.Up (List.set p1.Home (Int.toNat (Int.tmod (IntKind.i64.wrap (p0.At)) (p1.Home.length:Int))) p0.N))
      else none
     else
     some p1
    else
    if ((Int.tmod p0.What 8)==4)=true then
     if (decide ((p1.Cliques.length:Int) > 0))=true then
      if 0≤(1:Int)∧(1:Int)≤(p1.Cliques.length:Int)∧(p1.Cliques.length:Int)≤(p1.Cliques.length:Int) then
       some (Tapi_Tree.mk (sub p1.Cliques 1 (p1.Cliques.length:Int)) p1.Up p1.Home)
      else none
     else
     some p1
    else
    if ((Int.tmod p0.What 8)==5)=true then
     if (p1.Cliques++([p0.S]:(List Int))).length*8≤140737488355328 then
      if (p1.Up++([p0.N]:(List Int))).length*8≤140737488355328 then
       some (Tapi_Tree.mk (p1.Cliques++([p0.S]:(List Int))) (p1.Up++([p0.N]:(List Int))) p1.Home)
      else none
     else none
    else
    if ((Int.tmod p0.What 8)==6)=true then
     if (p1.Home++([p0.N]:(List Int))).length*8≤140737488355328 then
      some (Tapi_Tree.mk p1.Cliques p1.Up (p1.Home++([p0.N]:(List Int))))
     else none
    else
    if (decide ((p1.Cliques.length:Int) > 0))=true then
     if (p1.Cliques.length:Int)≠0 then
      if (p1.Up++([Int.tmod (IntKind.i64.wrap (p0.At)) (p1.Cliques.length:Int)]:(List Int))).length*8≤140737488355328 then
       (lkI p1.Cliques (Int.tmod (IntKind.i64.wrap (p0.At)) (p1.Cliques.length:Int))).bind fun a48 =>
       if (p1.Cliques++([IntKind.u64.wrap (BitVec.ofInt (IntKind.bits .u64) a48 &&& BitVec.ofInt (IntKind.bits .u64) p0.S).toNat]:(List Int))).length*8≤140737488355328 then
        some (Tapi_Tree.mk (p1.Cliques++([IntKind.u64.wrap (BitVec.ofInt (IntKind.bits .u64) a48 &&& BitVec.ofInt (IntKind.bits .u64) p0.S).toNat]:(List Int))) (p1.Up++([Int.tmod (IntKind.i64.wrap (p0.At)) (p1.Cliques.length:Int)]:(List Int))) p1.Home)
       else none
      else none
     else none
    else
    some p1
   else none
  else none
 else none
def g_law10_Diamond  : Option Tapi_Net :=
 if 0≤(0:Int)∧(0:Int)≤(1:Int)∧(1:Int)≤(([[1,1],[2,0]]:(List (List Int))).length:Int) then
  some (Tapi_Net.mk 2 ([(Tapi_Node.mk 2 [] (sub ([[1,1],[2,0]]:(List (List Int))) 0 1)),(Tapi_Node.mk 2 [0] ([[1,1],[2,0]]:(List (List Int)))),(Tapi_Node.mk 2 [0] ([[1,1],[2,0]]:(List (List Int)))),(Tapi_Node.mk 2 [1,2] [[1,1],[2,0],[0,2],[1,1]])]:(List Tapi_Node)))
 else none
def g_law10_TreeKnown_b0 (x5:Tapi_Net) (s33:Int):Option (Step Int (Unit ⊕ Unit)) :=
 if (decide (s33 < 11))=true then
  (lkI ([(Tharuspexref10_Bend.mk 0 0 0 0),(Tharuspexref10_Bend.mk 0 0 0 14),(Tharuspexref10_Bend.mk 2 0 0 0),(Tharuspexref10_Bend.mk 2 1 1 0),(Tharuspexref10_Bend.mk 2 1 (-1) 0),(Tharuspexref10_Bend.mk 3 0 0 0),(Tharuspexref10_Bend.mk 3 0 2 0),(Tharuspexref10_Bend.mk 4 0 0 0),(Tharuspexref10_Bend.mk 5 0 0 1),(Tharuspexref10_Bend.mk 6 0 0 0),(Tharuspexref10_Bend.mk 7 0 0 0)]:(List Tharuspexref10_Bend)) s33).bind fun a36 =>
  (g_law10_Sample).bind fun x38 =>
  (g_ref10_Bend_Of a36 x38).bind fun x40 =>
  (g_tree_Check x5 x40).bind fun x42 =>
  if (x42 != 100)=true then
   some (.done (Sum.inl ()))
  else
  some (.next (IntKind.i64.wrap (s33+1)))
 else
 some (.done (Sum.inr ()))
def g_law10_TreeKnown_b1  (s53:(Int × (List Tapi_Node))):Option (Step (Int × (List Tapi_Node)) (List Tapi_Node)) :=
 if (decide (s53.1 < 5))=true then
  (lkI ([[],[],[0,1],[0],[1]]:(List (List Int))) s53.1).bind fun a56 =>
  if (s53.2++([(Tapi_Node.mk 1 a56 [[1]])]:(List Tapi_Node))).length*56≤140737488355328 then
   some (.next (IntKind.i64.wrap (s53.1+1),(s53.2++([(Tapi_Node.mk 1 a56 [[1]])]:(List Tapi_Node)))))
  else none
 else
 some (.done s53.2)
def g_law10_TreeKnown  : Option Bool :=
 (g_law10_wakes).bind fun x1 =>
 if (!x1)=true then
  some false
 else
 (g_law09_Sample).bind fun x5 =>
 (g_law10_Diamond).bind fun x7 =>
 (g_tree_Make x5 [1,0,2]).bind fun x9 =>
 (g_tree_Make x7 [0,1,2,3]).bind fun x11 =>
 (g_tree_Width x7 x11.1).bind fun x13 =>
 (g_tree_Make x5 [0,1,1]).bind fun x15 =>
 (g_tree_Make x5 [0,1]).bind fun x17 =>
 (g_tree_Make x5 [0,1,3]).bind fun x19 =>
 (g_law10_Sample).bind fun x21 =>
 (g_tree_Separator x5 x21 0).bind fun x23 =>
 (g_law10_Sample).bind fun x25 =>
 (g_tree_Separator x5 x25 2).bind fun x27 =>
 (g_tree_Make (Tapi_Net.mk 0 []) []).bind fun x29 =>
 (g_tree_Least (Tapi_Net.mk 0 [])).bind fun x31 =>
 (whileN fuel (g_law10_TreeKnown_b0 x5) 0).bind fun x46=>match x46 with
 | .inl x47=>(
  some false)
 | .inr x48=>(
  (g_law10_Sample).bind fun x49 =>
  (g_ref10_Bend_Of (Tharuspexref10_Bend.mk 7 1 0 1) x49).bind fun x51 =>
  (whileN fuel (g_law10_TreeKnown_b1) (0,([]:(List Tapi_Node)))).bind fun x59 =>
  (g_tree_Make (Tapi_Net.mk 1 x59) [2,3,0,1,4]).bind fun x60 =>
  (g_tree_Make (Tapi_Net.mk 1 [(Tapi_Node.mk 1 [] [[1]]),(Tapi_Node.mk 1 [] [[1]])]) [0,1]).bind fun x62 =>
  if (x15.2==2)=true then
   if (x17.2==2)=true then
    if (x19.2==2)=true then
     if (x23.2==2)=true then
      if (x27.2==2)=true then
       if (x29.2==50)=true then
        if (x31.2==50)=true then
         (g_law10_Sample).bind fun x78 =>
         (g_tree_Check (Tapi_Net.mk 0 []) x78).bind fun x80 =>
         if (x80==50)=true then
          (g_tree_Check x5 x11.1).bind fun x84 =>
          if (x84==100)=true then
           if (x60.2==0)=true then
            (g_ref10_Same x60.1 (Tapi_Tree.mk [18,7,9] [-1,0,1] [1,0,1,2,0])).bind fun x90 =>
            if x90=true then
             if (x9.2==0)=true then
              (g_ref10_Same x9.1 (Tapi_Tree.mk [7] [-1] [0,0,0])).bind fun x96 =>
              if x96=true then
               if (x11.2==0)=true then
                (g_ref10_Same x11.1 (Tapi_Tree.mk [14,7] [-1,0] [1,1,1,0])).bind fun x102 =>
                if x102=true then
                 if (x13.1==2)=true then
                  if (x13.2==0)=true then
                   (g_tree_Check x5 x51).bind fun x110 =>
                   if (x110==0)=true then
                    if (x62.2==0)=true then
                     (g_ref10_Same x62.1 (Tapi_Tree.mk [2,1] [-1,0] [1,0])).bind fun x116 =>
                     some x116
                    else
                    some false
                   else
                   some false
                  else
                  some false
                 else
                 some false
                else
                some false
               else
               some false
              else
              some false
             else
             some false
            else
            some false
           else
           some false
          else
          some false
         else
         some false
        else
        some false
       else
       some false
      else
      some false
     else
     some false
    else
    some false
   else
   some false
  else
  some false)
end Go.Ab
namespace Go.Ab
open Go Go.Proofs
set_option maxRecDepth 100000
set_option maxHeartbeats 4000000
theorem hfol:(Tryd.prog.follows .mixedOrders)=true:=by kernel_rfl
theorem bodyB_10:bodyB Tryd.prog 10=true:=by kernel_rfl
theorem bodyB_15:bodyB Tryd.prog 15=true:=by kernel_rfl
theorem bodyB_18:bodyB Tryd.prog 18=true:=by kernel_rfl
theorem bodyB_19:bodyB Tryd.prog 19=true:=by kernel_rfl
theorem bodyB_21:bodyB Tryd.prog 21=true:=by kernel_rfl
theorem bodyB_22:bodyB Tryd.prog 22=true:=by kernel_rfl
theorem bodyB_24:bodyB Tryd.prog 24=true:=by kernel_rfl
theorem bodyB_26:bodyB Tryd.prog 26=true:=by kernel_rfl
theorem bodyB_28:bodyB Tryd.prog 28=true:=by kernel_rfl
theorem bodyB_30:bodyB Tryd.prog 30=true:=by kernel_rfl
theorem bodyB_31:bodyB Tryd.prog 31=true:=by kernel_rfl
theorem bodyB_32:bodyB Tryd.prog 32=true:=by kernel_rfl
theorem bodyB_41:bodyB Tryd.prog 41=true:=by kernel_rfl
theorem bodyB_42:bodyB Tryd.prog 42=true:=by kernel_rfl
theorem bodyB_44:bodyB Tryd.prog 44=true:=by kernel_rfl
theorem bodyB_48:bodyB Tryd.prog 48=true:=by kernel_rfl
theorem bodyB_49:bodyB Tryd.prog 49=true:=by kernel_rfl
theorem bodyB_51:bodyB Tryd.prog 51=true:=by kernel_rfl
theorem bodyB_53:bodyB Tryd.prog 53=true:=by kernel_rfl
theorem bodyB_54:bodyB Tryd.prog 54=true:=by kernel_rfl
theorem bodyB_62:bodyB Tryd.prog 62=true:=by kernel_rfl
theorem bodyB_64:bodyB Tryd.prog 64=true:=by kernel_rfl
theorem bodyB_65:bodyB Tryd.prog 65=true:=by kernel_rfl
theorem bodyB_66:bodyB Tryd.prog 66=true:=by kernel_rfl
theorem bodyB_71:bodyB Tryd.prog 71=true:=by kernel_rfl
theorem bodyB_74:bodyB Tryd.prog 74=true:=by kernel_rfl
theorem bodyB_75:bodyB Tryd.prog 75=true:=by kernel_rfl
theorem bodyB_76:bodyB Tryd.prog 76=true:=by kernel_rfl
theorem bodyB_82:bodyB Tryd.prog 82=true:=by kernel_rfl
theorem bodyB_84:bodyB Tryd.prog 84=true:=by kernel_rfl
theorem bodyB_88:bodyB Tryd.prog 88=true:=by kernel_rfl
noncomputable abbrev s75_17 (p1:Tapi_Node) (s12:Int) (a15:(List Int)):List (Nat × AV):=[(0,.yld 4),(6,z2 p1.Rows),(7,vI (zn p1.Rows)),(8,vI s12),(9,vB true),(10,vI s12),(11,.fz [z1 a15]),(12,z1 a15),(3,vI s12),(4,z1 a15),(13,.yld 4),(14,vI s12),(15,z1 a15)]
noncomputable abbrev o75_0 (p0:Tnet_network):AObj:=oX true false 5 (.agg [vI p0.Net.Grain,eL false eTapi_Node p0.Net.Nodes,z1 p0.cards,eL true (AV.int .u64) p0.sets,z1 p0.order])
noncomputable abbrev o75_1 (p1:Tapi_Node):AObj:=oX true false 3 (.agg [vI p1.Card,z1 p1.Parents,z2 p1.Rows])
noncomputable abbrev o75_2:AObj:=oX true true 1 (vB false)
noncomputable abbrev o75_3 (p0:Tnet_network) (p1:Tapi_Node):List AObj:=[(o75_0 p0),(o75_1 p1),o75_2,(o75_1 p1),.loop 66 [(2,.ptr 0 0 0),(3,.ptr 1 0 0),(4,.ptr 2 0 0),(34,.fn (.func 89) [] [.ptr 3 0 0])] [35,36] (cA Tryd.f75 [true,true,true,true,false,true,true]) (cB Tryd.f75 [true,true,true,true,false,true,true]) .busy none]
noncomputable abbrev o75_4 (p0:Tnet_network) (p1:Tapi_Node):List AObj:=[(o75_0 p0),(o75_1 p1),o75_2,(o75_1 p1),.loop 66 [(2,.ptr 0 0 0),(3,.ptr 1 0 0),(4,.ptr 2 0 0),(34,.fn (.func 89) [] [.ptr 3 0 0])] [35,36] (cA Tryd.f75 [true,true,true,true,false,true,true]) (cB Tryd.f75 [true,true,true,true,false,true,true]) .ready none]
noncomputable abbrev o75_5 (p0:Tnet_network) (p1:Tapi_Node):List AObj:=[(o75_0 p0),(o75_1 p1),o75_2,(o75_1 p1),.loop 66 [(2,.ptr 0 0 0),(3,.ptr 1 0 0),(4,.ptr 2 0 0),(34,.fn (.func 89) [] [.ptr 3 0 0])] [35,36] (cA Tryd.f75 [true,true,true,true,false,true,true]) (cB Tryd.f75 [true,true,true,true,false,true,true]) .done (some .ret)]
theorem g_net_network_filled_ok (p0:Tnet_network) (p1:Tapi_Node) (x:Bool) (h:g_net_network_filled p0 p1=some x):CallOk Tryd.prog 75 [.agg [vI p0.Net.Grain,eL false eTapi_Node p0.Net.Nodes,z1 p0.cards,eL true (AV.int .u64) p0.sets,z1 p0.order],.agg [vI p1.Card,z1 p1.Parents,z2 p1.Rows]] (.ret (vB x) []):=by
 refine fn_ok [] Tryd.func75 rfl (by decide +kernel) rfl ?_
 unfold g_net_network_filled at h
 refine wp_eqB (base':=0) (st':=⟨[(0,.agg [vI p0.Net.Grain,eL false eTapi_Node p0.Net.Nodes,z1 p0.cards,eL true (AV.int .u64) p0.sets,z1 p0.order]),(1,.agg [vI p1.Card,z1 p1.Parents,z2 p1.Rows])],[],66⟩) kr kr ?_
 refine wp_seq (reg_in ?_)
 refine sgL false [] [] false gE ?_
 refine sgL false [] [] false gE ?_
 refine sz 1 3 (reg_end rfl (sq (wp_seq (wp_seq (reg_in (sz 2 2 ?_))))))
 refine lenL (enc:=eI) (l:=p1.Parents) (fl:=true) kr gE ?_
 refine sz 1 4 (reg_end rfl (wp_block ?_))
 refine wwh h (fun s1=>⟨[(2,.ptr 0 0 0),(3,.ptr 1 0 0),(4,.ptr 2 0 0),(5,vI s1.1),(14,z1 p1.Parents),(15,vI (zn p1.Parents)),(16,vI s1.2)],[(o75_0 p0),(o75_1 p1),o75_2],66⟩) (fun v out=>out=.go (.exit 0) ⟨[(2,.ptr 0 0 0),(3,.ptr 1 0 0),(4,.ptr 2 0 0),(5,vI v)],[(o75_0 p0),(o75_1 p1),o75_2],66⟩) (wk_gc (live:=[2,3,4,5,14,15,16]) (keep:=[0,1,2]) kr) ?_ ?_
 ·intro s1 o h
  unfold g_net_network_filled_b0 at h
  refine sq (wp_seq ?_)
  refine wb [17] h (fun q3 h=>?_) (fun q3 h=>?_)
  ·refine wcT (wp_skip (wp_seq (wp_block (wp_seq (reg_in ?_)))))
   refine bind_elim h (fun a4 q5 h=>?_)
   refine idxL' (enc:=eI) (l:=p1.Parents) (n:=s1.2) (fl:=true) (w:=1) (a:=a4) kr rfl gE q5 ?_
   refine sz 2 3 (reg_end rfl (reg_in (sz 4 4 ?_)))
   refine bind_elim h (fun a6 q7 h=>?_)
   refine idxL' (enc:=eI) (l:=p0.cards) (n:=a4) (fl:=true) (w:=1) (a:=a6) kr rfl gE q7 ?_
   refine sz 3 8 (reg_end rfl ?_)
   refine wgc [2,3,4,5,14,15,16] [0,1,2] ⟨[(2,.ptr 0 0 0),(3,.ptr 1 0 0),(4,.ptr 2 0 0),(5,vI (zw (s1.1*a6))),(14,z1 p1.Parents),(15,vI (zn p1.Parents)),(16,vI s1.2)],[(o75_0 p0),(o75_1 p1),o75_2],66⟩ ?_
   refine rn ?_
   cases h
   exact ⟨_,rfl,(wk_gc (live:=[2,3,4,5,14,15,16]) (keep:=[0,1,2]) kr)⟩
  refine wcF (wg [2,3,4,5] [0,1,2] ?_)
  refine wp_exit ?_
  cases h
  exact ⟨kr,rfl⟩
 intro x9 h out hx
 subst hx
 refine wp_seq (wp_seq (reg_in (sz 2 2 ?_)))
 refine lenL (enc:=z1) (l:=p1.Rows) (fl:=false) kr gE ?_
 refine sz 2 5 (reg_end rfl ?_)
 refine wbz h (fun q11 h=>?_) (fun q11 h=>?_)
 ·refine wp_seq (wg [4] [2] (rn (wg [4] [0] ?_)))
  cases h
  exact wp_ret (show fnOut _ _ _ _=_ from by kernel_rfl)
 refine wp_skip (wp_seq (wp_seq (wg [2,3,4] [0,1,2] (reg_in (sz 1 1 ?_)))))
 refine inlR (f:=83) (fn:=Tryd.f83) (as0:=[.agg [vI p1.Card,z1 p1.Parents,z2 p1.Rows]]) kr Tryd.func83 rfl (by decide +kernel) rfl ?_
 refine wp_eqB (base':=3) (st':=⟨[(0,.agg [vI p1.Card,z1 p1.Parents,z2 p1.Rows])],[(o75_0 p0),(o75_1 p1),o75_2],4⟩) kr kr ?_
 refine wp_seq (reg_in ?_)
 refine sgL false [] [] false gE ?_
 refine sz 1 2 (reg_end rfl (sq (wg [2] [3] ?_)))
 refine wp_ret ?_
 refine ⟨⟨[(2,.ptr 0 0 0),(3,.ptr 1 0 0),(4,.ptr 2 0 0),(33,.agg [vI p1.Card,z1 p1.Parents,z2 p1.Rows]),(34,.fn (.func 89) [] [.ptr 3 0 0])],[(o75_0 p0),(o75_1 p1),o75_2,(o75_1 p1)],66⟩,by as_aux_lemma=>kernel_rfl,?_⟩
 refine reg_end rfl (wp_block ?_)
 refine wgc [2,3,4,34] [0,1,2,3] ⟨[(2,.ptr 0 0 0),(3,.ptr 1 0 0),(4,.ptr 2 0 0),(34,.fn (.func 89) [] [.ptr 3 0 0])],[(o75_0 p0),(o75_1 p1),o75_2,(o75_1 p1)],66⟩ ?_
 refine wp_range (f:=89) (fn:=Tryd.f89) (first:=[]) (caps:=[.ptr 3 0 0]) rfl Tryd.func89 rfl (by decide +kernel) rfl rfl ?_
 refine wp_eqB (base':=5) (st':=⟨[(0,.yld 4),(1,.ptr 3 0 0)],(o75_4 p0 p1),19⟩) kr kr ?_
 refine wp_seq (reg_in (sz 2 2 ?_))
 refine lenL (enc:=z1) (l:=p1.Rows) (fl:=false) kr gE ?_
 refine sz 1 4 (reg_end rfl (wp_block ?_))
 refine wwh h (fun s12=>⟨[(0,.yld 4),(6,z2 p1.Rows),(7,vI (zn p1.Rows)),(8,vI s12)],(o75_4 p0 p1),19⟩) (fun x out=>out=match x with | .inl v=>.go (.ret) ⟨[],(o75_5 p0 p1),19⟩ | .inr v=>.go (.exit 0) ⟨[],(o75_4 p0 p1),19⟩) (wk_gc (live:=[0,6,7,8]) (keep:=[]) kr) ?_ ?_
 ·intro s12 o h
  unfold g_net_network_filled_b2 at h
  refine sq (wp_seq ?_)
  refine wb [9] h (fun q14 h=>?_) (fun q14 h=>?_)
  ·refine wcT (wp_skip (wp_seq (wp_block (wp_seq (reg_in (sz 1 1 ?_))))))
   refine bind_elim h (fun a15 q16 h=>?_)
   refine idxL' (enc:=z1) (l:=p1.Rows) (n:=s12) (fl:=false) (w:=1) (a:=a15) kr rfl gE q16 ?_
   refine sz 3 5 (reg_end rfl (wp_seq (reg_in (sz 3 3 ?_))))
   refine yldR (l:=4) (nt:=66) (us:=[vI s12,z1 a15]) (sl:=[(2,.ptr 0 0 0),(3,.ptr 1 0 0),(4,.ptr 2 0 0),(34,.fn (.func 89) [] [.ptr 3 0 0])]) (ps:=[35,36]) (assign:=cA Tryd.f75 [true,true,true,true,false,true,true]) (body:=cB Tryd.f75 [true,true,true,true,false,true,true]) (pe:=none) kr kr rfl ?_
   refine wp_eqB (base':=5) (st':=⟨[(2,.ptr 0 0 0),(3,.ptr 1 0 0),(4,.ptr 2 0 0),(34,.fn (.func 89) [] [.ptr 3 0 0]),(35,vI s12),(36,z1 a15)],(o75_4 p0 p1),66⟩) kr kr ?_
   refine rn ?_
   refine ⟨⟨[(2,.ptr 0 0 0),(3,.ptr 1 0 0),(4,.ptr 2 0 0),(34,.fn (.func 89) [] [.ptr 3 0 0]),(35,vI s12),(36,z1 a15),(9,z1 a15)],(o75_3 p0 p1),66⟩,by as_aux_lemma=>kernel_rfl,?_⟩
   refine wp_block (sq (wp_seq (wp_seq (wg [3,4,9,10] [] (reg_in (sz 1 1 ?_))))))
   refine lenL (enc:=eI) (l:=a15) (fl:=true) kr gE ?_
   refine sz 1 3 (reg_end rfl (wp_block ?_))
   refine wwh h (fun s17=>⟨[(3,.ptr 1 0 0),(4,.ptr 2 0 0),(9,z1 a15),(10,vI s17.1),(40,z1 a15),(41,vI (zn a15)),(42,vI s17.2)],(o75_3 p0 p1),66⟩) (fun x out=>out=match x with | .inl v=>.go (.ret) ⟨[(4,.ptr 2 0 0)],(o75_3 p0 p1),66⟩ | .inr v=>.go (.exit 4) ⟨[(3,.ptr 1 0 0),(4,.ptr 2 0 0),(9,z1 a15),(10,vI v)],(o75_3 p0 p1),66⟩) (wk_gc (live:=[3,4,9,10,40,41,42]) (keep:=[]) kr) ?_ ?_
   ·intro s17 o h
    unfold g_net_network_filled_b1 at h
    refine sq (wp_seq ?_)
    refine wb [43] h (fun q19 h=>?_) (fun q19 h=>?_)
    ·refine wcT (wp_skip (wp_seq (wp_block (wp_seq (reg_in ?_)))))
     refine bind_elim h (fun a20 q21 h=>?_)
     refine idxL' (enc:=eI) (l:=a15) (n:=s17.2) (fl:=true) (w:=1) (a:=a20) kr rfl gE q21 ?_
     refine sz 2 3 (reg_end rfl (wp_seq (wp_seq (reg_in (sz 3 3 ?_)))))
     refine rw_wk (wk_gc (live:=[3,4,9,10,40,41,42,12,48]) (keep:=[]) (st':=⟨[(3,.ptr 1 0 0),(4,.ptr 2 0 0),(9,z1 a15),(10,vI s17.1),(40,z1 a15),(41,vI (zn a15)),(42,vI s17.2),(12,vI a20),(48,vB (decide (a20 < 0)))],(o75_3 p0 p1),66⟩) kr) ?_
     refine rb [48] h (fun q23 h=>?_) (fun q23 h=>?_)
     ·refine sz 4 7 (reg_end rfl (wcT (wp_seq (wg [4] [] (rn (wg [4] [] ?_))))))
      refine wp_ret ?_
      cases h
      exact ⟨kr,rfl⟩
     refine sz 4 7 (reg_end rfl ?_)
     refine wbz h (fun q25 h=>?_) (fun q25 h=>?_)
     ·refine wp_seq (wg [4] [] (rn (wg [4] [] ?_)))
      refine wp_ret ?_
      cases h
      exact ⟨kr,rfl⟩
     refine wp_skip (wg [3,4,9,10,40,41,42,12] [] (rn (rn ?_)))
     cases h
     exact ⟨_,rfl,(wk_gc (live:=[3,4,9,10,40,41,42]) (keep:=[]) kr)⟩
    refine wcF (wg [3,4,9,10] [] ?_)
    refine wp_exit ?_
    cases h
    exact ⟨kr,rfl⟩
   intro x26 h out hx
   subst hx
   rcases x26 with x27 | x28
   ·dsimp only at h ⊢
    refine ⟨⟨(s75_17 p1 s12 a15)++[(16,vB false)],(o75_5 p0 p1),19⟩,by as_aux_lemma=>kernel_rfl,?_⟩
    refine sz 1 5 (reg_end rfl (wcT (wg [] [] ?_)))
    refine wp_ret ?_
    cases h
    exact ⟨kr,rfl⟩
   ·dsimp only at h ⊢
    refine wp_seq (reg_in (sz 1 1 ?_))
    refine lenL (enc:=eI) (l:=a15) (fl:=true) kr gE ?_
    refine sz 4 6 (rwg [4,10,62] [] ?_)
    refine rb [62] h (fun q30 h=>?_) (fun q30 h=>?_)
    ·refine sz 3 9 (reg_end rfl (wcT (wp_seq (wg [4] [] (rn ?_)))))
     refine wgc [4] [] ⟨[(4,.ptr 2 0 0)],(o75_3 p0 p1),66⟩ ?_
     refine wp_ret ?_
     refine ⟨⟨(s75_17 p1 s12 a15)++[(16,vB false)],(o75_5 p0 p1),19⟩,by as_aux_lemma=>kernel_rfl,?_⟩
     refine sz 1 5 (reg_end rfl (wcT (wg [] [] ?_)))
     refine wp_ret ?_
     cases h
     exact ⟨kr,rfl⟩
    refine sz 3 9 (reg_end rfl ?_)
    refine wb [64,65] h (fun q32 h=>?_) (fun q32 h=>?_)
    ·refine wcT (wp_seq (wg [4] [] (rn ?_)))
     refine wgc [4] [] ⟨[(4,.ptr 2 0 0)],(o75_3 p0 p1),66⟩ ?_
     refine wp_ret ?_
     refine ⟨⟨(s75_17 p1 s12 a15)++[(16,vB false)],(o75_5 p0 p1),19⟩,by as_aux_lemma=>kernel_rfl,?_⟩
     refine sz 1 5 (reg_end rfl (wcT (wg [] [] ?_)))
     refine wp_ret ?_
     cases h
     exact ⟨kr,rfl⟩
    refine wcF (wp_skip ?_)
    refine ⟨⟨(s75_17 p1 s12 a15)++[(16,vB true)],(o75_4 p0 p1),19⟩,by as_aux_lemma=>kernel_rfl,?_⟩
    refine sz 1 5 (reg_end rfl (wcF (wp_skip ?_)))
    refine wgc [0,6,7,8] [] ⟨[(0,.yld 4),(6,z2 p1.Rows),(7,vI (zn p1.Rows)),(8,vI s12)],(o75_4 p0 p1),19⟩ ?_
    refine rn ?_
    cases h
    exact ⟨_,rfl,(wk_gc (live:=[0,6,7,8]) (keep:=[]) kr)⟩
  refine wcF (wg [] [] ?_)
  refine wp_exit ?_
  cases h
  exact ⟨kr,rfl⟩
 intro x33 h out hx
 subst hx
 rcases x33 with x34 | x35
 ·dsimp only at h ⊢
  refine ⟨.go .ret ⟨[(2,.ptr 0 0 0),(3,.ptr 1 0 0),(4,.ptr 2 0 0),(34,.fn (.func 89) [] [.ptr 3 0 0])],[(o75_0 p0),(o75_1 p1),o75_2,(o75_1 p1),.dead],66⟩,by as_aux_lemma=>kernel_rfl,?_⟩
  cases h
  show fnOut _ _ _ _=_
  kernel_rfl
 ·dsimp only at h ⊢
  refine ⟨.go .normal ⟨[(2,.ptr 0 0 0),(3,.ptr 1 0 0),(4,.ptr 2 0 0),(34,.fn (.func 89) [] [.ptr 3 0 0])],[(o75_0 p0),(o75_1 p1),o75_2,(o75_1 p1),.dead],66⟩,by as_aux_lemma=>kernel_rfl,?_⟩
  refine sq (wg [4] [2] ?_)
  cases h
  exact wp_ret (show fnOut _ _ _ _=_ from by kernel_rfl)
theorem g_net_sorted_ok (p0:(List Int)) (x:((List Int) × Bool)) (h:g_net_sorted p0=some x):CallOk Tryd.prog 76 [eL true (AV.int .u64) p0] (.ret (.tup [.ref 0 0 x.1.length,vB x.2]) [oR true 1 eI x.1]):=by
 refine fn_ok [] Tryd.func76 rfl (by decide +kernel) rfl ?_
 unfold g_net_sorted at h
 refine wp_eqB (base':=0) (st':=⟨[(0,eL true (AV.int .u64) p0)],[],44⟩) kr kr ?_
 refine sq ?_
 refine wp_scope ?_
 refine wp_seq (reg_in (sz 1 1 ?_))
 refine lenL (enc:=(AV.int .u64)) (l:=p0) (fl:=true) kr gE ?_
 refine mkL (enc:=eI) (z:=(0:Int)) (z0:=vI 0) (n:=0) (m:=(zn p0)) (w:=1) (bytes:=8) [] true kr rfl gE kr h (fun h=>?_)
 refine sgz 2 5 (S:=⟨[(0,eL true (AV.int .u64) p0),(2,.nils),(3,vB false),(8,eL true (AV.int .u64) p0),(9,vI (zn p0)),(10,.ref 0 0 ((List.replicate (zt 0) (0:Int)).length)),(4,.ref 0 0 ((List.replicate (zt 0) (0:Int)).length)),(5,.int .u64 0)],[oR true 1 eI (List.replicate (zt 0) (0:Int))],44⟩) ?_
 refine reg_end rfl (wp_seq ?_)
 refine wp_label ?_
 refine wp_seq (wp_block ?_)
 refine wwh h (fun s1=>⟨[(0,eL true (AV.int .u64) p0),(4,.ref 0 0 s1.2.length),(5,.int .u64 s1.1)],[oR true 1 eI s1.2],44⟩) (fun x out=>out=match x with | .inl v=>.go (.ret) ⟨[(2,.ref 0 0 0),(3,vB false)],[.row false false true true 1 []],44⟩ | .inr v=>.go (.exit 0) ⟨[(4,.ref 0 0 v.length)],[oR true 1 eI v],44⟩) (wk_gc (live:=[0,4,5]) (keep:=[0]) kr) ?_ ?_
 ·intro s1 o h
  unfold g_net_sorted_b1 at h
  refine wp_seq (wp_seq (reg_in (sz 3 3 ?_)))
  refine lenL (enc:=(AV.int .u64)) (l:=p0) (fl:=true) kr gE ?_
  refine sz 1 5 (reg_end rfl ?_)
  refine wbz h (fun q3 h=>?_) (fun q3 h=>?_)
  ·refine wp_skip (wp_block (wp_seq (wp_seq (wg [0,4,5] [0] (reg_in (sz 1 1 ?_))))))
   refine lenL (enc:=(AV.int .u64)) (l:=p0) (fl:=true) kr gE ?_
   refine sz 1 3 (reg_end rfl (wp_block ?_))
   refine wwh h (fun s4=>⟨[(0,eL true (AV.int .u64) p0),(4,.ref 0 0 s1.2.length),(5,.int .u64 s1.1),(16,eL true (AV.int .u64) p0),(17,vI (zn p0)),(18,vI s4)],[oR true 1 eI s1.2],44⟩) (fun x out=>out=match x with | .inl v=>.go (.exit 1) ⟨[(0,eL true (AV.int .u64) p0),(4,.ref 0 0 v.2.length),(5,.int .u64 v.1)],[oR true 1 eI v.2],44⟩ | .inr v=>.go (.exit 2) ⟨[],[],44⟩) (wk_gc (live:=[0,4,5,16,17,18]) (keep:=[0]) kr) ?_ ?_
   ·intro s4 o h
    unfold g_net_sorted_b0 at h
    refine sq (wp_seq ?_)
    refine wb [19] h (fun q6 h=>?_) (fun q6 h=>?_)
    ·refine wcT (wp_skip (wp_seq (wp_block (wp_seq (reg_in (sz 1 1 ?_))))))
     refine bind_elim h (fun a7 q8 h=>?_)
     refine idxL' (enc:=(AV.int .u64)) (l:=p0) (n:=s4) (fl:=true) (w:=1) (a:=a7) kr rfl gE q8 ?_
     refine sz 3 5 (reg_end rfl (wp_seq (reg_in (sz 2 2 ?_))))
     refine shrR (k:=.u64) (k':=.i64) (a:=s1.1) (b:=s4) kr gE h (fun h=>?_)
     refine sz 3 6 ?_
     refine rw_wk (wk_gc (live:=[0,4,5,16,17,18,6,7,28]) (keep:=[0]) (st':=⟨[(0,eL true (AV.int .u64) p0),(4,.ref 0 0 s1.2.length),(5,.int .u64 s1.1),(16,eL true (AV.int .u64) p0),(17,vI (zn p0)),(18,vI s4),(6,vI s4),(7,.int .u64 a7),(28,vB ((zv (BitVec.ofInt (IntKind.bits .u64) (Int.fdiv s1.1 (2^min (zt s4) (IntKind.bits .u64))) &&& BitVec.ofInt (IntKind.bits .u64) 1).toNat)==0))],[oR true 1 eI s1.2],44⟩) kr) ?_
     refine rb [28] h (fun q10 h=>?_) (fun q10 h=>?_)
     ·refine sz 5 11 (reg_end rfl ?_)
      refine wbz h (fun q12 h=>?_) (fun q12 h=>?_)
      ·refine wp_seq (wg [0,4,5,6] [0] (reg_in (sz 2 2 ?_)))
       refine sgL false [] [] true gE ?_
       refine appR (enc:=eI) (l:=s1.2) (m:=([s4]:(List Int))) (w:=1) (bytes:=8) (ob:=0) (nr:=true) (fl:=true) (nr':=true) (fl':=true) (b:=.ref 1 0 1) (rds:=[1]) false kr kr kr rfl gE kr h (fun h=>?_)
       refine sz 1 5 (reg_end rfl (wp_seq (reg_in (sz 2 2 ?_))))
       refine shlR (k:=.u64) (k':=.i64) (a:=1) (b:=s4) kr gE h (fun h=>?_)
       refine sz 2 5 (reg_end rfl ?_)
       refine wgc [0,4,5] [2] ⟨[(0,eL true (AV.int .u64) p0),(4,.ref 0 0 ((s1.2++([s4]:(List Int))).length)),(5,.int .u64 (zv (BitVec.ofInt (IntKind.bits .u64) s1.1 ||| BitVec.ofInt (IntKind.bits .u64) (zv (1*2^min (zt s4) (IntKind.bits .u64)))).toNat))],[oR true 1 eI (s1.2++([s4]:(List Int)))],44⟩ ?_
       refine wp_exit ?_
       cases h
       exact ⟨kr,rfl⟩
      refine wp_skip (wg [0,4,5,16,17,18] [0] (rn ?_))
      cases h
      exact ⟨_,rfl,(wk_gc (live:=[0,4,5,16,17,18]) (keep:=[0]) kr)⟩
     refine sz 5 11 (reg_end rfl (wcF (wp_skip (wg [0,4,5,16,17,18] [0] (rn ?_)))))
     cases h
     exact ⟨_,rfl,(wk_gc (live:=[0,4,5,16,17,18]) (keep:=[0]) kr)⟩
    refine wcF (wg [] [] ?_)
    refine wp_exit ?_
    cases h
    exact ⟨kr,rfl⟩
   intro x13 h out hx
   subst hx
   rcases x13 with x14 | x15
   ·dsimp only at h ⊢
    cases h
    exact ⟨_,rfl,(wk_gc (live:=[0,4,5]) (keep:=[0]) kr)⟩
   ·dsimp only at h ⊢
    refine sq (wg [2,3] [] ?_)
    refine wp_wk (wk_nil 2 1 true true gE) ?_
    refine wp_ret ?_
    cases h
    exact ⟨kr,rfl⟩
  refine wg [4] [0] ?_
  refine wp_exit ?_
  cases h
  exact ⟨kr,rfl⟩
 intro x16 h out hx
 subst hx
 rcases x16 with x17 | x18
 ·dsimp only at h ⊢
  cases h
  show fnOut _ _ _ _=_
  kernel_rfl
 ·dsimp only at h ⊢
  refine sq (wg [2,3] [0] ?_)
  cases h
  exact wp_ret (show fnOut _ _ _ _=_ from by kernel_rfl)
noncomputable abbrev s53_62 (s26:(Int × (List Int))) (p0:Tapi_Net) (a29:Tapi_Node) (s31:(Int × Int × (List Int))) (a34:Int):List (Nat × AV):=[(2,.ptr 0 0 0),(4,.ptr 1 0 0),(8,vI s26.1),(9,.ptr 2 0 0),(80,eL false eTapi_Node p0.Nodes),(81,vI (zn p0.Nodes)),(82,vI s26.1),(88,z1 a29.Parents),(89,vI (zn a29.Parents)),(90,vI s31.2.1),(12,vI a34)]
noncomputable abbrev o53_6:AObj:=oX true false 5 (.agg [vI 0,.nils,.nils,.nils,.nils])
noncomputable abbrev o53_7 (a29:Tapi_Node):AObj:=oX true false 3 (.agg [vI a29.Card,z1 a29.Parents,z2 a29.Rows])
theorem g_net_read_ok (p0:Tapi_Net) (x:(Tnet_network × Int)) (h:g_net_read p0=some x):CallOk Tryd.prog 53 [.agg [vI p0.Grain,eL false eTapi_Node p0.Nodes]] (.ret (.tup [.agg [vI x.1.Net.Grain,eL false eTapi_Node x.1.Net.Nodes,z1 x.1.cards,eL true (AV.int .u64) x.1.sets,z1 x.1.order],vI x.2]) []):=by
 refine fn_ok [[.keep,.lst false,.lst true,.lst true,.lst true],[.keep]] Tryd.func53 rfl (by decide +kernel) rfl ?_
 unfold g_net_read at h
 refine wp_eqB (base':=0) (st':=⟨[(0,.agg [vI p0.Grain,eL false eTapi_Node p0.Nodes])],[],140⟩) kr kr ?_
 refine wp_seq (reg_in ?_)
 refine sgL false [] [] false gE ?_
 refine sgL false [] [] false gE ?_
 refine sz 1 3 (reg_end rfl (wp_seq (wp_seq (reg_in (sz 4 4 (rwg [1,2,18] [0,1] ?_))))))
 refine rb [18] h (fun q2 h=>?_) (fun q2 h=>?_)
 ·refine sz 16 20 (reg_end rfl (wcT (wp_seq ?_)))
  refine wgc [2] [1] ⟨[(2,.ptr 0 0 0)],[o53_6],140⟩ ?_
  refine rn (wg [2,3] [0] ?_)
  cases h
  exact wp_ret (show fnOut _ _ _ _=_ from by kernel_rfl)
 refine sz 5 9 ?_
 refine rw_wk (wk_gc (live:=[1,2,23]) (keep:=[0,1]) (st':=⟨[(1,.ptr 0 0 0),(2,.ptr 1 0 0),(23,vB (decide (p0.Grain > 60)))],[oX true false 2 (.agg [vI p0.Grain,eL false eTapi_Node p0.Nodes]),o53_6],140⟩) kr) ?_
 refine rb [23] h (fun q4 h=>?_) (fun q4 h=>?_)
 ·refine sz 11 20 (reg_end rfl (wcT (wp_seq (wg [2] [1] (rn ?_)))))
  refine wgc [2,3] [0] ⟨[(2,.ptr 0 0 0),(3,vI 50)],[o53_6],140⟩ ?_
  cases h
  exact wp_ret (show fnOut _ _ _ _=_ from by kernel_rfl)
 refine sz 2 11 ?_
 refine lenL (enc:=eTapi_Node) (l:=p0.Nodes) (fl:=false) kr gE ?_
 refine sz 3 15 (rwg [1,2,29] [0,1] ?_)
 refine rb [29] h (fun q6 h=>?_) (fun q6 h=>?_)
 ·refine sz 5 20 (reg_end rfl (wcT (wp_seq (wg [2] [1] (rn ?_)))))
  refine wgc [2,3] [0] ⟨[(2,.ptr 0 0 0),(3,vI 50)],[o53_6],140⟩ ?_
  cases h
  exact wp_ret (show fnOut _ _ _ _=_ from by kernel_rfl)
 refine sz 2 17 ?_
 refine lenL (enc:=eTapi_Node) (l:=p0.Nodes) (fl:=false) kr gE ?_
 refine sz 2 20 (reg_end rfl ?_)
 refine wbz h (fun q8 h=>?_) (fun q8 h=>?_)
 ·refine wp_seq (wg [2] [1] (rn ?_))
  refine wgc [2,3] [0] ⟨[(2,.ptr 0 0 0),(3,vI 50)],[o53_6],140⟩ ?_
  cases h
  exact wp_ret (show fnOut _ _ _ _=_ from by kernel_rfl)
 refine wp_skip (wp_seq (wg [1,2] [0,1] (rga hfol (sy 3 3 ?_))))
 refine lenL (enc:=eTapi_Node) (l:=p0.Nodes) (fl:=false) kr gE ?_
 refine mkL (enc:=eI) (z:=(0:Int)) (z0:=vI 0) (n:=(zn p0.Nodes)) (m:=(zn p0.Nodes)) (w:=1) (bytes:=8) [] true kr rfl gE kr h (fun h=>?_)
 refine sy 2 7 ?_
 refine lenL (enc:=eTapi_Node) (l:=p0.Nodes) (fl:=false) kr gE ?_
 refine mkL (enc:=(AV.int .u64)) (z:=(0:Int)) (z0:=.int .u64 0) (n:=(zn p0.Nodes)) (m:=(zn p0.Nodes)) (w:=1) (bytes:=8) [] true kr rfl gE kr h (fun h=>?_)
 refine sy 1 10 ?_
 refine sgL false [] [] false gE ?_
 refine sy 1 12 (rgd (wp_seq ?_))
 refine wgc [2,4] [1,4,2,3] ⟨[(2,.ptr 0 0 0),(4,.ptr 1 0 0)],[o53_6,oX false false 5 (.agg [vI p0.Grain,eL false eTapi_Node p0.Nodes,.ref 2 0 ((List.replicate (zt (zn p0.Nodes)) (0:Int)).length),.ref 3 0 ((List.replicate (zt (zn p0.Nodes)) (0:Int)).length),.nils]),oR true 1 eI (List.replicate (zt (zn p0.Nodes)) (0:Int)),oR true 1 (AV.int .u64) (List.replicate (zt (zn p0.Nodes)) (0:Int))],140⟩ ?_
 refine rn (wp_seq (wp_seq (reg_in (sz 3 3 ?_))))
 refine lenL (enc:=eTapi_Node) (l:=p0.Nodes) (fl:=false) kr gE ?_
 refine sz 1 5 (reg_end rfl (wp_block ?_))
 refine wwh h (fun s9=>⟨[(2,.ptr 0 0 0),(4,.ptr 1 0 0),(5,vI s9.1),(48,eL false eTapi_Node p0.Nodes),(49,vI (zn p0.Nodes)),(50,vI s9.2.1)],[o53_6,oX false false 5 (.agg [vI p0.Grain,eL false eTapi_Node p0.Nodes,.ref 2 0 s9.2.2.length,.ref 3 0 ((List.replicate (zt (zn p0.Nodes)) (0:Int)).length),.nils]),oR true 1 eI s9.2.2,oR true 1 (AV.int .u64) (List.replicate (zt (zn p0.Nodes)) (0:Int))],140⟩) (fun x out=>out=match x with | .inl v=>.go (.ret) ⟨[(2,.ptr 0 0 0),(3,vI 50)],[o53_6],140⟩ | .inr v=>.go (.exit 0) ⟨[(2,.ptr 0 0 0),(4,.ptr 1 0 0),(5,vI v.1)],[o53_6,oX false false 5 (.agg [vI p0.Grain,eL false eTapi_Node p0.Nodes,.ref 2 0 v.2.length,.ref 3 0 ((List.replicate (zt (zn p0.Nodes)) (0:Int)).length),.nils]),oR true 1 eI v.2,oR true 1 (AV.int .u64) (List.replicate (zt (zn p0.Nodes)) (0:Int))],140⟩) (wk_gc (live:=[2,4,5,48,49,50]) (keep:=[0,1,2,3]) kr) ?_ ?_
 ·intro s9 o h
  unfold g_net_read_b0 at h
  refine sq (wp_seq ?_)
  refine wb [51] h (fun q11 h=>?_) (fun q11 h=>?_)
  ·refine wcT (wp_skip (wp_seq (wp_block (wp_seq (reg_in (sz 1 1 ?_))))))
   refine bind_elim h (fun a12 q13 h=>?_)
   refine idxL' (enc:=eTapi_Node) (l:=p0.Nodes) (n:=s9.2.1) (fl:=false) (w:=3) (a:=a12) kr rfl gE q13 ?_
   refine sz 1 3 ?_
   refine sgL false [] [] false gE ?_
   refine sz 2 6 (reg_end rfl (wp_seq (wp_seq (reg_in (sz 4 4 ?_)))))
   refine rw_wk (wk_gc (live:=[2,4,5,48,49,50,7,6,58]) (keep:=[0,1,4,2,3]) (st':=⟨[(2,.ptr 0 0 0),(4,.ptr 1 0 0),(5,vI s9.1),(48,eL false eTapi_Node p0.Nodes),(49,vI (zn p0.Nodes)),(50,vI s9.2.1),(7,.ptr 2 0 0),(6,vI s9.2.1),(58,vB (decide (a12.Card < 1)))],[o53_6,oX false false 5 (.agg [vI p0.Grain,eL false eTapi_Node p0.Nodes,.ref 3 0 s9.2.2.length,.ref 4 0 ((List.replicate (zt (zn p0.Nodes)) (0:Int)).length),.nils]),oX true false 3 (.agg [vI a12.Card,z1 a12.Parents,z2 a12.Rows]),oR true 1 eI s9.2.2,oR true 1 (AV.int .u64) (List.replicate (zt (zn p0.Nodes)) (0:Int))],140⟩) kr) ?_
   refine rb [58] h (fun q15 h=>?_) (fun q15 h=>?_)
   ·refine sz 4 8 (reg_end rfl (wcT (wp_seq (wg [2] [0] (rn (wg [2,3] [0] ?_))))))
    refine wp_ret ?_
    cases h
    exact ⟨kr,rfl⟩
   refine sz 4 8 (reg_end rfl ?_)
   refine wbz h (fun q17 h=>?_) (fun q17 h=>?_)
   ·refine wp_seq (wg [2] [0] (rn (wg [2,3] [0] ?_)))
    refine wp_ret ?_
    cases h
    exact ⟨kr,rfl⟩
   refine wp_skip (wp_seq (wg [2,4,5,48,49,50,7,6] [0,1,2,3,4] (reg_in (sz 5 5 ?_))))
   refine bind_elim h (fun a18 q19 h=>?_)
   refine idxR' (enc:=eI) (l:=s9.2.2) (n:=s9.2.1) (w:=1) (ob:=3) (ro:=false) (nr:=true) (fl:=true) (a:=a18) kr kr gE q19 ?_
   refine storeR (enc:=eI) (l:=s9.2.2) (n:=s9.2.1) (ob:=3) (w:=1) (bx:=false) (nr:=true) (fl:=true) (c:=0) (a:=a18) (a':=a12.Card) (v:=vI a12.Card) false kr kr q19 kr rfl kr gE kr ?_
   refine rknN (n:=s9.2.2.length) (m:=(List.set s9.2.2 (zt s9.2.1) a12.Card).length) (S:=fun n20=>⟨[(2,.ptr 0 0 0),(4,.ptr 1 0 0),(5,vI s9.1),(48,eL false eTapi_Node p0.Nodes),(49,vI (zn p0.Nodes)),(50,vI s9.2.1),(7,.ptr 2 0 0),(6,vI s9.2.1)]++[(64,.ptr 1 0 2),(65,.ref 3 0 n20),(66,vI s9.2.1),(67,.ptr 2 0 0),(68,vI a12.Card),(69,.ptr 3 (zt s9.2.1) 0)],[o53_6,oX false false 5 (.agg [vI p0.Grain,eL false eTapi_Node p0.Nodes,.ref 3 0 n20,.ref 4 0 ((List.replicate (zt (zn p0.Nodes)) (0:Int)).length),.nils]),oX true false 3 (.agg [vI a12.Card,z1 a12.Parents,z2 a12.Rows]),oR true 1 eI (List.set s9.2.2 (zt s9.2.1) a12.Card),oR true 1 (AV.int .u64) (List.replicate (zt (zn p0.Nodes)) (0:Int))],140⟩) (by simp only [List.length_set]) ?_
   refine reg_end rfl (wg [2,4,5,48,49,50,7] [0,1,2,3,4] (rn (wg [2,4,5,48,49,50] [0,1,3,4] (rn ?_))))
   cases h
   exact ⟨_,rfl,(wk_gc (live:=[2,4,5,48,49,50]) (keep:=[0,1,2,3]) kr)⟩
  refine wcF (wg [2,4,5] [0,1,2,3] ?_)
  refine wp_exit ?_
  cases h
  exact ⟨kr,rfl⟩
 intro x21 h out hx
 subst hx
 rcases x21 with x22 | x23
 ·dsimp only at h ⊢
  cases h
  show fnOut _ _ _ _=_
  kernel_rfl
 ·dsimp only at h ⊢
  refine wp_seq (sq ?_)
  refine wb [76] h (fun q25 h=>?_) (fun q25 h=>?_)
  ·refine wcT (sq (wg [2,3] [0] ?_))
   cases h
   exact wp_ret (show fnOut _ _ _ _=_ from by kernel_rfl)
  refine wcF (wp_skip (wp_seq (wp_seq (reg_in (sz 3 3 ?_)))))
  refine lenL (enc:=eTapi_Node) (l:=p0.Nodes) (fl:=false) kr gE ?_
  refine sz 1 5 (reg_end rfl (wp_block ?_))
  refine wwh h (fun s26=>⟨[(2,.ptr 0 0 0),(4,.ptr 1 0 0),(80,eL false eTapi_Node p0.Nodes),(81,vI (zn p0.Nodes)),(82,vI s26.1)],[o53_6,oX false false 5 (.agg [vI p0.Grain,eL false eTapi_Node p0.Nodes,.ref 2 0 x23.2.length,.ref 3 0 s26.2.length,.nils]),oR true 1 eI x23.2,oR true 1 (AV.int .u64) s26.2],140⟩) (fun x out=>out=match x with | .inl v=>.go (.ret) ⟨[(2,.ptr 0 0 0),(3,vI 50)],[o53_6],140⟩ | .inr v=>.go (.exit 2) ⟨[(2,.ptr 0 0 0),(4,.ptr 1 0 0)],[o53_6,oX false false 5 (.agg [vI p0.Grain,eL false eTapi_Node p0.Nodes,.ref 2 0 x23.2.length,.ref 3 0 v.length,.nils]),oR true 1 eI x23.2,oR true 1 (AV.int .u64) v],140⟩) (wk_gc (live:=[2,4,80,81,82]) (keep:=[0,1,2,3]) kr) ?_ ?_
  ·intro s26 o h
   unfold g_net_read_b2 at h
   refine sq (wp_seq ?_)
   refine wb [83] h (fun q28 h=>?_) (fun q28 h=>?_)
   ·refine wcT (wp_skip (wp_seq (wp_block (wp_seq (reg_in (sz 1 1 ?_))))))
    refine bind_elim h (fun a29 q30 h=>?_)
    refine idxL' (enc:=eTapi_Node) (l:=p0.Nodes) (n:=s26.1) (fl:=false) (w:=3) (a:=a29) kr rfl gE q30 ?_
    refine sz 1 3 ?_
    refine sgL false [] [] false gE ?_
    refine sz 2 6 (reg_end rfl (sq (wp_seq (wp_seq (reg_in (sz 2 2 ?_))))))
    refine lenL (enc:=eI) (l:=a29.Parents) (fl:=true) kr gE ?_
    refine sz 1 4 (reg_end rfl (wp_block ?_))
    refine wwh h (fun s31=>⟨[(2,.ptr 0 0 0),(4,.ptr 1 0 0),(8,vI s26.1),(9,.ptr 2 0 0),(10,vI s31.1),(80,eL false eTapi_Node p0.Nodes),(81,vI (zn p0.Nodes)),(82,vI s26.1),(88,z1 a29.Parents),(89,vI (zn a29.Parents)),(90,vI s31.2.1)],[o53_6,oX false false 5 (.agg [vI p0.Grain,eL false eTapi_Node p0.Nodes,.ref 3 0 x23.2.length,.ref 4 0 s31.2.2.length,.nils]),(o53_7 a29),oR true 1 eI x23.2,oR true 1 (AV.int .u64) s31.2.2],140⟩) (fun x out=>out=match x with | .inl v=>.go (.ret) ⟨[(2,.ptr 0 0 0),(3,vI 50)],[o53_6],140⟩ | .inr v=>.go (.exit 4) ⟨[(2,.ptr 0 0 0),(4,.ptr 1 0 0),(9,.ptr 2 0 0),(80,eL false eTapi_Node p0.Nodes),(81,vI (zn p0.Nodes)),(82,vI s26.1)],[o53_6,oX false false 5 (.agg [vI p0.Grain,eL false eTapi_Node p0.Nodes,.ref 3 0 x23.2.length,.ref 4 0 v.length,.nils]),(o53_7 a29),oR true 1 eI x23.2,oR true 1 (AV.int .u64) v],140⟩) (wk_gc (live:=[2,4,8,9,10,80,81,82,88,89,90]) (keep:=[0,1,4,2,3]) kr) ?_ ?_
    ·intro s31 o h
     unfold g_net_read_b1 at h
     refine sq (wp_seq ?_)
     refine wb [91] h (fun q33 h=>?_) (fun q33 h=>?_)
     ·refine wcT (wp_skip (wp_seq (wp_block (wp_seq (reg_in ?_)))))
      refine bind_elim h (fun a34 q35 h=>?_)
      refine idxL' (enc:=eI) (l:=a29.Parents) (n:=s31.2.1) (fl:=true) (w:=1) (a:=a34) kr rfl gE q35 ?_
      refine sz 2 3 (reg_end rfl (wp_seq (wp_seq (reg_in (sz 4 4 ?_)))))
      refine rw_wk (wk_gc (live:=[2,4,8,9,80,81,82,88,89,90,12,97]) (keep:=[0,1,2,3,4]) (st':=⟨[(2,.ptr 0 0 0),(4,.ptr 1 0 0),(8,vI s26.1),(9,.ptr 2 0 0),(80,eL false eTapi_Node p0.Nodes),(81,vI (zn p0.Nodes)),(82,vI s26.1),(88,z1 a29.Parents),(89,vI (zn a29.Parents)),(90,vI s31.2.1),(12,vI a34),(97,vB (decide (a34≤s31.1)))],[o53_6,oX false false 5 (.agg [vI p0.Grain,eL false eTapi_Node p0.Nodes,.ref 3 0 x23.2.length,.ref 4 0 s31.2.2.length,.nils]),(o53_7 a29),oR true 1 eI x23.2,oR true 1 (AV.int .u64) s31.2.2],140⟩) kr) ?_
      refine rb [97] h (fun q37 h=>?_) (fun q37 h=>?_)
      ·refine sz 12 16 (reg_end rfl (wcT (wp_seq (wg [2] [0] (rn ?_)))))
       refine wgc [2,3] [0] ⟨[(2,.ptr 0 0 0),(3,vI 50)],[o53_6],140⟩ ?_
       refine wp_ret ?_
       cases h
       exact ⟨kr,rfl⟩
      refine sz 4 8 ?_
      refine lenL (enc:=eTapi_Node) (l:=p0.Nodes) (fl:=false) kr gE ?_
      refine sz 3 12 (rwg [2,4,8,9,80,81,82,88,89,90,12,105] [0,1,2,3,4] ?_)
      refine rb [105] h (fun q39 h=>?_) (fun q39 h=>?_)
      ·refine sz 4 16 (reg_end rfl (wcT (wp_seq (wg [2] [0] (rn ?_)))))
       refine wgc [2,3] [0] ⟨[(2,.ptr 0 0 0),(3,vI 50)],[o53_6],140⟩ ?_
       refine wp_ret ?_
       cases h
       exact ⟨kr,rfl⟩
      refine sz 4 16 (reg_end rfl ?_)
      refine wbz h (fun q41 h=>?_) (fun q41 h=>?_)
      ·refine wp_seq (wg [2] [0] (rn ?_))
       refine wgc [2,3] [0] ⟨[(2,.ptr 0 0 0),(3,vI 50)],[o53_6],140⟩ ?_
       refine wp_ret ?_
       cases h
       exact ⟨kr,rfl⟩
      refine wp_skip (wp_seq ?_)
      refine wgc [2,4,8,9,80,81,82,88,89,90,12] [0,1,2,3,4] ⟨(s53_62 s26 p0 a29 s31 a34),[o53_6,oX false false 5 (.agg [vI p0.Grain,eL false eTapi_Node p0.Nodes,.ref 3 0 x23.2.length,.ref 4 0 s31.2.2.length,.nils]),(o53_7 a29),oR true 1 eI x23.2,oR true 1 (AV.int .u64) s31.2.2],140⟩ ?_
      refine rn (rga hfol (sy 3 3 ?_))
      refine bind_elim h (fun a42 q43 h=>?_)
      refine idxR' (enc:=(AV.int .u64)) (l:=s31.2.2) (n:=s26.1) (w:=1) (ob:=4) (ro:=false) (nr:=true) (fl:=true) (a:=a42) kr kr gE q43 ?_
      refine loadR (enc:=(AV.int .u64)) (l:=s31.2.2) (n:=s26.1) (w:=1) (ob:=4) (c:=0) (bx:=false) (ro:=false) (nr:=true) (fl:=true) (a:=a42) kr kr q43 gE ?_
      refine sy 1 6 ?_
      refine shlR (k:=.u64) (k':=.i64) (a:=1) (b:=a34) kr gE h (fun h=>?_)
      refine sy 1 8 ?_
      refine idxR' (enc:=(AV.int .u64)) (l:=s31.2.2) (n:=s26.1) (w:=1) (ob:=4) (ro:=false) (nr:=true) (fl:=true) (a:=a42) kr kr gE q43 ?_
      refine storeR (enc:=(AV.int .u64)) (l:=s31.2.2) (n:=s26.1) (ob:=4) (w:=1) (bx:=false) (nr:=true) (fl:=true) (c:=0) (a:=a42) (a':=zv (BitVec.ofInt (IntKind.bits .u64) a42 ||| BitVec.ofInt (IntKind.bits .u64) (zv (1*2^min (zt a34) (IntKind.bits .u64)))).toNat) (v:=.int .u64 (zv (BitVec.ofInt (IntKind.bits .u64) a42 ||| BitVec.ofInt (IntKind.bits .u64) (zv (1*2^min (zt a34) (IntKind.bits .u64)))).toNat)) false kr kr q43 kr rfl kr gE kr ?_
      refine rknN (n:=s31.2.2.length) (m:=(List.set s31.2.2 (zt s26.1) (zv (BitVec.ofInt (IntKind.bits .u64) a42 ||| BitVec.ofInt (IntKind.bits .u64) (zv (1*2^min (zt a34) (IntKind.bits .u64)))).toNat)).length) (S:=fun n44=>⟨(s53_62 s26 p0 a29 s31 a34)++[(111,vI a34),(10,vI a34),(112,.ptr 1 0 3),(113,.ref 4 0 n44),(114,vI s26.1),(115,.ptr 4 (zt s26.1) 0),(116,.int .u64 a42),(117,vI a34),(118,.int .u64 (zv (1*2^min (zt a34) (IntKind.bits .u64)))),(119,.int .u64 (zv (BitVec.ofInt (IntKind.bits .u64) a42 ||| BitVec.ofInt (IntKind.bits .u64) (zv (1*2^min (zt a34) (IntKind.bits .u64)))).toNat)),(120,.ptr 4 (zt s26.1) 0)],[o53_6,oX false false 5 (.agg [vI p0.Grain,eL false eTapi_Node p0.Nodes,.ref 3 0 x23.2.length,.ref 4 0 n44,.nils]),(o53_7 a29),oR true 1 eI x23.2,oR true 1 (AV.int .u64) (List.set s31.2.2 (zt s26.1) (zv (BitVec.ofInt (IntKind.bits .u64) a42 ||| BitVec.ofInt (IntKind.bits .u64) (zv (1*2^min (zt a34) (IntKind.bits .u64)))).toNat))],140⟩) (by simp only [List.length_set]) ?_
      refine rgd (wg [2,4,8,9,80,81,82,88,89,90,10] [0,1,2,3,4] (rn ?_))
      cases h
      exact ⟨_,rfl,(wk_gc (live:=[2,4,8,9,10,80,81,82,88,89,90]) (keep:=[0,1,2,3,4]) kr)⟩
     refine wcF (wg [2,4,9,80,81,82] [0,1,2,3,4] ?_)
     refine wp_exit ?_
     cases h
     exact ⟨kr,rfl⟩
    intro x45 h out hx
    subst hx
    rcases x45 with x46 | x47
    ·dsimp only at h ⊢
     cases h
     exact ⟨kr,rfl⟩
    ·dsimp only at h ⊢
     refine wp_seq (reg_in (sz 2 2 ?_))
     refine callR (as0:=[.agg [vI p0.Grain,eL false eTapi_Node p0.Nodes,.ref 3 0 x23.2.length,.ref 4 0 x47.length,.nils],.agg [vI a29.Card,z1 a29.Parents,z2 a29.Rows]]) (us:=[.agg [vI p0.Grain,eL false eTapi_Node p0.Nodes,z1 x23.2,eL true (AV.int .u64) x47,.nils],.agg [vI a29.Card,z1 a29.Parents,z2 a29.Rows]]) (ids:=[3,4]) kr bodyB_75 (msnap_cons (snap_agg (msnap_cons rfl (msnap_cons rfl (msnap_cons (snap_full (w:=1) (bx:=false) (ro:=false) kr) (msnap_cons (snap_full (w:=1) (bx:=false) (ro:=false) kr) (msnap_cons rfl msnap_nil (by rfl)) (by rfl)) (by rfl)) (by rfl)) (by rfl))) (msnap_cons (snap_agg (msnap_cons rfl (msnap_cons rfl (msnap_cons rfl msnap_nil (by rfl)) (by rfl)) (by rfl))) msnap_nil (by rfl)) (by rfl)) (fun x48 q49=>CallOk.args [[.keep,.keep,.keep,.keep,.lst true],[.keep,.keep,.keep]] (g_net_network_filled_ok (Tnet_network.mk p0 x23.2 x47 []) a29 x48 q49)) gF h (fun x48 q49 h=>?_)
     refine sz 1 4 (reg_end rfl ?_)
     refine wbz h (fun q51 h=>?_) (fun q51 h=>?_)
     ·refine wp_seq (wg [2] [0] (rn (wg [2,3] [0] ?_)))
      refine wp_ret ?_
      cases h
      exact ⟨kr,rfl⟩
     refine wp_skip (wg [2,4,80,81,82] [0,1,3,4] (rn ?_))
     cases h
     exact ⟨_,rfl,(wk_gc (live:=[2,4,80,81,82]) (keep:=[0,1,2,3]) kr)⟩
   refine wcF (wg [2,4] [0,1,2,3] ?_)
   refine wp_exit ?_
   cases h
   exact ⟨kr,rfl⟩
  intro x52 h out hx
  subst hx
  rcases x52 with x53 | x54
  ·dsimp only at h ⊢
   cases h
   show fnOut _ _ _ _=_
   kernel_rfl
  ·dsimp only at h ⊢
   refine wp_seq (reg_in (sz 2 2 ?_))
   refine callR (as0:=[.ref 3 0 x54.length]) (ids:=[3]) kr bodyB_76 (msnap_cons (snap_full (w:=1) (bx:=false) (ro:=false) kr) msnap_nil (by rfl)) (fun x55 q56=>g_net_sorted_ok x54 x55 q56) gF h (fun x55 q56 h=>?_)
   refine sz 5 8 (reg_end rfl (wp_seq (wp_seq (wg [2,4,13,14] [0,1,4,2,3] (rn ?_)))))
   refine wb [135] h (fun q58 h=>?_) (fun q58 h=>?_)
   ·refine wcT (wp_seq ?_)
    refine wgc [2] [0] ⟨[(2,.ptr 0 0 0)],[o53_6],140⟩ ?_
    refine rn (wg [2,3] [0] ?_)
    cases h
    exact wp_ret (show fnOut _ _ _ _=_ from by kernel_rfl)
   refine wcF (wp_skip (sq (wp_seq ?_)))
   refine wgc [2,4] [0,1,3,4,2] ⟨[(2,.ptr 0 0 0),(4,.ptr 1 0 0)],[o53_6,oX false false 5 (.agg [vI p0.Grain,eL false eTapi_Node p0.Nodes,.ref 2 0 x23.2.length,.ref 3 0 x54.length,.ref 4 0 x55.1.length]),oR true 1 eI x23.2,oR true 1 (AV.int .u64) x54,oR true 1 eI x55.1],140⟩ ?_
   refine rn ?_
   refine wgc [2,3] [0,2,3,4] ⟨[(2,.ptr 0 0 0),(3,vI 0)],[oX false false 5 (.agg [vI p0.Grain,eL false eTapi_Node p0.Nodes,.ref 1 0 x23.2.length,.ref 2 0 x54.length,.ref 3 0 x55.1.length]),oR true 1 eI x23.2,oR true 1 (AV.int .u64) x54,oR true 1 eI x55.1],140⟩ ?_
   refine wp_wk (wk_snapO 0 0 (st':=⟨[(2,.ptr 0 0 0),(3,vI 0)],[oX false false 5 (.agg [vI p0.Grain,eL false eTapi_Node p0.Nodes,z1 x23.2,eL true (AV.int .u64) x54,z1 x55.1]),.row false true true true 1 (List.map eI x23.2),.row false true true true 1 (List.map (AV.int .u64) x54),.row false true true true 1 (List.map eI x55.1)],140⟩) (y:=.agg [vI p0.Grain,eL false eTapi_Node p0.Nodes,z1 x23.2,eL true (AV.int .u64) x54,z1 x55.1]) (ids:=[1,2,3]) rfl rfl rfl (snap_agg (msnap_cons rfl (msnap_cons rfl (msnap_cons (snap_full (w:=1) (bx:=false) (ro:=false) kr) (msnap_cons (snap_full (w:=1) (bx:=false) (ro:=false) kr) (msnap_cons (snap_full (w:=1) (bx:=false) (ro:=false) kr) msnap_nil (by rfl)) (by rfl)) (by rfl)) (by rfl)) (by rfl))) kr) ?_
   cases h
   exact wp_ret (show fnOut _ _ _ _=_ from by kernel_rfl)
end Go.Ab
