/- What functions compute. No conditions. -/
import Derived.Test.YtcbhkobklhkiiaaDoorEng9
set_option linter.all false
namespace Go.Ab
open Go
structure Tapi_Node where
 Card:Int
 Parents:(List Int)
 Rows:(List (List Int))
 deriving DecidableEq,Inhabited
@[reducible] def eTapi_Node (x:Tapi_Node):AV:=.agg [vI x.Card,eL true eI x.Parents,eL false (eL true eI) x.Rows]
@[reducible] def eoTapi_Node (x:Int ⊕ Tapi_Node):AV:=match x with | .inl c=>.agg [vI c,.nils,.nils] | .inr y=>eTapi_Node y
def coTapi_Node (x:Int ⊕ Tapi_Node):Tapi_Node:=match x with | .inl c=>⟨c,[],[]⟩ | .inr y=>y
structure Qd where
 Grain:Int
 Nodes:(List Tapi_Node)
 deriving DecidableEq,Inhabited
@[reducible] def Qyi (x:Qd):AV:=.agg [vI x.Grain,eL false eTapi_Node x.Nodes]
structure Qx where
 Net:Qd
 cards:(List Int)
 sets:(List Int)
 order:(List Int)
 deriving DecidableEq,Inhabited
structure Qc where
 Cliques:(List Int)
 Up:(List Int)
 Home:(List Int)
 deriving DecidableEq,Inhabited
@[reducible] def eTapi_Tree (x:Qc):AV:=.agg [eL true (AV.int .u64) x.Cliques,eL true eI x.Up,eL true eI x.Home]
structure Ttree_graph where
 near:(List Int)
 deriving DecidableEq,Inhabited
structure Ttree_maker where
 graph:Ttree_graph
 order:(List Int)
 deriving DecidableEq,Inhabited
structure Tharuspexref10_Bend where
 What : Int
 At:Int
 N:Int
 S:Int
 deriving DecidableEq,Inhabited
@[reducible] def Qjo (x:Tharuspexref10_Bend):AV:=.agg [.int .u8 x.What,.int .u8 x.At,vI x.N,.int .u64 x.S]
structure Tharuspexref02_Draft where
 C:(List Int)
 Which:Int
 Order:(List Int)
 deriving DecidableEq,Inhabited
structure Qu where
 Card:Int
 Parents:Int
 W:(List Int)
 deriving DecidableEq,Inhabited
@[reducible] def eTharuspexref05_Piece (x:Qu):AV:=.agg [.int .u8 x.Card,.int .u8 x.Parents,eL true (AV.int .u8) x.W]
structure Qf where
 Grain:Int
 Nodes:(List Qu)
 Order:(List Int)
 deriving DecidableEq,Inhabited
@[reducible] def eTharuspexref05_Draft (x:Qf):AV:=.agg [.int .u8 x.Grain,eL false eTharuspexref05_Piece x.Nodes,eL true (AV.int .u8) x.Order]
structure Q8 where
 What : Int
 At:Int
 Row:Int
 N:Int
 deriving DecidableEq,Inhabited
@[reducible] def eTharuspexref05_Bend (x:Q8):AV:=.agg [.int .u8 x.What,.int .u8 x.At,.int .u8 x.Row,vI x.N]
def Y7 (p1:Tapi_Node) (p0:Qx) (s1:(Int × Int)):Option (Qi (Int × Int) Int) :=
 if (decide (s1.2 < (p1.Parents.length:Int)))=true then
  (lkI p1.Parents s1.2).bind fun a4 =>
  (lkI p0.cards a4).bind fun a6 =>
  some (.next (zw (s1.1*a6),zw (s1.2+1)))
 else
 some (.done s1.1)
def Zt (a15:(List Int)) (s17:(Int × Int)):Option (Qi (Int × Int) (Unit ⊕ Int)) :=
 if (decide (s17.2 < (a15.length:Int)))=true then
  (lkI a15 s17.2).bind fun a20 =>
  if (decide (a20 < 0))=true then
   some (.done (Sum.inl ()))
  else
  if (decide (a20 > s17.1))=true then
   some (.done (Sum.inl ()))
  else
  some (.next (zw (s17.1 - a20),zw (s17.2+1)))
 else
 some (.done (Sum.inr s17.1))
def X1 (p1:Tapi_Node) (p0:Qx) (s12:Int):Option (Qi Int (Unit ⊕ Unit)) :=
 if (decide (s12 < (p1.Rows.length:Int)))=true then
  (lkI p1.Rows s12).bind fun a15 =>
  (Qa fuel (Zt a15) (p0.Net.Grain,0)).bind fun x26=>match x26 with
  | .inl x27=>(
   some (.done (Sum.inl ())))
  | .inr x28=>(
   if ((a15.length:Int) != p1.Card)=true then
    some (.done (Sum.inl ()))
   else
   if (x28 != 0)=true then
    some (.done (Sum.inl ()))
   else
   some (.next (zw (s12+1))))
 else
 some (.done (Sum.inr ()))
def Xx (p0:Qx) (p1:Tapi_Node):Option Bool :=
 (Qa fuel (Y7 p1 p0) (1,0)).bind fun x9 =>
 if ((p1.Rows.length:Int) != x9)=true then
  some false
 else
 (Qa fuel (X1 p1 p0) 0).bind fun x33=>match x33 with
 | .inl x34=>(
  some false)
 | .inr x35=>(
  some true)
def Vw (p0:(List Int)) (s1:(Int × (List Int))) (s4:Int):Option (Qi Int ((Int × (List Int)) ⊕ Unit)) :=
 if (decide (s4 < (p0.length:Int)))=true then
  (lkI p0 s4).bind fun a7 =>
  if 0≤s4 then
   if ((zv (zb (Int.fdiv s1.1 (2^min (Int.toNat s4) (IntKind.bits .u64))) &&& zb 1).toNat)==0)=true then
    if ((zv (zb a7 &&& ~~~ zb s1.1).toNat)==0)=true then
     if (s1.2++([s4]:(List Int))).length*8≤140737488355328 then
      if 0≤s4 then
       some (.done (Sum.inl (zv (zb s1.1 ||| zb (zv (1*2^min (Int.toNat s4) (IntKind.bits .u64)))).toNat,(s1.2++([s4]:(List Int))))))
      else none
     else none
    else
    some (.next (zw (s4+1)))
   else
   some (.next (zw (s4+1)))
  else none
 else
 some (.done (Sum.inr ()))
def Xf (p0:(List Int)) (s1:(Int × (List Int))):Option (Qi (Int × (List Int)) (Unit ⊕ (List Int))) :=
 if (decide ((s1.2.length:Int) < (p0.length:Int)))=true then
  (Qa fuel (Vw p0 s1) 0).bind fun x13=>match x13 with
  | .inl x14=>(
   some (.next (x14.1,x14.2)))
  | .inr x15=>(
   some (.done (Sum.inl ())))
 else
 some (.done (Sum.inr s1.2))
def X8 (p0:(List Int)):Option ((List Int) × Bool) :=
 if 0≤(0:Int)∧(0:Int)≤(p0.length:Int)∧(p0.length:Int)*8≤140737488355328 then
  (Qa fuel (Xf p0) (0,(List.replicate (Int.toNat 0) (0:Int)))).bind fun x16=>match x16 with
  | .inl x17=>(
   some (([]:(List Int)),false))
  | .inr x18=>(
   some (x18,true))
 else none
def X9 (p0:Qd) (s9:(Int × Int × (List Int))):Option (Qi (Int × Int × (List Int)) (Unit ⊕ (Int × (List Int)))) :=
 if (decide (s9.2.1 < (p0.Nodes.length:Int)))=true then
  (lkI p0.Nodes s9.2.1).bind fun a12 =>
  if (decide (a12.Card < 1))=true then
   some (.done (Sum.inl ()))
  else
  if (decide (a12.Card > 4))=true then
   some (.done (Sum.inl ()))
  else
  (lkI s9.2.2 s9.2.1).bind fun a18 =>
  some (.next (zw (s9.1*a12.Card),zw (s9.2.1+1),(List.set s9.2.2 (Int.toNat s9.2.1) a12.Card)))
 else
 some (.done (Sum.inr (s9.1,s9.2.2)))
def Vx (a29:Tapi_Node) (p0:Qd) (s26:(Int × (List Int))) (s31:(Int × Int × (List Int))):Option (Qi (Int × Int × (List Int)) (Unit ⊕ (List Int))) :=
 if (decide (s31.2.1 < (a29.Parents.length:Int)))=true then
  (lkI a29.Parents s31.2.1).bind fun a34 =>
  if (decide (a34≤s31.1))=true then
   some (.done (Sum.inl ()))
  else
  if (decide (a34≥(p0.Nodes.length:Int)))=true then
   some (.done (Sum.inl ()))
  else
  if (a34==s26.1)=true then
   some (.done (Sum.inl ()))
  else
  (lkI s31.2.2 s26.1).bind fun a42 =>
  if 0≤a34 then
   some (.next (a34,zw (s31.2.1+1),(List.set s31.2.2 (Int.toNat s26.1) (zv (zb a42 ||| zb (zv (1*2^min (Int.toNat a34) (IntKind.bits .u64)))).toNat))))
  else none
 else
 some (.done (Sum.inr s31.2.2))
def Ya (p0:Qd) (x23:(Int × (List Int))) (s26:(Int × (List Int))):Option (Qi (Int × (List Int)) (Unit ⊕ (List Int))) :=
 if (decide (s26.1 < (p0.Nodes.length:Int)))=true then
  (lkI p0.Nodes s26.1).bind fun a29 =>
  (Qa fuel (Vx a29 p0 s26) (-1,0,s26.2)).bind fun x45=>match x45 with
  | .inl x46=>(
   some (.done (Sum.inl ())))
  | .inr x47=>(
   (Xx (Qx.mk p0 x23.2 x47 []) a29).bind fun x48 =>
   if (!x48)=true then
    some (.done (Sum.inl ()))
   else
   some (.next (zw (s26.1+1),x47)))
 else
 some (.done (Sum.inr s26.2))
def Kq (p0:Qd):Option (Qx × Int) :=
 if (decide (p0.Grain < 1))=true then
  some ((Qx.mk (Qd.mk 0 []) [] [] []),50)
 else
 if (decide (p0.Grain > 60))=true then
  some ((Qx.mk (Qd.mk 0 []) [] [] []),50)
 else
 if (decide ((p0.Nodes.length:Int) < 1))=true then
  some ((Qx.mk (Qd.mk 0 []) [] [] []),50)
 else
 if (decide ((p0.Nodes.length:Int) > 8))=true then
  some ((Qx.mk (Qd.mk 0 []) [] [] []),50)
 else
 if 0≤(p0.Nodes.length:Int)∧(p0.Nodes.length:Int)≤(p0.Nodes.length:Int)∧(p0.Nodes.length:Int)*8≤140737488355328 then
  if 0≤(p0.Nodes.length:Int)∧(p0.Nodes.length:Int)≤(p0.Nodes.length:Int)∧(p0.Nodes.length:Int)*8≤140737488355328 then
   (Qa fuel (X9 p0) (1,0,(List.replicate (Int.toNat (p0.Nodes.length:Int)) (0:Int)))).bind fun x21=>match x21 with
   | .inl x22=>(
    some ((Qx.mk (Qd.mk 0 []) [] [] []),50))
   | .inr x23=>(
    if (decide (x23.1 > 1024))=true then
     some ((Qx.mk (Qd.mk 0 []) [] [] []),50)
    else
    (Qa fuel (Ya p0 x23) (0,(List.replicate (Int.toNat (p0.Nodes.length:Int)) (0:Int)))).bind fun x52=>match x52 with
    | .inl x53=>(
     some ((Qx.mk (Qd.mk 0 []) [] [] []),50))
    | .inr x54=>(
     (X8 x54).bind fun x55 =>
     if (!x55.2)=true then
      some ((Qx.mk (Qd.mk 0 []) [] [] []),50)
     else
     some ((Qx.mk p0 x23.2 x54 x55.1),0)))
  else none
 else none
def Qb0 (p0:Qd) (s9:(Int × Int × (List Int))):Option (Qi (Int × Int × (List Int)) (Unit ⊕ (Int × (List Int)))) :=
 if (decide (s9.2.1 < (p0.Nodes.length:Int)))=true then
  (lkI p0.Nodes s9.2.1).bind fun a12 =>
  if (decide (a12.Card < 1))=true then
   some (.done (Sum.inl ()))
  else
  if (decide (a12.Card > 4))=true then
   some (.done (Sum.inl ()))
  else
  (lkI s9.2.2 s9.2.1).bind fun a18 =>
  some (.next (zw (s9.1*a12.Card),zw (s9.2.1+1),(List.set s9.2.2 (Int.toNat s9.2.1) a12.Card)))
 else
 some (.done (Sum.inr (s9.1,s9.2.2)))
def Qh6 (a29:Tapi_Node) (p0:Qd) (s26:(Int × (List Int))) (s31:(Int × Int × (List Int))):Option (Qi (Int × Int × (List Int)) (Unit ⊕ (List Int))) :=
 if (decide (s31.2.1 < (a29.Parents.length:Int)))=true then
  (lkI a29.Parents s31.2.1).bind fun a34 =>
  if (decide (a34≤s31.1))=true then
   some (.done (Sum.inl ()))
  else
  if (decide (a34≥(p0.Nodes.length:Int)))=true then
   some (.done (Sum.inl ()))
  else
  if (a34==s26.1)=true then
   some (.done (Sum.inl ()))
  else
  (lkI s31.2.2 s26.1).bind fun a42 =>
  if 0≤a34 then
   some (.next (a34,zw (s31.2.1+1),(List.set s31.2.2 (Int.toNat s26.1) (zv (zb a42 ||| zb (zv (1*2^min (Int.toNat a34) (IntKind.bits .u64)))).toNat))))
  else none
 else
 some (.done (Sum.inr s31.2.2))
def Qb1 (p0:Qd) (x23:(Int × (List Int))) (s26:(Int × (List Int))):Option (Qi (Int × (List Int)) (Unit ⊕ (List Int))) :=
 if (decide (s26.1 < (p0.Nodes.length:Int)))=true then
  (lkI p0.Nodes s26.1).bind fun a29 =>
  (Qa fuel (Qh6 a29 p0 s26) (-1,0,s26.2)).bind fun x45=>match x45 with
  | .inl x46=>(
   some (.done (Sum.inl ())))
  | .inr x47=>(
   (Xx (Qx.mk p0 x23.2 x47 []) a29).bind fun x48 =>
   if (!x48)=true then
    some (.done (Sum.inl ()))
   else
   some (.next (zw (s26.1+1),x47)))
 else
 some (.done (Sum.inr s26.2))
def X7 (x54:(List Int)) (s59:(Int × (List Int))):Option (Qi (Int × (List Int)) (List Int)) :=
 if (decide (s59.1 < (x54.length:Int)))=true then
  (lkI s59.2 s59.1).bind fun a62 =>
  if 0≤s59.1 then
   some (.next (zw (s59.1+1),(List.set s59.2 (Int.toNat s59.1) (zv (zb a62 ||| zb (zv (1*2^min (Int.toNat s59.1) (IntKind.bits .u64)))).toNat))))
  else none
 else
 some (.done s59.2)
def Z1 (p0:Qd):Option ((List Int) × Int) :=
 if (decide (p0.Grain < 1))=true then
  some (([]:(List Int)),50)
 else
 if (decide (p0.Grain > 60))=true then
  some (([]:(List Int)),50)
 else
 if (decide ((p0.Nodes.length:Int) < 1))=true then
  some (([]:(List Int)),50)
 else
 if (decide ((p0.Nodes.length:Int) > 8))=true then
  some (([]:(List Int)),50)
 else
 if 0≤(p0.Nodes.length:Int)∧(p0.Nodes.length:Int)≤(p0.Nodes.length:Int)∧(p0.Nodes.length:Int)*8≤140737488355328 then
  if 0≤(p0.Nodes.length:Int)∧(p0.Nodes.length:Int)≤(p0.Nodes.length:Int)∧(p0.Nodes.length:Int)*8≤140737488355328 then
   (Qa fuel (Qb0 p0) (1,0,(List.replicate (Int.toNat (p0.Nodes.length:Int)) (0:Int)))).bind fun x21=>match x21 with
   | .inl x22=>(
    some (([]:(List Int)),50))
   | .inr x23=>(
    if (decide (x23.1 > 1024))=true then
     some (([]:(List Int)),50)
    else
    (Qa fuel (Qb1 p0 x23) (0,(List.replicate (Int.toNat (p0.Nodes.length:Int)) (0:Int)))).bind fun x52=>match x52 with
    | .inl x53=>(
     some (([]:(List Int)),50))
    | .inr x54=>(
     (X8 x54).bind fun x55 =>
     if (!x55.2)=true then
      some (([]:(List Int)),50)
     else
     (Qa fuel (X7 x54) (0,x54)).bind fun x66 =>
     some (x66,0)))
  else none
 else none
def Y0 (p1:Qc) (x1:((List Int) × Int)) (s13:(Int × Int)):Option (Qi (Int × Int) (Unit ⊕ Unit)) :=
 if (decide (s13.2 < (p1.Cliques.length:Int)))=true then
  (lkI p1.Cliques s13.2).bind fun a16 =>
  if (a16==0)=true then
   some (.done (Sum.inl ()))
  else
  if 0≤(x1.1.length:Int) then
   if ((Int.fdiv a16 (2^min (Int.toNat (x1.1.length:Int)) (IntKind.bits .u64))) != 0)=true then
    some (.done (Sum.inl ()))
   else
   (lkI p1.Up s13.2).bind fun a22 =>
   if (s13.2==0)=true then
    if (a22 != (-1))=true then
     some (.done (Sum.inl ()))
    else
    some (.next (zv (zb s13.1 ||| zb a16).toNat,zw (s13.2+1)))
   else
   if (decide (a22 < 0))=true then
    some (.done (Sum.inl ()))
   else
   if (decide (a22≥s13.2))=true then
    some (.done (Sum.inl ()))
   else
   (lkI p1.Cliques a22).bind fun a32 =>
   if ((zv (zb (zv (zb a16 &&& zb s13.1).toNat) &&& ~~~ zb a32).toNat) != 0)=true then
    some (.done (Sum.inl ()))
   else
   some (.next (zv (zb s13.1 ||| zb a16).toNat,zw (s13.2+1)))
  else none
 else
 some (.done (Sum.inr ()))
def Y5 (p1:Qc) (x1:((List Int) × Int)) (s39:Int):Option (Qi Int (Unit ⊕ Unit)) :=
 if (decide (s39 < (p1.Home.length:Int)))=true then
  (lkI p1.Home s39).bind fun a42 =>
  if (decide (a42 < 0))=true then
   some (.done (Sum.inl ()))
  else
  if (decide (a42≥(p1.Cliques.length:Int)))=true then
   some (.done (Sum.inl ()))
  else
  (lkI x1.1 s39).bind fun a48 =>
  (lkI p1.Cliques a42).bind fun a50 =>
  if ((zv (zb a48 &&& ~~~ zb a50).toNat) != 0)=true then
   some (.done (Sum.inl ()))
  else
  some (.next (zw (s39+1)))
 else
 some (.done (Sum.inr ()))
def Z6 (p0:Qd) (p1:Qc):Option Int :=
 (Z1 p0).bind fun x1 =>
 if (x1.2 != 0)=true then
  some x1.2
 else
 if (decide ((p1.Cliques.length:Int) < 1))=true then
  some 100
 else
 if (decide ((p1.Cliques.length:Int) > 8))=true then
  some 100
 else
 if ((p1.Up.length:Int) != (p1.Cliques.length:Int))=true then
  some 100
 else
 if ((p1.Home.length:Int) != (x1.1.length:Int))=true then
  some 100
 else
 (Qa fuel (Y0 p1 x1) (0,0)).bind fun x36=>match x36 with
 | .inl x37=>(
  some 100)
 | .inr x38=>(
  (Qa fuel (Y5 p1 x1) 0).bind fun x54=>match x54 with
  | .inl x55=>(
   some 100)
  | .inr x56=>(
   some 0))
def Qbr (p0:Int):Option Int :=
 some (zw (BitVec.ofInt (IntKind.bits .i64) (zw (zv ((zv ((zv ((zv (zb (zv ((Int.fdiv (zv ((zv (zb (Int.fdiv (zv ((zv (zb (Int.fdiv p0 (2^min (Int.toNat 1) (IntKind.bits .u64))) &&& zb 6148914691236517205).toNat)+(zv (zb p0 &&& zb 6148914691236517205).toNat))) (2^min (Int.toNat 2) (IntKind.bits .u64))) &&& zb 3689348814741910323).toNat)+(zv (zb (zv ((zv (zb (Int.fdiv p0 (2^min (Int.toNat 1) (IntKind.bits .u64))) &&& zb 6148914691236517205).toNat)+(zv (zb p0 &&& zb 6148914691236517205).toNat))) &&& zb 3689348814741910323).toNat))) (2^min (Int.toNat 4) (IntKind.bits .u64)))+(zv ((zv (zb (Int.fdiv (zv ((zv (zb (Int.fdiv p0 (2^min (Int.toNat 1) (IntKind.bits .u64))) &&& zb 6148914691236517205).toNat)+(zv (zb p0 &&& zb 6148914691236517205).toNat))) (2^min (Int.toNat 2) (IntKind.bits .u64))) &&& zb 3689348814741910323).toNat)+(zv (zb (zv ((zv (zb (Int.fdiv p0 (2^min (Int.toNat 1) (IntKind.bits .u64))) &&& zb 6148914691236517205).toNat)+(zv (zb p0 &&& zb 6148914691236517205).toNat))) &&& zb 3689348814741910323).toNat))))) &&& zb 1085102592571150095).toNat)+(Int.fdiv (zv (zb (zv ((Int.fdiv (zv ((zv (zb (Int.fdiv (zv ((zv (zb (Int.fdiv p0 (2^min (Int.toNat 1) (IntKind.bits .u64))) &&& zb 6148914691236517205).toNat)+(zv (zb p0 &&& zb 6148914691236517205).toNat))) (2^min (Int.toNat 2) (IntKind.bits .u64))) &&& zb 3689348814741910323).toNat)+(zv (zb (zv ((zv (zb (Int.fdiv p0 (2^min (Int.toNat 1) (IntKind.bits .u64))) &&& zb 6148914691236517205).toNat)+(zv (zb p0 &&& zb 6148914691236517205).toNat))) &&& zb 3689348814741910323).toNat))) (2^min (Int.toNat 4) (IntKind.bits .u64)))+(zv ((zv (zb (Int.fdiv (zv ((zv (zb (Int.fdiv p0 (2^min (Int.toNat 1) (IntKind.bits .u64))) &&& zb 6148914691236517205).toNat)+(zv (zb p0 &&& zb 6148914691236517205).toNat))) (2^min (Int.toNat 2) (IntKind.bits .u64))) &&& zb 3689348814741910323).toNat)+(zv (zb (zv ((zv (zb (Int.fdiv p0 (2^min (Int.toNat 1) (IntKind.bits .u64))) &&& zb 6148914691236517205).toNat)+(zv (zb p0 &&& zb 6148914691236517205).toNat))) &&& zb 3689348814741910323).toNat))))) &&& zb 1085102592571150095).toNat) (2^min (Int.toNat 8) (IntKind.bits .u64)))))+(Int.fdiv (zv ((zv (zb (zv ((Int.fdiv (zv ((zv (zb (Int.fdiv (zv ((zv (zb (Int.fdiv p0 (2^min (Int.toNat 1) (IntKind.bits .u64))) &&& zb 6148914691236517205).toNat)+(zv (zb p0 &&& zb 6148914691236517205).toNat))) (2^min (Int.toNat 2) (IntKind.bits .u64))) &&& zb 3689348814741910323).toNat)+(zv (zb (zv ((zv (zb (Int.fdiv p0 (2^min (Int.toNat 1) (IntKind.bits .u64))) &&& zb 6148914691236517205).toNat)+(zv (zb p0 &&& zb 6148914691236517205).toNat))) &&& zb 3689348814741910323).toNat))) (2^min (Int.toNat 4) (IntKind.bits .u64)))+(zv ((zv (zb (Int.fdiv (zv ((zv (zb (Int.fdiv p0 (2^min (Int.toNat 1) (IntKind.bits .u64))) &&& zb 6148914691236517205).toNat)+(zv (zb p0 &&& zb 6148914691236517205).toNat))) (2^min (Int.toNat 2) (IntKind.bits .u64))) &&& zb 3689348814741910323).toNat)+(zv (zb (zv ((zv (zb (Int.fdiv p0 (2^min (Int.toNat 1) (IntKind.bits .u64))) &&& zb 6148914691236517205).toNat)+(zv (zb p0 &&& zb 6148914691236517205).toNat))) &&& zb 3689348814741910323).toNat))))) &&& zb 1085102592571150095).toNat)+(Int.fdiv (zv (zb (zv ((Int.fdiv (zv ((zv (zb (Int.fdiv (zv ((zv (zb (Int.fdiv p0 (2^min (Int.toNat 1) (IntKind.bits .u64))) &&& zb 6148914691236517205).toNat)+(zv (zb p0 &&& zb 6148914691236517205).toNat))) (2^min (Int.toNat 2) (IntKind.bits .u64))) &&& zb 3689348814741910323).toNat)+(zv (zb (zv ((zv (zb (Int.fdiv p0 (2^min (Int.toNat 1) (IntKind.bits .u64))) &&& zb 6148914691236517205).toNat)+(zv (zb p0 &&& zb 6148914691236517205).toNat))) &&& zb 3689348814741910323).toNat))) (2^min (Int.toNat 4) (IntKind.bits .u64)))+(zv ((zv (zb (Int.fdiv (zv ((zv (zb (Int.fdiv p0 (2^min (Int.toNat 1) (IntKind.bits .u64))) &&& zb 6148914691236517205).toNat)+(zv (zb p0 &&& zb 6148914691236517205).toNat))) (2^min (Int.toNat 2) (IntKind.bits .u64))) &&& zb 3689348814741910323).toNat)+(zv (zb (zv ((zv (zb (Int.fdiv p0 (2^min (Int.toNat 1) (IntKind.bits .u64))) &&& zb 6148914691236517205).toNat)+(zv (zb p0 &&& zb 6148914691236517205).toNat))) &&& zb 3689348814741910323).toNat))))) &&& zb 1085102592571150095).toNat) (2^min (Int.toNat 8) (IntKind.bits .u64))))) (2^min (Int.toNat 16) (IntKind.bits .u64)))))+(Int.fdiv (zv ((zv ((zv (zb (zv ((Int.fdiv (zv ((zv (zb (Int.fdiv (zv ((zv (zb (Int.fdiv p0 (2^min (Int.toNat 1) (IntKind.bits .u64))) &&& zb 6148914691236517205).toNat)+(zv (zb p0 &&& zb 6148914691236517205).toNat))) (2^min (Int.toNat 2) (IntKind.bits .u64))) &&& zb 3689348814741910323).toNat)+(zv (zb (zv ((zv (zb (Int.fdiv p0 (2^min (Int.toNat 1) (IntKind.bits .u64))) &&& zb 6148914691236517205).toNat)+(zv (zb p0 &&& zb 6148914691236517205).toNat))) &&& zb 3689348814741910323).toNat))) (2^min (Int.toNat 4) (IntKind.bits .u64)))+(zv ((zv (zb (Int.fdiv (zv ((zv (zb (Int.fdiv p0 (2^min (Int.toNat 1) (IntKind.bits .u64))) &&& zb 6148914691236517205).toNat)+(zv (zb p0 &&& zb 6148914691236517205).toNat))) (2^min (Int.toNat 2) (IntKind.bits .u64))) &&& zb 3689348814741910323).toNat)+(zv (zb (zv ((zv (zb (Int.fdiv p0 (2^min (Int.toNat 1) (IntKind.bits .u64))) &&& zb 6148914691236517205).toNat)+(zv (zb p0 &&& zb 6148914691236517205).toNat))) &&& zb 3689348814741910323).toNat))))) &&& zb 1085102592571150095).toNat)+(Int.fdiv (zv (zb (zv ((Int.fdiv (zv ((zv (zb (Int.fdiv (zv ((zv (zb (Int.fdiv p0 (2^min (Int.toNat 1) (IntKind.bits .u64))) &&& zb 6148914691236517205).toNat)+(zv (zb p0 &&& zb 6148914691236517205).toNat))) (2^min (Int.toNat 2) (IntKind.bits .u64))) &&& zb 3689348814741910323).toNat)+(zv (zb (zv ((zv (zb (Int.fdiv p0 (2^min (Int.toNat 1) (IntKind.bits .u64))) &&& zb 6148914691236517205).toNat)+(zv (zb p0 &&& zb 6148914691236517205).toNat))) &&& zb 3689348814741910323).toNat))) (2^min (Int.toNat 4) (IntKind.bits .u64)))+(zv ((zv (zb (Int.fdiv (zv ((zv (zb (Int.fdiv p0 (2^min (Int.toNat 1) (IntKind.bits .u64))) &&& zb 6148914691236517205).toNat)+(zv (zb p0 &&& zb 6148914691236517205).toNat))) (2^min (Int.toNat 2) (IntKind.bits .u64))) &&& zb 3689348814741910323).toNat)+(zv (zb (zv ((zv (zb (Int.fdiv p0 (2^min (Int.toNat 1) (IntKind.bits .u64))) &&& zb 6148914691236517205).toNat)+(zv (zb p0 &&& zb 6148914691236517205).toNat))) &&& zb 3689348814741910323).toNat))))) &&& zb 1085102592571150095).toNat) (2^min (Int.toNat 8) (IntKind.bits .u64)))))+(Int.fdiv (zv ((zv (zb (zv ((Int.fdiv (zv ((zv (zb (Int.fdiv (zv ((zv (zb (Int.fdiv p0 (2^min (Int.toNat 1) (IntKind.bits .u64))) &&& zb 6148914691236517205).toNat)+(zv (zb p0 &&& zb 6148914691236517205).toNat))) (2^min (Int.toNat 2) (IntKind.bits .u64))) &&& zb 3689348814741910323).toNat)+(zv (zb (zv ((zv (zb (Int.fdiv p0 (2^min (Int.toNat 1) (IntKind.bits .u64))) &&& zb 6148914691236517205).toNat)+(zv (zb p0 &&& zb 6148914691236517205).toNat))) &&& zb 3689348814741910323).toNat))) (2^min (Int.toNat 4) (IntKind.bits .u64)))+(zv ((zv (zb (Int.fdiv (zv ((zv (zb (Int.fdiv p0 (2^min (Int.toNat 1) (IntKind.bits .u64))) &&& zb 6148914691236517205).toNat)+(zv (zb p0 &&& zb 6148914691236517205).toNat))) (2^min (Int.toNat 2) (IntKind.bits .u64))) &&& zb 3689348814741910323).toNat)+(zv (zb (zv ((zv (zb (Int.fdiv p0 (2^min (Int.toNat 1) (IntKind.bits .u64))) &&& zb 6148914691236517205).toNat)+(zv (zb p0 &&& zb 6148914691236517205).toNat))) &&& zb 3689348814741910323).toNat))))) &&& zb 1085102592571150095).toNat)+(Int.fdiv (zv (zb (zv ((Int.fdiv (zv ((zv (zb (Int.fdiv (zv ((zv (zb (Int.fdiv p0 (2^min (Int.toNat 1) (IntKind.bits .u64))) &&& zb 6148914691236517205).toNat)+(zv (zb p0 &&& zb 6148914691236517205).toNat))) (2^min (Int.toNat 2) (IntKind.bits .u64))) &&& zb 3689348814741910323).toNat)+(zv (zb (zv ((zv (zb (Int.fdiv p0 (2^min (Int.toNat 1) (IntKind.bits .u64))) &&& zb 6148914691236517205).toNat)+(zv (zb p0 &&& zb 6148914691236517205).toNat))) &&& zb 3689348814741910323).toNat))) (2^min (Int.toNat 4) (IntKind.bits .u64)))+(zv ((zv (zb (Int.fdiv (zv ((zv (zb (Int.fdiv p0 (2^min (Int.toNat 1) (IntKind.bits .u64))) &&& zb 6148914691236517205).toNat)+(zv (zb p0 &&& zb 6148914691236517205).toNat))) (2^min (Int.toNat 2) (IntKind.bits .u64))) &&& zb 3689348814741910323).toNat)+(zv (zb (zv ((zv (zb (Int.fdiv p0 (2^min (Int.toNat 1) (IntKind.bits .u64))) &&& zb 6148914691236517205).toNat)+(zv (zb p0 &&& zb 6148914691236517205).toNat))) &&& zb 3689348814741910323).toNat))))) &&& zb 1085102592571150095).toNat) (2^min (Int.toNat 8) (IntKind.bits .u64))))) (2^min (Int.toNat 16) (IntKind.bits .u64))))) (2^min (Int.toNat 32) (IntKind.bits .u64)))))) &&& BitVec.ofInt (IntKind.bits .i64) 127).toNat)
def Zq (p0:Int):Option Int :=
 (Qbr p0).bind fun x1 =>
 some x1
def J6 (p1:Qc) (s5:(Int × Int)):Option (Qi (Int × Int) Int) :=
 if (decide (s5.2 < (p1.Cliques.length:Int)))=true then
  (lkI p1.Cliques s5.2).bind fun a8 =>
  (Zq a8).bind fun x10 =>
  some (.next ((if x10 > s5.1 then x10 else s5.1),zw (s5.2+1)))
 else
 some (.done s5.1)
def Jd (p0:Qd) (p1:Qc):Option (Int × Int) :=
 (Z6 p0 p1).bind fun x1 =>
 if (x1 != 0)=true then
  some (0,x1)
 else
 (Qa fuel (J6 p1) (0,0)).bind fun x13 =>
 some (zw (x13 - 1),0)
def Zg (p0:Qd) (p1:Qc) (p2:Int):Option (Int × Int) :=
 (Z6 p0 p1).bind fun x1 =>
 if (x1 != 0)=true then
  some (0,x1)
 else
 if (decide (p2 < 1))=true then
  some (0,2)
 else
 if (decide (p2≥(p1.Cliques.length:Int)))=true then
  some (0,2)
 else
 (lkI p1.Cliques p2).bind fun a9 =>
 (lkI p1.Up p2).bind fun a11 =>
 (lkI p1.Cliques a11).bind fun a13 =>
 some (zv (zb a9 &&& zb a13).toNat,0)
def Qht (s1:(Int × (List Int))) (a4:Int) (s6:(Int × (List Int))):Option (Qi (Int × (List Int)) (List Int)) :=
 if (decide (s6.1 < (s1.2.length:Int)))=true then
  if 0≤s6.1 then
   if ((zv (zb (Int.fdiv (zv (zb a4 ||| zb (zv (1*2^min (Int.toNat s1.1) (IntKind.bits .u64)))).toNat) (2^min (Int.toNat s6.1) (IntKind.bits .u64))) &&& zb 1).toNat)==1)=true then
    (lkI s6.2 s6.1).bind fun a11 =>
    if 0≤s6.1 then
     some (.next (zw (s6.1+1),(List.set s6.2 (Int.toNat s6.1) (zv (zb a11 ||| zb (zv (zb (zv (zb a4 ||| zb (zv (1*2^min (Int.toNat s1.1) (IntKind.bits .u64)))).toNat) &&& ~~~ zb (zv (1*2^min (Int.toNat s6.1) (IntKind.bits .u64)))).toNat)).toNat))))
    else none
   else
   some (.next (zw (s6.1+1),s6.2))
  else none
 else
 some (.done s6.2)
def Qhv (p0:Qx) (s1:(Int × (List Int))):Option (Qi (Int × (List Int)) (List Int)) :=
 if (decide (s1.1 < (p0.sets.length:Int)))=true then
  (lkI p0.sets s1.1).bind fun a4 =>
  if 0≤s1.1 then
   (Qa fuel (Qht s1 a4) (0,s1.2)).bind fun x15 =>
   some (.next (zw (s1.1+1),x15))
  else none
 else
 some (.done s1.2)
def Qdw (p0:Qx):Option (List Int) :=
 if 0≤(p0.sets.length:Int)∧(p0.sets.length:Int)≤(p0.sets.length:Int)∧(p0.sets.length:Int)*8≤140737488355328 then
  (Qa fuel (Qhv p0) (0,(List.replicate (Int.toNat (p0.sets.length:Int)) (0:Int)))).bind fun x17 =>
  some x17
 else none
def Qhr (p0:Qd):Option ((List Int) × Int) :=
 (Kq p0).bind fun x1 =>
 if (x1.2 != 0)=true then
  some (([]:(List Int)),x1.2)
 else
 (Qdw x1.1).bind fun x5 =>
 some (x5,0)
def Qaa (c0:Int) (d0:(List Int)):Option (List Int) :=
 if (c0::d0).length*8≤140737488355328 then
  some (c0::d0)
 else none
def Vy  : Option (List Int) :=
 some ([]:(List Int))
def Vz  : Option (List Int) :=
 some ([]:(List Int))
def Z4 (p0:(List Int)):Option (List Int) :=
 match p0 with
 | []=>(Vz).bind fun x=>(Vy).bind fun y=>if x=y then some x else none
 | c0::d0=>Qaa c0 d0
def Qgy (s3:(Int × Int × (List Int) × (List Int))) (a8:Int) (a6:Int) (s10:Int):Option (Qi Int (Unit ⊕ Unit)) :=
 if (decide (s10 < (s3.2.2.1.length:Int)))=true then
  (lkI s3.2.2.1 s10).bind fun a13 =>
  if ((zv (zb (zv (zb (zv (zb a8 &&& zb s3.1).toNat) ||| zb (zv (1*2^min (Int.toNat a6) (IntKind.bits .u64)))).toNat) &&& ~~~ zb a13).toNat)==0)=true then
   some (.done (Sum.inl ()))
  else
  some (.next (zw (s10+1)))
 else
 some (.done (Sum.inr ()))
def Qg0 (s3:(Int × Int × (List Int) × (List Int))) (a8:Int) (a6:Int) (s19:(Int × (List Int))):Option (Qi (Int × (List Int)) (List Int)) :=
 if (decide (s19.1 < (s3.2.2.2.length:Int)))=true then
  if 0≤s19.1 then
   if ((zv (zb (Int.fdiv (zv (zb (zv (zb a8 &&& zb s3.1).toNat) ||| zb (zv (1*2^min (Int.toNat a6) (IntKind.bits .u64)))).toNat) (2^min (Int.toNat s19.1) (IntKind.bits .u64))) &&& zb 1).toNat)==1)=true then
    (lkI s19.2 s19.1).bind fun a24 =>
    if 0≤s19.1 then
     some (.next (zw (s19.1+1),(List.set s19.2 (Int.toNat s19.1) (zv (zb a24 ||| zb (zv (zb (zv (zb (zv (zb a8 &&& zb s3.1).toNat) ||| zb (zv (1*2^min (Int.toNat a6) (IntKind.bits .u64)))).toNat) &&& ~~~ zb (zv (1*2^min (Int.toNat s19.1) (IntKind.bits .u64)))).toNat)).toNat))))
    else none
   else
   some (.next (zw (s19.1+1),s19.2))
  else none
 else
 some (.done s19.2)
def Qgz (s3:(Int × Int × (List Int) × (List Int))) (a8:Int) (a6:Int) (s30:(Int × (List Int))):Option (Qi (Int × (List Int)) (List Int)) :=
 if (decide (s30.1 < (s3.2.2.2.length:Int)))=true then
  if 0≤s30.1 then
   if ((zv (zb (Int.fdiv (zv (zb (zv (zb a8 &&& zb s3.1).toNat) ||| zb (zv (1*2^min (Int.toNat a6) (IntKind.bits .u64)))).toNat) (2^min (Int.toNat s30.1) (IntKind.bits .u64))) &&& zb 1).toNat)==1)=true then
    (lkI s30.2 s30.1).bind fun a35 =>
    if 0≤s30.1 then
     some (.next (zw (s30.1+1),(List.set s30.2 (Int.toNat s30.1) (zv (zb a35 ||| zb (zv (zb (zv (zb (zv (zb a8 &&& zb s3.1).toNat) ||| zb (zv (1*2^min (Int.toNat a6) (IntKind.bits .u64)))).toNat) &&& ~~~ zb (zv (1*2^min (Int.toNat s30.1) (IntKind.bits .u64)))).toNat)).toNat))))
    else none
   else
   some (.next (zw (s30.1+1),s30.2))
  else none
 else
 some (.done s30.2)
def Qg1 (p0:Ttree_maker) (s3:(Int × Int × (List Int) × (List Int))):Option (Qi (Int × Int × (List Int) × (List Int)) (List Int)) :=
 if (decide (s3.2.1 < (p0.order.length:Int)))=true then
  (lkI p0.order s3.2.1).bind fun a6 =>
  (lkI s3.2.2.2 a6).bind fun a8 =>
  if 0≤a6 then
   (Qa fuel (Qgy s3 a8 a6) 0).bind fun x17=>match x17 with
   | .inl x18=>(
    if 0≤a6 then
     (Qa fuel (Qg0 s3 a8 a6) (0,s3.2.2.2)).bind fun x28 =>
     some (.next (zv (zb s3.1 &&& ~~~ zb (zv (1*2^min (Int.toNat a6) (IntKind.bits .u64)))).toNat,zw (s3.2.1+1),s3.2.2.1,x28))
    else none)
   | .inr x29=>(
    if (s3.2.2.1++([zv (zb (zv (zb a8 &&& zb s3.1).toNat) ||| zb (zv (1*2^min (Int.toNat a6) (IntKind.bits .u64)))).toNat]:(List Int))).length*8≤140737488355328 then
     if 0≤a6 then
      (Qa fuel (Qgz s3 a8 a6) (0,s3.2.2.2)).bind fun x39 =>
      some (.next (zv (zb s3.1 &&& ~~~ zb (zv (1*2^min (Int.toNat a6) (IntKind.bits .u64)))).toNat,zw (s3.2.1+1),(s3.2.2.1++([zv (zb (zv (zb a8 &&& zb s3.1).toNat) ||| zb (zv (1*2^min (Int.toNat a6) (IntKind.bits .u64)))).toNat]:(List Int))),x39))
     else none
    else none)
  else none
 else
 some (.done s3.2.2.1)
def Qdk (p0:Ttree_maker):Option (List Int) :=
 (Z4 p0.graph.near).bind fun x1 =>
 (Qa fuel (Qg1 p0) (18446744073709551615,0,([]:(List Int)),x1)).bind fun x41 =>
 some x41
def Qps (p0:(List Int)) (p1:Int) (s1:(Int × Int)):Option (Qi (Int × Int) Int) :=
 if (decide (s1.2 < (p0.length:Int)))=true then
  (lkI p0 s1.2).bind fun a4 =>
  (Zq (zv (zb a4 &&& zb p1).toNat)).bind fun x6 =>
  some (.next ((if x6 > s1.1 then x6 else s1.1),zw (s1.2+1)))
 else
 some (.done s1.1)
def Qmx (p0:(List Int)) (p1:Int):Option Int :=
 (Qa fuel (Qps p0 p1) (0,0)).bind fun x9 =>
 some x9
def Qg2 (p0:(List Int)) (c0:Int) (s1:Int):Option (Qi Int (Int ⊕ Unit)) :=
 if (decide (s1 < (p0.length:Int)))=true then
  (lkI p0 s1).bind fun a4 =>
  if ((zv (zb c0 &&& ~~~ zb a4).toNat)==0)=true then
   some (.done (Sum.inl s1))
  else
  some (.next (zw (s1+1)))
 else
 some (.done (Sum.inr ()))
def Qdp (p0:(List Int)) (c0:Int):Option Int :=
 (Qa fuel (Qg2 p0 c0) 0).bind fun x8=>match x8 with
 | .inl x9=>(
  some x9)
 | .inr x10=>(
  some (-1))
def Qog (s11:((List Int) × (List Int) × (List Int))) (s18:(Int × Int × Int)):Option (Qi (Int × Int × Int) (Int × Int)) :=
 if (decide (s18.2.1 < (s11.1.length:Int)))=true then
  (lkI s11.1 s18.2.1).bind fun a21 =>
  (Qmx s11.2.1 a21).bind fun x23 =>
  if (decide (x23≥s18.2.2))=true then
   some (.next (s18.2.1,zw (s18.2.1+1),x23))
  else
  some (.next (s18.1,zw (s18.2.1+1),s18.2.2))
 else
 some (.done (s18.1,s18.2.2))
def Qo7 (s11:((List Int) × (List Int) × (List Int))) (a29:Int) (x28:(Int × Int)) (s31:Int):Option (Qi Int (Int ⊕ Unit)) :=
 if (decide (s31 < (s11.2.1.length:Int)))=true then
  (lkI s11.2.1 s31).bind fun a34 =>
  (Zq (zv (zb a34 &&& zb a29).toNat)).bind fun x36 =>
  if (x36==x28.2)=true then
   some (.done (Sum.inl s31))
  else
  some (.next (zw (s31+1)))
 else
 some (.done (Sum.inr ()))
def Qoz  (s11:((List Int) × (List Int) × (List Int))):Option (Qi ((List Int) × (List Int) × (List Int)) ((List Int) × (List Int))) :=
 if (decide ((s11.1.length:Int) > 0))=true then
  (Qa fuel (Qog s11) (0,0,-1)).bind fun x28 =>
  (lkI s11.1 x28.1).bind fun a29 =>
  (Qa fuel (Qo7 s11 a29 x28) 0).bind fun x40=>match x40 with
  | .inl x41=>(
   if (s11.2.1++([a29]:(List Int))).length*8≤140737488355328 then
    if (s11.2.2++([x41]:(List Int))).length*8≤140737488355328 then
     if 0≤x28.1∧x28.1≤(zw (x28.1+1))∧(zw (x28.1+1))≤(s11.1.length:Int)∧(s11.1.length:Int)≤(s11.1.length:Int) then
      if (x28.1==(zw (x28.1+1)))=true then
       some (.next (s11.1,(s11.2.1++([a29]:(List Int))),(s11.2.2++([x41]:(List Int)))))
      else
      if 0≤(0:Int)∧(0:Int)≤x28.1∧x28.1≤(s11.1.length:Int) then
       if 0≤(zw (x28.1+1))∧(zw (x28.1+1))≤(s11.1.length:Int)∧(s11.1.length:Int)≤(s11.1.length:Int) then
        if (Int.toNat x28.1 - Int.toNat (0:Int)) < s11.1.length∧((Int.toNat x28.1 - Int.toNat (0:Int))+(sub s11.1 (zw (x28.1+1)) (s11.1.length:Int)).length)≤s11.1.length then
         if 0≤((((Int.toNat x28.1 - Int.toNat (0:Int))+(sub s11.1 (zw (x28.1+1)) (s11.1.length:Int)).length):Nat):Int)∧((((Int.toNat x28.1 - Int.toNat (0:Int))+(sub s11.1 (zw (x28.1+1)) (s11.1.length:Int)).length):Nat):Int)≤(s11.1.length:Int)∧(s11.1.length:Int)≤((ovr s11.1 (Int.toNat x28.1 - Int.toNat (0:Int)) (sub s11.1 (zw (x28.1+1)) (s11.1.length:Int))).length:Int) then
          if (Int.toNat ((((Int.toNat x28.1 - Int.toNat (0:Int))+(sub s11.1 (zw (x28.1+1)) (s11.1.length:Int)).length):Nat):Int))+(Int.toNat (s11.1.length:Int) - Int.toNat ((((Int.toNat x28.1 - Int.toNat (0:Int))+(sub s11.1 (zw (x28.1+1)) (s11.1.length:Int)).length):Nat):Int))≤(ovr s11.1 (Int.toNat x28.1 - Int.toNat (0:Int)) (sub s11.1 (zw (x28.1+1)) (s11.1.length:Int))).length then
           some (.next ((List.take ((Int.toNat x28.1 - Int.toNat (0:Int))+(sub s11.1 (zw (x28.1+1)) (s11.1.length:Int)).length) (ovr (ovr s11.1 (Int.toNat x28.1 - Int.toNat (0:Int)) (sub s11.1 (zw (x28.1+1)) (s11.1.length:Int))) (Int.toNat ((((Int.toNat x28.1 - Int.toNat (0:Int))+(sub s11.1 (zw (x28.1+1)) (s11.1.length:Int)).length):Nat):Int)) (List.replicate (Int.toNat (s11.1.length:Int) - Int.toNat ((((Int.toNat x28.1 - Int.toNat (0:Int))+(sub s11.1 (zw (x28.1+1)) (s11.1.length:Int)).length):Nat):Int)) 0))),(s11.2.1++([a29]:(List Int))),(s11.2.2++([x41]:(List Int)))))
          else none
         else none
        else none
       else none
      else none
     else none
    else none
   else none)
  | .inr x51=>(
   if (s11.2.1++([a29]:(List Int))).length*8≤140737488355328 then
    if (s11.2.2++([-1]:(List Int))).length*8≤140737488355328 then
     if 0≤x28.1∧x28.1≤(zw (x28.1+1))∧(zw (x28.1+1))≤(s11.1.length:Int)∧(s11.1.length:Int)≤(s11.1.length:Int) then
      if (x28.1==(zw (x28.1+1)))=true then
       some (.next (s11.1,(s11.2.1++([a29]:(List Int))),(s11.2.2++([-1]:(List Int)))))
      else
      if 0≤(0:Int)∧(0:Int)≤x28.1∧x28.1≤(s11.1.length:Int) then
       if 0≤(zw (x28.1+1))∧(zw (x28.1+1))≤(s11.1.length:Int)∧(s11.1.length:Int)≤(s11.1.length:Int) then
        if (Int.toNat x28.1 - Int.toNat (0:Int)) < s11.1.length∧((Int.toNat x28.1 - Int.toNat (0:Int))+(sub s11.1 (zw (x28.1+1)) (s11.1.length:Int)).length)≤s11.1.length then
         if 0≤((((Int.toNat x28.1 - Int.toNat (0:Int))+(sub s11.1 (zw (x28.1+1)) (s11.1.length:Int)).length):Nat):Int)∧((((Int.toNat x28.1 - Int.toNat (0:Int))+(sub s11.1 (zw (x28.1+1)) (s11.1.length:Int)).length):Nat):Int)≤(s11.1.length:Int)∧(s11.1.length:Int)≤((ovr s11.1 (Int.toNat x28.1 - Int.toNat (0:Int)) (sub s11.1 (zw (x28.1+1)) (s11.1.length:Int))).length:Int) then
          if (Int.toNat ((((Int.toNat x28.1 - Int.toNat (0:Int))+(sub s11.1 (zw (x28.1+1)) (s11.1.length:Int)).length):Nat):Int))+(Int.toNat (s11.1.length:Int) - Int.toNat ((((Int.toNat x28.1 - Int.toNat (0:Int))+(sub s11.1 (zw (x28.1+1)) (s11.1.length:Int)).length):Nat):Int))≤(ovr s11.1 (Int.toNat x28.1 - Int.toNat (0:Int)) (sub s11.1 (zw (x28.1+1)) (s11.1.length:Int))).length then
           some (.next ((List.take ((Int.toNat x28.1 - Int.toNat (0:Int))+(sub s11.1 (zw (x28.1+1)) (s11.1.length:Int)).length) (ovr (ovr s11.1 (Int.toNat x28.1 - Int.toNat (0:Int)) (sub s11.1 (zw (x28.1+1)) (s11.1.length:Int))) (Int.toNat ((((Int.toNat x28.1 - Int.toNat (0:Int))+(sub s11.1 (zw (x28.1+1)) (s11.1.length:Int)).length):Nat):Int)) (List.replicate (Int.toNat (s11.1.length:Int) - Int.toNat ((((Int.toNat x28.1 - Int.toNat (0:Int))+(sub s11.1 (zw (x28.1+1)) (s11.1.length:Int)).length):Nat):Int)) 0))),(s11.2.1++([a29]:(List Int))),(s11.2.2++([-1]:(List Int)))))
          else none
         else none
        else none
       else none
      else none
     else none
    else none
   else none)
 else
 some (.done (s11.2.1,s11.2.2))
def Qnz (p1:(List Int)) (x62:((List Int) × (List Int))) (s63:(Int × (List Int))):Option (Qi (Int × (List Int)) (List Int)) :=
 if (decide (s63.1 < (p1.length:Int)))=true then
  (lkI p1 s63.1).bind fun a66 =>
  (Qdp x62.1 a66).bind fun x68 =>
  if (s63.2++([x68]:(List Int))).length*8≤140737488355328 then
   some (.next (zw (s63.1+1),(s63.2++([x68]:(List Int)))))
  else none
 else
 some (.done s63.2)
def Qf3 (p0:Qd) (p1:(List Int)) (p2:(List Int)):Option (Qc × Int) :=
 (Qhr p0).bind fun x1 =>
 if (x1.2 != 0)=true then
  some ((Qc.mk ([]:(List Int)) ([]:(List Int)) ([]:(List Int))),x1.2)
 else
 (Qdk (Ttree_maker.mk (Ttree_graph.mk x1.1) p2)).bind fun x5 =>
 (lkI x5 (zw ((x5.length:Int) - 1))).bind fun a7 =>
 if 0≤(0:Int)∧(0:Int)≤(zw ((x5.length:Int) - 1))∧(zw ((x5.length:Int) - 1))≤(x5.length:Int) then
  (Qa fuel (Qoz) ((List.take (Int.toNat (zw ((x5.length:Int) - 1))) x5),([a7]:(List Int)),([-1]:(List Int)))).bind fun x62 =>
  (Qa fuel (Qnz p1 x62) (0,([]:(List Int)))).bind fun x71 =>
  some ((Qc.mk x62.1 x62.2 x71),0)
 else none
def Qpj (p1:(List Int)) (x1:((List Int) × Int)) (s7:(Int × Int)):Option (Qi (Int × Int) (Unit ⊕ Unit)) :=
 if (decide (s7.2 < (p1.length:Int)))=true then
  (lkI p1 s7.2).bind fun a10 =>
  if (decide (a10 < 0))=true then
   some (.done (Sum.inl ()))
  else
  if (decide (a10≥(x1.1.length:Int)))=true then
   some (.done (Sum.inl ()))
  else
  if 0≤a10 then
   if ((zv (zb (Int.fdiv s7.1 (2^min (Int.toNat a10) (IntKind.bits .u64))) &&& zb 1).toNat)==1)=true then
    some (.done (Sum.inl ()))
   else
   if 0≤a10 then
    some (.next (zv (zb s7.1 ||| zb (zv (1*2^min (Int.toNat a10) (IntKind.bits .u64)))).toNat,zw (s7.2+1)))
   else none
  else none
 else
 some (.done (Sum.inr ()))
def Qmu (p0:Qd) (p1:(List Int)):Option (Qc × Int) :=
 (Z1 p0).bind fun x1 =>
 if (x1.2 != 0)=true then
  some ((Qc.mk ([]:(List Int)) ([]:(List Int)) ([]:(List Int))),x1.2)
 else
 if ((p1.length:Int) != (x1.1.length:Int))=true then
  some ((Qc.mk ([]:(List Int)) ([]:(List Int)) ([]:(List Int))),2)
 else
 (Qa fuel (Qpj p1 x1) (0,0)).bind fun x18=>match x18 with
 | .inl x19=>(
  some ((Qc.mk ([]:(List Int)) ([]:(List Int)) ([]:(List Int))),2))
 | .inr x20=>(
  (Qf3 p0 x1.1 p1).bind fun x21 =>
  some (x21.1,x21.2))
def Qn8 (p0:(List Int)) (p1:(List Int)) (s3:Int):Option (Qi Int (Unit ⊕ Unit)) :=
 if (decide (s3 < (p0.length:Int)))=true then
  (lkI p0 s3).bind fun a6 =>
  (lkI p1 s3).bind fun a8 =>
  if (a6 != a8)=true then
   some (.done (Sum.inl ()))
  else
  some (.next (zw (s3+1)))
 else
 some (.done (Sum.inr ()))
def Qks (p0:(List Int)) (p1:(List Int)):Option Bool :=
 if ((p0.length:Int) != (p1.length:Int))=true then
  some false
 else
 (Qa fuel (Qn8 p0 p1) 0).bind fun x12=>match x12 with
 | .inl x13=>(
  some false)
 | .inr x14=>(
  some true)
def Qok (p0:(List Int)) (p1:(List Int)) (s3:Int):Option (Qi Int (Unit ⊕ Unit)) :=
 if (decide (s3 < (p0.length:Int)))=true then
  (lkI p0 s3).bind fun a6 =>
  (lkI p1 s3).bind fun a8 =>
  if (a6 != a8)=true then
   some (.done (Sum.inl ()))
  else
  some (.next (zw (s3+1)))
 else
 some (.done (Sum.inr ()))
def Qgn (p0:(List Int)) (p1:(List Int)):Option Bool :=
 if ((p0.length:Int) != (p1.length:Int))=true then
  some false
 else
 (Qa fuel (Qok p0 p1) 0).bind fun x12=>match x12 with
 | .inl x13=>(
  some false)
 | .inr x14=>(
  some true)
def Qf9 (p0:Qc) (p1:Qc):Option Bool :=
 (Qks p0.Cliques p1.Cliques).bind fun x1 =>
 if x1=true then
  (Qgn p0.Up p1.Up).bind fun x5 =>
  if x5=true then
   (Qgn p0.Home p1.Home).bind fun x9 =>
   some x9
  else
  some false
 else
 some false
def Qm5 (p0:(List Int)) (s5:Int) (a8:Int) (s14:Int):Option (Qi Int (Unit ⊕ Unit)) :=
 if (decide (s14 < (p0.length:Int)))=true then
  if 0≤s14 then
   (lkI p0 s14).bind fun a17 =>
   if 0≤s5 then
    if ((zv (zb (Int.fdiv a8 (2^min (Int.toNat s14) (IntKind.bits .u64))) &&& zb 1).toNat) != (zv (zb (Int.fdiv a17 (2^min (Int.toNat s5) (IntKind.bits .u64))) &&& zb 1).toNat))=true then
     some (.done (Sum.inl ()))
    else
    some (.next (zw (s14+1)))
   else none
  else none
 else
 some (.done (Sum.inr ()))
def Qnh (p0:(List Int)) (s5:Int):Option (Qi Int (Unit ⊕ Unit)) :=
 if (decide (s5 < (p0.length:Int)))=true then
  (lkI p0 s5).bind fun a8 =>
  if 0≤(p0.length:Int) then
   if ((Int.fdiv a8 (2^min (Int.toNat (p0.length:Int)) (IntKind.bits .u64))) != 0)=true then
    some (.done (Sum.inl ()))
   else
   if 0≤s5 then
    if ((zv (zb (Int.fdiv a8 (2^min (Int.toNat s5) (IntKind.bits .u64))) &&& zb 1).toNat)==1)=true then
     some (.done (Sum.inl ()))
    else
    (Qa fuel (Qm5 p0 s5 a8) 0).bind fun x21=>match x21 with
    | .inl x22=>(
     some (.done (Sum.inl ())))
    | .inr x23=>(
     some (.next (zw (s5+1))))
   else none
  else none
 else
 some (.done (Sum.inr ()))
def Qkc (p0:(List Int)):Option Int :=
 if (decide ((p0.length:Int) < 1))=true then
  some 80
 else
 if (decide ((p0.length:Int) > 10))=true then
  some 80
 else
 (Qa fuel (Qnh p0) 0).bind fun x24=>match x24 with
 | .inl x25=>(
  some 80)
 | .inr x26=>(
  some 0)
def Kp (p0:Int):Option Int :=
 if (p0==0)=true then
  some 64
 else
 (lkI tab1 (Int.fdiv (zv ((zv (zb p0 &&& zb (zv (0 - p0))).toNat)*285870213051353865)) (2^min (Int.toNat 58) (IntKind.bits .u64)))).bind fun a3 =>
 some (zw (a3))
def Xg (p0:Int):Option Int :=
 (Kp p0).bind fun x1 =>
 some x1
def Qnu (p2:Int) (p0:(List Int)) (s3:(Int × Int × Int)):Option (Qi (Int × Int × Int) Int) :=
 if (s3.2.2 != 0)=true then
  (Xg s3.2.2).bind fun x6 =>
  if 0≤x6 then
   if 0≤x6 then
    if ((zv (zb (Int.fdiv p2 (2^min (Int.toNat x6) (IntKind.bits .u64))) &&& zb 1).toNat)==0)=true then
     if 0≤x6 then
      some (.next (zv (zb s3.1 ||| zb (zv (1*2^min (Int.toNat x6) (IntKind.bits .u64)))).toNat,zv (zb s3.2.1 ||| zb (zv (1*2^min (Int.toNat x6) (IntKind.bits .u64)))).toNat,zv (zb s3.2.2 &&& zb (zv (s3.2.2 - 1))).toNat))
     else none
    else
    (lkI p0 x6).bind fun a10 =>
    some (.next (zv (zb s3.1 ||| zb (zv (1*2^min (Int.toNat x6) (IntKind.bits .u64)))).toNat,s3.2.1,zv (zb (zv (zb s3.2.2 &&& zb (zv (s3.2.2 - 1))).toNat) ||| zb (zv (zb a10 &&& ~~~ zb (zv (zb s3.1 ||| zb (zv (1*2^min (Int.toNat x6) (IntKind.bits .u64)))).toNat)).toNat)).toNat))
   else none
  else none
 else
 some (.done s3.2.1)
def Qdj (p0:(List Int)) (p1:Int) (p2:Int):Option Int :=
 if 0≤p1 then
  (lkI p0 p1).bind fun a1 =>
  (Qa fuel (Qnu p2 p0) (zv (1*2^min (Int.toNat p1) (IntKind.bits .u64)),0,a1)).bind fun x13 =>
  (Zq x13).bind fun x14 =>
  some x14
 else none
def Qpd (p0:(List Int)) (s5:(Int × (List (Int × Int)))) (r6:((Int × (List (Int × Int)))→Option (Int × (List (Int × Int))))) (s10:(Int × (List (Int × Int)) × Int)):Option (Qi (Int × (List (Int × Int)) × Int) ((List (Int × Int)) × Int)) :=
 if (s10.1 != 0)=true then
  (Xg s10.1).bind fun x13 =>
  (Qdj p0 x13 (zv (zb (zv ((zv (1*2^min (Int.toNat (p0.length:Int)) (IntKind.bits .u64))) - 1)) &&& ~~~ zb s5.1).toNat)).bind fun x15 =>
  if 0≤x13 then
   (r6 (zv (zb s5.1 &&& ~~~ zb (zv (1*2^min (Int.toNat x13) (IntKind.bits .u64)))).toNat,s10.2.1)).bind fun x17 =>
   some (.next (zv (zb s10.1 &&& zb (zv (s10.1 - 1))).toNat,x17.2,(if (if x17.1 > x15 then x17.1 else x15) < s10.2.2 then (if x17.1 > x15 then x17.1 else x15) else s10.2.2)))
  else none
 else
 some (.done (s10.2.1,s10.2.2))
def Qoe (p0:(List Int)) (r6:((Int × (List (Int × Int)))→Option (Int × (List (Int × Int))))) (s5:(Int × (List (Int × Int)))):Option (Int × (List (Int × Int))) :=
 if (Vd s5.2 s5.1).isSome=true then
  some ((Vd s5.2 s5.1).getD 0,s5.2)
 else
 (Qa fuel (Qpd p0 s5 r6) (s5.1,s5.2,(p0.length:Int))).bind fun x19 =>
 some (x19.2,mput x19.1 s5.1 x19.2)
def Qom (p0:(List Int)) (s34:(Int × (List (Int × Int)))) (r35:((Int × (List (Int × Int)))→Option (Int × (List (Int × Int))))) (s39:(Int × (List (Int × Int)) × Int)):Option (Qi (Int × (List (Int × Int)) × Int) ((List (Int × Int)) × Int)) :=
 if (s39.1 != 0)=true then
  (Xg s39.1).bind fun x42 =>
  (Qdj p0 x42 (zv (zb (zv ((zv (1*2^min (Int.toNat (p0.length:Int)) (IntKind.bits .u64))) - 1)) &&& ~~~ zb s34.1).toNat)).bind fun x44 =>
  if 0≤x42 then
   (r35 (zv (zb s34.1 &&& ~~~ zb (zv (1*2^min (Int.toNat x42) (IntKind.bits .u64)))).toNat,s39.2.1)).bind fun x46 =>
   some (.next (zv (zb s39.1 &&& zb (zv (s39.1 - 1))).toNat,x46.2,(if (if x46.1 > x44 then x46.1 else x44) < s39.2.2 then (if x46.1 > x44 then x46.1 else x44) else s39.2.2)))
  else none
 else
 some (.done (s39.2.1,s39.2.2))
def Qol (p0:(List Int)) (r35:((Int × (List (Int × Int)))→Option (Int × (List (Int × Int))))) (s34:(Int × (List (Int × Int)))):Option (Int × (List (Int × Int))) :=
 if (Vd s34.2 s34.1).isSome=true then
  some ((Vd s34.2 s34.1).getD 0,s34.2)
 else
 (Qa fuel (Qom p0 s34 r35) (s34.1,s34.2,(p0.length:Int))).bind fun x48 =>
 some (x48.2,mput x48.1 s34.1 x48.2)
def Qob (p0:(List Int)) (s22:(Int × (List Int) × (List (Int × Int)))) (x20:(Int × (List (Int × Int)))) (s25:(Int × (List (Int × Int)))):Option (Qi (Int × (List (Int × Int))) ((Int × (List (Int × Int)) × (List Int)) ⊕ (List (Int × Int)))) :=
 if (s25.1 != 0)=true then
  (Xg s25.1).bind fun x28 =>
  (Qdj p0 x28 (zv (zb (zv ((zv (1*2^min (Int.toNat (p0.length:Int)) (IntKind.bits .u64))) - 1)) &&& ~~~ zb s22.1).toNat)).bind fun x30 =>
  if (decide (x30≤x20.1))=true then
   if 0≤x28 then
    (Qki (Qol p0) fuel (zv (zb s22.1 &&& ~~~ zb (zv (1*2^min (Int.toNat x28) (IntKind.bits .u64)))).toNat,s25.2)).bind fun x49 =>
    if (decide (x49.1≤x20.1))=true then
     if (s22.2.1++([x28]:(List Int))).length*8≤140737488355328 then
      if 0≤x28 then
       some (.done (Sum.inl (zv (zb s22.1 &&& ~~~ zb (zv (1*2^min (Int.toNat x28) (IntKind.bits .u64)))).toNat,x49.2,(s22.2.1++([x28]:(List Int))))))
      else none
     else none
    else
    some (.next (zv (zb s25.1 &&& zb (zv (s25.1 - 1))).toNat,x49.2))
   else none
  else
  some (.next (zv (zb s25.1 &&& zb (zv (s25.1 - 1))).toNat,s25.2))
 else
 some (.done (Sum.inr s25.2))
def Qn9 (p0:(List Int)) (x20:(Int × (List (Int × Int)))) (s22:(Int × (List Int) × (List (Int × Int)))):Option (Qi (Int × (List Int) × (List (Int × Int))) (List Int)) :=
 if (s22.1 != 0)=true then
  (Qa fuel (Qob p0 s22 x20) (s22.1,s22.2.2)).bind fun x53=>match x53 with
  | .inl x54=>(
   some (.next (x54.1,x54.2.2,x54.2.1)))
  | .inr x55=>(
   some (.done s22.2.1))
 else
 some (.done s22.2.1)
def Qkw (p0:(List Int)):Option ((List Int) × Int × Int) :=
 (Qkc p0).bind fun x1 =>
 if (x1 != 0)=true then
  some (([]:(List Int)),0,x1)
 else
 if 0≤(p0.length:Int) then
  (Qki (Qoe p0) fuel (zv ((zv (1*2^min (Int.toNat (p0.length:Int)) (IntKind.bits .u64))) - 1),mput [] (0:Int) (0:Int))).bind fun x20 =>
  (Qa fuel (Qn9 p0 x20) (zv ((zv (1*2^min (Int.toNat (p0.length:Int)) (IntKind.bits .u64))) - 1),([]:(List Int)),x20.2)).bind fun x57 =>
  some (x57,x20.1,0)
 else none
def Qky (p0:Qd):Option (Qc × Int) :=
 (Z1 p0).bind fun x1 =>
 if (x1.2 != 0)=true then
  some ((Qc.mk ([]:(List Int)) ([]:(List Int)) ([]:(List Int))),x1.2)
 else
 (Qhr p0).bind fun x5 =>
 if (x5.2 != 0)=true then
  some ((Qc.mk ([]:(List Int)) ([]:(List Int)) ([]:(List Int))),x5.2)
 else
 (Qkw x5.1).bind fun x9 =>
 if (x9.2.2 != 0)=true then
  some ((Qc.mk ([]:(List Int)) ([]:(List Int)) ([]:(List Int))),x9.2.2)
 else
 (Qf3 p0 x1.1 x9.1).bind fun x13 =>
 some (x13.1,x13.2)
def Qic  : Option Qd :=
 some (Qd.mk 4 ([(Tapi_Node.mk 2 [] [[1,3]]),(Tapi_Node.mk 2 [0] [[4,0],[2,2]]),(Tapi_Node.mk 2 [1] [[1,3],[4,0]])]:(List Tapi_Node)))
def Qbg  : Option Qc :=
 some (Qc.mk ([6,3]:(List Int)) ([-1,0]:(List Int)) ([1,1,0]:(List Int)))
def Qfa  : Option Bool :=
 (Qic).bind fun x1 =>
 (Qmu x1 [0,1,2]).bind fun x3 =>
 (Jd x1 x3.1).bind fun x5 =>
 (Zg x1 x3.1 1).bind fun x7 =>
 (Qky x1).bind fun x9 =>
 if (x3.2==0)=true then
  (Qbg).bind fun x13 =>
  (Qf9 x3.1 x13).bind fun x15 =>
  if x15=true then
   if (x5.1==1)=true then
    if (x5.2==0)=true then
     if (x7.1==2)=true then
      if (x7.2==0)=true then
       if (x9.2==0)=true then
        (Qbg).bind fun x29 =>
        (Qf9 x9.1 x29).bind fun x31 =>
        if x31=true then
         (Qbg).bind fun x35 =>
         (Z6 x1 x35).bind fun x37 =>
         if (x37==0)=true then
          (Z6 x1 (Qc.mk [] [] [])).bind fun x41 =>
          some (x41==100)
         else
         some false
        else
        some false
       else
       some false
      else
      some false
     else
     some false
    else
    some false
   else
   some false
  else
  some false
 else
 some false
def Vs (p0:Tharuspexref10_Bend) (p1:Qc):Option Qc :=
 if p1.Cliques.length*8≤140737488355328 then
  if p1.Up.length*8≤140737488355328 then
   if p1.Home.length*8≤140737488355328 then
    if ((Int.tmod p0.What 8)==0)=true then
     if (decide ((p1.Cliques.length:Int) > 0))=true then
      if (p1.Cliques.length:Int)≠0 then
       (lkI p1.Cliques (Int.tmod (zw (p0.At)) (p1.Cliques.length:Int))).bind fun a5 =>
       (lkI p1.Cliques (Int.tmod (zw (p0.At)) (p1.Cliques.length:Int))).bind fun a7 =>
       some (Qc.mk (List.set p1.Cliques (Int.toNat (Int.tmod (zw (p0.At)) (p1.Cliques.length:Int))) p0.S) p1.Up p1.Home)
      else none
     else
     some p1
    else
    if ((Int.tmod p0.What 8)==1)=true then
     if (decide ((p1.Cliques.length:Int) > 0))=true then
      if (p1.Cliques.length:Int)≠0 then
       if (p1.Cliques.length:Int)≠0 then
        (lkI p1.Cliques (Int.tmod (zw (p0.At)) (p1.Cliques.length:Int))).bind fun a14 =>
        (lkI p1.Cliques (Int.tmod (zw (p0.At)) (p1.Cliques.length:Int))).bind fun a16 =>
        some (Qc.mk (List.set p1.Cliques (Int.toNat (Int.tmod (zw (p0.At)) (p1.Cliques.length:Int))) (zv (zb a14 ||| zb p0.S).toNat)) p1.Up p1.Home)
       else none
      else none
     else
     some p1
    else
    if ((Int.tmod p0.What 8)==2)=true then
     if (decide ((p1.Up.length:Int) > 0))=true then
      if (p1.Up.length:Int)≠0 then
       (lkI p1.Up (Int.tmod (zw (p0.At)) (p1.Up.length:Int))).bind fun a23 =>
       (lkI p1.Up (Int.tmod (zw (p0.At)) (p1.Up.length:Int))).bind fun a25 =>
       some (Qc.mk p1.Cliques (List.set p1.Up (Int.toNat (Int.tmod (zw (p0.At)) (p1.Up.length:Int))) p0.N) p1.Home)
      else none
     else
     some p1
    else
    if ((Int.tmod p0.What 8)==3)=true then
     if (decide ((p1.Home.length:Int) > 0))=true then
      if (p1.Home.length:Int)≠0 then
       (lkI p1.Home (Int.tmod (zw (p0.At)) (p1.Home.length:Int))).bind fun a32 =>
       (lkI p1.Home (Int.tmod (zw (p0.At)) (p1.Home.length:Int))).bind fun a34 =>
       some (Qc.mk p1.Cliques p1.Up (List.set p1.Home (Int.toNat (Int.tmod (zw (p0.At)) (p1.Home.length:Int))) p0.N))
      else none
     else
     some p1
    else
    if ((Int.tmod p0.What 8)==4)=true then
     if (decide ((p1.Cliques.length:Int) > 0))=true then
      if 0≤(1:Int)∧(1:Int)≤(p1.Cliques.length:Int)∧(p1.Cliques.length:Int)≤(p1.Cliques.length:Int) then
       some (Qc.mk (sub p1.Cliques 1 (p1.Cliques.length:Int)) p1.Up p1.Home)
      else none
     else
     some p1
    else
    if ((Int.tmod p0.What 8)==5)=true then
     if (p1.Cliques++([p0.S]:(List Int))).length*8≤140737488355328 then
      if (p1.Up++([p0.N]:(List Int))).length*8≤140737488355328 then
       some (Qc.mk (p1.Cliques++([p0.S]:(List Int))) (p1.Up++([p0.N]:(List Int))) p1.Home)
      else none
     else none
    else
    if ((Int.tmod p0.What 8)==6)=true then
     if (p1.Home++([p0.N]:(List Int))).length*8≤140737488355328 then
      some (Qc.mk p1.Cliques p1.Up (p1.Home++([p0.N]:(List Int))))
     else none
    else
    if (decide ((p1.Cliques.length:Int) > 0))=true then
     if (p1.Cliques.length:Int)≠0 then
      if (p1.Up++([Int.tmod (zw (p0.At)) (p1.Cliques.length:Int)]:(List Int))).length*8≤140737488355328 then
       (lkI p1.Cliques (Int.tmod (zw (p0.At)) (p1.Cliques.length:Int))).bind fun a48 =>
       if (p1.Cliques++([zv (zb a48 &&& zb p0.S).toNat]:(List Int))).length*8≤140737488355328 then
        some (Qc.mk (p1.Cliques++([zv (zb a48 &&& zb p0.S).toNat]:(List Int))) (p1.Up++([Int.tmod (zw (p0.At)) (p1.Cliques.length:Int)]:(List Int))) p1.Home)
       else none
      else none
     else none
    else
    some p1
   else none
  else none
 else none
def Kd (p0:Tharuspexref02_Draft) (s1:(Int × (List Int))):Option (Qi (Int × (List Int)) (List Int)) :=
 if (decide (s1.1 < (p0.C.length:Int)))=true then
  if (decide (s1.1 < 5))=true then
   (lkI p0.C s1.1).bind fun a6 =>
   if (s1.2++([zw (1+(zw (Int.tmod a6 4)))]:(List Int))).length*8≤140737488355328 then
    some (.next (zw (s1.1+1),(s1.2++([zw (1+(zw (Int.tmod a6 4)))]:(List Int)))))
   else none
  else
  some (.done s1.2)
 else
 some (.done s1.2)
def Jh (p0:Tharuspexref02_Draft):Option (List Int) :=
 (Qa fuel (Kd p0) (0,([]:(List Int)))).bind fun x9 =>
 some x9
def Vg (p0:Tharuspexref02_Draft) (s1:(Int × (List Int))):Option (Qi (Int × (List Int)) (List Int)) :=
 (Jh p0).bind fun x2 =>
 if (decide (s1.1 < (x2.length:Int)))=true then
  if (decide (s1.1 < (p0.Order.length:Int)))=true then
   (lkI p0.Order s1.1).bind fun a8 =>
   if (zw (s1.1+1))≠0 then
    if 0≤(0:Int)∧(0:Int)≤(Int.tmod (zw (a8)) (zw (s1.1+1)))∧(Int.tmod (zw (a8)) (zw (s1.1+1)))≤(s1.2.length:Int) then
     if (sub s1.2 0 (Int.tmod (zw (a8)) (zw (s1.1+1)))).length*8≤140737488355328 then
      if ((sub s1.2 0 (Int.tmod (zw (a8)) (zw (s1.1+1))))++([s1.1]:(List Int))).length*8≤140737488355328 then
       if 0≤(Int.tmod (zw (a8)) (zw (s1.1+1)))∧(Int.tmod (zw (a8)) (zw (s1.1+1)))≤(s1.2.length:Int)∧(s1.2.length:Int)≤(s1.2.length:Int) then
        if (((sub s1.2 0 (Int.tmod (zw (a8)) (zw (s1.1+1))))++([s1.1]:(List Int)))++(sub s1.2 (Int.tmod (zw (a8)) (zw (s1.1+1))) (s1.2.length:Int))).length*8≤140737488355328 then
         some (.next (zw (s1.1+1),(((sub s1.2 0 (Int.tmod (zw (a8)) (zw (s1.1+1))))++([s1.1]:(List Int)))++(sub s1.2 (Int.tmod (zw (a8)) (zw (s1.1+1))) (s1.2.length:Int)))))
        else none
       else none
      else none
     else none
    else none
   else none
  else
  if 0≤(0:Int)∧(0:Int)≤(0:Int)∧(0:Int)≤(s1.2.length:Int) then
   if (sub s1.2 0 0).length*8≤140737488355328 then
    if ((sub s1.2 0 0)++([s1.1]:(List Int))).length*8≤140737488355328 then
     if 0≤(0:Int)∧(0:Int)≤(s1.2.length:Int)∧(s1.2.length:Int)≤(s1.2.length:Int) then
      if (((sub s1.2 0 0)++([s1.1]:(List Int)))++(sub s1.2 0 (s1.2.length:Int))).length*8≤140737488355328 then
       some (.next (zw (s1.1+1),(((sub s1.2 0 0)++([s1.1]:(List Int)))++(sub s1.2 0 (s1.2.length:Int)))))
      else none
     else none
    else none
   else none
  else none
 else
 some (.done s1.2)
def Yw (p0:Tharuspexref02_Draft):Option (List Int) :=
 (Qa fuel (Vg p0) (0,([]:(List Int)))).bind fun x15 =>
 some x15
def Qdn (p0:(List Int)) (s1:(Int × Int)):Option (Qi (Int × Int) Int) :=
 if (decide (s1.2 < (p0.length:Int)))=true then
  (lkI p0 s1.2).bind fun a4 =>
  some (.next (zw (s1.1*a4),zw (s1.2+1)))
 else
 some (.done s1.1)
def Kl (p0:(List Int)):Option Int :=
 (Qa fuel (Qdn p0) (1,0)).bind fun x7 =>
 some x7
def Qe3 (p1:(List Int)) (p0:(List Int)) (s1:(Int × (List Int))):Option (Qi (Int × (List Int)) (List Int)) :=
 if (decide (s1.1 < (p1.length:Int)))=true then
  (lkI p1 s1.1).bind fun a4 =>
  (lkI p0 a4).bind fun a6 =>
  if (s1.2++([a6]:(List Int))).length*8≤140737488355328 then
   some (.next (zw (s1.1+1),(s1.2++([a6]:(List Int)))))
  else none
 else
 some (.done s1.2)
def Qfn (p0:(List Int)) (p1:(List Int)):Option (List Int) :=
 (Qa fuel (Qe3 p1 p0) (0,([]:(List Int)))).bind fun x9 =>
 some x9
def Qcg (p0:Qd) (s1:(Int × (List Int))):Option (Qi (Int × (List Int)) (List Int)) :=
 if (decide (s1.1 < (p0.Nodes.length:Int)))=true then
  (lkI p0.Nodes s1.1).bind fun a4 =>
  if (s1.2++([a4.Card]:(List Int))).length*8≤140737488355328 then
   some (.next (zw (s1.1+1),(s1.2++([a4.Card]:(List Int)))))
  else none
 else
 some (.done s1.2)
def Qb8 (p0:Qd):Option (List Int) :=
 (Qa fuel (Qcg p0) (0,([]:(List Int)))).bind fun x7 =>
 some x7
def Zf (p0:Qd) (p1:Int):Option (List Int) :=
 (Qb8 p0).bind fun x1 =>
 (lkI p0.Nodes p1).bind fun a3 =>
 (Qfn x1 a3.Parents).bind fun x5 =>
 some x5
def Ja (p1:Int) (p2:(List Int)) (p3:Int) (s1:(Int × Int × (List Int))):Option (Qi (Int × Int × (List Int)) (Int × (List Int))) :=
 if (decide (s1.2.1 < p1))=true then
  if (decide ((p2.length:Int) > 0))=true then
   if (p2.length:Int)≠0 then
    (lkI p2 (Int.tmod (zw (p3+s1.2.1)) (p2.length:Int))).bind fun a6 =>
    (lkI s1.2.2 s1.2.1).bind fun a8 =>
    some (.next (zw (s1.1+(zw (Int.tmod a6 8))),zw (s1.2.1+1),(List.set s1.2.2 (Int.toNat s1.2.1) (zw (Int.tmod a6 8)))))
   else none
  else
  (lkI s1.2.2 s1.2.1).bind fun a11 =>
  some (.next (zw (s1.1+a11),zw (s1.2.1+1),s1.2.2))
 else
 some (.done (s1.1,s1.2.2))
def Qd3 (p1:Int) (x14:(Int × (List Int))) (p0:Int) (s15:(Int × Int × Int × (List Int))):Option (Qi (Int × Int × Int × (List Int)) (Int × Int × (List Int))) :=
 if (decide (s15.2.2.1 < p1))=true then
  (lkI s15.2.2.2 s15.2.2.1).bind fun a18 =>
  if (decide (a18 > 0))=true then
   if x14.1≠0 then
    some (.next (zw (s15.1 - (zw (Int.tdiv (zw (p0*a18)) x14.1))),s15.2.2.1,zw (s15.2.2.1+1),(List.set s15.2.2.2 (Int.toNat s15.2.2.1) (zw (Int.tdiv (zw (p0*a18)) x14.1)))))
   else none
  else
  some (.next (zw (s15.1 - a18),s15.2.1,zw (s15.2.2.1+1),s15.2.2.2))
 else
 some (.done (s15.1,s15.2.1,s15.2.2.2))
def Qbw (p0:Int) (p1:Int) (p2:(List Int)) (p3:Int):Option (List Int) :=
 if 0≤p1∧p1≤p1∧p1*8≤140737488355328 then
  (Qa fuel (Ja p1 p2 p3) (0,0,(List.replicate (Int.toNat p1) (0:Int)))).bind fun x14 =>
  (Qa fuel (Qd3 p1 x14 p0) (p0,0,0,x14.2)).bind fun x24 =>
  (lkI x24.2.2 x24.2.1).bind fun a25 =>
  some (List.set x24.2.2 (Int.toNat x24.2.1) (zw (a25+x24.1)))
 else none
def Y2 (p0:Qf) (x1:(List Int)) (s3:(Int × Int × (List (Int ⊕ Tapi_Node)))):Option (Qi (Int × Int × (List (Int ⊕ Tapi_Node))) (List (Int ⊕ Tapi_Node))) :=
 if (decide (s3.2.1 < (if 5 < (if 1 > (p0.Nodes.length:Int) then 1 else (p0.Nodes.length:Int)) then 5 else (if 1 > (p0.Nodes.length:Int) then 1 else (p0.Nodes.length:Int)))))=true then
  if (decide (s3.2.1 < (p0.Nodes.length:Int)))=true then
   (lkI p0.Nodes s3.2.1).bind fun a8 =>
   if 0≤(zv (zw ((zw ((if 5 < (if 1 > (p0.Nodes.length:Int) then 1 else (p0.Nodes.length:Int)) then 5 else (if 1 > (p0.Nodes.length:Int) then 1 else (p0.Nodes.length:Int))) - 1)) - s3.2.1))) then
    if (decide ((zw ((zw (s3.1*(zw (2+(zw (Int.tmod a8.Card 2))))))*2^min (Int.toNat (zv (zw ((zw ((if 5 < (if 1 > (p0.Nodes.length:Int) then 1 else (p0.Nodes.length:Int)) then 5 else (if 1 > (p0.Nodes.length:Int) then 1 else (p0.Nodes.length:Int))) - 1)) - s3.2.1)))) (IntKind.bits .i64))) > 100))=true then
     (lkI x1 s3.2.1).bind fun a12 =>
     (lkL s3.2.2 a12).bind fun a14 =>
     some (.next (zw (s3.1*2),zw (s3.2.1+1),(List.set s3.2.2 (Int.toNat a12) (Sum.inl 2))))
    else
    (lkI x1 s3.2.1).bind fun a17 =>
    (lkL s3.2.2 a17).bind fun a19 =>
    some (.next (zw (s3.1*(zw (2+(zw (Int.tmod a8.Card 2))))),zw (s3.2.1+1),(List.set s3.2.2 (Int.toNat a17) (Sum.inl (zw (2+(zw (Int.tmod a8.Card 2))))))))
   else none
  else
  if 0≤(zv (zw ((zw ((if 5 < (if 1 > (p0.Nodes.length:Int) then 1 else (p0.Nodes.length:Int)) then 5 else (if 1 > (p0.Nodes.length:Int) then 1 else (p0.Nodes.length:Int))) - 1)) - s3.2.1))) then
   if (decide ((zw ((zw (s3.1*(zw (2+(zw (Int.tmod 0 2))))))*2^min (Int.toNat (zv (zw ((zw ((if 5 < (if 1 > (p0.Nodes.length:Int) then 1 else (p0.Nodes.length:Int)) then 5 else (if 1 > (p0.Nodes.length:Int) then 1 else (p0.Nodes.length:Int))) - 1)) - s3.2.1)))) (IntKind.bits .i64))) > 100))=true then
    (lkI x1 s3.2.1).bind fun a24 =>
    (lkL s3.2.2 a24).bind fun a26 =>
    some (.next (zw (s3.1*2),zw (s3.2.1+1),(List.set s3.2.2 (Int.toNat a24) (Sum.inl 2))))
   else
   (lkI x1 s3.2.1).bind fun a29 =>
   (lkL s3.2.2 a29).bind fun a31 =>
   some (.next (zw (s3.1*(zw (2+(zw (Int.tmod 0 2))))),zw (s3.2.1+1),(List.set s3.2.2 (Int.toNat a29) (Sum.inl (zw (2+(zw (Int.tmod 0 2))))))))
  else none
 else
 some (.done s3.2.2)
def Y3 (s36:(Int × (List (Int ⊕ Tapi_Node)))) (x1:(List Int)) (s55:(Int × (List Int))) (a49:Qu) (s58:(Int × (List Int))):Option (Qi (Int × (List Int)) (List Int)) :=
 if (decide (s58.1 < s36.1))=true then
  (lkI x1 s58.1).bind fun a61 =>
  if (a61==s55.1)=true then
   if 0≤(zv (s58.1)) then
    if ((IntKind.u8.wrap (BitVec.ofInt (IntKind.bits .u8) (Int.fdiv a49.Parents (2^min (Int.toNat (zv (s58.1))) (IntKind.bits .u8))) &&& BitVec.ofInt (IntKind.bits .u8) 1).toNat)==1)=true then
     if (decide ((s58.2.length:Int) < 3))=true then
      if (s58.2++([s55.1]:(List Int))).length*8≤140737488355328 then
       some (.next (zw (s58.1+1),(s58.2++([s55.1]:(List Int)))))
      else none
     else
     some (.next (zw (s58.1+1),s58.2))
    else
    some (.next (zw (s58.1+1),s58.2))
   else none
  else
  some (.next (zw (s58.1+1),s58.2))
 else
 some (.done s58.2)
def Xy (p0:Qf) (s36:(Int × (List (Int ⊕ Tapi_Node)))) (x1:(List Int)) (a49:Qu) (s55:(Int × (List Int))):Option (Qi (Int × (List Int)) (List Int)) :=
 if (decide (s55.1 < (if 5 < (if 1 > (p0.Nodes.length:Int) then 1 else (p0.Nodes.length:Int)) then 5 else (if 1 > (p0.Nodes.length:Int) then 1 else (p0.Nodes.length:Int)))))=true then
  (Qa fuel (Y3 s36 x1 s55 a49) (0,s55.2)).bind fun x70 =>
  some (.next (zw (s55.1+1),x70))
 else
 some (.done s55.2)
def Y1 (p0:Qf) (s36:(Int × (List (Int ⊕ Tapi_Node)))) (a51:Int) (a53:Int) (x72:(List Int)) (a49:Qu) (s73:(Int × (List (List Int)))):Option (Qi (Int × (List (List Int))) (List (List Int))) :=
 (Zf (Qd.mk (zw (1+(zw (Int.tmod p0.Grain 60)))) (List.set (List.map coTapi_Node s36.2) (Int.toNat a51) (Tapi_Node.mk a53 x72 s73.2))) a51).bind fun x74 =>
 (Kl x74).bind fun x76 =>
 if (decide (s73.1 < x76))=true then
  (Qbw (zw (1+(zw (Int.tmod p0.Grain 60)))) a53 a49.W (zw (s73.1*(zw (a53+1))))).bind fun x80 =>
  if (s73.2++([x80]:(List (List Int)))).length*24≤140737488355328 then
   some (.next (zw (s73.1+1),(s73.2++([x80]:(List (List Int))))))
  else none
 else
 some (.done s73.2)
def Qjz (s36:(Int × (List (Int ⊕ Tapi_Node)))) (x1:(List Int)) (s90:(Int × (List Int))) (s93:(Int × (List Int))):Option (Qi (Int × (List Int)) (List Int)) :=
 if (decide (s93.1 < s36.1))=true then
  (lkI x1 s93.1).bind fun a96 =>
  if (a96==s90.1)=true then
   if 0≤(zv (s93.1)) then
    if ((IntKind.u8.wrap (BitVec.ofInt (IntKind.bits .u8) (Int.fdiv 0 (2^min (Int.toNat (zv (s93.1))) (IntKind.bits .u8))) &&& BitVec.ofInt (IntKind.bits .u8) 1).toNat)==1)=true then
     if (decide ((s93.2.length:Int) < 3))=true then
      if (s93.2++([s90.1]:(List Int))).length*8≤140737488355328 then
       some (.next (zw (s93.1+1),(s93.2++([s90.1]:(List Int)))))
      else none
     else
     some (.next (zw (s93.1+1),s93.2))
    else
    some (.next (zw (s93.1+1),s93.2))
   else none
  else
  some (.next (zw (s93.1+1),s93.2))
 else
 some (.done s93.2)
def Qdi (p0:Qf) (s36:(Int × (List (Int ⊕ Tapi_Node)))) (x1:(List Int)) (s90:(Int × (List Int))):Option (Qi (Int × (List Int)) (List Int)) :=
 if (decide (s90.1 < (if 5 < (if 1 > (p0.Nodes.length:Int) then 1 else (p0.Nodes.length:Int)) then 5 else (if 1 > (p0.Nodes.length:Int) then 1 else (p0.Nodes.length:Int)))))=true then
  (Qa fuel (Qjz s36 x1 s90) (0,s90.2)).bind fun x105 =>
  some (.next (zw (s90.1+1),x105))
 else
 some (.done s90.2)
def Qjl (p0:Qf) (s36:(Int × (List (Int ⊕ Tapi_Node)))) (a86:Int) (a88:Int) (x107:(List Int)) (s108:(Int × (List (List Int)))):Option (Qi (Int × (List (List Int))) (List (List Int))) :=
 (Zf (Qd.mk (zw (1+(zw (Int.tmod p0.Grain 60)))) (List.set (List.map coTapi_Node s36.2) (Int.toNat a86) (Tapi_Node.mk a88 x107 s108.2))) a86).bind fun x109 =>
 (Kl x109).bind fun x111 =>
 if (decide (s108.1 < x111))=true then
  (Qbw (zw (1+(zw (Int.tmod p0.Grain 60)))) a88 [] (zw (s108.1*(zw (a88+1))))).bind fun x115 =>
  if (s108.2++([x115]:(List (List Int)))).length*24≤140737488355328 then
   some (.next (zw (s108.1+1),(s108.2++([x115]:(List (List Int))))))
  else none
 else
 some (.done s108.2)
def Y6 (p0:Qf) (x1:(List Int)) (s36:(Int × (List (Int ⊕ Tapi_Node)))):Option (Qi (Int × (List (Int ⊕ Tapi_Node))) (List (Int ⊕ Tapi_Node))) :=
 if (decide (s36.1 < (if 5 < (if 1 > (p0.Nodes.length:Int) then 1 else (p0.Nodes.length:Int)) then 5 else (if 1 > (p0.Nodes.length:Int) then 1 else (p0.Nodes.length:Int)))))=true then
  if (decide (s36.1 < (p0.Nodes.length:Int)))=true then
   (lkI p0.Nodes s36.1).bind fun a49 =>
   (lkI x1 s36.1).bind fun a51 =>
   (lkL s36.2 a51).bind fun a53 =>
   (Qa fuel (Xy p0 s36 x1 a49) (0,([]:(List Int)))).bind fun x72 =>
   (Qa fuel (Y1 p0 s36 a51 a53 x72 a49) (0,([]:(List (List Int))))).bind fun x83 =>
   some (.next (zw (s36.1+1),(List.set s36.2 (Int.toNat a51) (Sum.inr (Tapi_Node.mk a53 x72 x83)))))
  else
  (lkI x1 s36.1).bind fun a86 =>
  (lkL s36.2 a86).bind fun a88 =>
  (Qa fuel (Qdi p0 s36 x1) (0,([]:(List Int)))).bind fun x107 =>
  (Qa fuel (Qjl p0 s36 a86 a88 x107) (0,([]:(List (List Int))))).bind fun x118 =>
  some (.next (zw (s36.1+1),(List.set s36.2 (Int.toNat a86) (Sum.inr (Tapi_Node.mk a88 x107 x118)))))
 else
 some (.done s36.2)
def V3 (p0:Qf):Option Qd :=
 if 0≤(if 5 < (if 1 > (p0.Nodes.length:Int) then 1 else (p0.Nodes.length:Int)) then 5 else (if 1 > (p0.Nodes.length:Int) then 1 else (p0.Nodes.length:Int)))∧(if 5 < (if 1 > (p0.Nodes.length:Int) then 1 else (p0.Nodes.length:Int)) then 5 else (if 1 > (p0.Nodes.length:Int) then 1 else (p0.Nodes.length:Int)))≤(if 5 < (if 1 > (p0.Nodes.length:Int) then 1 else (p0.Nodes.length:Int)) then 5 else (if 1 > (p0.Nodes.length:Int) then 1 else (p0.Nodes.length:Int)))∧(if 5 < (if 1 > (p0.Nodes.length:Int) then 1 else (p0.Nodes.length:Int)) then 5 else (if 1 > (p0.Nodes.length:Int) then 1 else (p0.Nodes.length:Int)))*56≤140737488355328 then
  if 0≤(if 5 < (if 1 > (p0.Nodes.length:Int) then 1 else (p0.Nodes.length:Int)) then 5 else (if 1 > (p0.Nodes.length:Int) then 1 else (p0.Nodes.length:Int)))∧(if 5 < (if 1 > (p0.Nodes.length:Int) then 1 else (p0.Nodes.length:Int)) then 5 else (if 1 > (p0.Nodes.length:Int) then 1 else (p0.Nodes.length:Int)))≤(if 5 < (if 1 > (p0.Nodes.length:Int) then 1 else (p0.Nodes.length:Int)) then 5 else (if 1 > (p0.Nodes.length:Int) then 1 else (p0.Nodes.length:Int)))∧(if 5 < (if 1 > (p0.Nodes.length:Int) then 1 else (p0.Nodes.length:Int)) then 5 else (if 1 > (p0.Nodes.length:Int) then 1 else (p0.Nodes.length:Int)))*1≤140737488355328 then
   (Yw (Tharuspexref02_Draft.mk (List.replicate (Int.toNat (if 5 < (if 1 > (p0.Nodes.length:Int) then 1 else (p0.Nodes.length:Int)) then 5 else (if 1 > (p0.Nodes.length:Int) then 1 else (p0.Nodes.length:Int)))) (0:Int)) 0 p0.Order)).bind fun x1 =>
   (Qa fuel (Y2 p0 x1) (1,0,(List.replicate (Int.toNat (if 5 < (if 1 > (p0.Nodes.length:Int) then 1 else (p0.Nodes.length:Int)) then 5 else (if 1 > (p0.Nodes.length:Int) then 1 else (p0.Nodes.length:Int)))) ((Sum.inl 0):(Int ⊕ Tapi_Node))))).bind fun x35 =>
   (Qa fuel (Y6 p0 x1) (0,x35)).bind fun x122 =>
   (alr x122).bind fun m123 =>
   some (Qd.mk (zw (1+(zw (Int.tmod p0.Grain 60)))) m123)
  else none
 else none
def Vr (p0:Qd) (s1:(Int × (List Int))) (s4:(Int × Int)):Option (Qi (Int × Int) Int) :=
 (lkI p0.Nodes s1.1).bind fun a5 =>
 if (decide (s4.2 < (a5.Parents.length:Int)))=true then
  (lkI a5.Parents s4.2).bind fun a9 =>
  if 0≤(zv (a9)) then
   some (.next (zv (zb s4.1 ||| zb (zv (1*2^min (Int.toNat (zv (a9))) (IntKind.bits .u64)))).toNat,zw (s4.2+1)))
  else none
 else
 some (.done s4.1)
def Vt (p0:Qd) (s1:(Int × (List Int))):Option (Qi (Int × (List Int)) (List Int)) :=
 if (decide (s1.1 < (p0.Nodes.length:Int)))=true then
  (Qa fuel (Vr p0 s1) (0,0)).bind fun x12 =>
  if (s1.2++([x12]:(List Int))).length*8≤140737488355328 then
   some (.next (zw (s1.1+1),(s1.2++([x12]:(List Int)))))
  else none
 else
 some (.done s1.2)
def Yj (p0:Qd):Option (List Int) :=
 (Qa fuel (Vt p0) (0,([]:(List Int)))).bind fun x14 =>
 some x14
def Yb (p0:Int) (p1:Int):Option Bool :=
 if 0≤(zv (p1)) then
  some ((zv (zb (Int.fdiv p0 (2^min (Int.toNat (zv (p1))) (IntKind.bits .u64))) &&& zb 1).toNat)==1)
 else none
def Jc (p0:(List Int)) (s13:Int):Option (Qi Int Unit) :=
 if (decide (s13 < (p0.length:Int)))=true then
  some (.next (zw (s13+1)))
 else
 some (.done ())
def Jg (p0:(List Int)) (s1:(Int × (List Int))) (s4:(Int × (List Int))) (s27:(Bool × Int)):Option (Qi (Bool × Int) Bool) :=
 if (decide (s27.2 < (p0.length:Int)))=true then
  if s27.1=true then
   some (.next (true,zw (s27.2+1)))
  else
  (lkI p0 s27.2).bind fun a32 =>
  (Yb a32 s1.1).bind fun x34 =>
  if x34=true then
   (Yb a32 s4.1).bind fun x38 =>
   some (.next (x38,zw (s27.2+1)))
  else
  some (.next (false,zw (s27.2+1)))
 else
 some (.done s27.1)
def Jb (p0:(List Int)) (s1:(Int × (List Int))) (s4:(Int × (List Int))):Option (Qi (Int × (List Int)) (List Int)) :=
 if (decide (s4.1 < (p0.length:Int)))=true then
  (lkI p0 s1.1).bind fun a7 =>
  (Yb a7 s4.1).bind fun x9 =>
  if x9=true then
   (Qa fuel (Jc p0) 0).bind fun x17 =>
   if (s1.1 != s4.1)=true then
    (lkI s4.2 s1.1).bind fun a20 =>
    if 0≤(zv (s4.1)) then
     some (.next (zw (s4.1+1),(List.set s4.2 (Int.toNat s1.1) (zv (zb a20 ||| zb (zv (1*2^min (Int.toNat (zv (s4.1))) (IntKind.bits .u64)))).toNat))))
    else none
   else
   some (.next (zw (s4.1+1),s4.2))
  else
  (lkI p0 s4.1).bind fun a23 =>
  (Yb a23 s1.1).bind fun x25 =>
  (Qa fuel (Jg p0 s1 s4) (x25,0)).bind fun x41 =>
  if (s1.1 != s4.1)=true then
   if x41=true then
    (lkI s4.2 s1.1).bind fun a46 =>
    if 0≤(zv (s4.1)) then
     some (.next (zw (s4.1+1),(List.set s4.2 (Int.toNat s1.1) (zv (zb a46 ||| zb (zv (1*2^min (Int.toNat (zv (s4.1))) (IntKind.bits .u64)))).toNat))))
    else none
   else
   some (.next (zw (s4.1+1),s4.2))
  else
  some (.next (zw (s4.1+1),s4.2))
 else
 some (.done s4.2)
def Kv (p0:(List Int)) (s1:(Int × (List Int))):Option (Qi (Int × (List Int)) (List Int)) :=
 if (decide (s1.1 < (p0.length:Int)))=true then
  (Qa fuel (Jb p0 s1) (0,s1.2)).bind fun x50 =>
  some (.next (zw (s1.1+1),x50))
 else
 some (.done s1.2)
def Qcb (p0:(List Int)):Option (List Int) :=
 if 0≤(p0.length:Int)∧(p0.length:Int)≤(p0.length:Int)∧(p0.length:Int)*8≤140737488355328 then
  (Qa fuel (Kv p0) (0,(List.replicate (Int.toNat (p0.length:Int)) (0:Int)))).bind fun x52 =>
  some x52
 else none
def Jz (s12:(Int × (List Int))) (a10:Int) (s5:(Int × Int × (List Int) × (List Int))) (s15:(Int × (List Int))):Option (Qi (Int × (List Int)) (List Int)) :=
 if (decide (s15.1 < (s15.2.length:Int)))=true then
  if (s12.1 != s15.1)=true then
   (Yb (zv (zb a10 &&& ~~~ zb s5.1).toNat) s12.1).bind fun x20 =>
   if x20=true then
    (Yb (zv (zb a10 &&& ~~~ zb s5.1).toNat) s15.1).bind fun x24 =>
    if x24=true then
     (lkI s15.2 s12.1).bind fun a28 =>
     if 0≤(zv (s15.1)) then
      some (.next (zw (s15.1+1),(List.set s15.2 (Int.toNat s12.1) (zv (zb a28 ||| zb (zv (1*2^min (Int.toNat (zv (s15.1))) (IntKind.bits .u64)))).toNat))))
     else none
    else
    some (.next (zw (s15.1+1),s15.2))
   else
   some (.next (zw (s15.1+1),s15.2))
  else
  some (.next (zw (s15.1+1),s15.2))
 else
 some (.done s15.2)
def J3 (a10:Int) (s5:(Int × Int × (List Int) × (List Int))) (s12:(Int × (List Int))):Option (Qi (Int × (List Int)) (List Int)) :=
 if (decide (s12.1 < (s12.2.length:Int)))=true then
  (Qa fuel (Jz s12 a10 s5) (0,s12.2)).bind fun x32 =>
  some (.next (zw (s12.1+1),x32))
 else
 some (.done s12.2)
def Vu (p1:(List Int)) (s5:(Int × Int × (List Int) × (List Int))):Option (Qi (Int × Int × (List Int) × (List Int)) (List Int)) :=
 if (decide (s5.2.1 < (p1.length:Int)))=true then
  (lkI p1 s5.2.1).bind fun a8 =>
  (lkI s5.2.2.1 a8).bind fun a10 =>
  if 0≤(zv (a8)) then
   if (s5.2.2.2++([zv (zb (zv (zb a10 &&& ~~~ zb s5.1).toNat) ||| zb (zv (1*2^min (Int.toNat (zv (a8))) (IntKind.bits .u64)))).toNat]:(List Int))).length*8≤140737488355328 then
    (Qa fuel (J3 a10 s5) (0,s5.2.2.1)).bind fun x34 =>
    if 0≤(zv (a8)) then
     some (.next (zv (zb s5.1 ||| zb (zv (1*2^min (Int.toNat (zv (a8))) (IntKind.bits .u64)))).toNat,zw (s5.2.1+1),x34,(s5.2.2.2++([zv (zb (zv (zb a10 &&& ~~~ zb s5.1).toNat) ||| zb (zv (1*2^min (Int.toNat (zv (a8))) (IntKind.bits .u64)))).toNat]:(List Int)))))
    else none
   else none
  else none
 else
 some (.done s5.2.2.2)
def Qdg (p0:Qd) (p1:(List Int)):Option (List Int) :=
 (Yj p0).bind fun x1 =>
 (Qcb x1).bind fun x3 =>
 (Qa fuel (Vu p1) (0,0,x3,([]:(List Int)))).bind fun x36 =>
 some x36
def Qox  (s1:(Int × Int)):Option (Qi (Int × Int) Int) :=
 if (decide (s1.1 > 0))=true then
  some (.next (zv (Int.tdiv s1.1 2),zw (s1.2+(zw (Int.tmod s1.1 2)))))
 else
 some (.done s1.2)
def Jf (p0:Int):Option Int :=
 (Qa fuel (Qox) (p0,0)).bind fun x5 =>
 some x5
def g_ref10_common_b0 (p1:(List Int)) (p0:Int) (s1:(Int × Int × Int)):Option (Qi (Int × Int × Int) (Int × Int)) :=
 if (decide (s1.2.2 < (p1.length:Int)))=true then
  (lkI p1 s1.2.2).bind fun a4 =>
  (Jf (zv (zb p0 &&& zb a4).toNat)).bind fun x6 =>
  if (decide (x6 > s1.1))=true then
   (Jf (zv (zb p0 &&& zb a4).toNat)).bind fun x10 =>
   some (.next (x10,s1.2.2,zw (s1.2.2+1)))
  else
  some (.next (s1.1,s1.2.1,zw (s1.2.2+1)))
 else
 some (.done (s1.1,s1.2.1))
def Kj (p0:Int) (p1:(List Int)):Option (Int × Int) :=
 (Qa fuel (g_ref10_common_b0 p1 p0) (-1,0,0)).bind fun x13 =>
 some (x13.1,x13.2)
def Kg (p0:Qd) (p1:Int):Option Int :=
 (Yj p0).bind fun x1 =>
 (lkI x1 p1).bind fun a3 =>
 if 0≤(zv (p1)) then
  some (zv (zb a3 ||| zb (zv (1*2^min (Int.toNat (zv (p1))) (IntKind.bits .u64)))).toNat)
 else none
def Jx (s3:(Int × (List Int))) (x1:(List Int)) (s6:(Bool × Int)):Option (Qi (Bool × Int) Bool) :=
 if (decide (s6.2 < s3.1))=true then
  if s6.1=true then
   some (.next (true,zw (s6.2+1)))
  else
  (lkI x1 s3.1).bind fun a11 =>
  (lkI x1 s6.2).bind fun a13 =>
  some (.next (((zv (zb a11 &&& ~~~ zb a13).toNat)==0),zw (s6.2+1)))
 else
 some (.done s6.1)
def J0 (x1:(List Int)) (s3:(Int × (List Int))):Option (Qi (Int × (List Int)) (List Int)) :=
 if (decide (s3.1 < (x1.length:Int)))=true then
  (Qa fuel (Jx s3 x1) (false,0)).bind fun x16 =>
  if (!x16)=true then
   (lkI x1 s3.1).bind fun a19 =>
   if (s3.2++([a19]:(List Int))).length*8≤140737488355328 then
    some (.next (zw (s3.1+1),(s3.2++([a19]:(List Int)))))
   else none
  else
  some (.next (zw (s3.1+1),s3.2))
 else
 some (.done s3.2)
def J2 (x22:(List Int)) (s29:((List Bool) × (List Int) × (List Int))) (s32:(Int × Int × Int)):Option (Qi (Int × Int × Int) Int) :=
 if (decide (s32.2.2 < (x22.length:Int)))=true then
  (lkI x22 s32.2.2).bind fun a35 =>
  (Kj a35 s29.2.1).bind fun x37 =>
  (lkI s29.1 s32.2.2).bind fun a39 =>
  if (!a39)=true then
   if (decide (x37.1≥s32.2.1))=true then
    some (.next (s32.2.2,x37.1,zw (s32.2.2+1)))
   else
   some (.next (s32.1,s32.2.1,zw (s32.2.2+1)))
  else
  some (.next (s32.1,s32.2.1,zw (s32.2.2+1)))
 else
 some (.done s32.1)
def Vv (x22:(List Int)) (s29:((List Bool) × (List Int) × (List Int))):Option (Qi ((List Bool) × (List Int) × (List Int)) ((List Int) × (List Int))) :=
 if (decide ((s29.2.1.length:Int) < (x22.length:Int)))=true then
  (Qa fuel (J2 x22 s29) (0,-1,0)).bind fun x46 =>
  (lkI x22 x46).bind fun a47 =>
  (Kj a47 s29.2.1).bind fun x49 =>
  if (s29.2.1++([a47]:(List Int))).length*8≤140737488355328 then
   if (s29.2.2++([x49.2]:(List Int))).length*8≤140737488355328 then
    (lkI s29.1 x46).bind fun a51 =>
    some (.next ((List.set s29.1 (Int.toNat x46) true),(s29.2.1++([a47]:(List Int))),(s29.2.2++([x49.2]:(List Int)))))
   else none
  else none
 else
 some (.done (s29.2.1,s29.2.2))
def Jy (p0:Qd) (s56:(Int × (List Int))) (x55:((List Int) × (List Int))) (s59:Int):Option (Qi Int Int) :=
 (Kg p0 s56.1).bind fun x60 =>
 (lkI x55.1 s59).bind fun a62 =>
 if ((zv (zb x60 &&& ~~~ zb a62).toNat) != 0)=true then
  some (.next (zw (s59+1)))
 else
 some (.done s59)
def Qal (p0:Qd) (x55:((List Int) × (List Int))) (s56:(Int × (List Int))):Option (Qi (Int × (List Int)) (List Int)) :=
 if (decide (s56.1 < (p0.Nodes.length:Int)))=true then
  (Qa fuel (Jy p0 s56 x55) 0).bind fun x67 =>
  if (s56.2++([x67]:(List Int))).length*8≤140737488355328 then
   some (.next (zw (s56.1+1),(s56.2++([x67]:(List Int)))))
  else none
 else
 some (.done s56.2)
def Qds (p0:Qd) (p1:(List Int)):Option Qc :=
 (Qdg p0 p1).bind fun x1 =>
 (Qa fuel (J0 x1) (0,([]:(List Int)))).bind fun x22 =>
 (lkI x22 (zw ((x22.length:Int) - 1))).bind fun a23 =>
 if 0≤(x22.length:Int)∧(x22.length:Int)≤(x22.length:Int)∧(x22.length:Int)*1≤140737488355328 then
  (lkI (List.replicate (Int.toNat (x22.length:Int)) (false:Bool)) (zw ((x22.length:Int) - 1))).bind fun a25 =>
  (lkI (List.replicate (Int.toNat (x22.length:Int)) (false:Bool)) (zw ((x22.length:Int) - 1))).bind fun a27 =>
  (Qa fuel (Vv x22) ((List.set (List.replicate (Int.toNat (x22.length:Int)) (false:Bool)) (Int.toNat (zw ((x22.length:Int) - 1))) true),([a23]:(List Int)),([-1]:(List Int)))).bind fun x55 =>
  (Qa fuel (Qal p0 x55) (0,([]:(List Int)))).bind fun x69 =>
  some (Qc.mk x55.1 x55.2 x69)
 else none
def Qbv (p0:Int) (p1:Int) (p2:(Int × Int × Int × Int × Int × Int × Int × Int)) (s1:(Int × (List Int))):Option (Qi (Int × (List Int)) (List Int)) :=
 if (decide (s1.1 < p0))=true then
  if (s1.1==p1)=true then
   some (.next (zw (s1.1+1),s1.2))
  else
  if Int.tmod s1.1 8=0 then
   if (zw ((s1.2.length:Int)+1))≠0 then
    if 0≤(0:Int)∧(0:Int)≤(Int.tmod (zw (p2.1)) (zw ((s1.2.length:Int)+1)))∧(Int.tmod (zw (p2.1)) (zw ((s1.2.length:Int)+1)))≤(s1.2.length:Int) then
     if (sub s1.2 0 (Int.tmod (zw (p2.1)) (zw ((s1.2.length:Int)+1)))).length*8≤140737488355328 then
      if ((sub s1.2 0 (Int.tmod (zw (p2.1)) (zw ((s1.2.length:Int)+1))))++([s1.1]:(List Int))).length*8≤140737488355328 then
       if 0≤(Int.tmod (zw (p2.1)) (zw ((s1.2.length:Int)+1)))∧(Int.tmod (zw (p2.1)) (zw ((s1.2.length:Int)+1)))≤(s1.2.length:Int)∧(s1.2.length:Int)≤(s1.2.length:Int) then
        if (((sub s1.2 0 (Int.tmod (zw (p2.1)) (zw ((s1.2.length:Int)+1))))++([s1.1]:(List Int)))++(sub s1.2 (Int.tmod (zw (p2.1)) (zw ((s1.2.length:Int)+1))) (s1.2.length:Int))).length*8≤140737488355328 then
         some (.next (zw (s1.1+1),(((sub s1.2 0 (Int.tmod (zw (p2.1)) (zw ((s1.2.length:Int)+1))))++([s1.1]:(List Int)))++(sub s1.2 (Int.tmod (zw (p2.1)) (zw ((s1.2.length:Int)+1))) (s1.2.length:Int)))))
        else none
       else none
      else none
     else none
    else none
   else none
  else
  if Int.tmod s1.1 8=1 then
   if (zw ((s1.2.length:Int)+1))≠0 then
    if 0≤(0:Int)∧(0:Int)≤(Int.tmod (zw (p2.2.1)) (zw ((s1.2.length:Int)+1)))∧(Int.tmod (zw (p2.2.1)) (zw ((s1.2.length:Int)+1)))≤(s1.2.length:Int) then
     if (sub s1.2 0 (Int.tmod (zw (p2.2.1)) (zw ((s1.2.length:Int)+1)))).length*8≤140737488355328 then
      if ((sub s1.2 0 (Int.tmod (zw (p2.2.1)) (zw ((s1.2.length:Int)+1))))++([s1.1]:(List Int))).length*8≤140737488355328 then
       if 0≤(Int.tmod (zw (p2.2.1)) (zw ((s1.2.length:Int)+1)))∧(Int.tmod (zw (p2.2.1)) (zw ((s1.2.length:Int)+1)))≤(s1.2.length:Int)∧(s1.2.length:Int)≤(s1.2.length:Int) then
        if (((sub s1.2 0 (Int.tmod (zw (p2.2.1)) (zw ((s1.2.length:Int)+1))))++([s1.1]:(List Int)))++(sub s1.2 (Int.tmod (zw (p2.2.1)) (zw ((s1.2.length:Int)+1))) (s1.2.length:Int))).length*8≤140737488355328 then
         some (.next (zw (s1.1+1),(((sub s1.2 0 (Int.tmod (zw (p2.2.1)) (zw ((s1.2.length:Int)+1))))++([s1.1]:(List Int)))++(sub s1.2 (Int.tmod (zw (p2.2.1)) (zw ((s1.2.length:Int)+1))) (s1.2.length:Int)))))
        else none
       else none
      else none
     else none
    else none
   else none
  else
  if Int.tmod s1.1 8=2 then
   if (zw ((s1.2.length:Int)+1))≠0 then
    if 0≤(0:Int)∧(0:Int)≤(Int.tmod (zw (p2.2.2.1)) (zw ((s1.2.length:Int)+1)))∧(Int.tmod (zw (p2.2.2.1)) (zw ((s1.2.length:Int)+1)))≤(s1.2.length:Int) then
     if (sub s1.2 0 (Int.tmod (zw (p2.2.2.1)) (zw ((s1.2.length:Int)+1)))).length*8≤140737488355328 then
      if ((sub s1.2 0 (Int.tmod (zw (p2.2.2.1)) (zw ((s1.2.length:Int)+1))))++([s1.1]:(List Int))).length*8≤140737488355328 then
       if 0≤(Int.tmod (zw (p2.2.2.1)) (zw ((s1.2.length:Int)+1)))∧(Int.tmod (zw (p2.2.2.1)) (zw ((s1.2.length:Int)+1)))≤(s1.2.length:Int)∧(s1.2.length:Int)≤(s1.2.length:Int) then
        if (((sub s1.2 0 (Int.tmod (zw (p2.2.2.1)) (zw ((s1.2.length:Int)+1))))++([s1.1]:(List Int)))++(sub s1.2 (Int.tmod (zw (p2.2.2.1)) (zw ((s1.2.length:Int)+1))) (s1.2.length:Int))).length*8≤140737488355328 then
         some (.next (zw (s1.1+1),(((sub s1.2 0 (Int.tmod (zw (p2.2.2.1)) (zw ((s1.2.length:Int)+1))))++([s1.1]:(List Int)))++(sub s1.2 (Int.tmod (zw (p2.2.2.1)) (zw ((s1.2.length:Int)+1))) (s1.2.length:Int)))))
        else none
       else none
      else none
     else none
    else none
   else none
  else
  if Int.tmod s1.1 8=3 then
   if (zw ((s1.2.length:Int)+1))≠0 then
    if 0≤(0:Int)∧(0:Int)≤(Int.tmod (zw (p2.2.2.2.1)) (zw ((s1.2.length:Int)+1)))∧(Int.tmod (zw (p2.2.2.2.1)) (zw ((s1.2.length:Int)+1)))≤(s1.2.length:Int) then
     if (sub s1.2 0 (Int.tmod (zw (p2.2.2.2.1)) (zw ((s1.2.length:Int)+1)))).length*8≤140737488355328 then
      if ((sub s1.2 0 (Int.tmod (zw (p2.2.2.2.1)) (zw ((s1.2.length:Int)+1))))++([s1.1]:(List Int))).length*8≤140737488355328 then
       if 0≤(Int.tmod (zw (p2.2.2.2.1)) (zw ((s1.2.length:Int)+1)))∧(Int.tmod (zw (p2.2.2.2.1)) (zw ((s1.2.length:Int)+1)))≤(s1.2.length:Int)∧(s1.2.length:Int)≤(s1.2.length:Int) then
        if (((sub s1.2 0 (Int.tmod (zw (p2.2.2.2.1)) (zw ((s1.2.length:Int)+1))))++([s1.1]:(List Int)))++(sub s1.2 (Int.tmod (zw (p2.2.2.2.1)) (zw ((s1.2.length:Int)+1))) (s1.2.length:Int))).length*8≤140737488355328 then
         some (.next (zw (s1.1+1),(((sub s1.2 0 (Int.tmod (zw (p2.2.2.2.1)) (zw ((s1.2.length:Int)+1))))++([s1.1]:(List Int)))++(sub s1.2 (Int.tmod (zw (p2.2.2.2.1)) (zw ((s1.2.length:Int)+1))) (s1.2.length:Int)))))
        else none
       else none
      else none
     else none
    else none
   else none
  else
  if Int.tmod s1.1 8=4 then
   if (zw ((s1.2.length:Int)+1))≠0 then
    if 0≤(0:Int)∧(0:Int)≤(Int.tmod (zw (p2.2.2.2.2.1)) (zw ((s1.2.length:Int)+1)))∧(Int.tmod (zw (p2.2.2.2.2.1)) (zw ((s1.2.length:Int)+1)))≤(s1.2.length:Int) then
     if (sub s1.2 0 (Int.tmod (zw (p2.2.2.2.2.1)) (zw ((s1.2.length:Int)+1)))).length*8≤140737488355328 then
      if ((sub s1.2 0 (Int.tmod (zw (p2.2.2.2.2.1)) (zw ((s1.2.length:Int)+1))))++([s1.1]:(List Int))).length*8≤140737488355328 then
       if 0≤(Int.tmod (zw (p2.2.2.2.2.1)) (zw ((s1.2.length:Int)+1)))∧(Int.tmod (zw (p2.2.2.2.2.1)) (zw ((s1.2.length:Int)+1)))≤(s1.2.length:Int)∧(s1.2.length:Int)≤(s1.2.length:Int) then
        if (((sub s1.2 0 (Int.tmod (zw (p2.2.2.2.2.1)) (zw ((s1.2.length:Int)+1))))++([s1.1]:(List Int)))++(sub s1.2 (Int.tmod (zw (p2.2.2.2.2.1)) (zw ((s1.2.length:Int)+1))) (s1.2.length:Int))).length*8≤140737488355328 then
         some (.next (zw (s1.1+1),(((sub s1.2 0 (Int.tmod (zw (p2.2.2.2.2.1)) (zw ((s1.2.length:Int)+1))))++([s1.1]:(List Int)))++(sub s1.2 (Int.tmod (zw (p2.2.2.2.2.1)) (zw ((s1.2.length:Int)+1))) (s1.2.length:Int)))))
        else none
       else none
      else none
     else none
    else none
   else none
  else
  if Int.tmod s1.1 8=5 then
   if (zw ((s1.2.length:Int)+1))≠0 then
    if 0≤(0:Int)∧(0:Int)≤(Int.tmod (zw (p2.2.2.2.2.2.1)) (zw ((s1.2.length:Int)+1)))∧(Int.tmod (zw (p2.2.2.2.2.2.1)) (zw ((s1.2.length:Int)+1)))≤(s1.2.length:Int) then
     if (sub s1.2 0 (Int.tmod (zw (p2.2.2.2.2.2.1)) (zw ((s1.2.length:Int)+1)))).length*8≤140737488355328 then
      if ((sub s1.2 0 (Int.tmod (zw (p2.2.2.2.2.2.1)) (zw ((s1.2.length:Int)+1))))++([s1.1]:(List Int))).length*8≤140737488355328 then
       if 0≤(Int.tmod (zw (p2.2.2.2.2.2.1)) (zw ((s1.2.length:Int)+1)))∧(Int.tmod (zw (p2.2.2.2.2.2.1)) (zw ((s1.2.length:Int)+1)))≤(s1.2.length:Int)∧(s1.2.length:Int)≤(s1.2.length:Int) then
        if (((sub s1.2 0 (Int.tmod (zw (p2.2.2.2.2.2.1)) (zw ((s1.2.length:Int)+1))))++([s1.1]:(List Int)))++(sub s1.2 (Int.tmod (zw (p2.2.2.2.2.2.1)) (zw ((s1.2.length:Int)+1))) (s1.2.length:Int))).length*8≤140737488355328 then
         some (.next (zw (s1.1+1),(((sub s1.2 0 (Int.tmod (zw (p2.2.2.2.2.2.1)) (zw ((s1.2.length:Int)+1))))++([s1.1]:(List Int)))++(sub s1.2 (Int.tmod (zw (p2.2.2.2.2.2.1)) (zw ((s1.2.length:Int)+1))) (s1.2.length:Int)))))
        else none
       else none
      else none
     else none
    else none
   else none
  else
  if Int.tmod s1.1 8=6 then
   if (zw ((s1.2.length:Int)+1))≠0 then
    if 0≤(0:Int)∧(0:Int)≤(Int.tmod (zw (p2.2.2.2.2.2.2.1)) (zw ((s1.2.length:Int)+1)))∧(Int.tmod (zw (p2.2.2.2.2.2.2.1)) (zw ((s1.2.length:Int)+1)))≤(s1.2.length:Int) then
     if (sub s1.2 0 (Int.tmod (zw (p2.2.2.2.2.2.2.1)) (zw ((s1.2.length:Int)+1)))).length*8≤140737488355328 then
      if ((sub s1.2 0 (Int.tmod (zw (p2.2.2.2.2.2.2.1)) (zw ((s1.2.length:Int)+1))))++([s1.1]:(List Int))).length*8≤140737488355328 then
       if 0≤(Int.tmod (zw (p2.2.2.2.2.2.2.1)) (zw ((s1.2.length:Int)+1)))∧(Int.tmod (zw (p2.2.2.2.2.2.2.1)) (zw ((s1.2.length:Int)+1)))≤(s1.2.length:Int)∧(s1.2.length:Int)≤(s1.2.length:Int) then
        if (((sub s1.2 0 (Int.tmod (zw (p2.2.2.2.2.2.2.1)) (zw ((s1.2.length:Int)+1))))++([s1.1]:(List Int)))++(sub s1.2 (Int.tmod (zw (p2.2.2.2.2.2.2.1)) (zw ((s1.2.length:Int)+1))) (s1.2.length:Int))).length*8≤140737488355328 then
         some (.next (zw (s1.1+1),(((sub s1.2 0 (Int.tmod (zw (p2.2.2.2.2.2.2.1)) (zw ((s1.2.length:Int)+1))))++([s1.1]:(List Int)))++(sub s1.2 (Int.tmod (zw (p2.2.2.2.2.2.2.1)) (zw ((s1.2.length:Int)+1))) (s1.2.length:Int)))))
        else none
       else none
      else none
     else none
    else none
   else none
  else
  if Int.tmod s1.1 8=7 then
   if (zw ((s1.2.length:Int)+1))≠0 then
    if 0≤(0:Int)∧(0:Int)≤(Int.tmod (zw (p2.2.2.2.2.2.2.2)) (zw ((s1.2.length:Int)+1)))∧(Int.tmod (zw (p2.2.2.2.2.2.2.2)) (zw ((s1.2.length:Int)+1)))≤(s1.2.length:Int) then
     if (sub s1.2 0 (Int.tmod (zw (p2.2.2.2.2.2.2.2)) (zw ((s1.2.length:Int)+1)))).length*8≤140737488355328 then
      if ((sub s1.2 0 (Int.tmod (zw (p2.2.2.2.2.2.2.2)) (zw ((s1.2.length:Int)+1))))++([s1.1]:(List Int))).length*8≤140737488355328 then
       if 0≤(Int.tmod (zw (p2.2.2.2.2.2.2.2)) (zw ((s1.2.length:Int)+1)))∧(Int.tmod (zw (p2.2.2.2.2.2.2.2)) (zw ((s1.2.length:Int)+1)))≤(s1.2.length:Int)∧(s1.2.length:Int)≤(s1.2.length:Int) then
        if (((sub s1.2 0 (Int.tmod (zw (p2.2.2.2.2.2.2.2)) (zw ((s1.2.length:Int)+1))))++([s1.1]:(List Int)))++(sub s1.2 (Int.tmod (zw (p2.2.2.2.2.2.2.2)) (zw ((s1.2.length:Int)+1))) (s1.2.length:Int))).length*8≤140737488355328 then
         some (.next (zw (s1.1+1),(((sub s1.2 0 (Int.tmod (zw (p2.2.2.2.2.2.2.2)) (zw ((s1.2.length:Int)+1))))++([s1.1]:(List Int)))++(sub s1.2 (Int.tmod (zw (p2.2.2.2.2.2.2.2)) (zw ((s1.2.length:Int)+1))) (s1.2.length:Int)))))
        else none
       else none
      else none
     else none
    else none
   else none
  else
  none
 else
 some (.done s1.2)
def Qbd (p0:Int) (p1:Int) (p2:(Int × Int × Int × Int × Int × Int × Int × Int)):Option (List Int) :=
 (Qa fuel (Qbv p0 p1 p2) (0,([]:(List Int)))).bind fun x31 =>
 some x31
def Xs (a4:Tapi_Node) (s6:(Int × (List (List Int)))):Option (Qi (Int × (List (List Int))) (List (List Int))) :=
 if (decide (s6.1 < (a4.Rows.length:Int)))=true then
  (lkI a4.Rows s6.1).bind fun a9 =>
  if a9.length*8≤140737488355328 then
   if (s6.2++[a9]).length*24≤140737488355328 then
    some (.next (zw (s6.1+1),(s6.2++[a9])))
   else none
  else none
 else
 some (.done s6.2)
def Yo (p1:Qd) (s1:(Int × (List Tapi_Node))):Option (Qi (Int × (List Tapi_Node)) (List Tapi_Node)) :=
 if (decide (s1.1 < (p1.Nodes.length:Int)))=true then
  (lkI p1.Nodes s1.1).bind fun a4 =>
  if a4.Parents.length*8≤140737488355328 then
   (Qa fuel (Xs a4) (0,([]:List (List Int)))).bind fun x12 =>
   if (s1.2++([(Tapi_Node.mk a4.Card a4.Parents x12)]:(List Tapi_Node))).length*56≤140737488355328 then
    some (.next (zw (s1.1+1),(s1.2++([(Tapi_Node.mk a4.Card a4.Parents x12)]:(List Tapi_Node)))))
   else none
  else none
 else
 some (.done s1.2)
def Qex (w0_0:Int) (w0_1:(List Tapi_Node)):Option Qd :=
 some (Qd.mk w0_0 w0_1)
def Qeu (a20:Tapi_Node) (s22:(Int × (List (List Int)))):Option (Qi (Int × (List (List Int))) (List (List Int))) :=
 if (decide (s22.1 < (a20.Rows.length:Int)))=true then
  (lkI a20.Rows s22.1).bind fun a25 =>
  if a25.length*8≤140737488355328 then
   if (s22.2++[a25]).length*24≤140737488355328 then
    some (.next (zw (s22.1+1),(s22.2++[a25])))
   else none
  else none
 else
 some (.done s22.2)
def Qey (a32:Tapi_Node) (s34:(Int × (List (List Int)))):Option (Qi (Int × (List (List Int))) (List (List Int))) :=
 if (decide (s34.1 < (a32.Rows.length:Int)))=true then
  (lkI a32.Rows s34.1).bind fun a37 =>
  if a37.length*8≤140737488355328 then
   if (s34.2++[a37]).length*24≤140737488355328 then
    some (.next (zw (s34.1+1),(s34.2++[a37])))
   else none
  else none
 else
 some (.done s34.2)
def Vn (p1:Qd) (y17:(Int × (List Tapi_Node))) (s29:(Int × (List Tapi_Node))):Option (Qi (Int × (List Tapi_Node)) (List Tapi_Node)) :=
 if (decide (s29.1 < (p1.Nodes.length:Int)))=true then
  (lkI p1.Nodes s29.1).bind fun a32 =>
  if a32.Parents.length*8≤140737488355328 then
   (Qa fuel (Qey a32) (0,([]:List (List Int)))).bind fun x40 =>
   (lkI s29.2 (y17.2.length:Int)).bind fun a41 =>
   if (s29.2++([(Tapi_Node.mk a32.Card a32.Parents x40)]:(List Tapi_Node))).length*56≤140737488355328 then
    some (.next (zw (s29.1+1),(s29.2++([(Tapi_Node.mk a32.Card a32.Parents x40)]:(List Tapi_Node)))))
   else none
  else none
 else
 some (.done s29.2)
def Qek (w1_0:Int) (w1_1:(List Tapi_Node)) (w1_2:Int) (w1_3:Int) (w1_4:(List Int)) (w1_5:(List (List Int))):Option Qd :=
 (lkI w1_1 w1_2).bind fun a47 =>
 some (Qd.mk w1_0 (List.set w1_1 (Int.toNat w1_2) (Tapi_Node.mk w1_3 w1_4 w1_5)))
def Qm (w3_0:Int) (w3_1:(List Tapi_Node)) (w3_2:Int) (w3_3:Int) (w3_4:(List Int)) (w3_5:(List (List Int))):Option Qd :=
 (lkI w3_1 w3_2).bind fun a58 =>
 some (Qd.mk w3_0 (List.set w3_1 (Int.toNat w3_2) (Tapi_Node.mk w3_3 w3_4 w3_5)))
def Qa1 (w4_0:Int) (w4_1:(List Tapi_Node)) (w4_2:Int) (w4_3:Int) (w4_4:(List (List Int))):Option Qd :=
 (lkI w4_1 w4_2).bind fun a74 =>
 some (Qd.mk w4_0 (List.set w4_1 (Int.toNat w4_2) (Tapi_Node.mk w4_3 [] w4_4)))
def Qa6 (w5_0:Int) (w5_1:(List Tapi_Node)):Option Qd :=
 some (Qd.mk w5_0 w5_1)
def Qar (w2_1:Int) (s136:(Int × Int × (List (List Int)))):Option (Qi (Int × Int × (List (List Int))) (List (List Int))) :=
 if (decide (s136.1 < s136.2.1))=true then
  (lkI s136.2.2 w2_1).bind fun a139 =>
  (lkI a139 s136.1).bind fun a141 =>
  (lkI a139 s136.2.1).bind fun a143 =>
  (lkI (List.set a139 (Int.toNat s136.1) a143) s136.2.1).bind fun a145 =>
  some (.next (zw (s136.1+1),zw (s136.2.1 - 1),(List.set (List.set s136.2.2 (Int.toNat w2_1) (List.set a139 (Int.toNat s136.1) a143)) (Int.toNat w2_1) (List.set (List.set a139 (Int.toNat s136.1) a143) (Int.toNat s136.2.1) a141))))
 else
 some (.done s136.2.2)
def Vp (w2_0:Nat) (w2_1:Int) (w2_2:Int) (w2_3:Int) (w2_4:Int) (w2_5:Int) (w2_6:Int) (w2_7:Int) (w2_8:(List Tapi_Node)) (w2_9:Int) (w2_10:Int) (w2_11:(List Int)) (w2_12:(List (List Int))):Option Qd :=
 if ((Int.tmod w2_2 12)==0)=true then
  Qm w2_5 w2_8 w2_9 w2_10 w2_11 w2_12
 else
 if ((Int.tmod w2_2 12)==1)=true then
  (lkI w2_8 w2_9).bind fun a64 =>
  Qm w2_6 w2_8 w2_9 w2_5 w2_11 w2_12
 else
 if ((Int.tmod w2_2 12)==2)=true then
  (lkI w2_8 w2_9).bind fun a68 =>
  if (w2_11++([w2_5]:(List Int))).length*8≤140737488355328 then
   Qm w2_6 w2_8 w2_9 w2_10 (w2_11++([w2_5]:(List Int))) w2_12
  else none
 else
 if ((Int.tmod w2_2 12)==3)=true then
  (lkI w2_8 w2_9).bind fun a72 =>
  Qa1 w2_6 w2_8 w2_9 w2_10 w2_12
 else
 if ((Int.tmod w2_2 12)==4)=true then
  (lkI w2_8 w2_9).bind fun a80 =>
  if (w2_12++[([w2_5]:(List Int))]).length*24≤140737488355328 then
   Qm w2_6 w2_8 w2_9 w2_10 w2_11 (w2_12++[([w2_5]:(List Int))])
  else none
 else
 if ((Int.tmod w2_2 12)==5)=true then
  if (decide (w2_1≥0))=true then
   (lkI w2_8 w2_9).bind fun a86 =>
   if 0≤(0:Int)∧(0:Int)≤w2_1∧w2_1≤(w2_12.length:Int) then
    Qa6 w2_6 (List.set w2_8 (Int.toNat w2_9) (Tapi_Node.mk w2_10 w2_11 (sub w2_12 0 w2_1)))
   else none
  else
  Qm w2_6 w2_8 w2_9 w2_10 w2_11 w2_12
 else
 if ((Int.tmod w2_2 12)==6)=true then
  if (decide (w2_1≥0))=true then
   (lkI w2_8 w2_9).bind fun a95 =>
   (lkI w2_12 w2_1).bind fun a97 =>
   if (decide ((a97.length:Int) > 0))=true then
    (lkI a97 0).bind fun a101 =>
    Qm w2_6 w2_8 w2_9 w2_10 w2_11 (List.set w2_12 (Int.toNat w2_1) (List.set a97 (Int.toNat 0) w2_5))
   else
   Qm w2_6 w2_8 w2_9 w2_10 w2_11 w2_12
  else
  Qm w2_6 w2_8 w2_9 w2_10 w2_11 w2_12
 else
 if ((Int.tmod w2_2 12)==7)=true then
  if (decide (w2_1≥0))=true then
   (lkI w2_12 w2_1).bind fun a108 =>
   (lkI w2_8 w2_9).bind fun a111 =>
   if (a108++([0]:(List Int))).length*8≤140737488355328 then
    Qm w2_6 w2_8 w2_9 w2_10 w2_11 (List.set (List.set w2_12 (Int.toNat w2_1) ([]:List Int)) (Int.toNat w2_1) (a108++([0]:(List Int))))
   else none
  else
  Qm w2_6 w2_8 w2_9 w2_10 w2_11 w2_12
 else
 if ((Int.tmod w2_2 12)==8)=true then
  if (decide (w2_1≥0))=true then
   (lkI w2_8 w2_9).bind fun a118 =>
   (lkI w2_12 w2_1).bind fun a120 =>
   if (decide ((a120.length:Int) > 0))=true then
    if 0≤(a120.length:Int)∧(a120.length:Int)≤(a120.length:Int)∧(a120.length:Int)*8≤140737488355328 then
     (lkI (List.replicate (Int.toNat (a120.length:Int)) (0:Int)) 0).bind fun a125 =>
     Qm w2_6 w2_8 w2_9 w2_10 w2_11 (List.set (List.set w2_12 (Int.toNat w2_1) (List.replicate (Int.toNat (a120.length:Int)) (0:Int))) (Int.toNat w2_1) (List.set (List.replicate (Int.toNat (a120.length:Int)) (0:Int)) (Int.toNat 0) w2_6))
    else none
   else
   Qm w2_6 w2_8 w2_9 w2_10 w2_11 w2_12
  else
  Qm w2_6 w2_8 w2_9 w2_10 w2_11 w2_12
 else
 if ((Int.tmod w2_2 12)==9)=true then
  if (decide (w2_1≥0))=true then
   (lkI w2_8 w2_9).bind fun a132 =>
   (lkI w2_12 w2_1).bind fun a134 =>
   (Qa fuel (Qar w2_1) (0,zw ((a134.length:Int) - 1),w2_12)).bind fun x150 =>
   Qm w2_6 w2_8 w2_9 w2_10 w2_11 x150
  else
  Qm w2_6 w2_8 w2_9 w2_10 w2_11 w2_12
 else
 if ((Int.tmod w2_2 12)==10)=true then
  (lkI w2_8 w2_9).bind fun a153 =>
  if (w2_8++([(Tapi_Node.mk 1 [] [[w2_6]])]:(List Tapi_Node))).length*56≤140737488355328 then
   Qm w2_6 (w2_8++([(Tapi_Node.mk 1 [] [[w2_6]])]:(List Tapi_Node))) w2_9 w2_10 w2_11 w2_12
  else none
 else
 (lkI w2_8 w2_9).bind fun a155 =>
 if 0≤(0:Int)∧(0:Int)≤(zw ((((List.set w2_8 (Int.toNat w2_9) (Tapi_Node.mk w2_10 w2_11 w2_12)).length):Int) - 1))∧(zw ((((List.set w2_8 (Int.toNat w2_9) (Tapi_Node.mk w2_10 w2_11 w2_12)).length):Int) - 1))≤((List.set w2_8 (Int.toNat w2_9) (Tapi_Node.mk w2_10 w2_11 w2_12)).length:Int) then
  some (Qd.mk w2_6 (sub (List.set w2_8 (Int.toNat w2_9) (Tapi_Node.mk w2_10 w2_11 w2_12)) 0 (zw ((((List.set w2_8 (Int.toNat w2_9) (Tapi_Node.mk w2_10 w2_11 w2_12)).length):Int) - 1))))
 else none
def J5 (p0:Q8) (p1:Qd):Option Qd :=
 (Qa fuel (Qau (fun s=>decide (s.1=(Int.tmod (zw p0.At) (p1.Nodes.length:Int)))) (Yo p1)) (0,([]:(List Tapi_Node)))).bind fun x160=>match x160 with
 | .inl y17=>(
  if (decide (y17.1 < (p1.Nodes.length:Int)))=true then
   (lkI p1.Nodes y17.1).bind fun a20 =>
   if a20.Parents.length*8≤140737488355328 then
    (Qa fuel (Qeu a20) (0,([]:List (List Int)))).bind fun x28 =>
    if (y17.2++[(default:Tapi_Node)]).length*56≤140737488355328 then
     (Qa fuel (Vn p1 y17) (zw (y17.1+1),(y17.2++[(default:Tapi_Node)]))).bind fun x44 =>
     if ((x44.length:Int)==0)=true then
      Qek p1.Grain x44 (y17.2.length:Int) a20.Card a20.Parents x28
     else
     if (x44.length:Int)≠0 then
      (lkI x44 (y17.2.length:Int)).bind fun a51 =>
      if Int.tmod (zw (p0.At)) (x44.length:Int)=(y17.2.length:Int) then
       if (decide ((x28.length:Int) > 0))=true then
        if (x28.length:Int)≠0 then
         Vp (Int.toNat (y17.2.length:Int)) (Int.tmod (zw (p0.Row)) (x28.length:Int)) p0.What p0.At p0.Row p0.N p1.Grain 0 x44 (y17.2.length:Int) a20.Card a20.Parents x28
        else none
       else
       Vp (Int.toNat (y17.2.length:Int)) (-1) p0.What p0.At p0.Row p0.N p1.Grain 0 x44 (y17.2.length:Int) a20.Card a20.Parents x28
      else none
     else none
    else none
   else none
  else
  none)
 | .inr x14=>(
  if ((x14.length:Int)==0)=true then
   Qex p1.Grain x14
  else
  none)
def Qee (p0:Qc):Option Qc :=
 if 0≤(0:Int)∧(0:Int)≤(if 10 < (p0.Cliques.length:Int) then 10 else (p0.Cliques.length:Int))∧(if 10 < (p0.Cliques.length:Int) then 10 else (p0.Cliques.length:Int))≤(p0.Cliques.length:Int) then
  if 0≤(0:Int)∧(0:Int)≤(if 10 < (p0.Up.length:Int) then 10 else (p0.Up.length:Int))∧(if 10 < (p0.Up.length:Int) then 10 else (p0.Up.length:Int))≤(p0.Up.length:Int) then
   if 0≤(0:Int)∧(0:Int)≤(if 10 < (p0.Home.length:Int) then 10 else (p0.Home.length:Int))∧(if 10 < (p0.Home.length:Int) then 10 else (p0.Home.length:Int))≤(p0.Home.length:Int) then
    some (Qc.mk (sub p0.Cliques 0 (if 10 < (p0.Cliques.length:Int) then 10 else (p0.Cliques.length:Int))) (sub p0.Up 0 (if 10 < (p0.Up.length:Int) then 10 else (p0.Up.length:Int))) (sub p0.Home 0 (if 10 < (p0.Home.length:Int) then 10 else (p0.Home.length:Int))))
   else none
  else none
 else none
def V2 (p0:(List Int)) (p1:Int) (s1:Int):Option (Qi Int (Unit ⊕ Unit)) :=
 if (decide (s1 < (p0.length:Int)))=true then
  (lkI p0 s1).bind fun a4 =>
  if (decide (a4 < 0))=true then
   some (.done (Sum.inl ()))
  else
  if (decide (a4≥p1))=true then
   some (.done (Sum.inl ()))
  else
  if (decide (s1 > 0))=true then
   (lkI p0 (zw (s1 - 1))).bind fun a12 =>
   if (decide (a4≤a12))=true then
    some (.done (Sum.inl ()))
   else
   some (.next (zw (s1+1)))
  else
  some (.next (zw (s1+1)))
 else
 some (.done (Sum.inr ()))
def Ki (p0:(List Int)) (p1:Int):Option Bool :=
 (Qa fuel (V2 p0 p1) 0).bind fun x16=>match x16 with
 | .inl x17=>(
  some false)
 | .inr x18=>(
  some true)
def K9 (p0:(List Int)) (s4:(Int × Int)):Option (Qi (Int × Int) Int) :=
 if (decide (s4.2 < (p0.length:Int)))=true then
  (Yb s4.1 s4.2).bind fun x7 =>
  if x7=true then
   (lkI p0 s4.2).bind fun a11 =>
   some (.next (zv (zb s4.1 ||| zb a11).toNat,zw (s4.2+1)))
  else
  some (.next (s4.1,zw (s4.2+1)))
 else
 some (.done s4.1)
def Qb9 (p0:(List Int)) (s1:(Int × Int)):Option (Qi (Int × Int) Int) :=
 if (decide (s1.2 < (p0.length:Int)))=true then
  (Qa fuel (K9 p0) (s1.1,0)).bind fun x14 =>
  some (.next (x14,zw (s1.2+1)))
 else
 some (.done s1.1)
def Qff (p0:(List Int)) (p1:Int):Option Int :=
 (Qa fuel (Qb9 p0) (p1,0)).bind fun x16 =>
 some x16
def Vo (p0:(List Int)) (s1:Int):Option (Qi Int (Unit ⊕ Unit)) :=
 if (decide (s1 < (p0.length:Int)))=true then
  (lkI p0 s1).bind fun a4 =>
  (Qff p0 a4).bind fun x6 =>
  (Yb x6 s1).bind fun x8 =>
  if x8=true then
   some (.done (Sum.inl ()))
  else
  some (.next (zw (s1+1)))
 else
 some (.done (Sum.inr ()))
def Js (p0:(List Int)):Option Bool :=
 (Qa fuel (Vo p0) 0).bind fun x12=>match x12 with
 | .inl x13=>(
  some false)
 | .inr x14=>(
  some true)
def Yd (p0:Qd) (s9:(Int × Int)):Option (Qi (Int × Int) (Unit ⊕ Int)) :=
 if (decide (s9.2 < (p0.Nodes.length:Int)))=true then
  (lkI p0.Nodes s9.2).bind fun a12 =>
  if (decide (a12.Card < 1))=true then
   some (.done (Sum.inl ()))
  else
  if (decide (a12.Card > 4))=true then
   some (.done (Sum.inl ()))
  else
  (Ki a12.Parents (p0.Nodes.length:Int)).bind fun x18 =>
  if (!x18)=true then
   some (.done (Sum.inl ()))
  else
  some (.next (zw (s9.1*a12.Card),zw (s9.2+1)))
 else
 some (.done (Sum.inr s9.1))
def Yh (a47:(List Int)) (p0:Qd) (s51:(Int × Int)):Option (Qi (Int × Int) (Unit ⊕ Int)) :=
 if (decide (s51.2 < (a47.length:Int)))=true then
  (lkI a47 s51.2).bind fun a54 =>
  if (decide (a54 < 0))=true then
   some (.done (Sum.inl ()))
  else
  if (decide (a54 > p0.Grain))=true then
   some (.done (Sum.inl ()))
  else
  some (.next (zw (s51.1+a54),zw (s51.2+1)))
 else
 some (.done (Sum.inr s51.1))
def Yc (a36:Tapi_Node) (p0:Qd) (s44:Int):Option (Qi Int (Unit ⊕ Unit)) :=
 if (decide (s44 < (a36.Rows.length:Int)))=true then
  (lkI a36.Rows s44).bind fun a47 =>
  if ((a47.length:Int) != a36.Card)=true then
   some (.done (Sum.inl ()))
  else
  (Qa fuel (Yh a47 p0) (0,0)).bind fun x60=>match x60 with
  | .inl x61=>(
   some (.done (Sum.inl ())))
  | .inr x62=>(
   if (x62 != p0.Grain)=true then
    some (.done (Sum.inl ()))
   else
   some (.next (zw (s44+1))))
 else
 some (.done (Sum.inr ()))
def Ye (p0:Qd) (s33:Int):Option (Qi Int (Unit ⊕ Unit)) :=
 if (decide (s33 < (p0.Nodes.length:Int)))=true then
  (lkI p0.Nodes s33).bind fun a36 =>
  (Zf p0 s33).bind fun x38 =>
  (Kl x38).bind fun x40 =>
  if ((a36.Rows.length:Int) != x40)=true then
   some (.done (Sum.inl ()))
  else
  (Qa fuel (Yc a36 p0) 0).bind fun x65=>match x65 with
  | .inl x66=>(
   some (.done (Sum.inl ())))
  | .inr x67=>(
   some (.next (zw (s33+1))))
 else
 some (.done (Sum.inr ()))
def K3 (p0:Qd):Option Bool :=
 if (decide (p0.Grain < 1))=true then
  some false
 else
 if (decide (p0.Grain > 60))=true then
  some false
 else
 if (decide ((p0.Nodes.length:Int) < 1))=true then
  some false
 else
 if (decide ((p0.Nodes.length:Int) > 8))=true then
  some false
 else
 (Qa fuel (Yd p0) (1,0)).bind fun x22=>match x22 with
 | .inl x23=>(
  some false)
 | .inr x24=>(
  if (decide (x24 > 1024))=true then
   some false
  else
  (Yj p0).bind fun x27 =>
  (Js x27).bind fun x29 =>
  if (!x29)=true then
   some false
  else
  (Qa fuel (Ye p0) 0).bind fun x68=>match x68 with
  | .inl x69=>(
   some false)
  | .inr x70=>(
   some true))
def Yi (s13:Int) (p1:Qc) (a24:Int) (a16:Int) (s30:Int):Option (Qi Int (Unit ⊕ Unit)) :=
 if (decide (s30 < s13))=true then
  (lkI p1.Cliques s30).bind fun a33 =>
  (lkI p1.Cliques a24).bind fun a35 =>
  if ((zv (zb (zv (zb a16 &&& zb a33).toNat) &&& ~~~ zb a35).toNat) != 0)=true then
   some (.done (Sum.inl ()))
  else
  some (.next (zw (s30+1)))
 else
 some (.done (Sum.inr ()))
def Qgb (s13:Int) (p1:Qc) (a16:Int) (s42:Int):Option (Qi Int (Unit ⊕ Unit)) :=
 if (decide (s42 < s13))=true then
  (lkI p1.Cliques s42).bind fun a45 =>
  (lkI p1.Up s13).bind fun a47 =>
  (lkI p1.Cliques a47).bind fun a49 =>
  if ((zv (zb (zv (zb a16 &&& zb a45).toNat) &&& ~~~ zb a49).toNat) != 0)=true then
   some (.done (Sum.inl ()))
  else
  some (.next (zw (s42+1)))
 else
 some (.done (Sum.inr ()))
def Yf (p1:Qc) (p0:Qd) (s13:Int):Option (Qi Int (Unit ⊕ Unit)) :=
 if (decide (s13 < (p1.Cliques.length:Int)))=true then
  (lkI p1.Cliques s13).bind fun a16 =>
  if (a16==0)=true then
   some (.done (Sum.inl ()))
  else
  if 0≤(zv ((p0.Nodes.length:Int))) then
   if (decide (a16≥(zv (1*2^min (Int.toNat (zv ((p0.Nodes.length:Int)))) (IntKind.bits .u64)))))=true then
    some (.done (Sum.inl ()))
   else
   if (decide (s13 > 0))=true then
    (lkI p1.Up s13).bind fun a24 =>
    if (decide (a24 < 0))=true then
     some (.done (Sum.inl ()))
    else
    if (decide (a24≥s13))=true then
     some (.done (Sum.inl ()))
    else
    (Qa fuel (Yi s13 p1 a24 a16) 0).bind fun x39=>match x39 with
    | .inl x40=>(
     some (.done (Sum.inl ())))
    | .inr x41=>(
     some (.next (zw (s13+1))))
   else
   (Qa fuel (Qgb s13 p1 a16) 0).bind fun x53=>match x53 with
   | .inl x54=>(
    some (.done (Sum.inl ())))
   | .inr x55=>(
    some (.next (zw (s13+1))))
  else none
 else
 some (.done (Sum.inr ()))
def Yg (p0:Qd) (p1:Qc) (s59:Int):Option (Qi Int (Unit ⊕ Unit)) :=
 if (decide (s59 < (p0.Nodes.length:Int)))=true then
  (lkI p1.Home s59).bind fun a62 =>
  if (decide (a62 < 0))=true then
   some (.done (Sum.inl ()))
  else
  if (decide (a62≥(p1.Cliques.length:Int)))=true then
   some (.done (Sum.inl ()))
  else
  (Kg p0 s59).bind fun x68 =>
  (lkI p1.Cliques a62).bind fun a70 =>
  if ((zv (zb x68 &&& ~~~ zb a70).toNat) != 0)=true then
   some (.done (Sum.inl ()))
  else
  some (.next (zw (s59+1)))
 else
 some (.done (Sum.inr ()))
def K5 (p0:Qd) (p1:Qc):Option Bool :=
 if (decide ((p1.Cliques.length:Int) < 1))=true then
  some false
 else
 if (decide ((p1.Cliques.length:Int) > 8))=true then
  some false
 else
 if ((p1.Up.length:Int) != (p1.Cliques.length:Int))=true then
  some false
 else
 if ((p1.Home.length:Int) != (p0.Nodes.length:Int))=true then
  some false
 else
 (lkI p1.Up 0).bind fun a9 =>
 if (a9 != (-1))=true then
  some false
 else
 (Qa fuel (Yf p1 p0) 0).bind fun x56=>match x56 with
 | .inl x57=>(
  some false)
 | .inr x58=>(
  (Qa fuel (Yg p0 p1) 0).bind fun x74=>match x74 with
  | .inl x75=>(
   some false)
  | .inr x76=>(
   some true))
def Jp (p0:Qd) (p1:Qc):Option Int :=
 (K3 p0).bind fun x1 =>
 if (!x1)=true then
  some 50
 else
 (K5 p0 p1).bind fun x5 =>
 if (!x5)=true then
  some 100
 else
 some 0
def Ks (p0:Qc) (s1:(Int × Int)):Option (Qi (Int × Int) Int) :=
 if (decide (s1.2 < (p0.Cliques.length:Int)))=true then
  (lkI p0.Cliques s1.2).bind fun a4 =>
  (Jf a4).bind fun x6 =>
  some (.next ((if (zw (x6 - 1)) > s1.1 then (zw (x6 - 1)) else s1.1),zw (s1.2+1)))
 else
 some (.done s1.1)
def Qca (p0:Qc):Option Int :=
 (Qa fuel (Ks p0) (0,0)).bind fun x9 =>
 some x9
def Ys (p5:Int) (a29:Qc) (a16:Qd) (x31:Int) (s46:Int):Option (Qi Int (Unit ⊕ Unit)) :=
 if (decide (s46 < 3))=true then
  (lkI ([p5,1,zw ((a29.Cliques.length:Int) - 1)]:(List Int)) s46).bind fun a49 =>
  (Zg a16 a29 a49).bind fun x51 =>
  if (x51.1 != 0)=true then
   some (.done (Sum.inl ()))
  else
  if (x51.2 != x31)=true then
   some (.done (Sum.inl ()))
  else
  some (.next (zw (s46+1)))
 else
 some (.done (Sum.inr ()))
def Yq (p5:Int) (a29:Qc) (a16:Qd) (x31:Int) (s67:Int):Option (Qi Int (Unit ⊕ Unit)) :=
 if (decide (s67 < 3))=true then
  (lkI ([p5,1,zw ((a29.Cliques.length:Int) - 1)]:(List Int)) s67).bind fun a70 =>
  (Zg a16 a29 a70).bind fun x72 =>
  if (decide (a70 < 1))=true then
   if (x72.1 != 0)=true then
    some (.done (Sum.inl ()))
   else
   if (x72.2 != 2)=true then
    some (.done (Sum.inl ()))
   else
   some (.next (zw (s67+1)))
  else
  if (decide (a70≥(a29.Cliques.length:Int)))=true then
   if (x72.1 != 0)=true then
    some (.done (Sum.inl ()))
   else
   if (x72.2 != 2)=true then
    some (.done (Sum.inl ()))
   else
   some (.next (zw (s67+1)))
  else
  (lkI a29.Cliques a70).bind fun a88 =>
  (lkI a29.Up a70).bind fun a90 =>
  (lkI a29.Cliques a90).bind fun a92 =>
  if (x72.1 != (zv (zb a88 &&& zb a92).toNat))=true then
   some (.done (Sum.inl ()))
  else
  if (x72.2 != x31)=true then
   some (.done (Sum.inl ()))
  else
  some (.next (zw (s67+1)))
 else
 some (.done (Sum.inr ()))
def Yt (x9:Qc) (x18:Qc) (x22:Qc) (x24:Qc) (a16:Qd) (p5:Int) (s26:Int):Option (Qi Int (Unit ⊕ Unit)) :=
 if (decide (s26 < 4))=true then
  (lkI ([x9,x18,x22,x24]:(List Qc)) s26).bind fun a29 =>
  (Jp a16 a29).bind fun x31 =>
  (Jd a16 a29).bind fun x33 =>
  (Z6 a16 a29).bind fun x35 =>
  if (x35 != x31)=true then
   some (.done (Sum.inl ()))
  else
  if (x33.2 != x31)=true then
   some (.done (Sum.inl ()))
  else
  if (x31 != 0)=true then
   if (x33.1 != 0)=true then
    some (.done (Sum.inl ()))
   else
   (Qa fuel (Ys p5 a29 a16 x31) 0).bind fun x59=>match x59 with
   | .inl x60=>(
    some (.done (Sum.inl ())))
   | .inr x61=>(
    some (.next (zw (s26+1))))
  else
  (Qca a29).bind fun x63 =>
  if (x33.1 != x63)=true then
   some (.done (Sum.inl ()))
  else
  (Qa fuel (Yq p5 a29 a16 x31) 0).bind fun x98=>match x98 with
  | .inl x99=>(
   some (.done (Sum.inl ())))
  | .inr x100=>(
   some (.next (zw (s26+1))))
 else
 some (.done (Sum.inr ()))
def Yu (x5:Qd) (x11:Qd) (p3:(Tharuspexref10_Bend × Tharuspexref10_Bend)) (x9:Qc) (p4:Qc) (p5:Int) (s13:Int):Option (Qi Int (Unit ⊕ Unit)) :=
 if (decide (s13 < 2))=true then
  (lkI ([x5,x11]:(List Qd)) s13).bind fun a16 =>
  (Vs p3.1 x9).bind fun x18 =>
  (Vs p3.1 x9).bind fun x20 =>
  (Vs p3.2 x20).bind fun x22 =>
  (Qee p4).bind fun x24 =>
  (Qa fuel (Yt x9 x18 x22 x24 a16 p5) 0).bind fun x101=>match x101 with
  | .inl x102=>(
   some (.done (Sum.inl ())))
  | .inr x103=>(
   some (.next (zw (s13+1))))
 else
 some (.done (Sum.inr ()))
def Qa2 (p0:Qf) (p1:Q8) (p2:(Int × Int × Int × Int × Int × Int × Int × Int)) (p3:(Tharuspexref10_Bend × Tharuspexref10_Bend)) (p4:Qc) (p5:Int):Option Bool :=
 (Qfa).bind fun x1 =>
 if (!x1)=true then
  some false
 else
 (V3 p0).bind fun x5 =>
 (Qbd (x5.Nodes.length:Int) (-1) (p2.1,p2.2.1,p2.2.2.1,p2.2.2.2.1,p2.2.2.2.2.1,p2.2.2.2.2.2.1,p2.2.2.2.2.2.2.1,p2.2.2.2.2.2.2.2)).bind fun x7 =>
 (Qds x5 x7).bind fun x9 =>
 (J5 p1 x5).bind fun x11 =>
 (Qa fuel (Yu x5 x11 p3 x9 p4 p5) 0).bind fun x104=>match x104 with
 | .inl x105=>(
  some false)
 | .inr x106=>(
  some true)
end Go.Ab
