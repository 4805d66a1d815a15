/- What functions compute. No conditions. -/
import Derived.Test.YtcbhkobklhkiiaaDoorEng9
set_option linter.all false
namespace Go.Ab
open Go
structure Tapi_Node where
 Card:Int
 Parents:(List Int)
 Rows:(List (List Int))
 deriving DecidableEq,Inhabited
@[reducible] def eTapi_Node (x:Tapi_Node):AV:=.agg [vI x.Card,eL true eI x.Parents,eL false (eL true eI) x.Rows]
@[reducible] def eoTapi_Node (x:Int ⊕ Tapi_Node):AV:=match x with | .inl c=>.agg [vI c,.nils,.nils] | .inr y=>eTapi_Node y
def coTapi_Node (x:Int ⊕ Tapi_Node):Tapi_Node:=match x with | .inl c=>⟨c,[],[]⟩ | .inr y=>y
structure Qc where
 Grain:Int
 Nodes:(List Tapi_Node)
 deriving DecidableEq,Inhabited
@[reducible] def Qyt (x:Qc):AV:=.agg [vI x.Grain,eL false eTapi_Node x.Nodes]
structure Q2 where
 Net:Qc
 cards:(List Int)
 sets:(List Int)
 order:(List Int)
 deriving DecidableEq,Inhabited
structure Qq where
 Cliques:(List Int)
 Up:(List Int)
 Home:(List Int)
 deriving DecidableEq,Inhabited
structure Ttree_graph where
 near:(List Int)
 deriving DecidableEq,Inhabited
structure Ttree_maker where
 graph:Ttree_graph
 order:(List Int)
 deriving DecidableEq,Inhabited
structure Tharuspexref02_Draft where
 C:(List Int)
 Which:Int
 Order:(List Int)
 deriving DecidableEq,Inhabited
structure Qy where
 Card:Int
 Parents:Int
 W:(List Int)
 deriving DecidableEq,Inhabited
@[reducible] def eTharuspexref05_Piece (x:Qy):AV:=.agg [.int .u8 x.Card,.int .u8 x.Parents,eL true (AV.int .u8) x.W]
structure Qe where
 Grain:Int
 Nodes:(List Qy)
 Order:(List Int)
 deriving DecidableEq,Inhabited
@[reducible] def eTharuspexref05_Draft (x:Qe):AV:=.agg [.int .u8 x.Grain,eL false eTharuspexref05_Piece x.Nodes,eL true (AV.int .u8) x.Order]
structure Q9 where
 What : Int
 At:Int
 Row:Int
 N:Int
 deriving DecidableEq,Inhabited
@[reducible] def eTharuspexref05_Bend (x:Q9):AV:=.agg [.int .u8 x.What,.int .u8 x.At,.int .u8 x.Row,vI x.N]
def Vf (p1:Tapi_Node) (p0:Q2) (s1:(Int × Int)):Option (Qh (Int × Int) Int) :=
 if (decide (s1.2 < (p1.Parents.length:Int)))=true then
  (lkI p1.Parents s1.2).bind fun a4 =>
  (lkI p0.cards a4).bind fun a6 =>
  some (.next (zw (s1.1*a6),zw (s1.2+1)))
 else
 some (.done s1.1)
def Zy (a15:(List Int)) (s17:(Int × Int)):Option (Qh (Int × Int) (Unit ⊕ Int)) :=
 if (decide (s17.2 < (a15.length:Int)))=true then
  (lkI a15 s17.2).bind fun a20 =>
  if (decide (a20 < 0))=true then
   some (.done (Sum.inl ()))
  else
  if (decide (a20 > s17.1))=true then
   some (.done (Sum.inl ()))
  else
  some (.next (zw (s17.1 - a20),zw (s17.2+1)))
 else
 some (.done (Sum.inr s17.1))
def X4 (p1:Tapi_Node) (p0:Q2) (s12:Int):Option (Qh Int (Unit ⊕ Unit)) :=
 if (decide (s12 < (p1.Rows.length:Int)))=true then
  (lkI p1.Rows s12).bind fun a15 =>
  (Qa fuel (Zy a15) (p0.Net.Grain,0)).bind fun x26=>match x26 with
  | .inl x27=>(
   some (.done (Sum.inl ())))
  | .inr x28=>(
   if ((a15.length:Int) != p1.Card)=true then
    some (.done (Sum.inl ()))
   else
   if (x28 != 0)=true then
    some (.done (Sum.inl ()))
   else
   some (.next (zw (s12+1))))
 else
 some (.done (Sum.inr ()))
def Xz (p0:Q2) (p1:Tapi_Node):Option Bool :=
 (Qa fuel (Vf p1 p0) (1,0)).bind fun x9 =>
 if ((p1.Rows.length:Int) != x9)=true then
  some false
 else
 (Qa fuel (X4 p1 p0) 0).bind fun x33=>match x33 with
 | .inl x34=>(
  some false)
 | .inr x35=>(
  some true)
def V3 (p0:(List Int)) (s1:(Int × (List Int))) (s4:Int):Option (Qh Int ((Int × (List Int)) ⊕ Unit)) :=
 if (decide (s4 < (p0.length:Int)))=true then
  (lkI p0 s4).bind fun a7 =>
  if 0≤s4 then
   if ((zv (zb (Int.fdiv s1.1 (2^min (Int.toNat s4) (IntKind.bits .u64))) &&& zb 1).toNat)==0)=true then
    if ((zv (zb a7 &&& ~~~ zb s1.1).toNat)==0)=true then
     if (s1.2++([s4]:(List Int))).length*8≤140737488355328 then
      if 0≤s4 then
       some (.done (Sum.inl (zv (zb s1.1 ||| zb (zv (1*2^min (Int.toNat s4) (IntKind.bits .u64)))).toNat,(s1.2++([s4]:(List Int))))))
      else none
     else none
    else
    some (.next (zw (s4+1)))
   else
   some (.next (zw (s4+1)))
  else none
 else
 some (.done (Sum.inr ()))
def Xm (p0:(List Int)) (s1:(Int × (List Int))):Option (Qh (Int × (List Int)) (Unit ⊕ (List Int))) :=
 if (decide ((s1.2.length:Int) < (p0.length:Int)))=true then
  (Qa fuel (V3 p0 s1) 0).bind fun x13=>match x13 with
  | .inl x14=>(
   some (.next (x14.1,x14.2)))
  | .inr x15=>(
   some (.done (Sum.inl ())))
 else
 some (.done (Sum.inr s1.2))
def Ya (p0:(List Int)):Option ((List Int) × Bool) :=
 if 0≤(0:Int)∧(0:Int)≤(p0.length:Int)∧(p0.length:Int)*8≤140737488355328 then
  (Qa fuel (Xm p0) (0,(List.replicate (Int.toNat 0) (0:Int)))).bind fun x16=>match x16 with
  | .inl x17=>(
   some (([]:(List Int)),false))
  | .inr x18=>(
   some (x18,true))
 else none
def Ye (p0:Qc) (s9:(Int × Int × (List Int))):Option (Qh (Int × Int × (List Int)) (Unit ⊕ (Int × (List Int)))) :=
 if (decide (s9.2.1 < (p0.Nodes.length:Int)))=true then
  (lkI p0.Nodes s9.2.1).bind fun a12 =>
  if (decide (a12.Card < 1))=true then
   some (.done (Sum.inl ()))
  else
  if (decide (a12.Card > 4))=true then
   some (.done (Sum.inl ()))
  else
  (lkI s9.2.2 s9.2.1).bind fun a18 =>
  some (.next (zw (s9.1*a12.Card),zw (s9.2.1+1),(List.set s9.2.2 (Int.toNat s9.2.1) a12.Card)))
 else
 some (.done (Sum.inr (s9.1,s9.2.2)))
def Jg (a29:Tapi_Node) (p0:Qc) (s26:(Int × (List Int))) (s31:(Int × Int × (List Int))):Option (Qh (Int × Int × (List Int)) (Unit ⊕ (List Int))) :=
 if (decide (s31.2.1 < (a29.Parents.length:Int)))=true then
  (lkI a29.Parents s31.2.1).bind fun a34 =>
  if (decide (a34≤s31.1))=true then
   some (.done (Sum.inl ()))
  else
  if (decide (a34≥(p0.Nodes.length:Int)))=true then
   some (.done (Sum.inl ()))
  else
  if (a34==s26.1)=true then
   some (.done (Sum.inl ()))
  else
  (lkI s31.2.2 s26.1).bind fun a42 =>
  if 0≤a34 then
   some (.next (a34,zw (s31.2.1+1),(List.set s31.2.2 (Int.toNat s26.1) (zv (zb a42 ||| zb (zv (1*2^min (Int.toNat a34) (IntKind.bits .u64)))).toNat))))
  else none
 else
 some (.done (Sum.inr s31.2.2))
def Yf (p0:Qc) (x23:(Int × (List Int))) (s26:(Int × (List Int))):Option (Qh (Int × (List Int)) (Unit ⊕ (List Int))) :=
 if (decide (s26.1 < (p0.Nodes.length:Int)))=true then
  (lkI p0.Nodes s26.1).bind fun a29 =>
  (Qa fuel (Jg a29 p0 s26) (-1,0,s26.2)).bind fun x45=>match x45 with
  | .inl x46=>(
   some (.done (Sum.inl ())))
  | .inr x47=>(
   (Xz (Q2.mk p0 x23.2 x47 []) a29).bind fun x48 =>
   if (!x48)=true then
    some (.done (Sum.inl ()))
   else
   some (.next (zw (s26.1+1),x47)))
 else
 some (.done (Sum.inr s26.2))
def Qae (p0:Qc):Option (Q2 × Int) :=
 if (decide (p0.Grain < 1))=true then
  some ((Q2.mk (Qc.mk 0 []) [] [] []),50)
 else
 if (decide (p0.Grain > 60))=true then
  some ((Q2.mk (Qc.mk 0 []) [] [] []),50)
 else
 if (decide ((p0.Nodes.length:Int) < 1))=true then
  some ((Q2.mk (Qc.mk 0 []) [] [] []),50)
 else
 if (decide ((p0.Nodes.length:Int) > 8))=true then
  some ((Q2.mk (Qc.mk 0 []) [] [] []),50)
 else
 if 0≤(p0.Nodes.length:Int)∧(p0.Nodes.length:Int)≤(p0.Nodes.length:Int)∧(p0.Nodes.length:Int)*8≤140737488355328 then
  if 0≤(p0.Nodes.length:Int)∧(p0.Nodes.length:Int)≤(p0.Nodes.length:Int)∧(p0.Nodes.length:Int)*8≤140737488355328 then
   (Qa fuel (Ye p0) (1,0,(List.replicate (Int.toNat (p0.Nodes.length:Int)) (0:Int)))).bind fun x21=>match x21 with
   | .inl x22=>(
    some ((Q2.mk (Qc.mk 0 []) [] [] []),50))
   | .inr x23=>(
    if (decide (x23.1 > 1024))=true then
     some ((Q2.mk (Qc.mk 0 []) [] [] []),50)
    else
    (Qa fuel (Yf p0 x23) (0,(List.replicate (Int.toNat (p0.Nodes.length:Int)) (0:Int)))).bind fun x52=>match x52 with
    | .inl x53=>(
     some ((Q2.mk (Qc.mk 0 []) [] [] []),50))
    | .inr x54=>(
     (Ya x54).bind fun x55 =>
     if (!x55.2)=true then
      some ((Q2.mk (Qc.mk 0 []) [] [] []),50)
     else
     some ((Q2.mk p0 x23.2 x54 x55.1),0)))
  else none
 else none
def Qcs (p0:Qc) (s9:(Int × Int × (List Int))):Option (Qh (Int × Int × (List Int)) (Unit ⊕ (Int × (List Int)))) :=
 if (decide (s9.2.1 < (p0.Nodes.length:Int)))=true then
  (lkI p0.Nodes s9.2.1).bind fun a12 =>
  if (decide (a12.Card < 1))=true then
   some (.done (Sum.inl ()))
  else
  if (decide (a12.Card > 4))=true then
   some (.done (Sum.inl ()))
  else
  (lkI s9.2.2 s9.2.1).bind fun a18 =>
  some (.next (zw (s9.1*a12.Card),zw (s9.2.1+1),(List.set s9.2.2 (Int.toNat s9.2.1) a12.Card)))
 else
 some (.done (Sum.inr (s9.1,s9.2.2)))
def Qif (a29:Tapi_Node) (p0:Qc) (s26:(Int × (List Int))) (s31:(Int × Int × (List Int))):Option (Qh (Int × Int × (List Int)) (Unit ⊕ (List Int))) :=
 if (decide (s31.2.1 < (a29.Parents.length:Int)))=true then
  (lkI a29.Parents s31.2.1).bind fun a34 =>
  if (decide (a34≤s31.1))=true then
   some (.done (Sum.inl ()))
  else
  if (decide (a34≥(p0.Nodes.length:Int)))=true then
   some (.done (Sum.inl ()))
  else
  if (a34==s26.1)=true then
   some (.done (Sum.inl ()))
  else
  (lkI s31.2.2 s26.1).bind fun a42 =>
  if 0≤a34 then
   some (.next (a34,zw (s31.2.1+1),(List.set s31.2.2 (Int.toNat s26.1) (zv (zb a42 ||| zb (zv (1*2^min (Int.toNat a34) (IntKind.bits .u64)))).toNat))))
  else none
 else
 some (.done (Sum.inr s31.2.2))
def Qcu (p0:Qc) (x23:(Int × (List Int))) (s26:(Int × (List Int))):Option (Qh (Int × (List Int)) (Unit ⊕ (List Int))) :=
 if (decide (s26.1 < (p0.Nodes.length:Int)))=true then
  (lkI p0.Nodes s26.1).bind fun a29 =>
  (Qa fuel (Qif a29 p0 s26) (-1,0,s26.2)).bind fun x45=>match x45 with
  | .inl x46=>(
   some (.done (Sum.inl ())))
  | .inr x47=>(
   (Xz (Q2.mk p0 x23.2 x47 []) a29).bind fun x48 =>
   if (!x48)=true then
    some (.done (Sum.inl ()))
   else
   some (.next (zw (s26.1+1),x47)))
 else
 some (.done (Sum.inr s26.2))
def Yb (x54:(List Int)) (s59:(Int × (List Int))):Option (Qh (Int × (List Int)) (List Int)) :=
 if (decide (s59.1 < (x54.length:Int)))=true then
  (lkI s59.2 s59.1).bind fun a62 =>
  if 0≤s59.1 then
   some (.next (zw (s59.1+1),(List.set s59.2 (Int.toNat s59.1) (zv (zb a62 ||| zb (zv (1*2^min (Int.toNat s59.1) (IntKind.bits .u64)))).toNat))))
  else none
 else
 some (.done s59.2)
def Z5 (p0:Qc):Option ((List Int) × Int) :=
 if (decide (p0.Grain < 1))=true then
  some (([]:(List Int)),50)
 else
 if (decide (p0.Grain > 60))=true then
  some (([]:(List Int)),50)
 else
 if (decide ((p0.Nodes.length:Int) < 1))=true then
  some (([]:(List Int)),50)
 else
 if (decide ((p0.Nodes.length:Int) > 8))=true then
  some (([]:(List Int)),50)
 else
 if 0≤(p0.Nodes.length:Int)∧(p0.Nodes.length:Int)≤(p0.Nodes.length:Int)∧(p0.Nodes.length:Int)*8≤140737488355328 then
  if 0≤(p0.Nodes.length:Int)∧(p0.Nodes.length:Int)≤(p0.Nodes.length:Int)∧(p0.Nodes.length:Int)*8≤140737488355328 then
   (Qa fuel (Qcs p0) (1,0,(List.replicate (Int.toNat (p0.Nodes.length:Int)) (0:Int)))).bind fun x21=>match x21 with
   | .inl x22=>(
    some (([]:(List Int)),50))
   | .inr x23=>(
    if (decide (x23.1 > 1024))=true then
     some (([]:(List Int)),50)
    else
    (Qa fuel (Qcu p0 x23) (0,(List.replicate (Int.toNat (p0.Nodes.length:Int)) (0:Int)))).bind fun x52=>match x52 with
    | .inl x53=>(
     some (([]:(List Int)),50))
    | .inr x54=>(
     (Ya x54).bind fun x55 =>
     if (!x55.2)=true then
      some (([]:(List Int)),50)
     else
     (Qa fuel (Yb x54) (0,x54)).bind fun x66 =>
     some (x66,0)))
  else none
 else none
def Qpe (p1:Qq) (x1:((List Int) × Int)) (s13:(Int × Int)):Option (Qh (Int × Int) (Unit ⊕ Unit)) :=
 if (decide (s13.2 < (p1.Cliques.length:Int)))=true then
  (lkI p1.Cliques s13.2).bind fun a16 =>
  if (a16==0)=true then
   some (.done (Sum.inl ()))
  else
  if 0≤(x1.1.length:Int) then
   if ((Int.fdiv a16 (2^min (Int.toNat (x1.1.length:Int)) (IntKind.bits .u64))) != 0)=true then
    some (.done (Sum.inl ()))
   else
   (lkI p1.Up s13.2).bind fun a22 =>
   if (s13.2==0)=true then
    if (a22 != (-1))=true then
     some (.done (Sum.inl ()))
    else
    some (.next (zv (zb s13.1 ||| zb a16).toNat,zw (s13.2+1)))
   else
   if (decide (a22 < 0))=true then
    some (.done (Sum.inl ()))
   else
   if (decide (a22≥s13.2))=true then
    some (.done (Sum.inl ()))
   else
   (lkI p1.Cliques a22).bind fun a32 =>
   if ((zv (zb (zv (zb a16 &&& zb s13.1).toNat) &&& ~~~ zb a32).toNat) != 0)=true then
    some (.done (Sum.inl ()))
   else
   some (.next (zv (zb s13.1 ||| zb a16).toNat,zw (s13.2+1)))
  else none
 else
 some (.done (Sum.inr ()))
def Qpj (p1:Qq) (x1:((List Int) × Int)) (s39:Int):Option (Qh Int (Unit ⊕ Unit)) :=
 if (decide (s39 < (p1.Home.length:Int)))=true then
  (lkI p1.Home s39).bind fun a42 =>
  if (decide (a42 < 0))=true then
   some (.done (Sum.inl ()))
  else
  if (decide (a42≥(p1.Cliques.length:Int)))=true then
   some (.done (Sum.inl ()))
  else
  (lkI x1.1 s39).bind fun a48 =>
  (lkI p1.Cliques a42).bind fun a50 =>
  if ((zv (zb a48 &&& ~~~ zb a50).toNat) != 0)=true then
   some (.done (Sum.inl ()))
  else
  some (.next (zw (s39+1)))
 else
 some (.done (Sum.inr ()))
def Qbu (p0:Qc) (p1:Qq):Option Int :=
 (Z5 p0).bind fun x1 =>
 if (x1.2 != 0)=true then
  some x1.2
 else
 if (decide ((p1.Cliques.length:Int) < 1))=true then
  some 100
 else
 if (decide ((p1.Cliques.length:Int) > 8))=true then
  some 100
 else
 if ((p1.Up.length:Int) != (p1.Cliques.length:Int))=true then
  some 100
 else
 if ((p1.Home.length:Int) != (x1.1.length:Int))=true then
  some 100
 else
 (Qa fuel (Qpe p1 x1) (0,0)).bind fun x36=>match x36 with
 | .inl x37=>(
  some 100)
 | .inr x38=>(
  (Qa fuel (Qpj p1 x1) 0).bind fun x54=>match x54 with
  | .inl x55=>(
   some 100)
  | .inr x56=>(
   some 0))
def Qck (p0:Int):Option Int :=
 some (zw (BitVec.ofInt (IntKind.bits .i64) (zw (zv ((zv ((zv ((zv (zb (zv ((Int.fdiv (zv ((zv (zb (Int.fdiv (zv ((zv (zb (Int.fdiv p0 (2^min (Int.toNat 1) (IntKind.bits .u64))) &&& zb 6148914691236517205).toNat)+(zv (zb p0 &&& zb 6148914691236517205).toNat))) (2^min (Int.toNat 2) (IntKind.bits .u64))) &&& zb 3689348814741910323).toNat)+(zv (zb (zv ((zv (zb (Int.fdiv p0 (2^min (Int.toNat 1) (IntKind.bits .u64))) &&& zb 6148914691236517205).toNat)+(zv (zb p0 &&& zb 6148914691236517205).toNat))) &&& zb 3689348814741910323).toNat))) (2^min (Int.toNat 4) (IntKind.bits .u64)))+(zv ((zv (zb (Int.fdiv (zv ((zv (zb (Int.fdiv p0 (2^min (Int.toNat 1) (IntKind.bits .u64))) &&& zb 6148914691236517205).toNat)+(zv (zb p0 &&& zb 6148914691236517205).toNat))) (2^min (Int.toNat 2) (IntKind.bits .u64))) &&& zb 3689348814741910323).toNat)+(zv (zb (zv ((zv (zb (Int.fdiv p0 (2^min (Int.toNat 1) (IntKind.bits .u64))) &&& zb 6148914691236517205).toNat)+(zv (zb p0 &&& zb 6148914691236517205).toNat))) &&& zb 3689348814741910323).toNat))))) &&& zb 1085102592571150095).toNat)+(Int.fdiv (zv (zb (zv ((Int.fdiv (zv ((zv (zb (Int.fdiv (zv ((zv (zb (Int.fdiv p0 (2^min (Int.toNat 1) (IntKind.bits .u64))) &&& zb 6148914691236517205).toNat)+(zv (zb p0 &&& zb 6148914691236517205).toNat))) (2^min (Int.toNat 2) (IntKind.bits .u64))) &&& zb 3689348814741910323).toNat)+(zv (zb (zv ((zv (zb (Int.fdiv p0 (2^min (Int.toNat 1) (IntKind.bits .u64))) &&& zb 6148914691236517205).toNat)+(zv (zb p0 &&& zb 6148914691236517205).toNat))) &&& zb 3689348814741910323).toNat))) (2^min (Int.toNat 4) (IntKind.bits .u64)))+(zv ((zv (zb (Int.fdiv (zv ((zv (zb (Int.fdiv p0 (2^min (Int.toNat 1) (IntKind.bits .u64))) &&& zb 6148914691236517205).toNat)+(zv (zb p0 &&& zb 6148914691236517205).toNat))) (2^min (Int.toNat 2) (IntKind.bits .u64))) &&& zb 3689348814741910323).toNat)+(zv (zb (zv ((zv (zb (Int.fdiv p0 (2^min (Int.toNat 1) (IntKind.bits .u64))) &&& zb 6148914691236517205).toNat)+(zv (zb p0 &&& zb 6148914691236517205).toNat))) &&& zb 3689348814741910323).toNat))))) &&& zb 1085102592571150095).toNat) (2^min (Int.toNat 8) (IntKind.bits .u64)))))+(Int.fdiv (zv ((zv (zb (zv ((Int.fdiv (zv ((zv (zb (Int.fdiv (zv ((zv (zb (Int.fdiv p0 (2^min (Int.toNat 1) (IntKind.bits .u64))) &&& zb 6148914691236517205).toNat)+(zv (zb p0 &&& zb 6148914691236517205).toNat))) (2^min (Int.toNat 2) (IntKind.bits .u64))) &&& zb 3689348814741910323).toNat)+(zv (zb (zv ((zv (zb (Int.fdiv p0 (2^min (Int.toNat 1) (IntKind.bits .u64))) &&& zb 6148914691236517205).toNat)+(zv (zb p0 &&& zb 6148914691236517205).toNat))) &&& zb 3689348814741910323).toNat))) (2^min (Int.toNat 4) (IntKind.bits .u64)))+(zv ((zv (zb (Int.fdiv (zv ((zv (zb (Int.fdiv p0 (2^min (Int.toNat 1) (IntKind.bits .u64))) &&& zb 6148914691236517205).toNat)+(zv (zb p0 &&& zb 6148914691236517205).toNat))) (2^min (Int.toNat 2) (IntKind.bits .u64))) &&& zb 3689348814741910323).toNat)+(zv (zb (zv ((zv (zb (Int.fdiv p0 (2^min (Int.toNat 1) (IntKind.bits .u64))) &&& zb 6148914691236517205).toNat)+(zv (zb p0 &&& zb 6148914691236517205).toNat))) &&& zb 3689348814741910323).toNat))))) &&& zb 1085102592571150095).toNat)+(Int.fdiv (zv (zb (zv ((Int.fdiv (zv ((zv (zb (Int.fdiv (zv ((zv (zb (Int.fdiv p0 (2^min (Int.toNat 1) (IntKind.bits .u64))) &&& zb 6148914691236517205).toNat)+(zv (zb p0 &&& zb 6148914691236517205).toNat))) (2^min (Int.toNat 2) (IntKind.bits .u64))) &&& zb 3689348814741910323).toNat)+(zv (zb (zv ((zv (zb (Int.fdiv p0 (2^min (Int.toNat 1) (IntKind.bits .u64))) &&& zb 6148914691236517205).toNat)+(zv (zb p0 &&& zb 6148914691236517205).toNat))) &&& zb 3689348814741910323).toNat))) (2^min (Int.toNat 4) (IntKind.bits .u64)))+(zv ((zv (zb (Int.fdiv (zv ((zv (zb (Int.fdiv p0 (2^min (Int.toNat 1) (IntKind.bits .u64))) &&& zb 6148914691236517205).toNat)+(zv (zb p0 &&& zb 6148914691236517205).toNat))) (2^min (Int.toNat 2) (IntKind.bits .u64))) &&& zb 3689348814741910323).toNat)+(zv (zb (zv ((zv (zb (Int.fdiv p0 (2^min (Int.toNat 1) (IntKind.bits .u64))) &&& zb 6148914691236517205).toNat)+(zv (zb p0 &&& zb 6148914691236517205).toNat))) &&& zb 3689348814741910323).toNat))))) &&& zb 1085102592571150095).toNat) (2^min (Int.toNat 8) (IntKind.bits .u64))))) (2^min (Int.toNat 16) (IntKind.bits .u64)))))+(Int.fdiv (zv ((zv ((zv (zb (zv ((Int.fdiv (zv ((zv (zb (Int.fdiv (zv ((zv (zb (Int.fdiv p0 (2^min (Int.toNat 1) (IntKind.bits .u64))) &&& zb 6148914691236517205).toNat)+(zv (zb p0 &&& zb 6148914691236517205).toNat))) (2^min (Int.toNat 2) (IntKind.bits .u64))) &&& zb 3689348814741910323).toNat)+(zv (zb (zv ((zv (zb (Int.fdiv p0 (2^min (Int.toNat 1) (IntKind.bits .u64))) &&& zb 6148914691236517205).toNat)+(zv (zb p0 &&& zb 6148914691236517205).toNat))) &&& zb 3689348814741910323).toNat))) (2^min (Int.toNat 4) (IntKind.bits .u64)))+(zv ((zv (zb (Int.fdiv (zv ((zv (zb (Int.fdiv p0 (2^min (Int.toNat 1) (IntKind.bits .u64))) &&& zb 6148914691236517205).toNat)+(zv (zb p0 &&& zb 6148914691236517205).toNat))) (2^min (Int.toNat 2) (IntKind.bits .u64))) &&& zb 3689348814741910323).toNat)+(zv (zb (zv ((zv (zb (Int.fdiv p0 (2^min (Int.toNat 1) (IntKind.bits .u64))) &&& zb 6148914691236517205).toNat)+(zv (zb p0 &&& zb 6148914691236517205).toNat))) &&& zb 3689348814741910323).toNat))))) &&& zb 1085102592571150095).toNat)+(Int.fdiv (zv (zb (zv ((Int.fdiv (zv ((zv (zb (Int.fdiv (zv ((zv (zb (Int.fdiv p0 (2^min (Int.toNat 1) (IntKind.bits .u64))) &&& zb 6148914691236517205).toNat)+(zv (zb p0 &&& zb 6148914691236517205).toNat))) (2^min (Int.toNat 2) (IntKind.bits .u64))) &&& zb 3689348814741910323).toNat)+(zv (zb (zv ((zv (zb (Int.fdiv p0 (2^min (Int.toNat 1) (IntKind.bits .u64))) &&& zb 6148914691236517205).toNat)+(zv (zb p0 &&& zb 6148914691236517205).toNat))) &&& zb 3689348814741910323).toNat))) (2^min (Int.toNat 4) (IntKind.bits .u64)))+(zv ((zv (zb (Int.fdiv (zv ((zv (zb (Int.fdiv p0 (2^min (Int.toNat 1) (IntKind.bits .u64))) &&& zb 6148914691236517205).toNat)+(zv (zb p0 &&& zb 6148914691236517205).toNat))) (2^min (Int.toNat 2) (IntKind.bits .u64))) &&& zb 3689348814741910323).toNat)+(zv (zb (zv ((zv (zb (Int.fdiv p0 (2^min (Int.toNat 1) (IntKind.bits .u64))) &&& zb 6148914691236517205).toNat)+(zv (zb p0 &&& zb 6148914691236517205).toNat))) &&& zb 3689348814741910323).toNat))))) &&& zb 1085102592571150095).toNat) (2^min (Int.toNat 8) (IntKind.bits .u64)))))+(Int.fdiv (zv ((zv (zb (zv ((Int.fdiv (zv ((zv (zb (Int.fdiv (zv ((zv (zb (Int.fdiv p0 (2^min (Int.toNat 1) (IntKind.bits .u64))) &&& zb 6148914691236517205).toNat)+(zv (zb p0 &&& zb 6148914691236517205).toNat))) (2^min (Int.toNat 2) (IntKind.bits .u64))) &&& zb 3689348814741910323).toNat)+(zv (zb (zv ((zv (zb (Int.fdiv p0 (2^min (Int.toNat 1) (IntKind.bits .u64))) &&& zb 6148914691236517205).toNat)+(zv (zb p0 &&& zb 6148914691236517205).toNat))) &&& zb 3689348814741910323).toNat))) (2^min (Int.toNat 4) (IntKind.bits .u64)))+(zv ((zv (zb (Int.fdiv (zv ((zv (zb (Int.fdiv p0 (2^min (Int.toNat 1) (IntKind.bits .u64))) &&& zb 6148914691236517205).toNat)+(zv (zb p0 &&& zb 6148914691236517205).toNat))) (2^min (Int.toNat 2) (IntKind.bits .u64))) &&& zb 3689348814741910323).toNat)+(zv (zb (zv ((zv (zb (Int.fdiv p0 (2^min (Int.toNat 1) (IntKind.bits .u64))) &&& zb 6148914691236517205).toNat)+(zv (zb p0 &&& zb 6148914691236517205).toNat))) &&& zb 3689348814741910323).toNat))))) &&& zb 1085102592571150095).toNat)+(Int.fdiv (zv (zb (zv ((Int.fdiv (zv ((zv (zb (Int.fdiv (zv ((zv (zb (Int.fdiv p0 (2^min (Int.toNat 1) (IntKind.bits .u64))) &&& zb 6148914691236517205).toNat)+(zv (zb p0 &&& zb 6148914691236517205).toNat))) (2^min (Int.toNat 2) (IntKind.bits .u64))) &&& zb 3689348814741910323).toNat)+(zv (zb (zv ((zv (zb (Int.fdiv p0 (2^min (Int.toNat 1) (IntKind.bits .u64))) &&& zb 6148914691236517205).toNat)+(zv (zb p0 &&& zb 6148914691236517205).toNat))) &&& zb 3689348814741910323).toNat))) (2^min (Int.toNat 4) (IntKind.bits .u64)))+(zv ((zv (zb (Int.fdiv (zv ((zv (zb (Int.fdiv p0 (2^min (Int.toNat 1) (IntKind.bits .u64))) &&& zb 6148914691236517205).toNat)+(zv (zb p0 &&& zb 6148914691236517205).toNat))) (2^min (Int.toNat 2) (IntKind.bits .u64))) &&& zb 3689348814741910323).toNat)+(zv (zb (zv ((zv (zb (Int.fdiv p0 (2^min (Int.toNat 1) (IntKind.bits .u64))) &&& zb 6148914691236517205).toNat)+(zv (zb p0 &&& zb 6148914691236517205).toNat))) &&& zb 3689348814741910323).toNat))))) &&& zb 1085102592571150095).toNat) (2^min (Int.toNat 8) (IntKind.bits .u64))))) (2^min (Int.toNat 16) (IntKind.bits .u64))))) (2^min (Int.toNat 32) (IntKind.bits .u64)))))) &&& BitVec.ofInt (IntKind.bits .i64) 127).toNat)
def Zv (p0:Int):Option Int :=
 (Qck p0).bind fun x1 =>
 some x1
def Qo4 (p1:Qq) (s5:(Int × Int)):Option (Qh (Int × Int) Int) :=
 if (decide (s5.2 < (p1.Cliques.length:Int)))=true then
  (lkI p1.Cliques s5.2).bind fun a8 =>
  (Zv a8).bind fun x10 =>
  some (.next ((if x10 > s5.1 then x10 else s5.1),zw (s5.2+1)))
 else
 some (.done s5.1)
def Qlm (p0:Qc) (p1:Qq):Option (Int × Int) :=
 (Qbu p0 p1).bind fun x1 =>
 if (x1 != 0)=true then
  some (0,x1)
 else
 (Qa fuel (Qo4 p1) (0,0)).bind fun x13 =>
 some (zw (x13 - 1),0)
def Qhg (p0:Qc) (p1:Qq) (p2:Int):Option (Int × Int) :=
 (Qbu p0 p1).bind fun x1 =>
 if (x1 != 0)=true then
  some (0,x1)
 else
 if (decide (p2 < 1))=true then
  some (0,2)
 else
 if (decide (p2≥(p1.Cliques.length:Int)))=true then
  some (0,2)
 else
 (lkI p1.Cliques p2).bind fun a9 =>
 (lkI p1.Up p2).bind fun a11 =>
 (lkI p1.Cliques a11).bind fun a13 =>
 some (zv (zb a9 &&& zb a13).toNat,0)
def Yc (s1:(Int × (List Int))) (a4:Int) (s6:(Int × (List Int))):Option (Qh (Int × (List Int)) (List Int)) :=
 if (decide (s6.1 < (s1.2.length:Int)))=true then
  if 0≤s6.1 then
   if ((zv (zb (Int.fdiv (zv (zb a4 ||| zb (zv (1*2^min (Int.toNat s1.1) (IntKind.bits .u64)))).toNat) (2^min (Int.toNat s6.1) (IntKind.bits .u64))) &&& zb 1).toNat)==1)=true then
    (lkI s6.2 s6.1).bind fun a11 =>
    if 0≤s6.1 then
     some (.next (zw (s6.1+1),(List.set s6.2 (Int.toNat s6.1) (zv (zb a11 ||| zb (zv (zb (zv (zb a4 ||| zb (zv (1*2^min (Int.toNat s1.1) (IntKind.bits .u64)))).toNat) &&& ~~~ zb (zv (1*2^min (Int.toNat s6.1) (IntKind.bits .u64)))).toNat)).toNat))))
    else none
   else
   some (.next (zw (s6.1+1),s6.2))
  else none
 else
 some (.done s6.2)
def Vv (p0:Q2) (s1:(Int × (List Int))):Option (Qh (Int × (List Int)) (List Int)) :=
 if (decide (s1.1 < (p0.sets.length:Int)))=true then
  (lkI p0.sets s1.1).bind fun a4 =>
  if 0≤s1.1 then
   (Qa fuel (Yc s1 a4) (0,s1.2)).bind fun x15 =>
   some (.next (zw (s1.1+1),x15))
  else none
 else
 some (.done s1.2)
def J2 (p0:Q2):Option (List Int) :=
 if 0≤(p0.sets.length:Int)∧(p0.sets.length:Int)≤(p0.sets.length:Int)∧(p0.sets.length:Int)*8≤140737488355328 then
  (Qa fuel (Vv p0) (0,(List.replicate (Int.toNat (p0.sets.length:Int)) (0:Int)))).bind fun x17 =>
  some x17
 else none
def Qcz (p0:Qc):Option ((List Int) × Int) :=
 (Qae p0).bind fun x1 =>
 if (x1.2 != 0)=true then
  some (([]:(List Int)),x1.2)
 else
 (J2 x1.1).bind fun x5 =>
 some (x5,0)
def Jd (c0:Int) (d0:(List Int)):Option (List Int) :=
 if (c0::d0).length*8≤140737488355328 then
  some (c0::d0)
 else none
def Jc  : Option (List Int) :=
 some ([]:(List Int))
def Je  : Option (List Int) :=
 some ([]:(List Int))
def Zg (p0:(List Int)):Option (List Int) :=
 match p0 with
 | []=>(Je).bind fun x=>(Jc).bind fun y=>if x=y then some x else none
 | c0::d0=>Jd c0 d0
def Zx (s3:(Int × Int × (List Int) × (List Int))) (a8:Int) (a6:Int) (s10:Int):Option (Qh Int (Unit ⊕ Unit)) :=
 if (decide (s10 < (s3.2.2.1.length:Int)))=true then
  (lkI s3.2.2.1 s10).bind fun a13 =>
  if ((zv (zb (zv (zb (zv (zb a8 &&& zb s3.1).toNat) ||| zb (zv (1*2^min (Int.toNat a6) (IntKind.bits .u64)))).toNat) &&& ~~~ zb a13).toNat)==0)=true then
   some (.done (Sum.inl ()))
  else
  some (.next (zw (s10+1)))
 else
 some (.done (Sum.inr ()))
def Xb (s3:(Int × Int × (List Int) × (List Int))) (a8:Int) (a6:Int) (s19:(Int × (List Int))):Option (Qh (Int × (List Int)) (List Int)) :=
 if (decide (s19.1 < (s3.2.2.2.length:Int)))=true then
  if 0≤s19.1 then
   if ((zv (zb (Int.fdiv (zv (zb (zv (zb a8 &&& zb s3.1).toNat) ||| zb (zv (1*2^min (Int.toNat a6) (IntKind.bits .u64)))).toNat) (2^min (Int.toNat s19.1) (IntKind.bits .u64))) &&& zb 1).toNat)==1)=true then
    (lkI s19.2 s19.1).bind fun a24 =>
    if 0≤s19.1 then
     some (.next (zw (s19.1+1),(List.set s19.2 (Int.toNat s19.1) (zv (zb a24 ||| zb (zv (zb (zv (zb (zv (zb a8 &&& zb s3.1).toNat) ||| zb (zv (1*2^min (Int.toNat a6) (IntKind.bits .u64)))).toNat) &&& ~~~ zb (zv (1*2^min (Int.toNat s19.1) (IntKind.bits .u64)))).toNat)).toNat))))
    else none
   else
   some (.next (zw (s19.1+1),s19.2))
  else none
 else
 some (.done s19.2)
def Qcl (s3:(Int × Int × (List Int) × (List Int))) (a8:Int) (a6:Int) (s30:(Int × (List Int))):Option (Qh (Int × (List Int)) (List Int)) :=
 if (decide (s30.1 < (s3.2.2.2.length:Int)))=true then
  if 0≤s30.1 then
   if ((zv (zb (Int.fdiv (zv (zb (zv (zb a8 &&& zb s3.1).toNat) ||| zb (zv (1*2^min (Int.toNat a6) (IntKind.bits .u64)))).toNat) (2^min (Int.toNat s30.1) (IntKind.bits .u64))) &&& zb 1).toNat)==1)=true then
    (lkI s30.2 s30.1).bind fun a35 =>
    if 0≤s30.1 then
     some (.next (zw (s30.1+1),(List.set s30.2 (Int.toNat s30.1) (zv (zb a35 ||| zb (zv (zb (zv (zb (zv (zb a8 &&& zb s3.1).toNat) ||| zb (zv (1*2^min (Int.toNat a6) (IntKind.bits .u64)))).toNat) &&& ~~~ zb (zv (1*2^min (Int.toNat s30.1) (IntKind.bits .u64)))).toNat)).toNat))))
    else none
   else
   some (.next (zw (s30.1+1),s30.2))
  else none
 else
 some (.done s30.2)
def X3 (p0:Ttree_maker) (s3:(Int × Int × (List Int) × (List Int))):Option (Qh (Int × Int × (List Int) × (List Int)) (List Int)) :=
 if (decide (s3.2.1 < (p0.order.length:Int)))=true then
  (lkI p0.order s3.2.1).bind fun a6 =>
  (lkI s3.2.2.2 a6).bind fun a8 =>
  if 0≤a6 then
   (Qa fuel (Zx s3 a8 a6) 0).bind fun x17=>match x17 with
   | .inl x18=>(
    if 0≤a6 then
     (Qa fuel (Xb s3 a8 a6) (0,s3.2.2.2)).bind fun x28 =>
     some (.next (zv (zb s3.1 &&& ~~~ zb (zv (1*2^min (Int.toNat a6) (IntKind.bits .u64)))).toNat,zw (s3.2.1+1),s3.2.2.1,x28))
    else none)
   | .inr x29=>(
    if (s3.2.2.1++([zv (zb (zv (zb a8 &&& zb s3.1).toNat) ||| zb (zv (1*2^min (Int.toNat a6) (IntKind.bits .u64)))).toNat]:(List Int))).length*8≤140737488355328 then
     if 0≤a6 then
      (Qa fuel (Qcl s3 a8 a6) (0,s3.2.2.2)).bind fun x39 =>
      some (.next (zv (zb s3.1 &&& ~~~ zb (zv (1*2^min (Int.toNat a6) (IntKind.bits .u64)))).toNat,zw (s3.2.1+1),(s3.2.2.1++([zv (zb (zv (zb a8 &&& zb s3.1).toNat) ||| zb (zv (1*2^min (Int.toNat a6) (IntKind.bits .u64)))).toNat]:(List Int))),x39))
     else none
    else none)
  else none
 else
 some (.done s3.2.2.1)
def Jm (p0:Ttree_maker):Option (List Int) :=
 (Zg p0.graph.near).bind fun x1 =>
 (Qa fuel (X3 p0) (18446744073709551615,0,([]:(List Int)),x1)).bind fun x41 =>
 some x41
def Qb5 (p0:(List Int)) (p1:Int) (s1:(Int × Int)):Option (Qh (Int × Int) Int) :=
 if (decide (s1.2 < (p0.length:Int)))=true then
  (lkI p0 s1.2).bind fun a4 =>
  (Zv (zv (zb a4 &&& zb p1).toNat)).bind fun x6 =>
  some (.next ((if x6 > s1.1 then x6 else s1.1),zw (s1.2+1)))
 else
 some (.done s1.1)
def Qfe (p0:(List Int)) (p1:Int):Option Int :=
 (Qa fuel (Qb5 p0 p1) (0,0)).bind fun x9 =>
 some x9
def Vg (p0:(List Int)) (c0:Int) (s1:Int):Option (Qh Int (Int ⊕ Unit)) :=
 if (decide (s1 < (p0.length:Int)))=true then
  (lkI p0 s1).bind fun a4 =>
  if ((zv (zb c0 &&& ~~~ zb a4).toNat)==0)=true then
   some (.done (Sum.inl s1))
  else
  some (.next (zw (s1+1)))
 else
 some (.done (Sum.inr ()))
def Jo (p0:(List Int)) (c0:Int):Option Int :=
 (Qa fuel (Vg p0 c0) 0).bind fun x8=>match x8 with
 | .inl x9=>(
  some x9)
 | .inr x10=>(
  some (-1))
def Kl (s11:((List Int) × (List Int) × (List Int))) (s18:(Int × Int × Int)):Option (Qh (Int × Int × Int) (Int × Int)) :=
 if (decide (s18.2.1 < (s11.1.length:Int)))=true then
  (lkI s11.1 s18.2.1).bind fun a21 =>
  (Qfe s11.2.1 a21).bind fun x23 =>
  if (decide (x23≥s18.2.2))=true then
   some (.next (s18.2.1,zw (s18.2.1+1),x23))
  else
  some (.next (s18.1,zw (s18.2.1+1),s18.2.2))
 else
 some (.done (s18.1,s18.2.2))
def Kf (s11:((List Int) × (List Int) × (List Int))) (a29:Int) (x28:(Int × Int)) (s31:Int):Option (Qh Int (Int ⊕ Unit)) :=
 if (decide (s31 < (s11.2.1.length:Int)))=true then
  (lkI s11.2.1 s31).bind fun a34 =>
  (Zv (zv (zb a34 &&& zb a29).toNat)).bind fun x36 =>
  if (x36==x28.2)=true then
   some (.done (Sum.inl s31))
  else
  some (.next (zw (s31+1)))
 else
 some (.done (Sum.inr ()))
def Jb  (s11:((List Int) × (List Int) × (List Int))):Option (Qh ((List Int) × (List Int) × (List Int)) ((List Int) × (List Int))) :=
 if (decide ((s11.1.length:Int) > 0))=true then
  (Qa fuel (Kl s11) (0,0,-1)).bind fun x28 =>
  (lkI s11.1 x28.1).bind fun a29 =>
  (Qa fuel (Kf s11 a29 x28) 0).bind fun x40=>match x40 with
  | .inl x41=>(
   if (s11.2.1++([a29]:(List Int))).length*8≤140737488355328 then
    if (s11.2.2++([x41]:(List Int))).length*8≤140737488355328 then
     if 0≤x28.1∧x28.1≤(zw (x28.1+1))∧(zw (x28.1+1))≤(s11.1.length:Int)∧(s11.1.length:Int)≤(s11.1.length:Int) then
      if (x28.1==(zw (x28.1+1)))=true then
       some (.next (s11.1,(s11.2.1++([a29]:(List Int))),(s11.2.2++([x41]:(List Int)))))
      else
      if 0≤(0:Int)∧(0:Int)≤x28.1∧x28.1≤(s11.1.length:Int) then
       if 0≤(zw (x28.1+1))∧(zw (x28.1+1))≤(s11.1.length:Int)∧(s11.1.length:Int)≤(s11.1.length:Int) then
        if (Int.toNat x28.1 - Int.toNat (0:Int)) < s11.1.length∧((Int.toNat x28.1 - Int.toNat (0:Int))+(sub s11.1 (zw (x28.1+1)) (s11.1.length:Int)).length)≤s11.1.length then
         if 0≤((((Int.toNat x28.1 - Int.toNat (0:Int))+(sub s11.1 (zw (x28.1+1)) (s11.1.length:Int)).length):Nat):Int)∧((((Int.toNat x28.1 - Int.toNat (0:Int))+(sub s11.1 (zw (x28.1+1)) (s11.1.length:Int)).length):Nat):Int)≤(s11.1.length:Int)∧(s11.1.length:Int)≤((ovr s11.1 (Int.toNat x28.1 - Int.toNat (0:Int)) (sub s11.1 (zw (x28.1+1)) (s11.1.length:Int))).length:Int) then
          if (Int.toNat ((((Int.toNat x28.1 - Int.toNat (0:Int))+(sub s11.1 (zw (x28.1+1)) (s11.1.length:Int)).length):Nat):Int))+(Int.toNat (s11.1.length:Int) - Int.toNat ((((Int.toNat x28.1 - Int.toNat (0:Int))+(sub s11.1 (zw (x28.1+1)) (s11.1.length:Int)).length):Nat):Int))≤(ovr s11.1 (Int.toNat x28.1 - Int.toNat (0:Int)) (sub s11.1 (zw (x28.1+1)) (s11.1.length:Int))).length then
           some (.next ((List.take ((Int.toNat x28.1 - Int.toNat (0:Int))+(sub s11.1 (zw (x28.1+1)) (s11.1.length:Int)).length) (ovr (ovr s11.1 (Int.toNat x28.1 - Int.toNat (0:Int)) (sub s11.1 (zw (x28.1+1)) (s11.1.length:Int))) (Int.toNat ((((Int.toNat x28.1 - Int.toNat (0:Int))+(sub s11.1 (zw (x28.1+1)) (s11.1.length:Int)).length):Nat):Int)) (List.replicate (Int.toNat (s11.1.length:Int) - Int.toNat ((((Int.toNat x28.1 - Int.toNat (0:Int))+(sub s11.1 (zw (x28.1+1)) (s11.1.length:Int)).length):Nat):Int)) 0))),(s11.2.1++([a29]:(List Int))),(s11.2.2++([x41]:(List Int)))))
          else none
         else none
        else none
       else none
      else none
     else none
    else none
   else none)
  | .inr x51=>(
   if (s11.2.1++([a29]:(List Int))).length*8≤140737488355328 then
    if (s11.2.2++([-1]:(List Int))).length*8≤140737488355328 then
     if 0≤x28.1∧x28.1≤(zw (x28.1+1))∧(zw (x28.1+1))≤(s11.1.length:Int)∧(s11.1.length:Int)≤(s11.1.length:Int) then
      if (x28.1==(zw (x28.1+1)))=true then
       some (.next (s11.1,(s11.2.1++([a29]:(List Int))),(s11.2.2++([-1]:(List Int)))))
      else
      if 0≤(0:Int)∧(0:Int)≤x28.1∧x28.1≤(s11.1.length:Int) then
       if 0≤(zw (x28.1+1))∧(zw (x28.1+1))≤(s11.1.length:Int)∧(s11.1.length:Int)≤(s11.1.length:Int) then
        if (Int.toNat x28.1 - Int.toNat (0:Int)) < s11.1.length∧((Int.toNat x28.1 - Int.toNat (0:Int))+(sub s11.1 (zw (x28.1+1)) (s11.1.length:Int)).length)≤s11.1.length then
         if 0≤((((Int.toNat x28.1 - Int.toNat (0:Int))+(sub s11.1 (zw (x28.1+1)) (s11.1.length:Int)).length):Nat):Int)∧((((Int.toNat x28.1 - Int.toNat (0:Int))+(sub s11.1 (zw (x28.1+1)) (s11.1.length:Int)).length):Nat):Int)≤(s11.1.length:Int)∧(s11.1.length:Int)≤((ovr s11.1 (Int.toNat x28.1 - Int.toNat (0:Int)) (sub s11.1 (zw (x28.1+1)) (s11.1.length:Int))).length:Int) then
          if (Int.toNat ((((Int.toNat x28.1 - Int.toNat (0:Int))+(sub s11.1 (zw (x28.1+1)) (s11.1.length:Int)).length):Nat):Int))+(Int.toNat (s11.1.length:Int) - Int.toNat ((((Int.toNat x28.1 - Int.toNat (0:Int))+(sub s11.1 (zw (x28.1+1)) (s11.1.length:Int)).length):Nat):Int))≤(ovr s11.1 (Int.toNat x28.1 - Int.toNat (0:Int)) (sub s11.1 (zw (x28.1+1)) (s11.1.length:Int))).length then
           some (.next ((List.take ((Int.toNat x28.1 - Int.toNat (0:Int))+(sub s11.1 (zw (x28.1+1)) (s11.1.length:Int)).length) (ovr (ovr s11.1 (Int.toNat x28.1 - Int.toNat (0:Int)) (sub s11.1 (zw (x28.1+1)) (s11.1.length:Int))) (Int.toNat ((((Int.toNat x28.1 - Int.toNat (0:Int))+(sub s11.1 (zw (x28.1+1)) (s11.1.length:Int)).length):Nat):Int)) (List.replicate (Int.toNat (s11.1.length:Int) - Int.toNat ((((Int.toNat x28.1 - Int.toNat (0:Int))+(sub s11.1 (zw (x28.1+1)) (s11.1.length:Int)).length):Nat):Int)) 0))),(s11.2.1++([a29]:(List Int))),(s11.2.2++([-1]:(List Int)))))
          else none
         else none
        else none
       else none
      else none
     else none
    else none
   else none)
 else
 some (.done (s11.2.1,s11.2.2))
def Qa8 (p1:(List Int)) (x62:((List Int) × (List Int))) (s63:(Int × (List Int))):Option (Qh (Int × (List Int)) (List Int)) :=
 if (decide (s63.1 < (p1.length:Int)))=true then
  (lkI p1 s63.1).bind fun a66 =>
  (Jo x62.1 a66).bind fun x68 =>
  if (s63.2++([x68]:(List Int))).length*8≤140737488355328 then
   some (.next (zw (s63.1+1),(s63.2++([x68]:(List Int)))))
  else none
 else
 some (.done s63.2)
def Qbc (p0:Qc) (p1:(List Int)) (p2:(List Int)):Option (Qq × Int) :=
 (Qcz p0).bind fun x1 =>
 if (x1.2 != 0)=true then
  some ((Qq.mk ([]:(List Int)) ([]:(List Int)) ([]:(List Int))),x1.2)
 else
 (Jm (Ttree_maker.mk (Ttree_graph.mk x1.1) p2)).bind fun x5 =>
 (lkI x5 (zw ((x5.length:Int) - 1))).bind fun a7 =>
 if 0≤(0:Int)∧(0:Int)≤(zw ((x5.length:Int) - 1))∧(zw ((x5.length:Int) - 1))≤(x5.length:Int) then
  (Qa fuel (Jb) ((List.take (Int.toNat (zw ((x5.length:Int) - 1))) x5),([a7]:(List Int)),([-1]:(List Int)))).bind fun x62 =>
  (Qa fuel (Qa8 p1 x62) (0,([]:(List Int)))).bind fun x71 =>
  some ((Qq.mk x62.1 x62.2 x71),0)
 else none
def Qqr (p1:(List Int)) (x1:((List Int) × Int)) (s7:(Int × Int)):Option (Qh (Int × Int) (Unit ⊕ Unit)) :=
 if (decide (s7.2 < (p1.length:Int)))=true then
  (lkI p1 s7.2).bind fun a10 =>
  if (decide (a10 < 0))=true then
   some (.done (Sum.inl ()))
  else
  if (decide (a10≥(x1.1.length:Int)))=true then
   some (.done (Sum.inl ()))
  else
  if 0≤a10 then
   if ((zv (zb (Int.fdiv s7.1 (2^min (Int.toNat a10) (IntKind.bits .u64))) &&& zb 1).toNat)==1)=true then
    some (.done (Sum.inl ()))
   else
   if 0≤a10 then
    some (.next (zv (zb s7.1 ||| zb (zv (1*2^min (Int.toNat a10) (IntKind.bits .u64)))).toNat,zw (s7.2+1)))
   else none
  else none
 else
 some (.done (Sum.inr ()))
def Qnc (p0:Qc) (p1:(List Int)):Option (Qq × Int) :=
 (Z5 p0).bind fun x1 =>
 if (x1.2 != 0)=true then
  some ((Qq.mk ([]:(List Int)) ([]:(List Int)) ([]:(List Int))),x1.2)
 else
 if ((p1.length:Int) != (x1.1.length:Int))=true then
  some ((Qq.mk ([]:(List Int)) ([]:(List Int)) ([]:(List Int))),2)
 else
 (Qa fuel (Qqr p1 x1) (0,0)).bind fun x18=>match x18 with
 | .inl x19=>(
  some ((Qq.mk ([]:(List Int)) ([]:(List Int)) ([]:(List Int))),2))
 | .inr x20=>(
  (Qbc p0 x1.1 p1).bind fun x21 =>
  some (x21.1,x21.2))
def Qa5 (p0:(List Int)) (p1:(List Int)) (s3:Int):Option (Qh Int (Unit ⊕ Unit)) :=
 if (decide (s3 < (p0.length:Int)))=true then
  (lkI p0 s3).bind fun a6 =>
  (lkI p1 s3).bind fun a8 =>
  if (a6 != a8)=true then
   some (.done (Sum.inl ()))
  else
  some (.next (zw (s3+1)))
 else
 some (.done (Sum.inr ()))
def Qee (p0:(List Int)) (p1:(List Int)):Option Bool :=
 if ((p0.length:Int) != (p1.length:Int))=true then
  some false
 else
 (Qa fuel (Qa5 p0 p1) 0).bind fun x12=>match x12 with
 | .inl x13=>(
  some false)
 | .inr x14=>(
  some true)
def Qba (p0:(List Int)) (p1:(List Int)) (s3:Int):Option (Qh Int (Unit ⊕ Unit)) :=
 if (decide (s3 < (p0.length:Int)))=true then
  (lkI p0 s3).bind fun a6 =>
  (lkI p1 s3).bind fun a8 =>
  if (a6 != a8)=true then
   some (.done (Sum.inl ()))
  else
  some (.next (zw (s3+1)))
 else
 some (.done (Sum.inr ()))
def Qbf (p0:(List Int)) (p1:(List Int)):Option Bool :=
 if ((p0.length:Int) != (p1.length:Int))=true then
  some false
 else
 (Qa fuel (Qba p0 p1) 0).bind fun x12=>match x12 with
 | .inl x13=>(
  some false)
 | .inr x14=>(
  some true)
def Vy (p0:Qq) (p1:Qq):Option Bool :=
 (Qee p0.Cliques p1.Cliques).bind fun x1 =>
 if x1=true then
  (Qbf p0.Up p1.Up).bind fun x5 =>
  if x5=true then
   (Qbf p0.Home p1.Home).bind fun x9 =>
   some x9
  else
  some false
 else
 some false
def Vl (p0:(List Int)) (s5:Int) (a8:Int) (s14:Int):Option (Qh Int (Unit ⊕ Unit)) :=
 if (decide (s14 < (p0.length:Int)))=true then
  if 0≤s14 then
   (lkI p0 s14).bind fun a17 =>
   if 0≤s5 then
    if ((zv (zb (Int.fdiv a8 (2^min (Int.toNat s14) (IntKind.bits .u64))) &&& zb 1).toNat) != (zv (zb (Int.fdiv a17 (2^min (Int.toNat s5) (IntKind.bits .u64))) &&& zb 1).toNat))=true then
     some (.done (Sum.inl ()))
    else
    some (.next (zw (s14+1)))
   else none
  else none
 else
 some (.done (Sum.inr ()))
def Qaf (p0:(List Int)) (s5:Int):Option (Qh Int (Unit ⊕ Unit)) :=
 if (decide (s5 < (p0.length:Int)))=true then
  (lkI p0 s5).bind fun a8 =>
  if 0≤(p0.length:Int) then
   if ((Int.fdiv a8 (2^min (Int.toNat (p0.length:Int)) (IntKind.bits .u64))) != 0)=true then
    some (.done (Sum.inl ()))
   else
   if 0≤s5 then
    if ((zv (zb (Int.fdiv a8 (2^min (Int.toNat s5) (IntKind.bits .u64))) &&& zb 1).toNat)==1)=true then
     some (.done (Sum.inl ()))
    else
    (Qa fuel (Vl p0 s5 a8) 0).bind fun x21=>match x21 with
    | .inl x22=>(
     some (.done (Sum.inl ())))
    | .inr x23=>(
     some (.next (zw (s5+1))))
   else none
  else none
 else
 some (.done (Sum.inr ()))
def J7 (p0:(List Int)):Option Int :=
 if (decide ((p0.length:Int) < 1))=true then
  some 80
 else
 if (decide ((p0.length:Int) > 10))=true then
  some 80
 else
 (Qa fuel (Qaf p0) 0).bind fun x24=>match x24 with
 | .inl x25=>(
  some 80)
 | .inr x26=>(
  some 0)
def Qaa (p0:Int):Option Int :=
 if (p0==0)=true then
  some 64
 else
 (lkI tab1 (Int.fdiv (zv ((zv (zb p0 &&& zb (zv (0 - p0))).toNat)*285870213051353865)) (2^min (Int.toNat 58) (IntKind.bits .u64)))).bind fun a3 =>
 some (zw (a3))
def Za (p0:Int):Option Int :=
 (Qaa p0).bind fun x1 =>
 some x1
def Kn (p2:Int) (p0:(List Int)) (s3:(Int × Int × Int)):Option (Qh (Int × Int × Int) Int) :=
 if (s3.2.2 != 0)=true then
  (Za s3.2.2).bind fun x6 =>
  if 0≤x6 then
   if 0≤x6 then
    if ((zv (zb (Int.fdiv p2 (2^min (Int.toNat x6) (IntKind.bits .u64))) &&& zb 1).toNat)==0)=true then
     if 0≤x6 then
      some (.next (zv (zb s3.1 ||| zb (zv (1*2^min (Int.toNat x6) (IntKind.bits .u64)))).toNat,zv (zb s3.2.1 ||| zb (zv (1*2^min (Int.toNat x6) (IntKind.bits .u64)))).toNat,zv (zb s3.2.2 &&& zb (zv (s3.2.2 - 1))).toNat))
     else none
    else
    (lkI p0 x6).bind fun a10 =>
    some (.next (zv (zb s3.1 ||| zb (zv (1*2^min (Int.toNat x6) (IntKind.bits .u64)))).toNat,s3.2.1,zv (zb (zv (zb s3.2.2 &&& zb (zv (s3.2.2 - 1))).toNat) ||| zb (zv (zb a10 &&& ~~~ zb (zv (zb s3.1 ||| zb (zv (1*2^min (Int.toNat x6) (IntKind.bits .u64)))).toNat)).toNat)).toNat))
   else none
  else none
 else
 some (.done s3.2.1)
def K4 (p0:(List Int)) (p1:Int) (p2:Int):Option Int :=
 if 0≤p1 then
  (lkI p0 p1).bind fun a1 =>
  (Qa fuel (Kn p2 p0) (zv (1*2^min (Int.toNat p1) (IntKind.bits .u64)),0,a1)).bind fun x13 =>
  (Zv x13).bind fun x14 =>
  some x14
 else none
def Qa9 (p0:(List Int)) (s5:(Int × (List (Int × Int)))) (r6:((Int × (List (Int × Int)))→Option (Int × (List (Int × Int))))) (s10:(Int × (List (Int × Int)) × Int)):Option (Qh (Int × (List (Int × Int)) × Int) ((List (Int × Int)) × Int)) :=
 if (s10.1 != 0)=true then
  (Za s10.1).bind fun x13 =>
  (K4 p0 x13 (zv (zb (zv ((zv (1*2^min (Int.toNat (p0.length:Int)) (IntKind.bits .u64))) - 1)) &&& ~~~ zb s5.1).toNat)).bind fun x15 =>
  if 0≤x13 then
   (r6 (zv (zb s5.1 &&& ~~~ zb (zv (1*2^min (Int.toNat x13) (IntKind.bits .u64)))).toNat,s10.2.1)).bind fun x17 =>
   some (.next (zv (zb s10.1 &&& zb (zv (s10.1 - 1))).toNat,x17.2,(if (if x17.1 > x15 then x17.1 else x15) < s10.2.2 then (if x17.1 > x15 then x17.1 else x15) else s10.2.2)))
  else none
 else
 some (.done (s10.2.1,s10.2.2))
def X6 (p0:(List Int)) (r6:((Int × (List (Int × Int)))→Option (Int × (List (Int × Int))))) (s5:(Int × (List (Int × Int)))):Option (Int × (List (Int × Int))) :=
 if (Xu s5.2 s5.1).isSome=true then
  some ((Xu s5.2 s5.1).getD 0,s5.2)
 else
 (Qa fuel (Qa9 p0 s5 r6) (s5.1,s5.2,(p0.length:Int))).bind fun x19 =>
 some (x19.2,mput x19.1 s5.1 x19.2)
def Qo6 (p0:(List Int)) (s34:(Int × (List (Int × Int)))) (r35:((Int × (List (Int × Int)))→Option (Int × (List (Int × Int))))) (s39:(Int × (List (Int × Int)) × Int)):Option (Qh (Int × (List (Int × Int)) × Int) ((List (Int × Int)) × Int)) :=
 if (s39.1 != 0)=true then
  (Za s39.1).bind fun x42 =>
  (K4 p0 x42 (zv (zb (zv ((zv (1*2^min (Int.toNat (p0.length:Int)) (IntKind.bits .u64))) - 1)) &&& ~~~ zb s34.1).toNat)).bind fun x44 =>
  if 0≤x42 then
   (r35 (zv (zb s34.1 &&& ~~~ zb (zv (1*2^min (Int.toNat x42) (IntKind.bits .u64)))).toNat,s39.2.1)).bind fun x46 =>
   some (.next (zv (zb s39.1 &&& zb (zv (s39.1 - 1))).toNat,x46.2,(if (if x46.1 > x44 then x46.1 else x44) < s39.2.2 then (if x46.1 > x44 then x46.1 else x44) else s39.2.2)))
  else none
 else
 some (.done (s39.2.1,s39.2.2))
def Qhz (p0:(List Int)) (r35:((Int × (List (Int × Int)))→Option (Int × (List (Int × Int))))) (s34:(Int × (List (Int × Int)))):Option (Int × (List (Int × Int))) :=
 if (Xu s34.2 s34.1).isSome=true then
  some ((Xu s34.2 s34.1).getD 0,s34.2)
 else
 (Qa fuel (Qo6 p0 s34 r35) (s34.1,s34.2,(p0.length:Int))).bind fun x48 =>
 some (x48.2,mput x48.1 s34.1 x48.2)
def X7 (p0:(List Int)) (s22:(Int × (List Int) × (List (Int × Int)))) (x20:(Int × (List (Int × Int)))) (s25:(Int × (List (Int × Int)))):Option (Qh (Int × (List (Int × Int))) ((Int × (List (Int × Int)) × (List Int)) ⊕ (List (Int × Int)))) :=
 if (s25.1 != 0)=true then
  (Za s25.1).bind fun x28 =>
  (K4 p0 x28 (zv (zb (zv ((zv (1*2^min (Int.toNat (p0.length:Int)) (IntKind.bits .u64))) - 1)) &&& ~~~ zb s22.1).toNat)).bind fun x30 =>
  if (decide (x30≤x20.1))=true then
   if 0≤x28 then
    (Ve (Qhz p0) fuel (zv (zb s22.1 &&& ~~~ zb (zv (1*2^min (Int.toNat x28) (IntKind.bits .u64)))).toNat,s25.2)).bind fun x49 =>
    if (decide (x49.1≤x20.1))=true then
     if (s22.2.1++([x28]:(List Int))).length*8≤140737488355328 then
      if 0≤x28 then
       some (.done (Sum.inl (zv (zb s22.1 &&& ~~~ zb (zv (1*2^min (Int.toNat x28) (IntKind.bits .u64)))).toNat,x49.2,(s22.2.1++([x28]:(List Int))))))
      else none
     else none
    else
    some (.next (zv (zb s25.1 &&& zb (zv (s25.1 - 1))).toNat,x49.2))
   else none
  else
  some (.next (zv (zb s25.1 &&& zb (zv (s25.1 - 1))).toNat,s25.2))
 else
 some (.done (Sum.inr s25.2))
def Kk (p0:(List Int)) (x20:(Int × (List (Int × Int)))) (s22:(Int × (List Int) × (List (Int × Int)))):Option (Qh (Int × (List Int) × (List (Int × Int))) (List Int)) :=
 if (s22.1 != 0)=true then
  (Qa fuel (X7 p0 s22 x20) (s22.1,s22.2.2)).bind fun x53=>match x53 with
  | .inl x54=>(
   some (.next (x54.1,x54.2.2,x54.2.1)))
  | .inr x55=>(
   some (.done s22.2.1))
 else
 some (.done s22.2.1)
def Qd4 (p0:(List Int)):Option ((List Int) × Int × Int) :=
 (J7 p0).bind fun x1 =>
 if (x1 != 0)=true then
  some (([]:(List Int)),0,x1)
 else
 if 0≤(p0.length:Int) then
  (Ve (X6 p0) fuel (zv ((zv (1*2^min (Int.toNat (p0.length:Int)) (IntKind.bits .u64))) - 1),mput [] (0:Int) (0:Int))).bind fun x20 =>
  (Qa fuel (Kk p0 x20) (zv ((zv (1*2^min (Int.toNat (p0.length:Int)) (IntKind.bits .u64))) - 1),([]:(List Int)),x20.2)).bind fun x57 =>
  some (x57,x20.1,0)
 else none
def K6 (p0:Qc):Option (Qq × Int) :=
 (Z5 p0).bind fun x1 =>
 if (x1.2 != 0)=true then
  some ((Qq.mk ([]:(List Int)) ([]:(List Int)) ([]:(List Int))),x1.2)
 else
 (Qcz p0).bind fun x5 =>
 if (x5.2 != 0)=true then
  some ((Qq.mk ([]:(List Int)) ([]:(List Int)) ([]:(List Int))),x5.2)
 else
 (Qd4 x5.1).bind fun x9 =>
 if (x9.2.2 != 0)=true then
  some ((Qq.mk ([]:(List Int)) ([]:(List Int)) ([]:(List Int))),x9.2.2)
 else
 (Qbc p0 x1.1 x9.1).bind fun x13 =>
 some (x13.1,x13.2)
def Qi9  : Option Qc :=
 some (Qc.mk 4 ([(Tapi_Node.mk 2 [] [[1,3]]),(Tapi_Node.mk 2 [0] [[4,0],[2,2]]),(Tapi_Node.mk 2 [1] [[1,3],[4,0]])]:(List Tapi_Node)))
def Qb9  : Option Qq :=
 some (Qq.mk ([6,3]:(List Int)) ([-1,0]:(List Int)) ([1,1,0]:(List Int)))
def Qf1  : Option Bool :=
 (Qi9).bind fun x1 =>
 (Qnc x1 [0,1,2]).bind fun x3 =>
 (Qlm x1 x3.1).bind fun x5 =>
 (Qhg x1 x3.1 1).bind fun x7 =>
 (K6 x1).bind fun x9 =>
 if (x3.2==0)=true then
  (Qb9).bind fun x13 =>
  (Vy x3.1 x13).bind fun x15 =>
  if x15=true then
   if (x5.1==1)=true then
    if (x5.2==0)=true then
     if (x7.1==2)=true then
      if (x7.2==0)=true then
       if (x9.2==0)=true then
        (Qb9).bind fun x29 =>
        (Vy x9.1 x29).bind fun x31 =>
        if x31=true then
         (Qb9).bind fun x35 =>
         (Qbu x1 x35).bind fun x37 =>
         if (x37==0)=true then
          (Qbu x1 (Qq.mk [] [] [])).bind fun x41 =>
          some (x41==100)
         else
         some false
        else
        some false
       else
       some false
      else
      some false
     else
     some false
    else
    some false
   else
   some false
  else
  some false
 else
 some false
def Kv (p0:Tharuspexref02_Draft) (s1:(Int × (List Int))):Option (Qh (Int × (List Int)) (List Int)) :=
 if (decide (s1.1 < (p0.C.length:Int)))=true then
  if (decide (s1.1 < 5))=true then
   (lkI p0.C s1.1).bind fun a6 =>
   if (s1.2++([zw (1+(zw (Int.tmod a6 4)))]:(List Int))).length*8≤140737488355328 then
    some (.next (zw (s1.1+1),(s1.2++([zw (1+(zw (Int.tmod a6 4)))]:(List Int)))))
   else none
  else
  some (.done s1.2)
 else
 some (.done s1.2)
def J3 (p0:Tharuspexref02_Draft):Option (List Int) :=
 (Qa fuel (Kv p0) (0,([]:(List Int)))).bind fun x9 =>
 some x9
def Vq (p0:Tharuspexref02_Draft) (s1:(Int × (List Int))):Option (Qh (Int × (List Int)) (List Int)) :=
 (J3 p0).bind fun x2 =>
 if (decide (s1.1 < (x2.length:Int)))=true then
  if (decide (s1.1 < (p0.Order.length:Int)))=true then
   (lkI p0.Order s1.1).bind fun a8 =>
   if (zw (s1.1+1))≠0 then
    if 0≤(0:Int)∧(0:Int)≤(Int.tmod (zw (a8)) (zw (s1.1+1)))∧(Int.tmod (zw (a8)) (zw (s1.1+1)))≤(s1.2.length:Int) then
     if (sub s1.2 0 (Int.tmod (zw (a8)) (zw (s1.1+1)))).length*8≤140737488355328 then
      if ((sub s1.2 0 (Int.tmod (zw (a8)) (zw (s1.1+1))))++([s1.1]:(List Int))).length*8≤140737488355328 then
       if 0≤(Int.tmod (zw (a8)) (zw (s1.1+1)))∧(Int.tmod (zw (a8)) (zw (s1.1+1)))≤(s1.2.length:Int)∧(s1.2.length:Int)≤(s1.2.length:Int) then
        if (((sub s1.2 0 (Int.tmod (zw (a8)) (zw (s1.1+1))))++([s1.1]:(List Int)))++(sub s1.2 (Int.tmod (zw (a8)) (zw (s1.1+1))) (s1.2.length:Int))).length*8≤140737488355328 then
         some (.next (zw (s1.1+1),(((sub s1.2 0 (Int.tmod (zw (a8)) (zw (s1.1+1))))++([s1.1]:(List Int)))++(sub s1.2 (Int.tmod (zw (a8)) (zw (s1.1+1))) (s1.2.length:Int)))))
        else none
       else none
      else none
     else none
    else none
   else none
  else
  if 0≤(0:Int)∧(0:Int)≤(0:Int)∧(0:Int)≤(s1.2.length:Int) then
   if (sub s1.2 0 0).length*8≤140737488355328 then
    if ((sub s1.2 0 0)++([s1.1]:(List Int))).length*8≤140737488355328 then
     if 0≤(0:Int)∧(0:Int)≤(s1.2.length:Int)∧(s1.2.length:Int)≤(s1.2.length:Int) then
      if (((sub s1.2 0 0)++([s1.1]:(List Int)))++(sub s1.2 0 (s1.2.length:Int))).length*8≤140737488355328 then
       some (.next (zw (s1.1+1),(((sub s1.2 0 0)++([s1.1]:(List Int)))++(sub s1.2 0 (s1.2.length:Int)))))
      else none
     else none
    else none
   else none
  else none
 else
 some (.done s1.2)
def Yv (p0:Tharuspexref02_Draft):Option (List Int) :=
 (Qa fuel (Vq p0) (0,([]:(List Int)))).bind fun x15 =>
 some x15
def Qej (p0:(List Int)) (s1:(Int × Int)):Option (Qh (Int × Int) Int) :=
 if (decide (s1.2 < (p0.length:Int)))=true then
  (lkI p0 s1.2).bind fun a4 =>
  some (.next (zw (s1.1*a4),zw (s1.2+1)))
 else
 some (.done s1.1)
def K1 (p0:(List Int)):Option Int :=
 (Qa fuel (Qej p0) (1,0)).bind fun x7 =>
 some x7
def Qf7 (p1:(List Int)) (p0:(List Int)) (s1:(Int × (List Int))):Option (Qh (Int × (List Int)) (List Int)) :=
 if (decide (s1.1 < (p1.length:Int)))=true then
  (lkI p1 s1.1).bind fun a4 =>
  (lkI p0 a4).bind fun a6 =>
  if (s1.2++([a6]:(List Int))).length*8≤140737488355328 then
   some (.next (zw (s1.1+1),(s1.2++([a6]:(List Int)))))
  else none
 else
 some (.done s1.2)
def Qgg (p0:(List Int)) (p1:(List Int)):Option (List Int) :=
 (Qa fuel (Qf7 p1 p0) (0,([]:(List Int)))).bind fun x9 =>
 some x9
def Qda (p0:Qc) (s1:(Int × (List Int))):Option (Qh (Int × (List Int)) (List Int)) :=
 if (decide (s1.1 < (p0.Nodes.length:Int)))=true then
  (lkI p0.Nodes s1.1).bind fun a4 =>
  if (s1.2++([a4.Card]:(List Int))).length*8≤140737488355328 then
   some (.next (zw (s1.1+1),(s1.2++([a4.Card]:(List Int)))))
  else none
 else
 some (.done s1.2)
def Qc2 (p0:Qc):Option (List Int) :=
 (Qa fuel (Qda p0) (0,([]:(List Int)))).bind fun x7 =>
 some x7
def Zj (p0:Qc) (p1:Int):Option (List Int) :=
 (Qc2 p0).bind fun x1 =>
 (lkI p0.Nodes p1).bind fun a3 =>
 (Qgg x1 a3.Parents).bind fun x5 =>
 some x5
def Jr (p1:Int) (p2:(List Int)) (p3:Int) (s1:(Int × Int × (List Int))):Option (Qh (Int × Int × (List Int)) (Int × (List Int))) :=
 if (decide (s1.2.1 < p1))=true then
  if (decide ((p2.length:Int) > 0))=true then
   if (p2.length:Int)≠0 then
    (lkI p2 (Int.tmod (zw (p3+s1.2.1)) (p2.length:Int))).bind fun a6 =>
    (lkI s1.2.2 s1.2.1).bind fun a8 =>
    some (.next (zw (s1.1+(zw (Int.tmod a6 8))),zw (s1.2.1+1),(List.set s1.2.2 (Int.toNat s1.2.1) (zw (Int.tmod a6 8)))))
   else none
  else
  (lkI s1.2.2 s1.2.1).bind fun a11 =>
  some (.next (zw (s1.1+a11),zw (s1.2.1+1),s1.2.2))
 else
 some (.done (s1.1,s1.2.2))
def Qep (p1:Int) (x14:(Int × (List Int))) (p0:Int) (s15:(Int × Int × Int × (List Int))):Option (Qh (Int × Int × Int × (List Int)) (Int × Int × (List Int))) :=
 if (decide (s15.2.2.1 < p1))=true then
  (lkI s15.2.2.2 s15.2.2.1).bind fun a18 =>
  if (decide (a18 > 0))=true then
   if x14.1≠0 then
    some (.next (zw (s15.1 - (zw (Int.tdiv (zw (p0*a18)) x14.1))),s15.2.2.1,zw (s15.2.2.1+1),(List.set s15.2.2.2 (Int.toNat s15.2.2.1) (zw (Int.tdiv (zw (p0*a18)) x14.1)))))
   else none
  else
  some (.next (zw (s15.1 - a18),s15.2.1,zw (s15.2.2.1+1),s15.2.2.2))
 else
 some (.done (s15.1,s15.2.1,s15.2.2.2))
def Qcv (p0:Int) (p1:Int) (p2:(List Int)) (p3:Int):Option (List Int) :=
 if 0≤p1∧p1≤p1∧p1*8≤140737488355328 then
  (Qa fuel (Jr p1 p2 p3) (0,0,(List.replicate (Int.toNat p1) (0:Int)))).bind fun x14 =>
  (Qa fuel (Qep p1 x14 p0) (p0,0,0,x14.2)).bind fun x24 =>
  (lkI x24.2.2 x24.2.1).bind fun a25 =>
  some (List.set x24.2.2 (Int.toNat x24.2.1) (zw (a25+x24.1)))
 else none
def Y4 (p0:Qe) (x1:(List Int)) (s3:(Int × Int × (List (Int ⊕ Tapi_Node)))):Option (Qh (Int × Int × (List (Int ⊕ Tapi_Node))) (List (Int ⊕ Tapi_Node))) :=
 if (decide (s3.2.1 < (if 5 < (if 1 > (p0.Nodes.length:Int) then 1 else (p0.Nodes.length:Int)) then 5 else (if 1 > (p0.Nodes.length:Int) then 1 else (p0.Nodes.length:Int)))))=true then
  if (decide (s3.2.1 < (p0.Nodes.length:Int)))=true then
   (lkI p0.Nodes s3.2.1).bind fun a8 =>
   if 0≤(zv (zw ((zw ((if 5 < (if 1 > (p0.Nodes.length:Int) then 1 else (p0.Nodes.length:Int)) then 5 else (if 1 > (p0.Nodes.length:Int) then 1 else (p0.Nodes.length:Int))) - 1)) - s3.2.1))) then
    if (decide ((zw ((zw (s3.1*(zw (2+(zw (Int.tmod a8.Card 2))))))*2^min (Int.toNat (zv (zw ((zw ((if 5 < (if 1 > (p0.Nodes.length:Int) then 1 else (p0.Nodes.length:Int)) then 5 else (if 1 > (p0.Nodes.length:Int) then 1 else (p0.Nodes.length:Int))) - 1)) - s3.2.1)))) (IntKind.bits .i64))) > 100))=true then
     (lkI x1 s3.2.1).bind fun a12 =>
     (lkL s3.2.2 a12).bind fun a14 =>
     some (.next (zw (s3.1*2),zw (s3.2.1+1),(List.set s3.2.2 (Int.toNat a12) (Sum.inl 2))))
    else
    (lkI x1 s3.2.1).bind fun a17 =>
    (lkL s3.2.2 a17).bind fun a19 =>
    some (.next (zw (s3.1*(zw (2+(zw (Int.tmod a8.Card 2))))),zw (s3.2.1+1),(List.set s3.2.2 (Int.toNat a17) (Sum.inl (zw (2+(zw (Int.tmod a8.Card 2))))))))
   else none
  else
  if 0≤(zv (zw ((zw ((if 5 < (if 1 > (p0.Nodes.length:Int) then 1 else (p0.Nodes.length:Int)) then 5 else (if 1 > (p0.Nodes.length:Int) then 1 else (p0.Nodes.length:Int))) - 1)) - s3.2.1))) then
   if (decide ((zw ((zw (s3.1*(zw (2+(zw (Int.tmod 0 2))))))*2^min (Int.toNat (zv (zw ((zw ((if 5 < (if 1 > (p0.Nodes.length:Int) then 1 else (p0.Nodes.length:Int)) then 5 else (if 1 > (p0.Nodes.length:Int) then 1 else (p0.Nodes.length:Int))) - 1)) - s3.2.1)))) (IntKind.bits .i64))) > 100))=true then
    (lkI x1 s3.2.1).bind fun a24 =>
    (lkL s3.2.2 a24).bind fun a26 =>
    some (.next (zw (s3.1*2),zw (s3.2.1+1),(List.set s3.2.2 (Int.toNat a24) (Sum.inl 2))))
   else
   (lkI x1 s3.2.1).bind fun a29 =>
   (lkL s3.2.2 a29).bind fun a31 =>
   some (.next (zw (s3.1*(zw (2+(zw (Int.tmod 0 2))))),zw (s3.2.1+1),(List.set s3.2.2 (Int.toNat a29) (Sum.inl (zw (2+(zw (Int.tmod 0 2))))))))
  else none
 else
 some (.done s3.2.2)
def Vb (s36:(Int × (List (Int ⊕ Tapi_Node)))) (x1:(List Int)) (s55:(Int × (List Int))) (a49:Qy) (s58:(Int × (List Int))):Option (Qh (Int × (List Int)) (List Int)) :=
 if (decide (s58.1 < s36.1))=true then
  (lkI x1 s58.1).bind fun a61 =>
  if (a61==s55.1)=true then
   if 0≤(zv (s58.1)) then
    if ((IntKind.u8.wrap (BitVec.ofInt (IntKind.bits .u8) (Int.fdiv a49.Parents (2^min (Int.toNat (zv (s58.1))) (IntKind.bits .u8))) &&& BitVec.ofInt (IntKind.bits .u8) 1).toNat)==1)=true then
     if (decide ((s58.2.length:Int) < 3))=true then
      if (s58.2++([s55.1]:(List Int))).length*8≤140737488355328 then
       some (.next (zw (s58.1+1),(s58.2++([s55.1]:(List Int)))))
      else none
     else
     some (.next (zw (s58.1+1),s58.2))
    else
    some (.next (zw (s58.1+1),s58.2))
   else none
  else
  some (.next (zw (s58.1+1),s58.2))
 else
 some (.done s58.2)
def X1 (p0:Qe) (s36:(Int × (List (Int ⊕ Tapi_Node)))) (x1:(List Int)) (a49:Qy) (s55:(Int × (List Int))):Option (Qh (Int × (List Int)) (List Int)) :=
 if (decide (s55.1 < (if 5 < (if 1 > (p0.Nodes.length:Int) then 1 else (p0.Nodes.length:Int)) then 5 else (if 1 > (p0.Nodes.length:Int) then 1 else (p0.Nodes.length:Int)))))=true then
  (Qa fuel (Vb s36 x1 s55 a49) (0,s55.2)).bind fun x70 =>
  some (.next (zw (s55.1+1),x70))
 else
 some (.done s55.2)
def Y2 (p0:Qe) (s36:(Int × (List (Int ⊕ Tapi_Node)))) (a51:Int) (a53:Int) (x72:(List Int)) (a49:Qy) (s73:(Int × (List (List Int)))):Option (Qh (Int × (List (List Int))) (List (List Int))) :=
 (Zj (Qc.mk (zw (1+(zw (Int.tmod p0.Grain 60)))) (List.set (List.map coTapi_Node s36.2) (Int.toNat a51) (Tapi_Node.mk a53 x72 s73.2))) a51).bind fun x74 =>
 (K1 x74).bind fun x76 =>
 if (decide (s73.1 < x76))=true then
  (Qcv (zw (1+(zw (Int.tmod p0.Grain 60)))) a53 a49.W (zw (s73.1*(zw (a53+1))))).bind fun x80 =>
  if (s73.2++([x80]:(List (List Int)))).length*24≤140737488355328 then
   some (.next (zw (s73.1+1),(s73.2++([x80]:(List (List Int))))))
  else none
 else
 some (.done s73.2)
def Qjw (s36:(Int × (List (Int ⊕ Tapi_Node)))) (x1:(List Int)) (s90:(Int × (List Int))) (s93:(Int × (List Int))):Option (Qh (Int × (List Int)) (List Int)) :=
 if (decide (s93.1 < s36.1))=true then
  (lkI x1 s93.1).bind fun a96 =>
  if (a96==s90.1)=true then
   if 0≤(zv (s93.1)) then
    if ((IntKind.u8.wrap (BitVec.ofInt (IntKind.bits .u8) (Int.fdiv 0 (2^min (Int.toNat (zv (s93.1))) (IntKind.bits .u8))) &&& BitVec.ofInt (IntKind.bits .u8) 1).toNat)==1)=true then
     if (decide ((s93.2.length:Int) < 3))=true then
      if (s93.2++([s90.1]:(List Int))).length*8≤140737488355328 then
       some (.next (zw (s93.1+1),(s93.2++([s90.1]:(List Int)))))
      else none
     else
     some (.next (zw (s93.1+1),s93.2))
    else
    some (.next (zw (s93.1+1),s93.2))
   else none
  else
  some (.next (zw (s93.1+1),s93.2))
 else
 some (.done s93.2)
def Qeh (p0:Qe) (s36:(Int × (List (Int ⊕ Tapi_Node)))) (x1:(List Int)) (s90:(Int × (List Int))):Option (Qh (Int × (List Int)) (List Int)) :=
 if (decide (s90.1 < (if 5 < (if 1 > (p0.Nodes.length:Int) then 1 else (p0.Nodes.length:Int)) then 5 else (if 1 > (p0.Nodes.length:Int) then 1 else (p0.Nodes.length:Int)))))=true then
  (Qa fuel (Qjw s36 x1 s90) (0,s90.2)).bind fun x105 =>
  some (.next (zw (s90.1+1),x105))
 else
 some (.done s90.2)
def Qko (p0:Qe) (s36:(Int × (List (Int ⊕ Tapi_Node)))) (a86:Int) (a88:Int) (x107:(List Int)) (s108:(Int × (List (List Int)))):Option (Qh (Int × (List (List Int))) (List (List Int))) :=
 (Zj (Qc.mk (zw (1+(zw (Int.tmod p0.Grain 60)))) (List.set (List.map coTapi_Node s36.2) (Int.toNat a86) (Tapi_Node.mk a88 x107 s108.2))) a86).bind fun x109 =>
 (K1 x109).bind fun x111 =>
 if (decide (s108.1 < x111))=true then
  (Qcv (zw (1+(zw (Int.tmod p0.Grain 60)))) a88 [] (zw (s108.1*(zw (a88+1))))).bind fun x115 =>
  if (s108.2++([x115]:(List (List Int)))).length*24≤140737488355328 then
   some (.next (zw (s108.1+1),(s108.2++([x115]:(List (List Int))))))
  else none
 else
 some (.done s108.2)
def Y9 (p0:Qe) (x1:(List Int)) (s36:(Int × (List (Int ⊕ Tapi_Node)))):Option (Qh (Int × (List (Int ⊕ Tapi_Node))) (List (Int ⊕ Tapi_Node))) :=
 if (decide (s36.1 < (if 5 < (if 1 > (p0.Nodes.length:Int) then 1 else (p0.Nodes.length:Int)) then 5 else (if 1 > (p0.Nodes.length:Int) then 1 else (p0.Nodes.length:Int)))))=true then
  if (decide (s36.1 < (p0.Nodes.length:Int)))=true then
   (lkI p0.Nodes s36.1).bind fun a49 =>
   (lkI x1 s36.1).bind fun a51 =>
   (lkL s36.2 a51).bind fun a53 =>
   (Qa fuel (X1 p0 s36 x1 a49) (0,([]:(List Int)))).bind fun x72 =>
   (Qa fuel (Y2 p0 s36 a51 a53 x72 a49) (0,([]:(List (List Int))))).bind fun x83 =>
   some (.next (zw (s36.1+1),(List.set s36.2 (Int.toNat a51) (Sum.inr (Tapi_Node.mk a53 x72 x83)))))
  else
  (lkI x1 s36.1).bind fun a86 =>
  (lkL s36.2 a86).bind fun a88 =>
  (Qa fuel (Qeh p0 s36 x1) (0,([]:(List Int)))).bind fun x107 =>
  (Qa fuel (Qko p0 s36 a86 a88 x107) (0,([]:(List (List Int))))).bind fun x118 =>
  some (.next (zw (s36.1+1),(List.set s36.2 (Int.toNat a86) (Sum.inr (Tapi_Node.mk a88 x107 x118)))))
 else
 some (.done s36.2)
def Jj (p0:Qe):Option Qc :=
 if 0≤(if 5 < (if 1 > (p0.Nodes.length:Int) then 1 else (p0.Nodes.length:Int)) then 5 else (if 1 > (p0.Nodes.length:Int) then 1 else (p0.Nodes.length:Int)))∧(if 5 < (if 1 > (p0.Nodes.length:Int) then 1 else (p0.Nodes.length:Int)) then 5 else (if 1 > (p0.Nodes.length:Int) then 1 else (p0.Nodes.length:Int)))≤(if 5 < (if 1 > (p0.Nodes.length:Int) then 1 else (p0.Nodes.length:Int)) then 5 else (if 1 > (p0.Nodes.length:Int) then 1 else (p0.Nodes.length:Int)))∧(if 5 < (if 1 > (p0.Nodes.length:Int) then 1 else (p0.Nodes.length:Int)) then 5 else (if 1 > (p0.Nodes.length:Int) then 1 else (p0.Nodes.length:Int)))*56≤140737488355328 then
  if 0≤(if 5 < (if 1 > (p0.Nodes.length:Int) then 1 else (p0.Nodes.length:Int)) then 5 else (if 1 > (p0.Nodes.length:Int) then 1 else (p0.Nodes.length:Int)))∧(if 5 < (if 1 > (p0.Nodes.length:Int) then 1 else (p0.Nodes.length:Int)) then 5 else (if 1 > (p0.Nodes.length:Int) then 1 else (p0.Nodes.length:Int)))≤(if 5 < (if 1 > (p0.Nodes.length:Int) then 1 else (p0.Nodes.length:Int)) then 5 else (if 1 > (p0.Nodes.length:Int) then 1 else (p0.Nodes.length:Int)))∧(if 5 < (if 1 > (p0.Nodes.length:Int) then 1 else (p0.Nodes.length:Int)) then 5 else (if 1 > (p0.Nodes.length:Int) then 1 else (p0.Nodes.length:Int)))*1≤140737488355328 then
   (Yv (Tharuspexref02_Draft.mk (List.replicate (Int.toNat (if 5 < (if 1 > (p0.Nodes.length:Int) then 1 else (p0.Nodes.length:Int)) then 5 else (if 1 > (p0.Nodes.length:Int) then 1 else (p0.Nodes.length:Int)))) (0:Int)) 0 p0.Order)).bind fun x1 =>
   (Qa fuel (Y4 p0 x1) (1,0,(List.replicate (Int.toNat (if 5 < (if 1 > (p0.Nodes.length:Int) then 1 else (p0.Nodes.length:Int)) then 5 else (if 1 > (p0.Nodes.length:Int) then 1 else (p0.Nodes.length:Int)))) ((Sum.inl 0):(Int ⊕ Tapi_Node))))).bind fun x35 =>
   (Qa fuel (Y9 p0 x1) (0,x35)).bind fun x122 =>
   (alr x122).bind fun m123 =>
   some (Qc.mk (zw (1+(zw (Int.tmod p0.Grain 60)))) m123)
  else none
 else none
def Ja (p0:Qc) (s1:(Int × (List Int))) (s4:(Int × Int)):Option (Qh (Int × Int) Int) :=
 (lkI p0.Nodes s1.1).bind fun a5 =>
 if (decide (s4.2 < (a5.Parents.length:Int)))=true then
  (lkI a5.Parents s4.2).bind fun a9 =>
  if 0≤(zv (a9)) then
   some (.next (zv (zb s4.1 ||| zb (zv (1*2^min (Int.toNat (zv (a9))) (IntKind.bits .u64)))).toNat,zw (s4.2+1)))
  else none
 else
 some (.done s4.1)
def V4 (p0:Qc) (s1:(Int × (List Int))):Option (Qh (Int × (List Int)) (List Int)) :=
 if (decide (s1.1 < (p0.Nodes.length:Int)))=true then
  (Qa fuel (Ja p0 s1) (0,0)).bind fun x12 =>
  if (s1.2++([x12]:(List Int))).length*8≤140737488355328 then
   some (.next (zw (s1.1+1),(s1.2++([x12]:(List Int)))))
  else none
 else
 some (.done s1.2)
def Yu (p0:Qc):Option (List Int) :=
 (Qa fuel (V4 p0) (0,([]:(List Int)))).bind fun x14 =>
 some x14
def Yg (p0:Int) (p1:Int):Option Bool :=
 if 0≤(zv (p1)) then
  some ((zv (zb (Int.fdiv p0 (2^min (Int.toNat (zv (p1))) (IntKind.bits .u64))) &&& zb 1).toNat)==1)
 else none
def Jv (p0:(List Int)) (s13:Int):Option (Qh Int Unit) :=
 if (decide (s13 < (p0.length:Int)))=true then
  some (.next (zw (s13+1)))
 else
 some (.done ())
def Jt (p0:(List Int)) (s1:(Int × (List Int))) (s4:(Int × (List Int))) (s27:(Bool × Int)):Option (Qh (Bool × Int) Bool) :=
 if (decide (s27.2 < (p0.length:Int)))=true then
  if s27.1=true then
   some (.next (true,zw (s27.2+1)))
  else
  (lkI p0 s27.2).bind fun a32 =>
  (Yg a32 s1.1).bind fun x34 =>
  if x34=true then
   (Yg a32 s4.1).bind fun x38 =>
   some (.next (x38,zw (s27.2+1)))
  else
  some (.next (false,zw (s27.2+1)))
 else
 some (.done s27.1)
def J0 (p0:(List Int)) (s1:(Int × (List Int))) (s4:(Int × (List Int))):Option (Qh (Int × (List Int)) (List Int)) :=
 if (decide (s4.1 < (p0.length:Int)))=true then
  (lkI p0 s1.1).bind fun a7 =>
  (Yg a7 s4.1).bind fun x9 =>
  if x9=true then
   (Qa fuel (Jv p0) 0).bind fun x17 =>
   if (s1.1 != s4.1)=true then
    (lkI s4.2 s1.1).bind fun a20 =>
    if 0≤(zv (s4.1)) then
     some (.next (zw (s4.1+1),(List.set s4.2 (Int.toNat s1.1) (zv (zb a20 ||| zb (zv (1*2^min (Int.toNat (zv (s4.1))) (IntKind.bits .u64)))).toNat))))
    else none
   else
   some (.next (zw (s4.1+1),s4.2))
  else
  (lkI p0 s4.1).bind fun a23 =>
  (Yg a23 s1.1).bind fun x25 =>
  (Qa fuel (Jt p0 s1 s4) (x25,0)).bind fun x41 =>
  if (s1.1 != s4.1)=true then
   if x41=true then
    (lkI s4.2 s1.1).bind fun a46 =>
    if 0≤(zv (s4.1)) then
     some (.next (zw (s4.1+1),(List.set s4.2 (Int.toNat s1.1) (zv (zb a46 ||| zb (zv (1*2^min (Int.toNat (zv (s4.1))) (IntKind.bits .u64)))).toNat))))
    else none
   else
   some (.next (zw (s4.1+1),s4.2))
  else
  some (.next (zw (s4.1+1),s4.2))
 else
 some (.done s4.2)
def Qao (p0:(List Int)) (s1:(Int × (List Int))):Option (Qh (Int × (List Int)) (List Int)) :=
 if (decide (s1.1 < (p0.length:Int)))=true then
  (Qa fuel (J0 p0 s1) (0,s1.2)).bind fun x50 =>
  some (.next (zw (s1.1+1),x50))
 else
 some (.done s1.2)
def Qc7 (p0:(List Int)):Option (List Int) :=
 if 0≤(p0.length:Int)∧(p0.length:Int)≤(p0.length:Int)∧(p0.length:Int)*8≤140737488355328 then
  (Qa fuel (Qao p0) (0,(List.replicate (Int.toNat (p0.length:Int)) (0:Int)))).bind fun x52 =>
  some x52
 else none
def Kg (s12:(Int × (List Int))) (a10:Int) (s5:(Int × Int × (List Int) × (List Int))) (s15:(Int × (List Int))):Option (Qh (Int × (List Int)) (List Int)) :=
 if (decide (s15.1 < (s15.2.length:Int)))=true then
  if (s12.1 != s15.1)=true then
   (Yg (zv (zb a10 &&& ~~~ zb s5.1).toNat) s12.1).bind fun x20 =>
   if x20=true then
    (Yg (zv (zb a10 &&& ~~~ zb s5.1).toNat) s15.1).bind fun x24 =>
    if x24=true then
     (lkI s15.2 s12.1).bind fun a28 =>
     if 0≤(zv (s15.1)) then
      some (.next (zw (s15.1+1),(List.set s15.2 (Int.toNat s12.1) (zv (zb a28 ||| zb (zv (1*2^min (Int.toNat (zv (s15.1))) (IntKind.bits .u64)))).toNat))))
     else none
    else
    some (.next (zw (s15.1+1),s15.2))
   else
   some (.next (zw (s15.1+1),s15.2))
  else
  some (.next (zw (s15.1+1),s15.2))
 else
 some (.done s15.2)
def Kd (a10:Int) (s5:(Int × Int × (List Int) × (List Int))) (s12:(Int × (List Int))):Option (Qh (Int × (List Int)) (List Int)) :=
 if (decide (s12.1 < (s12.2.length:Int)))=true then
  (Qa fuel (Kg s12 a10 s5) (0,s12.2)).bind fun x32 =>
  some (.next (zw (s12.1+1),x32))
 else
 some (.done s12.2)
def V8 (p1:(List Int)) (s5:(Int × Int × (List Int) × (List Int))):Option (Qh (Int × Int × (List Int) × (List Int)) (List Int)) :=
 if (decide (s5.2.1 < (p1.length:Int)))=true then
  (lkI p1 s5.2.1).bind fun a8 =>
  (lkI s5.2.2.1 a8).bind fun a10 =>
  if 0≤(zv (a8)) then
   if (s5.2.2.2++([zv (zb (zv (zb a10 &&& ~~~ zb s5.1).toNat) ||| zb (zv (1*2^min (Int.toNat (zv (a8))) (IntKind.bits .u64)))).toNat]:(List Int))).length*8≤140737488355328 then
    (Qa fuel (Kd a10 s5) (0,s5.2.2.1)).bind fun x34 =>
    if 0≤(zv (a8)) then
     some (.next (zv (zb s5.1 ||| zb (zv (1*2^min (Int.toNat (zv (a8))) (IntKind.bits .u64)))).toNat,zw (s5.2.1+1),x34,(s5.2.2.2++([zv (zb (zv (zb a10 &&& ~~~ zb s5.1).toNat) ||| zb (zv (1*2^min (Int.toNat (zv (a8))) (IntKind.bits .u64)))).toNat]:(List Int)))))
    else none
   else none
  else none
 else
 some (.done s5.2.2.2)
def Jz (p0:Qc) (p1:(List Int)):Option (List Int) :=
 (Yu p0).bind fun x1 =>
 (Qc7 x1).bind fun x3 =>
 (Qa fuel (V8 p1) (0,0,x3,([]:(List Int)))).bind fun x36 =>
 some x36
def Qok  (s1:(Int × Int)):Option (Qh (Int × Int) Int) :=
 if (decide (s1.1 > 0))=true then
  some (.next (zv (Int.tdiv s1.1 2),zw (s1.2+(zw (Int.tmod s1.1 2)))))
 else
 some (.done s1.2)
def Ju (p0:Int):Option Int :=
 (Qa fuel (Qok) (p0,0)).bind fun x5 =>
 some x5
def g_ref10_common_b0 (p1:(List Int)) (p0:Int) (s1:(Int × Int × Int)):Option (Qh (Int × Int × Int) (Int × Int)) :=
 if (decide (s1.2.2 < (p1.length:Int)))=true then
  (lkI p1 s1.2.2).bind fun a4 =>
  (Ju (zv (zb p0 &&& zb a4).toNat)).bind fun x6 =>
  if (decide (x6 > s1.1))=true then
   (Ju (zv (zb p0 &&& zb a4).toNat)).bind fun x10 =>
   some (.next (x10,s1.2.2,zw (s1.2.2+1)))
  else
  some (.next (s1.1,s1.2.1,zw (s1.2.2+1)))
 else
 some (.done (s1.1,s1.2.1))
def K5 (p0:Int) (p1:(List Int)):Option (Int × Int) :=
 (Qa fuel (g_ref10_common_b0 p1 p0) (-1,0,0)).bind fun x13 =>
 some (x13.1,x13.2)
def Qci (p0:Qc) (p1:Int):Option Int :=
 (Yu p0).bind fun x1 =>
 (lkI x1 p1).bind fun a3 =>
 if 0≤(zv (p1)) then
  some (zv (zb a3 ||| zb (zv (1*2^min (Int.toNat (zv (p1))) (IntKind.bits .u64)))).toNat)
 else none
def Ke (s3:(Int × (List Int))) (x1:(List Int)) (s6:(Bool × Int)):Option (Qh (Bool × Int) Bool) :=
 if (decide (s6.2 < s3.1))=true then
  if s6.1=true then
   some (.next (true,zw (s6.2+1)))
  else
  (lkI x1 s3.1).bind fun a11 =>
  (lkI x1 s6.2).bind fun a13 =>
  some (.next (((zv (zb a11 &&& ~~~ zb a13).toNat)==0),zw (s6.2+1)))
 else
 some (.done s6.1)
def Kr (x1:(List Int)) (s3:(Int × (List Int))):Option (Qh (Int × (List Int)) (List Int)) :=
 if (decide (s3.1 < (x1.length:Int)))=true then
  (Qa fuel (Ke s3 x1) (false,0)).bind fun x16 =>
  if (!x16)=true then
   (lkI x1 s3.1).bind fun a19 =>
   if (s3.2++([a19]:(List Int))).length*8≤140737488355328 then
    some (.next (zw (s3.1+1),(s3.2++([a19]:(List Int)))))
   else none
  else
  some (.next (zw (s3.1+1),s3.2))
 else
 some (.done s3.2)
def Ko (x22:(List Int)) (s29:((List Bool) × (List Int) × (List Int))) (s32:(Int × Int × Int)):Option (Qh (Int × Int × Int) Int) :=
 if (decide (s32.2.2 < (x22.length:Int)))=true then
  (lkI x22 s32.2.2).bind fun a35 =>
  (K5 a35 s29.2.1).bind fun x37 =>
  (lkI s29.1 s32.2.2).bind fun a39 =>
  if (!a39)=true then
   if (decide (x37.1≥s32.2.1))=true then
    some (.next (s32.2.2,x37.1,zw (s32.2.2+1)))
   else
   some (.next (s32.1,s32.2.1,zw (s32.2.2+1)))
  else
  some (.next (s32.1,s32.2.1,zw (s32.2.2+1)))
 else
 some (.done s32.1)
def V6 (x22:(List Int)) (s29:((List Bool) × (List Int) × (List Int))):Option (Qh ((List Bool) × (List Int) × (List Int)) ((List Int) × (List Int))) :=
 if (decide ((s29.2.1.length:Int) < (x22.length:Int)))=true then
  (Qa fuel (Ko x22 s29) (0,-1,0)).bind fun x46 =>
  (lkI x22 x46).bind fun a47 =>
  (K5 a47 s29.2.1).bind fun x49 =>
  if (s29.2.1++([a47]:(List Int))).length*8≤140737488355328 then
   if (s29.2.2++([x49.2]:(List Int))).length*8≤140737488355328 then
    (lkI s29.1 x46).bind fun a51 =>
    some (.next ((List.set s29.1 (Int.toNat x46) true),(s29.2.1++([a47]:(List Int))),(s29.2.2++([x49.2]:(List Int)))))
   else none
  else none
 else
 some (.done (s29.2.1,s29.2.2))
def Ki (p0:Qc) (s56:(Int × (List Int))) (x55:((List Int) × (List Int))) (s59:Int):Option (Qh Int Int) :=
 (Qci p0 s56.1).bind fun x60 =>
 (lkI x55.1 s59).bind fun a62 =>
 if ((zv (zb x60 &&& ~~~ zb a62).toNat) != 0)=true then
  some (.next (zw (s59+1)))
 else
 some (.done s59)
def Qa6 (p0:Qc) (x55:((List Int) × (List Int))) (s56:(Int × (List Int))):Option (Qh (Int × (List Int)) (List Int)) :=
 if (decide (s56.1 < (p0.Nodes.length:Int)))=true then
  (Qa fuel (Ki p0 s56 x55) 0).bind fun x67 =>
  if (s56.2++([x67]:(List Int))).length*8≤140737488355328 then
   some (.next (zw (s56.1+1),(s56.2++([x67]:(List Int)))))
  else none
 else
 some (.done s56.2)
def Qbh (p0:Qc) (p1:(List Int)):Option Qq :=
 (Jz p0 p1).bind fun x1 =>
 (Qa fuel (Kr x1) (0,([]:(List Int)))).bind fun x22 =>
 (lkI x22 (zw ((x22.length:Int) - 1))).bind fun a23 =>
 if 0≤(x22.length:Int)∧(x22.length:Int)≤(x22.length:Int)∧(x22.length:Int)*1≤140737488355328 then
  (lkI (List.replicate (Int.toNat (x22.length:Int)) (false:Bool)) (zw ((x22.length:Int) - 1))).bind fun a25 =>
  (lkI (List.replicate (Int.toNat (x22.length:Int)) (false:Bool)) (zw ((x22.length:Int) - 1))).bind fun a27 =>
  (Qa fuel (V6 x22) ((List.set (List.replicate (Int.toNat (x22.length:Int)) (false:Bool)) (Int.toNat (zw ((x22.length:Int) - 1))) true),([a23]:(List Int)),([-1]:(List Int)))).bind fun x55 =>
  (Qa fuel (Qa6 p0 x55) (0,([]:(List Int)))).bind fun x69 =>
  some (Qq.mk x55.1 x55.2 x69)
 else none
def Xv (a4:Tapi_Node) (s6:(Int × (List (List Int)))):Option (Qh (Int × (List (List Int))) (List (List Int))) :=
 if (decide (s6.1 < (a4.Rows.length:Int)))=true then
  (lkI a4.Rows s6.1).bind fun a9 =>
  if a9.length*8≤140737488355328 then
   if (s6.2++[a9]).length*24≤140737488355328 then
    some (.next (zw (s6.1+1),(s6.2++[a9])))
   else none
  else none
 else
 some (.done s6.2)
def Yr (p1:Qc) (s1:(Int × (List Tapi_Node))):Option (Qh (Int × (List Tapi_Node)) (List Tapi_Node)) :=
 if (decide (s1.1 < (p1.Nodes.length:Int)))=true then
  (lkI p1.Nodes s1.1).bind fun a4 =>
  if a4.Parents.length*8≤140737488355328 then
   (Qa fuel (Xv a4) (0,([]:List (List Int)))).bind fun x12 =>
   if (s1.2++([(Tapi_Node.mk a4.Card a4.Parents x12)]:(List Tapi_Node))).length*56≤140737488355328 then
    some (.next (zw (s1.1+1),(s1.2++([(Tapi_Node.mk a4.Card a4.Parents x12)]:(List Tapi_Node)))))
   else none
  else none
 else
 some (.done s1.2)
def Qfo (w0_0:Int) (w0_1:(List Tapi_Node)):Option Qc :=
 some (Qc.mk w0_0 w0_1)
def Qft (a20:Tapi_Node) (s22:(Int × (List (List Int)))):Option (Qh (Int × (List (List Int))) (List (List Int))) :=
 if (decide (s22.1 < (a20.Rows.length:Int)))=true then
  (lkI a20.Rows s22.1).bind fun a25 =>
  if a25.length*8≤140737488355328 then
   if (s22.2++[a25]).length*24≤140737488355328 then
    some (.next (zw (s22.1+1),(s22.2++[a25])))
   else none
  else none
 else
 some (.done s22.2)
def Qfk (a32:Tapi_Node) (s34:(Int × (List (List Int)))):Option (Qh (Int × (List (List Int))) (List (List Int))) :=
 if (decide (s34.1 < (a32.Rows.length:Int)))=true then
  (lkI a32.Rows s34.1).bind fun a37 =>
  if a37.length*8≤140737488355328 then
   if (s34.2++[a37]).length*24≤140737488355328 then
    some (.next (zw (s34.1+1),(s34.2++[a37])))
   else none
  else none
 else
 some (.done s34.2)
def V0 (p1:Qc) (y17:(Int × (List Tapi_Node))) (s29:(Int × (List Tapi_Node))):Option (Qh (Int × (List Tapi_Node)) (List Tapi_Node)) :=
 if (decide (s29.1 < (p1.Nodes.length:Int)))=true then
  (lkI p1.Nodes s29.1).bind fun a32 =>
  if a32.Parents.length*8≤140737488355328 then
   (Qa fuel (Qfk a32) (0,([]:List (List Int)))).bind fun x40 =>
   (lkI s29.2 (y17.2.length:Int)).bind fun a41 =>
   if (s29.2++([(Tapi_Node.mk a32.Card a32.Parents x40)]:(List Tapi_Node))).length*56≤140737488355328 then
    some (.next (zw (s29.1+1),(s29.2++([(Tapi_Node.mk a32.Card a32.Parents x40)]:(List Tapi_Node)))))
   else none
  else none
 else
 some (.done s29.2)
def Qfg (w1_0:Int) (w1_1:(List Tapi_Node)) (w1_2:Int) (w1_3:Int) (w1_4:(List Int)) (w1_5:(List (List Int))):Option Qc :=
 (lkI w1_1 w1_2).bind fun a47 =>
 some (Qc.mk w1_0 (List.set w1_1 (Int.toNat w1_2) (Tapi_Node.mk w1_3 w1_4 w1_5)))
def Qn (w3_0:Int) (w3_1:(List Tapi_Node)) (w3_2:Int) (w3_3:Int) (w3_4:(List Int)) (w3_5:(List (List Int))):Option Qc :=
 (lkI w3_1 w3_2).bind fun a58 =>
 some (Qc.mk w3_0 (List.set w3_1 (Int.toNat w3_2) (Tapi_Node.mk w3_3 w3_4 w3_5)))
def Qbn (w4_0:Int) (w4_1:(List Tapi_Node)) (w4_2:Int) (w4_3:Int) (w4_4:(List (List Int))):Option Qc :=
 (lkI w4_1 w4_2).bind fun a74 =>
 some (Qc.mk w4_0 (List.set w4_1 (Int.toNat w4_2) (Tapi_Node.mk w4_3 [] w4_4)))
def Qbe (w5_0:Int) (w5_1:(List Tapi_Node)):Option Qc :=
 some (Qc.mk w5_0 w5_1)
def Qbj (w2_1:Int) (s136:(Int × Int × (List (List Int)))):Option (Qh (Int × Int × (List (List Int))) (List (List Int))) :=
 if (decide (s136.1 < s136.2.1))=true then
  (lkI s136.2.2 w2_1).bind fun a139 =>
  (lkI a139 s136.1).bind fun a141 =>
  (lkI a139 s136.2.1).bind fun a143 =>
  (lkI (List.set a139 (Int.toNat s136.1) a143) s136.2.1).bind fun a145 =>
  some (.next (zw (s136.1+1),zw (s136.2.1 - 1),(List.set (List.set s136.2.2 (Int.toNat w2_1) (List.set a139 (Int.toNat s136.1) a143)) (Int.toNat w2_1) (List.set (List.set a139 (Int.toNat s136.1) a143) (Int.toNat s136.2.1) a141))))
 else
 some (.done s136.2.2)
def Vw (w2_0:Nat) (w2_1:Int) (w2_2:Int) (w2_3:Int) (w2_4:Int) (w2_5:Int) (w2_6:Int) (w2_7:Int) (w2_8:(List Tapi_Node)) (w2_9:Int) (w2_10:Int) (w2_11:(List Int)) (w2_12:(List (List Int))):Option Qc :=
 if ((Int.tmod w2_2 12)==0)=true then
  Qn w2_5 w2_8 w2_9 w2_10 w2_11 w2_12
 else
 if ((Int.tmod w2_2 12)==1)=true then
  (lkI w2_8 w2_9).bind fun a64 =>
  Qn w2_6 w2_8 w2_9 w2_5 w2_11 w2_12
 else
 if ((Int.tmod w2_2 12)==2)=true then
  (lkI w2_8 w2_9).bind fun a68 =>
  if (w2_11++([w2_5]:(List Int))).length*8≤140737488355328 then
   Qn w2_6 w2_8 w2_9 w2_10 (w2_11++([w2_5]:(List Int))) w2_12
  else none
 else
 if ((Int.tmod w2_2 12)==3)=true then
  (lkI w2_8 w2_9).bind fun a72 =>
  Qbn w2_6 w2_8 w2_9 w2_10 w2_12
 else
 if ((Int.tmod w2_2 12)==4)=true then
  (lkI w2_8 w2_9).bind fun a80 =>
  if (w2_12++[([w2_5]:(List Int))]).length*24≤140737488355328 then
   Qn w2_6 w2_8 w2_9 w2_10 w2_11 (w2_12++[([w2_5]:(List Int))])
  else none
 else
 if ((Int.tmod w2_2 12)==5)=true then
  if (decide (w2_1≥0))=true then
   (lkI w2_8 w2_9).bind fun a86 =>
   if 0≤(0:Int)∧(0:Int)≤w2_1∧w2_1≤(w2_12.length:Int) then
    Qbe w2_6 (List.set w2_8 (Int.toNat w2_9) (Tapi_Node.mk w2_10 w2_11 (sub w2_12 0 w2_1)))
   else none
  else
  Qn w2_6 w2_8 w2_9 w2_10 w2_11 w2_12
 else
 if ((Int.tmod w2_2 12)==6)=true then
  if (decide (w2_1≥0))=true then
   (lkI w2_8 w2_9).bind fun a95 =>
   (lkI w2_12 w2_1).bind fun a97 =>
   if (decide ((a97.length:Int) > 0))=true then
    (lkI a97 0).bind fun a101 =>
    Qn w2_6 w2_8 w2_9 w2_10 w2_11 (List.set w2_12 (Int.toNat w2_1) (List.set a97 (Int.toNat 0) w2_5))
   else
   Qn w2_6 w2_8 w2_9 w2_10 w2_11 w2_12
  else
  Qn w2_6 w2_8 w2_9 w2_10 w2_11 w2_12
 else
 if ((Int.tmod w2_2 12)==7)=true then
  if (decide (w2_1≥0))=true then
   (lkI w2_12 w2_1).bind fun a108 =>
   (lkI w2_8 w2_9).bind fun a111 =>
   if (a108++([0]:(List Int))).length*8≤140737488355328 then
    Qn w2_6 w2_8 w2_9 w2_10 w2_11 (List.set (List.set w2_12 (Int.toNat w2_1) ([]:List Int)) (Int.toNat w2_1) (a108++([0]:(List Int))))
   else none
  else
  Qn w2_6 w2_8 w2_9 w2_10 w2_11 w2_12
 else
 if ((Int.tmod w2_2 12)==8)=true then
  if (decide (w2_1≥0))=true then
   (lkI w2_8 w2_9).bind fun a118 =>
   (lkI w2_12 w2_1).bind fun a120 =>
   if (decide ((a120.length:Int) > 0))=true then
    if 0≤(a120.length:Int)∧(a120.length:Int)≤(a120.length:Int)∧(a120.length:Int)*8≤140737488355328 then
     (lkI (List.replicate (Int.toNat (a120.length:Int)) (0:Int)) 0).bind fun a125 =>
     Qn w2_6 w2_8 w2_9 w2_10 w2_11 (List.set (List.set w2_12 (Int.toNat w2_1) (List.replicate (Int.toNat (a120.length:Int)) (0:Int))) (Int.toNat w2_1) (List.set (List.replicate (Int.toNat (a120.length:Int)) (0:Int)) (Int.toNat 0) w2_6))
    else none
   else
   Qn w2_6 w2_8 w2_9 w2_10 w2_11 w2_12
  else
  Qn w2_6 w2_8 w2_9 w2_10 w2_11 w2_12
 else
 if ((Int.tmod w2_2 12)==9)=true then
  if (decide (w2_1≥0))=true then
   (lkI w2_8 w2_9).bind fun a132 =>
   (lkI w2_12 w2_1).bind fun a134 =>
   (Qa fuel (Qbj w2_1) (0,zw ((a134.length:Int) - 1),w2_12)).bind fun x150 =>
   Qn w2_6 w2_8 w2_9 w2_10 w2_11 x150
  else
  Qn w2_6 w2_8 w2_9 w2_10 w2_11 w2_12
 else
 if ((Int.tmod w2_2 12)==10)=true then
  (lkI w2_8 w2_9).bind fun a153 =>
  if (w2_8++([(Tapi_Node.mk 1 [] [[w2_6]])]:(List Tapi_Node))).length*56≤140737488355328 then
   Qn w2_6 (w2_8++([(Tapi_Node.mk 1 [] [[w2_6]])]:(List Tapi_Node))) w2_9 w2_10 w2_11 w2_12
  else none
 else
 (lkI w2_8 w2_9).bind fun a155 =>
 if 0≤(0:Int)∧(0:Int)≤(zw ((((List.set w2_8 (Int.toNat w2_9) (Tapi_Node.mk w2_10 w2_11 w2_12)).length):Int) - 1))∧(zw ((((List.set w2_8 (Int.toNat w2_9) (Tapi_Node.mk w2_10 w2_11 w2_12)).length):Int) - 1))≤((List.set w2_8 (Int.toNat w2_9) (Tapi_Node.mk w2_10 w2_11 w2_12)).length:Int) then
  some (Qc.mk w2_6 (sub (List.set w2_8 (Int.toNat w2_9) (Tapi_Node.mk w2_10 w2_11 w2_12)) 0 (zw ((((List.set w2_8 (Int.toNat w2_9) (Tapi_Node.mk w2_10 w2_11 w2_12)).length):Int) - 1))))
 else none
def Kh (p0:Q9) (p1:Qc):Option Qc :=
 (Qa fuel (Qbt (fun s=>decide (s.1=(Int.tmod (zw p0.At) (p1.Nodes.length:Int)))) (Yr p1)) (0,([]:(List Tapi_Node)))).bind fun x160=>match x160 with
 | .inl y17=>(
  if (decide (y17.1 < (p1.Nodes.length:Int)))=true then
   (lkI p1.Nodes y17.1).bind fun a20 =>
   if a20.Parents.length*8≤140737488355328 then
    (Qa fuel (Qft a20) (0,([]:List (List Int)))).bind fun x28 =>
    if (y17.2++[(default:Tapi_Node)]).length*56≤140737488355328 then
     (Qa fuel (V0 p1 y17) (zw (y17.1+1),(y17.2++[(default:Tapi_Node)]))).bind fun x44 =>
     if ((x44.length:Int)==0)=true then
      Qfg p1.Grain x44 (y17.2.length:Int) a20.Card a20.Parents x28
     else
     if (x44.length:Int)≠0 then
      (lkI x44 (y17.2.length:Int)).bind fun a51 =>
      if Int.tmod (zw (p0.At)) (x44.length:Int)=(y17.2.length:Int) then
       if (decide ((x28.length:Int) > 0))=true then
        if (x28.length:Int)≠0 then
         Vw (Int.toNat (y17.2.length:Int)) (Int.tmod (zw (p0.Row)) (x28.length:Int)) p0.What p0.At p0.Row p0.N p1.Grain 0 x44 (y17.2.length:Int) a20.Card a20.Parents x28
        else none
       else
       Vw (Int.toNat (y17.2.length:Int)) (-1) p0.What p0.At p0.Row p0.N p1.Grain 0 x44 (y17.2.length:Int) a20.Card a20.Parents x28
      else none
     else none
    else none
   else none
  else
  none)
 | .inr x14=>(
  if ((x14.length:Int)==0)=true then
   Qfo p1.Grain x14
  else
  none)
def Ji (p0:(List Int)) (p1:Int) (s1:Int):Option (Qh Int (Unit ⊕ Unit)) :=
 if (decide (s1 < (p0.length:Int)))=true then
  (lkI p0 s1).bind fun a4 =>
  if (decide (a4 < 0))=true then
   some (.done (Sum.inl ()))
  else
  if (decide (a4≥p1))=true then
   some (.done (Sum.inl ()))
  else
  if (decide (s1 > 0))=true then
   (lkI p0 (zw (s1 - 1))).bind fun a12 =>
   if (decide (a4≤a12))=true then
    some (.done (Sum.inl ()))
   else
   some (.next (zw (s1+1)))
  else
  some (.next (zw (s1+1)))
 else
 some (.done (Sum.inr ()))
def K3 (p0:(List Int)) (p1:Int):Option Bool :=
 (Qa fuel (Ji p0 p1) 0).bind fun x16=>match x16 with
 | .inl x17=>(
  some false)
 | .inr x18=>(
  some true)
def Qar (p0:(List Int)) (s4:(Int × Int)):Option (Qh (Int × Int) Int) :=
 if (decide (s4.2 < (p0.length:Int)))=true then
  (Yg s4.1 s4.2).bind fun x7 =>
  if x7=true then
   (lkI p0 s4.2).bind fun a11 =>
   some (.next (zv (zb s4.1 ||| zb a11).toNat,zw (s4.2+1)))
  else
  some (.next (s4.1,zw (s4.2+1)))
 else
 some (.done s4.1)
def Qc6 (p0:(List Int)) (s1:(Int × Int)):Option (Qh (Int × Int) Int) :=
 if (decide (s1.2 < (p0.length:Int)))=true then
  (Qa fuel (Qar p0) (s1.1,0)).bind fun x14 =>
  some (.next (x14,zw (s1.2+1)))
 else
 some (.done s1.1)
def Qgh (p0:(List Int)) (p1:Int):Option Int :=
 (Qa fuel (Qc6 p0) (p1,0)).bind fun x16 =>
 some x16
def V1 (p0:(List Int)) (s1:Int):Option (Qh Int (Unit ⊕ Unit)) :=
 if (decide (s1 < (p0.length:Int)))=true then
  (lkI p0 s1).bind fun a4 =>
  (Qgh p0 a4).bind fun x6 =>
  (Yg x6 s1).bind fun x8 =>
  if x8=true then
   some (.done (Sum.inl ()))
  else
  some (.next (zw (s1+1)))
 else
 some (.done (Sum.inr ()))
def Kt (p0:(List Int)):Option Bool :=
 (Qa fuel (V1 p0) 0).bind fun x12=>match x12 with
 | .inl x13=>(
  some false)
 | .inr x14=>(
  some true)
def Yi (p0:Qc) (s9:(Int × Int)):Option (Qh (Int × Int) (Unit ⊕ Int)) :=
 if (decide (s9.2 < (p0.Nodes.length:Int)))=true then
  (lkI p0.Nodes s9.2).bind fun a12 =>
  if (decide (a12.Card < 1))=true then
   some (.done (Sum.inl ()))
  else
  if (decide (a12.Card > 4))=true then
   some (.done (Sum.inl ()))
  else
  (K3 a12.Parents (p0.Nodes.length:Int)).bind fun x18 =>
  if (!x18)=true then
   some (.done (Sum.inl ()))
  else
  some (.next (zw (s9.1*a12.Card),zw (s9.2+1)))
 else
 some (.done (Sum.inr s9.1))
def Yh (a47:(List Int)) (p0:Qc) (s51:(Int × Int)):Option (Qh (Int × Int) (Unit ⊕ Int)) :=
 if (decide (s51.2 < (a47.length:Int)))=true then
  (lkI a47 s51.2).bind fun a54 =>
  if (decide (a54 < 0))=true then
   some (.done (Sum.inl ()))
  else
  if (decide (a54 > p0.Grain))=true then
   some (.done (Sum.inl ()))
  else
  some (.next (zw (s51.1+a54),zw (s51.2+1)))
 else
 some (.done (Sum.inr s51.1))
def Yk (a36:Tapi_Node) (p0:Qc) (s44:Int):Option (Qh Int (Unit ⊕ Unit)) :=
 if (decide (s44 < (a36.Rows.length:Int)))=true then
  (lkI a36.Rows s44).bind fun a47 =>
  if ((a47.length:Int) != a36.Card)=true then
   some (.done (Sum.inl ()))
  else
  (Qa fuel (Yh a47 p0) (0,0)).bind fun x60=>match x60 with
  | .inl x61=>(
   some (.done (Sum.inl ())))
  | .inr x62=>(
   if (x62 != p0.Grain)=true then
    some (.done (Sum.inl ()))
   else
   some (.next (zw (s44+1))))
 else
 some (.done (Sum.inr ()))
def Ym (p0:Qc) (s33:Int):Option (Qh Int (Unit ⊕ Unit)) :=
 if (decide (s33 < (p0.Nodes.length:Int)))=true then
  (lkI p0.Nodes s33).bind fun a36 =>
  (Zj p0 s33).bind fun x38 =>
  (K1 x38).bind fun x40 =>
  if ((a36.Rows.length:Int) != x40)=true then
   some (.done (Sum.inl ()))
  else
  (Qa fuel (Yk a36 p0) 0).bind fun x65=>match x65 with
  | .inl x66=>(
   some (.done (Sum.inl ())))
  | .inr x67=>(
   some (.next (zw (s33+1))))
 else
 some (.done (Sum.inr ()))
def Qat (p0:Qc):Option Bool :=
 if (decide (p0.Grain < 1))=true then
  some false
 else
 if (decide (p0.Grain > 60))=true then
  some false
 else
 if (decide ((p0.Nodes.length:Int) < 1))=true then
  some false
 else
 if (decide ((p0.Nodes.length:Int) > 8))=true then
  some false
 else
 (Qa fuel (Yi p0) (1,0)).bind fun x22=>match x22 with
 | .inl x23=>(
  some false)
 | .inr x24=>(
  if (decide (x24 > 1024))=true then
   some false
  else
  (Yu p0).bind fun x27 =>
  (Kt x27).bind fun x29 =>
  if (!x29)=true then
   some false
  else
  (Qa fuel (Ym p0) 0).bind fun x68=>match x68 with
  | .inl x69=>(
   some false)
  | .inr x70=>(
   some true))
def V5 (p1:(List Int)) (s15:Int) (s18:(Bool × Int)):Option (Qh (Bool × Int) Bool) :=
 if (decide (s18.2 < (p1.length:Int)))=true then
  if s18.1=true then
   some (.next (true,zw (s18.2+1)))
  else
  (lkI p1 s18.2).bind fun a23 =>
  some (.next ((a23==s15),zw (s18.2+1)))
 else
 some (.done s18.1)
def X5 (p0:Qc) (p1:(List Int)) (rc0:((Qc × (List Int) × Int)→Option (List Int))) (p2:Int) (s15:Int):Option (Qh Int ((List Int) ⊕ Unit)) :=
 if (decide (s15 < (p0.Nodes.length:Int)))=true then
  (Qa fuel (V5 p1 s15) (false,0)).bind fun x26 =>
  if x26=true then
   some (.next (zw (s15+1)))
  else
  if p1.length*8≤140737488355328 then
   if (p1++([s15]:(List Int))).length*8≤140737488355328 then
    (rc0 (p0,(p1++([s15]:(List Int))),p2)).bind fun x29 =>
    Qd5 x29 (
     some (.next (zw (s15+1)))) fun y31 l32 =>
    some (.done (Sum.inl (y31::l32)))
   else none
  else none
 else
 some (.done (Sum.inr ()))
def Qh6 (p1:(List Int)) (s43:Int) (s46:(Bool × Int)):Option (Qh (Bool × Int) Bool) :=
 if (decide (s46.2 < (p1.length:Int)))=true then
  if s46.1=true then
   some (.next (true,zw (s46.2+1)))
  else
  (lkI p1 s46.2).bind fun a51 =>
  some (.next ((a51==s43),zw (s46.2+1)))
 else
 some (.done s46.1)
def Qdw (p0:Qc) (p1:(List Int)) (rc0:((Qc × (List Int) × Int)→Option (List Int))) (p2:Int) (s43:Int):Option (Qh Int ((List Int) ⊕ Unit)) :=
 if (decide (s43 < (p0.Nodes.length:Int)))=true then
  (Qa fuel (Qh6 p1 s43) (false,0)).bind fun x54 =>
  if x54=true then
   some (.next (zw (s43+1)))
  else
  if p1.length*8≤140737488355328 then
   if (p1++([s43]:(List Int))).length*8≤140737488355328 then
    (rc0 (p0,(p1++([s43]:(List Int))),p2)).bind fun x57 =>
    Qd5 x57 (
     some (.next (zw (s43+1)))) fun y59 l60 =>
    some (.done (Sum.inl (y59::l60)))
   else none
  else none
 else
 some (.done (Sum.inr ()))
def Qo (rc0:((Qc × (List Int) × Int)→Option (List Int))):(Qc × (List Int) × Int)→Option (List Int):=fun (p0,p1,p2) =>
 (Jz p0 p1).bind fun x1 =>
 if (decide ((x1.length:Int) > 0))=true then
  (lkI x1 (zw ((x1.length:Int) - 1))).bind fun a5 =>
  (Ju a5).bind fun x7 =>
  if (decide (x7 > p2))=true then
   some []
  else
  if ((p1.length:Int)==(p0.Nodes.length:Int))=true then
   Qd5 p1 none fun _ _=>some p1
  else
  (Qa fuel (X5 p0 p1 rc0 p2) 0).bind fun x34=>match x34 with
  | .inl x35=>(
   Qd5 x35 none fun _ _=>some x35)
  | .inr x38=>(
   some [])
 else
 if ((p1.length:Int)==(p0.Nodes.length:Int))=true then
  Qd5 p1 none fun _ _=>some p1
 else
 (Qa fuel (Qdw p0 p1 rc0 p2) 0).bind fun x62=>match x62 with
 | .inl x63=>(
  Qd5 x63 none fun _ _=>some x63)
 | .inr x66=>(
  some [])
def Qbg (p0:Qc) (p1:(List Int)) (p2:Int):Option (List Int):=Ve Qo fuel (p0,p1,p2)
def Jw (p0:Qc) (s1:Int):Option (Qh Int ((List Int) × (List Int) × (List Int))) :=
 (Qbg p0 [] s1).bind fun x2 =>
 Qd5 x2 (
  some (.next (zw (s1+1)))) fun y4 l5 =>
 (Qbh p0 (y4::l5)).bind fun x7 =>
 some (.done (x7.Cliques,x7.Up,x7.Home))
def Qau (p0:Qc):Option Qq :=
 (Qa fuel (Jw p0) 1).bind fun x10 =>
 some (Qq.mk x10.1 x10.2.1 x10.2.2)
def Y6 (x5:Qc) (x7:Qc) (s9:Int):Option (Qh Int (Unit ⊕ Unit)) :=
 if (decide (s9 < 2))=true then
  (lkI ([x5,x7]:(List Qc)) s9).bind fun a12 =>
  (K6 a12).bind fun x14 =>
  (Qat a12).bind fun x16 =>
  if (!x16)=true then
   if (x14.2 != 50)=true then
    some (.done (Sum.inl ()))
   else
   (Vy x14.1 (Qq.mk [] [] [])).bind fun x22 =>
   if (!x22)=true then
    some (.done (Sum.inl ()))
   else
   some (.next (zw (s9+1)))
  else
  if (x14.2 != 0)=true then
   some (.done (Sum.inl ()))
  else
  (Qau a12).bind fun x28 =>
  (Vy x14.1 x28).bind fun x30 =>
  if (!x30)=true then
   some (.done (Sum.inl ()))
  else
  some (.next (zw (s9+1)))
 else
 some (.done (Sum.inr ()))
def Qcn (p0:Qe) (p1:Q9):Option Bool :=
 (Qf1).bind fun x1 =>
 if (!x1)=true then
  some false
 else
 (Jj p0).bind fun x5 =>
 (Kh p1 x5).bind fun x7 =>
 (Qa fuel (Y6 x5 x7) 0).bind fun x34=>match x34 with
 | .inl x35=>(
  some false)
 | .inr x36=>(
  some true)
end Go.Ab
