/- What functions compute. No conditions. -/
import Derived.Test.YtcbhkobklhkiiaaDoorEng8
set_option linter.all false
namespace Go.Ab
open Go
structure Tapi_Node where
 Card:Int
 Parents:(List Int)
 Rows:(List (List Int))
 deriving DecidableEq,Inhabited
@[reducible] def eTapi_Node (x:Tapi_Node):AV:=.agg [vI x.Card,eL true eI x.Parents,eL false (eL true eI) x.Rows]
@[reducible] def eoTapi_Node (x:Int ⊕ Tapi_Node):AV:=match x with | .inl c=>.agg [vI c,.nils,.nils] | .inr y=>eTapi_Node y
def coTapi_Node (x:Int ⊕ Tapi_Node):Tapi_Node:=match x with | .inl c=>⟨c,[],[]⟩ | .inr y=>y
structure Qg where
 Grain:Int
 Nodes:(List Tapi_Node)
 deriving DecidableEq,Inhabited
structure Qs where
 Net:Qg
 cards:(List Int)
 sets:(List Int)
 order:(List Int)
 deriving DecidableEq,Inhabited
structure Tapi_Tree where
 Cliques:(List Int)
 Up:(List Int)
 Home:(List Int)
 deriving DecidableEq,Inhabited
@[reducible] def Qtb (x:Tapi_Tree):AV:=.agg [eL true (AV.int .u64) x.Cliques,eL true eI x.Up,eL true eI x.Home]
structure Ttree_graph where
 near:(List Int)
 deriving DecidableEq,Inhabited
structure Ttree_maker where
 graph:Ttree_graph
 order:(List Int)
 deriving DecidableEq,Inhabited
structure Tharuspexref10_Bend where
 What : Int
 At:Int
 N:Int
 S:Int
 deriving DecidableEq,Inhabited
@[reducible] def Qhc (x:Tharuspexref10_Bend):AV:=.agg [.int .u8 x.What,.int .u8 x.At,vI x.N,.int .u64 x.S]
structure Tharuspexref02_Draft where
 C:(List Int)
 Which:Int
 Order:(List Int)
 deriving DecidableEq,Inhabited
structure Qp where
 Card:Int
 Parents:Int
 W:(List Int)
 deriving DecidableEq,Inhabited
@[reducible] def eTharuspexref05_Piece (x:Qp):AV:=.agg [.int .u8 x.Card,.int .u8 x.Parents,eL true (AV.int .u8) x.W]
structure Qc where
 Grain:Int
 Nodes:(List Qp)
 Order:(List Int)
 deriving DecidableEq,Inhabited
@[reducible] def eTharuspexref05_Draft (x:Qc):AV:=.agg [.int .u8 x.Grain,eL false eTharuspexref05_Piece x.Nodes,eL true (AV.int .u8) x.Order]
def Yn (p1:Tapi_Node) (p0:Qs) (s1:(Int × Int)):Option (Ql (Int × Int) Int) :=
 if (decide (s1.2 < (p1.Parents.length:Int)))=true then
  (lkI p1.Parents s1.2).bind fun a4 =>
  (lkI p0.cards a4).bind fun a6 =>
  some (.next (zw (s1.1*a6),zw (s1.2+1)))
 else
 some (.done s1.1)
def Zi (a15:(List Int)) (s17:(Int × Int)):Option (Ql (Int × Int) (Unit ⊕ Int)) :=
 if (decide (s17.2 < (a15.length:Int)))=true then
  (lkI a15 s17.2).bind fun a20 =>
  if (decide (a20 < 0))=true then
   some (.done (Sum.inl ()))
  else
  if (decide (a20 > s17.1))=true then
   some (.done (Sum.inl ()))
  else
  some (.next (zw (s17.1 - a20),zw (s17.2+1)))
 else
 some (.done (Sum.inr s17.1))
def Xo (p1:Tapi_Node) (p0:Qs) (s12:Int):Option (Ql Int (Unit ⊕ Unit)) :=
 if (decide (s12 < (p1.Rows.length:Int)))=true then
  (lkI p1.Rows s12).bind fun a15 =>
  (Qb fuel (Zi a15) (p0.Net.Grain,0)).bind fun x26=>match x26 with
  | .inl x27=>(
   some (.done (Sum.inl ())))
  | .inr x28=>(
   if ((a15.length:Int) != p1.Card)=true then
    some (.done (Sum.inl ()))
   else
   if (x28 != 0)=true then
    some (.done (Sum.inl ()))
   else
   some (.next (zw (s12+1))))
 else
 some (.done (Sum.inr ()))
def Xn (p0:Qs) (p1:Tapi_Node):Option Bool :=
 (Qb fuel (Yn p1 p0) (1,0)).bind fun x9 =>
 if ((p1.Rows.length:Int) != x9)=true then
  some false
 else
 (Qb fuel (Xo p1 p0) 0).bind fun x33=>match x33 with
 | .inl x34=>(
  some false)
 | .inr x35=>(
  some true)
def Va (p0:(List Int)) (s1:(Int × (List Int))) (s4:Int):Option (Ql Int ((Int × (List Int)) ⊕ Unit)) :=
 if (decide (s4 < (p0.length:Int)))=true then
  (lkI p0 s4).bind fun a7 =>
  if 0≤s4 then
   if ((zv (zb (Int.fdiv s1.1 (2^min (Int.toNat s4) (IntKind.bits .u64))) &&& zb 1).toNat)==0)=true then
    if ((zv (zb a7 &&& ~~~ zb s1.1).toNat)==0)=true then
     if (s1.2++([s4]:(List Int))).length*8≤140737488355328 then
      if 0≤s4 then
       some (.done (Sum.inl (zv (zb s1.1 ||| zb (zv (1*2^min (Int.toNat s4) (IntKind.bits .u64)))).toNat,(s1.2++([s4]:(List Int))))))
      else none
     else none
    else
    some (.next (zw (s4+1)))
   else
   some (.next (zw (s4+1)))
  else none
 else
 some (.done (Sum.inr ()))
def Z8 (p0:(List Int)) (s1:(Int × (List Int))):Option (Ql (Int × (List Int)) (Unit ⊕ (List Int))) :=
 if (decide ((s1.2.length:Int) < (p0.length:Int)))=true then
  (Qb fuel (Va p0 s1) 0).bind fun x13=>match x13 with
  | .inl x14=>(
   some (.next (x14.1,x14.2)))
  | .inr x15=>(
   some (.done (Sum.inl ())))
 else
 some (.done (Sum.inr s1.2))
def Xv (p0:(List Int)):Option ((List Int) × Bool) :=
 if 0≤(0:Int)∧(0:Int)≤(p0.length:Int)∧(p0.length:Int)*8≤140737488355328 then
  (Qb fuel (Z8 p0) (0,(List.replicate (Int.toNat 0) (0:Int)))).bind fun x16=>match x16 with
  | .inl x17=>(
   some (([]:(List Int)),false))
  | .inr x18=>(
   some (x18,true))
 else none
def Xz (p0:Qg) (s9:(Int × Int × (List Int))):Option (Ql (Int × Int × (List Int)) (Unit ⊕ (Int × (List Int)))) :=
 if (decide (s9.2.1 < (p0.Nodes.length:Int)))=true then
  (lkI p0.Nodes s9.2.1).bind fun a12 =>
  if (decide (a12.Card < 1))=true then
   some (.done (Sum.inl ()))
  else
  if (decide (a12.Card > 4))=true then
   some (.done (Sum.inl ()))
  else
  (lkI s9.2.2 s9.2.1).bind fun a18 =>
  some (.next (zw (s9.1*a12.Card),zw (s9.2.1+1),(List.set s9.2.2 (Int.toNat s9.2.1) a12.Card)))
 else
 some (.done (Sum.inr (s9.1,s9.2.2)))
def Vd (a29:Tapi_Node) (p0:Qg) (s26:(Int × (List Int))) (s31:(Int × Int × (List Int))):Option (Ql (Int × Int × (List Int)) (Unit ⊕ (List Int))) :=
 if (decide (s31.2.1 < (a29.Parents.length:Int)))=true then
  (lkI a29.Parents s31.2.1).bind fun a34 =>
  if (decide (a34≤s31.1))=true then
   some (.done (Sum.inl ()))
  else
  if (decide (a34≥(p0.Nodes.length:Int)))=true then
   some (.done (Sum.inl ()))
  else
  if (a34==s26.1)=true then
   some (.done (Sum.inl ()))
  else
  (lkI s31.2.2 s26.1).bind fun a42 =>
  if 0≤a34 then
   some (.next (a34,zw (s31.2.1+1),(List.set s31.2.2 (Int.toNat s26.1) (zv (zb a42 ||| zb (zv (1*2^min (Int.toNat a34) (IntKind.bits .u64)))).toNat))))
  else none
 else
 some (.done (Sum.inr s31.2.2))
def Xx (p0:Qg) (x23:(Int × (List Int))) (s26:(Int × (List Int))):Option (Ql (Int × (List Int)) (Unit ⊕ (List Int))) :=
 if (decide (s26.1 < (p0.Nodes.length:Int)))=true then
  (lkI p0.Nodes s26.1).bind fun a29 =>
  (Qb fuel (Vd a29 p0 s26) (-1,0,s26.2)).bind fun x45=>match x45 with
  | .inl x46=>(
   some (.done (Sum.inl ())))
  | .inr x47=>(
   (Xn (Qs.mk p0 x23.2 x47 []) a29).bind fun x48 =>
   if (!x48)=true then
    some (.done (Sum.inl ()))
   else
   some (.next (zw (s26.1+1),x47)))
 else
 some (.done (Sum.inr s26.2))
def Jx (p0:Qg):Option (Qs × Int) :=
 if (decide (p0.Grain < 1))=true then
  some ((Qs.mk (Qg.mk 0 []) [] [] []),50)
 else
 if (decide (p0.Grain > 60))=true then
  some ((Qs.mk (Qg.mk 0 []) [] [] []),50)
 else
 if (decide ((p0.Nodes.length:Int) < 1))=true then
  some ((Qs.mk (Qg.mk 0 []) [] [] []),50)
 else
 if (decide ((p0.Nodes.length:Int) > 8))=true then
  some ((Qs.mk (Qg.mk 0 []) [] [] []),50)
 else
 if 0≤(p0.Nodes.length:Int)∧(p0.Nodes.length:Int)≤(p0.Nodes.length:Int)∧(p0.Nodes.length:Int)*8≤140737488355328 then
  if 0≤(p0.Nodes.length:Int)∧(p0.Nodes.length:Int)≤(p0.Nodes.length:Int)∧(p0.Nodes.length:Int)*8≤140737488355328 then
   (Qb fuel (Xz p0) (1,0,(List.replicate (Int.toNat (p0.Nodes.length:Int)) (0:Int)))).bind fun x21=>match x21 with
   | .inl x22=>(
    some ((Qs.mk (Qg.mk 0 []) [] [] []),50))
   | .inr x23=>(
    if (decide (x23.1 > 1024))=true then
     some ((Qs.mk (Qg.mk 0 []) [] [] []),50)
    else
    (Qb fuel (Xx p0 x23) (0,(List.replicate (Int.toNat (p0.Nodes.length:Int)) (0:Int)))).bind fun x52=>match x52 with
    | .inl x53=>(
     some ((Qs.mk (Qg.mk 0 []) [] [] []),50))
    | .inr x54=>(
     (Xv x54).bind fun x55 =>
     if (!x55.2)=true then
      some ((Qs.mk (Qg.mk 0 []) [] [] []),50)
     else
     some ((Qs.mk p0 x23.2 x54 x55.1),0)))
  else none
 else none
def Qap (p0:Qg) (s9:(Int × Int × (List Int))):Option (Ql (Int × Int × (List Int)) (Unit ⊕ (Int × (List Int)))) :=
 if (decide (s9.2.1 < (p0.Nodes.length:Int)))=true then
  (lkI p0.Nodes s9.2.1).bind fun a12 =>
  if (decide (a12.Card < 1))=true then
   some (.done (Sum.inl ()))
  else
  if (decide (a12.Card > 4))=true then
   some (.done (Sum.inl ()))
  else
  (lkI s9.2.2 s9.2.1).bind fun a18 =>
  some (.next (zw (s9.1*a12.Card),zw (s9.2.1+1),(List.set s9.2.2 (Int.toNat s9.2.1) a12.Card)))
 else
 some (.done (Sum.inr (s9.1,s9.2.2)))
def Qfv (a29:Tapi_Node) (p0:Qg) (s26:(Int × (List Int))) (s31:(Int × Int × (List Int))):Option (Ql (Int × Int × (List Int)) (Unit ⊕ (List Int))) :=
 if (decide (s31.2.1 < (a29.Parents.length:Int)))=true then
  (lkI a29.Parents s31.2.1).bind fun a34 =>
  if (decide (a34≤s31.1))=true then
   some (.done (Sum.inl ()))
  else
  if (decide (a34≥(p0.Nodes.length:Int)))=true then
   some (.done (Sum.inl ()))
  else
  if (a34==s26.1)=true then
   some (.done (Sum.inl ()))
  else
  (lkI s31.2.2 s26.1).bind fun a42 =>
  if 0≤a34 then
   some (.next (a34,zw (s31.2.1+1),(List.set s31.2.2 (Int.toNat s26.1) (zv (zb a42 ||| zb (zv (1*2^min (Int.toNat a34) (IntKind.bits .u64)))).toNat))))
  else none
 else
 some (.done (Sum.inr s31.2.2))
def Qak (p0:Qg) (x23:(Int × (List Int))) (s26:(Int × (List Int))):Option (Ql (Int × (List Int)) (Unit ⊕ (List Int))) :=
 if (decide (s26.1 < (p0.Nodes.length:Int)))=true then
  (lkI p0.Nodes s26.1).bind fun a29 =>
  (Qb fuel (Qfv a29 p0 s26) (-1,0,s26.2)).bind fun x45=>match x45 with
  | .inl x46=>(
   some (.done (Sum.inl ())))
  | .inr x47=>(
   (Xn (Qs.mk p0 x23.2 x47 []) a29).bind fun x48 =>
   if (!x48)=true then
    some (.done (Sum.inl ()))
   else
   some (.next (zw (s26.1+1),x47)))
 else
 some (.done (Sum.inr s26.2))
def Xu (x54:(List Int)) (s59:(Int × (List Int))):Option (Ql (Int × (List Int)) (List Int)) :=
 if (decide (s59.1 < (x54.length:Int)))=true then
  (lkI s59.2 s59.1).bind fun a62 =>
  if 0≤s59.1 then
   some (.next (zw (s59.1+1),(List.set s59.2 (Int.toNat s59.1) (zv (zb a62 ||| zb (zv (1*2^min (Int.toNat s59.1) (IntKind.bits .u64)))).toNat))))
  else none
 else
 some (.done s59.2)
def Zt (p0:Qg):Option ((List Int) × Int) :=
 if (decide (p0.Grain < 1))=true then
  some (([]:(List Int)),50)
 else
 if (decide (p0.Grain > 60))=true then
  some (([]:(List Int)),50)
 else
 if (decide ((p0.Nodes.length:Int) < 1))=true then
  some (([]:(List Int)),50)
 else
 if (decide ((p0.Nodes.length:Int) > 8))=true then
  some (([]:(List Int)),50)
 else
 if 0≤(p0.Nodes.length:Int)∧(p0.Nodes.length:Int)≤(p0.Nodes.length:Int)∧(p0.Nodes.length:Int)*8≤140737488355328 then
  if 0≤(p0.Nodes.length:Int)∧(p0.Nodes.length:Int)≤(p0.Nodes.length:Int)∧(p0.Nodes.length:Int)*8≤140737488355328 then
   (Qb fuel (Qap p0) (1,0,(List.replicate (Int.toNat (p0.Nodes.length:Int)) (0:Int)))).bind fun x21=>match x21 with
   | .inl x22=>(
    some (([]:(List Int)),50))
   | .inr x23=>(
    if (decide (x23.1 > 1024))=true then
     some (([]:(List Int)),50)
    else
    (Qb fuel (Qak p0 x23) (0,(List.replicate (Int.toNat (p0.Nodes.length:Int)) (0:Int)))).bind fun x52=>match x52 with
    | .inl x53=>(
     some (([]:(List Int)),50))
    | .inr x54=>(
     (Xv x54).bind fun x55 =>
     if (!x55.2)=true then
      some (([]:(List Int)),50)
     else
     (Qb fuel (Xu x54) (0,x54)).bind fun x66 =>
     some (x66,0)))
  else none
 else none
def Yf (p1:Tapi_Tree) (x1:((List Int) × Int)) (s13:(Int × Int)):Option (Ql (Int × Int) (Unit ⊕ Unit)) :=
 if (decide (s13.2 < (p1.Cliques.length:Int)))=true then
  (lkI p1.Cliques s13.2).bind fun a16 =>
  if (a16==0)=true then
   some (.done (Sum.inl ()))
  else
  if 0≤(x1.1.length:Int) then
   if ((Int.fdiv a16 (2^min (Int.toNat (x1.1.length:Int)) (IntKind.bits .u64))) != 0)=true then
    some (.done (Sum.inl ()))
   else
   (lkI p1.Up s13.2).bind fun a22 =>
   if (s13.2==0)=true then
    if (a22 != (-1))=true then
     some (.done (Sum.inl ()))
    else
    some (.next (zv (zb s13.1 ||| zb a16).toNat,zw (s13.2+1)))
   else
   if (decide (a22 < 0))=true then
    some (.done (Sum.inl ()))
   else
   if (decide (a22≥s13.2))=true then
    some (.done (Sum.inl ()))
   else
   (lkI p1.Cliques a22).bind fun a32 =>
   if ((zv (zb (zv (zb a16 &&& zb s13.1).toNat) &&& ~~~ zb a32).toNat) != 0)=true then
    some (.done (Sum.inl ()))
   else
   some (.next (zv (zb s13.1 ||| zb a16).toNat,zw (s13.2+1)))
  else none
 else
 some (.done (Sum.inr ()))
def Yc (p1:Tapi_Tree) (x1:((List Int) × Int)) (s39:Int):Option (Ql Int (Unit ⊕ Unit)) :=
 if (decide (s39 < (p1.Home.length:Int)))=true then
  (lkI p1.Home s39).bind fun a42 =>
  if (decide (a42 < 0))=true then
   some (.done (Sum.inl ()))
  else
  if (decide (a42≥(p1.Cliques.length:Int)))=true then
   some (.done (Sum.inl ()))
  else
  (lkI x1.1 s39).bind fun a48 =>
  (lkI p1.Cliques a42).bind fun a50 =>
  if ((zv (zb a48 &&& ~~~ zb a50).toNat) != 0)=true then
   some (.done (Sum.inl ()))
  else
  some (.next (zw (s39+1)))
 else
 some (.done (Sum.inr ()))
def Ye (p0:Qg) (p1:Tapi_Tree):Option Int :=
 (Zt p0).bind fun x1 =>
 if (x1.2 != 0)=true then
  some x1.2
 else
 if (decide ((p1.Cliques.length:Int) < 1))=true then
  some 100
 else
 if (decide ((p1.Cliques.length:Int) > 8))=true then
  some 100
 else
 if ((p1.Up.length:Int) != (p1.Cliques.length:Int))=true then
  some 100
 else
 if ((p1.Home.length:Int) != (x1.1.length:Int))=true then
  some 100
 else
 (Qb fuel (Yf p1 x1) (0,0)).bind fun x36=>match x36 with
 | .inl x37=>(
  some 100)
 | .inr x38=>(
  (Qb fuel (Yc p1 x1) 0).bind fun x54=>match x54 with
  | .inl x55=>(
   some 100)
  | .inr x56=>(
   some 0))
def Qad (p0:Int):Option Int :=
 some (zw (BitVec.ofInt (IntKind.bits .i64) (zw (zv ((zv ((zv ((zv (zb (zv ((Int.fdiv (zv ((zv (zb (Int.fdiv (zv ((zv (zb (Int.fdiv p0 (2^min (Int.toNat 1) (IntKind.bits .u64))) &&& zb 6148914691236517205).toNat)+(zv (zb p0 &&& zb 6148914691236517205).toNat))) (2^min (Int.toNat 2) (IntKind.bits .u64))) &&& zb 3689348814741910323).toNat)+(zv (zb (zv ((zv (zb (Int.fdiv p0 (2^min (Int.toNat 1) (IntKind.bits .u64))) &&& zb 6148914691236517205).toNat)+(zv (zb p0 &&& zb 6148914691236517205).toNat))) &&& zb 3689348814741910323).toNat))) (2^min (Int.toNat 4) (IntKind.bits .u64)))+(zv ((zv (zb (Int.fdiv (zv ((zv (zb (Int.fdiv p0 (2^min (Int.toNat 1) (IntKind.bits .u64))) &&& zb 6148914691236517205).toNat)+(zv (zb p0 &&& zb 6148914691236517205).toNat))) (2^min (Int.toNat 2) (IntKind.bits .u64))) &&& zb 3689348814741910323).toNat)+(zv (zb (zv ((zv (zb (Int.fdiv p0 (2^min (Int.toNat 1) (IntKind.bits .u64))) &&& zb 6148914691236517205).toNat)+(zv (zb p0 &&& zb 6148914691236517205).toNat))) &&& zb 3689348814741910323).toNat))))) &&& zb 1085102592571150095).toNat)+(Int.fdiv (zv (zb (zv ((Int.fdiv (zv ((zv (zb (Int.fdiv (zv ((zv (zb (Int.fdiv p0 (2^min (Int.toNat 1) (IntKind.bits .u64))) &&& zb 6148914691236517205).toNat)+(zv (zb p0 &&& zb 6148914691236517205).toNat))) (2^min (Int.toNat 2) (IntKind.bits .u64))) &&& zb 3689348814741910323).toNat)+(zv (zb (zv ((zv (zb (Int.fdiv p0 (2^min (Int.toNat 1) (IntKind.bits .u64))) &&& zb 6148914691236517205).toNat)+(zv (zb p0 &&& zb 6148914691236517205).toNat))) &&& zb 3689348814741910323).toNat))) (2^min (Int.toNat 4) (IntKind.bits .u64)))+(zv ((zv (zb (Int.fdiv (zv ((zv (zb (Int.fdiv p0 (2^min (Int.toNat 1) (IntKind.bits .u64))) &&& zb 6148914691236517205).toNat)+(zv (zb p0 &&& zb 6148914691236517205).toNat))) (2^min (Int.toNat 2) (IntKind.bits .u64))) &&& zb 3689348814741910323).toNat)+(zv (zb (zv ((zv (zb (Int.fdiv p0 (2^min (Int.toNat 1) (IntKind.bits .u64))) &&& zb 6148914691236517205).toNat)+(zv (zb p0 &&& zb 6148914691236517205).toNat))) &&& zb 3689348814741910323).toNat))))) &&& zb 1085102592571150095).toNat) (2^min (Int.toNat 8) (IntKind.bits .u64)))))+(Int.fdiv (zv ((zv (zb (zv ((Int.fdiv (zv ((zv (zb (Int.fdiv (zv ((zv (zb (Int.fdiv p0 (2^min (Int.toNat 1) (IntKind.bits .u64))) &&& zb 6148914691236517205).toNat)+(zv (zb p0 &&& zb 6148914691236517205).toNat))) (2^min (Int.toNat 2) (IntKind.bits .u64))) &&& zb 3689348814741910323).toNat)+(zv (zb (zv ((zv (zb (Int.fdiv p0 (2^min (Int.toNat 1) (IntKind.bits .u64))) &&& zb 6148914691236517205).toNat)+(zv (zb p0 &&& zb 6148914691236517205).toNat))) &&& zb 3689348814741910323).toNat))) (2^min (Int.toNat 4) (IntKind.bits .u64)))+(zv ((zv (zb (Int.fdiv (zv ((zv (zb (Int.fdiv p0 (2^min (Int.toNat 1) (IntKind.bits .u64))) &&& zb 6148914691236517205).toNat)+(zv (zb p0 &&& zb 6148914691236517205).toNat))) (2^min (Int.toNat 2) (IntKind.bits .u64))) &&& zb 3689348814741910323).toNat)+(zv (zb (zv ((zv (zb (Int.fdiv p0 (2^min (Int.toNat 1) (IntKind.bits .u64))) &&& zb 6148914691236517205).toNat)+(zv (zb p0 &&& zb 6148914691236517205).toNat))) &&& zb 3689348814741910323).toNat))))) &&& zb 1085102592571150095).toNat)+(Int.fdiv (zv (zb (zv ((Int.fdiv (zv ((zv (zb (Int.fdiv (zv ((zv (zb (Int.fdiv p0 (2^min (Int.toNat 1) (IntKind.bits .u64))) &&& zb 6148914691236517205).toNat)+(zv (zb p0 &&& zb 6148914691236517205).toNat))) (2^min (Int.toNat 2) (IntKind.bits .u64))) &&& zb 3689348814741910323).toNat)+(zv (zb (zv ((zv (zb (Int.fdiv p0 (2^min (Int.toNat 1) (IntKind.bits .u64))) &&& zb 6148914691236517205).toNat)+(zv (zb p0 &&& zb 6148914691236517205).toNat))) &&& zb 3689348814741910323).toNat))) (2^min (Int.toNat 4) (IntKind.bits .u64)))+(zv ((zv (zb (Int.fdiv (zv ((zv (zb (Int.fdiv p0 (2^min (Int.toNat 1) (IntKind.bits .u64))) &&& zb 6148914691236517205).toNat)+(zv (zb p0 &&& zb 6148914691236517205).toNat))) (2^min (Int.toNat 2) (IntKind.bits .u64))) &&& zb 3689348814741910323).toNat)+(zv (zb (zv ((zv (zb (Int.fdiv p0 (2^min (Int.toNat 1) (IntKind.bits .u64))) &&& zb 6148914691236517205).toNat)+(zv (zb p0 &&& zb 6148914691236517205).toNat))) &&& zb 3689348814741910323).toNat))))) &&& zb 1085102592571150095).toNat) (2^min (Int.toNat 8) (IntKind.bits .u64))))) (2^min (Int.toNat 16) (IntKind.bits .u64)))))+(Int.fdiv (zv ((zv ((zv (zb (zv ((Int.fdiv (zv ((zv (zb (Int.fdiv (zv ((zv (zb (Int.fdiv p0 (2^min (Int.toNat 1) (IntKind.bits .u64))) &&& zb 6148914691236517205).toNat)+(zv (zb p0 &&& zb 6148914691236517205).toNat))) (2^min (Int.toNat 2) (IntKind.bits .u64))) &&& zb 3689348814741910323).toNat)+(zv (zb (zv ((zv (zb (Int.fdiv p0 (2^min (Int.toNat 1) (IntKind.bits .u64))) &&& zb 6148914691236517205).toNat)+(zv (zb p0 &&& zb 6148914691236517205).toNat))) &&& zb 3689348814741910323).toNat))) (2^min (Int.toNat 4) (IntKind.bits .u64)))+(zv ((zv (zb (Int.fdiv (zv ((zv (zb (Int.fdiv p0 (2^min (Int.toNat 1) (IntKind.bits .u64))) &&& zb 6148914691236517205).toNat)+(zv (zb p0 &&& zb 6148914691236517205).toNat))) (2^min (Int.toNat 2) (IntKind.bits .u64))) &&& zb 3689348814741910323).toNat)+(zv (zb (zv ((zv (zb (Int.fdiv p0 (2^min (Int.toNat 1) (IntKind.bits .u64))) &&& zb 6148914691236517205).toNat)+(zv (zb p0 &&& zb 6148914691236517205).toNat))) &&& zb 3689348814741910323).toNat))))) &&& zb 1085102592571150095).toNat)+(Int.fdiv (zv (zb (zv ((Int.fdiv (zv ((zv (zb (Int.fdiv (zv ((zv (zb (Int.fdiv p0 (2^min (Int.toNat 1) (IntKind.bits .u64))) &&& zb 6148914691236517205).toNat)+(zv (zb p0 &&& zb 6148914691236517205).toNat))) (2^min (Int.toNat 2) (IntKind.bits .u64))) &&& zb 3689348814741910323).toNat)+(zv (zb (zv ((zv (zb (Int.fdiv p0 (2^min (Int.toNat 1) (IntKind.bits .u64))) &&& zb 6148914691236517205).toNat)+(zv (zb p0 &&& zb 6148914691236517205).toNat))) &&& zb 3689348814741910323).toNat))) (2^min (Int.toNat 4) (IntKind.bits .u64)))+(zv ((zv (zb (Int.fdiv (zv ((zv (zb (Int.fdiv p0 (2^min (Int.toNat 1) (IntKind.bits .u64))) &&& zb 6148914691236517205).toNat)+(zv (zb p0 &&& zb 6148914691236517205).toNat))) (2^min (Int.toNat 2) (IntKind.bits .u64))) &&& zb 3689348814741910323).toNat)+(zv (zb (zv ((zv (zb (Int.fdiv p0 (2^min (Int.toNat 1) (IntKind.bits .u64))) &&& zb 6148914691236517205).toNat)+(zv (zb p0 &&& zb 6148914691236517205).toNat))) &&& zb 3689348814741910323).toNat))))) &&& zb 1085102592571150095).toNat) (2^min (Int.toNat 8) (IntKind.bits .u64)))))+(Int.fdiv (zv ((zv (zb (zv ((Int.fdiv (zv ((zv (zb (Int.fdiv (zv ((zv (zb (Int.fdiv p0 (2^min (Int.toNat 1) (IntKind.bits .u64))) &&& zb 6148914691236517205).toNat)+(zv (zb p0 &&& zb 6148914691236517205).toNat))) (2^min (Int.toNat 2) (IntKind.bits .u64))) &&& zb 3689348814741910323).toNat)+(zv (zb (zv ((zv (zb (Int.fdiv p0 (2^min (Int.toNat 1) (IntKind.bits .u64))) &&& zb 6148914691236517205).toNat)+(zv (zb p0 &&& zb 6148914691236517205).toNat))) &&& zb 3689348814741910323).toNat))) (2^min (Int.toNat 4) (IntKind.bits .u64)))+(zv ((zv (zb (Int.fdiv (zv ((zv (zb (Int.fdiv p0 (2^min (Int.toNat 1) (IntKind.bits .u64))) &&& zb 6148914691236517205).toNat)+(zv (zb p0 &&& zb 6148914691236517205).toNat))) (2^min (Int.toNat 2) (IntKind.bits .u64))) &&& zb 3689348814741910323).toNat)+(zv (zb (zv ((zv (zb (Int.fdiv p0 (2^min (Int.toNat 1) (IntKind.bits .u64))) &&& zb 6148914691236517205).toNat)+(zv (zb p0 &&& zb 6148914691236517205).toNat))) &&& zb 3689348814741910323).toNat))))) &&& zb 1085102592571150095).toNat)+(Int.fdiv (zv (zb (zv ((Int.fdiv (zv ((zv (zb (Int.fdiv (zv ((zv (zb (Int.fdiv p0 (2^min (Int.toNat 1) (IntKind.bits .u64))) &&& zb 6148914691236517205).toNat)+(zv (zb p0 &&& zb 6148914691236517205).toNat))) (2^min (Int.toNat 2) (IntKind.bits .u64))) &&& zb 3689348814741910323).toNat)+(zv (zb (zv ((zv (zb (Int.fdiv p0 (2^min (Int.toNat 1) (IntKind.bits .u64))) &&& zb 6148914691236517205).toNat)+(zv (zb p0 &&& zb 6148914691236517205).toNat))) &&& zb 3689348814741910323).toNat))) (2^min (Int.toNat 4) (IntKind.bits .u64)))+(zv ((zv (zb (Int.fdiv (zv ((zv (zb (Int.fdiv p0 (2^min (Int.toNat 1) (IntKind.bits .u64))) &&& zb 6148914691236517205).toNat)+(zv (zb p0 &&& zb 6148914691236517205).toNat))) (2^min (Int.toNat 2) (IntKind.bits .u64))) &&& zb 3689348814741910323).toNat)+(zv (zb (zv ((zv (zb (Int.fdiv p0 (2^min (Int.toNat 1) (IntKind.bits .u64))) &&& zb 6148914691236517205).toNat)+(zv (zb p0 &&& zb 6148914691236517205).toNat))) &&& zb 3689348814741910323).toNat))))) &&& zb 1085102592571150095).toNat) (2^min (Int.toNat 8) (IntKind.bits .u64))))) (2^min (Int.toNat 16) (IntKind.bits .u64))))) (2^min (Int.toNat 32) (IntKind.bits .u64)))))) &&& BitVec.ofInt (IntKind.bits .i64) 127).toNat)
def Zd (p0:Int):Option Int :=
 (Qad p0).bind fun x1 =>
 some x1
def V3 (p1:Tapi_Tree) (s5:(Int × Int)):Option (Ql (Int × Int) Int) :=
 if (decide (s5.2 < (p1.Cliques.length:Int)))=true then
  (lkI p1.Cliques s5.2).bind fun a8 =>
  (Zd a8).bind fun x10 =>
  some (.next ((if x10 > s5.1 then x10 else s5.1),zw (s5.2+1)))
 else
 some (.done s5.1)
def X9 (p0:Qg) (p1:Tapi_Tree):Option (Int × Int) :=
 (Ye p0 p1).bind fun x1 =>
 if (x1 != 0)=true then
  some (0,x1)
 else
 (Qb fuel (V3 p1) (0,0)).bind fun x13 =>
 some (zw (x13 - 1),0)
def Qee (p0:Qg) (p1:Tapi_Tree) (p2:Int):Option (Int × Int) :=
 (Ye p0 p1).bind fun x1 =>
 if (x1 != 0)=true then
  some (0,x1)
 else
 if (decide (p2 < 1))=true then
  some (0,2)
 else
 if (decide (p2≥(p1.Cliques.length:Int)))=true then
  some (0,2)
 else
 (lkI p1.Cliques p2).bind fun a9 =>
 (lkI p1.Up p2).bind fun a11 =>
 (lkI p1.Cliques a11).bind fun a13 =>
 some (zv (zb a9 &&& zb a13).toNat,0)
def Xt (s1:(Int × (List Int))) (a4:Int) (s6:(Int × (List Int))):Option (Ql (Int × (List Int)) (List Int)) :=
 if (decide (s6.1 < (s1.2.length:Int)))=true then
  if 0≤s6.1 then
   if ((zv (zb (Int.fdiv (zv (zb a4 ||| zb (zv (1*2^min (Int.toNat s1.1) (IntKind.bits .u64)))).toNat) (2^min (Int.toNat s6.1) (IntKind.bits .u64))) &&& zb 1).toNat)==1)=true then
    (lkI s6.2 s6.1).bind fun a11 =>
    if 0≤s6.1 then
     some (.next (zw (s6.1+1),(List.set s6.2 (Int.toNat s6.1) (zv (zb a11 ||| zb (zv (zb (zv (zb a4 ||| zb (zv (1*2^min (Int.toNat s1.1) (IntKind.bits .u64)))).toNat) &&& ~~~ zb (zv (1*2^min (Int.toNat s6.1) (IntKind.bits .u64)))).toNat)).toNat))))
    else none
   else
   some (.next (zw (s6.1+1),s6.2))
  else none
 else
 some (.done s6.2)
def Y0 (p0:Qs) (s1:(Int × (List Int))):Option (Ql (Int × (List Int)) (List Int)) :=
 if (decide (s1.1 < (p0.sets.length:Int)))=true then
  (lkI p0.sets s1.1).bind fun a4 =>
  if 0≤s1.1 then
   (Qb fuel (Xt s1 a4) (0,s1.2)).bind fun x15 =>
   some (.next (zw (s1.1+1),x15))
  else none
 else
 some (.done s1.2)
def Vt (p0:Qs):Option (List Int) :=
 if 0≤(p0.sets.length:Int)∧(p0.sets.length:Int)≤(p0.sets.length:Int)∧(p0.sets.length:Int)*8≤140737488355328 then
  (Qb fuel (Y0 p0) (0,(List.replicate (Int.toNat (p0.sets.length:Int)) (0:Int)))).bind fun x17 =>
  some x17
 else none
def Qan (p0:Qg):Option ((List Int) × Int) :=
 (Jx p0).bind fun x1 =>
 if (x1.2 != 0)=true then
  some (([]:(List Int)),x1.2)
 else
 (Vt x1.1).bind fun x5 =>
 some (x5,0)
def Vf (c0:Int) (d0:(List Int)):Option (List Int) :=
 if (c0::d0).length*8≤140737488355328 then
  some (c0::d0)
 else none
def Vc  : Option (List Int) :=
 some ([]:(List Int))
def Ve  : Option (List Int) :=
 some ([]:(List Int))
def Q7 (p0:(List Int)):Option (List Int) :=
 match p0 with
 | []=>(Ve).bind fun x=>(Vc).bind fun y=>if x=y then some x else none
 | c0::d0=>Vf c0 d0
def Zk (s3:(Int × Int × (List Int) × (List Int))) (a8:Int) (a6:Int) (s10:Int):Option (Ql Int (Unit ⊕ Unit)) :=
 if (decide (s10 < (s3.2.2.1.length:Int)))=true then
  (lkI s3.2.2.1 s10).bind fun a13 =>
  if ((zv (zb (zv (zb (zv (zb a8 &&& zb s3.1).toNat) ||| zb (zv (1*2^min (Int.toNat a6) (IntKind.bits .u64)))).toNat) &&& ~~~ zb a13).toNat)==0)=true then
   some (.done (Sum.inl ()))
  else
  some (.next (zw (s10+1)))
 else
 some (.done (Sum.inr ()))
def Zz (s3:(Int × Int × (List Int) × (List Int))) (a8:Int) (a6:Int) (s19:(Int × (List Int))):Option (Ql (Int × (List Int)) (List Int)) :=
 if (decide (s19.1 < (s3.2.2.2.length:Int)))=true then
  if 0≤s19.1 then
   if ((zv (zb (Int.fdiv (zv (zb (zv (zb a8 &&& zb s3.1).toNat) ||| zb (zv (1*2^min (Int.toNat a6) (IntKind.bits .u64)))).toNat) (2^min (Int.toNat s19.1) (IntKind.bits .u64))) &&& zb 1).toNat)==1)=true then
    (lkI s19.2 s19.1).bind fun a24 =>
    if 0≤s19.1 then
     some (.next (zw (s19.1+1),(List.set s19.2 (Int.toNat s19.1) (zv (zb a24 ||| zb (zv (zb (zv (zb (zv (zb a8 &&& zb s3.1).toNat) ||| zb (zv (1*2^min (Int.toNat a6) (IntKind.bits .u64)))).toNat) &&& ~~~ zb (zv (1*2^min (Int.toNat s19.1) (IntKind.bits .u64)))).toNat)).toNat))))
    else none
   else
   some (.next (zw (s19.1+1),s19.2))
  else none
 else
 some (.done s19.2)
def Qac (s3:(Int × Int × (List Int) × (List Int))) (a8:Int) (a6:Int) (s30:(Int × (List Int))):Option (Ql (Int × (List Int)) (List Int)) :=
 if (decide (s30.1 < (s3.2.2.2.length:Int)))=true then
  if 0≤s30.1 then
   if ((zv (zb (Int.fdiv (zv (zb (zv (zb a8 &&& zb s3.1).toNat) ||| zb (zv (1*2^min (Int.toNat a6) (IntKind.bits .u64)))).toNat) (2^min (Int.toNat s30.1) (IntKind.bits .u64))) &&& zb 1).toNat)==1)=true then
    (lkI s30.2 s30.1).bind fun a35 =>
    if 0≤s30.1 then
     some (.next (zw (s30.1+1),(List.set s30.2 (Int.toNat s30.1) (zv (zb a35 ||| zb (zv (zb (zv (zb (zv (zb a8 &&& zb s3.1).toNat) ||| zb (zv (1*2^min (Int.toNat a6) (IntKind.bits .u64)))).toNat) &&& ~~~ zb (zv (1*2^min (Int.toNat s30.1) (IntKind.bits .u64)))).toNat)).toNat))))
    else none
   else
   some (.next (zw (s30.1+1),s30.2))
  else none
 else
 some (.done s30.2)
def Xp (p0:Ttree_maker) (s3:(Int × Int × (List Int) × (List Int))):Option (Ql (Int × Int × (List Int) × (List Int)) (List Int)) :=
 if (decide (s3.2.1 < (p0.order.length:Int)))=true then
  (lkI p0.order s3.2.1).bind fun a6 =>
  (lkI s3.2.2.2 a6).bind fun a8 =>
  if 0≤a6 then
   (Qb fuel (Zk s3 a8 a6) 0).bind fun x17=>match x17 with
   | .inl x18=>(
    if 0≤a6 then
     (Qb fuel (Zz s3 a8 a6) (0,s3.2.2.2)).bind fun x28 =>
     some (.next (zv (zb s3.1 &&& ~~~ zb (zv (1*2^min (Int.toNat a6) (IntKind.bits .u64)))).toNat,zw (s3.2.1+1),s3.2.2.1,x28))
    else none)
   | .inr x29=>(
    if (s3.2.2.1++([zv (zb (zv (zb a8 &&& zb s3.1).toNat) ||| zb (zv (1*2^min (Int.toNat a6) (IntKind.bits .u64)))).toNat]:(List Int))).length*8≤140737488355328 then
     if 0≤a6 then
      (Qb fuel (Qac s3 a8 a6) (0,s3.2.2.2)).bind fun x39 =>
      some (.next (zv (zb s3.1 &&& ~~~ zb (zv (1*2^min (Int.toNat a6) (IntKind.bits .u64)))).toNat,zw (s3.2.1+1),(s3.2.2.1++([zv (zb (zv (zb a8 &&& zb s3.1).toNat) ||| zb (zv (1*2^min (Int.toNat a6) (IntKind.bits .u64)))).toNat]:(List Int))),x39))
     else none
    else none)
  else none
 else
 some (.done s3.2.2.1)
def Vi (p0:Ttree_maker):Option (List Int) :=
 (Q7 p0.graph.near).bind fun x1 =>
 (Qb fuel (Xp p0) (18446744073709551615,0,([]:(List Int)),x1)).bind fun x41 =>
 some x41
def K2 (p0:(List Int)) (p1:Int) (s1:(Int × Int)):Option (Ql (Int × Int) Int) :=
 if (decide (s1.2 < (p0.length:Int)))=true then
  (lkI p0 s1.2).bind fun a4 =>
  (Zd (zv (zb a4 &&& zb p1).toNat)).bind fun x6 =>
  some (.next ((if x6 > s1.1 then x6 else s1.1),zw (s1.2+1)))
 else
 some (.done s1.1)
def Qcj (p0:(List Int)) (p1:Int):Option Int :=
 (Qb fuel (K2 p0 p1) (0,0)).bind fun x9 =>
 some x9
def Yo (p0:(List Int)) (c0:Int) (s1:Int):Option (Ql Int (Int ⊕ Unit)) :=
 if (decide (s1 < (p0.length:Int)))=true then
  (lkI p0 s1).bind fun a4 =>
  if ((zv (zb c0 &&& ~~~ zb a4).toNat)==0)=true then
   some (.done (Sum.inl s1))
  else
  some (.next (zw (s1+1)))
 else
 some (.done (Sum.inr ()))
def Vl (p0:(List Int)) (c0:Int):Option Int :=
 (Qb fuel (Yo p0 c0) 0).bind fun x8=>match x8 with
 | .inl x9=>(
  some x9)
 | .inr x10=>(
  some (-1))
def V4 (s11:((List Int) × (List Int) × (List Int))) (s18:(Int × Int × Int)):Option (Ql (Int × Int × Int) (Int × Int)) :=
 if (decide (s18.2.1 < (s11.1.length:Int)))=true then
  (lkI s11.1 s18.2.1).bind fun a21 =>
  (Qcj s11.2.1 a21).bind fun x23 =>
  if (decide (x23≥s18.2.2))=true then
   some (.next (s18.2.1,zw (s18.2.1+1),x23))
  else
  some (.next (s18.1,zw (s18.2.1+1),s18.2.2))
 else
 some (.done (s18.1,s18.2.2))
def V9 (s11:((List Int) × (List Int) × (List Int))) (a29:Int) (x28:(Int × Int)) (s31:Int):Option (Ql Int (Int ⊕ Unit)) :=
 if (decide (s31 < (s11.2.1.length:Int)))=true then
  (lkI s11.2.1 s31).bind fun a34 =>
  (Zd (zv (zb a34 &&& zb a29).toNat)).bind fun x36 =>
  if (x36==x28.2)=true then
   some (.done (Sum.inl s31))
  else
  some (.next (zw (s31+1)))
 else
 some (.done (Sum.inr ()))
def Y9  (s11:((List Int) × (List Int) × (List Int))):Option (Ql ((List Int) × (List Int) × (List Int)) ((List Int) × (List Int))) :=
 if (decide ((s11.1.length:Int) > 0))=true then
  (Qb fuel (V4 s11) (0,0,-1)).bind fun x28 =>
  (lkI s11.1 x28.1).bind fun a29 =>
  (Qb fuel (V9 s11 a29 x28) 0).bind fun x40=>match x40 with
  | .inl x41=>(
   if (s11.2.1++([a29]:(List Int))).length*8≤140737488355328 then
    if (s11.2.2++([x41]:(List Int))).length*8≤140737488355328 then
     if 0≤x28.1∧x28.1≤(zw (x28.1+1))∧(zw (x28.1+1))≤(s11.1.length:Int)∧(s11.1.length:Int)≤(s11.1.length:Int) then
      if (x28.1==(zw (x28.1+1)))=true then
       some (.next (s11.1,(s11.2.1++([a29]:(List Int))),(s11.2.2++([x41]:(List Int)))))
      else
      if 0≤(0:Int)∧(0:Int)≤x28.1∧x28.1≤(s11.1.length:Int) then
       if 0≤(zw (x28.1+1))∧(zw (x28.1+1))≤(s11.1.length:Int)∧(s11.1.length:Int)≤(s11.1.length:Int) then
        if (Int.toNat x28.1 - Int.toNat (0:Int)) < s11.1.length∧((Int.toNat x28.1 - Int.toNat (0:Int))+(sub s11.1 (zw (x28.1+1)) (s11.1.length:Int)).length)≤s11.1.length then
         if 0≤((((Int.toNat x28.1 - Int.toNat (0:Int))+(sub s11.1 (zw (x28.1+1)) (s11.1.length:Int)).length):Nat):Int)∧((((Int.toNat x28.1 - Int.toNat (0:Int))+(sub s11.1 (zw (x28.1+1)) (s11.1.length:Int)).length):Nat):Int)≤(s11.1.length:Int)∧(s11.1.length:Int)≤((ovr s11.1 (Int.toNat x28.1 - Int.toNat (0:Int)) (sub s11.1 (zw (x28.1+1)) (s11.1.length:Int))).length:Int) then
          if (Int.toNat ((((Int.toNat x28.1 - Int.toNat (0:Int))+(sub s11.1 (zw (x28.1+1)) (s11.1.length:Int)).length):Nat):Int))+(Int.toNat (s11.1.length:Int) - Int.toNat ((((Int.toNat x28.1 - Int.toNat (0:Int))+(sub s11.1 (zw (x28.1+1)) (s11.1.length:Int)).length):Nat):Int))≤(ovr s11.1 (Int.toNat x28.1 - Int.toNat (0:Int)) (sub s11.1 (zw (x28.1+1)) (s11.1.length:Int))).length then
           some (.next ((List.take ((Int.toNat x28.1 - Int.toNat (0:Int))+(sub s11.1 (zw (x28.1+1)) (s11.1.length:Int)).length) (ovr (ovr s11.1 (Int.toNat x28.1 - Int.toNat (0:Int)) (sub s11.1 (zw (x28.1+1)) (s11.1.length:Int))) (Int.toNat ((((Int.toNat x28.1 - Int.toNat (0:Int))+(sub s11.1 (zw (x28.1+1)) (s11.1.length:Int)).length):Nat):Int)) (List.replicate (Int.toNat (s11.1.length:Int) - Int.toNat ((((Int.toNat x28.1 - Int.toNat (0:Int))+(sub s11.1 (zw (x28.1+1)) (s11.1.length:Int)).length):Nat):Int)) 0))),(s11.2.1++([a29]:(List Int))),(s11.2.2++([x41]:(List Int)))))
          else none
         else none
        else none
       else none
      else none
     else none
    else none
   else none)
  | .inr x51=>(
   if (s11.2.1++([a29]:(List Int))).length*8≤140737488355328 then
    if (s11.2.2++([-1]:(List Int))).length*8≤140737488355328 then
     if 0≤x28.1∧x28.1≤(zw (x28.1+1))∧(zw (x28.1+1))≤(s11.1.length:Int)∧(s11.1.length:Int)≤(s11.1.length:Int) then
      if (x28.1==(zw (x28.1+1)))=true then
       some (.next (s11.1,(s11.2.1++([a29]:(List Int))),(s11.2.2++([-1]:(List Int)))))
      else
      if 0≤(0:Int)∧(0:Int)≤x28.1∧x28.1≤(s11.1.length:Int) then
       if 0≤(zw (x28.1+1))∧(zw (x28.1+1))≤(s11.1.length:Int)∧(s11.1.length:Int)≤(s11.1.length:Int) then
        if (Int.toNat x28.1 - Int.toNat (0:Int)) < s11.1.length∧((Int.toNat x28.1 - Int.toNat (0:Int))+(sub s11.1 (zw (x28.1+1)) (s11.1.length:Int)).length)≤s11.1.length then
         if 0≤((((Int.toNat x28.1 - Int.toNat (0:Int))+(sub s11.1 (zw (x28.1+1)) (s11.1.length:Int)).length):Nat):Int)∧((((Int.toNat x28.1 - Int.toNat (0:Int))+(sub s11.1 (zw (x28.1+1)) (s11.1.length:Int)).length):Nat):Int)≤(s11.1.length:Int)∧(s11.1.length:Int)≤((ovr s11.1 (Int.toNat x28.1 - Int.toNat (0:Int)) (sub s11.1 (zw (x28.1+1)) (s11.1.length:Int))).length:Int) then
          if (Int.toNat ((((Int.toNat x28.1 - Int.toNat (0:Int))+(sub s11.1 (zw (x28.1+1)) (s11.1.length:Int)).length):Nat):Int))+(Int.toNat (s11.1.length:Int) - Int.toNat ((((Int.toNat x28.1 - Int.toNat (0:Int))+(sub s11.1 (zw (x28.1+1)) (s11.1.length:Int)).length):Nat):Int))≤(ovr s11.1 (Int.toNat x28.1 - Int.toNat (0:Int)) (sub s11.1 (zw (x28.1+1)) (s11.1.length:Int))).length then
           some (.next ((List.take ((Int.toNat x28.1 - Int.toNat (0:Int))+(sub s11.1 (zw (x28.1+1)) (s11.1.length:Int)).length) (ovr (ovr s11.1 (Int.toNat x28.1 - Int.toNat (0:Int)) (sub s11.1 (zw (x28.1+1)) (s11.1.length:Int))) (Int.toNat ((((Int.toNat x28.1 - Int.toNat (0:Int))+(sub s11.1 (zw (x28.1+1)) (s11.1.length:Int)).length):Nat):Int)) (List.replicate (Int.toNat (s11.1.length:Int) - Int.toNat ((((Int.toNat x28.1 - Int.toNat (0:Int))+(sub s11.1 (zw (x28.1+1)) (s11.1.length:Int)).length):Nat):Int)) 0))),(s11.2.1++([a29]:(List Int))),(s11.2.2++([-1]:(List Int)))))
          else none
         else none
        else none
       else none
      else none
     else none
    else none
   else none)
 else
 some (.done (s11.2.1,s11.2.2))
def Kh (p1:(List Int)) (x62:((List Int) × (List Int))) (s63:(Int × (List Int))):Option (Ql (Int × (List Int)) (List Int)) :=
 if (decide (s63.1 < (p1.length:Int)))=true then
  (lkI p1 s63.1).bind fun a66 =>
  (Vl x62.1 a66).bind fun x68 =>
  if (s63.2++([x68]:(List Int))).length*8≤140737488355328 then
   some (.next (zw (s63.1+1),(s63.2++([x68]:(List Int)))))
  else none
 else
 some (.done s63.2)
def Kp (p0:Qg) (p1:(List Int)) (p2:(List Int)):Option (Tapi_Tree × Int) :=
 (Qan p0).bind fun x1 =>
 if (x1.2 != 0)=true then
  some ((Tapi_Tree.mk ([]:(List Int)) ([]:(List Int)) ([]:(List Int))),x1.2)
 else
 (Vi (Ttree_maker.mk (Ttree_graph.mk x1.1) p2)).bind fun x5 =>
 (lkI x5 (zw ((x5.length:Int) - 1))).bind fun a7 =>
 if 0≤(0:Int)∧(0:Int)≤(zw ((x5.length:Int) - 1))∧(zw ((x5.length:Int) - 1))≤(x5.length:Int) then
  (Qb fuel (Y9) ((List.take (Int.toNat (zw ((x5.length:Int) - 1))) x5),([a7]:(List Int)),([-1]:(List Int)))).bind fun x62 =>
  (Qb fuel (Kh p1 x62) (0,([]:(List Int)))).bind fun x71 =>
  some ((Tapi_Tree.mk x62.1 x62.2 x71),0)
 else none
def Yx (p1:(List Int)) (x1:((List Int) × Int)) (s7:(Int × Int)):Option (Ql (Int × Int) (Unit ⊕ Unit)) :=
 if (decide (s7.2 < (p1.length:Int)))=true then
  (lkI p1 s7.2).bind fun a10 =>
  if (decide (a10 < 0))=true then
   some (.done (Sum.inl ()))
  else
  if (decide (a10≥(x1.1.length:Int)))=true then
   some (.done (Sum.inl ()))
  else
  if 0≤a10 then
   if ((zv (zb (Int.fdiv s7.1 (2^min (Int.toNat a10) (IntKind.bits .u64))) &&& zb 1).toNat)==1)=true then
    some (.done (Sum.inl ()))
   else
   if 0≤a10 then
    some (.next (zv (zb s7.1 ||| zb (zv (1*2^min (Int.toNat a10) (IntKind.bits .u64)))).toNat,zw (s7.2+1)))
   else none
  else none
 else
 some (.done (Sum.inr ()))
def Vo (p0:Qg) (p1:(List Int)):Option (Tapi_Tree × Int) :=
 (Zt p0).bind fun x1 =>
 if (x1.2 != 0)=true then
  some ((Tapi_Tree.mk ([]:(List Int)) ([]:(List Int)) ([]:(List Int))),x1.2)
 else
 if ((p1.length:Int) != (x1.1.length:Int))=true then
  some ((Tapi_Tree.mk ([]:(List Int)) ([]:(List Int)) ([]:(List Int))),2)
 else
 (Qb fuel (Yx p1 x1) (0,0)).bind fun x18=>match x18 with
 | .inl x19=>(
  some ((Tapi_Tree.mk ([]:(List Int)) ([]:(List Int)) ([]:(List Int))),2))
 | .inr x20=>(
  (Kp p0 x1.1 p1).bind fun x21 =>
  some (x21.1,x21.2))
def Qlm (p0:(List Int)) (p1:(List Int)) (s3:Int):Option (Ql Int (Unit ⊕ Unit)) :=
 if (decide (s3 < (p0.length:Int)))=true then
  (lkI p0 s3).bind fun a6 =>
  (lkI p1 s3).bind fun a8 =>
  if (a6 != a8)=true then
   some (.done (Sum.inl ()))
  else
  some (.next (zw (s3+1)))
 else
 some (.done (Sum.inr ()))
def Qiz (p0:(List Int)) (p1:(List Int)):Option Bool :=
 if ((p0.length:Int) != (p1.length:Int))=true then
  some false
 else
 (Qb fuel (Qlm p0 p1) 0).bind fun x12=>match x12 with
 | .inl x13=>(
  some false)
 | .inr x14=>(
  some true)
def Qmx (p0:(List Int)) (p1:(List Int)) (s3:Int):Option (Ql Int (Unit ⊕ Unit)) :=
 if (decide (s3 < (p0.length:Int)))=true then
  (lkI p0 s3).bind fun a6 =>
  (lkI p1 s3).bind fun a8 =>
  if (a6 != a8)=true then
   some (.done (Sum.inl ()))
  else
  some (.next (zw (s3+1)))
 else
 some (.done (Sum.inr ()))
def Qei (p0:(List Int)) (p1:(List Int)):Option Bool :=
 if ((p0.length:Int) != (p1.length:Int))=true then
  some false
 else
 (Qb fuel (Qmx p0 p1) 0).bind fun x12=>match x12 with
 | .inl x13=>(
  some false)
 | .inr x14=>(
  some true)
def Qeh (p0:Tapi_Tree) (p1:Tapi_Tree):Option Bool :=
 (Qiz p0.Cliques p1.Cliques).bind fun x1 =>
 if x1=true then
  (Qei p0.Up p1.Up).bind fun x5 =>
  if x5=true then
   (Qei p0.Home p1.Home).bind fun x9 =>
   some x9
  else
  some false
 else
 some false
def Yt (p0:(List Int)) (s5:Int) (a8:Int) (s14:Int):Option (Ql Int (Unit ⊕ Unit)) :=
 if (decide (s14 < (p0.length:Int)))=true then
  if 0≤s14 then
   (lkI p0 s14).bind fun a17 =>
   if 0≤s5 then
    if ((zv (zb (Int.fdiv a8 (2^min (Int.toNat s14) (IntKind.bits .u64))) &&& zb 1).toNat) != (zv (zb (Int.fdiv a17 (2^min (Int.toNat s5) (IntKind.bits .u64))) &&& zb 1).toNat))=true then
     some (.done (Sum.inl ()))
    else
    some (.next (zw (s14+1)))
   else none
  else none
 else
 some (.done (Sum.inr ()))
def J1 (p0:(List Int)) (s5:Int):Option (Ql Int (Unit ⊕ Unit)) :=
 if (decide (s5 < (p0.length:Int)))=true then
  (lkI p0 s5).bind fun a8 =>
  if 0≤(p0.length:Int) then
   if ((Int.fdiv a8 (2^min (Int.toNat (p0.length:Int)) (IntKind.bits .u64))) != 0)=true then
    some (.done (Sum.inl ()))
   else
   if 0≤s5 then
    if ((zv (zb (Int.fdiv a8 (2^min (Int.toNat s5) (IntKind.bits .u64))) &&& zb 1).toNat)==1)=true then
     some (.done (Sum.inl ()))
    else
    (Qb fuel (Yt p0 s5 a8) 0).bind fun x21=>match x21 with
    | .inl x22=>(
     some (.done (Sum.inl ())))
    | .inr x23=>(
     some (.next (zw (s5+1))))
   else none
  else none
 else
 some (.done (Sum.inr ()))
def Vz (p0:(List Int)):Option Int :=
 if (decide ((p0.length:Int) < 1))=true then
  some 80
 else
 if (decide ((p0.length:Int) > 10))=true then
  some 80
 else
 (Qb fuel (J1 p0) 0).bind fun x24=>match x24 with
 | .inl x25=>(
  some 80)
 | .inr x26=>(
  some 0)
def Jt (p0:Int):Option Int :=
 if (p0==0)=true then
  some 64
 else
 (lkI tab1 (Int.fdiv (zv ((zv (zb p0 &&& zb (zv (0 - p0))).toNat)*285870213051353865)) (2^min (Int.toNat 58) (IntKind.bits .u64)))).bind fun a3 =>
 some (zw (a3))
def Q5 (p0:Int):Option Int :=
 (Jt p0).bind fun x1 =>
 some x1
def Ja (p2:Int) (p0:(List Int)) (s3:(Int × Int × Int)):Option (Ql (Int × Int × Int) Int) :=
 if (s3.2.2 != 0)=true then
  (Q5 s3.2.2).bind fun x6 =>
  if 0≤x6 then
   if 0≤x6 then
    if ((zv (zb (Int.fdiv p2 (2^min (Int.toNat x6) (IntKind.bits .u64))) &&& zb 1).toNat)==0)=true then
     if 0≤x6 then
      some (.next (zv (zb s3.1 ||| zb (zv (1*2^min (Int.toNat x6) (IntKind.bits .u64)))).toNat,zv (zb s3.2.1 ||| zb (zv (1*2^min (Int.toNat x6) (IntKind.bits .u64)))).toNat,zv (zb s3.2.2 &&& zb (zv (s3.2.2 - 1))).toNat))
     else none
    else
    (lkI p0 x6).bind fun a10 =>
    some (.next (zv (zb s3.1 ||| zb (zv (1*2^min (Int.toNat x6) (IntKind.bits .u64)))).toNat,s3.2.1,zv (zb (zv (zb s3.2.2 &&& zb (zv (s3.2.2 - 1))).toNat) ||| zb (zv (zb a10 &&& ~~~ zb (zv (zb s3.1 ||| zb (zv (1*2^min (Int.toNat x6) (IntKind.bits .u64)))).toNat)).toNat)).toNat))
   else none
  else none
 else
 some (.done s3.2.1)
def Jr (p0:(List Int)) (p1:Int) (p2:Int):Option Int :=
 if 0≤p1 then
  (lkI p0 p1).bind fun a1 =>
  (Qb fuel (Ja p2 p0) (zv (1*2^min (Int.toNat p1) (IntKind.bits .u64)),0,a1)).bind fun x13 =>
  (Zd x13).bind fun x14 =>
  some x14
 else none
def Ke (p0:(List Int)) (s5:(Int × (List (Int × Int)))) (r6:((Int × (List (Int × Int)))→Option (Int × (List (Int × Int))))) (s10:(Int × (List (Int × Int)) × Int)):Option (Ql (Int × (List (Int × Int)) × Int) ((List (Int × Int)) × Int)) :=
 if (s10.1 != 0)=true then
  (Q5 s10.1).bind fun x13 =>
  (Jr p0 x13 (zv (zb (zv ((zv (1*2^min (Int.toNat (p0.length:Int)) (IntKind.bits .u64))) - 1)) &&& ~~~ zb s5.1).toNat)).bind fun x15 =>
  if 0≤x13 then
   (r6 (zv (zb s5.1 &&& ~~~ zb (zv (1*2^min (Int.toNat x13) (IntKind.bits .u64)))).toNat,s10.2.1)).bind fun x17 =>
   some (.next (zv (zb s10.1 &&& zb (zv (s10.1 - 1))).toNat,x17.2,(if (if x17.1 > x15 then x17.1 else x15) < s10.2.2 then (if x17.1 > x15 then x17.1 else x15) else s10.2.2)))
  else none
 else
 some (.done (s10.2.1,s10.2.2))
def Xq (p0:(List Int)) (r6:((Int × (List (Int × Int)))→Option (Int × (List (Int × Int))))) (s5:(Int × (List (Int × Int)))):Option (Int × (List (Int × Int))) :=
 if (Xg s5.2 s5.1).isSome=true then
  some ((Xg s5.2 s5.1).getD 0,s5.2)
 else
 (Qb fuel (Ke p0 s5 r6) (s5.1,s5.2,(p0.length:Int))).bind fun x19 =>
 some (x19.2,mput x19.1 s5.1 x19.2)
def Qmp (p0:(List Int)) (s34:(Int × (List (Int × Int)))) (r35:((Int × (List (Int × Int)))→Option (Int × (List (Int × Int))))) (s39:(Int × (List (Int × Int)) × Int)):Option (Ql (Int × (List (Int × Int)) × Int) ((List (Int × Int)) × Int)) :=
 if (s39.1 != 0)=true then
  (Q5 s39.1).bind fun x42 =>
  (Jr p0 x42 (zv (zb (zv ((zv (1*2^min (Int.toNat (p0.length:Int)) (IntKind.bits .u64))) - 1)) &&& ~~~ zb s34.1).toNat)).bind fun x44 =>
  if 0≤x42 then
   (r35 (zv (zb s34.1 &&& ~~~ zb (zv (1*2^min (Int.toNat x42) (IntKind.bits .u64)))).toNat,s39.2.1)).bind fun x46 =>
   some (.next (zv (zb s39.1 &&& zb (zv (s39.1 - 1))).toNat,x46.2,(if (if x46.1 > x44 then x46.1 else x44) < s39.2.2 then (if x46.1 > x44 then x46.1 else x44) else s39.2.2)))
  else none
 else
 some (.done (s39.2.1,s39.2.2))
def Qe4 (p0:(List Int)) (r35:((Int × (List (Int × Int)))→Option (Int × (List (Int × Int))))) (s34:(Int × (List (Int × Int)))):Option (Int × (List (Int × Int))) :=
 if (Xg s34.2 s34.1).isSome=true then
  some ((Xg s34.2 s34.1).getD 0,s34.2)
 else
 (Qb fuel (Qmp p0 s34 r35) (s34.1,s34.2,(p0.length:Int))).bind fun x48 =>
 some (x48.2,mput x48.1 s34.1 x48.2)
def Xr (p0:(List Int)) (s22:(Int × (List Int) × (List (Int × Int)))) (x20:(Int × (List (Int × Int)))) (s25:(Int × (List (Int × Int)))):Option (Ql (Int × (List (Int × Int))) ((Int × (List (Int × Int)) × (List Int)) ⊕ (List (Int × Int)))) :=
 if (s25.1 != 0)=true then
  (Q5 s25.1).bind fun x28 =>
  (Jr p0 x28 (zv (zb (zv ((zv (1*2^min (Int.toNat (p0.length:Int)) (IntKind.bits .u64))) - 1)) &&& ~~~ zb s22.1).toNat)).bind fun x30 =>
  if (decide (x30≤x20.1))=true then
   if 0≤x28 then
    (Qdg (Qe4 p0) fuel (zv (zb s22.1 &&& ~~~ zb (zv (1*2^min (Int.toNat x28) (IntKind.bits .u64)))).toNat,s25.2)).bind fun x49 =>
    if (decide (x49.1≤x20.1))=true then
     if (s22.2.1++([x28]:(List Int))).length*8≤140737488355328 then
      if 0≤x28 then
       some (.done (Sum.inl (zv (zb s22.1 &&& ~~~ zb (zv (1*2^min (Int.toNat x28) (IntKind.bits .u64)))).toNat,x49.2,(s22.2.1++([x28]:(List Int))))))
      else none
     else none
    else
    some (.next (zv (zb s25.1 &&& zb (zv (s25.1 - 1))).toNat,x49.2))
   else none
  else
  some (.next (zv (zb s25.1 &&& zb (zv (s25.1 - 1))).toNat,s25.2))
 else
 some (.done (Sum.inr s25.2))
def Jc (p0:(List Int)) (x20:(Int × (List (Int × Int)))) (s22:(Int × (List Int) × (List (Int × Int)))):Option (Ql (Int × (List Int) × (List (Int × Int))) (List Int)) :=
 if (s22.1 != 0)=true then
  (Qb fuel (Xr p0 s22 x20) (s22.1,s22.2.2)).bind fun x53=>match x53 with
  | .inl x54=>(
   some (.next (x54.1,x54.2.2,x54.2.1)))
  | .inr x55=>(
   some (.done s22.2.1))
 else
 some (.done s22.2.1)
def Qbq (p0:(List Int)):Option ((List Int) × Int × Int) :=
 (Vz p0).bind fun x1 =>
 if (x1 != 0)=true then
  some (([]:(List Int)),0,x1)
 else
 if 0≤(p0.length:Int) then
  (Qdg (Xq p0) fuel (zv ((zv (1*2^min (Int.toNat (p0.length:Int)) (IntKind.bits .u64))) - 1),mput [] (0:Int) (0:Int))).bind fun x20 =>
  (Qb fuel (Jc p0 x20) (zv ((zv (1*2^min (Int.toNat (p0.length:Int)) (IntKind.bits .u64))) - 1),([]:(List Int)),x20.2)).bind fun x57 =>
  some (x57,x20.1,0)
 else none
def Vr (p0:Qg):Option (Tapi_Tree × Int) :=
 (Zt p0).bind fun x1 =>
 if (x1.2 != 0)=true then
  some ((Tapi_Tree.mk ([]:(List Int)) ([]:(List Int)) ([]:(List Int))),x1.2)
 else
 (Qan p0).bind fun x5 =>
 if (x5.2 != 0)=true then
  some ((Tapi_Tree.mk ([]:(List Int)) ([]:(List Int)) ([]:(List Int))),x5.2)
 else
 (Qbq x5.1).bind fun x9 =>
 if (x9.2.2 != 0)=true then
  some ((Tapi_Tree.mk ([]:(List Int)) ([]:(List Int)) ([]:(List Int))),x9.2.2)
 else
 (Kp p0 x1.1 x9.1).bind fun x13 =>
 some (x13.1,x13.2)
def Qgq  : Option Qg :=
 some (Qg.mk 4 ([(Tapi_Node.mk 2 [] [[1,3]]),(Tapi_Node.mk 2 [0] [[4,0],[2,2]]),(Tapi_Node.mk 2 [1] [[1,3],[4,0]])]:(List Tapi_Node)))
def K1  : Option Tapi_Tree :=
 some (Tapi_Tree.mk ([6,3]:(List Int)) ([-1,0]:(List Int)) ([1,1,0]:(List Int)))
def Qda  : Option Bool :=
 (Qgq).bind fun x1 =>
 (Vo x1 [0,1,2]).bind fun x3 =>
 (X9 x1 x3.1).bind fun x5 =>
 (Qee x1 x3.1 1).bind fun x7 =>
 (Vr x1).bind fun x9 =>
 if (x3.2==0)=true then
  (K1).bind fun x13 =>
  (Qeh x3.1 x13).bind fun x15 =>
  if x15=true then
   if (x5.1==1)=true then
    if (x5.2==0)=true then
     if (x7.1==2)=true then
      if (x7.2==0)=true then
       if (x9.2==0)=true then
        (K1).bind fun x29 =>
        (Qeh x9.1 x29).bind fun x31 =>
        if x31=true then
         (K1).bind fun x35 =>
         (Ye x1 x35).bind fun x37 =>
         if (x37==0)=true then
          (Ye x1 (Tapi_Tree.mk [] [] [])).bind fun x41 =>
          some (x41==100)
         else
         some false
        else
        some false
       else
       some false
      else
      some false
     else
     some false
    else
    some false
   else
   some false
  else
  some false
 else
 some false
def Vb (p0:Tharuspexref10_Bend) (p1:Tapi_Tree):Option Tapi_Tree :=
 if p1.Cliques.length*8≤140737488355328 then
  if p1.Up.length*8≤140737488355328 then
   if p1.Home.length*8≤140737488355328 then
    if ((Int.tmod p0.What 8)==0)=true then
     if (decide ((p1.Cliques.length:Int) > 0))=true then
      if (p1.Cliques.length:Int)≠0 then
       (lkI p1.Cliques (Int.tmod (zw (p0.At)) (p1.Cliques.length:Int))).bind fun a5 =>
       (lkI p1.Cliques (Int.tmod (zw (p0.At)) (p1.Cliques.length:Int))).bind fun a7 =>
       some (Tapi_Tree.mk (List.set p1.Cliques (Int.toNat (Int.tmod (zw (p0.At)) (p1.Cliques.length:Int))) p0.S) p1.Up p1.Home)
      else none
     else
     some p1
    else
    if ((Int.tmod p0.What 8)==1)=true then
     if (decide ((p1.Cliques.length:Int) > 0))=true then
      if (p1.Cliques.length:Int)≠0 then
       if (p1.Cliques.length:Int)≠0 then
        (lkI p1.Cliques (Int.tmod (zw (p0.At)) (p1.Cliques.length:Int))).bind fun a14 =>
        (lkI p1.Cliques (Int.tmod (zw (p0.At)) (p1.Cliques.length:Int))).bind fun a16 =>
        some (Tapi_Tree.mk (List.set p1.Cliques (Int.toNat (Int.tmod (zw (p0.At)) (p1.Cliques.length:Int))) (zv (zb a14 ||| zb p0.S).toNat)) p1.Up p1.Home)
       else none
      else none
     else
     some p1
    else
    if ((Int.tmod p0.What 8)==2)=true then
     if (decide ((p1.Up.length:Int) > 0))=true then
      if (p1.Up.length:Int)≠0 then
       (lkI p1.Up (Int.tmod (zw (p0.At)) (p1.Up.length:Int))).bind fun a23 =>
       (lkI p1.Up (Int.tmod (zw (p0.At)) (p1.Up.length:Int))).bind fun a25 =>
       some (Tapi_Tree.mk p1.Cliques (List.set p1.Up (Int.toNat (Int.tmod (zw (p0.At)) (p1.Up.length:Int))) p0.N) p1.Home)
      else none
     else
     some p1
    else
    if ((Int.tmod p0.What 8)==3)=true then
     if (decide ((p1.Home.length:Int) > 0))=true then
      if (p1.Home.length:Int)≠0 then
       (lkI p1.Home (Int.tmod (zw (p0.At)) (p1.Home.length:Int))).bind fun a32 =>
       (lkI p1.Home (Int.tmod (zw (p0.At)) (p1.Home.length:Int))).bind fun a34 =>
       some (Tapi_Tree.mk p1.Cliques p1.Up (List.set p1.Home (Int.toNat (Int.tmod (zw (p0.At)) (p1.Home.length:Int))) p0.N))
      else none
     else
     some p1
    else
    if ((Int.tmod p0.What 8)==4)=true then
     if (decide ((p1.Cliques.length:Int) > 0))=true then
      if 0≤(1:Int)∧(1:Int)≤(p1.Cliques.length:Int)∧(p1.Cliques.length:Int)≤(p1.Cliques.length:Int) then
       some (Tapi_Tree.mk (sub p1.Cliques 1 (p1.Cliques.length:Int)) p1.Up p1.Home)
      else none
     else
     some p1
    else
    if ((Int.tmod p0.What 8)==5)=true then
     if (p1.Cliques++([p0.S]:(List Int))).length*8≤140737488355328 then
      if (p1.Up++([p0.N]:(List Int))).length*8≤140737488355328 then
       some (Tapi_Tree.mk (p1.Cliques++([p0.S]:(List Int))) (p1.Up++([p0.N]:(List Int))) p1.Home)
      else none
     else none
    else
    if ((Int.tmod p0.What 8)==6)=true then
     if (p1.Home++([p0.N]:(List Int))).length*8≤140737488355328 then
      some (Tapi_Tree.mk p1.Cliques p1.Up (p1.Home++([p0.N]:(List Int))))
     else none
    else
    if (decide ((p1.Cliques.length:Int) > 0))=true then
     if (p1.Cliques.length:Int)≠0 then
      if (p1.Up++([Int.tmod (zw (p0.At)) (p1.Cliques.length:Int)]:(List Int))).length*8≤140737488355328 then
       (lkI p1.Cliques (Int.tmod (zw (p0.At)) (p1.Cliques.length:Int))).bind fun a48 =>
       if (p1.Cliques++([zv (zb a48 &&& zb p0.S).toNat]:(List Int))).length*8≤140737488355328 then
        some (Tapi_Tree.mk (p1.Cliques++([zv (zb a48 &&& zb p0.S).toNat]:(List Int))) (p1.Up++([Int.tmod (zw (p0.At)) (p1.Cliques.length:Int)]:(List Int))) p1.Home)
       else none
      else none
     else none
    else
    some p1
   else none
  else none
 else none
def Jg (p0:Tharuspexref02_Draft) (s1:(Int × (List Int))):Option (Ql (Int × (List Int)) (List Int)) :=
 if (decide (s1.1 < (p0.C.length:Int)))=true then
  if (decide (s1.1 < 5))=true then
   (lkI p0.C s1.1).bind fun a6 =>
   if (s1.2++([zw (1+(zw (Int.tmod a6 4)))]:(List Int))).length*8≤140737488355328 then
    some (.next (zw (s1.1+1),(s1.2++([zw (1+(zw (Int.tmod a6 4)))]:(List Int)))))
   else none
  else
  some (.done s1.2)
 else
 some (.done s1.2)
def Vu (p0:Tharuspexref02_Draft):Option (List Int) :=
 (Qb fuel (Jg p0) (0,([]:(List Int)))).bind fun x9 =>
 some x9
def Yv (p0:Tharuspexref02_Draft) (s1:(Int × (List Int))):Option (Ql (Int × (List Int)) (List Int)) :=
 (Vu p0).bind fun x2 =>
 if (decide (s1.1 < (x2.length:Int)))=true then
  if (decide (s1.1 < (p0.Order.length:Int)))=true then
   (lkI p0.Order s1.1).bind fun a8 =>
   if (zw (s1.1+1))≠0 then
    if 0≤(0:Int)∧(0:Int)≤(Int.tmod (zw (a8)) (zw (s1.1+1)))∧(Int.tmod (zw (a8)) (zw (s1.1+1)))≤(s1.2.length:Int) then
     if (sub s1.2 0 (Int.tmod (zw (a8)) (zw (s1.1+1)))).length*8≤140737488355328 then
      if ((sub s1.2 0 (Int.tmod (zw (a8)) (zw (s1.1+1))))++([s1.1]:(List Int))).length*8≤140737488355328 then
       if 0≤(Int.tmod (zw (a8)) (zw (s1.1+1)))∧(Int.tmod (zw (a8)) (zw (s1.1+1)))≤(s1.2.length:Int)∧(s1.2.length:Int)≤(s1.2.length:Int) then
        if (((sub s1.2 0 (Int.tmod (zw (a8)) (zw (s1.1+1))))++([s1.1]:(List Int)))++(sub s1.2 (Int.tmod (zw (a8)) (zw (s1.1+1))) (s1.2.length:Int))).length*8≤140737488355328 then
         some (.next (zw (s1.1+1),(((sub s1.2 0 (Int.tmod (zw (a8)) (zw (s1.1+1))))++([s1.1]:(List Int)))++(sub s1.2 (Int.tmod (zw (a8)) (zw (s1.1+1))) (s1.2.length:Int)))))
        else none
       else none
      else none
     else none
    else none
   else none
  else
  if 0≤(0:Int)∧(0:Int)≤(0:Int)∧(0:Int)≤(s1.2.length:Int) then
   if (sub s1.2 0 0).length*8≤140737488355328 then
    if ((sub s1.2 0 0)++([s1.1]:(List Int))).length*8≤140737488355328 then
     if 0≤(0:Int)∧(0:Int)≤(s1.2.length:Int)∧(s1.2.length:Int)≤(s1.2.length:Int) then
      if (((sub s1.2 0 0)++([s1.1]:(List Int)))++(sub s1.2 0 (s1.2.length:Int))).length*8≤140737488355328 then
       some (.next (zw (s1.1+1),(((sub s1.2 0 0)++([s1.1]:(List Int)))++(sub s1.2 0 (s1.2.length:Int)))))
      else none
     else none
    else none
   else none
  else none
 else
 some (.done s1.2)
def X8 (p0:Tharuspexref02_Draft):Option (List Int) :=
 (Qb fuel (Yv p0) (0,([]:(List Int)))).bind fun x15 =>
 some x15
def Qby (p0:(List Int)) (s1:(Int × Int)):Option (Ql (Int × Int) Int) :=
 if (decide (s1.2 < (p0.length:Int)))=true then
  (lkI p0 s1.2).bind fun a4 =>
  some (.next (zw (s1.1*a4),zw (s1.2+1)))
 else
 some (.done s1.1)
def Kk (p0:(List Int)):Option Int :=
 (Qb fuel (Qby p0) (1,0)).bind fun x7 =>
 some x7
def Qdj (p1:(List Int)) (p0:(List Int)) (s1:(Int × (List Int))):Option (Ql (Int × (List Int)) (List Int)) :=
 if (decide (s1.1 < (p1.length:Int)))=true then
  (lkI p1 s1.1).bind fun a4 =>
  (lkI p0 a4).bind fun a6 =>
  if (s1.2++([a6]:(List Int))).length*8≤140737488355328 then
   some (.next (zw (s1.1+1),(s1.2++([a6]:(List Int)))))
  else none
 else
 some (.done s1.2)
def Qds (p0:(List Int)) (p1:(List Int)):Option (List Int) :=
 (Qb fuel (Qdj p1 p0) (0,([]:(List Int)))).bind fun x9 =>
 some x9
def Qax (p0:Qg) (s1:(Int × (List Int))):Option (Ql (Int × (List Int)) (List Int)) :=
 if (decide (s1.1 < (p0.Nodes.length:Int)))=true then
  (lkI p0.Nodes s1.1).bind fun a4 =>
  if (s1.2++([a4.Card]:(List Int))).length*8≤140737488355328 then
   some (.next (zw (s1.1+1),(s1.2++([a4.Card]:(List Int)))))
  else none
 else
 some (.done s1.2)
def Qau (p0:Qg):Option (List Int) :=
 (Qb fuel (Qax p0) (0,([]:(List Int)))).bind fun x7 =>
 some x7
def Z6 (p0:Qg) (p1:Int):Option (List Int) :=
 (Qau p0).bind fun x1 =>
 (lkI p0.Nodes p1).bind fun a3 =>
 (Qds x1 a3.Parents).bind fun x5 =>
 some x5
def Vq (p1:Int) (p2:(List Int)) (p3:Int) (s1:(Int × Int × (List Int))):Option (Ql (Int × Int × (List Int)) (Int × (List Int))) :=
 if (decide (s1.2.1 < p1))=true then
  if (decide ((p2.length:Int) > 0))=true then
   if (p2.length:Int)≠0 then
    (lkI p2 (Int.tmod (zw (p3+s1.2.1)) (p2.length:Int))).bind fun a6 =>
    (lkI s1.2.2 s1.2.1).bind fun a8 =>
    some (.next (zw (s1.1+(zw (Int.tmod a6 8))),zw (s1.2.1+1),(List.set s1.2.2 (Int.toNat s1.2.1) (zw (Int.tmod a6 8)))))
   else none
  else
  (lkI s1.2.2 s1.2.1).bind fun a11 =>
  some (.next (zw (s1.1+a11),zw (s1.2.1+1),s1.2.2))
 else
 some (.done (s1.1,s1.2.2))
def Qch (p1:Int) (x14:(Int × (List Int))) (p0:Int) (s15:(Int × Int × Int × (List Int))):Option (Ql (Int × Int × Int × (List Int)) (Int × Int × (List Int))) :=
 if (decide (s15.2.2.1 < p1))=true then
  (lkI s15.2.2.2 s15.2.2.1).bind fun a18 =>
  if (decide (a18 > 0))=true then
   if x14.1≠0 then
    some (.next (zw (s15.1 - (zw (Int.tdiv (zw (p0*a18)) x14.1))),s15.2.2.1,zw (s15.2.2.1+1),(List.set s15.2.2.2 (Int.toNat s15.2.2.1) (zw (Int.tdiv (zw (p0*a18)) x14.1)))))
   else none
  else
  some (.next (zw (s15.1 - a18),s15.2.1,zw (s15.2.2.1+1),s15.2.2.2))
 else
 some (.done (s15.1,s15.2.1,s15.2.2.2))
def Qal (p0:Int) (p1:Int) (p2:(List Int)) (p3:Int):Option (List Int) :=
 if 0≤p1∧p1≤p1∧p1*8≤140737488355328 then
  (Qb fuel (Vq p1 p2 p3) (0,0,(List.replicate (Int.toNat p1) (0:Int)))).bind fun x14 =>
  (Qb fuel (Qch p1 x14 p0) (p0,0,0,x14.2)).bind fun x24 =>
  (lkI x24.2.2 x24.2.1).bind fun a25 =>
  some (List.set x24.2.2 (Int.toNat x24.2.1) (zw (a25+x24.1)))
 else none
def Ya (p0:Qc) (x1:(List Int)) (s3:(Int × Int × (List (Int ⊕ Tapi_Node)))):Option (Ql (Int × Int × (List (Int ⊕ Tapi_Node))) (List (Int ⊕ Tapi_Node))) :=
 if (decide (s3.2.1 < (if 5 < (if 1 > (p0.Nodes.length:Int) then 1 else (p0.Nodes.length:Int)) then 5 else (if 1 > (p0.Nodes.length:Int) then 1 else (p0.Nodes.length:Int)))))=true then
  if (decide (s3.2.1 < (p0.Nodes.length:Int)))=true then
   (lkI p0.Nodes s3.2.1).bind fun a8 =>
   if 0≤(zv (zw ((zw ((if 5 < (if 1 > (p0.Nodes.length:Int) then 1 else (p0.Nodes.length:Int)) then 5 else (if 1 > (p0.Nodes.length:Int) then 1 else (p0.Nodes.length:Int))) - 1)) - s3.2.1))) then
    if (decide ((zw ((zw (s3.1*(zw (2+(zw (Int.tmod a8.Card 2))))))*2^min (Int.toNat (zv (zw ((zw ((if 5 < (if 1 > (p0.Nodes.length:Int) then 1 else (p0.Nodes.length:Int)) then 5 else (if 1 > (p0.Nodes.length:Int) then 1 else (p0.Nodes.length:Int))) - 1)) - s3.2.1)))) (IntKind.bits .i64))) > 100))=true then
     (lkI x1 s3.2.1).bind fun a12 =>
     (lkL s3.2.2 a12).bind fun a14 =>
     some (.next (zw (s3.1*2),zw (s3.2.1+1),(List.set s3.2.2 (Int.toNat a12) (Sum.inl 2))))
    else
    (lkI x1 s3.2.1).bind fun a17 =>
    (lkL s3.2.2 a17).bind fun a19 =>
    some (.next (zw (s3.1*(zw (2+(zw (Int.tmod a8.Card 2))))),zw (s3.2.1+1),(List.set s3.2.2 (Int.toNat a17) (Sum.inl (zw (2+(zw (Int.tmod a8.Card 2))))))))
   else none
  else
  if 0≤(zv (zw ((zw ((if 5 < (if 1 > (p0.Nodes.length:Int) then 1 else (p0.Nodes.length:Int)) then 5 else (if 1 > (p0.Nodes.length:Int) then 1 else (p0.Nodes.length:Int))) - 1)) - s3.2.1))) then
   if (decide ((zw ((zw (s3.1*(zw (2+(zw (Int.tmod 0 2))))))*2^min (Int.toNat (zv (zw ((zw ((if 5 < (if 1 > (p0.Nodes.length:Int) then 1 else (p0.Nodes.length:Int)) then 5 else (if 1 > (p0.Nodes.length:Int) then 1 else (p0.Nodes.length:Int))) - 1)) - s3.2.1)))) (IntKind.bits .i64))) > 100))=true then
    (lkI x1 s3.2.1).bind fun a24 =>
    (lkL s3.2.2 a24).bind fun a26 =>
    some (.next (zw (s3.1*2),zw (s3.2.1+1),(List.set s3.2.2 (Int.toNat a24) (Sum.inl 2))))
   else
   (lkI x1 s3.2.1).bind fun a29 =>
   (lkL s3.2.2 a29).bind fun a31 =>
   some (.next (zw (s3.1*(zw (2+(zw (Int.tmod 0 2))))),zw (s3.2.1+1),(List.set s3.2.2 (Int.toNat a29) (Sum.inl (zw (2+(zw (Int.tmod 0 2))))))))
  else none
 else
 some (.done s3.2.2)
def Yi (s36:(Int × (List (Int ⊕ Tapi_Node)))) (x1:(List Int)) (s55:(Int × (List Int))) (a49:Qp) (s58:(Int × (List Int))):Option (Ql (Int × (List Int)) (List Int)) :=
 if (decide (s58.1 < s36.1))=true then
  (lkI x1 s58.1).bind fun a61 =>
  if (a61==s55.1)=true then
   if 0≤(zv (s58.1)) then
    if ((IntKind.u8.wrap (BitVec.ofInt (IntKind.bits .u8) (Int.fdiv a49.Parents (2^min (Int.toNat (zv (s58.1))) (IntKind.bits .u8))) &&& BitVec.ofInt (IntKind.bits .u8) 1).toNat)==1)=true then
     if (decide ((s58.2.length:Int) < 3))=true then
      if (s58.2++([s55.1]:(List Int))).length*8≤140737488355328 then
       some (.next (zw (s58.1+1),(s58.2++([s55.1]:(List Int)))))
      else none
     else
     some (.next (zw (s58.1+1),s58.2))
    else
    some (.next (zw (s58.1+1),s58.2))
   else none
  else
  some (.next (zw (s58.1+1),s58.2))
 else
 some (.done s58.2)
def Xk (p0:Qc) (s36:(Int × (List (Int ⊕ Tapi_Node)))) (x1:(List Int)) (a49:Qp) (s55:(Int × (List Int))):Option (Ql (Int × (List Int)) (List Int)) :=
 if (decide (s55.1 < (if 5 < (if 1 > (p0.Nodes.length:Int) then 1 else (p0.Nodes.length:Int)) then 5 else (if 1 > (p0.Nodes.length:Int) then 1 else (p0.Nodes.length:Int)))))=true then
  (Qb fuel (Yi s36 x1 s55 a49) (0,s55.2)).bind fun x70 =>
  some (.next (zw (s55.1+1),x70))
 else
 some (.done s55.2)
def Yb (p0:Qc) (s36:(Int × (List (Int ⊕ Tapi_Node)))) (a51:Int) (a53:Int) (x72:(List Int)) (a49:Qp) (s73:(Int × (List (List Int)))):Option (Ql (Int × (List (List Int))) (List (List Int))) :=
 (Z6 (Qg.mk (zw (1+(zw (Int.tmod p0.Grain 60)))) (List.set (List.map coTapi_Node s36.2) (Int.toNat a51) (Tapi_Node.mk a53 x72 s73.2))) a51).bind fun x74 =>
 (Kk x74).bind fun x76 =>
 if (decide (s73.1 < x76))=true then
  (Qal (zw (1+(zw (Int.tmod p0.Grain 60)))) a53 a49.W (zw (s73.1*(zw (a53+1))))).bind fun x80 =>
  if (s73.2++([x80]:(List (List Int)))).length*24≤140737488355328 then
   some (.next (zw (s73.1+1),(s73.2++([x80]:(List (List Int))))))
  else none
 else
 some (.done s73.2)
def Qhg (s36:(Int × (List (Int ⊕ Tapi_Node)))) (x1:(List Int)) (s90:(Int × (List Int))) (s93:(Int × (List Int))):Option (Ql (Int × (List Int)) (List Int)) :=
 if (decide (s93.1 < s36.1))=true then
  (lkI x1 s93.1).bind fun a96 =>
  if (a96==s90.1)=true then
   if 0≤(zv (s93.1)) then
    if ((IntKind.u8.wrap (BitVec.ofInt (IntKind.bits .u8) (Int.fdiv 0 (2^min (Int.toNat (zv (s93.1))) (IntKind.bits .u8))) &&& BitVec.ofInt (IntKind.bits .u8) 1).toNat)==1)=true then
     if (decide ((s93.2.length:Int) < 3))=true then
      if (s93.2++([s90.1]:(List Int))).length*8≤140737488355328 then
       some (.next (zw (s93.1+1),(s93.2++([s90.1]:(List Int)))))
      else none
     else
     some (.next (zw (s93.1+1),s93.2))
    else
    some (.next (zw (s93.1+1),s93.2))
   else none
  else
  some (.next (zw (s93.1+1),s93.2))
 else
 some (.done s93.2)
def Qbk (p0:Qc) (s36:(Int × (List (Int ⊕ Tapi_Node)))) (x1:(List Int)) (s90:(Int × (List Int))):Option (Ql (Int × (List Int)) (List Int)) :=
 if (decide (s90.1 < (if 5 < (if 1 > (p0.Nodes.length:Int) then 1 else (p0.Nodes.length:Int)) then 5 else (if 1 > (p0.Nodes.length:Int) then 1 else (p0.Nodes.length:Int)))))=true then
  (Qb fuel (Qhg s36 x1 s90) (0,s90.2)).bind fun x105 =>
  some (.next (zw (s90.1+1),x105))
 else
 some (.done s90.2)
def Qgw (p0:Qc) (s36:(Int × (List (Int ⊕ Tapi_Node)))) (a86:Int) (a88:Int) (x107:(List Int)) (s108:(Int × (List (List Int)))):Option (Ql (Int × (List (List Int))) (List (List Int))) :=
 (Z6 (Qg.mk (zw (1+(zw (Int.tmod p0.Grain 60)))) (List.set (List.map coTapi_Node s36.2) (Int.toNat a86) (Tapi_Node.mk a88 x107 s108.2))) a86).bind fun x109 =>
 (Kk x109).bind fun x111 =>
 if (decide (s108.1 < x111))=true then
  (Qal (zw (1+(zw (Int.tmod p0.Grain 60)))) a88 [] (zw (s108.1*(zw (a88+1))))).bind fun x115 =>
  if (s108.2++([x115]:(List (List Int)))).length*24≤140737488355328 then
   some (.next (zw (s108.1+1),(s108.2++([x115]:(List (List Int))))))
  else none
 else
 some (.done s108.2)
def Yd (p0:Qc) (x1:(List Int)) (s36:(Int × (List (Int ⊕ Tapi_Node)))):Option (Ql (Int × (List (Int ⊕ Tapi_Node))) (List (Int ⊕ Tapi_Node))) :=
 if (decide (s36.1 < (if 5 < (if 1 > (p0.Nodes.length:Int) then 1 else (p0.Nodes.length:Int)) then 5 else (if 1 > (p0.Nodes.length:Int) then 1 else (p0.Nodes.length:Int)))))=true then
  if (decide (s36.1 < (p0.Nodes.length:Int)))=true then
   (lkI p0.Nodes s36.1).bind fun a49 =>
   (lkI x1 s36.1).bind fun a51 =>
   (lkL s36.2 a51).bind fun a53 =>
   (Qb fuel (Xk p0 s36 x1 a49) (0,([]:(List Int)))).bind fun x72 =>
   (Qb fuel (Yb p0 s36 a51 a53 x72 a49) (0,([]:(List (List Int))))).bind fun x83 =>
   some (.next (zw (s36.1+1),(List.set s36.2 (Int.toNat a51) (Sum.inr (Tapi_Node.mk a53 x72 x83)))))
  else
  (lkI x1 s36.1).bind fun a86 =>
  (lkL s36.2 a86).bind fun a88 =>
  (Qb fuel (Qbk p0 s36 x1) (0,([]:(List Int)))).bind fun x107 =>
  (Qb fuel (Qgw p0 s36 a86 a88 x107) (0,([]:(List (List Int))))).bind fun x118 =>
  some (.next (zw (s36.1+1),(List.set s36.2 (Int.toNat a86) (Sum.inr (Tapi_Node.mk a88 x107 x118)))))
 else
 some (.done s36.2)
def Vh (p0:Qc):Option Qg :=
 if 0≤(if 5 < (if 1 > (p0.Nodes.length:Int) then 1 else (p0.Nodes.length:Int)) then 5 else (if 1 > (p0.Nodes.length:Int) then 1 else (p0.Nodes.length:Int)))∧(if 5 < (if 1 > (p0.Nodes.length:Int) then 1 else (p0.Nodes.length:Int)) then 5 else (if 1 > (p0.Nodes.length:Int) then 1 else (p0.Nodes.length:Int)))≤(if 5 < (if 1 > (p0.Nodes.length:Int) then 1 else (p0.Nodes.length:Int)) then 5 else (if 1 > (p0.Nodes.length:Int) then 1 else (p0.Nodes.length:Int)))∧(if 5 < (if 1 > (p0.Nodes.length:Int) then 1 else (p0.Nodes.length:Int)) then 5 else (if 1 > (p0.Nodes.length:Int) then 1 else (p0.Nodes.length:Int)))*56≤140737488355328 then
  if 0≤(if 5 < (if 1 > (p0.Nodes.length:Int) then 1 else (p0.Nodes.length:Int)) then 5 else (if 1 > (p0.Nodes.length:Int) then 1 else (p0.Nodes.length:Int)))∧(if 5 < (if 1 > (p0.Nodes.length:Int) then 1 else (p0.Nodes.length:Int)) then 5 else (if 1 > (p0.Nodes.length:Int) then 1 else (p0.Nodes.length:Int)))≤(if 5 < (if 1 > (p0.Nodes.length:Int) then 1 else (p0.Nodes.length:Int)) then 5 else (if 1 > (p0.Nodes.length:Int) then 1 else (p0.Nodes.length:Int)))∧(if 5 < (if 1 > (p0.Nodes.length:Int) then 1 else (p0.Nodes.length:Int)) then 5 else (if 1 > (p0.Nodes.length:Int) then 1 else (p0.Nodes.length:Int)))*1≤140737488355328 then
   (X8 (Tharuspexref02_Draft.mk (List.replicate (Int.toNat (if 5 < (if 1 > (p0.Nodes.length:Int) then 1 else (p0.Nodes.length:Int)) then 5 else (if 1 > (p0.Nodes.length:Int) then 1 else (p0.Nodes.length:Int)))) (0:Int)) 0 p0.Order)).bind fun x1 =>
   (Qb fuel (Ya p0 x1) (1,0,(List.replicate (Int.toNat (if 5 < (if 1 > (p0.Nodes.length:Int) then 1 else (p0.Nodes.length:Int)) then 5 else (if 1 > (p0.Nodes.length:Int) then 1 else (p0.Nodes.length:Int)))) ((Sum.inl 0):(Int ⊕ Tapi_Node))))).bind fun x35 =>
   (Qb fuel (Yd p0 x1) (0,x35)).bind fun x122 =>
   (alr x122).bind fun m123 =>
   some (Qg.mk (zw (1+(zw (Int.tmod p0.Grain 60)))) m123)
  else none
 else none
def Qag (p0:Int) (p1:Int) (p2:(Int × Int × Int × Int × Int × Int × Int × Int)) (s1:(Int × (List Int))):Option (Ql (Int × (List Int)) (List Int)) :=
 if (decide (s1.1 < p0))=true then
  if (s1.1==p1)=true then
   some (.next (zw (s1.1+1),s1.2))
  else
  if Int.tmod s1.1 8=0 then
   if (zw ((s1.2.length:Int)+1))≠0 then
    if 0≤(0:Int)∧(0:Int)≤(Int.tmod (zw (p2.1)) (zw ((s1.2.length:Int)+1)))∧(Int.tmod (zw (p2.1)) (zw ((s1.2.length:Int)+1)))≤(s1.2.length:Int) then
     if (sub s1.2 0 (Int.tmod (zw (p2.1)) (zw ((s1.2.length:Int)+1)))).length*8≤140737488355328 then
      if ((sub s1.2 0 (Int.tmod (zw (p2.1)) (zw ((s1.2.length:Int)+1))))++([s1.1]:(List Int))).length*8≤140737488355328 then
       if 0≤(Int.tmod (zw (p2.1)) (zw ((s1.2.length:Int)+1)))∧(Int.tmod (zw (p2.1)) (zw ((s1.2.length:Int)+1)))≤(s1.2.length:Int)∧(s1.2.length:Int)≤(s1.2.length:Int) then
        if (((sub s1.2 0 (Int.tmod (zw (p2.1)) (zw ((s1.2.length:Int)+1))))++([s1.1]:(List Int)))++(sub s1.2 (Int.tmod (zw (p2.1)) (zw ((s1.2.length:Int)+1))) (s1.2.length:Int))).length*8≤140737488355328 then
         some (.next (zw (s1.1+1),(((sub s1.2 0 (Int.tmod (zw (p2.1)) (zw ((s1.2.length:Int)+1))))++([s1.1]:(List Int)))++(sub s1.2 (Int.tmod (zw (p2.1)) (zw ((s1.2.length:Int)+1))) (s1.2.length:Int)))))
        else none
       else none
      else none
     else none
    else none
   else none
  else
  if Int.tmod s1.1 8=1 then
   if (zw ((s1.2.length:Int)+1))≠0 then
    if 0≤(0:Int)∧(0:Int)≤(Int.tmod (zw (p2.2.1)) (zw ((s1.2.length:Int)+1)))∧(Int.tmod (zw (p2.2.1)) (zw ((s1.2.length:Int)+1)))≤(s1.2.length:Int) then
     if (sub s1.2 0 (Int.tmod (zw (p2.2.1)) (zw ((s1.2.length:Int)+1)))).length*8≤140737488355328 then
      if ((sub s1.2 0 (Int.tmod (zw (p2.2.1)) (zw ((s1.2.length:Int)+1))))++([s1.1]:(List Int))).length*8≤140737488355328 then
       if 0≤(Int.tmod (zw (p2.2.1)) (zw ((s1.2.length:Int)+1)))∧(Int.tmod (zw (p2.2.1)) (zw ((s1.2.length:Int)+1)))≤(s1.2.length:Int)∧(s1.2.length:Int)≤(s1.2.length:Int) then
        if (((sub s1.2 0 (Int.tmod (zw (p2.2.1)) (zw ((s1.2.length:Int)+1))))++([s1.1]:(List Int)))++(sub s1.2 (Int.tmod (zw (p2.2.1)) (zw ((s1.2.length:Int)+1))) (s1.2.length:Int))).length*8≤140737488355328 then
         some (.next (zw (s1.1+1),(((sub s1.2 0 (Int.tmod (zw (p2.2.1)) (zw ((s1.2.length:Int)+1))))++([s1.1]:(List Int)))++(sub s1.2 (Int.tmod (zw (p2.2.1)) (zw ((s1.2.length:Int)+1))) (s1.2.length:Int)))))
        else none
       else none
      else none
     else none
    else none
   else none
  else
  if Int.tmod s1.1 8=2 then
   if (zw ((s1.2.length:Int)+1))≠0 then
    if 0≤(0:Int)∧(0:Int)≤(Int.tmod (zw (p2.2.2.1)) (zw ((s1.2.length:Int)+1)))∧(Int.tmod (zw (p2.2.2.1)) (zw ((s1.2.length:Int)+1)))≤(s1.2.length:Int) then
     if (sub s1.2 0 (Int.tmod (zw (p2.2.2.1)) (zw ((s1.2.length:Int)+1)))).length*8≤140737488355328 then
      if ((sub s1.2 0 (Int.tmod (zw (p2.2.2.1)) (zw ((s1.2.length:Int)+1))))++([s1.1]:(List Int))).length*8≤140737488355328 then
       if 0≤(Int.tmod (zw (p2.2.2.1)) (zw ((s1.2.length:Int)+1)))∧(Int.tmod (zw (p2.2.2.1)) (zw ((s1.2.length:Int)+1)))≤(s1.2.length:Int)∧(s1.2.length:Int)≤(s1.2.length:Int) then
        if (((sub s1.2 0 (Int.tmod (zw (p2.2.2.1)) (zw ((s1.2.length:Int)+1))))++([s1.1]:(List Int)))++(sub s1.2 (Int.tmod (zw (p2.2.2.1)) (zw ((s1.2.length:Int)+1))) (s1.2.length:Int))).length*8≤140737488355328 then
         some (.next (zw (s1.1+1),(((sub s1.2 0 (Int.tmod (zw (p2.2.2.1)) (zw ((s1.2.length:Int)+1))))++([s1.1]:(List Int)))++(sub s1.2 (Int.tmod (zw (p2.2.2.1)) (zw ((s1.2.length:Int)+1))) (s1.2.length:Int)))))
        else none
       else none
      else none
     else none
    else none
   else none
  else
  if Int.tmod s1.1 8=3 then
   if (zw ((s1.2.length:Int)+1))≠0 then
    if 0≤(0:Int)∧(0:Int)≤(Int.tmod (zw (p2.2.2.2.1)) (zw ((s1.2.length:Int)+1)))∧(Int.tmod (zw (p2.2.2.2.1)) (zw ((s1.2.length:Int)+1)))≤(s1.2.length:Int) then
     if (sub s1.2 0 (Int.tmod (zw (p2.2.2.2.1)) (zw ((s1.2.length:Int)+1)))).length*8≤140737488355328 then
      if ((sub s1.2 0 (Int.tmod (zw (p2.2.2.2.1)) (zw ((s1.2.length:Int)+1))))++([s1.1]:(List Int))).length*8≤140737488355328 then
       if 0≤(Int.tmod (zw (p2.2.2.2.1)) (zw ((s1.2.length:Int)+1)))∧(Int.tmod (zw (p2.2.2.2.1)) (zw ((s1.2.length:Int)+1)))≤(s1.2.length:Int)∧(s1.2.length:Int)≤(s1.2.length:Int) then
        if (((sub s1.2 0 (Int.tmod (zw (p2.2.2.2.1)) (zw ((s1.2.length:Int)+1))))++([s1.1]:(List Int)))++(sub s1.2 (Int.tmod (zw (p2.2.2.2.1)) (zw ((s1.2.length:Int)+1))) (s1.2.length:Int))).length*8≤140737488355328 then
         some (.next (zw (s1.1+1),(((sub s1.2 0 (Int.tmod (zw (p2.2.2.2.1)) (zw ((s1.2.length:Int)+1))))++([s1.1]:(List Int)))++(sub s1.2 (Int.tmod (zw (p2.2.2.2.1)) (zw ((s1.2.length:Int)+1))) (s1.2.length:Int)))))
        else none
       else none
      else none
     else none
    else none
   else none
  else
  if Int.tmod s1.1 8=4 then
   if (zw ((s1.2.length:Int)+1))≠0 then
    if 0≤(0:Int)∧(0:Int)≤(Int.tmod (zw (p2.2.2.2.2.1)) (zw ((s1.2.length:Int)+1)))∧(Int.tmod (zw (p2.2.2.2.2.1)) (zw ((s1.2.length:Int)+1)))≤(s1.2.length:Int) then
     if (sub s1.2 0 (Int.tmod (zw (p2.2.2.2.2.1)) (zw ((s1.2.length:Int)+1)))).length*8≤140737488355328 then
      if ((sub s1.2 0 (Int.tmod (zw (p2.2.2.2.2.1)) (zw ((s1.2.length:Int)+1))))++([s1.1]:(List Int))).length*8≤140737488355328 then
       if 0≤(Int.tmod (zw (p2.2.2.2.2.1)) (zw ((s1.2.length:Int)+1)))∧(Int.tmod (zw (p2.2.2.2.2.1)) (zw ((s1.2.length:Int)+1)))≤(s1.2.length:Int)∧(s1.2.length:Int)≤(s1.2.length:Int) then
        if (((sub s1.2 0 (Int.tmod (zw (p2.2.2.2.2.1)) (zw ((s1.2.length:Int)+1))))++([s1.1]:(List Int)))++(sub s1.2 (Int.tmod (zw (p2.2.2.2.2.1)) (zw ((s1.2.length:Int)+1))) (s1.2.length:Int))).length*8≤140737488355328 then
         some (.next (zw (s1.1+1),(((sub s1.2 0 (Int.tmod (zw (p2.2.2.2.2.1)) (zw ((s1.2.length:Int)+1))))++([s1.1]:(List Int)))++(sub s1.2 (Int.tmod (zw (p2.2.2.2.2.1)) (zw ((s1.2.length:Int)+1))) (s1.2.length:Int)))))
        else none
       else none
      else none
     else none
    else none
   else none
  else
  if Int.tmod s1.1 8=5 then
   if (zw ((s1.2.length:Int)+1))≠0 then
    if 0≤(0:Int)∧(0:Int)≤(Int.tmod (zw (p2.2.2.2.2.2.1)) (zw ((s1.2.length:Int)+1)))∧(Int.tmod (zw (p2.2.2.2.2.2.1)) (zw ((s1.2.length:Int)+1)))≤(s1.2.length:Int) then
     if (sub s1.2 0 (Int.tmod (zw (p2.2.2.2.2.2.1)) (zw ((s1.2.length:Int)+1)))).length*8≤140737488355328 then
      if ((sub s1.2 0 (Int.tmod (zw (p2.2.2.2.2.2.1)) (zw ((s1.2.length:Int)+1))))++([s1.1]:(List Int))).length*8≤140737488355328 then
       if 0≤(Int.tmod (zw (p2.2.2.2.2.2.1)) (zw ((s1.2.length:Int)+1)))∧(Int.tmod (zw (p2.2.2.2.2.2.1)) (zw ((s1.2.length:Int)+1)))≤(s1.2.length:Int)∧(s1.2.length:Int)≤(s1.2.length:Int) then
        if (((sub s1.2 0 (Int.tmod (zw (p2.2.2.2.2.2.1)) (zw ((s1.2.length:Int)+1))))++([s1.1]:(List Int)))++(sub s1.2 (Int.tmod (zw (p2.2.2.2.2.2.1)) (zw ((s1.2.length:Int)+1))) (s1.2.length:Int))).length*8≤140737488355328 then
         some (.next (zw (s1.1+1),(((sub s1.2 0 (Int.tmod (zw (p2.2.2.2.2.2.1)) (zw ((s1.2.length:Int)+1))))++([s1.1]:(List Int)))++(sub s1.2 (Int.tmod (zw (p2.2.2.2.2.2.1)) (zw ((s1.2.length:Int)+1))) (s1.2.length:Int)))))
        else none
       else none
      else none
     else none
    else none
   else none
  else
  if Int.tmod s1.1 8=6 then
   if (zw ((s1.2.length:Int)+1))≠0 then
    if 0≤(0:Int)∧(0:Int)≤(Int.tmod (zw (p2.2.2.2.2.2.2.1)) (zw ((s1.2.length:Int)+1)))∧(Int.tmod (zw (p2.2.2.2.2.2.2.1)) (zw ((s1.2.length:Int)+1)))≤(s1.2.length:Int) then
     if (sub s1.2 0 (Int.tmod (zw (p2.2.2.2.2.2.2.1)) (zw ((s1.2.length:Int)+1)))).length*8≤140737488355328 then
      if ((sub s1.2 0 (Int.tmod (zw (p2.2.2.2.2.2.2.1)) (zw ((s1.2.length:Int)+1))))++([s1.1]:(List Int))).length*8≤140737488355328 then
       if 0≤(Int.tmod (zw (p2.2.2.2.2.2.2.1)) (zw ((s1.2.length:Int)+1)))∧(Int.tmod (zw (p2.2.2.2.2.2.2.1)) (zw ((s1.2.length:Int)+1)))≤(s1.2.length:Int)∧(s1.2.length:Int)≤(s1.2.length:Int) then
        if (((sub s1.2 0 (Int.tmod (zw (p2.2.2.2.2.2.2.1)) (zw ((s1.2.length:Int)+1))))++([s1.1]:(List Int)))++(sub s1.2 (Int.tmod (zw (p2.2.2.2.2.2.2.1)) (zw ((s1.2.length:Int)+1))) (s1.2.length:Int))).length*8≤140737488355328 then
         some (.next (zw (s1.1+1),(((sub s1.2 0 (Int.tmod (zw (p2.2.2.2.2.2.2.1)) (zw ((s1.2.length:Int)+1))))++([s1.1]:(List Int)))++(sub s1.2 (Int.tmod (zw (p2.2.2.2.2.2.2.1)) (zw ((s1.2.length:Int)+1))) (s1.2.length:Int)))))
        else none
       else none
      else none
     else none
    else none
   else none
  else
  if Int.tmod s1.1 8=7 then
   if (zw ((s1.2.length:Int)+1))≠0 then
    if 0≤(0:Int)∧(0:Int)≤(Int.tmod (zw (p2.2.2.2.2.2.2.2)) (zw ((s1.2.length:Int)+1)))∧(Int.tmod (zw (p2.2.2.2.2.2.2.2)) (zw ((s1.2.length:Int)+1)))≤(s1.2.length:Int) then
     if (sub s1.2 0 (Int.tmod (zw (p2.2.2.2.2.2.2.2)) (zw ((s1.2.length:Int)+1)))).length*8≤140737488355328 then
      if ((sub s1.2 0 (Int.tmod (zw (p2.2.2.2.2.2.2.2)) (zw ((s1.2.length:Int)+1))))++([s1.1]:(List Int))).length*8≤140737488355328 then
       if 0≤(Int.tmod (zw (p2.2.2.2.2.2.2.2)) (zw ((s1.2.length:Int)+1)))∧(Int.tmod (zw (p2.2.2.2.2.2.2.2)) (zw ((s1.2.length:Int)+1)))≤(s1.2.length:Int)∧(s1.2.length:Int)≤(s1.2.length:Int) then
        if (((sub s1.2 0 (Int.tmod (zw (p2.2.2.2.2.2.2.2)) (zw ((s1.2.length:Int)+1))))++([s1.1]:(List Int)))++(sub s1.2 (Int.tmod (zw (p2.2.2.2.2.2.2.2)) (zw ((s1.2.length:Int)+1))) (s1.2.length:Int))).length*8≤140737488355328 then
         some (.next (zw (s1.1+1),(((sub s1.2 0 (Int.tmod (zw (p2.2.2.2.2.2.2.2)) (zw ((s1.2.length:Int)+1))))++([s1.1]:(List Int)))++(sub s1.2 (Int.tmod (zw (p2.2.2.2.2.2.2.2)) (zw ((s1.2.length:Int)+1))) (s1.2.length:Int)))))
        else none
       else none
      else none
     else none
    else none
   else none
  else
  none
 else
 some (.done s1.2)
def Jk (p0:Int) (p1:Int) (p2:(Int × Int × Int × Int × Int × Int × Int × Int)):Option (List Int) :=
 (Qb fuel (Qag p0 p1 p2) (0,([]:(List Int)))).bind fun x31 =>
 some x31
def X6 (x5:Qg) (x13:(Int × Int)) (s21:Int):Option (Ql Int (Unit ⊕ Unit)) :=
 if (decide (s21 < (x5.Nodes.length:Int)))=true then
  (lkI x5.Nodes s21).bind fun a24 =>
  if (decide ((a24.Parents.length:Int) > x13.1))=true then
   some (.done (Sum.inl ()))
  else
  some (.next (zw (s21+1)))
 else
 some (.done (Sum.inr ()))
def X5 (x9:(Tapi_Tree × Int)) (x31:Tapi_Tree) (x35:Tapi_Tree) (x5:Qg) (x13:(Int × Int)) (s37:Int):Option (Ql Int (Unit ⊕ Unit)) :=
 if (decide (s37 < 3))=true then
  (lkI ([x9.1,x31,x35]:(List Tapi_Tree)) s37).bind fun a40 =>
  (X9 x5 a40).bind fun x42 =>
  if (x42.2==0)=true then
   if (decide (x42.1 < x13.1))=true then
    some (.done (Sum.inl ()))
   else
   some (.next (zw (s37+1)))
  else
  if (x42.2 != 100)=true then
   some (.done (Sum.inl ()))
  else
  some (.next (zw (s37+1)))
 else
 some (.done (Sum.inr ()))
def Kl (p0:Qc) (p1:(Int × Int × Int × Int × Int × Int × Int × Int)) (p2:(Tharuspexref10_Bend × Tharuspexref10_Bend)):Option Bool :=
 (Qda).bind fun x1 =>
 if (!x1)=true then
  some false
 else
 (Vh p0).bind fun x5 =>
 (Jk (x5.Nodes.length:Int) (-1) (p1.1,p1.2.1,p1.2.2.1,p1.2.2.2.1,p1.2.2.2.2.1,p1.2.2.2.2.2.1,p1.2.2.2.2.2.2.1,p1.2.2.2.2.2.2.2)).bind fun x7 =>
 (Vo x5 x7).bind fun x9 =>
 (Vr x5).bind fun x11 =>
 (X9 x5 x11.1).bind fun x13 =>
 if (x9.2 != 0)=true then
  some false
 else
 if (x11.2 != 0)=true then
  some false
 else
 if (x13.2 != 0)=true then
  some false
 else
 (Qb fuel (X6 x5 x13) 0).bind fun x28=>match x28 with
 | .inl x29=>(
  some false)
 | .inr x30=>(
  (Vb p2.1 x9.1).bind fun x31 =>
  (Vb p2.1 x9.1).bind fun x33 =>
  (Vb p2.2 x33).bind fun x35 =>
  (Qb fuel (X5 x9 x31 x35 x5 x13) 0).bind fun x52=>match x52 with
  | .inl x53=>(
   some false)
  | .inr x54=>(
   some true))
end Go.Ab
