/- What functions compute. No conditions. -/
import Derived.Test.YtcbhkobklhkiiaaDoorEng8
set_option linter.all false
namespace Go.Ab
open Go
structure Tapi_Node where
 Card:Int
 Parents:(List Int)
 Rows:(List (List Int))
 deriving DecidableEq,Inhabited
@[reducible] def eTapi_Node (x:Tapi_Node):AV:=.agg [vI x.Card,eL true eI x.Parents,eL false (eL true eI) x.Rows]
@[reducible] def eoTapi_Node (x:Int ⊕ Tapi_Node):AV:=match x with | .inl c=>.agg [vI c,.nils,.nils] | .inr y=>eTapi_Node y
def coTapi_Node (x:Int ⊕ Tapi_Node):Tapi_Node:=match x with | .inl c=>⟨c,[],[]⟩ | .inr y=>y
structure Qf where
 Grain:Int
 Nodes:(List Tapi_Node)
 deriving DecidableEq,Inhabited
structure Qu where
 Net:Qf
 cards:(List Int)
 sets:(List Int)
 order:(List Int)
 deriving DecidableEq,Inhabited
structure Qc where
 Cliques:(List Int)
 Up:(List Int)
 Home:(List Int)
 deriving DecidableEq,Inhabited
structure Ttree_graph where
 near:(List Int)
 deriving DecidableEq,Inhabited
structure Ttree_maker where
 graph:Ttree_graph
 order:(List Int)
 deriving DecidableEq,Inhabited
structure Tharuspexref02_Draft where
 C:(List Int)
 Which:Int
 Order:(List Int)
 deriving DecidableEq,Inhabited
structure Qr where
 Card:Int
 Parents:Int
 W:(List Int)
 deriving DecidableEq,Inhabited
@[reducible] def eTharuspexref05_Piece (x:Qr):AV:=.agg [.int .u8 x.Card,.int .u8 x.Parents,eL true (AV.int .u8) x.W]
structure Qe where
 Grain:Int
 Nodes:(List Qr)
 Order:(List Int)
 deriving DecidableEq,Inhabited
@[reducible] def eTharuspexref05_Draft (x:Qe):AV:=.agg [.int .u8 x.Grain,eL false eTharuspexref05_Piece x.Nodes,eL true (AV.int .u8) x.Order]
def Yn (p1:Tapi_Node) (p0:Qu) (s1:(Int × Int)):Option (Ql (Int × Int) Int) :=
 if (decide (s1.2 < (p1.Parents.length:Int)))=true then
  (lkI p1.Parents s1.2).bind fun a4 =>
  (lkI p0.cards a4).bind fun a6 =>
  some (.next (zw (s1.1*a6),zw (s1.2+1)))
 else
 some (.done s1.1)
def Zh (a15:(List Int)) (s17:(Int × Int)):Option (Ql (Int × Int) (Unit ⊕ Int)) :=
 if (decide (s17.2 < (a15.length:Int)))=true then
  (lkI a15 s17.2).bind fun a20 =>
  if (decide (a20 < 0))=true then
   some (.done (Sum.inl ()))
  else
  if (decide (a20 > s17.1))=true then
   some (.done (Sum.inl ()))
  else
  some (.next (zw (s17.1 - a20),zw (s17.2+1)))
 else
 some (.done (Sum.inr s17.1))
def Xm (p1:Tapi_Node) (p0:Qu) (s12:Int):Option (Ql Int (Unit ⊕ Unit)) :=
 if (decide (s12 < (p1.Rows.length:Int)))=true then
  (lkI p1.Rows s12).bind fun a15 =>
  (Qb fuel (Zh a15) (p0.Net.Grain,0)).bind fun x26=>match x26 with
  | .inl x27=>(
   some (.done (Sum.inl ())))
  | .inr x28=>(
   if ((a15.length:Int) != p1.Card)=true then
    some (.done (Sum.inl ()))
   else
   if (x28 != 0)=true then
    some (.done (Sum.inl ()))
   else
   some (.next (zw (s12+1))))
 else
 some (.done (Sum.inr ()))
def Xi (p0:Qu) (p1:Tapi_Node):Option Bool :=
 (Qb fuel (Yn p1 p0) (1,0)).bind fun x9 =>
 if ((p1.Rows.length:Int) != x9)=true then
  some false
 else
 (Qb fuel (Xm p1 p0) 0).bind fun x33=>match x33 with
 | .inl x34=>(
  some false)
 | .inr x35=>(
  some true)
def Y9 (p0:(List Int)) (s1:(Int × (List Int))) (s4:Int):Option (Ql Int ((Int × (List Int)) ⊕ Unit)) :=
 if (decide (s4 < (p0.length:Int)))=true then
  (lkI p0 s4).bind fun a7 =>
  if 0≤s4 then
   if ((zv (zb (Int.fdiv s1.1 (2^min (Int.toNat s4) (IntKind.bits .u64))) &&& zb 1).toNat)==0)=true then
    if ((zv (zb a7 &&& ~~~ zb s1.1).toNat)==0)=true then
     if (s1.2++([s4]:(List Int))).length*8≤140737488355328 then
      if 0≤s4 then
       some (.done (Sum.inl (zv (zb s1.1 ||| zb (zv (1*2^min (Int.toNat s4) (IntKind.bits .u64)))).toNat,(s1.2++([s4]:(List Int))))))
      else none
     else none
    else
    some (.next (zw (s4+1)))
   else
   some (.next (zw (s4+1)))
  else none
 else
 some (.done (Sum.inr ()))
def Z8 (p0:(List Int)) (s1:(Int × (List Int))):Option (Ql (Int × (List Int)) (Unit ⊕ (List Int))) :=
 if (decide ((s1.2.length:Int) < (p0.length:Int)))=true then
  (Qb fuel (Y9 p0 s1) 0).bind fun x13=>match x13 with
  | .inl x14=>(
   some (.next (x14.1,x14.2)))
  | .inr x15=>(
   some (.done (Sum.inl ())))
 else
 some (.done (Sum.inr s1.2))
def Xu (p0:(List Int)):Option ((List Int) × Bool) :=
 if 0≤(0:Int)∧(0:Int)≤(p0.length:Int)∧(p0.length:Int)*8≤140737488355328 then
  (Qb fuel (Z8 p0) (0,(List.replicate (Int.toNat 0) (0:Int)))).bind fun x16=>match x16 with
  | .inl x17=>(
   some (([]:(List Int)),false))
  | .inr x18=>(
   some (x18,true))
 else none
def Xv (p0:Qf) (s9:(Int × Int × (List Int))):Option (Ql (Int × Int × (List Int)) (Unit ⊕ (Int × (List Int)))) :=
 if (decide (s9.2.1 < (p0.Nodes.length:Int)))=true then
  (lkI p0.Nodes s9.2.1).bind fun a12 =>
  if (decide (a12.Card < 1))=true then
   some (.done (Sum.inl ()))
  else
  if (decide (a12.Card > 4))=true then
   some (.done (Sum.inl ()))
  else
  (lkI s9.2.2 s9.2.1).bind fun a18 =>
  some (.next (zw (s9.1*a12.Card),zw (s9.2.1+1),(List.set s9.2.2 (Int.toNat s9.2.1) a12.Card)))
 else
 some (.done (Sum.inr (s9.1,s9.2.2)))
def Vc (a29:Tapi_Node) (p0:Qf) (s26:(Int × (List Int))) (s31:(Int × Int × (List Int))):Option (Ql (Int × Int × (List Int)) (Unit ⊕ (List Int))) :=
 if (decide (s31.2.1 < (a29.Parents.length:Int)))=true then
  (lkI a29.Parents s31.2.1).bind fun a34 =>
  if (decide (a34≤s31.1))=true then
   some (.done (Sum.inl ()))
  else
  if (decide (a34≥(p0.Nodes.length:Int)))=true then
   some (.done (Sum.inl ()))
  else
  if (a34==s26.1)=true then
   some (.done (Sum.inl ()))
  else
  (lkI s31.2.2 s26.1).bind fun a42 =>
  if 0≤a34 then
   some (.next (a34,zw (s31.2.1+1),(List.set s31.2.2 (Int.toNat s26.1) (zv (zb a42 ||| zb (zv (1*2^min (Int.toNat a34) (IntKind.bits .u64)))).toNat))))
  else none
 else
 some (.done (Sum.inr s31.2.2))
def Xw (p0:Qf) (x23:(Int × (List Int))) (s26:(Int × (List Int))):Option (Ql (Int × (List Int)) (Unit ⊕ (List Int))) :=
 if (decide (s26.1 < (p0.Nodes.length:Int)))=true then
  (lkI p0.Nodes s26.1).bind fun a29 =>
  (Qb fuel (Vc a29 p0 s26) (-1,0,s26.2)).bind fun x45=>match x45 with
  | .inl x46=>(
   some (.done (Sum.inl ())))
  | .inr x47=>(
   (Xi (Qu.mk p0 x23.2 x47 []) a29).bind fun x48 =>
   if (!x48)=true then
    some (.done (Sum.inl ()))
   else
   some (.next (zw (s26.1+1),x47)))
 else
 some (.done (Sum.inr s26.2))
def Jp (p0:Qf):Option (Qu × Int) :=
 if (decide (p0.Grain < 1))=true then
  some ((Qu.mk (Qf.mk 0 []) [] [] []),50)
 else
 if (decide (p0.Grain > 60))=true then
  some ((Qu.mk (Qf.mk 0 []) [] [] []),50)
 else
 if (decide ((p0.Nodes.length:Int) < 1))=true then
  some ((Qu.mk (Qf.mk 0 []) [] [] []),50)
 else
 if (decide ((p0.Nodes.length:Int) > 8))=true then
  some ((Qu.mk (Qf.mk 0 []) [] [] []),50)
 else
 if 0≤(p0.Nodes.length:Int)∧(p0.Nodes.length:Int)≤(p0.Nodes.length:Int)∧(p0.Nodes.length:Int)*8≤140737488355328 then
  if 0≤(p0.Nodes.length:Int)∧(p0.Nodes.length:Int)≤(p0.Nodes.length:Int)∧(p0.Nodes.length:Int)*8≤140737488355328 then
   (Qb fuel (Xv p0) (1,0,(List.replicate (Int.toNat (p0.Nodes.length:Int)) (0:Int)))).bind fun x21=>match x21 with
   | .inl x22=>(
    some ((Qu.mk (Qf.mk 0 []) [] [] []),50))
   | .inr x23=>(
    if (decide (x23.1 > 1024))=true then
     some ((Qu.mk (Qf.mk 0 []) [] [] []),50)
    else
    (Qb fuel (Xw p0 x23) (0,(List.replicate (Int.toNat (p0.Nodes.length:Int)) (0:Int)))).bind fun x52=>match x52 with
    | .inl x53=>(
     some ((Qu.mk (Qf.mk 0 []) [] [] []),50))
    | .inr x54=>(
     (Xu x54).bind fun x55 =>
     if (!x55.2)=true then
      some ((Qu.mk (Qf.mk 0 []) [] [] []),50)
     else
     some ((Qu.mk p0 x23.2 x54 x55.1),0)))
  else none
 else none
def Qaa (p0:Qf) (s9:(Int × Int × (List Int))):Option (Ql (Int × Int × (List Int)) (Unit ⊕ (Int × (List Int)))) :=
 if (decide (s9.2.1 < (p0.Nodes.length:Int)))=true then
  (lkI p0.Nodes s9.2.1).bind fun a12 =>
  if (decide (a12.Card < 1))=true then
   some (.done (Sum.inl ()))
  else
  if (decide (a12.Card > 4))=true then
   some (.done (Sum.inl ()))
  else
  (lkI s9.2.2 s9.2.1).bind fun a18 =>
  some (.next (zw (s9.1*a12.Card),zw (s9.2.1+1),(List.set s9.2.2 (Int.toNat s9.2.1) a12.Card)))
 else
 some (.done (Sum.inr (s9.1,s9.2.2)))
def Qfl (a29:Tapi_Node) (p0:Qf) (s26:(Int × (List Int))) (s31:(Int × Int × (List Int))):Option (Ql (Int × Int × (List Int)) (Unit ⊕ (List Int))) :=
 if (decide (s31.2.1 < (a29.Parents.length:Int)))=true then
  (lkI a29.Parents s31.2.1).bind fun a34 =>
  if (decide (a34≤s31.1))=true then
   some (.done (Sum.inl ()))
  else
  if (decide (a34≥(p0.Nodes.length:Int)))=true then
   some (.done (Sum.inl ()))
  else
  if (a34==s26.1)=true then
   some (.done (Sum.inl ()))
  else
  (lkI s31.2.2 s26.1).bind fun a42 =>
  if 0≤a34 then
   some (.next (a34,zw (s31.2.1+1),(List.set s31.2.2 (Int.toNat s26.1) (zv (zb a42 ||| zb (zv (1*2^min (Int.toNat a34) (IntKind.bits .u64)))).toNat))))
  else none
 else
 some (.done (Sum.inr s31.2.2))
def K7 (p0:Qf) (x23:(Int × (List Int))) (s26:(Int × (List Int))):Option (Ql (Int × (List Int)) (Unit ⊕ (List Int))) :=
 if (decide (s26.1 < (p0.Nodes.length:Int)))=true then
  (lkI p0.Nodes s26.1).bind fun a29 =>
  (Qb fuel (Qfl a29 p0 s26) (-1,0,s26.2)).bind fun x45=>match x45 with
  | .inl x46=>(
   some (.done (Sum.inl ())))
  | .inr x47=>(
   (Xi (Qu.mk p0 x23.2 x47 []) a29).bind fun x48 =>
   if (!x48)=true then
    some (.done (Sum.inl ()))
   else
   some (.next (zw (s26.1+1),x47)))
 else
 some (.done (Sum.inr s26.2))
def Xr (x54:(List Int)) (s59:(Int × (List Int))):Option (Ql (Int × (List Int)) (List Int)) :=
 if (decide (s59.1 < (x54.length:Int)))=true then
  (lkI s59.2 s59.1).bind fun a62 =>
  if 0≤s59.1 then
   some (.next (zw (s59.1+1),(List.set s59.2 (Int.toNat s59.1) (zv (zb a62 ||| zb (zv (1*2^min (Int.toNat s59.1) (IntKind.bits .u64)))).toNat))))
  else none
 else
 some (.done s59.2)
def Zr (p0:Qf):Option ((List Int) × Int) :=
 if (decide (p0.Grain < 1))=true then
  some (([]:(List Int)),50)
 else
 if (decide (p0.Grain > 60))=true then
  some (([]:(List Int)),50)
 else
 if (decide ((p0.Nodes.length:Int) < 1))=true then
  some (([]:(List Int)),50)
 else
 if (decide ((p0.Nodes.length:Int) > 8))=true then
  some (([]:(List Int)),50)
 else
 if 0≤(p0.Nodes.length:Int)∧(p0.Nodes.length:Int)≤(p0.Nodes.length:Int)∧(p0.Nodes.length:Int)*8≤140737488355328 then
  if 0≤(p0.Nodes.length:Int)∧(p0.Nodes.length:Int)≤(p0.Nodes.length:Int)∧(p0.Nodes.length:Int)*8≤140737488355328 then
   (Qb fuel (Qaa p0) (1,0,(List.replicate (Int.toNat (p0.Nodes.length:Int)) (0:Int)))).bind fun x21=>match x21 with
   | .inl x22=>(
    some (([]:(List Int)),50))
   | .inr x23=>(
    if (decide (x23.1 > 1024))=true then
     some (([]:(List Int)),50)
    else
    (Qb fuel (K7 p0 x23) (0,(List.replicate (Int.toNat (p0.Nodes.length:Int)) (0:Int)))).bind fun x52=>match x52 with
    | .inl x53=>(
     some (([]:(List Int)),50))
    | .inr x54=>(
     (Xu x54).bind fun x55 =>
     if (!x55.2)=true then
      some (([]:(List Int)),50)
     else
     (Qb fuel (Xr x54) (0,x54)).bind fun x66 =>
     some (x66,0)))
  else none
 else none
def Yg (p1:Qc) (x1:((List Int) × Int)) (s13:(Int × Int)):Option (Ql (Int × Int) (Unit ⊕ Unit)) :=
 if (decide (s13.2 < (p1.Cliques.length:Int)))=true then
  (lkI p1.Cliques s13.2).bind fun a16 =>
  if (a16==0)=true then
   some (.done (Sum.inl ()))
  else
  if 0≤(x1.1.length:Int) then
   if ((Int.fdiv a16 (2^min (Int.toNat (x1.1.length:Int)) (IntKind.bits .u64))) != 0)=true then
    some (.done (Sum.inl ()))
   else
   (lkI p1.Up s13.2).bind fun a22 =>
   if (s13.2==0)=true then
    if (a22 != (-1))=true then
     some (.done (Sum.inl ()))
    else
    some (.next (zv (zb s13.1 ||| zb a16).toNat,zw (s13.2+1)))
   else
   if (decide (a22 < 0))=true then
    some (.done (Sum.inl ()))
   else
   if (decide (a22≥s13.2))=true then
    some (.done (Sum.inl ()))
   else
   (lkI p1.Cliques a22).bind fun a32 =>
   if ((zv (zb (zv (zb a16 &&& zb s13.1).toNat) &&& ~~~ zb a32).toNat) != 0)=true then
    some (.done (Sum.inl ()))
   else
   some (.next (zv (zb s13.1 ||| zb a16).toNat,zw (s13.2+1)))
  else none
 else
 some (.done (Sum.inr ()))
def Ye (p1:Qc) (x1:((List Int) × Int)) (s39:Int):Option (Ql Int (Unit ⊕ Unit)) :=
 if (decide (s39 < (p1.Home.length:Int)))=true then
  (lkI p1.Home s39).bind fun a42 =>
  if (decide (a42 < 0))=true then
   some (.done (Sum.inl ()))
  else
  if (decide (a42≥(p1.Cliques.length:Int)))=true then
   some (.done (Sum.inl ()))
  else
  (lkI x1.1 s39).bind fun a48 =>
  (lkI p1.Cliques a42).bind fun a50 =>
  if ((zv (zb a48 &&& ~~~ zb a50).toNat) != 0)=true then
   some (.done (Sum.inl ()))
  else
  some (.next (zw (s39+1)))
 else
 some (.done (Sum.inr ()))
def Zx (p0:Qf) (p1:Qc):Option Int :=
 (Zr p0).bind fun x1 =>
 if (x1.2 != 0)=true then
  some x1.2
 else
 if (decide ((p1.Cliques.length:Int) < 1))=true then
  some 100
 else
 if (decide ((p1.Cliques.length:Int) > 8))=true then
  some 100
 else
 if ((p1.Up.length:Int) != (p1.Cliques.length:Int))=true then
  some 100
 else
 if ((p1.Home.length:Int) != (x1.1.length:Int))=true then
  some 100
 else
 (Qb fuel (Yg p1 x1) (0,0)).bind fun x36=>match x36 with
 | .inl x37=>(
  some 100)
 | .inr x38=>(
  (Qb fuel (Ye p1 x1) 0).bind fun x54=>match x54 with
  | .inl x55=>(
   some 100)
  | .inr x56=>(
   some 0))
def Kz (p0:Int):Option Int :=
 some (zw (BitVec.ofInt (IntKind.bits .i64) (zw (zv ((zv ((zv ((zv (zb (zv ((Int.fdiv (zv ((zv (zb (Int.fdiv (zv ((zv (zb (Int.fdiv p0 (2^min (Int.toNat 1) (IntKind.bits .u64))) &&& zb 6148914691236517205).toNat)+(zv (zb p0 &&& zb 6148914691236517205).toNat))) (2^min (Int.toNat 2) (IntKind.bits .u64))) &&& zb 3689348814741910323).toNat)+(zv (zb (zv ((zv (zb (Int.fdiv p0 (2^min (Int.toNat 1) (IntKind.bits .u64))) &&& zb 6148914691236517205).toNat)+(zv (zb p0 &&& zb 6148914691236517205).toNat))) &&& zb 3689348814741910323).toNat))) (2^min (Int.toNat 4) (IntKind.bits .u64)))+(zv ((zv (zb (Int.fdiv (zv ((zv (zb (Int.fdiv p0 (2^min (Int.toNat 1) (IntKind.bits .u64))) &&& zb 6148914691236517205).toNat)+(zv (zb p0 &&& zb 6148914691236517205).toNat))) (2^min (Int.toNat 2) (IntKind.bits .u64))) &&& zb 3689348814741910323).toNat)+(zv (zb (zv ((zv (zb (Int.fdiv p0 (2^min (Int.toNat 1) (IntKind.bits .u64))) &&& zb 6148914691236517205).toNat)+(zv (zb p0 &&& zb 6148914691236517205).toNat))) &&& zb 3689348814741910323).toNat))))) &&& zb 1085102592571150095).toNat)+(Int.fdiv (zv (zb (zv ((Int.fdiv (zv ((zv (zb (Int.fdiv (zv ((zv (zb (Int.fdiv p0 (2^min (Int.toNat 1) (IntKind.bits .u64))) &&& zb 6148914691236517205).toNat)+(zv (zb p0 &&& zb 6148914691236517205).toNat))) (2^min (Int.toNat 2) (IntKind.bits .u64))) &&& zb 3689348814741910323).toNat)+(zv (zb (zv ((zv (zb (Int.fdiv p0 (2^min (Int.toNat 1) (IntKind.bits .u64))) &&& zb 6148914691236517205).toNat)+(zv (zb p0 &&& zb 6148914691236517205).toNat))) &&& zb 3689348814741910323).toNat))) (2^min (Int.toNat 4) (IntKind.bits .u64)))+(zv ((zv (zb (Int.fdiv (zv ((zv (zb (Int.fdiv p0 (2^min (Int.toNat 1) (IntKind.bits .u64))) &&& zb 6148914691236517205).toNat)+(zv (zb p0 &&& zb 6148914691236517205).toNat))) (2^min (Int.toNat 2) (IntKind.bits .u64))) &&& zb 3689348814741910323).toNat)+(zv (zb (zv ((zv (zb (Int.fdiv p0 (2^min (Int.toNat 1) (IntKind.bits .u64))) &&& zb 6148914691236517205).toNat)+(zv (zb p0 &&& zb 6148914691236517205).toNat))) &&& zb 3689348814741910323).toNat))))) &&& zb 1085102592571150095).toNat) (2^min (Int.toNat 8) (IntKind.bits .u64)))))+(Int.fdiv (zv ((zv (zb (zv ((Int.fdiv (zv ((zv (zb (Int.fdiv (zv ((zv (zb (Int.fdiv p0 (2^min (Int.toNat 1) (IntKind.bits .u64))) &&& zb 6148914691236517205).toNat)+(zv (zb p0 &&& zb 6148914691236517205).toNat))) (2^min (Int.toNat 2) (IntKind.bits .u64))) &&& zb 3689348814741910323).toNat)+(zv (zb (zv ((zv (zb (Int.fdiv p0 (2^min (Int.toNat 1) (IntKind.bits .u64))) &&& zb 6148914691236517205).toNat)+(zv (zb p0 &&& zb 6148914691236517205).toNat))) &&& zb 3689348814741910323).toNat))) (2^min (Int.toNat 4) (IntKind.bits .u64)))+(zv ((zv (zb (Int.fdiv (zv ((zv (zb (Int.fdiv p0 (2^min (Int.toNat 1) (IntKind.bits .u64))) &&& zb 6148914691236517205).toNat)+(zv (zb p0 &&& zb 6148914691236517205).toNat))) (2^min (Int.toNat 2) (IntKind.bits .u64))) &&& zb 3689348814741910323).toNat)+(zv (zb (zv ((zv (zb (Int.fdiv p0 (2^min (Int.toNat 1) (IntKind.bits .u64))) &&& zb 6148914691236517205).toNat)+(zv (zb p0 &&& zb 6148914691236517205).toNat))) &&& zb 3689348814741910323).toNat))))) &&& zb 1085102592571150095).toNat)+(Int.fdiv (zv (zb (zv ((Int.fdiv (zv ((zv (zb (Int.fdiv (zv ((zv (zb (Int.fdiv p0 (2^min (Int.toNat 1) (IntKind.bits .u64))) &&& zb 6148914691236517205).toNat)+(zv (zb p0 &&& zb 6148914691236517205).toNat))) (2^min (Int.toNat 2) (IntKind.bits .u64))) &&& zb 3689348814741910323).toNat)+(zv (zb (zv ((zv (zb (Int.fdiv p0 (2^min (Int.toNat 1) (IntKind.bits .u64))) &&& zb 6148914691236517205).toNat)+(zv (zb p0 &&& zb 6148914691236517205).toNat))) &&& zb 3689348814741910323).toNat))) (2^min (Int.toNat 4) (IntKind.bits .u64)))+(zv ((zv (zb (Int.fdiv (zv ((zv (zb (Int.fdiv p0 (2^min (Int.toNat 1) (IntKind.bits .u64))) &&& zb 6148914691236517205).toNat)+(zv (zb p0 &&& zb 6148914691236517205).toNat))) (2^min (Int.toNat 2) (IntKind.bits .u64))) &&& zb 3689348814741910323).toNat)+(zv (zb (zv ((zv (zb (Int.fdiv p0 (2^min (Int.toNat 1) (IntKind.bits .u64))) &&& zb 6148914691236517205).toNat)+(zv (zb p0 &&& zb 6148914691236517205).toNat))) &&& zb 3689348814741910323).toNat))))) &&& zb 1085102592571150095).toNat) (2^min (Int.toNat 8) (IntKind.bits .u64))))) (2^min (Int.toNat 16) (IntKind.bits .u64)))))+(Int.fdiv (zv ((zv ((zv (zb (zv ((Int.fdiv (zv ((zv (zb (Int.fdiv (zv ((zv (zb (Int.fdiv p0 (2^min (Int.toNat 1) (IntKind.bits .u64))) &&& zb 6148914691236517205).toNat)+(zv (zb p0 &&& zb 6148914691236517205).toNat))) (2^min (Int.toNat 2) (IntKind.bits .u64))) &&& zb 3689348814741910323).toNat)+(zv (zb (zv ((zv (zb (Int.fdiv p0 (2^min (Int.toNat 1) (IntKind.bits .u64))) &&& zb 6148914691236517205).toNat)+(zv (zb p0 &&& zb 6148914691236517205).toNat))) &&& zb 3689348814741910323).toNat))) (2^min (Int.toNat 4) (IntKind.bits .u64)))+(zv ((zv (zb (Int.fdiv (zv ((zv (zb (Int.fdiv p0 (2^min (Int.toNat 1) (IntKind.bits .u64))) &&& zb 6148914691236517205).toNat)+(zv (zb p0 &&& zb 6148914691236517205).toNat))) (2^min (Int.toNat 2) (IntKind.bits .u64))) &&& zb 3689348814741910323).toNat)+(zv (zb (zv ((zv (zb (Int.fdiv p0 (2^min (Int.toNat 1) (IntKind.bits .u64))) &&& zb 6148914691236517205).toNat)+(zv (zb p0 &&& zb 6148914691236517205).toNat))) &&& zb 3689348814741910323).toNat))))) &&& zb 1085102592571150095).toNat)+(Int.fdiv (zv (zb (zv ((Int.fdiv (zv ((zv (zb (Int.fdiv (zv ((zv (zb (Int.fdiv p0 (2^min (Int.toNat 1) (IntKind.bits .u64))) &&& zb 6148914691236517205).toNat)+(zv (zb p0 &&& zb 6148914691236517205).toNat))) (2^min (Int.toNat 2) (IntKind.bits .u64))) &&& zb 3689348814741910323).toNat)+(zv (zb (zv ((zv (zb (Int.fdiv p0 (2^min (Int.toNat 1) (IntKind.bits .u64))) &&& zb 6148914691236517205).toNat)+(zv (zb p0 &&& zb 6148914691236517205).toNat))) &&& zb 3689348814741910323).toNat))) (2^min (Int.toNat 4) (IntKind.bits .u64)))+(zv ((zv (zb (Int.fdiv (zv ((zv (zb (Int.fdiv p0 (2^min (Int.toNat 1) (IntKind.bits .u64))) &&& zb 6148914691236517205).toNat)+(zv (zb p0 &&& zb 6148914691236517205).toNat))) (2^min (Int.toNat 2) (IntKind.bits .u64))) &&& zb 3689348814741910323).toNat)+(zv (zb (zv ((zv (zb (Int.fdiv p0 (2^min (Int.toNat 1) (IntKind.bits .u64))) &&& zb 6148914691236517205).toNat)+(zv (zb p0 &&& zb 6148914691236517205).toNat))) &&& zb 3689348814741910323).toNat))))) &&& zb 1085102592571150095).toNat) (2^min (Int.toNat 8) (IntKind.bits .u64)))))+(Int.fdiv (zv ((zv (zb (zv ((Int.fdiv (zv ((zv (zb (Int.fdiv (zv ((zv (zb (Int.fdiv p0 (2^min (Int.toNat 1) (IntKind.bits .u64))) &&& zb 6148914691236517205).toNat)+(zv (zb p0 &&& zb 6148914691236517205).toNat))) (2^min (Int.toNat 2) (IntKind.bits .u64))) &&& zb 3689348814741910323).toNat)+(zv (zb (zv ((zv (zb (Int.fdiv p0 (2^min (Int.toNat 1) (IntKind.bits .u64))) &&& zb 6148914691236517205).toNat)+(zv (zb p0 &&& zb 6148914691236517205).toNat))) &&& zb 3689348814741910323).toNat))) (2^min (Int.toNat 4) (IntKind.bits .u64)))+(zv ((zv (zb (Int.fdiv (zv ((zv (zb (Int.fdiv p0 (2^min (Int.toNat 1) (IntKind.bits .u64))) &&& zb 6148914691236517205).toNat)+(zv (zb p0 &&& zb 6148914691236517205).toNat))) (2^min (Int.toNat 2) (IntKind.bits .u64))) &&& zb 3689348814741910323).toNat)+(zv (zb (zv ((zv (zb (Int.fdiv p0 (2^min (Int.toNat 1) (IntKind.bits .u64))) &&& zb 6148914691236517205).toNat)+(zv (zb p0 &&& zb 6148914691236517205).toNat))) &&& zb 3689348814741910323).toNat))))) &&& zb 1085102592571150095).toNat)+(Int.fdiv (zv (zb (zv ((Int.fdiv (zv ((zv (zb (Int.fdiv (zv ((zv (zb (Int.fdiv p0 (2^min (Int.toNat 1) (IntKind.bits .u64))) &&& zb 6148914691236517205).toNat)+(zv (zb p0 &&& zb 6148914691236517205).toNat))) (2^min (Int.toNat 2) (IntKind.bits .u64))) &&& zb 3689348814741910323).toNat)+(zv (zb (zv ((zv (zb (Int.fdiv p0 (2^min (Int.toNat 1) (IntKind.bits .u64))) &&& zb 6148914691236517205).toNat)+(zv (zb p0 &&& zb 6148914691236517205).toNat))) &&& zb 3689348814741910323).toNat))) (2^min (Int.toNat 4) (IntKind.bits .u64)))+(zv ((zv (zb (Int.fdiv (zv ((zv (zb (Int.fdiv p0 (2^min (Int.toNat 1) (IntKind.bits .u64))) &&& zb 6148914691236517205).toNat)+(zv (zb p0 &&& zb 6148914691236517205).toNat))) (2^min (Int.toNat 2) (IntKind.bits .u64))) &&& zb 3689348814741910323).toNat)+(zv (zb (zv ((zv (zb (Int.fdiv p0 (2^min (Int.toNat 1) (IntKind.bits .u64))) &&& zb 6148914691236517205).toNat)+(zv (zb p0 &&& zb 6148914691236517205).toNat))) &&& zb 3689348814741910323).toNat))))) &&& zb 1085102592571150095).toNat) (2^min (Int.toNat 8) (IntKind.bits .u64))))) (2^min (Int.toNat 16) (IntKind.bits .u64))))) (2^min (Int.toNat 32) (IntKind.bits .u64)))))) &&& BitVec.ofInt (IntKind.bits .i64) 127).toNat)
def Ze (p0:Int):Option Int :=
 (Kz p0).bind fun x1 =>
 some x1
def Qla (p1:Qc) (s5:(Int × Int)):Option (Ql (Int × Int) Int) :=
 if (decide (s5.2 < (p1.Cliques.length:Int)))=true then
  (lkI p1.Cliques s5.2).bind fun a8 =>
  (Ze a8).bind fun x10 =>
  some (.next ((if x10 > s5.1 then x10 else s5.1),zw (s5.2+1)))
 else
 some (.done s5.1)
def Qik (p0:Qf) (p1:Qc):Option (Int × Int) :=
 (Zx p0 p1).bind fun x1 =>
 if (x1 != 0)=true then
  some (0,x1)
 else
 (Qb fuel (Qla p1) (0,0)).bind fun x13 =>
 some (zw (x13 - 1),0)
def Vu (p0:Qf) (p1:Qc) (p2:Int):Option (Int × Int) :=
 (Zx p0 p1).bind fun x1 =>
 if (x1 != 0)=true then
  some (0,x1)
 else
 if (decide (p2 < 1))=true then
  some (0,2)
 else
 if (decide (p2≥(p1.Cliques.length:Int)))=true then
  some (0,2)
 else
 (lkI p1.Cliques p2).bind fun a9 =>
 (lkI p1.Up p2).bind fun a11 =>
 (lkI p1.Cliques a11).bind fun a13 =>
 some (zv (zb a9 &&& zb a13).toNat,0)
def Xs (s1:(Int × (List Int))) (a4:Int) (s6:(Int × (List Int))):Option (Ql (Int × (List Int)) (List Int)) :=
 if (decide (s6.1 < (s1.2.length:Int)))=true then
  if 0≤s6.1 then
   if ((zv (zb (Int.fdiv (zv (zb a4 ||| zb (zv (1*2^min (Int.toNat s1.1) (IntKind.bits .u64)))).toNat) (2^min (Int.toNat s6.1) (IntKind.bits .u64))) &&& zb 1).toNat)==1)=true then
    (lkI s6.2 s6.1).bind fun a11 =>
    if 0≤s6.1 then
     some (.next (zw (s6.1+1),(List.set s6.2 (Int.toNat s6.1) (zv (zb a11 ||| zb (zv (zb (zv (zb a4 ||| zb (zv (1*2^min (Int.toNat s1.1) (IntKind.bits .u64)))).toNat) &&& ~~~ zb (zv (1*2^min (Int.toNat s6.1) (IntKind.bits .u64)))).toNat)).toNat))))
    else none
   else
   some (.next (zw (s6.1+1),s6.2))
  else none
 else
 some (.done s6.2)
def Y0 (p0:Qu) (s1:(Int × (List Int))):Option (Ql (Int × (List Int)) (List Int)) :=
 if (decide (s1.1 < (p0.sets.length:Int)))=true then
  (lkI p0.sets s1.1).bind fun a4 =>
  if 0≤s1.1 then
   (Qb fuel (Xs s1 a4) (0,s1.2)).bind fun x15 =>
   some (.next (zw (s1.1+1),x15))
  else none
 else
 some (.done s1.2)
def Vw (p0:Qu):Option (List Int) :=
 if 0≤(p0.sets.length:Int)∧(p0.sets.length:Int)≤(p0.sets.length:Int)∧(p0.sets.length:Int)*8≤140737488355328 then
  (Qb fuel (Y0 p0) (0,(List.replicate (Int.toNat (p0.sets.length:Int)) (0:Int)))).bind fun x17 =>
  some x17
 else none
def J4 (p0:Qf):Option ((List Int) × Int) :=
 (Jp p0).bind fun x1 =>
 if (x1.2 != 0)=true then
  some (([]:(List Int)),x1.2)
 else
 (Vw x1.1).bind fun x5 =>
 some (x5,0)
def Vf (c0:Int) (d0:(List Int)):Option (List Int) :=
 if (c0::d0).length*8≤140737488355328 then
  some (c0::d0)
 else none
def Vd  : Option (List Int) :=
 some ([]:(List Int))
def Vh  : Option (List Int) :=
 some ([]:(List Int))
def Q7 (p0:(List Int)):Option (List Int) :=
 match p0 with
 | []=>(Vh).bind fun x=>(Vd).bind fun y=>if x=y then some x else none
 | c0::d0=>Vf c0 d0
def Zg (s3:(Int × Int × (List Int) × (List Int))) (a8:Int) (a6:Int) (s10:Int):Option (Ql Int (Unit ⊕ Unit)) :=
 if (decide (s10 < (s3.2.2.1.length:Int)))=true then
  (lkI s3.2.2.1 s10).bind fun a13 =>
  if ((zv (zb (zv (zb (zv (zb a8 &&& zb s3.1).toNat) ||| zb (zv (1*2^min (Int.toNat a6) (IntKind.bits .u64)))).toNat) &&& ~~~ zb a13).toNat)==0)=true then
   some (.done (Sum.inl ()))
  else
  some (.next (zw (s10+1)))
 else
 some (.done (Sum.inr ()))
def Zv (s3:(Int × Int × (List Int) × (List Int))) (a8:Int) (a6:Int) (s19:(Int × (List Int))):Option (Ql (Int × (List Int)) (List Int)) :=
 if (decide (s19.1 < (s3.2.2.2.length:Int)))=true then
  if 0≤s19.1 then
   if ((zv (zb (Int.fdiv (zv (zb (zv (zb a8 &&& zb s3.1).toNat) ||| zb (zv (1*2^min (Int.toNat a6) (IntKind.bits .u64)))).toNat) (2^min (Int.toNat s19.1) (IntKind.bits .u64))) &&& zb 1).toNat)==1)=true then
    (lkI s19.2 s19.1).bind fun a24 =>
    if 0≤s19.1 then
     some (.next (zw (s19.1+1),(List.set s19.2 (Int.toNat s19.1) (zv (zb a24 ||| zb (zv (zb (zv (zb (zv (zb a8 &&& zb s3.1).toNat) ||| zb (zv (1*2^min (Int.toNat a6) (IntKind.bits .u64)))).toNat) &&& ~~~ zb (zv (1*2^min (Int.toNat s19.1) (IntKind.bits .u64)))).toNat)).toNat))))
    else none
   else
   some (.next (zw (s19.1+1),s19.2))
  else none
 else
 some (.done s19.2)
def Ky (s3:(Int × Int × (List Int) × (List Int))) (a8:Int) (a6:Int) (s30:(Int × (List Int))):Option (Ql (Int × (List Int)) (List Int)) :=
 if (decide (s30.1 < (s3.2.2.2.length:Int)))=true then
  if 0≤s30.1 then
   if ((zv (zb (Int.fdiv (zv (zb (zv (zb a8 &&& zb s3.1).toNat) ||| zb (zv (1*2^min (Int.toNat a6) (IntKind.bits .u64)))).toNat) (2^min (Int.toNat s30.1) (IntKind.bits .u64))) &&& zb 1).toNat)==1)=true then
    (lkI s30.2 s30.1).bind fun a35 =>
    if 0≤s30.1 then
     some (.next (zw (s30.1+1),(List.set s30.2 (Int.toNat s30.1) (zv (zb a35 ||| zb (zv (zb (zv (zb (zv (zb a8 &&& zb s3.1).toNat) ||| zb (zv (1*2^min (Int.toNat a6) (IntKind.bits .u64)))).toNat) &&& ~~~ zb (zv (1*2^min (Int.toNat s30.1) (IntKind.bits .u64)))).toNat)).toNat))))
    else none
   else
   some (.next (zw (s30.1+1),s30.2))
  else none
 else
 some (.done s30.2)
def Xp (p0:Ttree_maker) (s3:(Int × Int × (List Int) × (List Int))):Option (Ql (Int × Int × (List Int) × (List Int)) (List Int)) :=
 if (decide (s3.2.1 < (p0.order.length:Int)))=true then
  (lkI p0.order s3.2.1).bind fun a6 =>
  (lkI s3.2.2.2 a6).bind fun a8 =>
  if 0≤a6 then
   (Qb fuel (Zg s3 a8 a6) 0).bind fun x17=>match x17 with
   | .inl x18=>(
    if 0≤a6 then
     (Qb fuel (Zv s3 a8 a6) (0,s3.2.2.2)).bind fun x28 =>
     some (.next (zv (zb s3.1 &&& ~~~ zb (zv (1*2^min (Int.toNat a6) (IntKind.bits .u64)))).toNat,zw (s3.2.1+1),s3.2.2.1,x28))
    else none)
   | .inr x29=>(
    if (s3.2.2.1++([zv (zb (zv (zb a8 &&& zb s3.1).toNat) ||| zb (zv (1*2^min (Int.toNat a6) (IntKind.bits .u64)))).toNat]:(List Int))).length*8≤140737488355328 then
     if 0≤a6 then
      (Qb fuel (Ky s3 a8 a6) (0,s3.2.2.2)).bind fun x39 =>
      some (.next (zv (zb s3.1 &&& ~~~ zb (zv (1*2^min (Int.toNat a6) (IntKind.bits .u64)))).toNat,zw (s3.2.1+1),(s3.2.2.1++([zv (zb (zv (zb a8 &&& zb s3.1).toNat) ||| zb (zv (1*2^min (Int.toNat a6) (IntKind.bits .u64)))).toNat]:(List Int))),x39))
     else none
    else none)
  else none
 else
 some (.done s3.2.2.1)
def Vj (p0:Ttree_maker):Option (List Int) :=
 (Q7 p0.graph.near).bind fun x1 =>
 (Qb fuel (Xp p0) (18446744073709551615,0,([]:(List Int)),x1)).bind fun x41 =>
 some x41
def Kt (p0:(List Int)) (p1:Int) (s1:(Int × Int)):Option (Ql (Int × Int) Int) :=
 if (decide (s1.2 < (p0.length:Int)))=true then
  (lkI p0 s1.2).bind fun a4 =>
  (Ze (zv (zb a4 &&& zb p1).toNat)).bind fun x6 =>
  some (.next ((if x6 > s1.1 then x6 else s1.1),zw (s1.2+1)))
 else
 some (.done s1.1)
def Qce (p0:(List Int)) (p1:Int):Option Int :=
 (Qb fuel (Kt p0 p1) (0,0)).bind fun x9 =>
 some x9
def Ym (p0:(List Int)) (c0:Int) (s1:Int):Option (Ql Int (Int ⊕ Unit)) :=
 if (decide (s1 < (p0.length:Int)))=true then
  (lkI p0 s1).bind fun a4 =>
  if ((zv (zb c0 &&& ~~~ zb a4).toNat)==0)=true then
   some (.done (Sum.inl s1))
  else
  some (.next (zw (s1+1)))
 else
 some (.done (Sum.inr ()))
def Vo (p0:(List Int)) (c0:Int):Option Int :=
 (Qb fuel (Ym p0 c0) 0).bind fun x8=>match x8 with
 | .inl x9=>(
  some x9)
 | .inr x10=>(
  some (-1))
def V7 (s11:((List Int) × (List Int) × (List Int))) (s18:(Int × Int × Int)):Option (Ql (Int × Int × Int) (Int × Int)) :=
 if (decide (s18.2.1 < (s11.1.length:Int)))=true then
  (lkI s11.1 s18.2.1).bind fun a21 =>
  (Qce s11.2.1 a21).bind fun x23 =>
  if (decide (x23≥s18.2.2))=true then
   some (.next (s18.2.1,zw (s18.2.1+1),x23))
  else
  some (.next (s18.1,zw (s18.2.1+1),s18.2.2))
 else
 some (.done (s18.1,s18.2.2))
def V5 (s11:((List Int) × (List Int) × (List Int))) (a29:Int) (x28:(Int × Int)) (s31:Int):Option (Ql Int (Int ⊕ Unit)) :=
 if (decide (s31 < (s11.2.1.length:Int)))=true then
  (lkI s11.2.1 s31).bind fun a34 =>
  (Ze (zv (zb a34 &&& zb a29).toNat)).bind fun x36 =>
  if (x36==x28.2)=true then
   some (.done (Sum.inl s31))
  else
  some (.next (zw (s31+1)))
 else
 some (.done (Sum.inr ()))
def Vb  (s11:((List Int) × (List Int) × (List Int))):Option (Ql ((List Int) × (List Int) × (List Int)) ((List Int) × (List Int))) :=
 if (decide ((s11.1.length:Int) > 0))=true then
  (Qb fuel (V7 s11) (0,0,-1)).bind fun x28 =>
  (lkI s11.1 x28.1).bind fun a29 =>
  (Qb fuel (V5 s11 a29 x28) 0).bind fun x40=>match x40 with
  | .inl x41=>(
   if (s11.2.1++([a29]:(List Int))).length*8≤140737488355328 then
    if (s11.2.2++([x41]:(List Int))).length*8≤140737488355328 then
     if 0≤x28.1∧x28.1≤(zw (x28.1+1))∧(zw (x28.1+1))≤(s11.1.length:Int)∧(s11.1.length:Int)≤(s11.1.length:Int) then
      if (x28.1==(zw (x28.1+1)))=true then
       some (.next (s11.1,(s11.2.1++([a29]:(List Int))),(s11.2.2++([x41]:(List Int)))))
      else
      if 0≤(0:Int)∧(0:Int)≤x28.1∧x28.1≤(s11.1.length:Int) then
       if 0≤(zw (x28.1+1))∧(zw (x28.1+1))≤(s11.1.length:Int)∧(s11.1.length:Int)≤(s11.1.length:Int) then
        if (Int.toNat x28.1 - Int.toNat (0:Int)) < s11.1.length∧((Int.toNat x28.1 - Int.toNat (0:Int))+(sub s11.1 (zw (x28.1+1)) (s11.1.length:Int)).length)≤s11.1.length then
         if 0≤((((Int.toNat x28.1 - Int.toNat (0:Int))+(sub s11.1 (zw (x28.1+1)) (s11.1.length:Int)).length):Nat):Int)∧((((Int.toNat x28.1 - Int.toNat (0:Int))+(sub s11.1 (zw (x28.1+1)) (s11.1.length:Int)).length):Nat):Int)≤(s11.1.length:Int)∧(s11.1.length:Int)≤((ovr s11.1 (Int.toNat x28.1 - Int.toNat (0:Int)) (sub s11.1 (zw (x28.1+1)) (s11.1.length:Int))).length:Int) then
          if (Int.toNat ((((Int.toNat x28.1 - Int.toNat (0:Int))+(sub s11.1 (zw (x28.1+1)) (s11.1.length:Int)).length):Nat):Int))+(Int.toNat (s11.1.length:Int) - Int.toNat ((((Int.toNat x28.1 - Int.toNat (0:Int))+(sub s11.1 (zw (x28.1+1)) (s11.1.length:Int)).length):Nat):Int))≤(ovr s11.1 (Int.toNat x28.1 - Int.toNat (0:Int)) (sub s11.1 (zw (x28.1+1)) (s11.1.length:Int))).length then
           some (.next ((List.take ((Int.toNat x28.1 - Int.toNat (0:Int))+(sub s11.1 (zw (x28.1+1)) (s11.1.length:Int)).length) (ovr (ovr s11.1 (Int.toNat x28.1 - Int.toNat (0:Int)) (sub s11.1 (zw (x28.1+1)) (s11.1.length:Int))) (Int.toNat ((((Int.toNat x28.1 - Int.toNat (0:Int))+(sub s11.1 (zw (x28.1+1)) (s11.1.length:Int)).length):Nat):Int)) (List.replicate (Int.toNat (s11.1.length:Int) - Int.toNat ((((Int.toNat x28.1 - Int.toNat (0:Int))+(sub s11.1 (zw (x28.1+1)) (s11.1.length:Int)).length):Nat):Int)) 0))),(s11.2.1++([a29]:(List Int))),(s11.2.2++([x41]:(List Int)))))
          else none
         else none
        else none
       else none
      else none
     else none
    else none
   else none)
  | .inr x51=>(
   if (s11.2.1++([a29]:(List Int))).length*8≤140737488355328 then
    if (s11.2.2++([-1]:(List Int))).length*8≤140737488355328 then
     if 0≤x28.1∧x28.1≤(zw (x28.1+1))∧(zw (x28.1+1))≤(s11.1.length:Int)∧(s11.1.length:Int)≤(s11.1.length:Int) then
      if (x28.1==(zw (x28.1+1)))=true then
       some (.next (s11.1,(s11.2.1++([a29]:(List Int))),(s11.2.2++([-1]:(List Int)))))
      else
      if 0≤(0:Int)∧(0:Int)≤x28.1∧x28.1≤(s11.1.length:Int) then
       if 0≤(zw (x28.1+1))∧(zw (x28.1+1))≤(s11.1.length:Int)∧(s11.1.length:Int)≤(s11.1.length:Int) then
        if (Int.toNat x28.1 - Int.toNat (0:Int)) < s11.1.length∧((Int.toNat x28.1 - Int.toNat (0:Int))+(sub s11.1 (zw (x28.1+1)) (s11.1.length:Int)).length)≤s11.1.length then
         if 0≤((((Int.toNat x28.1 - Int.toNat (0:Int))+(sub s11.1 (zw (x28.1+1)) (s11.1.length:Int)).length):Nat):Int)∧((((Int.toNat x28.1 - Int.toNat (0:Int))+(sub s11.1 (zw (x28.1+1)) (s11.1.length:Int)).length):Nat):Int)≤(s11.1.length:Int)∧(s11.1.length:Int)≤((ovr s11.1 (Int.toNat x28.1 - Int.toNat (0:Int)) (sub s11.1 (zw (x28.1+1)) (s11.1.length:Int))).length:Int) then
          if (Int.toNat ((((Int.toNat x28.1 - Int.toNat (0:Int))+(sub s11.1 (zw (x28.1+1)) (s11.1.length:Int)).length):Nat):Int))+(Int.toNat (s11.1.length:Int) - Int.toNat ((((Int.toNat x28.1 - Int.toNat (0:Int))+(sub s11.1 (zw (x28.1+1)) (s11.1.length:Int)).length):Nat):Int))≤(ovr s11.1 (Int.toNat x28.1 - Int.toNat (0:Int)) (sub s11.1 (zw (x28.1+1)) (s11.1.length:Int))).length then
           some (.next ((List.take ((Int.toNat x28.1 - Int.toNat (0:Int))+(sub s11.1 (zw (x28.1+1)) (s11.1.length:Int)).length) (ovr (ovr s11.1 (Int.toNat x28.1 - Int.toNat (0:Int)) (sub s11.1 (zw (x28.1+1)) (s11.1.length:Int))) (Int.toNat ((((Int.toNat x28.1 - Int.toNat (0:Int))+(sub s11.1 (zw (x28.1+1)) (s11.1.length:Int)).length):Nat):Int)) (List.replicate (Int.toNat (s11.1.length:Int) - Int.toNat ((((Int.toNat x28.1 - Int.toNat (0:Int))+(sub s11.1 (zw (x28.1+1)) (s11.1.length:Int)).length):Nat):Int)) 0))),(s11.2.1++([a29]:(List Int))),(s11.2.2++([-1]:(List Int)))))
          else none
         else none
        else none
       else none
      else none
     else none
    else none
   else none)
 else
 some (.done (s11.2.1,s11.2.2))
def Ka (p1:(List Int)) (x62:((List Int) × (List Int))) (s63:(Int × (List Int))):Option (Ql (Int × (List Int)) (List Int)) :=
 if (decide (s63.1 < (p1.length:Int)))=true then
  (lkI p1 s63.1).bind fun a66 =>
  (Vo x62.1 a66).bind fun x68 =>
  if (s63.2++([x68]:(List Int))).length*8≤140737488355328 then
   some (.next (zw (s63.1+1),(s63.2++([x68]:(List Int)))))
  else none
 else
 some (.done s63.2)
def Kh (p0:Qf) (p1:(List Int)) (p2:(List Int)):Option (Qc × Int) :=
 (J4 p0).bind fun x1 =>
 if (x1.2 != 0)=true then
  some ((Qc.mk ([]:(List Int)) ([]:(List Int)) ([]:(List Int))),x1.2)
 else
 (Vj (Ttree_maker.mk (Ttree_graph.mk x1.1) p2)).bind fun x5 =>
 (lkI x5 (zw ((x5.length:Int) - 1))).bind fun a7 =>
 if 0≤(0:Int)∧(0:Int)≤(zw ((x5.length:Int) - 1))∧(zw ((x5.length:Int) - 1))≤(x5.length:Int) then
  (Qb fuel (Vb) ((List.take (Int.toNat (zw ((x5.length:Int) - 1))) x5),([a7]:(List Int)),([-1]:(List Int)))).bind fun x62 =>
  (Qb fuel (Ka p1 x62) (0,([]:(List Int)))).bind fun x71 =>
  some ((Qc.mk x62.1 x62.2 x71),0)
 else none
def Yw (p1:(List Int)) (x1:((List Int) × Int)) (s7:(Int × Int)):Option (Ql (Int × Int) (Unit ⊕ Unit)) :=
 if (decide (s7.2 < (p1.length:Int)))=true then
  (lkI p1 s7.2).bind fun a10 =>
  if (decide (a10 < 0))=true then
   some (.done (Sum.inl ()))
  else
  if (decide (a10≥(x1.1.length:Int)))=true then
   some (.done (Sum.inl ()))
  else
  if 0≤a10 then
   if ((zv (zb (Int.fdiv s7.1 (2^min (Int.toNat a10) (IntKind.bits .u64))) &&& zb 1).toNat)==1)=true then
    some (.done (Sum.inl ()))
   else
   if 0≤a10 then
    some (.next (zv (zb s7.1 ||| zb (zv (1*2^min (Int.toNat a10) (IntKind.bits .u64)))).toNat,zw (s7.2+1)))
   else none
  else none
 else
 some (.done (Sum.inr ()))
def Vp (p0:Qf) (p1:(List Int)):Option (Qc × Int) :=
 (Zr p0).bind fun x1 =>
 if (x1.2 != 0)=true then
  some ((Qc.mk ([]:(List Int)) ([]:(List Int)) ([]:(List Int))),x1.2)
 else
 if ((p1.length:Int) != (x1.1.length:Int))=true then
  some ((Qc.mk ([]:(List Int)) ([]:(List Int)) ([]:(List Int))),2)
 else
 (Qb fuel (Yw p1 x1) (0,0)).bind fun x18=>match x18 with
 | .inl x19=>(
  some ((Qc.mk ([]:(List Int)) ([]:(List Int)) ([]:(List Int))),2))
 | .inr x20=>(
  (Kh p0 x1.1 p1).bind fun x21 =>
  some (x21.1,x21.2))
def Qk3 (p0:(List Int)) (p1:(List Int)) (s3:Int):Option (Ql Int (Unit ⊕ Unit)) :=
 if (decide (s3 < (p0.length:Int)))=true then
  (lkI p0 s3).bind fun a6 =>
  (lkI p1 s3).bind fun a8 =>
  if (a6 != a8)=true then
   some (.done (Sum.inl ()))
  else
  some (.next (zw (s3+1)))
 else
 some (.done (Sum.inr ()))
def Qhy (p0:(List Int)) (p1:(List Int)):Option Bool :=
 if ((p0.length:Int) != (p1.length:Int))=true then
  some false
 else
 (Qb fuel (Qk3 p0 p1) 0).bind fun x12=>match x12 with
 | .inl x13=>(
  some false)
 | .inr x14=>(
  some true)
def Qlt (p0:(List Int)) (p1:(List Int)) (s3:Int):Option (Ql Int (Unit ⊕ Unit)) :=
 if (decide (s3 < (p0.length:Int)))=true then
  (lkI p0 s3).bind fun a6 =>
  (lkI p1 s3).bind fun a8 =>
  if (a6 != a8)=true then
   some (.done (Sum.inl ()))
  else
  some (.next (zw (s3+1)))
 else
 some (.done (Sum.inr ()))
def Qd4 (p0:(List Int)) (p1:(List Int)):Option Bool :=
 if ((p0.length:Int) != (p1.length:Int))=true then
  some false
 else
 (Qb fuel (Qlt p0 p1) 0).bind fun x12=>match x12 with
 | .inl x13=>(
  some false)
 | .inr x14=>(
  some true)
def Qd2 (p0:Qc) (p1:Qc):Option Bool :=
 (Qhy p0.Cliques p1.Cliques).bind fun x1 =>
 if x1=true then
  (Qd4 p0.Up p1.Up).bind fun x5 =>
  if x5=true then
   (Qd4 p0.Home p1.Home).bind fun x9 =>
   some x9
  else
  some false
 else
 some false
def Qks (p0:(List Int)) (s5:Int) (a8:Int) (s14:Int):Option (Ql Int (Unit ⊕ Unit)) :=
 if (decide (s14 < (p0.length:Int)))=true then
  if 0≤s14 then
   (lkI p0 s14).bind fun a17 =>
   if 0≤s5 then
    if ((zv (zb (Int.fdiv a8 (2^min (Int.toNat s14) (IntKind.bits .u64))) &&& zb 1).toNat) != (zv (zb (Int.fdiv a17 (2^min (Int.toNat s5) (IntKind.bits .u64))) &&& zb 1).toNat))=true then
     some (.done (Sum.inl ()))
    else
    some (.next (zw (s14+1)))
   else none
  else none
 else
 some (.done (Sum.inr ()))
def Qkt (p0:(List Int)) (s5:Int):Option (Ql Int (Unit ⊕ Unit)) :=
 if (decide (s5 < (p0.length:Int)))=true then
  (lkI p0 s5).bind fun a8 =>
  if 0≤(p0.length:Int) then
   if ((Int.fdiv a8 (2^min (Int.toNat (p0.length:Int)) (IntKind.bits .u64))) != 0)=true then
    some (.done (Sum.inl ()))
   else
   if 0≤s5 then
    if ((zv (zb (Int.fdiv a8 (2^min (Int.toNat s5) (IntKind.bits .u64))) &&& zb 1).toNat)==1)=true then
     some (.done (Sum.inl ()))
    else
    (Qb fuel (Qks p0 s5 a8) 0).bind fun x21=>match x21 with
    | .inl x22=>(
     some (.done (Sum.inl ())))
    | .inr x23=>(
     some (.next (zw (s5+1))))
   else none
  else none
 else
 some (.done (Sum.inr ()))
def Qhr (p0:(List Int)):Option Int :=
 if (decide ((p0.length:Int) < 1))=true then
  some 80
 else
 if (decide ((p0.length:Int) > 10))=true then
  some 80
 else
 (Qb fuel (Qkt p0) 0).bind fun x24=>match x24 with
 | .inl x25=>(
  some 80)
 | .inr x26=>(
  some 0)
def Jn (p0:Int):Option Int :=
 if (p0==0)=true then
  some 64
 else
 (lkI tab1 (Int.fdiv (zv ((zv (zb p0 &&& zb (zv (0 - p0))).toNat)*285870213051353865)) (2^min (Int.toNat 58) (IntKind.bits .u64)))).bind fun a3 =>
 some (zw (a3))
def Z7 (p0:Int):Option Int :=
 (Jn p0).bind fun x1 =>
 some x1
def Qll (p2:Int) (p0:(List Int)) (s3:(Int × Int × Int)):Option (Ql (Int × Int × Int) Int) :=
 if (s3.2.2 != 0)=true then
  (Z7 s3.2.2).bind fun x6 =>
  if 0≤x6 then
   if 0≤x6 then
    if ((zv (zb (Int.fdiv p2 (2^min (Int.toNat x6) (IntKind.bits .u64))) &&& zb 1).toNat)==0)=true then
     if 0≤x6 then
      some (.next (zv (zb s3.1 ||| zb (zv (1*2^min (Int.toNat x6) (IntKind.bits .u64)))).toNat,zv (zb s3.2.1 ||| zb (zv (1*2^min (Int.toNat x6) (IntKind.bits .u64)))).toNat,zv (zb s3.2.2 &&& zb (zv (s3.2.2 - 1))).toNat))
     else none
    else
    (lkI p0 x6).bind fun a10 =>
    some (.next (zv (zb s3.1 ||| zb (zv (1*2^min (Int.toNat x6) (IntKind.bits .u64)))).toNat,s3.2.1,zv (zb (zv (zb s3.2.2 &&& zb (zv (s3.2.2 - 1))).toNat) ||| zb (zv (zb a10 &&& ~~~ zb (zv (zb s3.1 ||| zb (zv (1*2^min (Int.toNat x6) (IntKind.bits .u64)))).toNat)).toNat)).toNat))
   else none
  else none
 else
 some (.done s3.2.1)
def Qbo (p0:(List Int)) (p1:Int) (p2:Int):Option Int :=
 if 0≤p1 then
  (lkI p0 p1).bind fun a1 =>
  (Qb fuel (Qll p2 p0) (zv (1*2^min (Int.toNat p1) (IntKind.bits .u64)),0,a1)).bind fun x13 =>
  (Ze x13).bind fun x14 =>
  some x14
 else none
def Qky (p0:(List Int)) (s5:(Int × (List (Int × Int)))) (r6:((Int × (List (Int × Int)))→Option (Int × (List (Int × Int))))) (s10:(Int × (List (Int × Int)) × Int)):Option (Ql (Int × (List (Int × Int)) × Int) ((List (Int × Int)) × Int)) :=
 if (s10.1 != 0)=true then
  (Z7 s10.1).bind fun x13 =>
  (Qbo p0 x13 (zv (zb (zv ((zv (1*2^min (Int.toNat (p0.length:Int)) (IntKind.bits .u64))) - 1)) &&& ~~~ zb s5.1).toNat)).bind fun x15 =>
  if 0≤x13 then
   (r6 (zv (zb s5.1 &&& ~~~ zb (zv (1*2^min (Int.toNat x13) (IntKind.bits .u64)))).toNat,s10.2.1)).bind fun x17 =>
   some (.next (zv (zb s10.1 &&& zb (zv (s10.1 - 1))).toNat,x17.2,(if (if x17.1 > x15 then x17.1 else x15) < s10.2.2 then (if x17.1 > x15 then x17.1 else x15) else s10.2.2)))
  else none
 else
 some (.done (s10.2.1,s10.2.2))
def Qma (p0:(List Int)) (r6:((Int × (List (Int × Int)))→Option (Int × (List (Int × Int))))) (s5:(Int × (List (Int × Int)))):Option (Int × (List (Int × Int))) :=
 if (Yv s5.2 s5.1).isSome=true then
  some ((Yv s5.2 s5.1).getD 0,s5.2)
 else
 (Qb fuel (Qky p0 s5 r6) (s5.1,s5.2,(p0.length:Int))).bind fun x19 =>
 some (x19.2,mput x19.1 s5.1 x19.2)
def Qld (p0:(List Int)) (s34:(Int × (List (Int × Int)))) (r35:((Int × (List (Int × Int)))→Option (Int × (List (Int × Int))))) (s39:(Int × (List (Int × Int)) × Int)):Option (Ql (Int × (List (Int × Int)) × Int) ((List (Int × Int)) × Int)) :=
 if (s39.1 != 0)=true then
  (Z7 s39.1).bind fun x42 =>
  (Qbo p0 x42 (zv (zb (zv ((zv (1*2^min (Int.toNat (p0.length:Int)) (IntKind.bits .u64))) - 1)) &&& ~~~ zb s34.1).toNat)).bind fun x44 =>
  if 0≤x42 then
   (r35 (zv (zb s34.1 &&& ~~~ zb (zv (1*2^min (Int.toNat x42) (IntKind.bits .u64)))).toNat,s39.2.1)).bind fun x46 =>
   some (.next (zv (zb s39.1 &&& zb (zv (s39.1 - 1))).toNat,x46.2,(if (if x46.1 > x44 then x46.1 else x44) < s39.2.2 then (if x46.1 > x44 then x46.1 else x44) else s39.2.2)))
  else none
 else
 some (.done (s39.2.1,s39.2.2))
def Qk9 (p0:(List Int)) (r35:((Int × (List (Int × Int)))→Option (Int × (List (Int × Int))))) (s34:(Int × (List (Int × Int)))):Option (Int × (List (Int × Int))) :=
 if (Yv s34.2 s34.1).isSome=true then
  some ((Yv s34.2 s34.1).getD 0,s34.2)
 else
 (Qb fuel (Qld p0 s34 r35) (s34.1,s34.2,(p0.length:Int))).bind fun x48 =>
 some (x48.2,mput x48.1 s34.1 x48.2)
def Qlr (p0:(List Int)) (s22:(Int × (List Int) × (List (Int × Int)))) (x20:(Int × (List (Int × Int)))) (s25:(Int × (List (Int × Int)))):Option (Ql (Int × (List (Int × Int))) ((Int × (List (Int × Int)) × (List Int)) ⊕ (List (Int × Int)))) :=
 if (s25.1 != 0)=true then
  (Z7 s25.1).bind fun x28 =>
  (Qbo p0 x28 (zv (zb (zv ((zv (1*2^min (Int.toNat (p0.length:Int)) (IntKind.bits .u64))) - 1)) &&& ~~~ zb s22.1).toNat)).bind fun x30 =>
  if (decide (x30≤x20.1))=true then
   if 0≤x28 then
    (Qi6 (Qk9 p0) fuel (zv (zb s22.1 &&& ~~~ zb (zv (1*2^min (Int.toNat x28) (IntKind.bits .u64)))).toNat,s25.2)).bind fun x49 =>
    if (decide (x49.1≤x20.1))=true then
     if (s22.2.1++([x28]:(List Int))).length*8≤140737488355328 then
      if 0≤x28 then
       some (.done (Sum.inl (zv (zb s22.1 &&& ~~~ zb (zv (1*2^min (Int.toNat x28) (IntKind.bits .u64)))).toNat,x49.2,(s22.2.1++([x28]:(List Int))))))
      else none
     else none
    else
    some (.next (zv (zb s25.1 &&& zb (zv (s25.1 - 1))).toNat,x49.2))
   else none
  else
  some (.next (zv (zb s25.1 &&& zb (zv (s25.1 - 1))).toNat,s25.2))
 else
 some (.done (Sum.inr s25.2))
def Qlj (p0:(List Int)) (x20:(Int × (List (Int × Int)))) (s22:(Int × (List Int) × (List (Int × Int)))):Option (Ql (Int × (List Int) × (List (Int × Int))) (List Int)) :=
 if (s22.1 != 0)=true then
  (Qb fuel (Qlr p0 s22 x20) (s22.1,s22.2.2)).bind fun x53=>match x53 with
  | .inl x54=>(
   some (.next (x54.1,x54.2.2,x54.2.1)))
  | .inr x55=>(
   some (.done s22.2.1))
 else
 some (.done s22.2.1)
def Qix (p0:(List Int)):Option ((List Int) × Int × Int) :=
 (Qhr p0).bind fun x1 =>
 if (x1 != 0)=true then
  some (([]:(List Int)),0,x1)
 else
 if 0≤(p0.length:Int) then
  (Qi6 (Qma p0) fuel (zv ((zv (1*2^min (Int.toNat (p0.length:Int)) (IntKind.bits .u64))) - 1),mput [] (0:Int) (0:Int))).bind fun x20 =>
  (Qb fuel (Qlj p0 x20) (zv ((zv (1*2^min (Int.toNat (p0.length:Int)) (IntKind.bits .u64))) - 1),([]:(List Int)),x20.2)).bind fun x57 =>
  some (x57,x20.1,0)
 else none
def Qh3 (p0:Qf):Option (Qc × Int) :=
 (Zr p0).bind fun x1 =>
 if (x1.2 != 0)=true then
  some ((Qc.mk ([]:(List Int)) ([]:(List Int)) ([]:(List Int))),x1.2)
 else
 (J4 p0).bind fun x5 =>
 if (x5.2 != 0)=true then
  some ((Qc.mk ([]:(List Int)) ([]:(List Int)) ([]:(List Int))),x5.2)
 else
 (Qix x5.1).bind fun x9 =>
 if (x9.2.2 != 0)=true then
  some ((Qc.mk ([]:(List Int)) ([]:(List Int)) ([]:(List Int))),x9.2.2)
 else
 (Kh p0 x1.1 x9.1).bind fun x13 =>
 some (x13.1,x13.2)
def Qgb  : Option Qf :=
 some (Qf.mk 4 ([(Tapi_Node.mk 2 [] [[1,3]]),(Tapi_Node.mk 2 [0] [[4,0],[2,2]]),(Tapi_Node.mk 2 [1] [[1,3],[4,0]])]:(List Tapi_Node)))
def Kl  : Option Qc :=
 some (Qc.mk ([6,3]:(List Int)) ([-1,0]:(List Int)) ([1,1,0]:(List Int)))
def Qc1  : Option Bool :=
 (Qgb).bind fun x1 =>
 (Vp x1 [0,1,2]).bind fun x3 =>
 (Qik x1 x3.1).bind fun x5 =>
 (Vu x1 x3.1 1).bind fun x7 =>
 (Qh3 x1).bind fun x9 =>
 if (x3.2==0)=true then
  (Kl).bind fun x13 =>
  (Qd2 x3.1 x13).bind fun x15 =>
  if x15=true then
   if (x5.1==1)=true then
    if (x5.2==0)=true then
     if (x7.1==2)=true then
      if (x7.2==0)=true then
       if (x9.2==0)=true then
        (Kl).bind fun x29 =>
        (Qd2 x9.1 x29).bind fun x31 =>
        if x31=true then
         (Kl).bind fun x35 =>
         (Zx x1 x35).bind fun x37 =>
         if (x37==0)=true then
          (Zx x1 (Qc.mk [] [] [])).bind fun x41 =>
          some (x41==100)
         else
         some false
        else
        some false
       else
       some false
      else
      some false
     else
     some false
    else
    some false
   else
   some false
  else
  some false
 else
 some false
def Je (p0:Tharuspexref02_Draft) (s1:(Int × (List Int))):Option (Ql (Int × (List Int)) (List Int)) :=
 if (decide (s1.1 < (p0.C.length:Int)))=true then
  if (decide (s1.1 < 5))=true then
   (lkI p0.C s1.1).bind fun a6 =>
   if (s1.2++([zw (1+(zw (Int.tmod a6 4)))]:(List Int))).length*8≤140737488355328 then
    some (.next (zw (s1.1+1),(s1.2++([zw (1+(zw (Int.tmod a6 4)))]:(List Int)))))
   else none
  else
  some (.done s1.2)
 else
 some (.done s1.2)
def Vx (p0:Tharuspexref02_Draft):Option (List Int) :=
 (Qb fuel (Je p0) (0,([]:(List Int)))).bind fun x9 =>
 some x9
def Ys (p0:Tharuspexref02_Draft) (s1:(Int × (List Int))):Option (Ql (Int × (List Int)) (List Int)) :=
 (Vx p0).bind fun x2 =>
 if (decide (s1.1 < (x2.length:Int)))=true then
  if (decide (s1.1 < (p0.Order.length:Int)))=true then
   (lkI p0.Order s1.1).bind fun a8 =>
   if (zw (s1.1+1))≠0 then
    if 0≤(0:Int)∧(0:Int)≤(Int.tmod (zw (a8)) (zw (s1.1+1)))∧(Int.tmod (zw (a8)) (zw (s1.1+1)))≤(s1.2.length:Int) then
     if (sub s1.2 0 (Int.tmod (zw (a8)) (zw (s1.1+1)))).length*8≤140737488355328 then
      if ((sub s1.2 0 (Int.tmod (zw (a8)) (zw (s1.1+1))))++([s1.1]:(List Int))).length*8≤140737488355328 then
       if 0≤(Int.tmod (zw (a8)) (zw (s1.1+1)))∧(Int.tmod (zw (a8)) (zw (s1.1+1)))≤(s1.2.length:Int)∧(s1.2.length:Int)≤(s1.2.length:Int) then
        if (((sub s1.2 0 (Int.tmod (zw (a8)) (zw (s1.1+1))))++([s1.1]:(List Int)))++(sub s1.2 (Int.tmod (zw (a8)) (zw (s1.1+1))) (s1.2.length:Int))).length*8≤140737488355328 then
         some (.next (zw (s1.1+1),(((sub s1.2 0 (Int.tmod (zw (a8)) (zw (s1.1+1))))++([s1.1]:(List Int)))++(sub s1.2 (Int.tmod (zw (a8)) (zw (s1.1+1))) (s1.2.length:Int)))))
        else none
       else none
      else none
     else none
    else none
   else none
  else
  if 0≤(0:Int)∧(0:Int)≤(0:Int)∧(0:Int)≤(s1.2.length:Int) then
   if (sub s1.2 0 0).length*8≤140737488355328 then
    if ((sub s1.2 0 0)++([s1.1]:(List Int))).length*8≤140737488355328 then
     if 0≤(0:Int)∧(0:Int)≤(s1.2.length:Int)∧(s1.2.length:Int)≤(s1.2.length:Int) then
      if (((sub s1.2 0 0)++([s1.1]:(List Int)))++(sub s1.2 0 (s1.2.length:Int))).length*8≤140737488355328 then
       some (.next (zw (s1.1+1),(((sub s1.2 0 0)++([s1.1]:(List Int)))++(sub s1.2 0 (s1.2.length:Int)))))
      else none
     else none
    else none
   else none
  else none
 else
 some (.done s1.2)
def X9 (p0:Tharuspexref02_Draft):Option (List Int) :=
 (Qb fuel (Ys p0) (0,([]:(List Int)))).bind fun x15 =>
 some x15
def Qbf (p0:(List Int)) (s1:(Int × Int)):Option (Ql (Int × Int) Int) :=
 if (decide (s1.2 < (p0.length:Int)))=true then
  (lkI p0 s1.2).bind fun a4 =>
  some (.next (zw (s1.1*a4),zw (s1.2+1)))
 else
 some (.done s1.1)
def Kf (p0:(List Int)):Option Int :=
 (Qb fuel (Qbf p0) (1,0)).bind fun x7 =>
 some x7
def Qc4 (p1:(List Int)) (p0:(List Int)) (s1:(Int × (List Int))):Option (Ql (Int × (List Int)) (List Int)) :=
 if (decide (s1.1 < (p1.length:Int)))=true then
  (lkI p1 s1.1).bind fun a4 =>
  (lkI p0 a4).bind fun a6 =>
  if (s1.2++([a6]:(List Int))).length*8≤140737488355328 then
   some (.next (zw (s1.1+1),(s1.2++([a6]:(List Int)))))
  else none
 else
 some (.done s1.2)
def Qda (p0:(List Int)) (p1:(List Int)):Option (List Int) :=
 (Qb fuel (Qc4 p1 p0) (0,([]:(List Int)))).bind fun x9 =>
 some x9
def Qaw (p0:Qf) (s1:(Int × (List Int))):Option (Ql (Int × (List Int)) (List Int)) :=
 if (decide (s1.1 < (p0.Nodes.length:Int)))=true then
  (lkI p0.Nodes s1.1).bind fun a4 =>
  if (s1.2++([a4.Card]:(List Int))).length*8≤140737488355328 then
   some (.next (zw (s1.1+1),(s1.2++([a4.Card]:(List Int)))))
  else none
 else
 some (.done s1.2)
def Qaf (p0:Qf):Option (List Int) :=
 (Qb fuel (Qaw p0) (0,([]:(List Int)))).bind fun x7 =>
 some x7
def Z2 (p0:Qf) (p1:Int):Option (List Int) :=
 (Qaf p0).bind fun x1 =>
 (lkI p0.Nodes p1).bind fun a3 =>
 (Qda x1 a3.Parents).bind fun x5 =>
 some x5
def Vt (p1:Int) (p2:(List Int)) (p3:Int) (s1:(Int × Int × (List Int))):Option (Ql (Int × Int × (List Int)) (Int × (List Int))) :=
 if (decide (s1.2.1 < p1))=true then
  if (decide ((p2.length:Int) > 0))=true then
   if (p2.length:Int)≠0 then
    (lkI p2 (Int.tmod (zw (p3+s1.2.1)) (p2.length:Int))).bind fun a6 =>
    (lkI s1.2.2 s1.2.1).bind fun a8 =>
    some (.next (zw (s1.1+(zw (Int.tmod a6 8))),zw (s1.2.1+1),(List.set s1.2.2 (Int.toNat s1.2.1) (zw (Int.tmod a6 8)))))
   else none
  else
  (lkI s1.2.2 s1.2.1).bind fun a11 =>
  some (.next (zw (s1.1+a11),zw (s1.2.1+1),s1.2.2))
 else
 some (.done (s1.1,s1.2.2))
def Qb0 (p1:Int) (x14:(Int × (List Int))) (p0:Int) (s15:(Int × Int × Int × (List Int))):Option (Ql (Int × Int × Int × (List Int)) (Int × Int × (List Int))) :=
 if (decide (s15.2.2.1 < p1))=true then
  (lkI s15.2.2.2 s15.2.2.1).bind fun a18 =>
  if (decide (a18 > 0))=true then
   if x14.1≠0 then
    some (.next (zw (s15.1 - (zw (Int.tdiv (zw (p0*a18)) x14.1))),s15.2.2.1,zw (s15.2.2.1+1),(List.set s15.2.2.2 (Int.toNat s15.2.2.1) (zw (Int.tdiv (zw (p0*a18)) x14.1)))))
   else none
  else
  some (.next (zw (s15.1 - a18),s15.2.1,zw (s15.2.2.1+1),s15.2.2.2))
 else
 some (.done (s15.1,s15.2.1,s15.2.2.2))
def K6 (p0:Int) (p1:Int) (p2:(List Int)) (p3:Int):Option (List Int) :=
 if 0≤p1∧p1≤p1∧p1*8≤140737488355328 then
  (Qb fuel (Vt p1 p2 p3) (0,0,(List.replicate (Int.toNat p1) (0:Int)))).bind fun x14 =>
  (Qb fuel (Qb0 p1 x14 p0) (p0,0,0,x14.2)).bind fun x24 =>
  (lkI x24.2.2 x24.2.1).bind fun a25 =>
  some (List.set x24.2.2 (Int.toNat x24.2.1) (zw (a25+x24.1)))
 else none
def Yd (p0:Qe) (x1:(List Int)) (s3:(Int × Int × (List (Int ⊕ Tapi_Node)))):Option (Ql (Int × Int × (List (Int ⊕ Tapi_Node))) (List (Int ⊕ Tapi_Node))) :=
 if (decide (s3.2.1 < (if 5 < (if 1 > (p0.Nodes.length:Int) then 1 else (p0.Nodes.length:Int)) then 5 else (if 1 > (p0.Nodes.length:Int) then 1 else (p0.Nodes.length:Int)))))=true then
  if (decide (s3.2.1 < (p0.Nodes.length:Int)))=true then
   (lkI p0.Nodes s3.2.1).bind fun a8 =>
   if 0≤(zv (zw ((zw ((if 5 < (if 1 > (p0.Nodes.length:Int) then 1 else (p0.Nodes.length:Int)) then 5 else (if 1 > (p0.Nodes.length:Int) then 1 else (p0.Nodes.length:Int))) - 1)) - s3.2.1))) then
    if (decide ((zw ((zw (s3.1*(zw (2+(zw (Int.tmod a8.Card 2))))))*2^min (Int.toNat (zv (zw ((zw ((if 5 < (if 1 > (p0.Nodes.length:Int) then 1 else (p0.Nodes.length:Int)) then 5 else (if 1 > (p0.Nodes.length:Int) then 1 else (p0.Nodes.length:Int))) - 1)) - s3.2.1)))) (IntKind.bits .i64))) > 100))=true then
     (lkI x1 s3.2.1).bind fun a12 =>
     (lkL s3.2.2 a12).bind fun a14 =>
     some (.next (zw (s3.1*2),zw (s3.2.1+1),(List.set s3.2.2 (Int.toNat a12) (Sum.inl 2))))
    else
    (lkI x1 s3.2.1).bind fun a17 =>
    (lkL s3.2.2 a17).bind fun a19 =>
    some (.next (zw (s3.1*(zw (2+(zw (Int.tmod a8.Card 2))))),zw (s3.2.1+1),(List.set s3.2.2 (Int.toNat a17) (Sum.inl (zw (2+(zw (Int.tmod a8.Card 2))))))))
   else none
  else
  if 0≤(zv (zw ((zw ((if 5 < (if 1 > (p0.Nodes.length:Int) then 1 else (p0.Nodes.length:Int)) then 5 else (if 1 > (p0.Nodes.length:Int) then 1 else (p0.Nodes.length:Int))) - 1)) - s3.2.1))) then
   if (decide ((zw ((zw (s3.1*(zw (2+(zw (Int.tmod 0 2))))))*2^min (Int.toNat (zv (zw ((zw ((if 5 < (if 1 > (p0.Nodes.length:Int) then 1 else (p0.Nodes.length:Int)) then 5 else (if 1 > (p0.Nodes.length:Int) then 1 else (p0.Nodes.length:Int))) - 1)) - s3.2.1)))) (IntKind.bits .i64))) > 100))=true then
    (lkI x1 s3.2.1).bind fun a24 =>
    (lkL s3.2.2 a24).bind fun a26 =>
    some (.next (zw (s3.1*2),zw (s3.2.1+1),(List.set s3.2.2 (Int.toNat a24) (Sum.inl 2))))
   else
   (lkI x1 s3.2.1).bind fun a29 =>
   (lkL s3.2.2 a29).bind fun a31 =>
   some (.next (zw (s3.1*(zw (2+(zw (Int.tmod 0 2))))),zw (s3.2.1+1),(List.set s3.2.2 (Int.toNat a29) (Sum.inl (zw (2+(zw (Int.tmod 0 2))))))))
  else none
 else
 some (.done s3.2.2)
def Yc (s36:(Int × (List (Int ⊕ Tapi_Node)))) (x1:(List Int)) (s55:(Int × (List Int))) (a49:Qr) (s58:(Int × (List Int))):Option (Ql (Int × (List Int)) (List Int)) :=
 if (decide (s58.1 < s36.1))=true then
  (lkI x1 s58.1).bind fun a61 =>
  if (a61==s55.1)=true then
   if 0≤(zv (s58.1)) then
    if ((IntKind.u8.wrap (BitVec.ofInt (IntKind.bits .u8) (Int.fdiv a49.Parents (2^min (Int.toNat (zv (s58.1))) (IntKind.bits .u8))) &&& BitVec.ofInt (IntKind.bits .u8) 1).toNat)==1)=true then
     if (decide ((s58.2.length:Int) < 3))=true then
      if (s58.2++([s55.1]:(List Int))).length*8≤140737488355328 then
       some (.next (zw (s58.1+1),(s58.2++([s55.1]:(List Int)))))
      else none
     else
     some (.next (zw (s58.1+1),s58.2))
    else
    some (.next (zw (s58.1+1),s58.2))
   else none
  else
  some (.next (zw (s58.1+1),s58.2))
 else
 some (.done s58.2)
def Xj (p0:Qe) (s36:(Int × (List (Int ⊕ Tapi_Node)))) (x1:(List Int)) (a49:Qr) (s55:(Int × (List Int))):Option (Ql (Int × (List Int)) (List Int)) :=
 if (decide (s55.1 < (if 5 < (if 1 > (p0.Nodes.length:Int) then 1 else (p0.Nodes.length:Int)) then 5 else (if 1 > (p0.Nodes.length:Int) then 1 else (p0.Nodes.length:Int)))))=true then
  (Qb fuel (Yc s36 x1 s55 a49) (0,s55.2)).bind fun x70 =>
  some (.next (zw (s55.1+1),x70))
 else
 some (.done s55.2)
def Ya (p0:Qe) (s36:(Int × (List (Int ⊕ Tapi_Node)))) (a51:Int) (a53:Int) (x72:(List Int)) (a49:Qr) (s73:(Int × (List (List Int)))):Option (Ql (Int × (List (List Int))) (List (List Int))) :=
 (Z2 (Qf.mk (zw (1+(zw (Int.tmod p0.Grain 60)))) (List.set (List.map coTapi_Node s36.2) (Int.toNat a51) (Tapi_Node.mk a53 x72 s73.2))) a51).bind fun x74 =>
 (Kf x74).bind fun x76 =>
 if (decide (s73.1 < x76))=true then
  (K6 (zw (1+(zw (Int.tmod p0.Grain 60)))) a53 a49.W (zw (s73.1*(zw (a53+1))))).bind fun x80 =>
  if (s73.2++([x80]:(List (List Int)))).length*24≤140737488355328 then
   some (.next (zw (s73.1+1),(s73.2++([x80]:(List (List Int))))))
  else none
 else
 some (.done s73.2)
def Qg9 (s36:(Int × (List (Int ⊕ Tapi_Node)))) (x1:(List Int)) (s90:(Int × (List Int))) (s93:(Int × (List Int))):Option (Ql (Int × (List Int)) (List Int)) :=
 if (decide (s93.1 < s36.1))=true then
  (lkI x1 s93.1).bind fun a96 =>
  if (a96==s90.1)=true then
   if 0≤(zv (s93.1)) then
    if ((IntKind.u8.wrap (BitVec.ofInt (IntKind.bits .u8) (Int.fdiv 0 (2^min (Int.toNat (zv (s93.1))) (IntKind.bits .u8))) &&& BitVec.ofInt (IntKind.bits .u8) 1).toNat)==1)=true then
     if (decide ((s93.2.length:Int) < 3))=true then
      if (s93.2++([s90.1]:(List Int))).length*8≤140737488355328 then
       some (.next (zw (s93.1+1),(s93.2++([s90.1]:(List Int)))))
      else none
     else
     some (.next (zw (s93.1+1),s93.2))
    else
    some (.next (zw (s93.1+1),s93.2))
   else none
  else
  some (.next (zw (s93.1+1),s93.2))
 else
 some (.done s93.2)
def Qa7 (p0:Qe) (s36:(Int × (List (Int ⊕ Tapi_Node)))) (x1:(List Int)) (s90:(Int × (List Int))):Option (Ql (Int × (List Int)) (List Int)) :=
 if (decide (s90.1 < (if 5 < (if 1 > (p0.Nodes.length:Int) then 1 else (p0.Nodes.length:Int)) then 5 else (if 1 > (p0.Nodes.length:Int) then 1 else (p0.Nodes.length:Int)))))=true then
  (Qb fuel (Qg9 s36 x1 s90) (0,s90.2)).bind fun x105 =>
  some (.next (zw (s90.1+1),x105))
 else
 some (.done s90.2)
def Qgj (p0:Qe) (s36:(Int × (List (Int ⊕ Tapi_Node)))) (a86:Int) (a88:Int) (x107:(List Int)) (s108:(Int × (List (List Int)))):Option (Ql (Int × (List (List Int))) (List (List Int))) :=
 (Z2 (Qf.mk (zw (1+(zw (Int.tmod p0.Grain 60)))) (List.set (List.map coTapi_Node s36.2) (Int.toNat a86) (Tapi_Node.mk a88 x107 s108.2))) a86).bind fun x109 =>
 (Kf x109).bind fun x111 =>
 if (decide (s108.1 < x111))=true then
  (K6 (zw (1+(zw (Int.tmod p0.Grain 60)))) a88 [] (zw (s108.1*(zw (a88+1))))).bind fun x115 =>
  if (s108.2++([x115]:(List (List Int)))).length*24≤140737488355328 then
   some (.next (zw (s108.1+1),(s108.2++([x115]:(List (List Int))))))
  else none
 else
 some (.done s108.2)
def Yb (p0:Qe) (x1:(List Int)) (s36:(Int × (List (Int ⊕ Tapi_Node)))):Option (Ql (Int × (List (Int ⊕ Tapi_Node))) (List (Int ⊕ Tapi_Node))) :=
 if (decide (s36.1 < (if 5 < (if 1 > (p0.Nodes.length:Int) then 1 else (p0.Nodes.length:Int)) then 5 else (if 1 > (p0.Nodes.length:Int) then 1 else (p0.Nodes.length:Int)))))=true then
  if (decide (s36.1 < (p0.Nodes.length:Int)))=true then
   (lkI p0.Nodes s36.1).bind fun a49 =>
   (lkI x1 s36.1).bind fun a51 =>
   (lkL s36.2 a51).bind fun a53 =>
   (Qb fuel (Xj p0 s36 x1 a49) (0,([]:(List Int)))).bind fun x72 =>
   (Qb fuel (Ya p0 s36 a51 a53 x72 a49) (0,([]:(List (List Int))))).bind fun x83 =>
   some (.next (zw (s36.1+1),(List.set s36.2 (Int.toNat a51) (Sum.inr (Tapi_Node.mk a53 x72 x83)))))
  else
  (lkI x1 s36.1).bind fun a86 =>
  (lkL s36.2 a86).bind fun a88 =>
  (Qb fuel (Qa7 p0 s36 x1) (0,([]:(List Int)))).bind fun x107 =>
  (Qb fuel (Qgj p0 s36 a86 a88 x107) (0,([]:(List (List Int))))).bind fun x118 =>
  some (.next (zw (s36.1+1),(List.set s36.2 (Int.toNat a86) (Sum.inr (Tapi_Node.mk a88 x107 x118)))))
 else
 some (.done s36.2)
def Vi (p0:Qe):Option Qf :=
 if 0≤(if 5 < (if 1 > (p0.Nodes.length:Int) then 1 else (p0.Nodes.length:Int)) then 5 else (if 1 > (p0.Nodes.length:Int) then 1 else (p0.Nodes.length:Int)))∧(if 5 < (if 1 > (p0.Nodes.length:Int) then 1 else (p0.Nodes.length:Int)) then 5 else (if 1 > (p0.Nodes.length:Int) then 1 else (p0.Nodes.length:Int)))≤(if 5 < (if 1 > (p0.Nodes.length:Int) then 1 else (p0.Nodes.length:Int)) then 5 else (if 1 > (p0.Nodes.length:Int) then 1 else (p0.Nodes.length:Int)))∧(if 5 < (if 1 > (p0.Nodes.length:Int) then 1 else (p0.Nodes.length:Int)) then 5 else (if 1 > (p0.Nodes.length:Int) then 1 else (p0.Nodes.length:Int)))*56≤140737488355328 then
  if 0≤(if 5 < (if 1 > (p0.Nodes.length:Int) then 1 else (p0.Nodes.length:Int)) then 5 else (if 1 > (p0.Nodes.length:Int) then 1 else (p0.Nodes.length:Int)))∧(if 5 < (if 1 > (p0.Nodes.length:Int) then 1 else (p0.Nodes.length:Int)) then 5 else (if 1 > (p0.Nodes.length:Int) then 1 else (p0.Nodes.length:Int)))≤(if 5 < (if 1 > (p0.Nodes.length:Int) then 1 else (p0.Nodes.length:Int)) then 5 else (if 1 > (p0.Nodes.length:Int) then 1 else (p0.Nodes.length:Int)))∧(if 5 < (if 1 > (p0.Nodes.length:Int) then 1 else (p0.Nodes.length:Int)) then 5 else (if 1 > (p0.Nodes.length:Int) then 1 else (p0.Nodes.length:Int)))*1≤140737488355328 then
   (X9 (Tharuspexref02_Draft.mk (List.replicate (Int.toNat (if 5 < (if 1 > (p0.Nodes.length:Int) then 1 else (p0.Nodes.length:Int)) then 5 else (if 1 > (p0.Nodes.length:Int) then 1 else (p0.Nodes.length:Int)))) (0:Int)) 0 p0.Order)).bind fun x1 =>
   (Qb fuel (Yd p0 x1) (1,0,(List.replicate (Int.toNat (if 5 < (if 1 > (p0.Nodes.length:Int) then 1 else (p0.Nodes.length:Int)) then 5 else (if 1 > (p0.Nodes.length:Int) then 1 else (p0.Nodes.length:Int)))) ((Sum.inl 0):(Int ⊕ Tapi_Node))))).bind fun x35 =>
   (Qb fuel (Yb p0 x1) (0,x35)).bind fun x122 =>
   (alr x122).bind fun m123 =>
   some (Qf.mk (zw (1+(zw (Int.tmod p0.Grain 60)))) m123)
  else none
 else none
def Va (p0:Qf) (s1:(Int × (List Int))) (s4:(Int × Int)):Option (Ql (Int × Int) Int) :=
 (lkI p0.Nodes s1.1).bind fun a5 =>
 if (decide (s4.2 < (a5.Parents.length:Int)))=true then
  (lkI a5.Parents s4.2).bind fun a9 =>
  if 0≤(zv (a9)) then
   some (.next (zv (zb s4.1 ||| zb (zv (1*2^min (Int.toNat (zv (a9))) (IntKind.bits .u64)))).toNat,zw (s4.2+1)))
  else none
 else
 some (.done s4.1)
def Y8 (p0:Qf) (s1:(Int × (List Int))):Option (Ql (Int × (List Int)) (List Int)) :=
 if (decide (s1.1 < (p0.Nodes.length:Int)))=true then
  (Qb fuel (Va p0 s1) (0,0)).bind fun x12 =>
  if (s1.2++([x12]:(List Int))).length*8≤140737488355328 then
   some (.next (zw (s1.1+1),(s1.2++([x12]:(List Int)))))
  else none
 else
 some (.done s1.2)
def V9 (p0:Qf):Option (List Int) :=
 (Qb fuel (Y8 p0) (0,([]:(List Int)))).bind fun x14 =>
 some x14
def Kn (p0:Qf) (p1:Int):Option Int :=
 (V9 p0).bind fun x1 =>
 (lkI x1 p1).bind fun a3 =>
 if 0≤(zv (p1)) then
  some (zv (zb a3 ||| zb (zv (1*2^min (Int.toNat (zv (p1))) (IntKind.bits .u64)))).toNat)
 else none
def K2 (p0:Int) (p1:Int) (p2:(Int × Int × Int × Int × Int × Int × Int × Int)) (s1:(Int × (List Int))):Option (Ql (Int × (List Int)) (List Int)) :=
 if (decide (s1.1 < p0))=true then
  if (s1.1==p1)=true then
   some (.next (zw (s1.1+1),s1.2))
  else
  if Int.tmod s1.1 8=0 then
   if (zw ((s1.2.length:Int)+1))≠0 then
    if 0≤(0:Int)∧(0:Int)≤(Int.tmod (zw (p2.1)) (zw ((s1.2.length:Int)+1)))∧(Int.tmod (zw (p2.1)) (zw ((s1.2.length:Int)+1)))≤(s1.2.length:Int) then
     if (sub s1.2 0 (Int.tmod (zw (p2.1)) (zw ((s1.2.length:Int)+1)))).length*8≤140737488355328 then
      if ((sub s1.2 0 (Int.tmod (zw (p2.1)) (zw ((s1.2.length:Int)+1))))++([s1.1]:(List Int))).length*8≤140737488355328 then
       if 0≤(Int.tmod (zw (p2.1)) (zw ((s1.2.length:Int)+1)))∧(Int.tmod (zw (p2.1)) (zw ((s1.2.length:Int)+1)))≤(s1.2.length:Int)∧(s1.2.length:Int)≤(s1.2.length:Int) then
        if (((sub s1.2 0 (Int.tmod (zw (p2.1)) (zw ((s1.2.length:Int)+1))))++([s1.1]:(List Int)))++(sub s1.2 (Int.tmod (zw (p2.1)) (zw ((s1.2.length:Int)+1))) (s1.2.length:Int))).length*8≤140737488355328 then
         some (.next (zw (s1.1+1),(((sub s1.2 0 (Int.tmod (zw (p2.1)) (zw ((s1.2.length:Int)+1))))++([s1.1]:(List Int)))++(sub s1.2 (Int.tmod (zw (p2.1)) (zw ((s1.2.length:Int)+1))) (s1.2.length:Int)))))
        else none
       else none
      else none
     else none
    else none
   else none
  else
  if Int.tmod s1.1 8=1 then
   if (zw ((s1.2.length:Int)+1))≠0 then
    if 0≤(0:Int)∧(0:Int)≤(Int.tmod (zw (p2.2.1)) (zw ((s1.2.length:Int)+1)))∧(Int.tmod (zw (p2.2.1)) (zw ((s1.2.length:Int)+1)))≤(s1.2.length:Int) then
     if (sub s1.2 0 (Int.tmod (zw (p2.2.1)) (zw ((s1.2.length:Int)+1)))).length*8≤140737488355328 then
      if ((sub s1.2 0 (Int.tmod (zw (p2.2.1)) (zw ((s1.2.length:Int)+1))))++([s1.1]:(List Int))).length*8≤140737488355328 then
       if 0≤(Int.tmod (zw (p2.2.1)) (zw ((s1.2.length:Int)+1)))∧(Int.tmod (zw (p2.2.1)) (zw ((s1.2.length:Int)+1)))≤(s1.2.length:Int)∧(s1.2.length:Int)≤(s1.2.length:Int) then
        if (((sub s1.2 0 (Int.tmod (zw (p2.2.1)) (zw ((s1.2.length:Int)+1))))++([s1.1]:(List Int)))++(sub s1.2 (Int.tmod (zw (p2.2.1)) (zw ((s1.2.length:Int)+1))) (s1.2.length:Int))).length*8≤140737488355328 then
         some (.next (zw (s1.1+1),(((sub s1.2 0 (Int.tmod (zw (p2.2.1)) (zw ((s1.2.length:Int)+1))))++([s1.1]:(List Int)))++(sub s1.2 (Int.tmod (zw (p2.2.1)) (zw ((s1.2.length:Int)+1))) (s1.2.length:Int)))))
        else none
       else none
      else none
     else none
    else none
   else none
  else
  if Int.tmod s1.1 8=2 then
   if (zw ((s1.2.length:Int)+1))≠0 then
    if 0≤(0:Int)∧(0:Int)≤(Int.tmod (zw (p2.2.2.1)) (zw ((s1.2.length:Int)+1)))∧(Int.tmod (zw (p2.2.2.1)) (zw ((s1.2.length:Int)+1)))≤(s1.2.length:Int) then
     if (sub s1.2 0 (Int.tmod (zw (p2.2.2.1)) (zw ((s1.2.length:Int)+1)))).length*8≤140737488355328 then
      if ((sub s1.2 0 (Int.tmod (zw (p2.2.2.1)) (zw ((s1.2.length:Int)+1))))++([s1.1]:(List Int))).length*8≤140737488355328 then
       if 0≤(Int.tmod (zw (p2.2.2.1)) (zw ((s1.2.length:Int)+1)))∧(Int.tmod (zw (p2.2.2.1)) (zw ((s1.2.length:Int)+1)))≤(s1.2.length:Int)∧(s1.2.length:Int)≤(s1.2.length:Int) then
        if (((sub s1.2 0 (Int.tmod (zw (p2.2.2.1)) (zw ((s1.2.length:Int)+1))))++([s1.1]:(List Int)))++(sub s1.2 (Int.tmod (zw (p2.2.2.1)) (zw ((s1.2.length:Int)+1))) (s1.2.length:Int))).length*8≤140737488355328 then
         some (.next (zw (s1.1+1),(((sub s1.2 0 (Int.tmod (zw (p2.2.2.1)) (zw ((s1.2.length:Int)+1))))++([s1.1]:(List Int)))++(sub s1.2 (Int.tmod (zw (p2.2.2.1)) (zw ((s1.2.length:Int)+1))) (s1.2.length:Int)))))
        else none
       else none
      else none
     else none
    else none
   else none
  else
  if Int.tmod s1.1 8=3 then
   if (zw ((s1.2.length:Int)+1))≠0 then
    if 0≤(0:Int)∧(0:Int)≤(Int.tmod (zw (p2.2.2.2.1)) (zw ((s1.2.length:Int)+1)))∧(Int.tmod (zw (p2.2.2.2.1)) (zw ((s1.2.length:Int)+1)))≤(s1.2.length:Int) then
     if (sub s1.2 0 (Int.tmod (zw (p2.2.2.2.1)) (zw ((s1.2.length:Int)+1)))).length*8≤140737488355328 then
      if ((sub s1.2 0 (Int.tmod (zw (p2.2.2.2.1)) (zw ((s1.2.length:Int)+1))))++([s1.1]:(List Int))).length*8≤140737488355328 then
       if 0≤(Int.tmod (zw (p2.2.2.2.1)) (zw ((s1.2.length:Int)+1)))∧(Int.tmod (zw (p2.2.2.2.1)) (zw ((s1.2.length:Int)+1)))≤(s1.2.length:Int)∧(s1.2.length:Int)≤(s1.2.length:Int) then
        if (((sub s1.2 0 (Int.tmod (zw (p2.2.2.2.1)) (zw ((s1.2.length:Int)+1))))++([s1.1]:(List Int)))++(sub s1.2 (Int.tmod (zw (p2.2.2.2.1)) (zw ((s1.2.length:Int)+1))) (s1.2.length:Int))).length*8≤140737488355328 then
         some (.next (zw (s1.1+1),(((sub s1.2 0 (Int.tmod (zw (p2.2.2.2.1)) (zw ((s1.2.length:Int)+1))))++([s1.1]:(List Int)))++(sub s1.2 (Int.tmod (zw (p2.2.2.2.1)) (zw ((s1.2.length:Int)+1))) (s1.2.length:Int)))))
        else none
       else none
      else none
     else none
    else none
   else none
  else
  if Int.tmod s1.1 8=4 then
   if (zw ((s1.2.length:Int)+1))≠0 then
    if 0≤(0:Int)∧(0:Int)≤(Int.tmod (zw (p2.2.2.2.2.1)) (zw ((s1.2.length:Int)+1)))∧(Int.tmod (zw (p2.2.2.2.2.1)) (zw ((s1.2.length:Int)+1)))≤(s1.2.length:Int) then
     if (sub s1.2 0 (Int.tmod (zw (p2.2.2.2.2.1)) (zw ((s1.2.length:Int)+1)))).length*8≤140737488355328 then
      if ((sub s1.2 0 (Int.tmod (zw (p2.2.2.2.2.1)) (zw ((s1.2.length:Int)+1))))++([s1.1]:(List Int))).length*8≤140737488355328 then
       if 0≤(Int.tmod (zw (p2.2.2.2.2.1)) (zw ((s1.2.length:Int)+1)))∧(Int.tmod (zw (p2.2.2.2.2.1)) (zw ((s1.2.length:Int)+1)))≤(s1.2.length:Int)∧(s1.2.length:Int)≤(s1.2.length:Int) then
        if (((sub s1.2 0 (Int.tmod (zw (p2.2.2.2.2.1)) (zw ((s1.2.length:Int)+1))))++([s1.1]:(List Int)))++(sub s1.2 (Int.tmod (zw (p2.2.2.2.2.1)) (zw ((s1.2.length:Int)+1))) (s1.2.length:Int))).length*8≤140737488355328 then
         some (.next (zw (s1.1+1),(((sub s1.2 0 (Int.tmod (zw (p2.2.2.2.2.1)) (zw ((s1.2.length:Int)+1))))++([s1.1]:(List Int)))++(sub s1.2 (Int.tmod (zw (p2.2.2.2.2.1)) (zw ((s1.2.length:Int)+1))) (s1.2.length:Int)))))
        else none
       else none
      else none
     else none
    else none
   else none
  else
  if Int.tmod s1.1 8=5 then
   if (zw ((s1.2.length:Int)+1))≠0 then
    if 0≤(0:Int)∧(0:Int)≤(Int.tmod (zw (p2.2.2.2.2.2.1)) (zw ((s1.2.length:Int)+1)))∧(Int.tmod (zw (p2.2.2.2.2.2.1)) (zw ((s1.2.length:Int)+1)))≤(s1.2.length:Int) then
     if (sub s1.2 0 (Int.tmod (zw (p2.2.2.2.2.2.1)) (zw ((s1.2.length:Int)+1)))).length*8≤140737488355328 then
      if ((sub s1.2 0 (Int.tmod (zw (p2.2.2.2.2.2.1)) (zw ((s1.2.length:Int)+1))))++([s1.1]:(List Int))).length*8≤140737488355328 then
       if 0≤(Int.tmod (zw (p2.2.2.2.2.2.1)) (zw ((s1.2.length:Int)+1)))∧(Int.tmod (zw (p2.2.2.2.2.2.1)) (zw ((s1.2.length:Int)+1)))≤(s1.2.length:Int)∧(s1.2.length:Int)≤(s1.2.length:Int) then
        if (((sub s1.2 0 (Int.tmod (zw (p2.2.2.2.2.2.1)) (zw ((s1.2.length:Int)+1))))++([s1.1]:(List Int)))++(sub s1.2 (Int.tmod (zw (p2.2.2.2.2.2.1)) (zw ((s1.2.length:Int)+1))) (s1.2.length:Int))).length*8≤140737488355328 then
         some (.next (zw (s1.1+1),(((sub s1.2 0 (Int.tmod (zw (p2.2.2.2.2.2.1)) (zw ((s1.2.length:Int)+1))))++([s1.1]:(List Int)))++(sub s1.2 (Int.tmod (zw (p2.2.2.2.2.2.1)) (zw ((s1.2.length:Int)+1))) (s1.2.length:Int)))))
        else none
       else none
      else none
     else none
    else none
   else none
  else
  if Int.tmod s1.1 8=6 then
   if (zw ((s1.2.length:Int)+1))≠0 then
    if 0≤(0:Int)∧(0:Int)≤(Int.tmod (zw (p2.2.2.2.2.2.2.1)) (zw ((s1.2.length:Int)+1)))∧(Int.tmod (zw (p2.2.2.2.2.2.2.1)) (zw ((s1.2.length:Int)+1)))≤(s1.2.length:Int) then
     if (sub s1.2 0 (Int.tmod (zw (p2.2.2.2.2.2.2.1)) (zw ((s1.2.length:Int)+1)))).length*8≤140737488355328 then
      if ((sub s1.2 0 (Int.tmod (zw (p2.2.2.2.2.2.2.1)) (zw ((s1.2.length:Int)+1))))++([s1.1]:(List Int))).length*8≤140737488355328 then
       if 0≤(Int.tmod (zw (p2.2.2.2.2.2.2.1)) (zw ((s1.2.length:Int)+1)))∧(Int.tmod (zw (p2.2.2.2.2.2.2.1)) (zw ((s1.2.length:Int)+1)))≤(s1.2.length:Int)∧(s1.2.length:Int)≤(s1.2.length:Int) then
        if (((sub s1.2 0 (Int.tmod (zw (p2.2.2.2.2.2.2.1)) (zw ((s1.2.length:Int)+1))))++([s1.1]:(List Int)))++(sub s1.2 (Int.tmod (zw (p2.2.2.2.2.2.2.1)) (zw ((s1.2.length:Int)+1))) (s1.2.length:Int))).length*8≤140737488355328 then
         some (.next (zw (s1.1+1),(((sub s1.2 0 (Int.tmod (zw (p2.2.2.2.2.2.2.1)) (zw ((s1.2.length:Int)+1))))++([s1.1]:(List Int)))++(sub s1.2 (Int.tmod (zw (p2.2.2.2.2.2.2.1)) (zw ((s1.2.length:Int)+1))) (s1.2.length:Int)))))
        else none
       else none
      else none
     else none
    else none
   else none
  else
  if Int.tmod s1.1 8=7 then
   if (zw ((s1.2.length:Int)+1))≠0 then
    if 0≤(0:Int)∧(0:Int)≤(Int.tmod (zw (p2.2.2.2.2.2.2.2)) (zw ((s1.2.length:Int)+1)))∧(Int.tmod (zw (p2.2.2.2.2.2.2.2)) (zw ((s1.2.length:Int)+1)))≤(s1.2.length:Int) then
     if (sub s1.2 0 (Int.tmod (zw (p2.2.2.2.2.2.2.2)) (zw ((s1.2.length:Int)+1)))).length*8≤140737488355328 then
      if ((sub s1.2 0 (Int.tmod (zw (p2.2.2.2.2.2.2.2)) (zw ((s1.2.length:Int)+1))))++([s1.1]:(List Int))).length*8≤140737488355328 then
       if 0≤(Int.tmod (zw (p2.2.2.2.2.2.2.2)) (zw ((s1.2.length:Int)+1)))∧(Int.tmod (zw (p2.2.2.2.2.2.2.2)) (zw ((s1.2.length:Int)+1)))≤(s1.2.length:Int)∧(s1.2.length:Int)≤(s1.2.length:Int) then
        if (((sub s1.2 0 (Int.tmod (zw (p2.2.2.2.2.2.2.2)) (zw ((s1.2.length:Int)+1))))++([s1.1]:(List Int)))++(sub s1.2 (Int.tmod (zw (p2.2.2.2.2.2.2.2)) (zw ((s1.2.length:Int)+1))) (s1.2.length:Int))).length*8≤140737488355328 then
         some (.next (zw (s1.1+1),(((sub s1.2 0 (Int.tmod (zw (p2.2.2.2.2.2.2.2)) (zw ((s1.2.length:Int)+1))))++([s1.1]:(List Int)))++(sub s1.2 (Int.tmod (zw (p2.2.2.2.2.2.2.2)) (zw ((s1.2.length:Int)+1))) (s1.2.length:Int)))))
        else none
       else none
      else none
     else none
    else none
   else none
  else
  none
 else
 some (.done s1.2)
def Jl (p0:Int) (p1:Int) (p2:(Int × Int × Int × Int × Int × Int × Int × Int)):Option (List Int) :=
 (Qb fuel (K2 p0 p1 p2) (0,([]:(List Int)))).bind fun x31 =>
 some x31
def Xz (s13:Int) (p1:Qc) (a24:Int) (a16:Int) (s30:Int):Option (Ql Int (Unit ⊕ Unit)) :=
 if (decide (s30 < s13))=true then
  (lkI p1.Cliques s30).bind fun a33 =>
  (lkI p1.Cliques a24).bind fun a35 =>
  if ((zv (zb (zv (zb a16 &&& zb a33).toNat) &&& ~~~ zb a35).toNat) != 0)=true then
   some (.done (Sum.inl ()))
  else
  some (.next (zw (s30+1)))
 else
 some (.done (Sum.inr ()))
def Qdu (s13:Int) (p1:Qc) (a16:Int) (s42:Int):Option (Ql Int (Unit ⊕ Unit)) :=
 if (decide (s42 < s13))=true then
  (lkI p1.Cliques s42).bind fun a45 =>
  (lkI p1.Up s13).bind fun a47 =>
  (lkI p1.Cliques a47).bind fun a49 =>
  if ((zv (zb (zv (zb a16 &&& zb a45).toNat) &&& ~~~ zb a49).toNat) != 0)=true then
   some (.done (Sum.inl ()))
  else
  some (.next (zw (s42+1)))
 else
 some (.done (Sum.inr ()))
def X0 (p1:Qc) (p0:Qf) (s13:Int):Option (Ql Int (Unit ⊕ Unit)) :=
 if (decide (s13 < (p1.Cliques.length:Int)))=true then
  (lkI p1.Cliques s13).bind fun a16 =>
  if (a16==0)=true then
   some (.done (Sum.inl ()))
  else
  if 0≤(zv ((p0.Nodes.length:Int))) then
   if (decide (a16≥(zv (1*2^min (Int.toNat (zv ((p0.Nodes.length:Int)))) (IntKind.bits .u64)))))=true then
    some (.done (Sum.inl ()))
   else
   if (decide (s13 > 0))=true then
    (lkI p1.Up s13).bind fun a24 =>
    if (decide (a24 < 0))=true then
     some (.done (Sum.inl ()))
    else
    if (decide (a24≥s13))=true then
     some (.done (Sum.inl ()))
    else
    (Qb fuel (Xz s13 p1 a24 a16) 0).bind fun x39=>match x39 with
    | .inl x40=>(
     some (.done (Sum.inl ())))
    | .inr x41=>(
     some (.next (zw (s13+1))))
   else
   (Qb fuel (Qdu s13 p1 a16) 0).bind fun x53=>match x53 with
   | .inl x54=>(
    some (.done (Sum.inl ())))
   | .inr x55=>(
    some (.next (zw (s13+1))))
  else none
 else
 some (.done (Sum.inr ()))
def X1 (p0:Qf) (p1:Qc) (s59:Int):Option (Ql Int (Unit ⊕ Unit)) :=
 if (decide (s59 < (p0.Nodes.length:Int)))=true then
  (lkI p1.Home s59).bind fun a62 =>
  if (decide (a62 < 0))=true then
   some (.done (Sum.inl ()))
  else
  if (decide (a62≥(p1.Cliques.length:Int)))=true then
   some (.done (Sum.inl ()))
  else
  (Kn p0 s59).bind fun x68 =>
  (lkI p1.Cliques a62).bind fun a70 =>
  if ((zv (zb x68 &&& ~~~ zb a70).toNat) != 0)=true then
   some (.done (Sum.inl ()))
  else
  some (.next (zw (s59+1)))
 else
 some (.done (Sum.inr ()))
def V3 (p0:Qf) (p1:Qc):Option Bool :=
 if (decide ((p1.Cliques.length:Int) < 1))=true then
  some false
 else
 if (decide ((p1.Cliques.length:Int) > 8))=true then
  some false
 else
 if ((p1.Up.length:Int) != (p1.Cliques.length:Int))=true then
  some false
 else
 if ((p1.Home.length:Int) != (p0.Nodes.length:Int))=true then
  some false
 else
 (lkI p1.Up 0).bind fun a9 =>
 if (a9 != (-1))=true then
  some false
 else
 (Qb fuel (X0 p1 p0) 0).bind fun x56=>match x56 with
 | .inl x57=>(
  some false)
 | .inr x58=>(
  (Qb fuel (X1 p0 p1) 0).bind fun x74=>match x74 with
  | .inl x75=>(
   some false)
  | .inr x76=>(
   some true))
def X5 (x9:(Qc × Int)) (true:Bool) (s27:Int) (false:Bool) (s42:(Int × Int × Int × (List Bool))):Option (Ql (Int × Int × Int × (List Bool)) (Int × Int)) :=
 if (decide (s42.2.2.1 < (x9.1.Cliques.length:Int)))=true then
  (lkI x9.1.Cliques s42.2.2.1).bind fun a45 =>
  if (s42.2.2.1==s27)=true then
   (lkI s42.2.2.2 s42.2.2.1).bind fun a49 =>
   some (.next (zv (zb s42.1 ||| zb a45).toNat,s42.2.1,zw (s42.2.2.1+1),(List.set s42.2.2.2 (Int.toNat s42.2.2.1) true)))
  else
  if (decide (s42.2.2.1 > s27))=true then
   (lkI x9.1.Up s42.2.2.1).bind fun a54 =>
   (lkI s42.2.2.2 a54).bind fun a56 =>
   (lkI s42.2.2.2 s42.2.2.1).bind fun a58 =>
   if a56=true then
    some (.next (zv (zb s42.1 ||| zb a45).toNat,s42.2.1,zw (s42.2.2.1+1),(List.set s42.2.2.2 (Int.toNat s42.2.2.1) a56)))
   else
   some (.next (s42.1,zv (zb s42.2.1 ||| zb a45).toNat,zw (s42.2.2.1+1),(List.set s42.2.2.2 (Int.toNat s42.2.2.1) a56)))
  else
  (lkI s42.2.2.2 s42.2.2.1).bind fun a63 =>
  some (.next (s42.1,zv (zb s42.2.1 ||| zb a45).toNat,zw (s42.2.2.1+1),(List.set s42.2.2.2 (Int.toNat s42.2.2.1) false)))
 else
 some (.done (s42.1,s42.2.1))
def X6 (x11:((List Int) × Int)) (true:Bool) (x67:(Int × Int)) (x30:(Int × Int)) (s70:Int):Option (Ql Int (Unit ⊕ Unit)) :=
 if (decide (s70 < (x11.1.length:Int)))=true then
  (lkI x11.1 s70).bind fun a73 =>
  if 0≤s70 then
   if ((zv (zb (Int.fdiv (zv (zb x67.1 &&& ~~~ zb x30.1).toNat) (2^min (Int.toNat s70) (IntKind.bits .u64))) &&& zb 1).toNat)==1)=true then
    if ((zv (zb (zv (zb a73 &&& zb x67.2).toNat) &&& ~~~ zb x30.1).toNat) != 0)=true then
     some (.done (Sum.inl ()))
    else
    some (.next (zw (s70+1)))
   else
   some (.next (zw (s70+1)))
  else none
 else
 some (.done (Sum.inr ()))
def X2 (x9:(Qc × Int)) (true:Bool) (x5:Qf) (false:Bool) (x11:((List Int) × Int)) (s27:Int):Option (Ql Int (Unit ⊕ Unit)) :=
 if (decide (s27 < (x9.1.Cliques.length:Int)))=true then
  (Vu x5 x9.1 s27).bind fun x30 =>
  if (x30.2 != 0)=true then
   some (.done (Sum.inl ()))
  else
  (lkI x9.1.Cliques s27).bind fun a34 =>
  (lkI x9.1.Up s27).bind fun a36 =>
  (lkI x9.1.Cliques a36).bind fun a38 =>
  if (x30.1 != (zv (zb a34 &&& zb a38).toNat))=true then
   some (.done (Sum.inl ()))
  else
  if 0≤(x9.1.Cliques.length:Int)∧(x9.1.Cliques.length:Int)≤(x9.1.Cliques.length:Int)∧(x9.1.Cliques.length:Int)*1≤140737488355328 then
   (Qb fuel (X5 x9 true s27 false) (0,0,0,(List.replicate (Int.toNat (x9.1.Cliques.length:Int)) (false:Bool)))).bind fun x67 =>
   if ((zv (zb x67.1 &&& zb x67.2).toNat) != x30.1)=true then
    some (.done (Sum.inl ()))
   else
   (Qb fuel (X6 x11 true x67 x30) 0).bind fun x79=>match x79 with
   | .inl x80=>(
    some (.done (Sum.inl ())))
   | .inr x81=>(
    some (.next (zw (s27+1))))
  else none
 else
 some (.done (Sum.inr ()))
def Kd (p0:Qe) (p1:(Int × Int × Int × Int × Int × Int × Int × Int)):Option Bool :=
 (Qc1).bind fun x1 =>
 if (!x1)=true then
  some false
 else
 (Vi p0).bind fun x5 =>
 (Jl (x5.Nodes.length:Int) (-1) (p1.1,p1.2.1,p1.2.2.1,p1.2.2.2.1,p1.2.2.2.2.1,p1.2.2.2.2.2.1,p1.2.2.2.2.2.2.1,p1.2.2.2.2.2.2.2)).bind fun x7 =>
 (Vp x5 x7).bind fun x9 =>
 (J4 x5).bind fun x11 =>
 if (x9.2 != 0)=true then
  some false
 else
 if (x11.2 != 0)=true then
  some false
 else
 (Zx x5 x9.1).bind fun x17 =>
 if (x17 != 0)=true then
  some false
 else
 (V3 x5 x9.1).bind fun x21 =>
 if (!x21)=true then
  some false
 else
 if ((x11.1.length:Int) != (x5.Nodes.length:Int))=true then
  some false
 else
 (Qb fuel (X2 x9 true x5 false x11) 1).bind fun x82=>match x82 with
 | .inl x83=>(
  some false)
 | .inr x84=>(
  some true)
end Go.Ab
