/- What functions compute. No conditions. -/
import Derived.Test.YtcbhkobklhkiiaaDoorEng8
set_option linter.all false
namespace Go.Ab
open Go
structure Tapi_Node where
 Card:Int
 Parents:(List Int)
 Rows:(List (List Int))
 deriving DecidableEq,Inhabited
@[reducible] def eTapi_Node (x:Tapi_Node):AV:=.agg [vI x.Card,eL true eI x.Parents,eL false (eL true eI) x.Rows]
@[reducible] def eoTapi_Node (x:Int ⊕ Tapi_Node):AV:=match x with | .inl c=>.agg [vI c,.nils,.nils] | .inr y=>eTapi_Node y
def coTapi_Node (x:Int ⊕ Tapi_Node):Tapi_Node:=match x with | .inl c=>⟨c,[],[]⟩ | .inr y=>y
structure Qg where
 Grain:Int
 Nodes:(List Tapi_Node)
 deriving DecidableEq,Inhabited
structure Qw where
 Net:Qg
 cards:(List Int)
 sets:(List Int)
 order:(List Int)
 deriving DecidableEq,Inhabited
structure Qe where
 Cliques:(List Int)
 Up:(List Int)
 Home:(List Int)
 deriving DecidableEq,Inhabited
structure Ttree_graph where
 near:(List Int)
 deriving DecidableEq,Inhabited
structure Ttree_maker where
 graph:Ttree_graph
 order:(List Int)
 deriving DecidableEq,Inhabited
structure Tharuspexref02_Draft where
 C:(List Int)
 Which:Int
 Order:(List Int)
 deriving DecidableEq,Inhabited
structure Qs where
 Card:Int
 Parents:Int
 W:(List Int)
 deriving DecidableEq,Inhabited
@[reducible] def eTharuspexref05_Piece (x:Qs):AV:=.agg [.int .u8 x.Card,.int .u8 x.Parents,eL true (AV.int .u8) x.W]
structure Qc where
 Grain:Int
 Nodes:(List Qs)
 Order:(List Int)
 deriving DecidableEq,Inhabited
@[reducible] def eTharuspexref05_Draft (x:Qc):AV:=.agg [.int .u8 x.Grain,eL false eTharuspexref05_Piece x.Nodes,eL true (AV.int .u8) x.Order]
structure Torder_neighbours where
 near:(List Int)
 deriving DecidableEq,Inhabited
structure Torder_graph where
 neighbours:Torder_neighbours
 left:Int
 deriving DecidableEq,Inhabited
def Yw (p1:Tapi_Node) (p0:Qw) (s1:(Int × Int)):Option (Ql (Int × Int) Int) :=
 if (decide (s1.2 < (p1.Parents.length:Int)))=true then
  (lkI p1.Parents s1.2).bind fun a4 =>
  (lkI p0.cards a4).bind fun a6 =>
  some (.next (zw (s1.1*a6),zw (s1.2+1)))
 else
 some (.done s1.1)
def Zo (a15:(List Int)) (s17:(Int × Int)):Option (Ql (Int × Int) (Unit ⊕ Int)) :=
 if (decide (s17.2 < (a15.length:Int)))=true then
  (lkI a15 s17.2).bind fun a20 =>
  if (decide (a20 < 0))=true then
   some (.done (Sum.inl ()))
  else
  if (decide (a20 > s17.1))=true then
   some (.done (Sum.inl ()))
  else
  some (.next (zw (s17.1 - a20),zw (s17.2+1)))
 else
 some (.done (Sum.inr s17.1))
def Xw (p1:Tapi_Node) (p0:Qw) (s12:Int):Option (Ql Int (Unit ⊕ Unit)) :=
 if (decide (s12 < (p1.Rows.length:Int)))=true then
  (lkI p1.Rows s12).bind fun a15 =>
  (Qb fuel (Zo a15) (p0.Net.Grain,0)).bind fun x26=>match x26 with
  | .inl x27=>(
   some (.done (Sum.inl ())))
  | .inr x28=>(
   if ((a15.length:Int) != p1.Card)=true then
    some (.done (Sum.inl ()))
   else
   if (x28 != 0)=true then
    some (.done (Sum.inl ()))
   else
   some (.next (zw (s12+1))))
 else
 some (.done (Sum.inr ()))
def Xs (p0:Qw) (p1:Tapi_Node):Option Bool :=
 (Qb fuel (Yw p1 p0) (1,0)).bind fun x9 =>
 if ((p1.Rows.length:Int) != x9)=true then
  some false
 else
 (Qb fuel (Xw p1 p0) 0).bind fun x33=>match x33 with
 | .inl x34=>(
  some false)
 | .inr x35=>(
  some true)
def Vk (p0:(List Int)) (s1:(Int × (List Int))) (s4:Int):Option (Ql Int ((Int × (List Int)) ⊕ Unit)) :=
 if (decide (s4 < (p0.length:Int)))=true then
  (lkI p0 s4).bind fun a7 =>
  if 0≤s4 then
   if ((zv (zb (Int.fdiv s1.1 (2^min (Int.toNat s4) (IntKind.bits .u64))) &&& zb 1).toNat)==0)=true then
    if ((zv (zb a7 &&& ~~~ zb s1.1).toNat)==0)=true then
     if (s1.2++([s4]:(List Int))).length*8≤140737488355328 then
      if 0≤s4 then
       some (.done (Sum.inl (zv (zb s1.1 ||| zb (zv (1*2^min (Int.toNat s4) (IntKind.bits .u64)))).toNat,(s1.2++([s4]:(List Int))))))
      else none
     else none
    else
    some (.next (zw (s4+1)))
   else
   some (.next (zw (s4+1)))
  else none
 else
 some (.done (Sum.inr ()))
def Xh (p0:(List Int)) (s1:(Int × (List Int))):Option (Ql (Int × (List Int)) (Unit ⊕ (List Int))) :=
 if (decide ((s1.2.length:Int) < (p0.length:Int)))=true then
  (Qb fuel (Vk p0 s1) 0).bind fun x13=>match x13 with
  | .inl x14=>(
   some (.next (x14.1,x14.2)))
  | .inr x15=>(
   some (.done (Sum.inl ())))
 else
 some (.done (Sum.inr s1.2))
def X3 (p0:(List Int)):Option ((List Int) × Bool) :=
 if 0≤(0:Int)∧(0:Int)≤(p0.length:Int)∧(p0.length:Int)*8≤140737488355328 then
  (Qb fuel (Xh p0) (0,(List.replicate (Int.toNat 0) (0:Int)))).bind fun x16=>match x16 with
  | .inl x17=>(
   some (([]:(List Int)),false))
  | .inr x18=>(
   some (x18,true))
 else none
def X8 (p0:Qg) (s9:(Int × Int × (List Int))):Option (Ql (Int × Int × (List Int)) (Unit ⊕ (Int × (List Int)))) :=
 if (decide (s9.2.1 < (p0.Nodes.length:Int)))=true then
  (lkI p0.Nodes s9.2.1).bind fun a12 =>
  if (decide (a12.Card < 1))=true then
   some (.done (Sum.inl ()))
  else
  if (decide (a12.Card > 4))=true then
   some (.done (Sum.inl ()))
  else
  (lkI s9.2.2 s9.2.1).bind fun a18 =>
  some (.next (zw (s9.1*a12.Card),zw (s9.2.1+1),(List.set s9.2.2 (Int.toNat s9.2.1) a12.Card)))
 else
 some (.done (Sum.inr (s9.1,s9.2.2)))
def Vq (a29:Tapi_Node) (p0:Qg) (s26:(Int × (List Int))) (s31:(Int × Int × (List Int))):Option (Ql (Int × Int × (List Int)) (Unit ⊕ (List Int))) :=
 if (decide (s31.2.1 < (a29.Parents.length:Int)))=true then
  (lkI a29.Parents s31.2.1).bind fun a34 =>
  if (decide (a34≤s31.1))=true then
   some (.done (Sum.inl ()))
  else
  if (decide (a34≥(p0.Nodes.length:Int)))=true then
   some (.done (Sum.inl ()))
  else
  if (a34==s26.1)=true then
   some (.done (Sum.inl ()))
  else
  (lkI s31.2.2 s26.1).bind fun a42 =>
  if 0≤a34 then
   some (.next (a34,zw (s31.2.1+1),(List.set s31.2.2 (Int.toNat s26.1) (zv (zb a42 ||| zb (zv (1*2^min (Int.toNat a34) (IntKind.bits .u64)))).toNat))))
  else none
 else
 some (.done (Sum.inr s31.2.2))
def X5 (p0:Qg) (x23:(Int × (List Int))) (s26:(Int × (List Int))):Option (Ql (Int × (List Int)) (Unit ⊕ (List Int))) :=
 if (decide (s26.1 < (p0.Nodes.length:Int)))=true then
  (lkI p0.Nodes s26.1).bind fun a29 =>
  (Qb fuel (Vq a29 p0 s26) (-1,0,s26.2)).bind fun x45=>match x45 with
  | .inl x46=>(
   some (.done (Sum.inl ())))
  | .inr x47=>(
   (Xs (Qw.mk p0 x23.2 x47 []) a29).bind fun x48 =>
   if (!x48)=true then
    some (.done (Sum.inl ()))
   else
   some (.next (zw (s26.1+1),x47)))
 else
 some (.done (Sum.inr s26.2))
def Ka (p0:Qg):Option (Qw × Int) :=
 if (decide (p0.Grain < 1))=true then
  some ((Qw.mk (Qg.mk 0 []) [] [] []),50)
 else
 if (decide (p0.Grain > 60))=true then
  some ((Qw.mk (Qg.mk 0 []) [] [] []),50)
 else
 if (decide ((p0.Nodes.length:Int) < 1))=true then
  some ((Qw.mk (Qg.mk 0 []) [] [] []),50)
 else
 if (decide ((p0.Nodes.length:Int) > 8))=true then
  some ((Qw.mk (Qg.mk 0 []) [] [] []),50)
 else
 if 0≤(p0.Nodes.length:Int)∧(p0.Nodes.length:Int)≤(p0.Nodes.length:Int)∧(p0.Nodes.length:Int)*8≤140737488355328 then
  if 0≤(p0.Nodes.length:Int)∧(p0.Nodes.length:Int)≤(p0.Nodes.length:Int)∧(p0.Nodes.length:Int)*8≤140737488355328 then
   (Qb fuel (X8 p0) (1,0,(List.replicate (Int.toNat (p0.Nodes.length:Int)) (0:Int)))).bind fun x21=>match x21 with
   | .inl x22=>(
    some ((Qw.mk (Qg.mk 0 []) [] [] []),50))
   | .inr x23=>(
    if (decide (x23.1 > 1024))=true then
     some ((Qw.mk (Qg.mk 0 []) [] [] []),50)
    else
    (Qb fuel (X5 p0 x23) (0,(List.replicate (Int.toNat (p0.Nodes.length:Int)) (0:Int)))).bind fun x52=>match x52 with
    | .inl x53=>(
     some ((Qw.mk (Qg.mk 0 []) [] [] []),50))
    | .inr x54=>(
     (X3 x54).bind fun x55 =>
     if (!x55.2)=true then
      some ((Qw.mk (Qg.mk 0 []) [] [] []),50)
     else
     some ((Qw.mk p0 x23.2 x54 x55.1),0)))
  else none
 else none
def Qa4 (p0:Qg) (s9:(Int × Int × (List Int))):Option (Ql (Int × Int × (List Int)) (Unit ⊕ (Int × (List Int)))) :=
 if (decide (s9.2.1 < (p0.Nodes.length:Int)))=true then
  (lkI p0.Nodes s9.2.1).bind fun a12 =>
  if (decide (a12.Card < 1))=true then
   some (.done (Sum.inl ()))
  else
  if (decide (a12.Card > 4))=true then
   some (.done (Sum.inl ()))
  else
  (lkI s9.2.2 s9.2.1).bind fun a18 =>
  some (.next (zw (s9.1*a12.Card),zw (s9.2.1+1),(List.set s9.2.2 (Int.toNat s9.2.1) a12.Card)))
 else
 some (.done (Sum.inr (s9.1,s9.2.2)))
def Qgn (a29:Tapi_Node) (p0:Qg) (s26:(Int × (List Int))) (s31:(Int × Int × (List Int))):Option (Ql (Int × Int × (List Int)) (Unit ⊕ (List Int))) :=
 if (decide (s31.2.1 < (a29.Parents.length:Int)))=true then
  (lkI a29.Parents s31.2.1).bind fun a34 =>
  if (decide (a34≤s31.1))=true then
   some (.done (Sum.inl ()))
  else
  if (decide (a34≥(p0.Nodes.length:Int)))=true then
   some (.done (Sum.inl ()))
  else
  if (a34==s26.1)=true then
   some (.done (Sum.inl ()))
  else
  (lkI s31.2.2 s26.1).bind fun a42 =>
  if 0≤a34 then
   some (.next (a34,zw (s31.2.1+1),(List.set s31.2.2 (Int.toNat s26.1) (zv (zb a42 ||| zb (zv (1*2^min (Int.toNat a34) (IntKind.bits .u64)))).toNat))))
  else none
 else
 some (.done (Sum.inr s31.2.2))
def Qay (p0:Qg) (x23:(Int × (List Int))) (s26:(Int × (List Int))):Option (Ql (Int × (List Int)) (Unit ⊕ (List Int))) :=
 if (decide (s26.1 < (p0.Nodes.length:Int)))=true then
  (lkI p0.Nodes s26.1).bind fun a29 =>
  (Qb fuel (Qgn a29 p0 s26) (-1,0,s26.2)).bind fun x45=>match x45 with
  | .inl x46=>(
   some (.done (Sum.inl ())))
  | .inr x47=>(
   (Xs (Qw.mk p0 x23.2 x47 []) a29).bind fun x48 =>
   if (!x48)=true then
    some (.done (Sum.inl ()))
   else
   some (.next (zw (s26.1+1),x47)))
 else
 some (.done (Sum.inr s26.2))
def X0 (x54:(List Int)) (s59:(Int × (List Int))):Option (Ql (Int × (List Int)) (List Int)) :=
 if (decide (s59.1 < (x54.length:Int)))=true then
  (lkI s59.2 s59.1).bind fun a62 =>
  if 0≤s59.1 then
   some (.next (zw (s59.1+1),(List.set s59.2 (Int.toNat s59.1) (zv (zb a62 ||| zb (zv (1*2^min (Int.toNat s59.1) (IntKind.bits .u64)))).toNat))))
  else none
 else
 some (.done s59.2)
def Zw (p0:Qg):Option ((List Int) × Int) :=
 if (decide (p0.Grain < 1))=true then
  some (([]:(List Int)),50)
 else
 if (decide (p0.Grain > 60))=true then
  some (([]:(List Int)),50)
 else
 if (decide ((p0.Nodes.length:Int) < 1))=true then
  some (([]:(List Int)),50)
 else
 if (decide ((p0.Nodes.length:Int) > 8))=true then
  some (([]:(List Int)),50)
 else
 if 0≤(p0.Nodes.length:Int)∧(p0.Nodes.length:Int)≤(p0.Nodes.length:Int)∧(p0.Nodes.length:Int)*8≤140737488355328 then
  if 0≤(p0.Nodes.length:Int)∧(p0.Nodes.length:Int)≤(p0.Nodes.length:Int)∧(p0.Nodes.length:Int)*8≤140737488355328 then
   (Qb fuel (Qa4 p0) (1,0,(List.replicate (Int.toNat (p0.Nodes.length:Int)) (0:Int)))).bind fun x21=>match x21 with
   | .inl x22=>(
    some (([]:(List Int)),50))
   | .inr x23=>(
    if (decide (x23.1 > 1024))=true then
     some (([]:(List Int)),50)
    else
    (Qb fuel (Qay p0 x23) (0,(List.replicate (Int.toNat (p0.Nodes.length:Int)) (0:Int)))).bind fun x52=>match x52 with
    | .inl x53=>(
     some (([]:(List Int)),50))
    | .inr x54=>(
     (X3 x54).bind fun x55 =>
     if (!x55.2)=true then
      some (([]:(List Int)),50)
     else
     (Qb fuel (X0 x54) (0,x54)).bind fun x66 =>
     some (x66,0)))
  else none
 else none
def Yj (p1:Qe) (x1:((List Int) × Int)) (s13:(Int × Int)):Option (Ql (Int × Int) (Unit ⊕ Unit)) :=
 if (decide (s13.2 < (p1.Cliques.length:Int)))=true then
  (lkI p1.Cliques s13.2).bind fun a16 =>
  if (a16==0)=true then
   some (.done (Sum.inl ()))
  else
  if 0≤(x1.1.length:Int) then
   if ((Int.fdiv a16 (2^min (Int.toNat (x1.1.length:Int)) (IntKind.bits .u64))) != 0)=true then
    some (.done (Sum.inl ()))
   else
   (lkI p1.Up s13.2).bind fun a22 =>
   if (s13.2==0)=true then
    if (a22 != (-1))=true then
     some (.done (Sum.inl ()))
    else
    some (.next (zv (zb s13.1 ||| zb a16).toNat,zw (s13.2+1)))
   else
   if (decide (a22 < 0))=true then
    some (.done (Sum.inl ()))
   else
   if (decide (a22≥s13.2))=true then
    some (.done (Sum.inl ()))
   else
   (lkI p1.Cliques a22).bind fun a32 =>
   if ((zv (zb (zv (zb a16 &&& zb s13.1).toNat) &&& ~~~ zb a32).toNat) != 0)=true then
    some (.done (Sum.inl ()))
   else
   some (.next (zv (zb s13.1 ||| zb a16).toNat,zw (s13.2+1)))
  else none
 else
 some (.done (Sum.inr ()))
def Yn (p1:Qe) (x1:((List Int) × Int)) (s39:Int):Option (Ql Int (Unit ⊕ Unit)) :=
 if (decide (s39 < (p1.Home.length:Int)))=true then
  (lkI p1.Home s39).bind fun a42 =>
  if (decide (a42 < 0))=true then
   some (.done (Sum.inl ()))
  else
  if (decide (a42≥(p1.Cliques.length:Int)))=true then
   some (.done (Sum.inl ()))
  else
  (lkI x1.1 s39).bind fun a48 =>
  (lkI p1.Cliques a42).bind fun a50 =>
  if ((zv (zb a48 &&& ~~~ zb a50).toNat) != 0)=true then
   some (.done (Sum.inl ()))
  else
  some (.next (zw (s39+1)))
 else
 some (.done (Sum.inr ()))
def Xp (p0:Qg) (p1:Qe):Option Int :=
 (Zw p0).bind fun x1 =>
 if (x1.2 != 0)=true then
  some x1.2
 else
 if (decide ((p1.Cliques.length:Int) < 1))=true then
  some 100
 else
 if (decide ((p1.Cliques.length:Int) > 8))=true then
  some 100
 else
 if ((p1.Up.length:Int) != (p1.Cliques.length:Int))=true then
  some 100
 else
 if ((p1.Home.length:Int) != (x1.1.length:Int))=true then
  some 100
 else
 (Qb fuel (Yj p1 x1) (0,0)).bind fun x36=>match x36 with
 | .inl x37=>(
  some 100)
 | .inr x38=>(
  (Qb fuel (Yn p1 x1) 0).bind fun x54=>match x54 with
  | .inl x55=>(
   some 100)
  | .inr x56=>(
   some 0))
def Qam (p0:Int):Option Int :=
 some (zw (BitVec.ofInt (IntKind.bits .i64) (zw (zv ((zv ((zv ((zv (zb (zv ((Int.fdiv (zv ((zv (zb (Int.fdiv (zv ((zv (zb (Int.fdiv p0 (2^min (Int.toNat 1) (IntKind.bits .u64))) &&& zb 6148914691236517205).toNat)+(zv (zb p0 &&& zb 6148914691236517205).toNat))) (2^min (Int.toNat 2) (IntKind.bits .u64))) &&& zb 3689348814741910323).toNat)+(zv (zb (zv ((zv (zb (Int.fdiv p0 (2^min (Int.toNat 1) (IntKind.bits .u64))) &&& zb 6148914691236517205).toNat)+(zv (zb p0 &&& zb 6148914691236517205).toNat))) &&& zb 3689348814741910323).toNat))) (2^min (Int.toNat 4) (IntKind.bits .u64)))+(zv ((zv (zb (Int.fdiv (zv ((zv (zb (Int.fdiv p0 (2^min (Int.toNat 1) (IntKind.bits .u64))) &&& zb 6148914691236517205).toNat)+(zv (zb p0 &&& zb 6148914691236517205).toNat))) (2^min (Int.toNat 2) (IntKind.bits .u64))) &&& zb 3689348814741910323).toNat)+(zv (zb (zv ((zv (zb (Int.fdiv p0 (2^min (Int.toNat 1) (IntKind.bits .u64))) &&& zb 6148914691236517205).toNat)+(zv (zb p0 &&& zb 6148914691236517205).toNat))) &&& zb 3689348814741910323).toNat))))) &&& zb 1085102592571150095).toNat)+(Int.fdiv (zv (zb (zv ((Int.fdiv (zv ((zv (zb (Int.fdiv (zv ((zv (zb (Int.fdiv p0 (2^min (Int.toNat 1) (IntKind.bits .u64))) &&& zb 6148914691236517205).toNat)+(zv (zb p0 &&& zb 6148914691236517205).toNat))) (2^min (Int.toNat 2) (IntKind.bits .u64))) &&& zb 3689348814741910323).toNat)+(zv (zb (zv ((zv (zb (Int.fdiv p0 (2^min (Int.toNat 1) (IntKind.bits .u64))) &&& zb 6148914691236517205).toNat)+(zv (zb p0 &&& zb 6148914691236517205).toNat))) &&& zb 3689348814741910323).toNat))) (2^min (Int.toNat 4) (IntKind.bits .u64)))+(zv ((zv (zb (Int.fdiv (zv ((zv (zb (Int.fdiv p0 (2^min (Int.toNat 1) (IntKind.bits .u64))) &&& zb 6148914691236517205).toNat)+(zv (zb p0 &&& zb 6148914691236517205).toNat))) (2^min (Int.toNat 2) (IntKind.bits .u64))) &&& zb 3689348814741910323).toNat)+(zv (zb (zv ((zv (zb (Int.fdiv p0 (2^min (Int.toNat 1) (IntKind.bits .u64))) &&& zb 6148914691236517205).toNat)+(zv (zb p0 &&& zb 6148914691236517205).toNat))) &&& zb 3689348814741910323).toNat))))) &&& zb 1085102592571150095).toNat) (2^min (Int.toNat 8) (IntKind.bits .u64)))))+(Int.fdiv (zv ((zv (zb (zv ((Int.fdiv (zv ((zv (zb (Int.fdiv (zv ((zv (zb (Int.fdiv p0 (2^min (Int.toNat 1) (IntKind.bits .u64))) &&& zb 6148914691236517205).toNat)+(zv (zb p0 &&& zb 6148914691236517205).toNat))) (2^min (Int.toNat 2) (IntKind.bits .u64))) &&& zb 3689348814741910323).toNat)+(zv (zb (zv ((zv (zb (Int.fdiv p0 (2^min (Int.toNat 1) (IntKind.bits .u64))) &&& zb 6148914691236517205).toNat)+(zv (zb p0 &&& zb 6148914691236517205).toNat))) &&& zb 3689348814741910323).toNat))) (2^min (Int.toNat 4) (IntKind.bits .u64)))+(zv ((zv (zb (Int.fdiv (zv ((zv (zb (Int.fdiv p0 (2^min (Int.toNat 1) (IntKind.bits .u64))) &&& zb 6148914691236517205).toNat)+(zv (zb p0 &&& zb 6148914691236517205).toNat))) (2^min (Int.toNat 2) (IntKind.bits .u64))) &&& zb 3689348814741910323).toNat)+(zv (zb (zv ((zv (zb (Int.fdiv p0 (2^min (Int.toNat 1) (IntKind.bits .u64))) &&& zb 6148914691236517205).toNat)+(zv (zb p0 &&& zb 6148914691236517205).toNat))) &&& zb 3689348814741910323).toNat))))) &&& zb 1085102592571150095).toNat)+(Int.fdiv (zv (zb (zv ((Int.fdiv (zv ((zv (zb (Int.fdiv (zv ((zv (zb (Int.fdiv p0 (2^min (Int.toNat 1) (IntKind.bits .u64))) &&& zb 6148914691236517205).toNat)+(zv (zb p0 &&& zb 6148914691236517205).toNat))) (2^min (Int.toNat 2) (IntKind.bits .u64))) &&& zb 3689348814741910323).toNat)+(zv (zb (zv ((zv (zb (Int.fdiv p0 (2^min (Int.toNat 1) (IntKind.bits .u64))) &&& zb 6148914691236517205).toNat)+(zv (zb p0 &&& zb 6148914691236517205).toNat))) &&& zb 3689348814741910323).toNat))) (2^min (Int.toNat 4) (IntKind.bits .u64)))+(zv ((zv (zb (Int.fdiv (zv ((zv (zb (Int.fdiv p0 (2^min (Int.toNat 1) (IntKind.bits .u64))) &&& zb 6148914691236517205).toNat)+(zv (zb p0 &&& zb 6148914691236517205).toNat))) (2^min (Int.toNat 2) (IntKind.bits .u64))) &&& zb 3689348814741910323).toNat)+(zv (zb (zv ((zv (zb (Int.fdiv p0 (2^min (Int.toNat 1) (IntKind.bits .u64))) &&& zb 6148914691236517205).toNat)+(zv (zb p0 &&& zb 6148914691236517205).toNat))) &&& zb 3689348814741910323).toNat))))) &&& zb 1085102592571150095).toNat) (2^min (Int.toNat 8) (IntKind.bits .u64))))) (2^min (Int.toNat 16) (IntKind.bits .u64)))))+(Int.fdiv (zv ((zv ((zv (zb (zv ((Int.fdiv (zv ((zv (zb (Int.fdiv (zv ((zv (zb (Int.fdiv p0 (2^min (Int.toNat 1) (IntKind.bits .u64))) &&& zb 6148914691236517205).toNat)+(zv (zb p0 &&& zb 6148914691236517205).toNat))) (2^min (Int.toNat 2) (IntKind.bits .u64))) &&& zb 3689348814741910323).toNat)+(zv (zb (zv ((zv (zb (Int.fdiv p0 (2^min (Int.toNat 1) (IntKind.bits .u64))) &&& zb 6148914691236517205).toNat)+(zv (zb p0 &&& zb 6148914691236517205).toNat))) &&& zb 3689348814741910323).toNat))) (2^min (Int.toNat 4) (IntKind.bits .u64)))+(zv ((zv (zb (Int.fdiv (zv ((zv (zb (Int.fdiv p0 (2^min (Int.toNat 1) (IntKind.bits .u64))) &&& zb 6148914691236517205).toNat)+(zv (zb p0 &&& zb 6148914691236517205).toNat))) (2^min (Int.toNat 2) (IntKind.bits .u64))) &&& zb 3689348814741910323).toNat)+(zv (zb (zv ((zv (zb (Int.fdiv p0 (2^min (Int.toNat 1) (IntKind.bits .u64))) &&& zb 6148914691236517205).toNat)+(zv (zb p0 &&& zb 6148914691236517205).toNat))) &&& zb 3689348814741910323).toNat))))) &&& zb 1085102592571150095).toNat)+(Int.fdiv (zv (zb (zv ((Int.fdiv (zv ((zv (zb (Int.fdiv (zv ((zv (zb (Int.fdiv p0 (2^min (Int.toNat 1) (IntKind.bits .u64))) &&& zb 6148914691236517205).toNat)+(zv (zb p0 &&& zb 6148914691236517205).toNat))) (2^min (Int.toNat 2) (IntKind.bits .u64))) &&& zb 3689348814741910323).toNat)+(zv (zb (zv ((zv (zb (Int.fdiv p0 (2^min (Int.toNat 1) (IntKind.bits .u64))) &&& zb 6148914691236517205).toNat)+(zv (zb p0 &&& zb 6148914691236517205).toNat))) &&& zb 3689348814741910323).toNat))) (2^min (Int.toNat 4) (IntKind.bits .u64)))+(zv ((zv (zb (Int.fdiv (zv ((zv (zb (Int.fdiv p0 (2^min (Int.toNat 1) (IntKind.bits .u64))) &&& zb 6148914691236517205).toNat)+(zv (zb p0 &&& zb 6148914691236517205).toNat))) (2^min (Int.toNat 2) (IntKind.bits .u64))) &&& zb 3689348814741910323).toNat)+(zv (zb (zv ((zv (zb (Int.fdiv p0 (2^min (Int.toNat 1) (IntKind.bits .u64))) &&& zb 6148914691236517205).toNat)+(zv (zb p0 &&& zb 6148914691236517205).toNat))) &&& zb 3689348814741910323).toNat))))) &&& zb 1085102592571150095).toNat) (2^min (Int.toNat 8) (IntKind.bits .u64)))))+(Int.fdiv (zv ((zv (zb (zv ((Int.fdiv (zv ((zv (zb (Int.fdiv (zv ((zv (zb (Int.fdiv p0 (2^min (Int.toNat 1) (IntKind.bits .u64))) &&& zb 6148914691236517205).toNat)+(zv (zb p0 &&& zb 6148914691236517205).toNat))) (2^min (Int.toNat 2) (IntKind.bits .u64))) &&& zb 3689348814741910323).toNat)+(zv (zb (zv ((zv (zb (Int.fdiv p0 (2^min (Int.toNat 1) (IntKind.bits .u64))) &&& zb 6148914691236517205).toNat)+(zv (zb p0 &&& zb 6148914691236517205).toNat))) &&& zb 3689348814741910323).toNat))) (2^min (Int.toNat 4) (IntKind.bits .u64)))+(zv ((zv (zb (Int.fdiv (zv ((zv (zb (Int.fdiv p0 (2^min (Int.toNat 1) (IntKind.bits .u64))) &&& zb 6148914691236517205).toNat)+(zv (zb p0 &&& zb 6148914691236517205).toNat))) (2^min (Int.toNat 2) (IntKind.bits .u64))) &&& zb 3689348814741910323).toNat)+(zv (zb (zv ((zv (zb (Int.fdiv p0 (2^min (Int.toNat 1) (IntKind.bits .u64))) &&& zb 6148914691236517205).toNat)+(zv (zb p0 &&& zb 6148914691236517205).toNat))) &&& zb 3689348814741910323).toNat))))) &&& zb 1085102592571150095).toNat)+(Int.fdiv (zv (zb (zv ((Int.fdiv (zv ((zv (zb (Int.fdiv (zv ((zv (zb (Int.fdiv p0 (2^min (Int.toNat 1) (IntKind.bits .u64))) &&& zb 6148914691236517205).toNat)+(zv (zb p0 &&& zb 6148914691236517205).toNat))) (2^min (Int.toNat 2) (IntKind.bits .u64))) &&& zb 3689348814741910323).toNat)+(zv (zb (zv ((zv (zb (Int.fdiv p0 (2^min (Int.toNat 1) (IntKind.bits .u64))) &&& zb 6148914691236517205).toNat)+(zv (zb p0 &&& zb 6148914691236517205).toNat))) &&& zb 3689348814741910323).toNat))) (2^min (Int.toNat 4) (IntKind.bits .u64)))+(zv ((zv (zb (Int.fdiv (zv ((zv (zb (Int.fdiv p0 (2^min (Int.toNat 1) (IntKind.bits .u64))) &&& zb 6148914691236517205).toNat)+(zv (zb p0 &&& zb 6148914691236517205).toNat))) (2^min (Int.toNat 2) (IntKind.bits .u64))) &&& zb 3689348814741910323).toNat)+(zv (zb (zv ((zv (zb (Int.fdiv p0 (2^min (Int.toNat 1) (IntKind.bits .u64))) &&& zb 6148914691236517205).toNat)+(zv (zb p0 &&& zb 6148914691236517205).toNat))) &&& zb 3689348814741910323).toNat))))) &&& zb 1085102592571150095).toNat) (2^min (Int.toNat 8) (IntKind.bits .u64))))) (2^min (Int.toNat 16) (IntKind.bits .u64))))) (2^min (Int.toNat 32) (IntKind.bits .u64)))))) &&& BitVec.ofInt (IntKind.bits .i64) 127).toNat)
def Zb (p0:Int):Option Int :=
 (Qam p0).bind fun x1 =>
 some x1
def Jk (p1:Qe) (s5:(Int × Int)):Option (Ql (Int × Int) Int) :=
 if (decide (s5.2 < (p1.Cliques.length:Int)))=true then
  (lkI p1.Cliques s5.2).bind fun a8 =>
  (Zb a8).bind fun x10 =>
  some (.next ((if x10 > s5.1 then x10 else s5.1),zw (s5.2+1)))
 else
 some (.done s5.1)
def Vd (p0:Qg) (p1:Qe):Option (Int × Int) :=
 (Xp p0 p1).bind fun x1 =>
 if (x1 != 0)=true then
  some (0,x1)
 else
 (Qb fuel (Jk p1) (0,0)).bind fun x13 =>
 some (zw (x13 - 1),0)
def Qfa (p0:Qg) (p1:Qe) (p2:Int):Option (Int × Int) :=
 (Xp p0 p1).bind fun x1 =>
 if (x1 != 0)=true then
  some (0,x1)
 else
 if (decide (p2 < 1))=true then
  some (0,2)
 else
 if (decide (p2≥(p1.Cliques.length:Int)))=true then
  some (0,2)
 else
 (lkI p1.Cliques p2).bind fun a9 =>
 (lkI p1.Up p2).bind fun a11 =>
 (lkI p1.Cliques a11).bind fun a13 =>
 some (zv (zb a9 &&& zb a13).toNat,0)
def X1 (s1:(Int × (List Int))) (a4:Int) (s6:(Int × (List Int))):Option (Ql (Int × (List Int)) (List Int)) :=
 if (decide (s6.1 < (s1.2.length:Int)))=true then
  if 0≤s6.1 then
   if ((zv (zb (Int.fdiv (zv (zb a4 ||| zb (zv (1*2^min (Int.toNat s1.1) (IntKind.bits .u64)))).toNat) (2^min (Int.toNat s6.1) (IntKind.bits .u64))) &&& zb 1).toNat)==1)=true then
    (lkI s6.2 s6.1).bind fun a11 =>
    if 0≤s6.1 then
     some (.next (zw (s6.1+1),(List.set s6.2 (Int.toNat s6.1) (zv (zb a11 ||| zb (zv (zb (zv (zb a4 ||| zb (zv (1*2^min (Int.toNat s1.1) (IntKind.bits .u64)))).toNat) &&& ~~~ zb (zv (1*2^min (Int.toNat s6.1) (IntKind.bits .u64)))).toNat)).toNat))))
    else none
   else
   some (.next (zw (s6.1+1),s6.2))
  else none
 else
 some (.done s6.2)
def Va (p0:Qw) (s1:(Int × (List Int))):Option (Ql (Int × (List Int)) (List Int)) :=
 if (decide (s1.1 < (p0.sets.length:Int)))=true then
  (lkI p0.sets s1.1).bind fun a4 =>
  if 0≤s1.1 then
   (Qb fuel (X1 s1 a4) (0,s1.2)).bind fun x15 =>
   some (.next (zw (s1.1+1),x15))
  else none
 else
 some (.done s1.2)
def V9 (p0:Qw):Option (List Int) :=
 if 0≤(p0.sets.length:Int)∧(p0.sets.length:Int)≤(p0.sets.length:Int)∧(p0.sets.length:Int)*8≤140737488355328 then
  (Qb fuel (Va p0) (0,(List.replicate (Int.toNat (p0.sets.length:Int)) (0:Int)))).bind fun x17 =>
  some x17
 else none
def Kk (p0:Qg):Option ((List Int) × Int) :=
 (Ka p0).bind fun x1 =>
 if (x1.2 != 0)=true then
  some (([]:(List Int)),x1.2)
 else
 (V9 x1.1).bind fun x5 =>
 some (x5,0)
def Vl (c0:Int) (d0:(List Int)):Option (List Int) :=
 if (c0::d0).length*8≤140737488355328 then
  some (c0::d0)
 else none
def Vp  : Option (List Int) :=
 some ([]:(List Int))
def Vm  : Option (List Int) :=
 some ([]:(List Int))
def Q3 (p0:(List Int)):Option (List Int) :=
 match p0 with
 | []=>(Vm).bind fun x=>(Vp).bind fun y=>if x=y then some x else none
 | c0::d0=>Vl c0 d0
def Zp (s3:(Int × Int × (List Int) × (List Int))) (a8:Int) (a6:Int) (s10:Int):Option (Ql Int (Unit ⊕ Unit)) :=
 if (decide (s10 < (s3.2.2.1.length:Int)))=true then
  (lkI s3.2.2.1 s10).bind fun a13 =>
  if ((zv (zb (zv (zb (zv (zb a8 &&& zb s3.1).toNat) ||| zb (zv (1*2^min (Int.toNat a6) (IntKind.bits .u64)))).toNat) &&& ~~~ zb a13).toNat)==0)=true then
   some (.done (Sum.inl ()))
  else
  some (.next (zw (s10+1)))
 else
 some (.done (Sum.inr ()))
def Z4 (s3:(Int × Int × (List Int) × (List Int))) (a8:Int) (a6:Int) (s19:(Int × (List Int))):Option (Ql (Int × (List Int)) (List Int)) :=
 if (decide (s19.1 < (s3.2.2.2.length:Int)))=true then
  if 0≤s19.1 then
   if ((zv (zb (Int.fdiv (zv (zb (zv (zb a8 &&& zb s3.1).toNat) ||| zb (zv (1*2^min (Int.toNat a6) (IntKind.bits .u64)))).toNat) (2^min (Int.toNat s19.1) (IntKind.bits .u64))) &&& zb 1).toNat)==1)=true then
    (lkI s19.2 s19.1).bind fun a24 =>
    if 0≤s19.1 then
     some (.next (zw (s19.1+1),(List.set s19.2 (Int.toNat s19.1) (zv (zb a24 ||| zb (zv (zb (zv (zb (zv (zb a8 &&& zb s3.1).toNat) ||| zb (zv (1*2^min (Int.toNat a6) (IntKind.bits .u64)))).toNat) &&& ~~~ zb (zv (1*2^min (Int.toNat s19.1) (IntKind.bits .u64)))).toNat)).toNat))))
    else none
   else
   some (.next (zw (s19.1+1),s19.2))
  else none
 else
 some (.done s19.2)
def Qao (s3:(Int × Int × (List Int) × (List Int))) (a8:Int) (a6:Int) (s30:(Int × (List Int))):Option (Ql (Int × (List Int)) (List Int)) :=
 if (decide (s30.1 < (s3.2.2.2.length:Int)))=true then
  if 0≤s30.1 then
   if ((zv (zb (Int.fdiv (zv (zb (zv (zb a8 &&& zb s3.1).toNat) ||| zb (zv (1*2^min (Int.toNat a6) (IntKind.bits .u64)))).toNat) (2^min (Int.toNat s30.1) (IntKind.bits .u64))) &&& zb 1).toNat)==1)=true then
    (lkI s30.2 s30.1).bind fun a35 =>
    if 0≤s30.1 then
     some (.next (zw (s30.1+1),(List.set s30.2 (Int.toNat s30.1) (zv (zb a35 ||| zb (zv (zb (zv (zb (zv (zb a8 &&& zb s3.1).toNat) ||| zb (zv (1*2^min (Int.toNat a6) (IntKind.bits .u64)))).toNat) &&& ~~~ zb (zv (1*2^min (Int.toNat s30.1) (IntKind.bits .u64)))).toNat)).toNat))))
    else none
   else
   some (.next (zw (s30.1+1),s30.2))
  else none
 else
 some (.done s30.2)
def Xv (p0:Ttree_maker) (s3:(Int × Int × (List Int) × (List Int))):Option (Ql (Int × Int × (List Int) × (List Int)) (List Int)) :=
 if (decide (s3.2.1 < (p0.order.length:Int)))=true then
  (lkI p0.order s3.2.1).bind fun a6 =>
  (lkI s3.2.2.2 a6).bind fun a8 =>
  if 0≤a6 then
   (Qb fuel (Zp s3 a8 a6) 0).bind fun x17=>match x17 with
   | .inl x18=>(
    if 0≤a6 then
     (Qb fuel (Z4 s3 a8 a6) (0,s3.2.2.2)).bind fun x28 =>
     some (.next (zv (zb s3.1 &&& ~~~ zb (zv (1*2^min (Int.toNat a6) (IntKind.bits .u64)))).toNat,zw (s3.2.1+1),s3.2.2.1,x28))
    else none)
   | .inr x29=>(
    if (s3.2.2.1++([zv (zb (zv (zb a8 &&& zb s3.1).toNat) ||| zb (zv (1*2^min (Int.toNat a6) (IntKind.bits .u64)))).toNat]:(List Int))).length*8≤140737488355328 then
     if 0≤a6 then
      (Qb fuel (Qao s3 a8 a6) (0,s3.2.2.2)).bind fun x39 =>
      some (.next (zv (zb s3.1 &&& ~~~ zb (zv (1*2^min (Int.toNat a6) (IntKind.bits .u64)))).toNat,zw (s3.2.1+1),(s3.2.2.1++([zv (zb (zv (zb a8 &&& zb s3.1).toNat) ||| zb (zv (1*2^min (Int.toNat a6) (IntKind.bits .u64)))).toNat]:(List Int))),x39))
     else none
    else none)
  else none
 else
 some (.done s3.2.2.1)
def Vz (p0:Ttree_maker):Option (List Int) :=
 (Q3 p0.graph.near).bind fun x1 =>
 (Qb fuel (Xv p0) (18446744073709551615,0,([]:(List Int)),x1)).bind fun x41 =>
 some x41
def Qah (p0:(List Int)) (p1:Int) (s1:(Int × Int)):Option (Ql (Int × Int) Int) :=
 if (decide (s1.2 < (p0.length:Int)))=true then
  (lkI p0 s1.2).bind fun a4 =>
  (Zb (zv (zb a4 &&& zb p1).toNat)).bind fun x6 =>
  some (.next ((if x6 > s1.1 then x6 else s1.1),zw (s1.2+1)))
 else
 some (.done s1.1)
def Qdb (p0:(List Int)) (p1:Int):Option Int :=
 (Qb fuel (Qah p0 p1) (0,0)).bind fun x9 =>
 some x9
def Yv (p0:(List Int)) (c0:Int) (s1:Int):Option (Ql Int (Int ⊕ Unit)) :=
 if (decide (s1 < (p0.length:Int)))=true then
  (lkI p0 s1).bind fun a4 =>
  if ((zv (zb c0 &&& ~~~ zb a4).toNat)==0)=true then
   some (.done (Sum.inl s1))
  else
  some (.next (zw (s1+1)))
 else
 some (.done (Sum.inr ()))
def Vy (p0:(List Int)) (c0:Int):Option Int :=
 (Qb fuel (Yv p0 c0) 0).bind fun x8=>match x8 with
 | .inl x9=>(
  some x9)
 | .inr x10=>(
  some (-1))
def Jl (s11:((List Int) × (List Int) × (List Int))) (s18:(Int × Int × Int)):Option (Ql (Int × Int × Int) (Int × Int)) :=
 if (decide (s18.2.1 < (s11.1.length:Int)))=true then
  (lkI s11.1 s18.2.1).bind fun a21 =>
  (Qdb s11.2.1 a21).bind fun x23 =>
  if (decide (x23≥s18.2.2))=true then
   some (.next (s18.2.1,zw (s18.2.1+1),x23))
  else
  some (.next (s18.1,zw (s18.2.1+1),s18.2.2))
 else
 some (.done (s18.1,s18.2.2))
def Jp (s11:((List Int) × (List Int) × (List Int))) (a29:Int) (x28:(Int × Int)) (s31:Int):Option (Ql Int (Int ⊕ Unit)) :=
 if (decide (s31 < (s11.2.1.length:Int)))=true then
  (lkI s11.2.1 s31).bind fun a34 =>
  (Zb (zv (zb a34 &&& zb a29).toNat)).bind fun x36 =>
  if (x36==x28.2)=true then
   some (.done (Sum.inl s31))
  else
  some (.next (zw (s31+1)))
 else
 some (.done (Sum.inr ()))
def Vj  (s11:((List Int) × (List Int) × (List Int))):Option (Ql ((List Int) × (List Int) × (List Int)) ((List Int) × (List Int))) :=
 if (decide ((s11.1.length:Int) > 0))=true then
  (Qb fuel (Jl s11) (0,0,-1)).bind fun x28 =>
  (lkI s11.1 x28.1).bind fun a29 =>
  (Qb fuel (Jp s11 a29 x28) 0).bind fun x40=>match x40 with
  | .inl x41=>(
   if (s11.2.1++([a29]:(List Int))).length*8≤140737488355328 then
    if (s11.2.2++([x41]:(List Int))).length*8≤140737488355328 then
     if 0≤x28.1∧x28.1≤(zw (x28.1+1))∧(zw (x28.1+1))≤(s11.1.length:Int)∧(s11.1.length:Int)≤(s11.1.length:Int) then
      if (x28.1==(zw (x28.1+1)))=true then
       some (.next (s11.1,(s11.2.1++([a29]:(List Int))),(s11.2.2++([x41]:(List Int)))))
      else
      if 0≤(0:Int)∧(0:Int)≤x28.1∧x28.1≤(s11.1.length:Int) then
       if 0≤(zw (x28.1+1))∧(zw (x28.1+1))≤(s11.1.length:Int)∧(s11.1.length:Int)≤(s11.1.length:Int) then
        if (Int.toNat x28.1 - Int.toNat (0:Int)) < s11.1.length∧((Int.toNat x28.1 - Int.toNat (0:Int))+(sub s11.1 (zw (x28.1+1)) (s11.1.length:Int)).length)≤s11.1.length then
         if 0≤((((Int.toNat x28.1 - Int.toNat (0:Int))+(sub s11.1 (zw (x28.1+1)) (s11.1.length:Int)).length):Nat):Int)∧((((Int.toNat x28.1 - Int.toNat (0:Int))+(sub s11.1 (zw (x28.1+1)) (s11.1.length:Int)).length):Nat):Int)≤(s11.1.length:Int)∧(s11.1.length:Int)≤((ovr s11.1 (Int.toNat x28.1 - Int.toNat (0:Int)) (sub s11.1 (zw (x28.1+1)) (s11.1.length:Int))).length:Int) then
          if (Int.toNat ((((Int.toNat x28.1 - Int.toNat (0:Int))+(sub s11.1 (zw (x28.1+1)) (s11.1.length:Int)).length):Nat):Int))+(Int.toNat (s11.1.length:Int) - Int.toNat ((((Int.toNat x28.1 - Int.toNat (0:Int))+(sub s11.1 (zw (x28.1+1)) (s11.1.length:Int)).length):Nat):Int))≤(ovr s11.1 (Int.toNat x28.1 - Int.toNat (0:Int)) (sub s11.1 (zw (x28.1+1)) (s11.1.length:Int))).length then
           some (.next ((List.take ((Int.toNat x28.1 - Int.toNat (0:Int))+(sub s11.1 (zw (x28.1+1)) (s11.1.length:Int)).length) (ovr (ovr s11.1 (Int.toNat x28.1 - Int.toNat (0:Int)) (sub s11.1 (zw (x28.1+1)) (s11.1.length:Int))) (Int.toNat ((((Int.toNat x28.1 - Int.toNat (0:Int))+(sub s11.1 (zw (x28.1+1)) (s11.1.length:Int)).length):Nat):Int)) (List.replicate (Int.toNat (s11.1.length:Int) - Int.toNat ((((Int.toNat x28.1 - Int.toNat (0:Int))+(sub s11.1 (zw (x28.1+1)) (s11.1.length:Int)).length):Nat):Int)) 0))),(s11.2.1++([a29]:(List Int))),(s11.2.2++([x41]:(List Int)))))
          else none
         else none
        else none
       else none
      else none
     else none
    else none
   else none)
  | .inr x51=>(
   if (s11.2.1++([a29]:(List Int))).length*8≤140737488355328 then
    if (s11.2.2++([-1]:(List Int))).length*8≤140737488355328 then
     if 0≤x28.1∧x28.1≤(zw (x28.1+1))∧(zw (x28.1+1))≤(s11.1.length:Int)∧(s11.1.length:Int)≤(s11.1.length:Int) then
      if (x28.1==(zw (x28.1+1)))=true then
       some (.next (s11.1,(s11.2.1++([a29]:(List Int))),(s11.2.2++([-1]:(List Int)))))
      else
      if 0≤(0:Int)∧(0:Int)≤x28.1∧x28.1≤(s11.1.length:Int) then
       if 0≤(zw (x28.1+1))∧(zw (x28.1+1))≤(s11.1.length:Int)∧(s11.1.length:Int)≤(s11.1.length:Int) then
        if (Int.toNat x28.1 - Int.toNat (0:Int)) < s11.1.length∧((Int.toNat x28.1 - Int.toNat (0:Int))+(sub s11.1 (zw (x28.1+1)) (s11.1.length:Int)).length)≤s11.1.length then
         if 0≤((((Int.toNat x28.1 - Int.toNat (0:Int))+(sub s11.1 (zw (x28.1+1)) (s11.1.length:Int)).length):Nat):Int)∧((((Int.toNat x28.1 - Int.toNat (0:Int))+(sub s11.1 (zw (x28.1+1)) (s11.1.length:Int)).length):Nat):Int)≤(s11.1.length:Int)∧(s11.1.length:Int)≤((ovr s11.1 (Int.toNat x28.1 - Int.toNat (0:Int)) (sub s11.1 (zw (x28.1+1)) (s11.1.length:Int))).length:Int) then
          if (Int.toNat ((((Int.toNat x28.1 - Int.toNat (0:Int))+(sub s11.1 (zw (x28.1+1)) (s11.1.length:Int)).length):Nat):Int))+(Int.toNat (s11.1.length:Int) - Int.toNat ((((Int.toNat x28.1 - Int.toNat (0:Int))+(sub s11.1 (zw (x28.1+1)) (s11.1.length:Int)).length):Nat):Int))≤(ovr s11.1 (Int.toNat x28.1 - Int.toNat (0:Int)) (sub s11.1 (zw (x28.1+1)) (s11.1.length:Int))).length then
           some (.next ((List.take ((Int.toNat x28.1 - Int.toNat (0:Int))+(sub s11.1 (zw (x28.1+1)) (s11.1.length:Int)).length) (ovr (ovr s11.1 (Int.toNat x28.1 - Int.toNat (0:Int)) (sub s11.1 (zw (x28.1+1)) (s11.1.length:Int))) (Int.toNat ((((Int.toNat x28.1 - Int.toNat (0:Int))+(sub s11.1 (zw (x28.1+1)) (s11.1.length:Int)).length):Nat):Int)) (List.replicate (Int.toNat (s11.1.length:Int) - Int.toNat ((((Int.toNat x28.1 - Int.toNat (0:Int))+(sub s11.1 (zw (x28.1+1)) (s11.1.length:Int)).length):Nat):Int)) 0))),(s11.2.1++([a29]:(List Int))),(s11.2.2++([-1]:(List Int)))))
          else none
         else none
        else none
       else none
      else none
     else none
    else none
   else none)
 else
 some (.done (s11.2.1,s11.2.2))
def Ks (p1:(List Int)) (x62:((List Int) × (List Int))) (s63:(Int × (List Int))):Option (Ql (Int × (List Int)) (List Int)) :=
 if (decide (s63.1 < (p1.length:Int)))=true then
  (lkI p1 s63.1).bind fun a66 =>
  (Vy x62.1 a66).bind fun x68 =>
  if (s63.2++([x68]:(List Int))).length*8≤140737488355328 then
   some (.next (zw (s63.1+1),(s63.2++([x68]:(List Int)))))
  else none
 else
 some (.done s63.2)
def Kx (p0:Qg) (p1:(List Int)) (p2:(List Int)):Option (Qe × Int) :=
 (Kk p0).bind fun x1 =>
 if (x1.2 != 0)=true then
  some ((Qe.mk ([]:(List Int)) ([]:(List Int)) ([]:(List Int))),x1.2)
 else
 (Vz (Ttree_maker.mk (Ttree_graph.mk x1.1) p2)).bind fun x5 =>
 (lkI x5 (zw ((x5.length:Int) - 1))).bind fun a7 =>
 if 0≤(0:Int)∧(0:Int)≤(zw ((x5.length:Int) - 1))∧(zw ((x5.length:Int) - 1))≤(x5.length:Int) then
  (Qb fuel (Vj) ((List.take (Int.toNat (zw ((x5.length:Int) - 1))) x5),([a7]:(List Int)),([-1]:(List Int)))).bind fun x62 =>
  (Qb fuel (Ks p1 x62) (0,([]:(List Int)))).bind fun x71 =>
  some ((Qe.mk x62.1 x62.2 x71),0)
 else none
def Y3 (p1:(List Int)) (x1:((List Int) × Int)) (s7:(Int × Int)):Option (Ql (Int × Int) (Unit ⊕ Unit)) :=
 if (decide (s7.2 < (p1.length:Int)))=true then
  (lkI p1 s7.2).bind fun a10 =>
  if (decide (a10 < 0))=true then
   some (.done (Sum.inl ()))
  else
  if (decide (a10≥(x1.1.length:Int)))=true then
   some (.done (Sum.inl ()))
  else
  if 0≤a10 then
   if ((zv (zb (Int.fdiv s7.1 (2^min (Int.toNat a10) (IntKind.bits .u64))) &&& zb 1).toNat)==1)=true then
    some (.done (Sum.inl ()))
   else
   if 0≤a10 then
    some (.next (zv (zb s7.1 ||| zb (zv (1*2^min (Int.toNat a10) (IntKind.bits .u64)))).toNat,zw (s7.2+1)))
   else none
  else none
 else
 some (.done (Sum.inr ()))
def V0 (p0:Qg) (p1:(List Int)):Option (Qe × Int) :=
 (Zw p0).bind fun x1 =>
 if (x1.2 != 0)=true then
  some ((Qe.mk ([]:(List Int)) ([]:(List Int)) ([]:(List Int))),x1.2)
 else
 if ((p1.length:Int) != (x1.1.length:Int))=true then
  some ((Qe.mk ([]:(List Int)) ([]:(List Int)) ([]:(List Int))),2)
 else
 (Qb fuel (Y3 p1 x1) (0,0)).bind fun x18=>match x18 with
 | .inl x19=>(
  some ((Qe.mk ([]:(List Int)) ([]:(List Int)) ([]:(List Int))),2))
 | .inr x20=>(
  (Kx p0 x1.1 p1).bind fun x21 =>
  some (x21.1,x21.2))
def Qnd (p0:(List Int)) (p1:(List Int)) (s3:Int):Option (Ql Int (Unit ⊕ Unit)) :=
 if (decide (s3 < (p0.length:Int)))=true then
  (lkI p0 s3).bind fun a6 =>
  (lkI p1 s3).bind fun a8 =>
  if (a6 != a8)=true then
   some (.done (Sum.inl ()))
  else
  some (.next (zw (s3+1)))
 else
 some (.done (Sum.inr ()))
def Qi5 (p0:(List Int)) (p1:(List Int)):Option Bool :=
 if ((p0.length:Int) != (p1.length:Int))=true then
  some false
 else
 (Qb fuel (Qnd p0 p1) 0).bind fun x12=>match x12 with
 | .inl x13=>(
  some false)
 | .inr x14=>(
  some true)
def Qnn (p0:(List Int)) (p1:(List Int)) (s3:Int):Option (Ql Int (Unit ⊕ Unit)) :=
 if (decide (s3 < (p0.length:Int)))=true then
  (lkI p0 s3).bind fun a6 =>
  (lkI p1 s3).bind fun a8 =>
  if (a6 != a8)=true then
   some (.done (Sum.inl ()))
  else
  some (.next (zw (s3+1)))
 else
 some (.done (Sum.inr ()))
def Qfc (p0:(List Int)) (p1:(List Int)):Option Bool :=
 if ((p0.length:Int) != (p1.length:Int))=true then
  some false
 else
 (Qb fuel (Qnn p0 p1) 0).bind fun x12=>match x12 with
 | .inl x13=>(
  some false)
 | .inr x14=>(
  some true)
def Qep (p0:Qe) (p1:Qe):Option Bool :=
 (Qi5 p0.Cliques p1.Cliques).bind fun x1 =>
 if x1=true then
  (Qfc p0.Up p1.Up).bind fun x5 =>
  if x5=true then
   (Qfc p0.Home p1.Home).bind fun x9 =>
   some x9
  else
  some false
 else
 some false
def Y0 (p0:(List Int)) (s5:Int) (a8:Int) (s14:Int):Option (Ql Int (Unit ⊕ Unit)) :=
 if (decide (s14 < (p0.length:Int)))=true then
  if 0≤s14 then
   (lkI p0 s14).bind fun a17 =>
   if 0≤s5 then
    if ((zv (zb (Int.fdiv a8 (2^min (Int.toNat s14) (IntKind.bits .u64))) &&& zb 1).toNat) != (zv (zb (Int.fdiv a17 (2^min (Int.toNat s5) (IntKind.bits .u64))) &&& zb 1).toNat))=true then
     some (.done (Sum.inl ()))
    else
    some (.next (zw (s14+1)))
   else none
  else none
 else
 some (.done (Sum.inr ()))
def J7 (p0:(List Int)) (s5:Int):Option (Ql Int (Unit ⊕ Unit)) :=
 if (decide (s5 < (p0.length:Int)))=true then
  (lkI p0 s5).bind fun a8 =>
  if 0≤(p0.length:Int) then
   if ((Int.fdiv a8 (2^min (Int.toNat (p0.length:Int)) (IntKind.bits .u64))) != 0)=true then
    some (.done (Sum.inl ()))
   else
   if 0≤s5 then
    if ((zv (zb (Int.fdiv a8 (2^min (Int.toNat s5) (IntKind.bits .u64))) &&& zb 1).toNat)==1)=true then
     some (.done (Sum.inl ()))
    else
    (Qb fuel (Y0 p0 s5 a8) 0).bind fun x21=>match x21 with
    | .inl x22=>(
     some (.done (Sum.inl ())))
    | .inr x23=>(
     some (.next (zw (s5+1))))
   else none
  else none
 else
 some (.done (Sum.inr ()))
def Vn (p0:(List Int)):Option Int :=
 if (decide ((p0.length:Int) < 1))=true then
  some 80
 else
 if (decide ((p0.length:Int) > 10))=true then
  some 80
 else
 (Qb fuel (J7 p0) 0).bind fun x24=>match x24 with
 | .inl x25=>(
  some 80)
 | .inr x26=>(
  some 0)
def J2 (p0:Int):Option Int :=
 if (p0==0)=true then
  some 64
 else
 (lkI tab1 (Int.fdiv (zv ((zv (zb p0 &&& zb (zv (0 - p0))).toNat)*285870213051353865)) (2^min (Int.toNat 58) (IntKind.bits .u64)))).bind fun a3 =>
 some (zw (a3))
def Qt (p0:Int):Option Int :=
 (J2 p0).bind fun x1 =>
 some x1
def Qmq (p2:Int) (p0:(List Int)) (s3:(Int × Int × Int)):Option (Ql (Int × Int × Int) Int) :=
 if (s3.2.2 != 0)=true then
  (Qt s3.2.2).bind fun x6 =>
  if 0≤x6 then
   if 0≤x6 then
    if ((zv (zb (Int.fdiv p2 (2^min (Int.toNat x6) (IntKind.bits .u64))) &&& zb 1).toNat)==0)=true then
     if 0≤x6 then
      some (.next (zv (zb s3.1 ||| zb (zv (1*2^min (Int.toNat x6) (IntKind.bits .u64)))).toNat,zv (zb s3.2.1 ||| zb (zv (1*2^min (Int.toNat x6) (IntKind.bits .u64)))).toNat,zv (zb s3.2.2 &&& zb (zv (s3.2.2 - 1))).toNat))
     else none
    else
    (lkI p0 x6).bind fun a10 =>
    some (.next (zv (zb s3.1 ||| zb (zv (1*2^min (Int.toNat x6) (IntKind.bits .u64)))).toNat,s3.2.1,zv (zb (zv (zb s3.2.2 &&& zb (zv (s3.2.2 - 1))).toNat) ||| zb (zv (zb a10 &&& ~~~ zb (zv (zb s3.1 ||| zb (zv (1*2^min (Int.toNat x6) (IntKind.bits .u64)))).toNat)).toNat)).toNat))
   else none
  else none
 else
 some (.done s3.2.1)
def Qca (p0:(List Int)) (p1:Int) (p2:Int):Option Int :=
 if 0≤p1 then
  (lkI p0 p1).bind fun a1 =>
  (Qb fuel (Qmq p2 p0) (zv (1*2^min (Int.toNat p1) (IntKind.bits .u64)),0,a1)).bind fun x13 =>
  (Zb x13).bind fun x14 =>
  some x14
 else none
def Qma (p0:(List Int)) (s5:(Int × (List (Int × Int)))) (r6:((Int × (List (Int × Int)))→Option (Int × (List (Int × Int))))) (s10:(Int × (List (Int × Int)) × Int)):Option (Ql (Int × (List (Int × Int)) × Int) ((List (Int × Int)) × Int)) :=
 if (s10.1 != 0)=true then
  (Qt s10.1).bind fun x13 =>
  (Qca p0 x13 (zv (zb (zv ((zv (1*2^min (Int.toNat (p0.length:Int)) (IntKind.bits .u64))) - 1)) &&& ~~~ zb s5.1).toNat)).bind fun x15 =>
  if 0≤x13 then
   (r6 (zv (zb s5.1 &&& ~~~ zb (zv (1*2^min (Int.toNat x13) (IntKind.bits .u64)))).toNat,s10.2.1)).bind fun x17 =>
   some (.next (zv (zb s10.1 &&& zb (zv (s10.1 - 1))).toNat,x17.2,(if (if x17.1 > x15 then x17.1 else x15) < s10.2.2 then (if x17.1 > x15 then x17.1 else x15) else s10.2.2)))
  else none
 else
 some (.done (s10.2.1,s10.2.2))
def Qnv (p0:(List Int)) (r6:((Int × (List (Int × Int)))→Option (Int × (List (Int × Int))))) (s5:(Int × (List (Int × Int)))):Option (Int × (List (Int × Int))) :=
 if (Y4 s5.2 s5.1).isSome=true then
  some ((Y4 s5.2 s5.1).getD 0,s5.2)
 else
 (Qb fuel (Qma p0 s5 r6) (s5.1,s5.2,(p0.length:Int))).bind fun x19 =>
 some (x19.2,mput x19.1 s5.1 x19.2)
def Qnh (p0:(List Int)) (s34:(Int × (List (Int × Int)))) (r35:((Int × (List (Int × Int)))→Option (Int × (List (Int × Int))))) (s39:(Int × (List (Int × Int)) × Int)):Option (Ql (Int × (List (Int × Int)) × Int) ((List (Int × Int)) × Int)) :=
 if (s39.1 != 0)=true then
  (Qt s39.1).bind fun x42 =>
  (Qca p0 x42 (zv (zb (zv ((zv (1*2^min (Int.toNat (p0.length:Int)) (IntKind.bits .u64))) - 1)) &&& ~~~ zb s34.1).toNat)).bind fun x44 =>
  if 0≤x42 then
   (r35 (zv (zb s34.1 &&& ~~~ zb (zv (1*2^min (Int.toNat x42) (IntKind.bits .u64)))).toNat,s39.2.1)).bind fun x46 =>
   some (.next (zv (zb s39.1 &&& zb (zv (s39.1 - 1))).toNat,x46.2,(if (if x46.1 > x44 then x46.1 else x44) < s39.2.2 then (if x46.1 > x44 then x46.1 else x44) else s39.2.2)))
  else none
 else
 some (.done (s39.2.1,s39.2.2))
def Qmi (p0:(List Int)) (r35:((Int × (List (Int × Int)))→Option (Int × (List (Int × Int))))) (s34:(Int × (List (Int × Int)))):Option (Int × (List (Int × Int))) :=
 if (Y4 s34.2 s34.1).isSome=true then
  some ((Y4 s34.2 s34.1).getD 0,s34.2)
 else
 (Qb fuel (Qnh p0 s34 r35) (s34.1,s34.2,(p0.length:Int))).bind fun x48 =>
 some (x48.2,mput x48.1 s34.1 x48.2)
def Qnb (p0:(List Int)) (s22:(Int × (List Int) × (List (Int × Int)))) (x20:(Int × (List (Int × Int)))) (s25:(Int × (List (Int × Int)))):Option (Ql (Int × (List (Int × Int))) ((Int × (List (Int × Int)) × (List Int)) ⊕ (List (Int × Int)))) :=
 if (s25.1 != 0)=true then
  (Qt s25.1).bind fun x28 =>
  (Qca p0 x28 (zv (zb (zv ((zv (1*2^min (Int.toNat (p0.length:Int)) (IntKind.bits .u64))) - 1)) &&& ~~~ zb s22.1).toNat)).bind fun x30 =>
  if (decide (x30≤x20.1))=true then
   if 0≤x28 then
    (Qkc (Qmi p0) fuel (zv (zb s22.1 &&& ~~~ zb (zv (1*2^min (Int.toNat x28) (IntKind.bits .u64)))).toNat,s25.2)).bind fun x49 =>
    if (decide (x49.1≤x20.1))=true then
     if (s22.2.1++([x28]:(List Int))).length*8≤140737488355328 then
      if 0≤x28 then
       some (.done (Sum.inl (zv (zb s22.1 &&& ~~~ zb (zv (1*2^min (Int.toNat x28) (IntKind.bits .u64)))).toNat,x49.2,(s22.2.1++([x28]:(List Int))))))
      else none
     else none
    else
    some (.next (zv (zb s25.1 &&& zb (zv (s25.1 - 1))).toNat,x49.2))
   else none
  else
  some (.next (zv (zb s25.1 &&& zb (zv (s25.1 - 1))).toNat,s25.2))
 else
 some (.done (Sum.inr s25.2))
def Qna (p0:(List Int)) (x20:(Int × (List (Int × Int)))) (s22:(Int × (List Int) × (List (Int × Int)))):Option (Ql (Int × (List Int) × (List (Int × Int))) (List Int)) :=
 if (s22.1 != 0)=true then
  (Qb fuel (Qnb p0 s22 x20) (s22.1,s22.2.2)).bind fun x53=>match x53 with
  | .inl x54=>(
   some (.next (x54.1,x54.2.2,x54.2.1)))
  | .inr x55=>(
   some (.done s22.2.1))
 else
 some (.done s22.2.1)
def Qjg (p0:(List Int)):Option ((List Int) × Int × Int) :=
 (Vn p0).bind fun x1 =>
 if (x1 != 0)=true then
  some (([]:(List Int)),0,x1)
 else
 if 0≤(p0.length:Int) then
  (Qkc (Qnv p0) fuel (zv ((zv (1*2^min (Int.toNat (p0.length:Int)) (IntKind.bits .u64))) - 1),mput [] (0:Int) (0:Int))).bind fun x20 =>
  (Qb fuel (Qna p0 x20) (zv ((zv (1*2^min (Int.toNat (p0.length:Int)) (IntKind.bits .u64))) - 1),([]:(List Int)),x20.2)).bind fun x57 =>
  some (x57,x20.1,0)
 else none
def Qkh (p0:Qg):Option (Qe × Int) :=
 (Zw p0).bind fun x1 =>
 if (x1.2 != 0)=true then
  some ((Qe.mk ([]:(List Int)) ([]:(List Int)) ([]:(List Int))),x1.2)
 else
 (Kk p0).bind fun x5 =>
 if (x5.2 != 0)=true then
  some ((Qe.mk ([]:(List Int)) ([]:(List Int)) ([]:(List Int))),x5.2)
 else
 (Qjg x5.1).bind fun x9 =>
 if (x9.2.2 != 0)=true then
  some ((Qe.mk ([]:(List Int)) ([]:(List Int)) ([]:(List Int))),x9.2.2)
 else
 (Kx p0 x1.1 x9.1).bind fun x13 =>
 some (x13.1,x13.2)
def Qhc  : Option Qg :=
 some (Qg.mk 4 ([(Tapi_Node.mk 2 [] [[1,3]]),(Tapi_Node.mk 2 [0] [[4,0],[2,2]]),(Tapi_Node.mk 2 [1] [[1,3],[4,0]])]:(List Tapi_Node)))
def Qai  : Option Qe :=
 some (Qe.mk ([6,3]:(List Int)) ([-1,0]:(List Int)) ([1,1,0]:(List Int)))
def Qdy  : Option Bool :=
 (Qhc).bind fun x1 =>
 (V0 x1 [0,1,2]).bind fun x3 =>
 (Vd x1 x3.1).bind fun x5 =>
 (Qfa x1 x3.1 1).bind fun x7 =>
 (Qkh x1).bind fun x9 =>
 if (x3.2==0)=true then
  (Qai).bind fun x13 =>
  (Qep x3.1 x13).bind fun x15 =>
  if x15=true then
   if (x5.1==1)=true then
    if (x5.2==0)=true then
     if (x7.1==2)=true then
      if (x7.2==0)=true then
       if (x9.2==0)=true then
        (Qai).bind fun x29 =>
        (Qep x9.1 x29).bind fun x31 =>
        if x31=true then
         (Qai).bind fun x35 =>
         (Xp x1 x35).bind fun x37 =>
         if (x37==0)=true then
          (Xp x1 (Qe.mk [] [] [])).bind fun x41 =>
          some (x41==100)
         else
         some false
        else
        some false
       else
       some false
      else
      some false
     else
     some false
    else
    some false
   else
   some false
  else
  some false
 else
 some false
def Ju (p0:Tharuspexref02_Draft) (s1:(Int × (List Int))):Option (Ql (Int × (List Int)) (List Int)) :=
 if (decide (s1.1 < (p0.C.length:Int)))=true then
  if (decide (s1.1 < 5))=true then
   (lkI p0.C s1.1).bind fun a6 =>
   if (s1.2++([zw (1+(zw (Int.tmod a6 4)))]:(List Int))).length*8≤140737488355328 then
    some (.next (zw (s1.1+1),(s1.2++([zw (1+(zw (Int.tmod a6 4)))]:(List Int)))))
   else none
  else
  some (.done s1.2)
 else
 some (.done s1.2)
def Ja (p0:Tharuspexref02_Draft):Option (List Int) :=
 (Qb fuel (Ju p0) (0,([]:(List Int)))).bind fun x9 =>
 some x9
def Y1 (p0:Tharuspexref02_Draft) (s1:(Int × (List Int))):Option (Ql (Int × (List Int)) (List Int)) :=
 (Ja p0).bind fun x2 =>
 if (decide (s1.1 < (x2.length:Int)))=true then
  if (decide (s1.1 < (p0.Order.length:Int)))=true then
   (lkI p0.Order s1.1).bind fun a8 =>
   if (zw (s1.1+1))≠0 then
    if 0≤(0:Int)∧(0:Int)≤(Int.tmod (zw (a8)) (zw (s1.1+1)))∧(Int.tmod (zw (a8)) (zw (s1.1+1)))≤(s1.2.length:Int) then
     if (sub s1.2 0 (Int.tmod (zw (a8)) (zw (s1.1+1)))).length*8≤140737488355328 then
      if ((sub s1.2 0 (Int.tmod (zw (a8)) (zw (s1.1+1))))++([s1.1]:(List Int))).length*8≤140737488355328 then
       if 0≤(Int.tmod (zw (a8)) (zw (s1.1+1)))∧(Int.tmod (zw (a8)) (zw (s1.1+1)))≤(s1.2.length:Int)∧(s1.2.length:Int)≤(s1.2.length:Int) then
        if (((sub s1.2 0 (Int.tmod (zw (a8)) (zw (s1.1+1))))++([s1.1]:(List Int)))++(sub s1.2 (Int.tmod (zw (a8)) (zw (s1.1+1))) (s1.2.length:Int))).length*8≤140737488355328 then
         some (.next (zw (s1.1+1),(((sub s1.2 0 (Int.tmod (zw (a8)) (zw (s1.1+1))))++([s1.1]:(List Int)))++(sub s1.2 (Int.tmod (zw (a8)) (zw (s1.1+1))) (s1.2.length:Int)))))
        else none
       else none
      else none
     else none
    else none
   else none
  else
  if 0≤(0:Int)∧(0:Int)≤(0:Int)∧(0:Int)≤(s1.2.length:Int) then
   if (sub s1.2 0 0).length*8≤140737488355328 then
    if ((sub s1.2 0 0)++([s1.1]:(List Int))).length*8≤140737488355328 then
     if 0≤(0:Int)∧(0:Int)≤(s1.2.length:Int)∧(s1.2.length:Int)≤(s1.2.length:Int) then
      if (((sub s1.2 0 0)++([s1.1]:(List Int)))++(sub s1.2 0 (s1.2.length:Int))).length*8≤140737488355328 then
       some (.next (zw (s1.1+1),(((sub s1.2 0 0)++([s1.1]:(List Int)))++(sub s1.2 0 (s1.2.length:Int)))))
      else none
     else none
    else none
   else none
  else none
 else
 some (.done s1.2)
def Yh (p0:Tharuspexref02_Draft):Option (List Int) :=
 (Qb fuel (Y1 p0) (0,([]:(List Int)))).bind fun x15 =>
 some x15
def Qcl (p0:(List Int)) (s1:(Int × Int)):Option (Ql (Int × Int) Int) :=
 if (decide (s1.2 < (p0.length:Int)))=true then
  (lkI p0 s1.2).bind fun a4 =>
  some (.next (zw (s1.1*a4),zw (s1.2+1)))
 else
 some (.done s1.1)
def K5 (p0:(List Int)):Option Int :=
 (Qb fuel (Qcl p0) (1,0)).bind fun x7 =>
 some x7
def Qdq (p1:(List Int)) (p0:(List Int)) (s1:(Int × (List Int))):Option (Ql (Int × (List Int)) (List Int)) :=
 if (decide (s1.1 < (p1.length:Int)))=true then
  (lkI p1 s1.1).bind fun a4 =>
  (lkI p0 a4).bind fun a6 =>
  if (s1.2++([a6]:(List Int))).length*8≤140737488355328 then
   some (.next (zw (s1.1+1),(s1.2++([a6]:(List Int)))))
  else none
 else
 some (.done s1.2)
def Qd6 (p0:(List Int)) (p1:(List Int)):Option (List Int) :=
 (Qb fuel (Qdq p1 p0) (0,([]:(List Int)))).bind fun x9 =>
 some x9
def Qbd (p0:Qg) (s1:(Int × (List Int))):Option (Ql (Int × (List Int)) (List Int)) :=
 if (decide (s1.1 < (p0.Nodes.length:Int)))=true then
  (lkI p0.Nodes s1.1).bind fun a4 =>
  if (s1.2++([a4.Card]:(List Int))).length*8≤140737488355328 then
   some (.next (zw (s1.1+1),(s1.2++([a4.Card]:(List Int)))))
  else none
 else
 some (.done s1.2)
def Qa7 (p0:Qg):Option (List Int) :=
 (Qb fuel (Qbd p0) (0,([]:(List Int)))).bind fun x7 =>
 some x7
def Xe (p0:Qg) (p1:Int):Option (List Int) :=
 (Qa7 p0).bind fun x1 =>
 (lkI p0.Nodes p1).bind fun a3 =>
 (Qd6 x1 a3.Parents).bind fun x5 =>
 some x5
def V3 (p1:Int) (p2:(List Int)) (p3:Int) (s1:(Int × Int × (List Int))):Option (Ql (Int × Int × (List Int)) (Int × (List Int))) :=
 if (decide (s1.2.1 < p1))=true then
  if (decide ((p2.length:Int) > 0))=true then
   if (p2.length:Int)≠0 then
    (lkI p2 (Int.tmod (zw (p3+s1.2.1)) (p2.length:Int))).bind fun a6 =>
    (lkI s1.2.2 s1.2.1).bind fun a8 =>
    some (.next (zw (s1.1+(zw (Int.tmod a6 8))),zw (s1.2.1+1),(List.set s1.2.2 (Int.toNat s1.2.1) (zw (Int.tmod a6 8)))))
   else none
  else
  (lkI s1.2.2 s1.2.1).bind fun a11 =>
  some (.next (zw (s1.1+a11),zw (s1.2.1+1),s1.2.2))
 else
 some (.done (s1.1,s1.2.2))
def Qcv (p1:Int) (x14:(Int × (List Int))) (p0:Int) (s15:(Int × Int × Int × (List Int))):Option (Ql (Int × Int × Int × (List Int)) (Int × Int × (List Int))) :=
 if (decide (s15.2.2.1 < p1))=true then
  (lkI s15.2.2.2 s15.2.2.1).bind fun a18 =>
  if (decide (a18 > 0))=true then
   if x14.1≠0 then
    some (.next (zw (s15.1 - (zw (Int.tdiv (zw (p0*a18)) x14.1))),s15.2.2.1,zw (s15.2.2.1+1),(List.set s15.2.2.2 (Int.toNat s15.2.2.1) (zw (Int.tdiv (zw (p0*a18)) x14.1)))))
   else none
  else
  some (.next (zw (s15.1 - a18),s15.2.1,zw (s15.2.2.1+1),s15.2.2.2))
 else
 some (.done (s15.1,s15.2.1,s15.2.2.2))
def Qax (p0:Int) (p1:Int) (p2:(List Int)) (p3:Int):Option (List Int) :=
 if 0≤p1∧p1≤p1∧p1*8≤140737488355328 then
  (Qb fuel (V3 p1 p2 p3) (0,0,(List.replicate (Int.toNat p1) (0:Int)))).bind fun x14 =>
  (Qb fuel (Qcv p1 x14 p0) (p0,0,0,x14.2)).bind fun x24 =>
  (lkI x24.2.2 x24.2.1).bind fun a25 =>
  some (List.set x24.2.2 (Int.toNat x24.2.1) (zw (a25+x24.1)))
 else none
def Yq (p0:Qc) (x1:(List Int)) (s3:(Int × Int × (List (Int ⊕ Tapi_Node)))):Option (Ql (Int × Int × (List (Int ⊕ Tapi_Node))) (List (Int ⊕ Tapi_Node))) :=
 if (decide (s3.2.1 < (if 5 < (if 1 > (p0.Nodes.length:Int) then 1 else (p0.Nodes.length:Int)) then 5 else (if 1 > (p0.Nodes.length:Int) then 1 else (p0.Nodes.length:Int)))))=true then
  if (decide (s3.2.1 < (p0.Nodes.length:Int)))=true then
   (lkI p0.Nodes s3.2.1).bind fun a8 =>
   if 0≤(zv (zw ((zw ((if 5 < (if 1 > (p0.Nodes.length:Int) then 1 else (p0.Nodes.length:Int)) then 5 else (if 1 > (p0.Nodes.length:Int) then 1 else (p0.Nodes.length:Int))) - 1)) - s3.2.1))) then
    if (decide ((zw ((zw (s3.1*(zw (2+(zw (Int.tmod a8.Card 2))))))*2^min (Int.toNat (zv (zw ((zw ((if 5 < (if 1 > (p0.Nodes.length:Int) then 1 else (p0.Nodes.length:Int)) then 5 else (if 1 > (p0.Nodes.length:Int) then 1 else (p0.Nodes.length:Int))) - 1)) - s3.2.1)))) (IntKind.bits .i64))) > 100))=true then
     (lkI x1 s3.2.1).bind fun a12 =>
     (lkL s3.2.2 a12).bind fun a14 =>
     some (.next (zw (s3.1*2),zw (s3.2.1+1),(List.set s3.2.2 (Int.toNat a12) (Sum.inl 2))))
    else
    (lkI x1 s3.2.1).bind fun a17 =>
    (lkL s3.2.2 a17).bind fun a19 =>
    some (.next (zw (s3.1*(zw (2+(zw (Int.tmod a8.Card 2))))),zw (s3.2.1+1),(List.set s3.2.2 (Int.toNat a17) (Sum.inl (zw (2+(zw (Int.tmod a8.Card 2))))))))
   else none
  else
  if 0≤(zv (zw ((zw ((if 5 < (if 1 > (p0.Nodes.length:Int) then 1 else (p0.Nodes.length:Int)) then 5 else (if 1 > (p0.Nodes.length:Int) then 1 else (p0.Nodes.length:Int))) - 1)) - s3.2.1))) then
   if (decide ((zw ((zw (s3.1*(zw (2+(zw (Int.tmod 0 2))))))*2^min (Int.toNat (zv (zw ((zw ((if 5 < (if 1 > (p0.Nodes.length:Int) then 1 else (p0.Nodes.length:Int)) then 5 else (if 1 > (p0.Nodes.length:Int) then 1 else (p0.Nodes.length:Int))) - 1)) - s3.2.1)))) (IntKind.bits .i64))) > 100))=true then
    (lkI x1 s3.2.1).bind fun a24 =>
    (lkL s3.2.2 a24).bind fun a26 =>
    some (.next (zw (s3.1*2),zw (s3.2.1+1),(List.set s3.2.2 (Int.toNat a24) (Sum.inl 2))))
   else
   (lkI x1 s3.2.1).bind fun a29 =>
   (lkL s3.2.2 a29).bind fun a31 =>
   some (.next (zw (s3.1*(zw (2+(zw (Int.tmod 0 2))))),zw (s3.2.1+1),(List.set s3.2.2 (Int.toNat a29) (Sum.inl (zw (2+(zw (Int.tmod 0 2))))))))
  else none
 else
 some (.done s3.2.2)
def Yk (s36:(Int × (List (Int ⊕ Tapi_Node)))) (x1:(List Int)) (s55:(Int × (List Int))) (a49:Qs) (s58:(Int × (List Int))):Option (Ql (Int × (List Int)) (List Int)) :=
 if (decide (s58.1 < s36.1))=true then
  (lkI x1 s58.1).bind fun a61 =>
  if (a61==s55.1)=true then
   if 0≤(zv (s58.1)) then
    if ((IntKind.u8.wrap (BitVec.ofInt (IntKind.bits .u8) (Int.fdiv a49.Parents (2^min (Int.toNat (zv (s58.1))) (IntKind.bits .u8))) &&& BitVec.ofInt (IntKind.bits .u8) 1).toNat)==1)=true then
     if (decide ((s58.2.length:Int) < 3))=true then
      if (s58.2++([s55.1]:(List Int))).length*8≤140737488355328 then
       some (.next (zw (s58.1+1),(s58.2++([s55.1]:(List Int)))))
      else none
     else
     some (.next (zw (s58.1+1),s58.2))
    else
    some (.next (zw (s58.1+1),s58.2))
   else none
  else
  some (.next (zw (s58.1+1),s58.2))
 else
 some (.done s58.2)
def Xt (p0:Qc) (s36:(Int × (List (Int ⊕ Tapi_Node)))) (x1:(List Int)) (a49:Qs) (s55:(Int × (List Int))):Option (Ql (Int × (List Int)) (List Int)) :=
 if (decide (s55.1 < (if 5 < (if 1 > (p0.Nodes.length:Int) then 1 else (p0.Nodes.length:Int)) then 5 else (if 1 > (p0.Nodes.length:Int) then 1 else (p0.Nodes.length:Int)))))=true then
  (Qb fuel (Yk s36 x1 s55 a49) (0,s55.2)).bind fun x70 =>
  some (.next (zw (s55.1+1),x70))
 else
 some (.done s55.2)
def Yi (p0:Qc) (s36:(Int × (List (Int ⊕ Tapi_Node)))) (a51:Int) (a53:Int) (x72:(List Int)) (a49:Qs) (s73:(Int × (List (List Int)))):Option (Ql (Int × (List (List Int))) (List (List Int))) :=
 (Xe (Qg.mk (zw (1+(zw (Int.tmod p0.Grain 60)))) (List.set (List.map coTapi_Node s36.2) (Int.toNat a51) (Tapi_Node.mk a53 x72 s73.2))) a51).bind fun x74 =>
 (K5 x74).bind fun x76 =>
 if (decide (s73.1 < x76))=true then
  (Qax (zw (1+(zw (Int.tmod p0.Grain 60)))) a53 a49.W (zw (s73.1*(zw (a53+1))))).bind fun x80 =>
  if (s73.2++([x80]:(List (List Int)))).length*24≤140737488355328 then
   some (.next (zw (s73.1+1),(s73.2++([x80]:(List (List Int))))))
  else none
 else
 some (.done s73.2)
def Qig (s36:(Int × (List (Int ⊕ Tapi_Node)))) (x1:(List Int)) (s90:(Int × (List Int))) (s93:(Int × (List Int))):Option (Ql (Int × (List Int)) (List Int)) :=
 if (decide (s93.1 < s36.1))=true then
  (lkI x1 s93.1).bind fun a96 =>
  if (a96==s90.1)=true then
   if 0≤(zv (s93.1)) then
    if ((IntKind.u8.wrap (BitVec.ofInt (IntKind.bits .u8) (Int.fdiv 0 (2^min (Int.toNat (zv (s93.1))) (IntKind.bits .u8))) &&& BitVec.ofInt (IntKind.bits .u8) 1).toNat)==1)=true then
     if (decide ((s93.2.length:Int) < 3))=true then
      if (s93.2++([s90.1]:(List Int))).length*8≤140737488355328 then
       some (.next (zw (s93.1+1),(s93.2++([s90.1]:(List Int)))))
      else none
     else
     some (.next (zw (s93.1+1),s93.2))
    else
    some (.next (zw (s93.1+1),s93.2))
   else none
  else
  some (.next (zw (s93.1+1),s93.2))
 else
 some (.done s93.2)
def Qce (p0:Qc) (s36:(Int × (List (Int ⊕ Tapi_Node)))) (x1:(List Int)) (s90:(Int × (List Int))):Option (Ql (Int × (List Int)) (List Int)) :=
 if (decide (s90.1 < (if 5 < (if 1 > (p0.Nodes.length:Int) then 1 else (p0.Nodes.length:Int)) then 5 else (if 1 > (p0.Nodes.length:Int) then 1 else (p0.Nodes.length:Int)))))=true then
  (Qb fuel (Qig s36 x1 s90) (0,s90.2)).bind fun x105 =>
  some (.next (zw (s90.1+1),x105))
 else
 some (.done s90.2)
def Qhn (p0:Qc) (s36:(Int × (List (Int ⊕ Tapi_Node)))) (a86:Int) (a88:Int) (x107:(List Int)) (s108:(Int × (List (List Int)))):Option (Ql (Int × (List (List Int))) (List (List Int))) :=
 (Xe (Qg.mk (zw (1+(zw (Int.tmod p0.Grain 60)))) (List.set (List.map coTapi_Node s36.2) (Int.toNat a86) (Tapi_Node.mk a88 x107 s108.2))) a86).bind fun x109 =>
 (K5 x109).bind fun x111 =>
 if (decide (s108.1 < x111))=true then
  (Qax (zw (1+(zw (Int.tmod p0.Grain 60)))) a88 [] (zw (s108.1*(zw (a88+1))))).bind fun x115 =>
  if (s108.2++([x115]:(List (List Int)))).length*24≤140737488355328 then
   some (.next (zw (s108.1+1),(s108.2++([x115]:(List (List Int))))))
  else none
 else
 some (.done s108.2)
def Ym (p0:Qc) (x1:(List Int)) (s36:(Int × (List (Int ⊕ Tapi_Node)))):Option (Ql (Int × (List (Int ⊕ Tapi_Node))) (List (Int ⊕ Tapi_Node))) :=
 if (decide (s36.1 < (if 5 < (if 1 > (p0.Nodes.length:Int) then 1 else (p0.Nodes.length:Int)) then 5 else (if 1 > (p0.Nodes.length:Int) then 1 else (p0.Nodes.length:Int)))))=true then
  if (decide (s36.1 < (p0.Nodes.length:Int)))=true then
   (lkI p0.Nodes s36.1).bind fun a49 =>
   (lkI x1 s36.1).bind fun a51 =>
   (lkL s36.2 a51).bind fun a53 =>
   (Qb fuel (Xt p0 s36 x1 a49) (0,([]:(List Int)))).bind fun x72 =>
   (Qb fuel (Yi p0 s36 a51 a53 x72 a49) (0,([]:(List (List Int))))).bind fun x83 =>
   some (.next (zw (s36.1+1),(List.set s36.2 (Int.toNat a51) (Sum.inr (Tapi_Node.mk a53 x72 x83)))))
  else
  (lkI x1 s36.1).bind fun a86 =>
  (lkL s36.2 a86).bind fun a88 =>
  (Qb fuel (Qce p0 s36 x1) (0,([]:(List Int)))).bind fun x107 =>
  (Qb fuel (Qhn p0 s36 a86 a88 x107) (0,([]:(List (List Int))))).bind fun x118 =>
  some (.next (zw (s36.1+1),(List.set s36.2 (Int.toNat a86) (Sum.inr (Tapi_Node.mk a88 x107 x118)))))
 else
 some (.done s36.2)
def Vr (p0:Qc):Option Qg :=
 if 0≤(if 5 < (if 1 > (p0.Nodes.length:Int) then 1 else (p0.Nodes.length:Int)) then 5 else (if 1 > (p0.Nodes.length:Int) then 1 else (p0.Nodes.length:Int)))∧(if 5 < (if 1 > (p0.Nodes.length:Int) then 1 else (p0.Nodes.length:Int)) then 5 else (if 1 > (p0.Nodes.length:Int) then 1 else (p0.Nodes.length:Int)))≤(if 5 < (if 1 > (p0.Nodes.length:Int) then 1 else (p0.Nodes.length:Int)) then 5 else (if 1 > (p0.Nodes.length:Int) then 1 else (p0.Nodes.length:Int)))∧(if 5 < (if 1 > (p0.Nodes.length:Int) then 1 else (p0.Nodes.length:Int)) then 5 else (if 1 > (p0.Nodes.length:Int) then 1 else (p0.Nodes.length:Int)))*56≤140737488355328 then
  if 0≤(if 5 < (if 1 > (p0.Nodes.length:Int) then 1 else (p0.Nodes.length:Int)) then 5 else (if 1 > (p0.Nodes.length:Int) then 1 else (p0.Nodes.length:Int)))∧(if 5 < (if 1 > (p0.Nodes.length:Int) then 1 else (p0.Nodes.length:Int)) then 5 else (if 1 > (p0.Nodes.length:Int) then 1 else (p0.Nodes.length:Int)))≤(if 5 < (if 1 > (p0.Nodes.length:Int) then 1 else (p0.Nodes.length:Int)) then 5 else (if 1 > (p0.Nodes.length:Int) then 1 else (p0.Nodes.length:Int)))∧(if 5 < (if 1 > (p0.Nodes.length:Int) then 1 else (p0.Nodes.length:Int)) then 5 else (if 1 > (p0.Nodes.length:Int) then 1 else (p0.Nodes.length:Int)))*1≤140737488355328 then
   (Yh (Tharuspexref02_Draft.mk (List.replicate (Int.toNat (if 5 < (if 1 > (p0.Nodes.length:Int) then 1 else (p0.Nodes.length:Int)) then 5 else (if 1 > (p0.Nodes.length:Int) then 1 else (p0.Nodes.length:Int)))) (0:Int)) 0 p0.Order)).bind fun x1 =>
   (Qb fuel (Yq p0 x1) (1,0,(List.replicate (Int.toNat (if 5 < (if 1 > (p0.Nodes.length:Int) then 1 else (p0.Nodes.length:Int)) then 5 else (if 1 > (p0.Nodes.length:Int) then 1 else (p0.Nodes.length:Int)))) ((Sum.inl 0):(Int ⊕ Tapi_Node))))).bind fun x35 =>
   (Qb fuel (Ym p0 x1) (0,x35)).bind fun x122 =>
   (alr x122).bind fun m123 =>
   some (Qg.mk (zw (1+(zw (Int.tmod p0.Grain 60)))) m123)
  else none
 else none
def Qap (p0:Int) (p1:Int) (p2:(Int × Int × Int × Int × Int × Int × Int × Int)) (s1:(Int × (List Int))):Option (Ql (Int × (List Int)) (List Int)) :=
 if (decide (s1.1 < p0))=true then
  if (s1.1==p1)=true then
   some (.next (zw (s1.1+1),s1.2))
  else
  if Int.tmod s1.1 8=0 then
   if (zw ((s1.2.length:Int)+1))≠0 then
    if 0≤(0:Int)∧(0:Int)≤(Int.tmod (zw (p2.1)) (zw ((s1.2.length:Int)+1)))∧(Int.tmod (zw (p2.1)) (zw ((s1.2.length:Int)+1)))≤(s1.2.length:Int) then
     if (sub s1.2 0 (Int.tmod (zw (p2.1)) (zw ((s1.2.length:Int)+1)))).length*8≤140737488355328 then
      if ((sub s1.2 0 (Int.tmod (zw (p2.1)) (zw ((s1.2.length:Int)+1))))++([s1.1]:(List Int))).length*8≤140737488355328 then
       if 0≤(Int.tmod (zw (p2.1)) (zw ((s1.2.length:Int)+1)))∧(Int.tmod (zw (p2.1)) (zw ((s1.2.length:Int)+1)))≤(s1.2.length:Int)∧(s1.2.length:Int)≤(s1.2.length:Int) then
        if (((sub s1.2 0 (Int.tmod (zw (p2.1)) (zw ((s1.2.length:Int)+1))))++([s1.1]:(List Int)))++(sub s1.2 (Int.tmod (zw (p2.1)) (zw ((s1.2.length:Int)+1))) (s1.2.length:Int))).length*8≤140737488355328 then
         some (.next (zw (s1.1+1),(((sub s1.2 0 (Int.tmod (zw (p2.1)) (zw ((s1.2.length:Int)+1))))++([s1.1]:(List Int)))++(sub s1.2 (Int.tmod (zw (p2.1)) (zw ((s1.2.length:Int)+1))) (s1.2.length:Int)))))
        else none
       else none
      else none
     else none
    else none
   else none
  else
  if Int.tmod s1.1 8=1 then
   if (zw ((s1.2.length:Int)+1))≠0 then
    if 0≤(0:Int)∧(0:Int)≤(Int.tmod (zw (p2.2.1)) (zw ((s1.2.length:Int)+1)))∧(Int.tmod (zw (p2.2.1)) (zw ((s1.2.length:Int)+1)))≤(s1.2.length:Int) then
     if (sub s1.2 0 (Int.tmod (zw (p2.2.1)) (zw ((s1.2.length:Int)+1)))).length*8≤140737488355328 then
      if ((sub s1.2 0 (Int.tmod (zw (p2.2.1)) (zw ((s1.2.length:Int)+1))))++([s1.1]:(List Int))).length*8≤140737488355328 then
       if 0≤(Int.tmod (zw (p2.2.1)) (zw ((s1.2.length:Int)+1)))∧(Int.tmod (zw (p2.2.1)) (zw ((s1.2.length:Int)+1)))≤(s1.2.length:Int)∧(s1.2.length:Int)≤(s1.2.length:Int) then
        if (((sub s1.2 0 (Int.tmod (zw (p2.2.1)) (zw ((s1.2.length:Int)+1))))++([s1.1]:(List Int)))++(sub s1.2 (Int.tmod (zw (p2.2.1)) (zw ((s1.2.length:Int)+1))) (s1.2.length:Int))).length*8≤140737488355328 then
         some (.next (zw (s1.1+1),(((sub s1.2 0 (Int.tmod (zw (p2.2.1)) (zw ((s1.2.length:Int)+1))))++([s1.1]:(List Int)))++(sub s1.2 (Int.tmod (zw (p2.2.1)) (zw ((s1.2.length:Int)+1))) (s1.2.length:Int)))))
        else none
       else none
      else none
     else none
    else none
   else none
  else
  if Int.tmod s1.1 8=2 then
   if (zw ((s1.2.length:Int)+1))≠0 then
    if 0≤(0:Int)∧(0:Int)≤(Int.tmod (zw (p2.2.2.1)) (zw ((s1.2.length:Int)+1)))∧(Int.tmod (zw (p2.2.2.1)) (zw ((s1.2.length:Int)+1)))≤(s1.2.length:Int) then
     if (sub s1.2 0 (Int.tmod (zw (p2.2.2.1)) (zw ((s1.2.length:Int)+1)))).length*8≤140737488355328 then
      if ((sub s1.2 0 (Int.tmod (zw (p2.2.2.1)) (zw ((s1.2.length:Int)+1))))++([s1.1]:(List Int))).length*8≤140737488355328 then
       if 0≤(Int.tmod (zw (p2.2.2.1)) (zw ((s1.2.length:Int)+1)))∧(Int.tmod (zw (p2.2.2.1)) (zw ((s1.2.length:Int)+1)))≤(s1.2.length:Int)∧(s1.2.length:Int)≤(s1.2.length:Int) then
        if (((sub s1.2 0 (Int.tmod (zw (p2.2.2.1)) (zw ((s1.2.length:Int)+1))))++([s1.1]:(List Int)))++(sub s1.2 (Int.tmod (zw (p2.2.2.1)) (zw ((s1.2.length:Int)+1))) (s1.2.length:Int))).length*8≤140737488355328 then
         some (.next (zw (s1.1+1),(((sub s1.2 0 (Int.tmod (zw (p2.2.2.1)) (zw ((s1.2.length:Int)+1))))++([s1.1]:(List Int)))++(sub s1.2 (Int.tmod (zw (p2.2.2.1)) (zw ((s1.2.length:Int)+1))) (s1.2.length:Int)))))
        else none
       else none
      else none
     else none
    else none
   else none
  else
  if Int.tmod s1.1 8=3 then
   if (zw ((s1.2.length:Int)+1))≠0 then
    if 0≤(0:Int)∧(0:Int)≤(Int.tmod (zw (p2.2.2.2.1)) (zw ((s1.2.length:Int)+1)))∧(Int.tmod (zw (p2.2.2.2.1)) (zw ((s1.2.length:Int)+1)))≤(s1.2.length:Int) then
     if (sub s1.2 0 (Int.tmod (zw (p2.2.2.2.1)) (zw ((s1.2.length:Int)+1)))).length*8≤140737488355328 then
      if ((sub s1.2 0 (Int.tmod (zw (p2.2.2.2.1)) (zw ((s1.2.length:Int)+1))))++([s1.1]:(List Int))).length*8≤140737488355328 then
       if 0≤(Int.tmod (zw (p2.2.2.2.1)) (zw ((s1.2.length:Int)+1)))∧(Int.tmod (zw (p2.2.2.2.1)) (zw ((s1.2.length:Int)+1)))≤(s1.2.length:Int)∧(s1.2.length:Int)≤(s1.2.length:Int) then
        if (((sub s1.2 0 (Int.tmod (zw (p2.2.2.2.1)) (zw ((s1.2.length:Int)+1))))++([s1.1]:(List Int)))++(sub s1.2 (Int.tmod (zw (p2.2.2.2.1)) (zw ((s1.2.length:Int)+1))) (s1.2.length:Int))).length*8≤140737488355328 then
         some (.next (zw (s1.1+1),(((sub s1.2 0 (Int.tmod (zw (p2.2.2.2.1)) (zw ((s1.2.length:Int)+1))))++([s1.1]:(List Int)))++(sub s1.2 (Int.tmod (zw (p2.2.2.2.1)) (zw ((s1.2.length:Int)+1))) (s1.2.length:Int)))))
        else none
       else none
      else none
     else none
    else none
   else none
  else
  if Int.tmod s1.1 8=4 then
   if (zw ((s1.2.length:Int)+1))≠0 then
    if 0≤(0:Int)∧(0:Int)≤(Int.tmod (zw (p2.2.2.2.2.1)) (zw ((s1.2.length:Int)+1)))∧(Int.tmod (zw (p2.2.2.2.2.1)) (zw ((s1.2.length:Int)+1)))≤(s1.2.length:Int) then
     if (sub s1.2 0 (Int.tmod (zw (p2.2.2.2.2.1)) (zw ((s1.2.length:Int)+1)))).length*8≤140737488355328 then
      if ((sub s1.2 0 (Int.tmod (zw (p2.2.2.2.2.1)) (zw ((s1.2.length:Int)+1))))++([s1.1]:(List Int))).length*8≤140737488355328 then
       if 0≤(Int.tmod (zw (p2.2.2.2.2.1)) (zw ((s1.2.length:Int)+1)))∧(Int.tmod (zw (p2.2.2.2.2.1)) (zw ((s1.2.length:Int)+1)))≤(s1.2.length:Int)∧(s1.2.length:Int)≤(s1.2.length:Int) then
        if (((sub s1.2 0 (Int.tmod (zw (p2.2.2.2.2.1)) (zw ((s1.2.length:Int)+1))))++([s1.1]:(List Int)))++(sub s1.2 (Int.tmod (zw (p2.2.2.2.2.1)) (zw ((s1.2.length:Int)+1))) (s1.2.length:Int))).length*8≤140737488355328 then
         some (.next (zw (s1.1+1),(((sub s1.2 0 (Int.tmod (zw (p2.2.2.2.2.1)) (zw ((s1.2.length:Int)+1))))++([s1.1]:(List Int)))++(sub s1.2 (Int.tmod (zw (p2.2.2.2.2.1)) (zw ((s1.2.length:Int)+1))) (s1.2.length:Int)))))
        else none
       else none
      else none
     else none
    else none
   else none
  else
  if Int.tmod s1.1 8=5 then
   if (zw ((s1.2.length:Int)+1))≠0 then
    if 0≤(0:Int)∧(0:Int)≤(Int.tmod (zw (p2.2.2.2.2.2.1)) (zw ((s1.2.length:Int)+1)))∧(Int.tmod (zw (p2.2.2.2.2.2.1)) (zw ((s1.2.length:Int)+1)))≤(s1.2.length:Int) then
     if (sub s1.2 0 (Int.tmod (zw (p2.2.2.2.2.2.1)) (zw ((s1.2.length:Int)+1)))).length*8≤140737488355328 then
      if ((sub s1.2 0 (Int.tmod (zw (p2.2.2.2.2.2.1)) (zw ((s1.2.length:Int)+1))))++([s1.1]:(List Int))).length*8≤140737488355328 then
       if 0≤(Int.tmod (zw (p2.2.2.2.2.2.1)) (zw ((s1.2.length:Int)+1)))∧(Int.tmod (zw (p2.2.2.2.2.2.1)) (zw ((s1.2.length:Int)+1)))≤(s1.2.length:Int)∧(s1.2.length:Int)≤(s1.2.length:Int) then
        if (((sub s1.2 0 (Int.tmod (zw (p2.2.2.2.2.2.1)) (zw ((s1.2.length:Int)+1))))++([s1.1]:(List Int)))++(sub s1.2 (Int.tmod (zw (p2.2.2.2.2.2.1)) (zw ((s1.2.length:Int)+1))) (s1.2.length:Int))).length*8≤140737488355328 then
         some (.next (zw (s1.1+1),(((sub s1.2 0 (Int.tmod (zw (p2.2.2.2.2.2.1)) (zw ((s1.2.length:Int)+1))))++([s1.1]:(List Int)))++(sub s1.2 (Int.tmod (zw (p2.2.2.2.2.2.1)) (zw ((s1.2.length:Int)+1))) (s1.2.length:Int)))))
        else none
       else none
      else none
     else none
    else none
   else none
  else
  if Int.tmod s1.1 8=6 then
   if (zw ((s1.2.length:Int)+1))≠0 then
    if 0≤(0:Int)∧(0:Int)≤(Int.tmod (zw (p2.2.2.2.2.2.2.1)) (zw ((s1.2.length:Int)+1)))∧(Int.tmod (zw (p2.2.2.2.2.2.2.1)) (zw ((s1.2.length:Int)+1)))≤(s1.2.length:Int) then
     if (sub s1.2 0 (Int.tmod (zw (p2.2.2.2.2.2.2.1)) (zw ((s1.2.length:Int)+1)))).length*8≤140737488355328 then
      if ((sub s1.2 0 (Int.tmod (zw (p2.2.2.2.2.2.2.1)) (zw ((s1.2.length:Int)+1))))++([s1.1]:(List Int))).length*8≤140737488355328 then
       if 0≤(Int.tmod (zw (p2.2.2.2.2.2.2.1)) (zw ((s1.2.length:Int)+1)))∧(Int.tmod (zw (p2.2.2.2.2.2.2.1)) (zw ((s1.2.length:Int)+1)))≤(s1.2.length:Int)∧(s1.2.length:Int)≤(s1.2.length:Int) then
        if (((sub s1.2 0 (Int.tmod (zw (p2.2.2.2.2.2.2.1)) (zw ((s1.2.length:Int)+1))))++([s1.1]:(List Int)))++(sub s1.2 (Int.tmod (zw (p2.2.2.2.2.2.2.1)) (zw ((s1.2.length:Int)+1))) (s1.2.length:Int))).length*8≤140737488355328 then
         some (.next (zw (s1.1+1),(((sub s1.2 0 (Int.tmod (zw (p2.2.2.2.2.2.2.1)) (zw ((s1.2.length:Int)+1))))++([s1.1]:(List Int)))++(sub s1.2 (Int.tmod (zw (p2.2.2.2.2.2.2.1)) (zw ((s1.2.length:Int)+1))) (s1.2.length:Int)))))
        else none
       else none
      else none
     else none
    else none
   else none
  else
  if Int.tmod s1.1 8=7 then
   if (zw ((s1.2.length:Int)+1))≠0 then
    if 0≤(0:Int)∧(0:Int)≤(Int.tmod (zw (p2.2.2.2.2.2.2.2)) (zw ((s1.2.length:Int)+1)))∧(Int.tmod (zw (p2.2.2.2.2.2.2.2)) (zw ((s1.2.length:Int)+1)))≤(s1.2.length:Int) then
     if (sub s1.2 0 (Int.tmod (zw (p2.2.2.2.2.2.2.2)) (zw ((s1.2.length:Int)+1)))).length*8≤140737488355328 then
      if ((sub s1.2 0 (Int.tmod (zw (p2.2.2.2.2.2.2.2)) (zw ((s1.2.length:Int)+1))))++([s1.1]:(List Int))).length*8≤140737488355328 then
       if 0≤(Int.tmod (zw (p2.2.2.2.2.2.2.2)) (zw ((s1.2.length:Int)+1)))∧(Int.tmod (zw (p2.2.2.2.2.2.2.2)) (zw ((s1.2.length:Int)+1)))≤(s1.2.length:Int)∧(s1.2.length:Int)≤(s1.2.length:Int) then
        if (((sub s1.2 0 (Int.tmod (zw (p2.2.2.2.2.2.2.2)) (zw ((s1.2.length:Int)+1))))++([s1.1]:(List Int)))++(sub s1.2 (Int.tmod (zw (p2.2.2.2.2.2.2.2)) (zw ((s1.2.length:Int)+1))) (s1.2.length:Int))).length*8≤140737488355328 then
         some (.next (zw (s1.1+1),(((sub s1.2 0 (Int.tmod (zw (p2.2.2.2.2.2.2.2)) (zw ((s1.2.length:Int)+1))))++([s1.1]:(List Int)))++(sub s1.2 (Int.tmod (zw (p2.2.2.2.2.2.2.2)) (zw ((s1.2.length:Int)+1))) (s1.2.length:Int)))))
        else none
       else none
      else none
     else none
    else none
   else none
  else
  none
 else
 some (.done s1.2)
def Jx (p0:Int) (p1:Int) (p2:(Int × Int × Int × Int × Int × Int × Int × Int)):Option (List Int) :=
 (Qb fuel (Qap p0 p1 p2) (0,([]:(List Int)))).bind fun x31 =>
 some x31
def Zs (p1:(List Int)) (p0:(List Int)) (s7:(Int × Int)):Option (Ql (Int × Int) (Unit ⊕ Unit)) :=
 if (decide (s7.2 < (p1.length:Int)))=true then
  (lkI p1 s7.2).bind fun a10 =>
  if (decide (a10 < 0))=true then
   some (.done (Sum.inl ()))
  else
  if (decide (a10≥(p0.length:Int)))=true then
   some (.done (Sum.inl ()))
  else
  if 0≤a10 then
   if ((zv (zb (Int.fdiv s7.1 (2^min (Int.toNat a10) (IntKind.bits .u64))) &&& zb 1).toNat)==1)=true then
    some (.done (Sum.inl ()))
   else
   if 0≤a10 then
    some (.next (zv (zb s7.1 ||| zb (zv (1*2^min (Int.toNat a10) (IntKind.bits .u64)))).toNat,zw (s7.2+1)))
   else none
  else none
 else
 some (.done (Sum.inr ()))
def Qb7 (p0:(List Int)) (p1:(List Int)):Option Int :=
 (Vn p0).bind fun x1 =>
 if (x1 != 0)=true then
  some x1
 else
 if ((p1.length:Int) != (p0.length:Int))=true then
  some 81
 else
 (Qb fuel (Zs p1 p0) (0,0)).bind fun x18=>match x18 with
 | .inl x19=>(
  some 81)
 | .inr x20=>(
  some 0)
def Vt (p0:Torder_graph) (p1:Int):Option Int :=
 (lkI p0.neighbours.near p1).bind fun a1 =>
 (Zb a1).bind fun x3 =>
 some x3
def Z8 (m0:Int) (s1:(Int × (List Int))):Option (Ql (Int × (List Int)) (List Int)) :=
 if (s1.1 != 0)=true then
  (Qt s1.1).bind fun x4 =>
  (lkI s1.2 x4).bind fun a6 =>
  if 0≤m0 then
   some (.next (zv (zb s1.1 &&& zb (zv (s1.1 - 1))).toNat,(List.set s1.2 (Int.toNat x4) (zv (zb a6 &&& ~~~ zb (zv (1*2^min (Int.toNat m0) (IntKind.bits .u64)))).toNat))))
  else none
 else
 some (.done s1.2)
def Z3 (m0:Int) (m1:Int) (m2:(List Int)):Option (Int × (List Int)) :=
 if 0≤m0 then
  (Qb fuel (Z8 m0) (zv (zb m1 &&& ~~~ zb (zv (1*2^min (Int.toNat m0) (IntKind.bits .u64)))).toNat,m2)).bind fun x10 =>
  (lkI x10 m0).bind fun a11 =>
  some (zv (zb m1 &&& ~~~ zb (zv (1*2^min (Int.toNat m0) (IntKind.bits .u64)))).toNat,(List.set x10 (Int.toNat m0) 0))
 else none
def Zd (x6:Int) (s10:(Int × (List Int) × (List (Int × Int)))):Option (Ql (Int × (List Int) × (List (Int × Int))) ((List Int) × (List (Int × Int)))) :=
 if (s10.1 != 0)=true then
  (Qt s10.1).bind fun x13 =>
  if (s10.2.2++([(x6,x13)]:(List (Int × Int)))).length*16≤140737488355328 then
   (lkI s10.2.1 x6).bind fun a15 =>
   if 0≤x13 then
    (lkI (List.set s10.2.1 (Int.toNat x6) (zv (zb a15 ||| zb (zv (1*2^min (Int.toNat x13) (IntKind.bits .u64)))).toNat)) x13).bind fun a17 =>
    if 0≤x6 then
     some (.next (zv (zb s10.1 &&& zb (zv (s10.1 - 1))).toNat,(List.set (List.set s10.2.1 (Int.toNat x6) (zv (zb a15 ||| zb (zv (1*2^min (Int.toNat x13) (IntKind.bits .u64)))).toNat)) (Int.toNat x13) (zv (zb a17 ||| zb (zv (1*2^min (Int.toNat x6) (IntKind.bits .u64)))).toNat)),(s10.2.2++([(x6,x13)]:(List (Int × Int))))))
    else none
   else none
  else none
 else
 some (.done (s10.2.1,s10.2.2))
def Ze (a1:Int) (s3:(Int × (List Int) × (List (Int × Int)))):Option (Ql (Int × (List Int) × (List (Int × Int))) ((List Int) × (List (Int × Int)))) :=
 if (s3.1 != 0)=true then
  (Qt s3.1).bind fun x6 =>
  (lkI s3.2.1 x6).bind fun a8 =>
  if 0≤(zw (x6+1)) then
   (Qb fuel (Zd x6) (zv (zb (zv (zb a1 &&& ~~~ zb a8).toNat) &&& ~~~ zb (zv ((zv (1*2^min (Int.toNat (zw (x6+1))) (IntKind.bits .u64))) - 1))).toNat,s3.2.1,s3.2.2)).bind fun x22 =>
   some (.next (zv (zb s3.1 &&& zb (zv (s3.1 - 1))).toNat,x22.1,x22.2))
  else none
 else
 some (.done (s3.2.1,s3.2.2))
def Zr (m0:Int) (m1:Int) (m2:(List Int)):Option ((List (Int × Int)) × Int × (List Int)) :=
 (lkI m2 m0).bind fun a1 =>
 (Qb fuel (Ze a1) (a1,m2,([]:(List (Int × Int))))).bind fun x24 =>
 (Z3 m0 m1 x24.1).bind fun x25 =>
 some (x24.2,x25.1,x25.2)
def K8 (p1:(List Int)) (s3:(Int × Int × Int × (List Int) × (List (Int × Int)))):Option (Ql (Int × Int × Int × (List Int) × (List (Int × Int))) (Int × (List (Int × Int)))) :=
 if (decide (s3.2.1 < (p1.length:Int)))=true then
  (lkI p1 s3.2.1).bind fun a6 =>
  (Vt (Torder_graph.mk (Torder_neighbours.mk s3.2.2.2.1) s3.2.2.1) a6).bind fun x8 =>
  (Zr a6 s3.2.2.1 s3.2.2.2.1).bind fun x10 =>
  if (s3.2.2.2.2++x10.1).length*16≤140737488355328 then
   some (.next ((if x8 > s3.1 then x8 else s3.1),zw (s3.2.1+1),x10.2.1,x10.2.2,(s3.2.2.2.2++x10.1)))
  else none
 else
 some (.done (s3.1,s3.2.2.2.2))
def Qc4 (p0:(List Int)) (p1:(List Int)):Option ((List (Int × Int)) × Int) :=
 (Q3 p0).bind fun x1 =>
 if 0≤(p0.length:Int) then
  (Qb fuel (K8 p1) (0,0,zv ((zv (1*2^min (Int.toNat (p0.length:Int)) (IntKind.bits .u64))) - 1),x1,([]:(List (Int × Int))))).bind fun x12 =>
  some (x12.2,x12.1)
 else none
def Qbc (p0:(List Int)) (p1:(List Int)):Option (Int × Int) :=
 (Qb7 p0 p1).bind fun x1 =>
 if (x1 != 0)=true then
  some (0,x1)
 else
 (Qc4 p0 p1).bind fun x5 =>
 some (x5.2,0)
def Yf (x9:(Qe × Int)) (s39:Int) (a42:Int) (s44:Int):Option (Ql Int (Unit ⊕ Unit)) :=
 if (decide (s44 < (x9.1.Cliques.length:Int)))=true then
  (lkI x9.1.Cliques s44).bind fun a47 =>
  if (s39 != s44)=true then
   if ((zv (zb a42 &&& ~~~ zb a47).toNat)==0)=true then
    some (.done (Sum.inl ()))
   else
   some (.next (zw (s44+1)))
  else
  some (.next (zw (s44+1)))
 else
 some (.done (Sum.inr ()))
def Yg (x9:(Qe × Int)) (s39:Int):Option (Ql Int (Unit ⊕ Unit)) :=
 if (decide (s39 < (x9.1.Cliques.length:Int)))=true then
  (lkI x9.1.Cliques s39).bind fun a42 =>
  (Qb fuel (Yf x9 s39 a42) 0).bind fun x53=>match x53 with
  | .inl x54=>(
   some (.done (Sum.inl ())))
  | .inr x55=>(
   some (.next (zw (s39+1))))
 else
 some (.done (Sum.inr ()))
def Yd (x9:(Qe × Int)) (s59:Int) (s62:(Int × Int)):Option (Ql (Int × Int) (Unit ⊕ Int)) :=
 if (decide (s62.2 < (x9.1.Cliques.length:Int)))=true then
  (lkI x9.1.Cliques s62.2).bind fun a65 =>
  if 0≤s59 then
   if ((zv (zb (Int.fdiv a65 (2^min (Int.toNat s59) (IntKind.bits .u64))) &&& zb 1).toNat)==0)=true then
    some (.next (s62.1,zw (s62.2+1)))
   else
   (lkI x9.1.Up s62.2).bind fun a69 =>
   if (decide (s62.1 > 0))=true then
    if (decide (a69 < 0))=true then
     some (.done (Sum.inl ()))
    else
    if (decide (a69≥s62.2))=true then
     some (.done (Sum.inl ()))
    else
    (lkI x9.1.Cliques a69).bind fun a77 =>
    if 0≤s59 then
     if ((zv (zb (Int.fdiv a77 (2^min (Int.toNat s59) (IntKind.bits .u64))) &&& zb 1).toNat)==0)=true then
      some (.done (Sum.inl ()))
     else
     some (.next (zw (s62.1+1),zw (s62.2+1)))
    else none
   else
   some (.next (zw (s62.1+1),zw (s62.2+1)))
  else none
 else
 some (.done (Sum.inr s62.1))
def Ye (x5:Qg) (x9:(Qe × Int)) (s59:Int):Option (Ql Int (Unit ⊕ Unit)) :=
 if (decide (s59 < (x5.Nodes.length:Int)))=true then
  (Qb fuel (Yd x9 s59) (0,0)).bind fun x81=>match x81 with
  | .inl x82=>(
   some (.done (Sum.inl ())))
  | .inr x83=>(
   if (x83==0)=true then
    some (.done (Sum.inl ()))
   else
   (lkI x9.1.Home s59).bind fun a86 =>
   if (decide (a86 < 0))=true then
    some (.done (Sum.inl ()))
   else
   if (decide (a86≥(x9.1.Cliques.length:Int)))=true then
    some (.done (Sum.inl ()))
   else
   (lkI x9.1.Cliques a86).bind fun a92 =>
   if 0≤s59 then
    if ((zv (zb (Int.fdiv a92 (2^min (Int.toNat s59) (IntKind.bits .u64))) &&& zb 1).toNat)==0)=true then
     some (.done (Sum.inl ()))
    else
    some (.next (zw (s59+1)))
   else none)
 else
 some (.done (Sum.inr ()))
def Ku (p0:Qc) (p1:(Int × Int × Int × Int × Int × Int × Int × Int)):Option Bool :=
 (Qdy).bind fun x1 =>
 if (!x1)=true then
  some false
 else
 (Vr p0).bind fun x5 =>
 (Jx (x5.Nodes.length:Int) (-1) (p1.1,p1.2.1,p1.2.2.1,p1.2.2.2.1,p1.2.2.2.2.1,p1.2.2.2.2.2.1,p1.2.2.2.2.2.2.1,p1.2.2.2.2.2.2.2)).bind fun x7 =>
 (V0 x5 x7).bind fun x9 =>
 (Kk x5).bind fun x11 =>
 (Qbc x11.1 x7).bind fun x13 =>
 (Vd x5 x9.1).bind fun x15 =>
 if (x9.2 != 0)=true then
  some false
 else
 if (x11.2 != 0)=true then
  some false
 else
 if (x13.2 != 0)=true then
  some false
 else
 if (x15.2 != 0)=true then
  some false
 else
 if (x15.1 != x13.1)=true then
  some false
 else
 (Xp x5 x9.1).bind fun x27 =>
 if (x27 != 0)=true then
  some false
 else
 if (decide ((x9.1.Cliques.length:Int) < 1))=true then
  some false
 else
 if (decide ((x9.1.Cliques.length:Int) > (x5.Nodes.length:Int)))=true then
  some false
 else
 if ((x9.1.Up.length:Int) != (x9.1.Cliques.length:Int))=true then
  some false
 else
 if ((x9.1.Home.length:Int) != (x5.Nodes.length:Int))=true then
  some false
 else
 (Qb fuel (Yg x9) 0).bind fun x56=>match x56 with
 | .inl x57=>(
  some false)
 | .inr x58=>(
  (Qb fuel (Ye x5 x9) 0).bind fun x96=>match x96 with
  | .inl x97=>(
   some false)
  | .inr x98=>(
   some true))
end Go.Ab
