/- Functions. No conditions. -/
import Derived.Test.YtokcpkcoahlkjaaEng10
set_option linter.all false
namespace Go.Ab
open Go
structure Tapi_Node where
 Card:Int
 Parents:(List Int)
 Rows:(List (List Int))
 deriving DecidableEq,Inhabited
@[reducible] def eTapi_Node (x:Tapi_Node):AV:=.agg [vI x.Card,eL true eI x.Parents,eL false (eL true eI) x.Rows]
@[reducible] def eoTapi_Node (x:Int ⊕ Tapi_Node):AV:=match x with | .inl c=>.agg [vI c,.nils,.nils] | .inr y=>eTapi_Node y
def coTapi_Node (x:Int ⊕ Tapi_Node):Tapi_Node:=match x with | .inl c=>⟨c,[],[]⟩ | .inr y=>y
structure Qc where
 Grain:Int
 Nodes:(List Tapi_Node)
 deriving DecidableEq,Inhabited
structure Qz where
 Net:Qc
 cards:(List Int)
 sets:(List Int)
 order:(List Int)
 deriving DecidableEq,Inhabited
structure Tapi_Shift where
 Node:Int
 Row:Int
 From:Int
 To:Int
 deriving DecidableEq,Inhabited
@[reducible] def Qte (x:Tapi_Shift):AV:=.agg [vI x.Node,vI x.Row,vI x.From,vI x.To]
structure Tapi_Q where
 N:Int
 D:Int
 deriving DecidableEq,Inhabited
@[reducible] def eTapi_Q (x:Tapi_Q):AV:=.agg [vI x.N,vI x.D]
structure Tharuspexref02_Draft where
 C:(List Int)
 Which:Int
 Order:(List Int)
 deriving DecidableEq,Inhabited
structure Qw where
 Card:Int
 Parents:Int
 W:(List Int)
 deriving DecidableEq,Inhabited
@[reducible] def eTharuspexref05_Piece (x:Qw):AV:=.agg [.int .u8 x.Card,.int .u8 x.Parents,eL true (AV.int .u8) x.W]
structure Qe where
 Grain:Int
 Nodes:(List Qw)
 Order:(List Int)
 deriving DecidableEq,Inhabited
@[reducible] def Qg4 (x:Qe):AV:=.agg [.int .u8 x.Grain,eL false eTharuspexref05_Piece x.Nodes,eL true (AV.int .u8) x.Order]
structure Tharuspexref05_Known where
 Which:Int
 V:(Int × Int × Int × Int × Int × Int × Int × Int)
 deriving Inhabited
@[reducible] def Qg1 (x:Tharuspexref05_Known):AV:=.agg [.int .u8 x.Which,.int .u8 x.V.1,.int .u8 x.V.2.1,.int .u8 x.V.2.2.1,.int .u8 x.V.2.2.2.1,.int .u8 x.V.2.2.2.2.1,.int .u8 x.V.2.2.2.2.2.1,.int .u8 x.V.2.2.2.2.2.2.1,.int .u8 x.V.2.2.2.2.2.2.2]
structure Z0 where
 V:Int
 Value:Int
 Node:Int
 Row:Int
 From:Int
 To:Int
 deriving DecidableEq,Inhabited
@[reducible] def Qhg (x:Z0):AV:=.agg [.int .u8 x.V,.int .u8 x.Value,.int .u8 x.Node,.int .u8 x.Row,.int .u8 x.From,.int .u8 x.To]
structure Qt where
 Vars:(List Int)
 Cards:(List Int)
 W:(List Int)
 deriving DecidableEq,Inhabited
@[reducible] def Q6 (x:Qt):AV:=.agg [eL true eI x.Vars,eL true eI x.Cards,eL true eI x.W]
structure Q3 where
 Net:Qc
 factors:(List Qt)
 steps:(List (List Int))
 deriving DecidableEq,Inhabited
structure Tjoint_place where
 node:Int
 value:Int
 deriving DecidableEq,Inhabited
@[reducible] def eTjoint_place (x:Tjoint_place):AV:=.agg [vI x.node,vI x.value]
@[reducible] def qTjoint_place (a b:Tjoint_place):Bool:=(a.node==b.node) && ((a.value==b.value) && true)
structure V4 where
 What : Int
 At:Int
 Row:Int
 N:Int
 deriving DecidableEq,Inhabited
@[reducible] def Qii (x:V4):AV:=.agg [.int .u8 x.What,.int .u8 x.At,.int .u8 x.Row,vI x.N]
structure Xi where
 N:Qe
 C:V4
 K:Tharuspexref05_Known
 D:Z0
 Raw:(List Int)
 V:Int
 Value:Int
 S:Tapi_Shift
 deriving Inhabited
@[reducible] def eTharuspexlaw24_Story (x:Xi):AV:=.agg [.int .u8 x.N.Grain,eL false eTharuspexref05_Piece x.N.Nodes,eL true (AV.int .u8) x.N.Order,.int .u8 x.C.What,.int .u8 x.C.At,.int .u8 x.C.Row,vI x.C.N,.int .u8 x.K.Which,.int .u8 x.K.V.1,.int .u8 x.K.V.2.1,.int .u8 x.K.V.2.2.1,.int .u8 x.K.V.2.2.2.1,.int .u8 x.K.V.2.2.2.2.1,.int .u8 x.K.V.2.2.2.2.2.1,.int .u8 x.K.V.2.2.2.2.2.2.1,.int .u8 x.K.V.2.2.2.2.2.2.2,.int .u8 x.D.V,.int .u8 x.D.Value,.int .u8 x.D.Node,.int .u8 x.D.Row,.int .u8 x.D.From,.int .u8 x.D.To,eL true eI x.Raw,vI x.V,vI x.Value,vI x.S.Node,vI x.S.Row,vI x.S.From,vI x.S.To]
def V7 (p1:Tapi_Node) (p0:Qz) (s1:(Int × Int)):Option (Qm (Int × Int) Int) :=
 if (decide (s1.2 < (p1.Parents.length:Int)))=true then
  (lkI p1.Parents s1.2).bind fun a4 =>
  (lkI p0.cards a4).bind fun a6 =>
  some (.next (zw (s1.1*a6),zw (s1.2+1)))
 else
 some (.done s1.1)
def Yq (a15:(List Int)) (s17:(Int × Int)):Option (Qm (Int × Int) (Unit ⊕ Int)) :=
 if (decide (s17.2 < (a15.length:Int)))=true then
  (lkI a15 s17.2).bind fun a20 =>
  if (decide (a20 < 0))=true then
   some (.done (Sum.inl ()))
  else
  if (decide (a20 > s17.1))=true then
   some (.done (Sum.inl ()))
  else
  some (.next (zw (s17.1 - a20),zw (s17.2+1)))
 else
 some (.done (Sum.inr s17.1))
def V6 (p1:Tapi_Node) (p0:Qz) (s12:Int):Option (Qm Int (Unit ⊕ Unit)) :=
 if (decide (s12 < (p1.Rows.length:Int)))=true then
  (lkI p1.Rows s12).bind fun a15 =>
  (Qd fuel (Yq a15) (p0.Net.Grain,0)).bind fun x26=>match x26 with
  | .inl x27=>(
   some (.done (Sum.inl ())))
  | .inr x28=>(
   if ((a15.length:Int) != p1.Card)=true then
    some (.done (Sum.inl ()))
   else
   if (x28 != 0)=true then
    some (.done (Sum.inl ()))
   else
   some (.next (zw (s12+1))))
 else
 some (.done (Sum.inr ()))
def Vn (p0:Qz) (p1:Tapi_Node):Option Bool :=
 (Qd fuel (V7 p1 p0) (1,0)).bind fun x9 =>
 if ((p1.Rows.length:Int) != x9)=true then
  some false
 else
 (Qd fuel (V6 p1 p0) 0).bind fun x33=>match x33 with
 | .inl x34=>(
  some false)
 | .inr x35=>(
  some true)
def Qcg (p0:(List Int)) (s1:(Int × (List Int))) (s4:Int):Option (Qm Int ((Int × (List Int)) ⊕ Unit)) :=
 if (decide (s4 < (p0.length:Int)))=true then
  (lkI p0 s4).bind fun a7 =>
  if 0≤s4 then
   if ((zv (zb (Int.fdiv s1.1 (2^min (Int.toNat s4) (IntKind.bits .u64))) &&& zb 1).toNat)==0)=true then
    if ((zv (zb a7 &&& ~~~ zb s1.1).toNat)==0)=true then
     if (s1.2++([s4]:(List Int))).length*8≤140737488355328 then
      if 0≤s4 then
       some (.done (Sum.inl (zv (zb s1.1 ||| zb (zv (1*2^min (Int.toNat s4) (IntKind.bits .u64)))).toNat,(s1.2++([s4]:(List Int))))))
      else none
     else none
    else
    some (.next (zw (s4+1)))
   else
   some (.next (zw (s4+1)))
  else none
 else
 some (.done (Sum.inr ()))
def Kz (p0:(List Int)) (s1:(Int × (List Int))):Option (Qm (Int × (List Int)) (Unit ⊕ (List Int))) :=
 if (decide ((s1.2.length:Int) < (p0.length:Int)))=true then
  (Qd fuel (Qcg p0 s1) 0).bind fun x13=>match x13 with
  | .inl x14=>(
   some (.next (x14.1,x14.2)))
  | .inr x15=>(
   some (.done (Sum.inl ())))
 else
 some (.done (Sum.inr s1.2))
def Qca (p0:(List Int)):Option ((List Int) × Bool) :=
 if 0≤(0:Int)∧(0:Int)≤(p0.length:Int)∧(p0.length:Int)*8≤140737488355328 then
  (Qd fuel (Kz p0) (0,(List.replicate (Int.toNat 0) (0:Int)))).bind fun x16=>match x16 with
  | .inl x17=>(
   some (([]:(List Int)),false))
  | .inr x18=>(
   some (x18,true))
 else none
def Qa5 (p0:Qc) (s9:(Int × Int × (List Int))):Option (Qm (Int × Int × (List Int)) (Unit ⊕ (Int × (List Int)))) :=
 if (decide (s9.2.1 < (p0.Nodes.length:Int)))=true then
  (lkI p0.Nodes s9.2.1).bind fun a12 =>
  if (decide (a12.Card < 1))=true then
   some (.done (Sum.inl ()))
  else
  if (decide (a12.Card > 4))=true then
   some (.done (Sum.inl ()))
  else
  (lkI s9.2.2 s9.2.1).bind fun a18 =>
  some (.next (zw (s9.1*a12.Card),zw (s9.2.1+1),(List.set s9.2.2 (Int.toNat s9.2.1) a12.Card)))
 else
 some (.done (Sum.inr (s9.1,s9.2.2)))
def Qbc (a29:Tapi_Node) (p0:Qc) (s26:(Int × (List Int))) (s31:(Int × Int × (List Int))):Option (Qm (Int × Int × (List Int)) (Unit ⊕ (List Int))) :=
 if (decide (s31.2.1 < (a29.Parents.length:Int)))=true then
  (lkI a29.Parents s31.2.1).bind fun a34 =>
  if (decide (a34≤s31.1))=true then
   some (.done (Sum.inl ()))
  else
  if (decide (a34≥(p0.Nodes.length:Int)))=true then
   some (.done (Sum.inl ()))
  else
  if (a34==s26.1)=true then
   some (.done (Sum.inl ()))
  else
  (lkI s31.2.2 s26.1).bind fun a42 =>
  if 0≤a34 then
   some (.next (a34,zw (s31.2.1+1),(List.set s31.2.2 (Int.toNat s26.1) (zv (zb a42 ||| zb (zv (1*2^min (Int.toNat a34) (IntKind.bits .u64)))).toNat))))
  else none
 else
 some (.done (Sum.inr s31.2.2))
def Qa4 (p0:Qc) (x23:(Int × (List Int))) (s26:(Int × (List Int))):Option (Qm (Int × (List Int)) (Unit ⊕ (List Int))) :=
 if (decide (s26.1 < (p0.Nodes.length:Int)))=true then
  (lkI p0.Nodes s26.1).bind fun a29 =>
  (Qd fuel (Qbc a29 p0 s26) (-1,0,s26.2)).bind fun x45=>match x45 with
  | .inl x46=>(
   some (.done (Sum.inl ())))
  | .inr x47=>(
   (Vn (Qz.mk p0 x23.2 x47 []) a29).bind fun x48 =>
   if (!x48)=true then
    some (.done (Sum.inl ()))
   else
   some (.next (zw (s26.1+1),x47)))
 else
 some (.done (Sum.inr s26.2))
def Qak (p0:Qc):Option (Qz × Int) :=
 if (decide (p0.Grain < 1))=true then
  some ((Qz.mk (Qc.mk 0 []) [] [] []),50)
 else
 if (decide (p0.Grain > 60))=true then
  some ((Qz.mk (Qc.mk 0 []) [] [] []),50)
 else
 if (decide ((p0.Nodes.length:Int) < 1))=true then
  some ((Qz.mk (Qc.mk 0 []) [] [] []),50)
 else
 if (decide ((p0.Nodes.length:Int) > 8))=true then
  some ((Qz.mk (Qc.mk 0 []) [] [] []),50)
 else
 if 0≤(p0.Nodes.length:Int)∧(p0.Nodes.length:Int)≤(p0.Nodes.length:Int)∧(p0.Nodes.length:Int)*8≤140737488355328 then
  if 0≤(p0.Nodes.length:Int)∧(p0.Nodes.length:Int)≤(p0.Nodes.length:Int)∧(p0.Nodes.length:Int)*8≤140737488355328 then
   (Qd fuel (Qa5 p0) (1,0,(List.replicate (Int.toNat (p0.Nodes.length:Int)) (0:Int)))).bind fun x21=>match x21 with
   | .inl x22=>(
    some ((Qz.mk (Qc.mk 0 []) [] [] []),50))
   | .inr x23=>(
    if (decide (x23.1 > 1024))=true then
     some ((Qz.mk (Qc.mk 0 []) [] [] []),50)
    else
    (Qd fuel (Qa4 p0 x23) (0,(List.replicate (Int.toNat (p0.Nodes.length:Int)) (0:Int)))).bind fun x52=>match x52 with
    | .inl x53=>(
     some ((Qz.mk (Qc.mk 0 []) [] [] []),50))
    | .inr x54=>(
     (Qca x54).bind fun x55 =>
     if (!x55.2)=true then
      some ((Qz.mk (Qc.mk 0 []) [] [] []),50)
     else
     some ((Qz.mk p0 x23.2 x54 x55.1),0)))
  else none
 else none
def Qgi (p0:Qc):Option Int :=
 (Qak p0).bind fun x1 =>
 some x1.2
def Zb (p1:(List Int)) (x1:(Qz × Int)) (s7:Int):Option (Qm Int (Unit ⊕ Unit)) :=
 if (decide (s7 < (p1.length:Int)))=true then
  (lkI p1 s7).bind fun a10 =>
  if (decide (a10 < (-1)))=true then
   some (.done (Sum.inl ()))
  else
  (lkI x1.1.cards s7).bind fun a14 =>
  if (decide (a10≥a14))=true then
   some (.done (Sum.inl ()))
  else
  some (.next (zw (s7+1)))
 else
 some (.done (Sum.inr ()))
def Zj (p0:Qc) (p1:(List Int)):Option Int :=
 (Qak p0).bind fun x1 =>
 if (x1.2 != 0)=true then
  some x1.2
 else
 if ((p1.length:Int) != (x1.1.Net.Nodes.length:Int))=true then
  some 2
 else
 (Qd fuel (Zb p1 x1) 0).bind fun x18=>match x18 with
 | .inl x19=>(
  some 2)
 | .inr x20=>(
  some 0)
def Kf (p4:(List Int)) (p0:Qc) (p2:Int) (s13:Int):Option (Qm Int (Unit ⊕ Unit)) :=
 if (decide (s13 < (p4.length:Int)))=true then
  (lkI p4 s13).bind fun a16 =>
  if (decide (a16 < 0))=true then
   some (.done (Sum.inl ()))
  else
  (lkI p0.Nodes p2).bind fun a20 =>
  if (decide (a16≥a20.Card))=true then
   some (.done (Sum.inl ()))
  else
  some (.next (zw (s13+1)))
 else
 some (.done (Sum.inr ()))
def Yk (p0:Qc) (p1:(List Int)) (p2:Int) (p3:Tapi_Shift) (p4:(List Int)):Option Int :=
 (Qgi p0).bind fun x1 =>
 if (x1 != 0)=true then
  some x1
 else
 (Zj p0 p1).bind fun x5 =>
 if (x5 != 0)=true then
  some x5
 else
 if (decide (p2 < 0))=true then
  some 2
 else
 if (decide (p2≥(p0.Nodes.length:Int)))=true then
  some 2
 else
 (Qd fuel (Kf p4 p0 p2) 0).bind fun x24=>match x24 with
 | .inl x25=>(
  some 2)
 | .inr x26=>(
  if (decide (p3.Node < 0))=true then
   some 2
  else
  if (decide (p3.Node≥(p0.Nodes.length:Int)))=true then
   some 2
  else
  (lkI p0.Nodes p3.Node).bind fun a31 =>
  if (decide (p3.Row < 0))=true then
   some 2
  else
  if (decide (p3.Row≥(a31.Rows.length:Int)))=true then
   some 2
  else
  if (decide (p3.From < 0))=true then
   some 2
  else
  if (decide (p3.From≥a31.Card))=true then
   some 2
  else
  if (decide (p3.To < 0))=true then
   some 2
  else
  if (decide (p3.To≥a31.Card))=true then
   some 2
  else
  if (p3.From==p3.To)=true then
   some 2
  else
  some 0)
def Vq (a4:Tapi_Node) (p0:Qc) (p1:(List Int)) (s6:(Int × Int)):Option (Qm (Int × Int) Int) :=
 if (decide (s6.2 < (a4.Parents.length:Int)))=true then
  (lkI a4.Parents s6.2).bind fun a9 =>
  (lkI p0.Nodes a9).bind fun a11 =>
  (lkI p1 a9).bind fun a13 =>
  some (.next (zw ((zw (s6.1*a11.Card))+a13),zw (s6.2+1)))
 else
 some (.done s6.1)
def Vp (p0:Qc) (p1:(List Int)) (p2:Tapi_Shift) (s1:(Int × Int × Int × Int)):Option (Qm (Int × Int × Int × Int) (Int × Int × Int)) :=
 if (decide (s1.2.2.2 < (p0.Nodes.length:Int)))=true then
  (lkI p0.Nodes s1.2.2.2).bind fun a4 =>
  (Qd fuel (Vq a4 p0 p1) (0,0)).bind fun x16 =>
  (lkI a4.Rows x16).bind fun a17 =>
  (lkI p1 s1.2.2.2).bind fun a19 =>
  (lkI a17 a19).bind fun a21 =>
  if (!((s1.2.2.2==p2.Node) && ((x16==p2.Row) && true)))=true then
   some (.next (zw (s1.1*a21),s1.2.1,s1.2.2.1,zw (s1.2.2.2+1)))
  else
  if (a19==p2.From)=true then
   some (.next (s1.1,a21,-1,zw (s1.2.2.2+1)))
  else
  if (a19==p2.To)=true then
   some (.next (s1.1,a21,1,zw (s1.2.2.2+1)))
  else
  some (.next (s1.1,a21,s1.2.2.1,zw (s1.2.2.2+1)))
 else
 some (.done (s1.1,s1.2.1,s1.2.2.1))
def J0 (p0:Qc) (p1:(List Int)) (p2:Tapi_Shift):Option (Int × Int) :=
 (Qd fuel (Vp p0 p1 p2) (1,1,0,0)).bind fun x30 =>
 some (zw (x30.1*x30.2.1),zw (x30.1*x30.2.2))
def Vj (a16:Tapi_Node) (p1:(List Int)) (s3:(Int × (List (Int × Int × Int × Int)) × Int × Int × (List Int))) (r4:((Int × (List (Int × Int × Int × Int)) × Int × Int × (List Int))→Option ((List (Int × Int × Int × Int)) × Int × Int × (List Int)))) (s18:(Int × (List (Int × Int × Int × Int)) × Int × Int × (List Int))):Option (Qm (Int × (List (Int × Int × Int × Int)) × Int × Int × (List Int)) ((List (Int × Int × Int × Int)) × Int × Int × (List Int))) :=
 if (decide (s18.1 < a16.Card))=true then
  (lkI p1 s3.1).bind fun a21 =>
  if (a21==(-1))=true then
   (lkI s18.2.2.2.2 s3.1).bind fun a25 =>
   (r4 (zw (s3.1+1),s18.2.1,s18.2.2.1,s18.2.2.2.1,(List.set s18.2.2.2.2 (Int.toNat s3.1) s18.1))).bind fun x27 =>
   some (.next (zw (s18.1+1),x27.1,x27.2.1,x27.2.2.1,x27.2.2.2))
  else
  if (a21==s18.1)=true then
   (lkI s18.2.2.2.2 s3.1).bind fun a31 =>
   (r4 (zw (s3.1+1),s18.2.1,s18.2.2.1,s18.2.2.2.1,(List.set s18.2.2.2.2 (Int.toNat s3.1) s18.1))).bind fun x33 =>
   some (.next (zw (s18.1+1),x33.1,x33.2.1,x33.2.2.1,x33.2.2.2))
  else
  some (.next (zw (s18.1+1),s18.2.1,s18.2.2.1,s18.2.2.2.1,s18.2.2.2.2))
 else
 some (.done (s18.2.1,s18.2.2.1,s18.2.2.2.1,s18.2.2.2.2))
def Q2 (p0:Qc) (p3:Tapi_Shift) (p2:Int) (p1:(List Int)) (r4:((Int × (List (Int × Int × Int × Int)) × Int × Int × (List Int))→Option ((List (Int × Int × Int × Int)) × Int × Int × (List Int)))) (s3:(Int × (List (Int × Int × Int × Int)) × Int × Int × (List Int))):Option ((List (Int × Int × Int × Int)) × Int × Int × (List Int)) :=
 if (s3.1==(s3.2.2.2.2.length:Int))=true then
  (J0 p0 s3.2.2.2.2 p3).bind fun x8 =>
  (lkI s3.2.2.2.2 p2).bind fun a10 =>
  (lkI s3.2.1 a10).bind fun a12 =>
  some ((List.set (List.set s3.2.1 (Int.toNat a10) (zw (a12.1+x8.1),a12.2.1,a12.2.2.1,a12.2.2.2)) (Int.toNat a10) ((zw (a12.1+x8.1),a12.2.1,a12.2.2.1,a12.2.2.2).1,zw (((zw (a12.1+x8.1),a12.2.1,a12.2.2.1,a12.2.2.2).2.1)+x8.2),(zw (a12.1+x8.1),a12.2.1,a12.2.2.1,a12.2.2.2).2.2.1,(zw (a12.1+x8.1),a12.2.1,a12.2.2.1,a12.2.2.2).2.2.2)),zw (s3.2.2.1+x8.1),zw (s3.2.2.2.1+x8.2),s3.2.2.2.2)
 else
 (lkI p0.Nodes s3.1).bind fun a16 =>
 (Qd fuel (Vj a16 p1 s3 r4) (0,s3.2.1,s3.2.2.1,s3.2.2.2.1,s3.2.2.2.2)).bind fun x36 =>
 some (x36.1,x36.2.1,x36.2.2.1,x36.2.2.2)
def Ye (x37:((List (Int × Int × Int × Int)) × Int × Int × (List Int))) (s39:(Int × (List (Int × Int × Int × Int)))):Option (Qm (Int × (List (Int × Int × Int × Int))) (List (Int × Int × Int × Int))) :=
 if (decide (s39.1 < (x37.1.length:Int)))=true then
  (lkI s39.2 s39.1).bind fun a42 =>
  some (.next (zw (s39.1+1),(List.set (List.set s39.2 (Int.toNat s39.1) (a42.1,a42.2.1,x37.2.1,a42.2.2.2)) (Int.toNat s39.1) ((a42.1,a42.2.1,x37.2.1,a42.2.2.2).1,(a42.1,a42.2.1,x37.2.1,a42.2.2.2).2.1,(a42.1,a42.2.1,x37.2.1,a42.2.2.2).2.2.1,x37.2.2.1))))
 else
 some (.done s39.2)
def Ym (p0:Qc) (p1:(List Int)) (p2:Int) (p3:Tapi_Shift):Option (List (Int × Int × Int × Int)) :=
 (lkI p0.Nodes p2).bind fun a1 =>
 if 0≤a1.Card∧a1.Card≤a1.Card∧a1.Card*32≤140737488355328 then
  if 0≤(p0.Nodes.length:Int)∧(p0.Nodes.length:Int)≤(p0.Nodes.length:Int)∧(p0.Nodes.length:Int)*8≤140737488355328 then
   (Qh5 (Q2 p0 p3 p2 p1) fuel (0,(List.replicate (Int.toNat a1.Card) ((0,0,0,0):(Int × Int × Int × Int))),0,0,(List.replicate (Int.toNat (p0.Nodes.length:Int)) (0:Int)))).bind fun x37 =>
   (Qd fuel (Ye x37) (0,x37.1)).bind fun x47 =>
   some x47
  else none
 else none
def Zf (p0:Qc) (p1:(List Int)) (p2:Int) (p3:Int) (p4:Tapi_Shift):Option ((Int × Int × Int × Int) × Int) :=
 (Yk p0 p1 p2 p4 [p3]).bind fun x1 =>
 if (x1 != 0)=true then
  some ((0,0,0,0),x1)
 else
 (Ym p0 p1 p2 p4).bind fun x5 =>
 (lkI x5 p3).bind fun a7 =>
 some ((a7.1,a7.2.1,a7.2.2.1,a7.2.2.2),0)
def Qe6  (s1:(Int × Int)):Option (Qm (Int × Int) Int) :=
 if (s1.2 != 0)=true then
  if s1.2≠0 then
   some (.next (s1.2,Int.tmod s1.1 s1.2))
  else none
 else
 some (.done s1.1)
def Ko (p0:Int) (p1:Int):Option Int :=
 (Qd fuel (Qe6) (p0,p1)).bind fun x5 =>
 some x5
def X9 (p0:Int):Option Int :=
 if (decide (p0 < 0))=true then
  some (zv (0 - (zv (p0))))
 else
 some (zv (p0))
def J2 (p0:Tapi_Q):Option Int :=
 if (decide (p0.D < 1))=true then
  some 5
 else
 if (decide (p0.D > 4611686018427387903))=true then
  some 5
 else
 if (decide (p0.N < (-4611686018427387903)))=true then
  some 5
 else
 if (decide (p0.N > 4611686018427387903))=true then
  some 5
 else
 (X9 p0.N).bind fun x9 =>
 (Ko x9 (zv (p0.D))).bind fun x11 =>
 if (x11 != 1)=true then
  some 5
 else
 some 0
def Xw (p0:Tapi_Q):Option Int :=
 (J2 p0).bind fun x1 =>
 if (x1 != 0)=true then
  some x1
 else
 if (decide (p0.N < (-1000)))=true then
  some 2
 else
 if (decide (p0.N > 1000))=true then
  some 2
 else
 if (decide (p0.D > 1000))=true then
  some 2
 else
 some 0
def Yy (p0:Qc) (p1:Tapi_Shift):Option (Int × Int) :=
 (lkI p0.Nodes p1.Node).bind fun a1 =>
 (lkI a1.Rows p1.Row).bind fun a3 =>
 (lkI a3 p1.To).bind fun a5 =>
 (lkI a3 p1.From).bind fun a7 =>
 some (zw (0 - a5),a7)
def Qis (p0:Bool) (p1:(Int × Int)) (p2:(Int × Int)):Option Tapi_Q :=
 if (p1.1 != 0)=true then
  none
 else
 if (decide (p1.2 > 4611686018427387903))=true then
  none
 else
 if (p2.1 != 0)=true then
  none
 else
 if (decide (p2.2 > 4611686018427387903))=true then
  none
 else
 if p0=true then
  some (Tapi_Q.mk (zw (0 - (zw (p1.2)))) (zw (p2.2)))
 else
 some (Tapi_Q.mk (zw (p1.2)) (zw (p2.2)))
def Qbp (c0:Int) (c1:Int):Option Tapi_Q :=
 (X9 c0).bind fun x1 =>
 (X9 c1).bind fun x3 =>
 (Ko x1 x3).bind fun x5 =>
 (X9 c0).bind fun x7 =>
 if x5≠0 then
  (X9 c1).bind fun x9 =>
  if x5≠0 then
   (Qis (!((decide (c0 < 0))==(decide (c1 < 0)))) (0,zv (Int.tdiv x7 x5)) (0,zv (Int.tdiv x9 x5))).bind fun x11 =>
   some x11
  else none
 else none
def Jy (p0:Int) (p1:Int):Option (Tapi_Q × Int) :=
 if (p1==0)=true then
  some ((Tapi_Q.mk 0 0),2)
 else
 (Qbp p0 p1).bind fun x3 =>
 some (x3,0)
def X1 (p0:Qc) (p1:(List Int)) (p2:Int) (p3:Int) (p4:Tapi_Shift) (p5:Tapi_Q):Option (Tapi_Q × Int) :=
 (Zf p0 p1 p2 p3 p4).bind fun x1 =>
 if (x1.2 != 0)=true then
  some ((Tapi_Q.mk 0 0),x1.2)
 else
 (Xw p5).bind fun x5 =>
 if (x5 != 0)=true then
  some ((Tapi_Q.mk 0 0),x5)
 else
 (Yy p0 p4).bind fun x9 =>
 if (decide (p5.N < (zw (x9.1*p5.D))))=true then
  some ((Tapi_Q.mk 0 0),2)
 else
 if (decide (p5.N > (zw (x9.2*p5.D))))=true then
  some ((Tapi_Q.mk 0 0),2)
 else
 if ((zw ((zw (x1.1.2.2.1*p5.D))+(zw (x1.1.2.2.2*p5.N))))==0)=true then
  some ((Tapi_Q.mk 0 0),7)
 else
 (Jy (zw ((zw (x1.1.1*p5.D))+(zw (x1.1.2.1*p5.N)))) (zw ((zw (x1.1.2.2.1*p5.D))+(zw (x1.1.2.2.2*p5.N))))).bind fun x17 =>
 some (x17.1,x17.2)
def Qac  : Option Qc :=
 some (Qc.mk 10 ([(Tapi_Node.mk 2 [] [[7,3]]),(Tapi_Node.mk 2 [0] [[8,2],[2,8]])]:(List Tapi_Node)))
def Qed (p0:Int) (p1:Int) (p2:Int):Option Bool :=
 (Qac).bind fun x1 =>
 (X1 x1 [-1,1] 0 1 (Tapi_Shift.mk 0 0 0 1) (Tapi_Q.mk p0 1)).bind fun x3 =>
 if (x3.2==0)=true then
  some ((x3.1.N==p1) && ((x3.1.D==p2) && true))
 else
 some false
def Qd9 (p0:Int) (p1:Int):Option (Int × Int) :=
 some (zv ((zv ((zv ((Int.fdiv p0 (2^min (Int.toNat 32) (IntKind.bits .u64)))*(Int.fdiv p1 (2^min (Int.toNat 32) (IntKind.bits .u64)))))+(Int.fdiv (zv ((zv ((Int.fdiv p0 (2^min (Int.toNat 32) (IntKind.bits .u64)))*(zv (zb p1 &&& zb 4294967295).toNat)))+(Int.fdiv (zv ((zv (zb p0 &&& zb 4294967295).toNat)*(zv (zb p1 &&& zb 4294967295).toNat))) (2^min (Int.toNat 32) (IntKind.bits .u64))))) (2^min (Int.toNat 32) (IntKind.bits .u64)))))+(Int.fdiv (zv ((zv (zb (zv ((zv ((Int.fdiv p0 (2^min (Int.toNat 32) (IntKind.bits .u64)))*(zv (zb p1 &&& zb 4294967295).toNat)))+(Int.fdiv (zv ((zv (zb p0 &&& zb 4294967295).toNat)*(zv (zb p1 &&& zb 4294967295).toNat))) (2^min (Int.toNat 32) (IntKind.bits .u64))))) &&& zb 4294967295).toNat)+(zv ((zv (zb p0 &&& zb 4294967295).toNat)*(Int.fdiv p1 (2^min (Int.toNat 32) (IntKind.bits .u64))))))) (2^min (Int.toNat 32) (IntKind.bits .u64)))),zv (p0*p1))
def Qfc (p0:Int) (p1:Int):Option (Int × Int) :=
 (Qd9 p0 p1).bind fun x1 =>
 some (x1.1,x1.2)
def Qlg (p0:(Int × Int)) (p1:(Int × Int)):Option Bool :=
 if (decide (p0.1 < p1.1))=true then
  some true
 else
 if (p0.1==p1.1)=true then
  some (decide (p0.2 < p1.2))
 else
 some false
def Qka (p0:Tapi_Q) (p1:Tapi_Q):Option Int :=
 (X9 p0.N).bind fun x1 =>
 (Qfc x1 (zv (p1.D))).bind fun x3 =>
 (X9 p1.N).bind fun x5 =>
 (Qfc x5 (zv (p0.D))).bind fun x7 =>
 if (!((decide (p0.N < 0))==(decide (p1.N < 0))))=true then
  if (decide (p0.N < 0))=true then
   some (-1)
  else
  some 1
 else
 if ((x3.1==x7.1) && ((x3.2==x7.2) && true))=true then
  some 0
 else
 (Qlg (x3.1,x3.2) (x7.1,x7.2)).bind fun x15 =>
 if (x15==(decide (p0.N≥0)))=true then
  some (-1)
 else
 some 1
def Qcy (c0:Int) (c1:Int) (c2:Int) (c3:Int):Option Int :=
 (Qka (Tapi_Q.mk c0 c1) (Tapi_Q.mk c2 c3)).bind fun x1 =>
 some x1
def Qmw (p0:Tapi_Q) (p1:Tapi_Q):Option (Int × Int) :=
 (J2 p0).bind fun x1 =>
 if (x1 != 0)=true then
  some (0,5)
 else
 (J2 p1).bind fun x5 =>
 if (x5 != 0)=true then
  some (0,5)
 else
 (Qcy p0.N p0.D p1.N p1.D).bind fun x9 =>
 some (x9,0)
def Vy (p0:Tapi_Q) (p1:Tapi_Q):Option Bool :=
 (Qmw p0 p1).bind fun x1 =>
 some (decide (x1.1 < 0))
def Qc3 (p0:Tapi_Q) (p1:Int) (p2:Int):Option Bool :=
 (Vy p0 (Tapi_Q.mk p1 1)).bind fun x1 =>
 if (!x1)=true then
  (Vy (Tapi_Q.mk p2 1) p0).bind fun x5 =>
  some (!x5)
 else
 some false
def Qcv (p0:(Int × Int × Int × Int)) (p1:Tapi_Q) (p2:Int) (p3:Int):Option Bool :=
 if (p0.2.2.1==0)=true then
  if (p0.2.2.2==0)=true then
   some false
  else
  if (p1.D==1)=true then
   if (p1.N==p2)=true then
    some (decide ((zw (p0.2.2.1+(zw (p0.2.2.2*p1.N)))) > 0))
   else
   if (p1.N==p3)=true then
    some (decide ((zw (p0.2.2.1+(zw (p0.2.2.2*p1.N)))) > 0))
   else
   some true
  else
  some true
 else
 if (p1.D==1)=true then
  if (p1.N==p2)=true then
   some (decide ((zw (p0.2.2.1+(zw (p0.2.2.2*p1.N)))) > 0))
  else
  if (p1.N==p3)=true then
   some (decide ((zw (p0.2.2.1+(zw (p0.2.2.2*p1.N)))) > 0))
  else
  some true
 else
 some true
def Qbx (p0:Qc) (p1:(List Int)) (p2:Int) (p3:Int) (p4:Tapi_Shift) (p5:Tapi_Q):Option (Tapi_Q × Int) :=
 (Zf p0 p1 p2 p3 p4).bind fun x1 =>
 if (x1.2 != 0)=true then
  some ((Tapi_Q.mk 0 0),x1.2)
 else
 (Xw p5).bind fun x5 =>
 if (x5 != 0)=true then
  some ((Tapi_Q.mk 0 0),x5)
 else
 if (decide (p5.N < 0))=true then
  some ((Tapi_Q.mk 0 0),2)
 else
 if (decide (p5.N > p5.D))=true then
  some ((Tapi_Q.mk 0 0),2)
 else
 (Yy p0 p4).bind fun x13 =>
 if ((zw ((zw (x1.1.2.1*p5.D)) - (zw (x1.1.2.2.2*p5.N))))==0)=true then
  if ((zw ((zw (x1.1.2.2.1*p5.N)) - (zw (x1.1.1*p5.D)))) != 0)=true then
   some ((Tapi_Q.mk 0 0),4)
  else
  if (x13.1 != x13.2)=true then
   some ((Tapi_Q.mk 0 0),4)
  else
  if (x1.1.2.2.1==0)=true then
   some ((Tapi_Q.mk 0 0),4)
  else
  some ((Tapi_Q.mk 0 1),0)
 else
 (Jy (zw ((zw (x1.1.2.2.1*p5.N)) - (zw (x1.1.1*p5.D)))) (zw ((zw (x1.1.2.1*p5.D)) - (zw (x1.1.2.2.2*p5.N))))).bind fun x23 =>
 if (x23.2 != 0)=true then
  some ((Tapi_Q.mk 0 0),x23.2)
 else
 (Qc3 x23.1 x13.1 x13.2).bind fun x27 =>
 if (!x27)=true then
  some ((Tapi_Q.mk 0 0),4)
 else
 (Qcv (x1.1.1,x1.1.2.1,x1.1.2.2.1,x1.1.2.2.2) x23.1 x13.1 x13.2).bind fun x31 =>
 if (!x31)=true then
  some ((Tapi_Q.mk 0 0),4)
 else
 some (x23.1,0)
def Yn (p0:(List Int)) (p1:Tapi_Shift) (p2:Tapi_Q) (p3:Tapi_Q) (p4:Int):Option Bool :=
 (Qac).bind fun x1 =>
 (Qbx x1 p0 0 1 p1 p2).bind fun x3 =>
 if (x3.2==p4)=true then
  some ((x3.1.N==p3.N) && ((x3.1.D==p3.D) && true))
 else
 some false
def Qi6 (x5:(List (Int × Int × Int × Int))) (s11:(Int × Int)):Option (Qm (Int × Int) Int) :=
 if (decide (s11.2 < (x5.length:Int)))=true then
  (lkI x5 s11.2).bind fun a14 =>
  (lkI x5 s11.1).bind fun a16 =>
  if (decide (a14.1 > a16.1))=true then
   some (.next (s11.2,zw (s11.2+1)))
  else
  some (.next (s11.1,zw (s11.2+1)))
 else
 some (.done s11.1)
def Qi7 (x5:(List (Int × Int × Int × Int))) (x21:Int) (s24:(Int × Int × Int × Int × Int)):Option (Qm (Int × Int × Int × Int × Int) (Int × Int × Int × Int)) :=
 if (decide (s24.1 < (x5.length:Int)))=true then
  (lkI x5 s24.1).bind fun a27 =>
  (lkI x5 x21).bind fun a29 =>
  if ((zw (a29.2.1 - a27.2.1))==0)=true then
   some (.next (zw (s24.1+1),s24.2.1,s24.2.2.1,s24.2.2.2.1,s24.2.2.2.2))
  else
  (Jy (zw (0 - (zw (a29.1 - a27.1)))) (zw (a29.2.1 - a27.2.1))).bind fun x33 =>
  if (x33.2 != 0)=true then
   some (.next (zw (s24.1+1),s24.2.1,s24.2.2.1,s24.2.2.2.1,s24.2.2.2.2))
  else
  if (decide ((zw (a29.2.1 - a27.2.1)) < 0))=true then
   (Vy x33.1 (Tapi_Q.mk s24.2.2.2.1 s24.2.2.2.2)).bind fun x39 =>
   if x39=true then
    some (.next (zw (s24.1+1),s24.2.1,s24.2.2.1,x33.1.N,x33.1.D))
   else
   some (.next (zw (s24.1+1),s24.2.1,s24.2.2.1,s24.2.2.2.1,s24.2.2.2.2))
  else
  (Vy (Tapi_Q.mk s24.2.1 s24.2.2.1) x33.1).bind fun x43 =>
  if x43=true then
   some (.next (zw (s24.1+1),x33.1.N,x33.1.D,s24.2.2.2.1,s24.2.2.2.2))
  else
  some (.next (zw (s24.1+1),s24.2.1,s24.2.2.1,s24.2.2.2.1,s24.2.2.2.2))
 else
 some (.done (s24.2.1,s24.2.2.1,s24.2.2.2.1,s24.2.2.2.2))
def Qfd (p0:Qc) (p1:(List Int)) (p2:Int) (p3:Tapi_Shift):Option (Tapi_Q × Tapi_Q × Int) :=
 (Yk p0 p1 p2 p3 []).bind fun x1 =>
 if (x1 != 0)=true then
  some ((Tapi_Q.mk 0 0),(Tapi_Q.mk 0 0),x1)
 else
 (Ym p0 p1 p2 p3).bind fun x5 =>
 (lkI x5 0).bind fun a7 =>
 if (a7.2.2.1==0)=true then
  some ((Tapi_Q.mk 0 0),(Tapi_Q.mk 0 0),7)
 else
 (Qd fuel (Qi6 x5) (0,0)).bind fun x21 =>
 (Yy p0 p3).bind fun x22 =>
 (Qd fuel (Qi7 x5 x21) (0,x22.1,1,x22.2,1)).bind fun x48 =>
 some ((Tapi_Q.mk x48.1 x48.2.1),(Tapi_Q.mk x48.2.2.1 x48.2.2.2),0)
def Qfj (p0:(List Int)) (p1:Int) (p2:Int):Option Bool :=
 (Qac).bind fun x1 =>
 (Qfd x1 p0 0 (Tapi_Shift.mk 0 0 0 1)).bind fun x3 =>
 if (x3.2.2==0)=true then
  if ((x3.1.N==p1) && ((x3.1.D==1) && true))=true then
   some ((x3.2.1.N==p2) && ((x3.2.1.D==1) && true))
  else
  some false
 else
 some false
def Qd4  : Option Bool :=
 (Qac).bind fun x1 =>
 (Zf x1 [-1,1] 0 1 (Tapi_Shift.mk 0 0 0 1)).bind fun x3 =>
 (Zf x1 [-1,1] 0 1 (Tapi_Shift.mk 1 1 1 0)).bind fun x5 =>
 (X1 x1 [-1,1] 0 1 (Tapi_Shift.mk 0 0 0 1) (Tapi_Q.mk 8 1)).bind fun x7 =>
 (Zf x1 [2,0] 0 1 (Tapi_Shift.mk 0 0 0 1)).bind fun x9 =>
 (Zf x1 [-1,1] 2 0 (Tapi_Shift.mk 0 0 0 1)).bind fun x11 =>
 (Zf x1 [-1,1] 0 1 (Tapi_Shift.mk 0 0 0 0)).bind fun x13 =>
 (X1 x1 [-1,1] 0 1 (Tapi_Shift.mk 0 0 0 1) (Tapi_Q.mk 2 4)).bind fun x15 =>
 (X1 x1 [-1,1] 0 1 (Tapi_Shift.mk 0 0 0 1) (Tapi_Q.mk 1 2000)).bind fun x17 =>
 if ((x3.1.1==24) && ((x3.1.2.1==8) && ((x3.1.2.2.1==38) && ((x3.1.2.2.2==6) && true))))=true then
  if (x3.2==0)=true then
   if ((x5.1.1==24) && ((x5.1.2.1==(-3)) && ((x5.1.2.2.1==38) && ((x5.1.2.2.2==(-3)) && true))))=true then
    if (x5.2==0)=true then
     if (x7.2==2)=true then
      if (x9.2==2)=true then
       if (x11.2==2)=true then
        if (x13.2==2)=true then
         if (x15.2==5)=true then
          if (x17.2==2)=true then
           (Qed 0 12 19).bind fun x39 =>
           if x39=true then
            (Qed 1 8 11).bind fun x43 =>
            if x43=true then
             (Qed 7 1 1).bind fun x47 =>
             if x47=true then
              (Yn [-1,1] (Tapi_Shift.mk 0 0 0 1) (Tapi_Q.mk 1 2) (Tapi_Q.mk (-1) 1) 0).bind fun x51 =>
              if x51=true then
               (Qfj [-1,1] (-1) 7).bind fun x55 =>
               if x55=true then
                (Qfj [-1,-1] (-3) 2).bind fun x59 =>
                if x59=true then
                 (Yn [-1,1] (Tapi_Shift.mk 0 0 0 1) (Tapi_Q.mk 0 1) (Tapi_Q.mk (-3) 1) 0).bind fun x63 =>
                 if x63=true then
                  (Yn [-1,1] (Tapi_Shift.mk 1 1 1 0) (Tapi_Q.mk 1 2) (Tapi_Q.mk 10 3) 0).bind fun x67 =>
                  if x67=true then
                   (Yn [1,1] (Tapi_Shift.mk 0 0 0 1) (Tapi_Q.mk 1 1) (Tapi_Q.mk 0 0) 4).bind fun x71 =>
                   if x71=true then
                    (Yn [-1,1] (Tapi_Shift.mk 1 1 1 0) (Tapi_Q.mk 3 4) (Tapi_Q.mk 0 0) 4).bind fun x75 =>
                    some x75
                   else
                   some false
                  else
                  some false
                 else
                 some false
                else
                some false
               else
               some false
              else
              some false
             else
             some false
            else
            some false
           else
           some false
          else
          some false
         else
         some false
        else
        some false
       else
       some false
      else
      some false
     else
     some false
    else
    some false
   else
   some false
  else
  some false
 else
 some false
def Qdy (p1:(List Int)) (p0:(List Int)) (s1:(Int × (List Int))):Option (Qm (Int × (List Int)) (List Int)) :=
 if (decide (s1.1 < (p1.length:Int)))=true then
  (lkI p1 s1.1).bind fun a4 =>
  (lkI p0 a4).bind fun a6 =>
  if (s1.2++([a6]:(List Int))).length*8≤140737488355328 then
   some (.next (zw (s1.1+1),(s1.2++([a6]:(List Int)))))
  else none
 else
 some (.done s1.2)
def Qei (p0:(List Int)) (p1:(List Int)):Option (List Int) :=
 (Qd fuel (Qdy p1 p0) (0,([]:(List Int)))).bind fun x9 =>
 some x9
def Qbg (p0:Qc) (s1:(Int × (List Int))):Option (Qm (Int × (List Int)) (List Int)) :=
 if (decide (s1.1 < (p0.Nodes.length:Int)))=true then
  (lkI p0.Nodes s1.1).bind fun a4 =>
  if (s1.2++([a4.Card]:(List Int))).length*8≤140737488355328 then
   some (.next (zw (s1.1+1),(s1.2++([a4.Card]:(List Int)))))
  else none
 else
 some (.done s1.2)
def Qa6 (p0:Qc):Option (List Int) :=
 (Qd fuel (Qbg p0) (0,([]:(List Int)))).bind fun x7 =>
 some x7
def Z4 (p0:Qc) (p1:Int):Option (List Int) :=
 (Qa6 p0).bind fun x1 =>
 (lkI p0.Nodes p1).bind fun a3 =>
 (Qei x1 a3.Parents).bind fun x5 =>
 some x5
def Ju (p0:Tharuspexref02_Draft) (s1:(Int × (List Int))):Option (Qm (Int × (List Int)) (List Int)) :=
 if (decide (s1.1 < (p0.C.length:Int)))=true then
  if (decide (s1.1 < 5))=true then
   (lkI p0.C s1.1).bind fun a6 =>
   if (s1.2++([zw (1+(zw (Int.tmod a6 4)))]:(List Int))).length*8≤140737488355328 then
    some (.next (zw (s1.1+1),(s1.2++([zw (1+(zw (Int.tmod a6 4)))]:(List Int)))))
   else none
  else
  some (.done s1.2)
 else
 some (.done s1.2)
def V3 (p0:Tharuspexref02_Draft):Option (List Int) :=
 (Qd fuel (Ju p0) (0,([]:(List Int)))).bind fun x9 =>
 some x9
def Yu (p0:Tharuspexref02_Draft) (s1:(Int × (List Int))):Option (Qm (Int × (List Int)) (List Int)) :=
 (V3 p0).bind fun x2 =>
 if (decide (s1.1 < (x2.length:Int)))=true then
  if (decide (s1.1 < (p0.Order.length:Int)))=true then
   (lkI p0.Order s1.1).bind fun a8 =>
   if (zw (s1.1+1))≠0 then
    if 0≤(0:Int)∧(0:Int)≤(Int.tmod (zw (a8)) (zw (s1.1+1)))∧(Int.tmod (zw (a8)) (zw (s1.1+1)))≤(s1.2.length:Int) then
     if (sub s1.2 0 (Int.tmod (zw (a8)) (zw (s1.1+1)))).length*8≤140737488355328 then
      if ((sub s1.2 0 (Int.tmod (zw (a8)) (zw (s1.1+1))))++([s1.1]:(List Int))).length*8≤140737488355328 then
       if 0≤(Int.tmod (zw (a8)) (zw (s1.1+1)))∧(Int.tmod (zw (a8)) (zw (s1.1+1)))≤(s1.2.length:Int)∧(s1.2.length:Int)≤(s1.2.length:Int) then
        if (((sub s1.2 0 (Int.tmod (zw (a8)) (zw (s1.1+1))))++([s1.1]:(List Int)))++(sub s1.2 (Int.tmod (zw (a8)) (zw (s1.1+1))) (s1.2.length:Int))).length*8≤140737488355328 then
         some (.next (zw (s1.1+1),(((sub s1.2 0 (Int.tmod (zw (a8)) (zw (s1.1+1))))++([s1.1]:(List Int)))++(sub s1.2 (Int.tmod (zw (a8)) (zw (s1.1+1))) (s1.2.length:Int)))))
        else none
       else none
      else none
     else none
    else none
   else none
  else
  if 0≤(0:Int)∧(0:Int)≤(0:Int)∧(0:Int)≤(s1.2.length:Int) then
   if (sub s1.2 0 0).length*8≤140737488355328 then
    if ((sub s1.2 0 0)++([s1.1]:(List Int))).length*8≤140737488355328 then
     if 0≤(0:Int)∧(0:Int)≤(s1.2.length:Int)∧(s1.2.length:Int)≤(s1.2.length:Int) then
      if (((sub s1.2 0 0)++([s1.1]:(List Int)))++(sub s1.2 0 (s1.2.length:Int))).length*8≤140737488355328 then
       some (.next (zw (s1.1+1),(((sub s1.2 0 0)++([s1.1]:(List Int)))++(sub s1.2 0 (s1.2.length:Int)))))
      else none
     else none
    else none
   else none
  else none
 else
 some (.done s1.2)
def X6 (p0:Tharuspexref02_Draft):Option (List Int) :=
 (Qd fuel (Yu p0) (0,([]:(List Int)))).bind fun x15 =>
 some x15
def Qcd (p0:(List Int)) (s1:(Int × Int)):Option (Qm (Int × Int) Int) :=
 if (decide (s1.2 < (p0.length:Int)))=true then
  (lkI p0 s1.2).bind fun a4 =>
  some (.next (zw (s1.1*a4),zw (s1.2+1)))
 else
 some (.done s1.1)
def Qaa (p0:(List Int)):Option Int :=
 (Qd fuel (Qcd p0) (1,0)).bind fun x7 =>
 some x7
def Vu (p1:Int) (p2:(List Int)) (p3:Int) (s1:(Int × Int × (List Int))):Option (Qm (Int × Int × (List Int)) (Int × (List Int))) :=
 if (decide (s1.2.1 < p1))=true then
  if (decide ((p2.length:Int) > 0))=true then
   if (p2.length:Int)≠0 then
    (lkI p2 (Int.tmod (zw (p3+s1.2.1)) (p2.length:Int))).bind fun a6 =>
    (lkI s1.2.2 s1.2.1).bind fun a8 =>
    some (.next (zw (s1.1+(zw (Int.tmod a6 8))),zw (s1.2.1+1),(List.set s1.2.2 (Int.toNat s1.2.1) (zw (Int.tmod a6 8)))))
   else none
  else
  (lkI s1.2.2 s1.2.1).bind fun a11 =>
  some (.next (zw (s1.1+a11),zw (s1.2.1+1),s1.2.2))
 else
 some (.done (s1.1,s1.2.2))
def Qc9 (p1:Int) (x14:(Int × (List Int))) (p0:Int) (s15:(Int × Int × Int × (List Int))):Option (Qm (Int × Int × Int × (List Int)) (Int × Int × (List Int))) :=
 if (decide (s15.2.2.1 < p1))=true then
  (lkI s15.2.2.2 s15.2.2.1).bind fun a18 =>
  if (decide (a18 > 0))=true then
   if x14.1≠0 then
    some (.next (zw (s15.1 - (zw (Int.tdiv (zw (p0*a18)) x14.1))),s15.2.2.1,zw (s15.2.2.1+1),(List.set s15.2.2.2 (Int.toNat s15.2.2.1) (zw (Int.tdiv (zw (p0*a18)) x14.1)))))
   else none
  else
  some (.next (zw (s15.1 - a18),s15.2.1,zw (s15.2.2.1+1),s15.2.2.2))
 else
 some (.done (s15.1,s15.2.1,s15.2.2.2))
def Qay (p0:Int) (p1:Int) (p2:(List Int)) (p3:Int):Option (List Int) :=
 if 0≤p1∧p1≤p1∧p1*8≤140737488355328 then
  (Qd fuel (Vu p1 p2 p3) (0,0,(List.replicate (Int.toNat p1) (0:Int)))).bind fun x14 =>
  (Qd fuel (Qc9 p1 x14 p0) (p0,0,0,x14.2)).bind fun x24 =>
  (lkI x24.2.2 x24.2.1).bind fun a25 =>
  some (List.set x24.2.2 (Int.toNat x24.2.1) (zw (a25+x24.1)))
 else none
def Yi (p0:Qe) (x1:(List Int)) (s3:(Int × Int × (List (Int ⊕ Tapi_Node)))):Option (Qm (Int × Int × (List (Int ⊕ Tapi_Node))) (List (Int ⊕ Tapi_Node))) :=
 if (decide (s3.2.1 < (if 5 < (if 1 > (p0.Nodes.length:Int) then 1 else (p0.Nodes.length:Int)) then 5 else (if 1 > (p0.Nodes.length:Int) then 1 else (p0.Nodes.length:Int)))))=true then
  if (decide (s3.2.1 < (p0.Nodes.length:Int)))=true then
   (lkI p0.Nodes s3.2.1).bind fun a8 =>
   if 0≤(zv (zw ((zw ((if 5 < (if 1 > (p0.Nodes.length:Int) then 1 else (p0.Nodes.length:Int)) then 5 else (if 1 > (p0.Nodes.length:Int) then 1 else (p0.Nodes.length:Int))) - 1)) - s3.2.1))) then
    if (decide ((zw ((zw (s3.1*(zw (2+(zw (Int.tmod a8.Card 2))))))*2^min (Int.toNat (zv (zw ((zw ((if 5 < (if 1 > (p0.Nodes.length:Int) then 1 else (p0.Nodes.length:Int)) then 5 else (if 1 > (p0.Nodes.length:Int) then 1 else (p0.Nodes.length:Int))) - 1)) - s3.2.1)))) (IntKind.bits .i64))) > 100))=true then
     (lkI x1 s3.2.1).bind fun a12 =>
     (lkL s3.2.2 a12).bind fun a14 =>
     some (.next (zw (s3.1*2),zw (s3.2.1+1),(List.set s3.2.2 (Int.toNat a12) (Sum.inl 2))))
    else
    (lkI x1 s3.2.1).bind fun a17 =>
    (lkL s3.2.2 a17).bind fun a19 =>
    some (.next (zw (s3.1*(zw (2+(zw (Int.tmod a8.Card 2))))),zw (s3.2.1+1),(List.set s3.2.2 (Int.toNat a17) (Sum.inl (zw (2+(zw (Int.tmod a8.Card 2))))))))
   else none
  else
  if 0≤(zv (zw ((zw ((if 5 < (if 1 > (p0.Nodes.length:Int) then 1 else (p0.Nodes.length:Int)) then 5 else (if 1 > (p0.Nodes.length:Int) then 1 else (p0.Nodes.length:Int))) - 1)) - s3.2.1))) then
   if (decide ((zw ((zw (s3.1*(zw (2+(zw (Int.tmod 0 2))))))*2^min (Int.toNat (zv (zw ((zw ((if 5 < (if 1 > (p0.Nodes.length:Int) then 1 else (p0.Nodes.length:Int)) then 5 else (if 1 > (p0.Nodes.length:Int) then 1 else (p0.Nodes.length:Int))) - 1)) - s3.2.1)))) (IntKind.bits .i64))) > 100))=true then
    (lkI x1 s3.2.1).bind fun a24 =>
    (lkL s3.2.2 a24).bind fun a26 =>
    some (.next (zw (s3.1*2),zw (s3.2.1+1),(List.set s3.2.2 (Int.toNat a24) (Sum.inl 2))))
   else
   (lkI x1 s3.2.1).bind fun a29 =>
   (lkL s3.2.2 a29).bind fun a31 =>
   some (.next (zw (s3.1*(zw (2+(zw (Int.tmod 0 2))))),zw (s3.2.1+1),(List.set s3.2.2 (Int.toNat a29) (Sum.inl (zw (2+(zw (Int.tmod 0 2))))))))
  else none
 else
 some (.done s3.2.2)
def Yj (s36:(Int × (List (Int ⊕ Tapi_Node)))) (x1:(List Int)) (s55:(Int × (List Int))) (a49:Qw) (s58:(Int × (List Int))):Option (Qm (Int × (List Int)) (List Int)) :=
 if (decide (s58.1 < s36.1))=true then
  (lkI x1 s58.1).bind fun a61 =>
  if (a61==s55.1)=true then
   if 0≤(zv (s58.1)) then
    if ((IntKind.u8.wrap (BitVec.ofInt (IntKind.bits .u8) (Int.fdiv a49.Parents (2^min (Int.toNat (zv (s58.1))) (IntKind.bits .u8))) &&& BitVec.ofInt (IntKind.bits .u8) 1).toNat)==1)=true then
     if (decide ((s58.2.length:Int) < 3))=true then
      if (s58.2++([s55.1]:(List Int))).length*8≤140737488355328 then
       some (.next (zw (s58.1+1),(s58.2++([s55.1]:(List Int)))))
      else none
     else
     some (.next (zw (s58.1+1),s58.2))
    else
    some (.next (zw (s58.1+1),s58.2))
   else none
  else
  some (.next (zw (s58.1+1),s58.2))
 else
 some (.done s58.2)
def Xg (p0:Qe) (s36:(Int × (List (Int ⊕ Tapi_Node)))) (x1:(List Int)) (a49:Qw) (s55:(Int × (List Int))):Option (Qm (Int × (List Int)) (List Int)) :=
 if (decide (s55.1 < (if 5 < (if 1 > (p0.Nodes.length:Int) then 1 else (p0.Nodes.length:Int)) then 5 else (if 1 > (p0.Nodes.length:Int) then 1 else (p0.Nodes.length:Int)))))=true then
  (Qd fuel (Yj s36 x1 s55 a49) (0,s55.2)).bind fun x70 =>
  some (.next (zw (s55.1+1),x70))
 else
 some (.done s55.2)
def Yf (p0:Qe) (s36:(Int × (List (Int ⊕ Tapi_Node)))) (a51:Int) (a53:Int) (x72:(List Int)) (a49:Qw) (s73:(Int × (List (List Int)))):Option (Qm (Int × (List (List Int))) (List (List Int))) :=
 (Z4 (Qc.mk (zw (1+(zw (Int.tmod p0.Grain 60)))) (List.set (List.map coTapi_Node s36.2) (Int.toNat a51) (Tapi_Node.mk a53 x72 s73.2))) a51).bind fun x74 =>
 (Qaa x74).bind fun x76 =>
 if (decide (s73.1 < x76))=true then
  (Qay (zw (1+(zw (Int.tmod p0.Grain 60)))) a53 a49.W (zw (s73.1*(zw (a53+1))))).bind fun x80 =>
  if (s73.2++([x80]:(List (List Int)))).length*24≤140737488355328 then
   some (.next (zw (s73.1+1),(s73.2++([x80]:(List (List Int))))))
  else none
 else
 some (.done s73.2)
def Qid (s36:(Int × (List (Int ⊕ Tapi_Node)))) (x1:(List Int)) (s90:(Int × (List Int))) (s93:(Int × (List Int))):Option (Qm (Int × (List Int)) (List Int)) :=
 if (decide (s93.1 < s36.1))=true then
  (lkI x1 s93.1).bind fun a96 =>
  if (a96==s90.1)=true then
   if 0≤(zv (s93.1)) then
    if ((IntKind.u8.wrap (BitVec.ofInt (IntKind.bits .u8) (Int.fdiv 0 (2^min (Int.toNat (zv (s93.1))) (IntKind.bits .u8))) &&& BitVec.ofInt (IntKind.bits .u8) 1).toNat)==1)=true then
     if (decide ((s93.2.length:Int) < 3))=true then
      if (s93.2++([s90.1]:(List Int))).length*8≤140737488355328 then
       some (.next (zw (s93.1+1),(s93.2++([s90.1]:(List Int)))))
      else none
     else
     some (.next (zw (s93.1+1),s93.2))
    else
    some (.next (zw (s93.1+1),s93.2))
   else none
  else
  some (.next (zw (s93.1+1),s93.2))
 else
 some (.done s93.2)
def Qct (p0:Qe) (s36:(Int × (List (Int ⊕ Tapi_Node)))) (x1:(List Int)) (s90:(Int × (List Int))):Option (Qm (Int × (List Int)) (List Int)) :=
 if (decide (s90.1 < (if 5 < (if 1 > (p0.Nodes.length:Int) then 1 else (p0.Nodes.length:Int)) then 5 else (if 1 > (p0.Nodes.length:Int) then 1 else (p0.Nodes.length:Int)))))=true then
  (Qd fuel (Qid s36 x1 s90) (0,s90.2)).bind fun x105 =>
  some (.next (zw (s90.1+1),x105))
 else
 some (.done s90.2)
def Qig (p0:Qe) (s36:(Int × (List (Int ⊕ Tapi_Node)))) (a86:Int) (a88:Int) (x107:(List Int)) (s108:(Int × (List (List Int)))):Option (Qm (Int × (List (List Int))) (List (List Int))) :=
 (Z4 (Qc.mk (zw (1+(zw (Int.tmod p0.Grain 60)))) (List.set (List.map coTapi_Node s36.2) (Int.toNat a86) (Tapi_Node.mk a88 x107 s108.2))) a86).bind fun x109 =>
 (Qaa x109).bind fun x111 =>
 if (decide (s108.1 < x111))=true then
  (Qay (zw (1+(zw (Int.tmod p0.Grain 60)))) a88 [] (zw (s108.1*(zw (a88+1))))).bind fun x115 =>
  if (s108.2++([x115]:(List (List Int)))).length*24≤140737488355328 then
   some (.next (zw (s108.1+1),(s108.2++([x115]:(List (List Int))))))
  else none
 else
 some (.done s108.2)
def Yb (p0:Qe) (x1:(List Int)) (s36:(Int × (List (Int ⊕ Tapi_Node)))):Option (Qm (Int × (List (Int ⊕ Tapi_Node))) (List (Int ⊕ Tapi_Node))) :=
 if (decide (s36.1 < (if 5 < (if 1 > (p0.Nodes.length:Int) then 1 else (p0.Nodes.length:Int)) then 5 else (if 1 > (p0.Nodes.length:Int) then 1 else (p0.Nodes.length:Int)))))=true then
  if (decide (s36.1 < (p0.Nodes.length:Int)))=true then
   (lkI p0.Nodes s36.1).bind fun a49 =>
   (lkI x1 s36.1).bind fun a51 =>
   (lkL s36.2 a51).bind fun a53 =>
   (Qd fuel (Xg p0 s36 x1 a49) (0,([]:(List Int)))).bind fun x72 =>
   (Qd fuel (Yf p0 s36 a51 a53 x72 a49) (0,([]:(List (List Int))))).bind fun x83 =>
   some (.next (zw (s36.1+1),(List.set s36.2 (Int.toNat a51) (Sum.inr (Tapi_Node.mk a53 x72 x83)))))
  else
  (lkI x1 s36.1).bind fun a86 =>
  (lkL s36.2 a86).bind fun a88 =>
  (Qd fuel (Qct p0 s36 x1) (0,([]:(List Int)))).bind fun x107 =>
  (Qd fuel (Qig p0 s36 a86 a88 x107) (0,([]:(List (List Int))))).bind fun x118 =>
  some (.next (zw (s36.1+1),(List.set s36.2 (Int.toNat a86) (Sum.inr (Tapi_Node.mk a88 x107 x118)))))
 else
 some (.done s36.2)
def Jz (p0:Qe):Option Qc :=
 if 0≤(if 5 < (if 1 > (p0.Nodes.length:Int) then 1 else (p0.Nodes.length:Int)) then 5 else (if 1 > (p0.Nodes.length:Int) then 1 else (p0.Nodes.length:Int)))∧(if 5 < (if 1 > (p0.Nodes.length:Int) then 1 else (p0.Nodes.length:Int)) then 5 else (if 1 > (p0.Nodes.length:Int) then 1 else (p0.Nodes.length:Int)))≤(if 5 < (if 1 > (p0.Nodes.length:Int) then 1 else (p0.Nodes.length:Int)) then 5 else (if 1 > (p0.Nodes.length:Int) then 1 else (p0.Nodes.length:Int)))∧(if 5 < (if 1 > (p0.Nodes.length:Int) then 1 else (p0.Nodes.length:Int)) then 5 else (if 1 > (p0.Nodes.length:Int) then 1 else (p0.Nodes.length:Int)))*56≤140737488355328 then
  if 0≤(if 5 < (if 1 > (p0.Nodes.length:Int) then 1 else (p0.Nodes.length:Int)) then 5 else (if 1 > (p0.Nodes.length:Int) then 1 else (p0.Nodes.length:Int)))∧(if 5 < (if 1 > (p0.Nodes.length:Int) then 1 else (p0.Nodes.length:Int)) then 5 else (if 1 > (p0.Nodes.length:Int) then 1 else (p0.Nodes.length:Int)))≤(if 5 < (if 1 > (p0.Nodes.length:Int) then 1 else (p0.Nodes.length:Int)) then 5 else (if 1 > (p0.Nodes.length:Int) then 1 else (p0.Nodes.length:Int)))∧(if 5 < (if 1 > (p0.Nodes.length:Int) then 1 else (p0.Nodes.length:Int)) then 5 else (if 1 > (p0.Nodes.length:Int) then 1 else (p0.Nodes.length:Int)))*1≤140737488355328 then
   (X6 (Tharuspexref02_Draft.mk (List.replicate (Int.toNat (if 5 < (if 1 > (p0.Nodes.length:Int) then 1 else (p0.Nodes.length:Int)) then 5 else (if 1 > (p0.Nodes.length:Int) then 1 else (p0.Nodes.length:Int)))) (0:Int)) 0 p0.Order)).bind fun x1 =>
   (Qd fuel (Yi p0 x1) (1,0,(List.replicate (Int.toNat (if 5 < (if 1 > (p0.Nodes.length:Int) then 1 else (p0.Nodes.length:Int)) then 5 else (if 1 > (p0.Nodes.length:Int) then 1 else (p0.Nodes.length:Int)))) ((Sum.inl 0):(Int ⊕ Tapi_Node))))).bind fun x35 =>
   (Qd fuel (Yb p0 x1) (0,x35)).bind fun x122 =>
   (alr x122).bind fun m123 =>
   some (Qc.mk (zw (1+(zw (Int.tmod p0.Grain 60)))) m123)
  else none
 else none
def V5 (p1:Qc) (p0:Tharuspexref05_Known) (s1:(Int × (List Int))):Option (Qm (Int × (List Int)) (List Int)) :=
 if (decide (s1.1 < (p1.Nodes.length:Int)))=true then
  if 0≤(zv (s1.1)) then
   if ((IntKind.u8.wrap (BitVec.ofInt (IntKind.bits .u8) (Int.fdiv p0.Which (2^min (Int.toNat (zv (s1.1))) (IntKind.bits .u8))) &&& BitVec.ofInt (IntKind.bits .u8) 1).toNat)==1)=true then
    if s1.1=0 then
     (lkI p1.Nodes 0).bind fun a7 =>
     if a7.Card≠0 then
      if (s1.2++([Int.tmod (zw (p0.V.1)) a7.Card]:(List Int))).length*8≤140737488355328 then
       some (.next (1,(s1.2++([Int.tmod (zw (p0.V.1)) a7.Card]:(List Int)))))
      else none
     else none
    else
    if s1.1=1 then
     (lkI p1.Nodes 1).bind fun a10 =>
     if a10.Card≠0 then
      if (s1.2++([Int.tmod (zw (p0.V.2.1)) a10.Card]:(List Int))).length*8≤140737488355328 then
       some (.next (2,(s1.2++([Int.tmod (zw (p0.V.2.1)) a10.Card]:(List Int)))))
      else none
     else none
    else
    if s1.1=2 then
     (lkI p1.Nodes 2).bind fun a13 =>
     if a13.Card≠0 then
      if (s1.2++([Int.tmod (zw (p0.V.2.2.1)) a13.Card]:(List Int))).length*8≤140737488355328 then
       some (.next (3,(s1.2++([Int.tmod (zw (p0.V.2.2.1)) a13.Card]:(List Int)))))
      else none
     else none
    else
    if s1.1=3 then
     (lkI p1.Nodes 3).bind fun a16 =>
     if a16.Card≠0 then
      if (s1.2++([Int.tmod (zw (p0.V.2.2.2.1)) a16.Card]:(List Int))).length*8≤140737488355328 then
       some (.next (4,(s1.2++([Int.tmod (zw (p0.V.2.2.2.1)) a16.Card]:(List Int)))))
      else none
     else none
    else
    if s1.1=4 then
     (lkI p1.Nodes 4).bind fun a19 =>
     if a19.Card≠0 then
      if (s1.2++([Int.tmod (zw (p0.V.2.2.2.2.1)) a19.Card]:(List Int))).length*8≤140737488355328 then
       some (.next (5,(s1.2++([Int.tmod (zw (p0.V.2.2.2.2.1)) a19.Card]:(List Int)))))
      else none
     else none
    else
    if s1.1=5 then
     (lkI p1.Nodes 5).bind fun a22 =>
     if a22.Card≠0 then
      if (s1.2++([Int.tmod (zw (p0.V.2.2.2.2.2.1)) a22.Card]:(List Int))).length*8≤140737488355328 then
       some (.next (6,(s1.2++([Int.tmod (zw (p0.V.2.2.2.2.2.1)) a22.Card]:(List Int)))))
      else none
     else none
    else
    if s1.1=6 then
     (lkI p1.Nodes 6).bind fun a25 =>
     if a25.Card≠0 then
      if (s1.2++([Int.tmod (zw (p0.V.2.2.2.2.2.2.1)) a25.Card]:(List Int))).length*8≤140737488355328 then
       some (.next (7,(s1.2++([Int.tmod (zw (p0.V.2.2.2.2.2.2.1)) a25.Card]:(List Int)))))
      else none
     else none
    else
    if s1.1=7 then
     (lkI p1.Nodes 7).bind fun a28 =>
     if a28.Card≠0 then
      if (s1.2++([Int.tmod (zw (p0.V.2.2.2.2.2.2.2)) a28.Card]:(List Int))).length*8≤140737488355328 then
       some (.next (8,(s1.2++([Int.tmod (zw (p0.V.2.2.2.2.2.2.2)) a28.Card]:(List Int)))))
      else none
     else none
    else
    none
   else
   if (s1.2++([-1]:(List Int))).length*8≤140737488355328 then
    some (.next (zw (s1.1+1),(s1.2++([-1]:(List Int)))))
   else none
  else none
 else
 some (.done s1.2)
def Kd (p0:Tharuspexref05_Known) (p1:Qc):Option (List Int) :=
 (Qd fuel (V5 p1 p0) (0,([]:(List Int)))).bind fun x31 =>
 some x31
def Ke (p0:Z0) (p1:Qc):Option (Int × Int × Tapi_Shift) :=
 if (p1.Nodes.length:Int)≠0 then
  if (p1.Nodes.length:Int)≠0 then
   (lkI p1.Nodes (Int.tmod (zw (p0.Node)) (p1.Nodes.length:Int))).bind fun a1 =>
   if (a1.Rows.length:Int)≠0 then
    if a1.Card≠0 then
     if (if (zw (a1.Card - 1)) > 1 then (zw (a1.Card - 1)) else 1)≠0 then
      if a1.Card≠0 then
       (lkI p1.Nodes (Int.tmod (zw (p0.V)) (p1.Nodes.length:Int))).bind fun a3 =>
       if a3.Card≠0 then
        some (Int.tmod (zw (p0.V)) (p1.Nodes.length:Int),Int.tmod (zw (p0.Value)) a3.Card,(Tapi_Shift.mk (Int.tmod (zw (p0.Node)) (p1.Nodes.length:Int)) (Int.tmod (zw (p0.Row)) (a1.Rows.length:Int)) (Int.tmod (zw (p0.From)) a1.Card) (Int.tmod (zw ((zw ((Int.tmod (zw (p0.From)) a1.Card)+1))+(Int.tmod (zw (p0.To)) (if (zw (a1.Card - 1)) > 1 then (zw (a1.Card - 1)) else 1)))) a1.Card)))
       else none
      else none
     else none
    else none
   else none
  else none
 else none
def K2 (p0:Int):Option Bool :=
 some (p0 != p0)
def Qai (p0:Int) (p1:Int):Option Bool :=
 (K2 p0).bind fun x1 =>
 if x1=true then
  (K2 p1).bind fun x5 =>
  if (!x5)=true then
   some true
  else
  some (decide (p0 < p1))
 else
 some (decide (p0 < p1))
def Jl (p0:Int):Option Bool :=
 some (p0 != p0)
def Xz (p0:(List Int)) (p1:Int) (s1:(Int × Int)):Option (Qm (Int × Int) Int) :=
 if (decide (s1.1 < s1.2))=true then
  (lkI p0 (zw (Int.fdiv (zv (zw (s1.1+s1.2))) (2^min (Int.toNat 1) (IntKind.bits .u64))))).bind fun a4 =>
  (Qai a4 p1).bind fun x6 =>
  if x6=true then
   some (.next (zw ((zw (Int.fdiv (zv (zw (s1.1+s1.2))) (2^min (Int.toNat 1) (IntKind.bits .u64))))+1),s1.2))
  else
  some (.next (s1.1,zw (Int.fdiv (zv (zw (s1.1+s1.2))) (2^min (Int.toNat 1) (IntKind.bits .u64)))))
 else
 some (.done s1.1)
def Xb (p0:(List Int)) (p1:Int):Option (Int × Bool) :=
 (Qd fuel (Xz p0 p1) (0,(p0.length:Int))).bind fun x11 =>
 if (decide (x11 < (p0.length:Int)))=true then
  (lkI p0 x11).bind fun a14 =>
  if (a14==p1)=true then
   some (x11,true)
  else
  (Jl a14).bind fun x18 =>
  if x18=true then
   (Jl p1).bind fun x22 =>
   some (x11,x22)
  else
  some (x11,false)
 else
 some (x11,false)
def Yg (c0:Int) (d0:(List Int)):Option (List Int) :=
 if (c0::d0).length*8≤140737488355328 then
  some (c0::d0)
 else none
def V1  : Option (List Int) :=
 some ([]:(List Int))
def V0  : Option (List Int) :=
 some ([]:(List Int))
def Zq (p0:(List Int)):Option (List Int) :=
 match p0 with
 | []=>(V0).bind fun x=>(V1).bind fun y=>if x=y then some x else none
 | c0::d0=>Yg c0 d0
def Xj (x7:(List Int)) (p0:Qz) (x3:(Int × Bool)) (s8:(Int × Int × (List Int))):Option (Qm (Int × Int × (List Int)) (Int × (List Int))) :=
 if (decide (s8.1 < (x7.length:Int)))=true then
  (lkI x7 s8.1).bind fun a11 =>
  (lkI p0.cards a11).bind fun a13 =>
  if (s8.2.2++([a13]:(List Int))).length*8≤140737488355328 then
   if (decide (s8.1 > x3.1))=true then
    some (.next (zw (s8.1+1),zw (s8.2.1*a13),(s8.2.2++([a13]:(List Int)))))
   else
   some (.next (zw (s8.1+1),s8.2.1,(s8.2.2++([a13]:(List Int)))))
  else none
 else
 some (.done (s8.2.1,s8.2.2))
def Xn (a22:(List Int)) (x18:(Int × (List Int))) (s19:(Int × (List Int))) (a1:Tapi_Node) (s24:(Int × (List Int))):Option (Qm (Int × (List Int)) (List Int)) :=
 if (decide (s24.1 < (a22.length:Int)))=true then
  (lkI a22 s24.1).bind fun a27 =>
  if x18.1≠0 then
   if x18.1≠0 then
    (lkI s24.2 (zw ((zw ((zw ((zw ((zw (Int.tdiv s19.1 x18.1))*a1.Card))+s24.1))*x18.1))+(Int.tmod s19.1 x18.1)))).bind fun a29 =>
    (lkI s24.2 (zw ((zw ((zw ((zw ((zw (Int.tdiv s19.1 x18.1))*a1.Card))+s24.1))*x18.1))+(Int.tmod s19.1 x18.1)))).bind fun a31 =>
    some (.next (zw (s24.1+1),(List.set s24.2 (Int.toNat (zw ((zw ((zw ((zw ((zw (Int.tdiv s19.1 x18.1))*a1.Card))+s24.1))*x18.1))+(Int.tmod s19.1 x18.1)))) a27)))
   else none
  else none
 else
 some (.done s24.2)
def Xk (a1:Tapi_Node) (x18:(Int × (List Int))) (s19:(Int × (List Int))):Option (Qm (Int × (List Int)) (List Int)) :=
 if (decide (s19.1 < (a1.Rows.length:Int)))=true then
  (lkI a1.Rows s19.1).bind fun a22 =>
  (Qd fuel (Xn a22 x18 s19 a1) (0,s19.2)).bind fun x35 =>
  some (.next (zw (s19.1+1),x35))
 else
 some (.done s19.2)
def Yc (p0:Qz) (p1:Int):Option Qt :=
 (lkI p0.Net.Nodes p1).bind fun a1 =>
 (Xb a1.Parents p1).bind fun x3 =>
 (Zq a1.Parents).bind fun x5 =>
 (Qox x5 x3.1 p1).bind fun x7 =>
 (Qd fuel (Xj x7 p0 x3) (0,1,([]:(List Int)))).bind fun x18 =>
 if 0≤(zw ((a1.Rows.length:Int)*a1.Card))∧(zw ((a1.Rows.length:Int)*a1.Card))≤(zw ((a1.Rows.length:Int)*a1.Card))∧(zw ((a1.Rows.length:Int)*a1.Card))*8≤140737488355328 then
  (Qd fuel (Xk a1 x18) (0,(List.replicate (Int.toNat (zw ((a1.Rows.length:Int)*a1.Card))) (0:Int)))).bind fun x37 =>
  some (Qt.mk x7 x18.2 x37)
 else none
def Kl (x1:(Qz × Int)) (s5:(Int × (List Qt))):Option (Qm (Int × (List Qt)) (List Qt)) :=
 if (decide (s5.1 < (((List.replicate (Int.toNat (x1.1.Net.Nodes.length:Int)) ((Qt.mk [] [] []):Qt)).length):Int)))=true then
  (Yc x1.1 s5.1).bind fun x8 =>
  (lkI s5.2 s5.1).bind fun a10 =>
  some (.next (zw (s5.1+1),(List.set s5.2 (Int.toNat s5.1) x8)))
 else
 some (.done s5.2)
def Qbd (p0:Qc):Option ((List Qt) × Int) :=
 (Qak p0).bind fun x1 =>
 if (x1.2 != 0)=true then
  some (([]:(List Qt)),x1.2)
 else
 if 0≤(x1.1.Net.Nodes.length:Int)∧(x1.1.Net.Nodes.length:Int)≤(x1.1.Net.Nodes.length:Int)∧(x1.1.Net.Nodes.length:Int)*72≤140737488355328 then
  (Qd fuel (Kl x1) (0,(List.replicate (Int.toNat (x1.1.Net.Nodes.length:Int)) ((Qt.mk [] [] []):Qt)))).bind fun x14 =>
  some (x14,0)
 else none
def Qal (p1:(List (List Int))) (p0:Qc) (s5:Int):Option (Qm Int (Int ⊕ Unit)) :=
 if (decide (s5 < (p1.length:Int)))=true then
  (lkI p1 s5).bind fun a8 =>
  (Zj p0 a8).bind fun x10 =>
  if (x10 != 0)=true then
   some (.done (Sum.inl x10))
  else
  some (.next (zw (s5+1)))
 else
 some (.done (Sum.inr ()))
def Qam (s17:(Int × (List (List Int)))) (a20:Qt) (s25:(Int × Int × (List (List Int)))):Option (Qm (Int × Int × (List (List Int))) (List (List Int))) :=
 if (decide (s25.2.1≥0))=true then
  (lkI s25.2.2 s17.1).bind fun a28 =>
  (lkI a20.Vars s25.2.1).bind fun a30 =>
  (lkI a28 a30).bind fun a32 =>
  (lkI a20.Cards s25.2.1).bind fun a34 =>
  some (.next (zw (s25.1*a34),zw (s25.2.1 - 1),(List.set s25.2.2 (Int.toNat s17.1) (List.set a28 (Int.toNat a30) s25.1))))
 else
 some (.done s25.2.2)
def J3 (x1:((List Qt) × Int)) (p0:Qc) (s17:(Int × (List (List Int)))):Option (Qm (Int × (List (List Int))) (List (List Int))) :=
 if (decide (s17.1 < (x1.1.length:Int)))=true then
  (lkI x1.1 s17.1).bind fun a20 =>
  if 0≤(p0.Nodes.length:Int)∧(p0.Nodes.length:Int)≤(p0.Nodes.length:Int)∧(p0.Nodes.length:Int)*8≤140737488355328 then
   (lkI s17.2 s17.1).bind fun a22 =>
   (Qd fuel (Qam s17 a20) (1,zw ((a20.Vars.length:Int) - 1),(List.set s17.2 (Int.toNat s17.1) (List.replicate (Int.toNat (p0.Nodes.length:Int)) (0:Int))))).bind fun x38 =>
   some (.next (zw (s17.1+1),x38))
  else none
 else
 some (.done s17.2)
def Qdl (p0:Qc) (p1:(List (List Int))):Option (Q3 × Int) :=
 (Qbd p0).bind fun x1 =>
 if (x1.2 != 0)=true then
  some ((Q3.mk (Qc.mk 0 []) [] []),x1.2)
 else
 (Qd fuel (Qal p1 p0) 0).bind fun x14=>match x14 with
 | .inl x15=>(
  some ((Q3.mk (Qc.mk 0 []) [] []),x15))
 | .inr x16=>(
  if 0≤(x1.1.length:Int)∧(x1.1.length:Int)≤(x1.1.length:Int)∧(x1.1.length:Int)*24≤140737488355328 then
   (Qd fuel (J3 x1 p0) (0,(List.replicate (Int.toNat (x1.1.length:Int)) ([]:(List Int))))).bind fun x40 =>
   some ((Q3.mk p0 x1.1 x40),0)
  else none)
def Zz (p1:(List Int)) (p0:(List Int)) (s1:Int):Option (Qm Int Bool) :=
 if (decide (s1 < (p1.length:Int)))=true then
  (lkI p1 s1).bind fun a4 =>
  if (a4==(-1))=true then
   some (.next (zw (s1+1)))
  else
  (lkI p0 s1).bind fun a8 =>
  if (a4==a8)=true then
   some (.next (zw (s1+1)))
  else
  some (.done false)
 else
 some (.done true)
def Jk (p0:(List Int)) (p1:(List Int)):Option Bool :=
 (Qd fuel (Zz p1 p0) 0).bind fun x13 =>
 some x13
def Z2 (a4:Qt) (p1:(List Int)) (p0:Q3) (s1:(Int × Int)) (s6:(Int × Int)):Option (Qm (Int × Int) Int) :=
 if (decide (s6.2 < (a4.Vars.length:Int)))=true then
  (lkI a4.Vars s6.2).bind fun a9 =>
  (lkI p1 a9).bind fun a11 =>
  (lkI p0.steps s1.2).bind fun a13 =>
  (lkI a13 a9).bind fun a15 =>
  some (.next (zw (s6.1+(zw (a11*a15))),zw (s6.2+1)))
 else
 some (.done s6.1)
def Xy (p0:Q3) (p1:(List Int)) (s1:(Int × Int)):Option (Qm (Int × Int) Int) :=
 if (decide (s1.2 < (p0.factors.length:Int)))=true then
  (lkI p0.factors s1.2).bind fun a4 =>
  (Qd fuel (Z2 a4 p1 p0 s1) (0,0)).bind fun x18 =>
  (lkI a4.W x18).bind fun a19 =>
  some (.next (zw (s1.1*a19),zw (s1.2+1)))
 else
 some (.done s1.1)
def Yp (p0:Q3) (p1:(List Int)):Option Int :=
 (Qd fuel (Xy p0 p1) (1,0)).bind fun x22 =>
 some x22
def Yh (s9:(Int × Int × (List (Tjoint_place × Int)) × (List Int))) (x14:Int) (s16:(Int × (List (Tjoint_place × Int)))):Option (Qm (Int × (List (Tjoint_place × Int))) (List (Tjoint_place × Int))) :=
 if (decide (s16.1 < (s9.2.2.2.length:Int)))=true then
  (lkI s9.2.2.2 s16.1).bind fun a19 =>
  some (.next (zw (s16.1+1),kput qTjoint_place s16.2 (Tjoint_place.mk s16.1 a19) (zw (((kget qTjoint_place s16.2 (Tjoint_place.mk s16.1 a19)).getD 0)+x14))))
 else
 some (.done s16.2)
def Qcm (x1:(Q3 × Int)) (s23:(Int × (List Int))):Option (Qm (Int × (List Int)) (Int × (List Int))) :=
 if (decide (s23.1≥0))=true then
  (lkI s23.2 s23.1).bind fun a26 =>
  (lkI x1.1.Net.Nodes s23.1).bind fun a28 =>
  if (a26==(zw (a28.Card - 1)))=true then
   some (.next (zw (s23.1 - 1),(List.set s23.2 (Int.toNat s23.1) 0)))
  else
  some (.done (s23.1,s23.2))
 else
 some (.done (s23.1,s23.2))
def Qcf (x1:(Q3 × Int)) (s40:(Int × (List Int))):Option (Qm (Int × (List Int)) (Int × (List Int))) :=
 if (decide (s40.1≥0))=true then
  (lkI s40.2 s40.1).bind fun a43 =>
  (lkI x1.1.Net.Nodes s40.1).bind fun a45 =>
  if (a43==(zw (a45.Card - 1)))=true then
   some (.next (zw (s40.1 - 1),(List.set s40.2 (Int.toNat s40.1) 0)))
  else
  some (.done (s40.1,s40.2))
 else
 some (.done (s40.1,s40.2))
def Vk (p1:(List Int)) (x1:(Q3 × Int)) (s9:(Int × Int × (List (Tjoint_place × Int)) × (List Int))):Option (Qm (Int × Int × (List (Tjoint_place × Int)) × (List Int)) (Int × (List (Tjoint_place × Int)))) :=
 (Jk s9.2.2.2 p1).bind fun x10 =>
 if x10=true then
  (Yp x1.1 s9.2.2.2).bind fun x14 =>
  (Qd fuel (Yh s9 x14) (0,s9.2.2.1)).bind fun x22 =>
  (Qd fuel (Qcm x1) (zw ((s9.2.2.2.length:Int) - 1),s9.2.2.2)).bind fun x34 =>
  if (decide (x34.1 < 0))=true then
   some (.done (zw (s9.2.1+x14),x22))
  else
  (lkI x34.2 x34.1).bind fun a37 =>
  some (.next (zw (s9.1+1),zw (s9.2.1+x14),x22,(List.set x34.2 (Int.toNat x34.1) (zw (a37+1)))))
 else
 (Qd fuel (Qcf x1) (zw ((s9.2.2.2.length:Int) - 1),s9.2.2.2)).bind fun x51 =>
 if (decide (x51.1 < 0))=true then
  some (.done (s9.2.1,s9.2.2.1))
 else
 (lkI x51.2 x51.1).bind fun a54 =>
 some (.next (zw (s9.1+1),s9.2.1,s9.2.2.1,(List.set x51.2 (Int.toNat x51.1) (zw (a54+1)))))
def Vl (a61:Tapi_Node) (x58:(Int × (List (Tjoint_place × Int)))) (p2:Int) (s63:(Int × (List Tapi_Q))):Option (Qm (Int × (List Tapi_Q)) (Int ⊕ (List Tapi_Q))) :=
 if (decide (s63.1 < (((List.replicate (Int.toNat a61.Card) ((Tapi_Q.mk 0 0):Tapi_Q)).length):Int)))=true then
  (Jy ((kget qTjoint_place x58.2 (Tjoint_place.mk p2 s63.1)).getD 0) x58.1).bind fun x66 =>
  if (x66.2 != 0)=true then
   some (.done (Sum.inl x66.2))
  else
  (lkI s63.2 s63.1).bind fun a70 =>
  some (.next (zw (s63.1+1),(List.set s63.2 (Int.toNat s63.1) x66.1)))
 else
 some (.done (Sum.inr s63.2))
def Vh (p0:Qc) (p1:(List Int)) (p2:Int):Option ((List Tapi_Q) × Int) :=
 (Qdl p0 [p1]).bind fun x1 =>
 if (x1.2 != 0)=true then
  some (([]:(List Tapi_Q)),x1.2)
 else
 if (decide (p2 < 0))=true then
  some (([]:(List Tapi_Q)),2)
 else
 if (decide (p2≥(x1.1.Net.Nodes.length:Int)))=true then
  some (([]:(List Tapi_Q)),2)
 else
 if 0≤(x1.1.Net.Nodes.length:Int)∧(x1.1.Net.Nodes.length:Int)≤(x1.1.Net.Nodes.length:Int)∧(x1.1.Net.Nodes.length:Int)*8≤140737488355328 then
  (Qd fuel (Vk p1 x1) (0,0,[],(List.replicate (Int.toNat (x1.1.Net.Nodes.length:Int)) (0:Int)))).bind fun x58 =>
  if (x58.1==0)=true then
   some (([]:(List Tapi_Q)),7)
  else
  (lkI x1.1.Net.Nodes p2).bind fun a61 =>
  if 0≤a61.Card∧a61.Card≤a61.Card∧a61.Card*16≤140737488355328 then
   (Qd fuel (Vl a61 x58 p2) (0,(List.replicate (Int.toNat a61.Card) ((Tapi_Q.mk 0 0):Tapi_Q)))).bind fun x73=>match x73 with
   | .inl x74=>(
    some (([]:(List Tapi_Q)),x74))
   | .inr x75=>(
    some (x75,0))
  else none
 else none
def Kh (a4:Tapi_Node) (p1:Tapi_Shift) (p2:Int) (s8:(Int × (List (List Int)))):Option (Qm (Int × (List (List Int))) (List (List Int))) :=
 if (decide (s8.1 < (a4.Rows.length:Int)))=true then
  (lkI a4.Rows s8.1).bind fun a11 =>
  if a11.length*8≤140737488355328 then
   if (s8.1==p1.Row)=true then
    (lkI a11 p1.From).bind fun a15 =>
    (lkI (List.set a11 (Int.toNat p1.From) (zw (a15 - p2))) p1.To).bind fun a17 =>
    if (s8.2++([(List.set (List.set a11 (Int.toNat p1.From) (zw (a15 - p2))) (Int.toNat p1.To) (zw (a17+p2)))]:(List (List Int)))).length*24≤140737488355328 then
     some (.next (zw (s8.1+1),(s8.2++([(List.set (List.set a11 (Int.toNat p1.From) (zw (a15 - p2))) (Int.toNat p1.To) (zw (a17+p2)))]:(List (List Int))))))
    else none
   else
   if (s8.2++([a11]:(List (List Int)))).length*24≤140737488355328 then
    some (.next (zw (s8.1+1),(s8.2++([a11]:(List (List Int))))))
   else none
  else none
 else
 some (.done s8.2)
def Kc (p0:Qc) (p1:Tapi_Shift) (p2:Int) (s1:(Int × (List Tapi_Node))):Option (Qm (Int × (List Tapi_Node)) (List Tapi_Node)) :=
 if (decide (s1.1 < (p0.Nodes.length:Int)))=true then
  (lkI p0.Nodes s1.1).bind fun a4 =>
  if (s1.1==p1.Node)=true then
   (Qd fuel (Kh a4 p1 p2) (0,([]:(List (List Int))))).bind fun x22 =>
   if (s1.2++([(Tapi_Node.mk a4.Card a4.Parents x22)]:(List Tapi_Node))).length*56≤140737488355328 then
    some (.next (zw (s1.1+1),(s1.2++([(Tapi_Node.mk a4.Card a4.Parents x22)]:(List Tapi_Node)))))
   else none
  else
  if (s1.2++([a4]:(List Tapi_Node))).length*56≤140737488355328 then
   some (.next (zw (s1.1+1),(s1.2++([a4]:(List Tapi_Node)))))
  else none
 else
 some (.done s1.2)
def Qa7 (p0:Qc) (p1:Tapi_Shift) (p2:Int):Option Qc :=
 (Qd fuel (Kc p0 p1 p2) (0,([]:(List Tapi_Node)))).bind fun x24 =>
 some (Qc.mk p0.Grain x24)
def Xa (a17:Int) (a19:Int) (p1:Int) (x5:Qc) (x7:(List Int)) (x9:(Int × Int × Tapi_Shift)) (s21:Int):Option (Qm Int (Unit ⊕ Unit)) :=
 if (decide (s21 < 4))=true then
  (lkI ([0,zw (0 - a17),a19,Int.tmod (zw (p1)) 61]:(List Int)) s21).bind fun a24 =>
  (X1 x5 x7 x9.1 x9.2.1 x9.2.2 (Tapi_Q.mk a24 1)).bind fun x26 =>
  if (decide (a24 < (zw (0 - a17))))=true then
   if (x26.2 != 2)=true then
    some (.done (Sum.inl ()))
   else
   some (.next (zw (s21+1)))
  else
  if (decide (a24 > a19))=true then
   if (x26.2 != 2)=true then
    some (.done (Sum.inl ()))
   else
   some (.next (zw (s21+1)))
  else
  (Qa7 x5 x9.2.2 a24).bind fun x36 =>
  (Vh x36 x7 x9.1).bind fun x38 =>
  if (x26.2 != x38.2)=true then
   some (.done (Sum.inl ()))
  else
  if (x26.2 != 0)=true then
   if (x26.2 != 7)=true then
    some (.done (Sum.inl ()))
   else
   some (.next (zw (s21+1)))
  else
  (lkI x5.Nodes x9.1).bind fun a48 =>
  if ((x38.1.length:Int) != a48.Card)=true then
   some (.done (Sum.inl ()))
  else
  (lkI x38.1 x9.2.1).bind fun a52 =>
  if (!((x26.1.N==a52.N) && ((x26.1.D==a52.D) && true)))=true then
   some (.done (Sum.inl ()))
  else
  some (.next (zw (s21+1)))
 else
 some (.done (Sum.inr ()))
def Jw (p0:Xi) (p1:Int):Option Bool :=
 (Qd4).bind fun x1 =>
 if (!x1)=true then
  some false
 else
 (Jz p0.N).bind fun x5 =>
 (Kd (Tharuspexref05_Known.mk p0.K.Which (p0.K.V.1,p0.K.V.2.1,p0.K.V.2.2.1,p0.K.V.2.2.2.1,p0.K.V.2.2.2.2.1,p0.K.V.2.2.2.2.2.1,p0.K.V.2.2.2.2.2.2.1,p0.K.V.2.2.2.2.2.2.2)) x5).bind fun x7 =>
 (Ke p0.D x5).bind fun x9 =>
 if (x9.2.2.From==x9.2.2.To)=true then
  some true
 else
 (lkI x5.Nodes x9.2.2.Node).bind fun a13 =>
 (lkI a13.Rows x9.2.2.Row).bind fun a15 =>
 (lkI a15 x9.2.2.To).bind fun a17 =>
 (lkI a15 x9.2.2.From).bind fun a19 =>
 (Qd fuel (Xa a17 a19 p1 x5 x7 x9) 0).bind fun x56=>match x56 with
 | .inl x57=>(
  some false)
 | .inr x58=>(
  some true)
end Go.Ab
