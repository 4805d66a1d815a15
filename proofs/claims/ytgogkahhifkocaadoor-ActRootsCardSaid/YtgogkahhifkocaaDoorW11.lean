/- Functions. No conditions. -/
import Derived.Test.YtgogkahhifkocaaDoorEng10
set_option linter.all false
namespace Go.Ab
open Go
structure Ad where
 Card:Int
 Parents:(List Int)
 Rows:(List (List Int))
 deriving DecidableEq,Inhabited
@[reducible] def Aj (x:Ad):AV:=.agg [vI x.Card,eL true eI x.Parents,eL false (eL true eI) x.Rows]
@[reducible] def Ao (x:Int ⊕ Ad):AV:=match x with | .inl c=>.agg [vI c,.nils,.nils] | .inr y=>Aj y
def Ai (x:Int ⊕ Ad):Ad:=match x with | .inl c=>⟨c,[],[]⟩ | .inr y=>y
structure Qd where
 Grain:Int
 Nodes:(List Ad)
 deriving DecidableEq,Inhabited
structure Qz where
 Net:Qd
 cards:(List Int)
 sets:(List Int)
 order:(List Int)
 deriving DecidableEq,Inhabited
structure Qm where
 N:Int
 D:Int
 deriving DecidableEq,Inhabited
@[reducible] def Ak (x:Qm):AV:=.agg [vI x.N,vI x.D]
structure Ac where
 parents:(List Int)
 deriving DecidableEq,Inhabited
structure Aa where
 sets:Ac
 deriving DecidableEq,Inhabited
structure Yk where
 parents:(List Int)
 deriving DecidableEq,Inhabited
structure Q4 where
 ancestry:Yk
 children:(List Int)
 deriving DecidableEq,Inhabited
structure Ah where
 node:Int
 down:Bool
 deriving DecidableEq,Inhabited
@[reducible] def An (x:Ah):AV:=.agg [vI x.node,vB x.down]
@[reducible] def Aq (a b:Ah):Bool:=(a.node==b.node) && ((a.down==b.down) && true)
structure Ae where
 C:(List Int)
 Which:Int
 Order:(List Int)
 deriving DecidableEq,Inhabited
structure Q0 where
 Card:Int
 Parents:Int
 W:(List Int)
 deriving DecidableEq,Inhabited
@[reducible] def Al (x:Q0):AV:=.agg [.int .u8 x.Card,.int .u8 x.Parents,eL true (AV.int .u8) x.W]
structure Qe where
 Grain:Int
 Nodes:(List Q0)
 Order:(List Int)
 deriving DecidableEq,Inhabited
@[reducible] def eTharuspexref05_Draft (x:Qe):AV:=.agg [.int .u8 x.Grain,eL false Al x.Nodes,eL true (AV.int .u8) x.Order]
structure Af where
 Which:Int
 V:(Int × Int × Int × Int × Int × Int × Int × Int)
 deriving Inhabited
@[reducible] def eTharuspexref05_Known (x:Af):AV:=.agg [.int .u8 x.Which,.int .u8 x.V.1,.int .u8 x.V.2.1,.int .u8 x.V.2.2.1,.int .u8 x.V.2.2.2.1,.int .u8 x.V.2.2.2.2.1,.int .u8 x.V.2.2.2.2.2.1,.int .u8 x.V.2.2.2.2.2.2.1,.int .u8 x.V.2.2.2.2.2.2.2]
structure Qw where
 Vars:(List Int)
 Cards:(List Int)
 W:(List Int)
 deriving DecidableEq,Inhabited
@[reducible] def Za (x:Qw):AV:=.agg [eL true eI x.Vars,eL true eI x.Cards,eL true eI x.W]
structure Q5 where
 Net:Qd
 factors:(List Qw)
 steps:(List (List Int))
 deriving DecidableEq,Inhabited
structure Ag where
 node:Int
 value:Int
 deriving DecidableEq,Inhabited
@[reducible] def Am (x:Ag):AV:=.agg [vI x.node,vI x.value]
@[reducible] def Ap (a b:Ag):Bool:=(a.node==b.node) && ((a.value==b.value) && true)
def Jh (p1:Ad) (p0:Qz) (s1:(Int × Int)):Option (Qh (Int × Int) Int) :=
 if (decide (s1.2 < (p1.Parents.length:Int)))=true then
  (lkI p1.Parents s1.2).bind fun a4 =>
  (lkI p0.cards a4).bind fun a6 =>
  some (.next (zw (s1.1*a6),zw (s1.2+1)))
 else
 some (.done s1.1)
def Y5 (a15:(List Int)) (s17:(Int × Int)):Option (Qh (Int × Int) (Unit ⊕ Int)) :=
 if (decide (s17.2 < (a15.length:Int)))=true then
  (lkI a15 s17.2).bind fun a20 =>
  if (decide (a20 < 0))=true then
   some (.done (Sum.inl ()))
  else
  if (decide (a20 > s17.1))=true then
   some (.done (Sum.inl ()))
  else
  some (.next (zw (s17.1 - a20),zw (s17.2+1)))
 else
 some (.done (Sum.inr s17.1))
def Jf (p1:Ad) (p0:Qz) (s12:Int):Option (Qh Int (Unit ⊕ Unit)) :=
 if (decide (s12 < (p1.Rows.length:Int)))=true then
  (lkI p1.Rows s12).bind fun a15 =>
  (Qc fuel (Y5 a15) (p0.Net.Grain,0)).bind fun x26=>match x26 with
  | .inl x27=>(
   some (.done (Sum.inl ())))
  | .inr x28=>(
   if ((a15.length:Int) != p1.Card)=true then
    some (.done (Sum.inl ()))
   else
   if (x28 != 0)=true then
    some (.done (Sum.inl ()))
   else
   some (.next (zw (s12+1))))
 else
 some (.done (Sum.inr ()))
def Vz (p0:Qz) (p1:Ad):Option Bool :=
 (Qc fuel (Jh p1 p0) (1,0)).bind fun x9 =>
 if ((p1.Rows.length:Int) != x9)=true then
  some false
 else
 (Qc fuel (Jf p1 p0) 0).bind fun x33=>match x33 with
 | .inl x34=>(
  some false)
 | .inr x35=>(
  some true)
def Qc9 (p0:(List Int)) (s1:(Int × (List Int))) (s4:Int):Option (Qh Int ((Int × (List Int)) ⊕ Unit)) :=
 if (decide (s4 < (p0.length:Int)))=true then
  (lkI p0 s4).bind fun a7 =>
  if 0<=s4 then
   if ((zv (zb (Int.fdiv s1.1 (2^min (Int.toNat s4) zk)) &&& zb 1).toNat)==0)=true then
    if ((zv (zb a7 &&& ~~~ zb s1.1).toNat)==0)=true then
     if (s1.2++([s4]:(List Int))).length*8<=140737488355328 then
      if 0<=s4 then
       some (.done (Sum.inl (zv (zb s1.1 ||| zb (zv (1*2^min (Int.toNat s4) zk))).toNat,(s1.2++([s4]:(List Int))))))
      else none
     else none
    else
    some (.next (zw (s4+1)))
   else
   some (.next (zw (s4+1)))
  else none
 else
 some (.done (Sum.inr ()))
def K9 (p0:(List Int)) (s1:(Int × (List Int))):Option (Qh (Int × (List Int)) (Unit ⊕ (List Int))) :=
 if (decide ((s1.2.length:Int) < (p0.length:Int)))=true then
  (Qc fuel (Qc9 p0 s1) 0).bind fun x13=>match x13 with
  | .inl x14=>(
   some (.next (x14.1,x14.2)))
  | .inr x15=>(
   some (.done (Sum.inl ())))
 else
 some (.done (Sum.inr s1.2))
def Qc2 (p0:(List Int)):Option ((List Int) × Bool) :=
 if 0<=(0:Int)/\(0:Int)<=(p0.length:Int)/\(p0.length:Int)*8<=140737488355328 then
  (Qc fuel (K9 p0) (0,(List.replicate (Int.toNat 0) (0:Int)))).bind fun x16=>match x16 with
  | .inl x17=>(
   some (([]:(List Int)),false))
  | .inr x18=>(
   some (x18,true))
 else none
def Qbo (p0:Qd) (s9:(Int × Int × (List Int))):Option (Qh (Int × Int × (List Int)) (Unit ⊕ (Int × (List Int)))) :=
 if (decide (s9.2.1 < (p0.Nodes.length:Int)))=true then
  (lkI p0.Nodes s9.2.1).bind fun a12 =>
  if (decide (a12.Card < 1))=true then
   some (.done (Sum.inl ()))
  else
  if (decide (a12.Card > 4))=true then
   some (.done (Sum.inl ()))
  else
  (lkI s9.2.2 s9.2.1).bind fun a18 =>
  some (.next (zw (s9.1*a12.Card),zw (s9.2.1+1),(List.set s9.2.2 (Int.toNat s9.2.1) a12.Card)))
 else
 some (.done (Sum.inr (s9.1,s9.2.2)))
def Qbi (a29:Ad) (p0:Qd) (s26:(Int × (List Int))) (s31:(Int × Int × (List Int))):Option (Qh (Int × Int × (List Int)) (Unit ⊕ (List Int))) :=
 if (decide (s31.2.1 < (a29.Parents.length:Int)))=true then
  (lkI a29.Parents s31.2.1).bind fun a34 =>
  if (decide (a34<=s31.1))=true then
   some (.done (Sum.inl ()))
  else
  if (decide (a34>=(p0.Nodes.length:Int)))=true then
   some (.done (Sum.inl ()))
  else
  if (a34==s26.1)=true then
   some (.done (Sum.inl ()))
  else
  (lkI s31.2.2 s26.1).bind fun a42 =>
  if 0<=a34 then
   some (.next (a34,zw (s31.2.1+1),(List.set s31.2.2 (Int.toNat s26.1) (zv (zb a42 ||| zb (zv (1*2^min (Int.toNat a34) zk))).toNat))))
  else none
 else
 some (.done (Sum.inr s31.2.2))
def Qbl (p0:Qd) (x23:(Int × (List Int))) (s26:(Int × (List Int))):Option (Qh (Int × (List Int)) (Unit ⊕ (List Int))) :=
 if (decide (s26.1 < (p0.Nodes.length:Int)))=true then
  (lkI p0.Nodes s26.1).bind fun a29 =>
  (Qc fuel (Qbi a29 p0 s26) (-1,0,s26.2)).bind fun x45=>match x45 with
  | .inl x46=>(
   some (.done (Sum.inl ())))
  | .inr x47=>(
   (Vz (Qz.mk p0 x23.2 x47 []) a29).bind fun x48 =>
   if (!x48)=true then
    some (.done (Sum.inl ()))
   else
   some (.next (zw (s26.1+1),x47)))
 else
 some (.done (Sum.inr s26.2))
def Jq (p0:Qd):Option (Qz × Int) :=
 if (decide (p0.Grain < 1))=true then
  some ((Qz.mk (Qd.mk 0 []) [] [] []),50)
 else
 if (decide (p0.Grain > 60))=true then
  some ((Qz.mk (Qd.mk 0 []) [] [] []),50)
 else
 if (decide ((p0.Nodes.length:Int) < 1))=true then
  some ((Qz.mk (Qd.mk 0 []) [] [] []),50)
 else
 if (decide ((p0.Nodes.length:Int) > 8))=true then
  some ((Qz.mk (Qd.mk 0 []) [] [] []),50)
 else
 if 0<=(p0.Nodes.length:Int)/\(p0.Nodes.length:Int)<=(p0.Nodes.length:Int)/\(p0.Nodes.length:Int)*8<=140737488355328 then
  if 0<=(p0.Nodes.length:Int)/\(p0.Nodes.length:Int)<=(p0.Nodes.length:Int)/\(p0.Nodes.length:Int)*8<=140737488355328 then
   (Qc fuel (Qbo p0) (1,0,(List.replicate (Int.toNat (p0.Nodes.length:Int)) (0:Int)))).bind fun x21=>match x21 with
   | .inl x22=>(
    some ((Qz.mk (Qd.mk 0 []) [] [] []),50))
   | .inr x23=>(
    if (decide (x23.1 > 1024))=true then
     some ((Qz.mk (Qd.mk 0 []) [] [] []),50)
    else
    (Qc fuel (Qbl p0 x23) (0,(List.replicate (Int.toNat (p0.Nodes.length:Int)) (0:Int)))).bind fun x52=>match x52 with
    | .inl x53=>(
     some ((Qz.mk (Qd.mk 0 []) [] [] []),50))
    | .inr x54=>(
     (Qc2 x54).bind fun x55 =>
     if (!x55.2)=true then
      some ((Qz.mk (Qd.mk 0 []) [] [] []),50)
     else
     some ((Qz.mk p0 x23.2 x54 x55.1),0)))
  else none
 else none
def Qht (p0:Qd):Option Int :=
 (Jq p0).bind fun x1 =>
 some x1.2
def Zw (p1:(List Int)) (x1:(Qz × Int)) (s7:Int):Option (Qh Int (Unit ⊕ Unit)) :=
 if (decide (s7 < (p1.length:Int)))=true then
  (lkI p1 s7).bind fun a10 =>
  if (decide (a10 < (-1)))=true then
   some (.done (Sum.inl ()))
  else
  (lkI x1.1.cards s7).bind fun a14 =>
  if (decide (a10>=a14))=true then
   some (.done (Sum.inl ()))
  else
  some (.next (zw (s7+1)))
 else
 some (.done (Sum.inr ()))
def Z1 (p0:Qd) (p1:(List Int)):Option Int :=
 (Jq p0).bind fun x1 =>
 if (x1.2 != 0)=true then
  some x1.2
 else
 if ((p1.length:Int) != (x1.1.Net.Nodes.length:Int))=true then
  some 2
 else
 (Qc fuel (Zw p1 x1) 0).bind fun x18=>match x18 with
 | .inl x19=>(
  some 2)
 | .inr x20=>(
  some 0)
def Qav (p1:(List (List Int))) (p0:Qd) (s5:Int):Option (Qh Int (Int ⊕ Unit)) :=
 if (decide (s5 < (p1.length:Int)))=true then
  (lkI p1 s5).bind fun a8 =>
  (Z1 p0 a8).bind fun x10 =>
  if (x10 != 0)=true then
   some (.done (Sum.inl x10))
  else
  some (.next (zw (s5+1)))
 else
 some (.done (Sum.inr ()))
def V3 (p0:Qd) (p1:(List (List Int))):Option Int :=
 (Qht p0).bind fun x1 =>
 if (x1 != 0)=true then
  some x1
 else
 (Qc fuel (Qav p1 p0) 0).bind fun x14=>match x14 with
 | .inl x15=>(
  some x15)
 | .inr x16=>(
  some 0)
def Qvl (a8:Ad) (s21:(Int × (List (List Int)))):Option (Qh (Int × (List (List Int))) (List (List Int))) :=
 if (decide (s21.1 < (a8.Rows.length:Int)))=true then
  (lkI a8.Rows s21.1).bind fun a24 =>
  if a24.length*8<=140737488355328 then
   if (s21.2++([a24]:(List (List Int)))).length*24<=140737488355328 then
    some (.next (zw (s21.1+1),(s21.2++([a24]:(List (List Int))))))
   else none
  else none
 else
 some (.done s21.2)
def Qu6 (p0:Qd) (p1:(List Int)) (s5:(Int × (List Ad))):Option (Qh (Int × (List Ad)) (List Ad)) :=
 if (decide (s5.1 < (p0.Nodes.length:Int)))=true then
  (lkI p0.Nodes s5.1).bind fun a8 =>
  (lkI p1 s5.1).bind fun a10 =>
  if (decide (a10>=0))=true then
   if 0<=a8.Card/\a8.Card<=a8.Card/\a8.Card*8<=140737488355328 then
    (lkI (List.replicate (Int.toNat a8.Card) (0:Int)) a10).bind fun a14 =>
    (lkI s5.2 s5.1).bind fun a16 =>
    some (.next (zw (s5.1+1),(List.set s5.2 (Int.toNat s5.1) (Ad.mk a8.Card [] [(List.set (List.replicate (Int.toNat a8.Card) (0:Int)) (Int.toNat a10) p0.Grain)]))))
   else none
  else
  if a8.Parents.length*8<=140737488355328 then
   (Qc fuel (Qvl a8) (0,([]:(List (List Int))))).bind fun x27 =>
   (lkI s5.2 s5.1).bind fun a28 =>
   some (.next (zw (s5.1+1),(List.set s5.2 (Int.toNat s5.1) (Ad.mk a8.Card a8.Parents x27))))
  else none
 else
 some (.done s5.2)
def Qup (p0:Qd) (p1:(List Int)):Option (Qd × Int) :=
 (V3 p0 [p1]).bind fun x1 =>
 if (x1 != 0)=true then
  some ((Qd.mk 0 ([]:(List Ad))),x1)
 else
 if 0<=(p0.Nodes.length:Int)/\(p0.Nodes.length:Int)<=(p0.Nodes.length:Int)/\(p0.Nodes.length:Int)*56<=140737488355328 then
  (Qc fuel (Qu6 p0 p1) (0,(List.replicate (Int.toNat (p0.Nodes.length:Int)) ((Ad.mk 0 [] []):Ad)))).bind fun x32 =>
  some ((Qd.mk p0.Grain x32),0)
 else none
def Qau (a4:Ad) (p0:Qd) (p2:(List Int)) (s8:(Int × Int)):Option (Qh (Int × Int) Int) :=
 if (decide (s8.2 < (a4.Parents.length:Int)))=true then
  (lkI a4.Parents s8.2).bind fun a11 =>
  (lkI p0.Nodes a11).bind fun a13 =>
  (lkI p2 a11).bind fun a15 =>
  some (.next (zw ((zw (s8.1*a13.Card))+a15),zw (s8.2+1)))
 else
 some (.done s8.1)
def Qap (p0:Qd) (p1:Int) (p2:(List Int)) (s1:(Int × Int)):Option (Qh (Int × Int) Int) :=
 if (decide (s1.2 < (p0.Nodes.length:Int)))=true then
  (lkI p0.Nodes s1.2).bind fun a4 =>
  if 0<=s1.2 then
   if ((zv (zb (Int.fdiv p1 (2^min (Int.toNat s1.2) zk)) &&& zb 1).toNat)==1)=true then
    some (.next (s1.1,zw (s1.2+1)))
   else
   (Qc fuel (Qau a4 p0 p2) (0,0)).bind fun x18 =>
   (lkI a4.Rows x18).bind fun a19 =>
   (lkI p2 s1.2).bind fun a21 =>
   (lkI a19 a21).bind fun a23 =>
   some (.next (zw (s1.1*a23),zw (s1.2+1)))
  else none
 else
 some (.done s1.1)
def K4 (p0:Qd) (p1:Int) (p2:(List Int)):Option Int :=
 (Qc fuel (Qap p0 p1 p2) (1,0)).bind fun x26 =>
 some x26
def Qaz (p0:(List Int)) (s1:(Int × Int)):Option (Qh (Int × Int) Int) :=
 if (decide (s1.2 < (p0.length:Int)))=true then
  (lkI p0 s1.2).bind fun a4 =>
  if (decide (a4>=0))=true then
   if 0<=s1.2 then
    some (.next (zv (zb s1.1 ||| zb (zv (1*2^min (Int.toNat s1.2) zk))).toNat,zw (s1.2+1)))
   else none
  else
  some (.next (s1.1,zw (s1.2+1)))
 else
 some (.done s1.1)
def K3 (p0:(List Int)):Option Int :=
 (Qc fuel (Qaz p0) (0,0)).bind fun x9 =>
 some x9
def J8 (p0:Int):Option Int :=
 if (decide (p0 < 0))=true then
  some (zv (0 - (zv (p0))))
 else
 some (zv (p0))
def Qg7  (s1:(Int × Int)):Option (Qh (Int × Int) Int) :=
 if (s1.2 != 0)=true then
  if s1.2≠0 then
   some (.next (s1.2,Int.tmod s1.1 s1.2))
  else none
 else
 some (.done s1.1)
def Qbs (p0:Int) (p1:Int):Option Int :=
 (Qc fuel (Qg7) (p0,p1)).bind fun x5 =>
 some x5
def Qi7 (p0:Bool) (p1:(Int × Int)) (p2:(Int × Int)):Option Qm :=
 if (p1.1 != 0)=true then
  none
 else
 if (decide (p1.2 > 4611686018427387903))=true then
  none
 else
 if (p2.1 != 0)=true then
  none
 else
 if (decide (p2.2 > 4611686018427387903))=true then
  none
 else
 if p0=true then
  some (Qm.mk (zw (0 - (zw (p1.2)))) (zw (p2.2)))
 else
 some (Qm.mk (zw (p1.2)) (zw (p2.2)))
def Qca (c0:Int) (c1:Int):Option Qm :=
 (J8 c0).bind fun x1 =>
 (J8 c1).bind fun x3 =>
 (Qbs x1 x3).bind fun x5 =>
 (J8 c0).bind fun x7 =>
 if x5≠0 then
  (J8 c1).bind fun x9 =>
  if x5≠0 then
   (Qi7 (!((decide (c0 < 0))==(decide (c1 < 0)))) (0,zv (Int.tdiv x7 x5)) (0,zv (Int.tdiv x9 x5))).bind fun x11 =>
   some x11
  else none
 else none
def J2 (p0:Int) (p1:Int):Option (Qm × Int) :=
 if (p1==0)=true then
  some ((Qm.mk 0 0),2)
 else
 (Qca p0 p1).bind fun x3 =>
 some (x3,0)
def Qqa (p0:Qd) (p1:Int) (s1:(Int × Int)):Option (Qh (Int × Int) Int) :=
 if (decide (s1.2 < (p0.Nodes.length:Int)))=true then
  if 0<=s1.2 then
   if ((zv (zb (Int.fdiv p1 (2^min (Int.toNat s1.2) zk)) &&& zb 1).toNat)==0)=true then
    some (.next (zw (s1.1*p0.Grain),zw (s1.2+1)))
   else
   some (.next (s1.1,zw (s1.2+1)))
  else none
 else
 some (.done s1.1)
def Qhz (p0:Qd) (p1:Int):Option Int :=
 (Qc fuel (Qqa p0 p1) (1,0)).bind fun x7 =>
 some x7
def Qn8 (p1:(List Int)) (p2:(List Int)) (s10:(Int × Int × (List Int))) (s19:(Int × Int × (List Int))) (s22:Int):Option (Qh Int (Unit ⊕ Unit)) :=
 if (decide (s22 < ((([p1,p2]:(List (List Int))).length):Int)))=true then
  (lkI ([p1,p2]:(List (List Int))) s22).bind fun a25 =>
  (lkI a25 s10.1).bind fun a27 =>
  if (decide (a27>=0))=true then
   if (a27 != s19.1)=true then
    some (.done (Sum.inl ()))
   else
   some (.next (zw (s22+1)))
  else
  some (.next (zw (s22+1)))
 else
 some (.done (Sum.inr ()))
def Qpg (a17:Ad) (p1:(List Int)) (p2:(List Int)) (s10:(Int × Int × (List Int))) (r11:((Int × Int × (List Int))->Option (Int × (List Int)))) (s19:(Int × Int × (List Int))):Option (Qh (Int × Int × (List Int)) (Int × (List Int))) :=
 if (decide (s19.1 < a17.Card))=true then
  (Qc fuel (Qn8 p1 p2 s10 s19) 0).bind fun x33=>match x33 with
  | .inl x34=>(
   some (.next (zw (s19.1+1),s19.2.1,s19.2.2)))
  | .inr x35=>(
   (lkI s19.2.2 s10.1).bind fun a36 =>
   (r11 (zw (s10.1+1),s19.2.1,(List.set s19.2.2 (Int.toNat s10.1) s19.1))).bind fun x38 =>
   some (.next (zw (s19.1+1),x38.1,x38.2)))
 else
 some (.done (s19.2.1,s19.2.2))
def Qog (p0:Qd) (x5:Int) (p1:(List Int)) (p2:(List Int)) (r11:((Int × Int × (List Int))->Option (Int × (List Int)))) (s10:(Int × Int × (List Int))):Option (Int × (List Int)) :=
 if (s10.1==(s10.2.2.length:Int))=true then
  (K4 p0 x5 s10.2.2).bind fun x15 =>
  some (zw (s10.2.1+x15),s10.2.2)
 else
 (lkI p0.Nodes s10.1).bind fun a17 =>
 (Qc fuel (Qpg a17 p1 p2 s10 r11) (0,s10.2.1,s10.2.2)).bind fun x41 =>
 some (x41.1,x41.2)
def Qgw (p0:Qd) (p1:(List Int)) (p2:(List Int)):Option (Qm × Int) :=
 (V3 p0 [p1,p2]).bind fun x1 =>
 if (x1 != 0)=true then
  some ((Qm.mk 0 0),x1)
 else
 (K3 p1).bind fun x5 =>
 if 0<=(p0.Nodes.length:Int)/\(p0.Nodes.length:Int)<=(p0.Nodes.length:Int)/\(p0.Nodes.length:Int)*8<=140737488355328 then
  (Qa7 (Qog p0 x5 p1 p2) fuel (0,0,(List.replicate (Int.toNat (p0.Nodes.length:Int)) (0:Int)))).bind fun x42 =>
  (K3 p1).bind fun x44 =>
  (Qhz p0 x44).bind fun x46 =>
  (J2 x42.1 x46).bind fun x48 =>
  some (x48.1,x48.2)
 else none
def Qcx (p1:(List Int)) (p2:(List Int)) (s16:(Int × Int × (List Int) × (List Int))) (s30:(Int × Int × (List Int) × (List Int))) (s33:Int):Option (Qh Int (Unit ⊕ Unit)) :=
 if (decide (s33 < ((([p1,p2]:(List (List Int))).length):Int)))=true then
  (lkI ([p1,p2]:(List (List Int))) s33).bind fun a36 =>
  (lkI a36 s16.1).bind fun a38 =>
  if (decide (a38>=0))=true then
   if (a38 != s30.1)=true then
    some (.done (Sum.inl ()))
   else
   some (.next (zw (s33+1)))
  else
  some (.next (zw (s33+1)))
 else
 some (.done (Sum.inr ()))
def J1 (a28:Ad) (p1:(List Int)) (p2:(List Int)) (s16:(Int × Int × (List Int) × (List Int))) (r17:((Int × Int × (List Int) × (List Int))->Option (Int × (List Int) × (List Int)))) (s30:(Int × Int × (List Int) × (List Int))):Option (Qh (Int × Int × (List Int) × (List Int)) (Int × (List Int) × (List Int))) :=
 if (decide (s30.1 < a28.Card))=true then
  (Qc fuel (Qcx p1 p2 s16 s30) 0).bind fun x44=>match x44 with
  | .inl x45=>(
   some (.next (zw (s30.1+1),s30.2.1,s30.2.2.1,s30.2.2.2)))
  | .inr x46=>(
   (lkI s30.2.2.2 s16.1).bind fun a47 =>
   (r17 (zw (s16.1+1),s30.2.1,s30.2.2.1,(List.set s30.2.2.2 (Int.toNat s16.1) s30.1))).bind fun x49 =>
   some (.next (zw (s30.1+1),x49.1,x49.2.1,x49.2.2)))
 else
 some (.done (s30.2.1,s30.2.2.1,s30.2.2.2))
def Jz (p0:Qd) (x11:Int) (p3:Int) (p1:(List Int)) (p2:(List Int)) (r17:((Int × Int × (List Int) × (List Int))->Option (Int × (List Int) × (List Int)))) (s16:(Int × Int × (List Int) × (List Int))):Option (Int × (List Int) × (List Int)) :=
 if (s16.1==(s16.2.2.2.length:Int))=true then
  (K4 p0 x11 s16.2.2.2).bind fun x21 =>
  (lkI s16.2.2.2 p3).bind fun a23 =>
  (lkI s16.2.2.1 a23).bind fun a25 =>
  some (zw (s16.2.1+x21),(List.set s16.2.2.1 (Int.toNat a23) (zw (a25+x21))),s16.2.2.2)
 else
 (lkI p0.Nodes s16.1).bind fun a28 =>
 (Qc fuel (J1 a28 p1 p2 s16 r17) (0,s16.2.1,s16.2.2.1,s16.2.2.2)).bind fun x52 =>
 some (x52.1,x52.2.1,x52.2.2)
def K7 (x53:(Int × (List Int) × (List Int))) (s57:(Int × (List Qm))):Option (Qh (Int × (List Qm)) (Int ⊕ (List Qm))) :=
 if (decide (s57.1 < (x53.2.1.length:Int)))=true then
  (lkI x53.2.1 s57.1).bind fun a60 =>
  (J2 a60 x53.1).bind fun x62 =>
  if (x62.2 != 0)=true then
   some (.done (Sum.inl x62.2))
  else
  (lkI s57.2 s57.1).bind fun a66 =>
  some (.next (zw (s57.1+1),(List.set s57.2 (Int.toNat s57.1) x62.1)))
 else
 some (.done (Sum.inr s57.2))
def Yb (p0:Qd) (p1:(List Int)) (p2:(List Int)) (p3:Int):Option ((List Qm) × Int) :=
 (V3 p0 [p1,p2]).bind fun x1 =>
 if (x1 != 0)=true then
  some (([]:(List Qm)),x1)
 else
 if (decide (p3 < 0))=true then
  some (([]:(List Qm)),2)
 else
 if (decide (p3>=(p0.Nodes.length:Int)))=true then
  some (([]:(List Qm)),2)
 else
 (lkI p0.Nodes p3).bind fun a9 =>
 if 0<=a9.Card/\a9.Card<=a9.Card/\a9.Card*8<=140737488355328 then
  (K3 p1).bind fun x11 =>
  if 0<=(p0.Nodes.length:Int)/\(p0.Nodes.length:Int)<=(p0.Nodes.length:Int)/\(p0.Nodes.length:Int)*8<=140737488355328 then
   (Qa7 (Jz p0 x11 p3 p1 p2) fuel (0,0,(List.replicate (Int.toNat a9.Card) (0:Int)),(List.replicate (Int.toNat (p0.Nodes.length:Int)) (0:Int)))).bind fun x53 =>
   if (x53.1==0)=true then
    some (([]:(List Qm)),7)
   else
   if 0<=(x53.2.1.length:Int)/\(x53.2.1.length:Int)<=(x53.2.1.length:Int)/\(x53.2.1.length:Int)*16<=140737488355328 then
    (Qc fuel (K7 x53) (0,(List.replicate (Int.toNat (x53.2.1.length:Int)) ((Qm.mk 0 0):Qm)))).bind fun x69=>match x69 with
    | .inl x70=>(
     some (([]:(List Qm)),x70))
    | .inr x71=>(
     some (x71,0))
   else none
  else none
 else none
def Qon (p0:(List Int)) (p1:(List Int)) (s3:Int):Option (Qh Int (Unit ⊕ Unit)) :=
 if (decide (s3 < (p0.length:Int)))=true then
  (lkI p0 s3).bind fun a6 =>
  (lkI p1 s3).bind fun a8 =>
  if (a6 != a8)=true then
   some (.done (Sum.inl ()))
  else
  some (.next (zw (s3+1)))
 else
 some (.done (Sum.inr ()))
def Qal (p0:(List Int)) (p1:(List Int)):Option Bool :=
 if ((p0.length:Int) != (p1.length:Int))=true then
  some false
 else
 (Qc fuel (Qon p0 p1) 0).bind fun x12=>match x12 with
 | .inl x13=>(
  some false)
 | .inr x14=>(
  some true)
def Qmb (a8:Ad) (a10:Ad) (s20:Int):Option (Qh Int (Unit ⊕ Unit)) :=
 if (decide (s20 < (a8.Rows.length:Int)))=true then
  (lkI a8.Rows s20).bind fun a23 =>
  (lkI a10.Rows s20).bind fun a25 =>
  (Qal a23 a25).bind fun x27 =>
  if (!x27)=true then
   some (.done (Sum.inl ()))
  else
  some (.next (zw (s20+1)))
 else
 some (.done (Sum.inr ()))
def Qmd (p0:Qd) (p1:Qd) (s5:Int):Option (Qh Int (Unit ⊕ Unit)) :=
 if (decide (s5 < (p0.Nodes.length:Int)))=true then
  (lkI p0.Nodes s5).bind fun a8 =>
  (lkI p1.Nodes s5).bind fun a10 =>
  if (a8.Card != a10.Card)=true then
   some (.done (Sum.inl ()))
  else
  (Qal a8.Parents a10.Parents).bind fun x14 =>
  if (!x14)=true then
   some (.done (Sum.inl ()))
  else
  if ((a8.Rows.length:Int) != (a10.Rows.length:Int))=true then
   some (.done (Sum.inl ()))
  else
  (Qc fuel (Qmb a8 a10) 0).bind fun x31=>match x31 with
  | .inl x32=>(
   some (.done (Sum.inl ())))
  | .inr x33=>(
   some (.next (zw (s5+1))))
 else
 some (.done (Sum.inr ()))
def Qhk (p0:Qd) (p1:Qd):Option Bool :=
 if (p0.Grain != p1.Grain)=true then
  some false
 else
 if ((p0.Nodes.length:Int) != (p1.Nodes.length:Int))=true then
  some false
 else
 (Qc fuel (Qmd p0 p1) 0).bind fun x34=>match x34 with
 | .inl x35=>(
  some false)
 | .inr x36=>(
  some true)
def Qm0 (p0:Qd) (p1:Int) (p2:(List Int)) (s1:(Int × Int)):Option (Qh (Int × Int) Int) :=
 if (decide (s1.2 < (p0.Nodes.length:Int)))=true then
  (lkI p0.Nodes s1.2).bind fun a4 =>
  if 0<=s1.2 then
   if ((zv (zb (Int.fdiv p1 (2^min (Int.toNat s1.2) zk)) &&& zb 1).toNat)==1)=true then
    (lkI p2 s1.2).bind fun a8 =>
    some (.next (zw ((zw (s1.1*a4.Card))+a8),zw (s1.2+1)))
   else
   some (.next (s1.1,zw (s1.2+1)))
  else none
 else
 some (.done s1.1)
def Qil (p0:Qd) (p1:Int) (p2:(List Int)):Option Int :=
 (Qc fuel (Qm0 p0 p1 p2) (0,0)).bind fun x11 =>
 some x11
def Qpm (p1:Int) (p0:Qd) (s1:(Int × Int × (List Int))):Option (Qh (Int × Int × (List Int)) (List Int)) :=
 if (decide (s1.2.1>=0))=true then
  if 0<=s1.2.1 then
   if ((zv (zb (Int.fdiv p1 (2^min (Int.toNat s1.2.1) zk)) &&& zb 1).toNat)==0)=true then
    (lkI s1.2.2 s1.2.1).bind fun a6 =>
    some (.next (s1.1,zw (s1.2.1 - 1),(List.set s1.2.2 (Int.toNat s1.2.1) (-1))))
   else
   (lkI p0.Nodes s1.2.1).bind fun a9 =>
   if a9.Card≠0 then
    (lkI s1.2.2 s1.2.1).bind fun a11 =>
    if a9.Card≠0 then
     some (.next (zw (Int.tdiv s1.1 a9.Card),zw (s1.2.1 - 1),(List.set s1.2.2 (Int.toNat s1.2.1) (Int.tmod s1.1 a9.Card))))
    else none
   else none
  else none
 else
 some (.done s1.2.2)
def Ql1 (p0:Qd) (p1:Int) (p2:Int):Option (List Int) :=
 if 0<=(p0.Nodes.length:Int)/\(p0.Nodes.length:Int)<=(p0.Nodes.length:Int)/\(p0.Nodes.length:Int)*8<=140737488355328 then
  (Qc fuel (Qpm p1 p0) (p2,zw ((((List.replicate (Int.toNat (p0.Nodes.length:Int)) (0:Int)).length):Int) - 1),(List.replicate (Int.toNat (p0.Nodes.length:Int)) (0:Int)))).bind fun x15 =>
  some x15
 else none
def Qr8 (p0:Qd) (p1:Int) (s17:(Int × Int)):Option (Qh (Int × Int) Int) :=
 if (decide (s17.2 < (p0.Nodes.length:Int)))=true then
  (lkI p0.Nodes s17.2).bind fun a20 =>
  if 0<=s17.2 then
   if ((zv (zb (Int.fdiv p1 (2^min (Int.toNat s17.2) zk)) &&& zb 1).toNat)==1)=true then
    some (.next (zw (s17.1*a20.Card),zw (s17.2+1)))
   else
   some (.next (s17.1,zw (s17.2+1)))
  else none
 else
 some (.done s17.1)
def Qr5  (s47:Unit):Option (Qh Unit Unit) :=
 some (.done ())
def Qr0 (a42:Ad) (s26:(Int × (List Int) × (List Int))) (r27:((Int × (List Int) × (List Int))->Option ((List Int) × (List Int)))) (s44:(Int × (List Int) × (List Int))):Option (Qh (Int × (List Int) × (List Int)) ((List Int) × (List Int))) :=
 if (decide (s44.1 < a42.Card))=true then
  (Qc fuel (Qr5) ()).bind fun x49 =>
  (lkI s44.2.2 s26.1).bind fun a50 =>
  (r27 (zw (s26.1+1),s44.2.1,(List.set s44.2.2 (Int.toNat s26.1) s44.1))).bind fun x52 =>
  some (.next (zw (s44.1+1),x52.1,x52.2))
 else
 some (.done (s44.2.1,s44.2.2))
def Qr9 (p0:Qd) (p1:Int) (p2:Int) (p3:Int) (r27:((Int × (List Int) × (List Int))->Option ((List Int) × (List Int)))) (s26:(Int × (List Int) × (List Int))):Option ((List Int) × (List Int)) :=
 if (s26.1==(s26.2.2.length:Int))=true then
  (K4 p0 p1 s26.2.2).bind fun x31 =>
  (lkI s26.2.2 p2).bind fun a33 =>
  if (a33==p3)=true then
   (Qil p0 p1 s26.2.2).bind fun x37 =>
   (lkI s26.2.1 x37).bind fun a39 =>
   some ((List.set s26.2.1 (Int.toNat x37) (zw (a39+x31))),s26.2.2)
  else
  some (s26.2.1,s26.2.2)
 else
 (lkI p0.Nodes s26.1).bind fun a42 =>
 (Qc fuel (Qr0 a42 s26 r27) (0,s26.2.1,s26.2.2)).bind fun x55 =>
 some (x55.1,x55.2)
def Qr2 (x56:((List Int) × (List Int))) (s58:(Int × Int)):Option (Qh (Int × Int) Int) :=
 if (decide (s58.2 < (x56.1.length:Int)))=true then
  (lkI x56.1 s58.2).bind fun a61 =>
  (lkI x56.1 s58.1).bind fun a63 =>
  if (decide (a61 > a63))=true then
   some (.next (s58.2,zw (s58.2+1)))
  else
  some (.next (s58.1,zw (s58.2+1)))
 else
 some (.done s58.1)
def Qje (p0:Qd) (p1:Int) (p2:Int) (p3:Int):Option ((List Int) × Qm × Int) :=
 (V3 p0 []).bind fun x1 =>
 if (x1 != 0)=true then
  some (([]:(List Int)),(Qm.mk 0 0),x1)
 else
 if 0<=(p0.Nodes.length:Int) then
  if ((Int.fdiv p1 (2^min (Int.toNat (p0.Nodes.length:Int)) zk)) != 0)=true then
   some (([]:(List Int)),(Qm.mk 0 0),2)
  else
  if (decide (p2 < 0))=true then
   some (([]:(List Int)),(Qm.mk 0 0),2)
  else
  if (decide (p2>=(p0.Nodes.length:Int)))=true then
   some (([]:(List Int)),(Qm.mk 0 0),2)
  else
  if (decide (p3 < 0))=true then
   some (([]:(List Int)),(Qm.mk 0 0),2)
  else
  (lkI p0.Nodes p2).bind fun a13 =>
  if (decide (p3>=a13.Card))=true then
   some (([]:(List Int)),(Qm.mk 0 0),2)
  else
  (Qc fuel (Qr8 p0 p1) (1,0)).bind fun x25 =>
  if 0<=x25/\x25<=x25/\x25*8<=140737488355328 then
   if 0<=(p0.Nodes.length:Int)/\(p0.Nodes.length:Int)<=(p0.Nodes.length:Int)/\(p0.Nodes.length:Int)*8<=140737488355328 then
    (Qa7 (Qr9 p0 p1 p2 p3) fuel (0,(List.replicate (Int.toNat x25) (0:Int)),(List.replicate (Int.toNat (p0.Nodes.length:Int)) (0:Int)))).bind fun x56 =>
    (Qc fuel (Qr2 x56) (0,0)).bind fun x68 =>
    (lkI x56.1 x68).bind fun a69 =>
    (Qhz p0 p1).bind fun x71 =>
    (J2 a69 x71).bind fun x73 =>
    if (x73.2 != 0)=true then
     some (([]:(List Int)),(Qm.mk 0 0),x73.2)
    else
    (Ql1 p0 p1 x68).bind fun x77 =>
    some (x77,x73.1,0)
   else none
  else none
 else none
def J0  : Option Qd :=
 some (Qd.mk 4 ([(Ad.mk 2 [] [[1,3]]),(Ad.mk 2 [0] [[3,1],[1,3]]),(Ad.mk 2 [0,1] [[4,0],[2,2],[1,3],[0,4]])]:(List Ad)))
def Qet (p0:Aa) (p1:Int) (s1:(Int × (List Int))):Option (Qh (Int × (List Int)) (List Int)) :=
 if (decide (s1.1 < (p0.sets.parents.length:Int)))=true then
  if 0<=s1.1 then
   if ((zv (zb (Int.fdiv p1 (2^min (Int.toNat s1.1) zk)) &&& zb 1).toNat)==1)=true then
    (lkI s1.2 s1.1).bind fun a6 =>
    some (.next (zw (s1.1+1),(List.set s1.2 (Int.toNat s1.1) 0)))
   else
   some (.next (zw (s1.1+1),s1.2))
  else none
 else
 some (.done s1.2)
def Xz (p0:Aa) (p1:Int):Option Aa :=
 if p0.sets.parents.length*8<=140737488355328 then
  (Qc fuel (Qet p0 p1) (0,p0.sets.parents)).bind fun x10 =>
  some (Aa.mk (Ac.mk x10))
 else none
def Qe8 (p0:Aa) (p1:Int) (p2:Int) (p3:Int):Option Aa :=
 (Xz p0 p2).bind fun x1 =>
 some x1
def Qfg (p0:Aa) (p1:Int) (s1:(Int × (List Int))):Option (Qh (Int × (List Int)) (List Int)) :=
 if (decide (s1.1 < (p0.sets.parents.length:Int)))=true then
  (lkI s1.2 s1.1).bind fun a4 =>
  some (.next (zw (s1.1+1),(List.set s1.2 (Int.toNat s1.1) (zv (zb a4 &&& ~~~ zb p1).toNat))))
 else
 some (.done s1.2)
def Qbg (p0:Aa) (p1:Int):Option Aa :=
 if p0.sets.parents.length*8<=140737488355328 then
  (Qc fuel (Qfg p0 p1) (0,p0.sets.parents)).bind fun x8 =>
  some (Aa.mk (Ac.mk x8))
 else none
def Qel (p0:Aa) (p1:Int) (p2:Int) (p3:Int):Option Aa :=
 (Xz p0 p2).bind fun x1 =>
 (Qbg x1 p1).bind fun x3 =>
 some x3
def Qgq (p0:Aa) (p1:Int) (s1:(Int × Bool × Bool × Bool × Bool × Bool × Bool × Bool × Bool)):Option (Qh (Int × Bool × Bool × Bool × Bool × Bool × Bool × Bool × Bool) (Bool × Bool × Bool × Bool × Bool × Bool × Bool × Bool)) :=
 if (decide (s1.1 < (p0.sets.parents.length:Int)))=true then
  if 0<=s1.1 then
   (lkI ([s1.2.1,s1.2.2.1,s1.2.2.2.1,s1.2.2.2.2.1,s1.2.2.2.2.2.1,s1.2.2.2.2.2.2.1,s1.2.2.2.2.2.2.2.1,s1.2.2.2.2.2.2.2.2]:(List Bool)) s1.1).bind fun a4 =>
   some (.next (zw (s1.1+1),(if s1.1=0 then ((zv (zb (Int.fdiv p1 (2^min (Int.toNat s1.1) zk)) &&& zb 1).toNat)==1) else s1.2.1),(if s1.1=1 then ((zv (zb (Int.fdiv p1 (2^min (Int.toNat s1.1) zk)) &&& zb 1).toNat)==1) else s1.2.2.1),(if s1.1=2 then ((zv (zb (Int.fdiv p1 (2^min (Int.toNat s1.1) zk)) &&& zb 1).toNat)==1) else s1.2.2.2.1),(if s1.1=3 then ((zv (zb (Int.fdiv p1 (2^min (Int.toNat s1.1) zk)) &&& zb 1).toNat)==1) else s1.2.2.2.2.1),(if s1.1=4 then ((zv (zb (Int.fdiv p1 (2^min (Int.toNat s1.1) zk)) &&& zb 1).toNat)==1) else s1.2.2.2.2.2.1),(if s1.1=5 then ((zv (zb (Int.fdiv p1 (2^min (Int.toNat s1.1) zk)) &&& zb 1).toNat)==1) else s1.2.2.2.2.2.2.1),(if s1.1=6 then ((zv (zb (Int.fdiv p1 (2^min (Int.toNat s1.1) zk)) &&& zb 1).toNat)==1) else s1.2.2.2.2.2.2.2.1),(if s1.1=7 then ((zv (zb (Int.fdiv p1 (2^min (Int.toNat s1.1) zk)) &&& zb 1).toNat)==1) else s1.2.2.2.2.2.2.2.2)))
  else none
 else
 some (.done (s1.2.1,s1.2.2.1,s1.2.2.2.1,s1.2.2.2.2.1,s1.2.2.2.2.2.1,s1.2.2.2.2.2.2.1,s1.2.2.2.2.2.2.2.1,s1.2.2.2.2.2.2.2.2))
def Qg1 (p0:Aa) (s9:(Int × Bool × Bool × Bool × Bool × Bool × Bool × Bool × Bool × Bool)) (s8:(Bool × Bool × Bool × Bool × Bool × Bool × Bool × Bool)) (a12:Int) (s14:(Int × Bool × Bool × Bool × Bool × Bool × Bool × Bool × Bool)):Option (Qh (Int × Bool × Bool × Bool × Bool × Bool × Bool × Bool × Bool) (Bool × Bool × Bool × Bool × Bool × Bool × Bool × Bool)) :=
 if (decide (s14.1 < (p0.sets.parents.length:Int)))=true then
  (lkI ([s9.2.1,s8.2.1,s8.2.2.1,s8.2.2.2.1,s8.2.2.2.2.1,s8.2.2.2.2.2.1,s8.2.2.2.2.2.2.1,s8.2.2.2.2.2.2.2]:(List Bool)) s9.1).bind fun a17 =>
  if a17=true then
   if 0<=s14.1 then
    if ((zv (zb (Int.fdiv a12 (2^min (Int.toNat s14.1) zk)) &&& zb 1).toNat)==1)=true then
     (lkI ([s14.2.1,s14.2.2.1,s14.2.2.2.1,s14.2.2.2.2.1,s14.2.2.2.2.2.1,s14.2.2.2.2.2.2.1,s14.2.2.2.2.2.2.2.1,s14.2.2.2.2.2.2.2.2]:(List Bool)) s14.1).bind fun a23 =>
     some (.next (zw (s14.1+1),(if s14.1=0 then true else s14.2.1),(if s14.1=1 then true else s14.2.2.1),(if s14.1=2 then true else s14.2.2.2.1),(if s14.1=3 then true else s14.2.2.2.2.1),(if s14.1=4 then true else s14.2.2.2.2.2.1),(if s14.1=5 then true else s14.2.2.2.2.2.2.1),(if s14.1=6 then true else s14.2.2.2.2.2.2.2.1),(if s14.1=7 then true else s14.2.2.2.2.2.2.2.2)))
    else
    some (.next (zw (s14.1+1),s14.2.1,s14.2.2.1,s14.2.2.2.1,s14.2.2.2.2.1,s14.2.2.2.2.2.1,s14.2.2.2.2.2.2.1,s14.2.2.2.2.2.2.2.1,s14.2.2.2.2.2.2.2.2))
   else none
  else
  some (.next (zw (s14.1+1),s14.2.1,s14.2.2.1,s14.2.2.2.1,s14.2.2.2.2.1,s14.2.2.2.2.2.1,s14.2.2.2.2.2.2.1,s14.2.2.2.2.2.2.2.1,s14.2.2.2.2.2.2.2.2))
 else
 some (.done (s14.2.1,s14.2.2.1,s14.2.2.2.1,s14.2.2.2.2.1,s14.2.2.2.2.2.1,s14.2.2.2.2.2.2.1,s14.2.2.2.2.2.2.2.1,s14.2.2.2.2.2.2.2.2))
def Qgm (p0:Aa) (s8:(Bool × Bool × Bool × Bool × Bool × Bool × Bool × Bool)) (s9:(Int × Bool × Bool × Bool × Bool × Bool × Bool × Bool × Bool × Bool)):Option (Qh (Int × Bool × Bool × Bool × Bool × Bool × Bool × Bool × Bool × Bool) (Bool × Bool × Bool × Bool × Bool × Bool × Bool × Bool × Bool)) :=
 if (decide (s9.1 < (p0.sets.parents.length:Int)))=true then
  (lkI p0.sets.parents s9.1).bind fun a12 =>
  (Qc fuel (Qg1 p0 s9 s8 a12) (0,s9.2.2.1,s9.2.2.2.1,s9.2.2.2.2.1,s9.2.2.2.2.2.1,s9.2.2.2.2.2.2.1,s9.2.2.2.2.2.2.2.1,s9.2.2.2.2.2.2.2.2.1,s9.2.2.2.2.2.2.2.2.2)).bind fun x26 =>
  some (.next (zw (s9.1+1),s9.2.1,x26.1,x26.2.1,x26.2.2.1,x26.2.2.2.1,x26.2.2.2.2.1,x26.2.2.2.2.2.1,x26.2.2.2.2.2.2.1,x26.2.2.2.2.2.2.2))
 else
 some (.done (s9.2.1,s9.2.2.1,s9.2.2.2.1,s9.2.2.2.2.1,s9.2.2.2.2.2.1,s9.2.2.2.2.2.2.1,s9.2.2.2.2.2.2.2.1,s9.2.2.2.2.2.2.2.2.1,s9.2.2.2.2.2.2.2.2.2))
def Qgk (p0:Aa) (s8:(Bool × Bool × Bool × Bool × Bool × Bool × Bool × Bool)):Option (Qh (Bool × Bool × Bool × Bool × Bool × Bool × Bool × Bool) (Bool × Bool × Bool × Bool × Bool × Bool × Bool × Bool)) :=
 (Qc fuel (Qgm p0 s8) (0,s8.1,s8.1,s8.2.1,s8.2.2.1,s8.2.2.2.1,s8.2.2.2.2.1,s8.2.2.2.2.2.1,s8.2.2.2.2.2.2.1,s8.2.2.2.2.2.2.2)).bind fun x28 =>
 if ((x28.2.1==x28.1) && ((x28.2.2.1==s8.2.1) && ((x28.2.2.2.1==s8.2.2.1) && ((x28.2.2.2.2.1==s8.2.2.2.1) && ((x28.2.2.2.2.2.1==s8.2.2.2.2.1) && ((x28.2.2.2.2.2.2.1==s8.2.2.2.2.2.1) && ((x28.2.2.2.2.2.2.2.1==s8.2.2.2.2.2.2.1) && ((x28.2.2.2.2.2.2.2.2==s8.2.2.2.2.2.2.2) && true))))))))=true then
  some (.done (x28.1,s8.2.1,s8.2.2.1,s8.2.2.2.1,s8.2.2.2.2.1,s8.2.2.2.2.2.1,s8.2.2.2.2.2.2.1,s8.2.2.2.2.2.2.2))
 else
 some (.next (x28.2.1,x28.2.2.1,x28.2.2.2.1,x28.2.2.2.2.1,x28.2.2.2.2.2.1,x28.2.2.2.2.2.2.1,x28.2.2.2.2.2.2.2.1,x28.2.2.2.2.2.2.2.2))
def Qcm (p0:Aa) (p1:Int):Option (Bool × Bool × Bool × Bool × Bool × Bool × Bool × Bool) :=
 (Qc fuel (Qgq p0 p1) (0,false,false,false,false,false,false,false,false)).bind fun x7 =>
 (Qc fuel (Qgk p0) (x7.1,x7.2.1,x7.2.2.1,x7.2.2.2.1,x7.2.2.2.2.1,x7.2.2.2.2.2.1,x7.2.2.2.2.2.2.1,x7.2.2.2.2.2.2.2)).bind fun x32 =>
 some (x32.1,x32.2.1,x32.2.2.1,x32.2.2.2.1,x32.2.2.2.2.1,x32.2.2.2.2.2.1,x32.2.2.2.2.2.2.1,x32.2.2.2.2.2.2.2)
def Qjp (x3:(Bool × Bool × Bool × Bool × Bool × Bool × Bool × Bool)) (s5:(Int × Bool × Int)):Option (Qh (Int × Bool × Int) Int) :=
 if (decide (s5.2.2 < 8))=true then
  (lkI ([s5.2.1,x3.2.1,x3.2.2.1,x3.2.2.2.1,x3.2.2.2.2.1,x3.2.2.2.2.2.1,x3.2.2.2.2.2.2.1,x3.2.2.2.2.2.2.2]:(List Bool)) s5.2.2).bind fun a8 =>
  if a8=true then
   if 0<=s5.2.2 then
    some (.next (zv (zb s5.1 &&& ~~~ zb (zv (1*2^min (Int.toNat s5.2.2) zk))).toNat,s5.2.1,zw (s5.2.2+1)))
   else none
  else
  some (.next (s5.1,s5.2.1,zw (s5.2.2+1)))
 else
 some (.done s5.1)
def Qe9 (p0:Aa) (p1:Int) (p2:Int) (p3:Int):Option Aa :=
 (Xz p0 p2).bind fun x1 =>
 (Qcm x1 p3).bind fun x3 =>
 (Qc fuel (Qjp x3) (p1,x3.1,0)).bind fun x13 =>
 (Xz x1 x13).bind fun x14 =>
 some x14
def Qbp (p0:Qd):Option ((List Int) × Int) :=
 (Jq p0).bind fun x1 =>
 some (x1.1.sets,x1.2)
def Qme (p0:(List Int)) (s5:(Int × (List Int))) (a8:Int) (s12:(Int × (List Int))):Option (Qh (Int × (List Int)) (List Int)) :=
 if (decide (s12.1 < (p0.length:Int)))=true then
  (lkI s12.2 s12.1).bind fun a15 =>
  if 0<=s12.1 then
   if 0<=s5.1 then
    some (.next (zw (s12.1+1),(List.set s12.2 (Int.toNat s12.1) (zv (zb a15 ||| zb (zv ((zv (zb (Int.fdiv a8 (2^min (Int.toNat s12.1) zk)) &&& zb 1).toNat)*2^min (Int.toNat s5.1) zk))).toNat))))
   else none
  else none
 else
 some (.done s12.2)
def Ql2 (p0:(List Int)) (s5:(Int × (List Int))):Option (Qh (Int × (List Int)) (Unit ⊕ (List Int))) :=
 if (decide (s5.1 < (p0.length:Int)))=true then
  (lkI p0 s5.1).bind fun a8 =>
  if 0<=(p0.length:Int) then
   if ((Int.fdiv a8 (2^min (Int.toNat (p0.length:Int)) zk)) != 0)=true then
    some (.done (Sum.inl ()))
   else
   (Qc fuel (Qme p0 s5 a8) (0,s5.2)).bind fun x19 =>
   some (.next (zw (s5.1+1),x19))
  else none
 else
 some (.done (Sum.inr s5.2))
def Qln (p0:(List Int)) (s23:(Int × Int)) (s26:Int):Option (Qh Int (Int ⊕ Unit)) :=
 if (decide (s26 < (p0.length:Int)))=true then
  (lkI p0 s26).bind fun a29 =>
  if 0<=s26 then
   if ((zv (zb (Int.fdiv s23.1 (2^min (Int.toNat s26) zk)) &&& zb 1).toNat)==0)=true then
    if ((zv (zb a29 &&& ~~~ zb s23.1).toNat)==0)=true then
     if 0<=s26 then
      some (.done (Sum.inl (zv (zb s23.1 ||| zb (zv (1*2^min (Int.toNat s26) zk))).toNat)))
     else none
    else
    some (.next (zw (s26+1)))
   else
   some (.next (zw (s26+1)))
  else none
 else
 some (.done (Sum.inr ()))
def Qks (p0:(List Int)) (s23:(Int × Int)):Option (Qh (Int × Int) (Unit ⊕ Unit)) :=
 if (decide (s23.2 < (p0.length:Int)))=true then
  (Qc fuel (Qln p0 s23) 0).bind fun x35=>match x35 with
  | .inl x36=>(
   some (.next (x36,zw (s23.2+1))))
  | .inr x37=>(
   some (.done (Sum.inl ())))
 else
 some (.done (Sum.inr ()))
def Qhq (p0:(List Int)):Option (Q4 × Int) :=
 if (decide ((p0.length:Int) < 1))=true then
  some ((Q4.mk (Yk.mk []) []),70)
 else
 if (decide ((p0.length:Int) > 8))=true then
  some ((Q4.mk (Yk.mk []) []),70)
 else
 if 0<=(p0.length:Int)/\(p0.length:Int)<=(p0.length:Int)/\(p0.length:Int)*8<=140737488355328 then
  (Qc fuel (Ql2 p0) (0,(List.replicate (Int.toNat (p0.length:Int)) (0:Int)))).bind fun x20=>match x20 with
  | .inl x21=>(
   some ((Q4.mk (Yk.mk []) []),70))
  | .inr x22=>(
   (Qc fuel (Qks p0) (0,0)).bind fun x38=>match x38 with
   | .inl x39=>(
    some ((Q4.mk (Yk.mk []) []),70))
   | .inr x40=>(
    some ((Q4.mk (Yk.mk p0) x22),0)))
 else none
def Qd1 (p1:(List Int)) (p0:Q4) (s1:(Int × Int)):Option (Qh (Int × Int) (Unit ⊕ Unit)) :=
 if (decide (s1.2 < (p1.length:Int)))=true then
  (lkI p1 s1.2).bind fun a4 =>
  if 0<=(p0.ancestry.parents.length:Int) then
   if ((Int.fdiv a4 (2^min (Int.toNat (p0.ancestry.parents.length:Int)) zk)) != 0)=true then
    some (.done (Sum.inl ()))
   else
   if ((zv (zb a4 &&& zb s1.1).toNat) != 0)=true then
    some (.done (Sum.inl ()))
   else
   some (.next (zv (zb s1.1 ||| zb a4).toNat,zw (s1.2+1)))
  else none
 else
 some (.done (Sum.inr ()))
def Qab (p0:Q4) (p1:(List Int)):Option Bool :=
 (Qc fuel (Qd1 p1 p0) (0,0)).bind fun x10=>match x10 with
 | .inl x11=>(
  some false)
 | .inr x12=>(
  some true)
def Kk (p0:Int):Option Int :=
 if (p0==0)=true then
  some 64
 else
 (lkI tab1 (Int.fdiv (zv ((zv (zb p0 &&& zb (zv (0 - p0))).toNat)*285870213051353865)) (2^min (Int.toNat 58) zk))).bind fun a3 =>
 some (zw (a3))
def Zj (p0:Int):Option Int :=
 (Kk p0).bind fun x1 =>
 some x1
def Qft (p0:Q4) (s4:(Int × Int)):Option (Qh (Int × Int) Int) :=
 if (decide (s4.1 < (p0.ancestry.parents.length:Int)))=true then
  (lkI p0.ancestry.parents s4.1).bind fun a7 =>
  if 0<=s4.1 then
   if ((zv (zb (Int.fdiv s4.2 (2^min (Int.toNat s4.1) zk)) &&& zb 1).toNat)==1)=true then
    some (.next (zw (s4.1+1),zv (zb s4.2 ||| zb a7).toNat))
   else
   some (.next (zw (s4.1+1),s4.2))
  else none
 else
 some (.done s4.2)
def Qfz (p0:Q4) (s1:(Int × Int)):Option (Qh (Int × Int) Int) :=
 if (decide (s1.1 < (p0.ancestry.parents.length:Int)))=true then
  (Qc fuel (Qft p0) (0,s1.2)).bind fun x12 =>
  some (.next (zw (s1.1+1),x12))
 else
 some (.done s1.2)
def Qfr (r21:((Int × Bool × Int × (List (Ah × Bool)))->Option (Int × (List (Ah × Bool))))) (s29:(Int × Int × (List (Ah × Bool)))):Option (Qh (Int × Int × (List (Ah × Bool))) (Int × (List (Ah × Bool)))) :=
 if (s29.1 != 0)=true then
  (Zj s29.1).bind fun x32 =>
  (r21 (x32,true,s29.2.1,s29.2.2)).bind fun x34 =>
  some (.next (zv (zb s29.1 &&& zb (zv (s29.1 - 1))).toNat,x34.1,x34.2))
 else
 some (.done (s29.2.1,s29.2.2))
def Qfj (r21:((Int × Bool × Int × (List (Ah × Bool)))->Option (Int × (List (Ah × Bool))))) (s43:(Int × Int × (List (Ah × Bool)))):Option (Qh (Int × Int × (List (Ah × Bool))) (Int × (List (Ah × Bool)))) :=
 if (s43.1 != 0)=true then
  (Zj s43.1).bind fun x46 =>
  (r21 (x46,false,s43.2.1,s43.2.2)).bind fun x48 =>
  some (.next (zv (zb s43.1 &&& zb (zv (s43.1 - 1))).toNat,x48.1,x48.2))
 else
 some (.done (s43.2.1,s43.2.2))
def Qfp (r21:((Int × Bool × Int × (List (Ah × Bool)))->Option (Int × (List (Ah × Bool))))) (s55:(Int × Int × (List (Ah × Bool)))):Option (Qh (Int × Int × (List (Ah × Bool))) (Int × (List (Ah × Bool)))) :=
 if (s55.1 != 0)=true then
  (Zj s55.1).bind fun x58 =>
  (r21 (x58,false,s55.2.1,s55.2.2)).bind fun x60 =>
  some (.next (zv (zb s55.1 &&& zb (zv (s55.1 - 1))).toNat,x60.1,x60.2))
 else
 some (.done (s55.2.1,s55.2.2))
def Qfb (r21:((Int × Bool × Int × (List (Ah × Bool)))->Option (Int × (List (Ah × Bool))))) (s69:(Int × Int × (List (Ah × Bool)))):Option (Qh (Int × Int × (List (Ah × Bool))) (Int × (List (Ah × Bool)))) :=
 if (s69.1 != 0)=true then
  (Zj s69.1).bind fun x72 =>
  (r21 (x72,false,s69.2.1,s69.2.2)).bind fun x74 =>
  some (.next (zv (zb s69.1 &&& zb (zv (s69.1 - 1))).toNat,x74.1,x74.2))
 else
 some (.done (s69.2.1,s69.2.2))
def Qfc (r21:((Int × Bool × Int × (List (Ah × Bool)))->Option (Int × (List (Ah × Bool))))) (s81:(Int × Int × (List (Ah × Bool)))):Option (Qh (Int × Int × (List (Ah × Bool))) (Int × (List (Ah × Bool)))) :=
 if (s81.1 != 0)=true then
  (Zj s81.1).bind fun x84 =>
  (r21 (x84,false,s81.2.1,s81.2.2)).bind fun x86 =>
  some (.next (zv (zb s81.1 &&& zb (zv (s81.1 - 1))).toNat,x86.1,x86.2))
 else
 some (.done (s81.2.1,s81.2.2))
def Qfy (p2:Int) (p0:Q4) (x14:Int) (r21:((Int × Bool × Int × (List (Ah × Bool)))->Option (Int × (List (Ah × Bool))))) (s20:(Int × Bool × Int × (List (Ah × Bool)))):Option (Int × (List (Ah × Bool))) :=
 if (kget Aq s20.2.2.2 (Ah.mk s20.1 s20.2.1)).getD false=true then
  some (s20.2.2.1,s20.2.2.2)
 else
 if 0<=s20.1 then
  if ((zv (zb (Int.fdiv p2 (2^min (Int.toNat s20.1) zk)) &&& zb 1).toNat)==0)=true then
   if 0<=s20.1 then
    (lkI p0.children s20.1).bind fun a27 =>
    (Qc fuel (Qfr r21) (a27,zv (zb s20.2.2.1 ||| zb (zv (1*2^min (Int.toNat s20.1) zk))).toNat,kput Aq s20.2.2.2 (Ah.mk s20.1 s20.2.1) true)).bind fun x36 =>
    if s20.2.1=true then
     if 0<=s20.1 then
      if ((zv (zb (Int.fdiv x14 (2^min (Int.toNat s20.1) zk)) &&& zb 1).toNat)==0)=true then
       some (x36.1,x36.2)
      else
      (lkI p0.ancestry.parents s20.1).bind fun a41 =>
      (Qc fuel (Qfj r21) (a41,x36.1,x36.2)).bind fun x50 =>
      some (x50.1,x50.2)
     else none
    else
    if 0<=s20.1 then
     if ((zv (zb (Int.fdiv p2 (2^min (Int.toNat s20.1) zk)) &&& zb 1).toNat)==1)=true then
      some (x36.1,x36.2)
     else
     (lkI p0.ancestry.parents s20.1).bind fun a53 =>
     (Qc fuel (Qfp r21) (a53,x36.1,x36.2)).bind fun x62 =>
     some (x62.1,x62.2)
    else none
   else none
  else
  if s20.2.1=true then
   if 0<=s20.1 then
    if ((zv (zb (Int.fdiv x14 (2^min (Int.toNat s20.1) zk)) &&& zb 1).toNat)==0)=true then
     some (s20.2.2.1,kput Aq s20.2.2.2 (Ah.mk s20.1 s20.2.1) true)
    else
    (lkI p0.ancestry.parents s20.1).bind fun a67 =>
    (Qc fuel (Qfb r21) (a67,s20.2.2.1,kput Aq s20.2.2.2 (Ah.mk s20.1 s20.2.1) true)).bind fun x76 =>
    some (x76.1,x76.2)
   else none
  else
  if 0<=s20.1 then
   if ((zv (zb (Int.fdiv p2 (2^min (Int.toNat s20.1) zk)) &&& zb 1).toNat)==1)=true then
    some (s20.2.2.1,kput Aq s20.2.2.2 (Ah.mk s20.1 s20.2.1) true)
   else
   (lkI p0.ancestry.parents s20.1).bind fun a79 =>
   (Qc fuel (Qfc r21) (a79,s20.2.2.1,kput Aq s20.2.2.2 (Ah.mk s20.1 s20.2.1) true)).bind fun x88 =>
   some (x88.1,x88.2)
  else none
 else none
def Qfi (p2:Int) (p0:Q4) (x14:Int) (s15:(Int × Int × (List (Ah × Bool)))):Option (Qh (Int × Int × (List (Ah × Bool))) (Int × (List (Ah × Bool)))) :=
 if (s15.1 != 0)=true then
  (Zj s15.1).bind fun x18 =>
  (Qa7 (Qfy p2 p0 x14) fuel (x18,false,s15.2.1,s15.2.2)).bind fun x89 =>
  some (.next (zv (zb s15.1 &&& zb (zv (s15.1 - 1))).toNat,x89.1,x89.2))
 else
 some (.done (s15.2.1,s15.2.2))
def Qa9 (p0:Q4) (p1:Int) (p2:Int):Option Int :=
 (Qc fuel (Qfz p0) (0,p2)).bind fun x14 =>
 (Qc fuel (Qfi p2 p0 x14) (p1,0,[])).bind fun x92 =>
 some x92.1
def Kl (p0:(List Int)) (p1:Int) (p2:Int) (p3:Int):Option (Bool × Int) :=
 (Qhq p0).bind fun x1 =>
 if (x1.2 != 0)=true then
  some (false,x1.2)
 else
 (Qab x1.1 [p1,p2,p3]).bind fun x5 =>
 if (!x5)=true then
  some (false,2)
 else
 (Qa9 x1.1 p1 p3).bind fun x9 =>
 some (((zv (zb x9 &&& zb p2).toNat)==0),0)
def Qo5 (p0:Qd) (p1:Int) (p2:Int) (p3:Int) (p4:Int) (p5:Int):Option (Bool × Int) :=
 (V3 p0 []).bind fun x1 =>
 if (x1 != 0)=true then
  some (false,x1)
 else
 if p1=1 then
  if 0<=(p0.Nodes.length:Int) then
   if ((Int.fdiv (zv (zb (zv (zb (zv (zb p2 ||| zb p3).toNat) ||| zb p4).toNat) ||| zb p5).toNat) (2^min (Int.toNat (p0.Nodes.length:Int)) zk)) != 0)=true then
    some (false,2)
   else
   if ((zv (zb p2 &&& zb p3).toNat) != 0)=true then
    some (false,2)
   else
   if ((zv (zb (zv (zb p2 ||| zb p3).toNat) &&& zb p4).toNat) != 0)=true then
    some (false,2)
   else
   if ((zv (zb (zv (zb (zv (zb p2 ||| zb p3).toNat) ||| zb p4).toNat) &&& zb p5).toNat) != 0)=true then
    some (false,2)
   else
   (Qbp p0).bind fun x15 =>
   if (x15.2 != 0)=true then
    some (false,x15.2)
   else
   if (p2==0)=true then
    some (true,0)
   else
   if (p3==0)=true then
    some (true,0)
   else
   (Qe8 (Aa.mk (Ac.mk x15.1)) p3 p4 p5).bind fun x23 =>
   (Kl x23.sets.parents p2 p3 (zv (zb p4 ||| zb p5).toNat)).bind fun x25 =>
   some (x25.1,x25.2)
  else none
 else
 if p1=2 then
  if 0<=(p0.Nodes.length:Int) then
   if ((Int.fdiv (zv (zb (zv (zb (zv (zb p2 ||| zb p3).toNat) ||| zb p4).toNat) ||| zb p5).toNat) (2^min (Int.toNat (p0.Nodes.length:Int)) zk)) != 0)=true then
    some (false,2)
   else
   if ((zv (zb p2 &&& zb p3).toNat) != 0)=true then
    some (false,2)
   else
   if ((zv (zb (zv (zb p2 ||| zb p3).toNat) &&& zb p4).toNat) != 0)=true then
    some (false,2)
   else
   if ((zv (zb (zv (zb (zv (zb p2 ||| zb p3).toNat) ||| zb p4).toNat) &&& zb p5).toNat) != 0)=true then
    some (false,2)
   else
   (Qbp p0).bind fun x37 =>
   if (x37.2 != 0)=true then
    some (false,x37.2)
   else
   if (p2==0)=true then
    some (true,0)
   else
   if (p3==0)=true then
    some (true,0)
   else
   (Qel (Aa.mk (Ac.mk x37.1)) p3 p4 p5).bind fun x45 =>
   (Kl x45.sets.parents p2 p3 (zv (zb p4 ||| zb p5).toNat)).bind fun x47 =>
   some (x47.1,x47.2)
  else none
 else
 if p1=3 then
  if 0<=(p0.Nodes.length:Int) then
   if ((Int.fdiv (zv (zb (zv (zb (zv (zb p2 ||| zb p3).toNat) ||| zb p4).toNat) ||| zb p5).toNat) (2^min (Int.toNat (p0.Nodes.length:Int)) zk)) != 0)=true then
    some (false,2)
   else
   if ((zv (zb p2 &&& zb p3).toNat) != 0)=true then
    some (false,2)
   else
   if ((zv (zb (zv (zb p2 ||| zb p3).toNat) &&& zb p4).toNat) != 0)=true then
    some (false,2)
   else
   if ((zv (zb (zv (zb (zv (zb p2 ||| zb p3).toNat) ||| zb p4).toNat) &&& zb p5).toNat) != 0)=true then
    some (false,2)
   else
   (Qbp p0).bind fun x59 =>
   if (x59.2 != 0)=true then
    some (false,x59.2)
   else
   if (p2==0)=true then
    some (true,0)
   else
   if (p3==0)=true then
    some (true,0)
   else
   (Qe9 (Aa.mk (Ac.mk x59.1)) p3 p4 p5).bind fun x67 =>
   (Kl x67.sets.parents p2 p3 (zv (zb p4 ||| zb p5).toNat)).bind fun x69 =>
   some (x69.1,x69.2)
  else none
 else
 some (false,2)
def Kg (p0:Int) (p1:Int) (p2:Int) (p3:Int) (p4:Int) (p5:Bool):Option Bool :=
 (J0).bind fun x1 =>
 (Qo5 x1 p0 p1 p2 p3 p4).bind fun x3 =>
 if (x3.1==p5)=true then
  some (x3.2==0)
 else
 some false
def Jn (p0:Int) (p1:Int):Option Qm :=
 some (Qm.mk p0 p1)
def Kw (p0:(List Qm)) (p1:(List Qm)) (s3:Int):Option (Qh Int (Unit ⊕ Unit)) :=
 if (decide (s3 < (p0.length:Int)))=true then
  (lkI p0 s3).bind fun a6 =>
  (lkI p1 s3).bind fun a8 =>
  if (!((a6.N==a8.N) && ((a6.D==a8.D) && true)))=true then
   some (.done (Sum.inl ()))
  else
  some (.next (zw (s3+1)))
 else
 some (.done (Sum.inr ()))
def Ye (p0:(List Qm)) (p1:(List Qm)):Option Bool :=
 if ((p0.length:Int) != (p1.length:Int))=true then
  some false
 else
 (Qc fuel (Kw p0 p1) 0).bind fun x12=>match x12 with
 | .inl x13=>(
  some false)
 | .inr x14=>(
  some true)
def Qdu (p0:(List Int)) (p1:(List Int)) (p2:Int) (p3:(List Qm)):Option Bool :=
 (J0).bind fun x1 =>
 (Yb x1 p0 p1 p2).bind fun x3 =>
 if (x3.2==0)=true then
  (Ye x3.1 p3).bind fun x7 =>
  some x7
 else
 some false
def Xc (w3_0:Bool):Option Bool :=
 some w3_0
def Yi (w2_0:Bool) (w2_1:Bool) (w2_2:Bool):Option Bool :=
 if w2_0=true then
  if w2_1=true then
   if w2_2=true then
    (Kg 2 4 1 0 0 true).bind fun x75 =>
    if x75=true then
     (Kg 2 4 2 0 0 false).bind fun x79 =>
     if x79=true then
      (Kg 2 4 2 0 1 true).bind fun x83 =>
      if x83=true then
       (Kg 3 1 6 0 0 true).bind fun x87 =>
       if x87=true then
        (Kg 1 1 4 2 0 false).bind fun x91 =>
        Xc x91
       else
       Xc false
      else
      Xc false
     else
     Xc false
    else
    Xc false
   else
   Xc false
  else
  Xc false
 else
 Xc false
def Qbx (w1_0:Int) (w1_1:Int) (w1_2:Bool) (w1_3:Bool) (w1_4:(List Int)) (w1_5:Int) (w1_6:Int) (w1_7:(List Int)) (w1_8:Int) (w1_9:Int):Option Bool :=
 if (w1_0==0)=true then
  (Qal w1_4 [1,1,-1]).bind fun x53 =>
  if x53=true then
   (Jn 1 1).bind fun x57 =>
   if ((w1_5==x57.N) && ((w1_6==x57.D) && true))=true then
    if (w1_1==0)=true then
     (Qal w1_7 [-1,0,-1]).bind fun x63 =>
     if x63=true then
      (Jn 3 4).bind fun x67 =>
      Yi w1_2 w1_3 ((w1_8==x67.N) && ((w1_9==x67.D) && true))
     else
     Yi w1_2 w1_3 false
    else
    Yi w1_2 w1_3 false
   else
   Yi w1_2 w1_3 false
  else
  Yi w1_2 w1_3 false
 else
 Yi w1_2 w1_3 false
def Xs (w0_0:Int) (w0_1:Int) (w0_2:Bool) (w0_3:(List Int)) (w0_4:Int) (w0_5:Int) (w0_6:(List Int)) (w0_7:Int) (w0_8:Int):Option Bool :=
 (Jn 1 7).bind fun x37 =>
 (Jn 6 7).bind fun x39 =>
 (Qdu [-1,1,-1] [-1,-1,1] 0 [x37,x39]).bind fun x41 =>
 if x41=true then
  (Jn 7 8).bind fun x45 =>
  (Jn 1 8).bind fun x47 =>
  (Qdu [0,-1,-1] [-1,-1,-1] 2 [x45,x47]).bind fun x49 =>
  Qbx w0_0 w0_1 w0_2 x49 w0_3 w0_4 w0_5 w0_6 w0_7 w0_8
 else
 Qbx w0_0 w0_1 w0_2 false w0_3 w0_4 w0_5 w0_6 w0_7 w0_8
def Qeu  : Option Bool :=
 (J0).bind fun x1 =>
 (Qup x1 [-1,1,-1]).bind fun x3 =>
 (J0).bind fun x5 =>
 (lkI x5.Nodes 1).bind fun a7 =>
 (Qgw x1 [-1,1,-1] [-1,-1,1]).bind fun x94 =>
 (Qgw x1 [-1,1,-1] [-1,0,-1]).bind fun x96 =>
 (Yb x1 [-1,1,-1] [-1,0,-1] 2).bind fun x98 =>
 (Qje x1 3 2 1).bind fun x100 =>
 (Qje x1 2 0 1).bind fun x102 =>
 if (x3.2==0)=true then
  (Qhk x3.1 (Qd.mk x5.Grain (List.set x5.Nodes (Int.toNat 1) (Ad.mk 2 [] [[0,4]])))).bind fun x106 =>
  if x106=true then
   if (x94.2==0)=true then
    (Jn 7 8).bind fun x112 =>
    if ((x94.1.N==x112.N) && ((x94.1.D==x112.D) && true))=true then
     if (x96.2==0)=true then
      (Jn 0 1).bind fun x118 =>
      if ((x96.1.N==x118.N) && ((x96.1.D==x118.D) && true))=true then
       Xs x100.2.2 x102.2.2 (x98.2==7) x100.1 x100.2.1.N x100.2.1.D x102.1 x102.2.1.N x102.2.1.D
      else
      Xs x100.2.2 x102.2.2 false x100.1 x100.2.1.N x100.2.1.D x102.1 x102.2.1.N x102.2.1.D
     else
     Xs x100.2.2 x102.2.2 false x100.1 x100.2.1.N x100.2.1.D x102.1 x102.2.1.N x102.2.1.D
    else
    Xs x100.2.2 x102.2.2 false x100.1 x100.2.1.N x100.2.1.D x102.1 x102.2.1.N x102.2.1.D
   else
   Xs x100.2.2 x102.2.2 false x100.1 x100.2.1.N x100.2.1.D x102.1 x102.2.1.N x102.2.1.D
  else
  Xs x100.2.2 x102.2.2 false x100.1 x100.2.1.N x100.2.1.D x102.1 x102.2.1.N x102.2.1.D
 else
 Xs x100.2.2 x102.2.2 false x100.1 x100.2.1.N x100.2.1.D x102.1 x102.2.1.N x102.2.1.D
def Ka (p0:Ae) (s1:(Int × (List Int))):Option (Qh (Int × (List Int)) (List Int)) :=
 if (decide (s1.1 < (p0.C.length:Int)))=true then
  if (decide (s1.1 < 5))=true then
   (lkI p0.C s1.1).bind fun a6 =>
   if (s1.2++([zw (1+(zw (Int.tmod a6 4)))]:(List Int))).length*8<=140737488355328 then
    some (.next (zw (s1.1+1),(s1.2++([zw (1+(zw (Int.tmod a6 4)))]:(List Int)))))
   else none
  else
  some (.done s1.2)
 else
 some (.done s1.2)
def Je (p0:Ae):Option (List Int) :=
 (Qc fuel (Ka p0) (0,([]:(List Int)))).bind fun x9 =>
 some x9
def Ve (p0:Ae) (s1:(Int × (List Int))):Option (Qh (Int × (List Int)) (List Int)) :=
 (Je p0).bind fun x2 =>
 if (decide (s1.1 < (x2.length:Int)))=true then
  if (decide (s1.1 < (p0.Order.length:Int)))=true then
   (lkI p0.Order s1.1).bind fun a8 =>
   if (zw (s1.1+1))≠0 then
    if 0<=(0:Int)/\(0:Int)<=(Int.tmod (zw (a8)) (zw (s1.1+1)))/\(Int.tmod (zw (a8)) (zw (s1.1+1)))<=(s1.2.length:Int) then
     if (sub s1.2 0 (Int.tmod (zw (a8)) (zw (s1.1+1)))).length*8<=140737488355328 then
      if ((sub s1.2 0 (Int.tmod (zw (a8)) (zw (s1.1+1))))++([s1.1]:(List Int))).length*8<=140737488355328 then
       if 0<=(Int.tmod (zw (a8)) (zw (s1.1+1)))/\(Int.tmod (zw (a8)) (zw (s1.1+1)))<=(s1.2.length:Int)/\(s1.2.length:Int)<=(s1.2.length:Int) then
        if (((sub s1.2 0 (Int.tmod (zw (a8)) (zw (s1.1+1))))++([s1.1]:(List Int)))++(sub s1.2 (Int.tmod (zw (a8)) (zw (s1.1+1))) (s1.2.length:Int))).length*8<=140737488355328 then
         some (.next (zw (s1.1+1),(((sub s1.2 0 (Int.tmod (zw (a8)) (zw (s1.1+1))))++([s1.1]:(List Int)))++(sub s1.2 (Int.tmod (zw (a8)) (zw (s1.1+1))) (s1.2.length:Int)))))
        else none
       else none
      else none
     else none
    else none
   else none
  else
  if 0<=(0:Int)/\(0:Int)<=(0:Int)/\(0:Int)<=(s1.2.length:Int) then
   if (sub s1.2 0 0).length*8<=140737488355328 then
    if ((sub s1.2 0 0)++([s1.1]:(List Int))).length*8<=140737488355328 then
     if 0<=(0:Int)/\(0:Int)<=(s1.2.length:Int)/\(s1.2.length:Int)<=(s1.2.length:Int) then
      if (((sub s1.2 0 0)++([s1.1]:(List Int)))++(sub s1.2 0 (s1.2.length:Int))).length*8<=140737488355328 then
       some (.next (zw (s1.1+1),(((sub s1.2 0 0)++([s1.1]:(List Int)))++(sub s1.2 0 (s1.2.length:Int)))))
      else none
     else none
    else none
   else none
  else none
 else
 some (.done s1.2)
def Yo (p0:Ae):Option (List Int) :=
 (Qc fuel (Ve p0) (0,([]:(List Int)))).bind fun x15 =>
 some x15
def Qdg (p0:(List Int)) (s1:(Int × Int)):Option (Qh (Int × Int) Int) :=
 if (decide (s1.2 < (p0.length:Int)))=true then
  (lkI p0 s1.2).bind fun a4 =>
  some (.next (zw (s1.1*a4),zw (s1.2+1)))
 else
 some (.done s1.1)
def Qaj (p0:(List Int)):Option Int :=
 (Qc fuel (Qdg p0) (1,0)).bind fun x7 =>
 some x7
def Qe0 (p1:(List Int)) (p0:(List Int)) (s1:(Int × (List Int))):Option (Qh (Int × (List Int)) (List Int)) :=
 if (decide (s1.1 < (p1.length:Int)))=true then
  (lkI p1 s1.1).bind fun a4 =>
  (lkI p0 a4).bind fun a6 =>
  if (s1.2++([a6]:(List Int))).length*8<=140737488355328 then
   some (.next (zw (s1.1+1),(s1.2++([a6]:(List Int)))))
  else none
 else
 some (.done s1.2)
def Qfv (p0:(List Int)) (p1:(List Int)):Option (List Int) :=
 (Qc fuel (Qe0 p1 p0) (0,([]:(List Int)))).bind fun x9 =>
 some x9
def Qb2 (p0:Qd) (s1:(Int × (List Int))):Option (Qh (Int × (List Int)) (List Int)) :=
 if (decide (s1.1 < (p0.Nodes.length:Int)))=true then
  (lkI p0.Nodes s1.1).bind fun a4 =>
  if (s1.2++([a4.Card]:(List Int))).length*8<=140737488355328 then
   some (.next (zw (s1.1+1),(s1.2++([a4.Card]:(List Int)))))
  else none
 else
 some (.done s1.2)
def Qbt (p0:Qd):Option (List Int) :=
 (Qc fuel (Qb2 p0) (0,([]:(List Int)))).bind fun x7 =>
 some x7
def Xh (p0:Qd) (p1:Int):Option (List Int) :=
 (Qbt p0).bind fun x1 =>
 (lkI p0.Nodes p1).bind fun a3 =>
 (Qfv x1 a3.Parents).bind fun x5 =>
 some x5
def V5 (p1:Int) (p2:(List Int)) (p3:Int) (s1:(Int × Int × (List Int))):Option (Qh (Int × Int × (List Int)) (Int × (List Int))) :=
 if (decide (s1.2.1 < p1))=true then
  if (decide ((p2.length:Int) > 0))=true then
   if (p2.length:Int)≠0 then
    (lkI p2 (Int.tmod (zw (p3+s1.2.1)) (p2.length:Int))).bind fun a6 =>
    (lkI s1.2.2 s1.2.1).bind fun a8 =>
    some (.next (zw (s1.1+(zw (Int.tmod a6 8))),zw (s1.2.1+1),(List.set s1.2.2 (Int.toNat s1.2.1) (zw (Int.tmod a6 8)))))
   else none
  else
  (lkI s1.2.2 s1.2.1).bind fun a11 =>
  some (.next (zw (s1.1+a11),zw (s1.2.1+1),s1.2.2))
 else
 some (.done (s1.1,s1.2.2))
def Qdr (p1:Int) (x14:(Int × (List Int))) (p0:Int) (s15:(Int × Int × Int × (List Int))):Option (Qh (Int × Int × Int × (List Int)) (Int × Int × (List Int))) :=
 if (decide (s15.2.2.1 < p1))=true then
  (lkI s15.2.2.2 s15.2.2.1).bind fun a18 =>
  if (decide (a18 > 0))=true then
   if x14.1≠0 then
    some (.next (zw (s15.1 - (zw (Int.tdiv (zw (p0*a18)) x14.1))),s15.2.2.1,zw (s15.2.2.1+1),(List.set s15.2.2.2 (Int.toNat s15.2.2.1) (zw (Int.tdiv (zw (p0*a18)) x14.1)))))
   else none
  else
  some (.next (zw (s15.1 - a18),s15.2.1,zw (s15.2.2.1+1),s15.2.2.2))
 else
 some (.done (s15.1,s15.2.1,s15.2.2.2))
def Qbf (p0:Int) (p1:Int) (p2:(List Int)) (p3:Int):Option (List Int) :=
 if 0<=p1/\p1<=p1/\p1*8<=140737488355328 then
  (Qc fuel (V5 p1 p2 p3) (0,0,(List.replicate (Int.toNat p1) (0:Int)))).bind fun x14 =>
  (Qc fuel (Qdr p1 x14 p0) (p0,0,0,x14.2)).bind fun x24 =>
  (lkI x24.2.2 x24.2.1).bind fun a25 =>
  some (List.set x24.2.2 (Int.toNat x24.2.1) (zw (a25+x24.1)))
 else none
def Yx (p0:Qe) (x1:(List Int)) (s3:(Int × Int × (List (Int ⊕ Ad)))):Option (Qh (Int × Int × (List (Int ⊕ Ad))) (List (Int ⊕ Ad))) :=
 if (decide (s3.2.1 < (if 5 < (if 1 > (p0.Nodes.length:Int) then 1 else (p0.Nodes.length:Int)) then 5 else (if 1 > (p0.Nodes.length:Int) then 1 else (p0.Nodes.length:Int)))))=true then
  if (decide (s3.2.1 < (p0.Nodes.length:Int)))=true then
   (lkI p0.Nodes s3.2.1).bind fun a8 =>
   if 0<=(zv (zw ((zw ((if 5 < (if 1 > (p0.Nodes.length:Int) then 1 else (p0.Nodes.length:Int)) then 5 else (if 1 > (p0.Nodes.length:Int) then 1 else (p0.Nodes.length:Int))) - 1)) - s3.2.1))) then
    if (decide ((zw ((zw (s3.1*(zw (2+(zw (Int.tmod a8.Card 2))))))*2^min (Int.toNat (zv (zw ((zw ((if 5 < (if 1 > (p0.Nodes.length:Int) then 1 else (p0.Nodes.length:Int)) then 5 else (if 1 > (p0.Nodes.length:Int) then 1 else (p0.Nodes.length:Int))) - 1)) - s3.2.1)))) (IntKind.bits .i64))) > 100))=true then
     (lkI x1 s3.2.1).bind fun a12 =>
     (lkL s3.2.2 a12).bind fun a14 =>
     some (.next (zw (s3.1*2),zw (s3.2.1+1),(List.set s3.2.2 (Int.toNat a12) (Sum.inl 2))))
    else
    (lkI x1 s3.2.1).bind fun a17 =>
    (lkL s3.2.2 a17).bind fun a19 =>
    some (.next (zw (s3.1*(zw (2+(zw (Int.tmod a8.Card 2))))),zw (s3.2.1+1),(List.set s3.2.2 (Int.toNat a17) (Sum.inl (zw (2+(zw (Int.tmod a8.Card 2))))))))
   else none
  else
  if 0<=(zv (zw ((zw ((if 5 < (if 1 > (p0.Nodes.length:Int) then 1 else (p0.Nodes.length:Int)) then 5 else (if 1 > (p0.Nodes.length:Int) then 1 else (p0.Nodes.length:Int))) - 1)) - s3.2.1))) then
   if (decide ((zw ((zw (s3.1*(zw (2+(zw (Int.tmod 0 2))))))*2^min (Int.toNat (zv (zw ((zw ((if 5 < (if 1 > (p0.Nodes.length:Int) then 1 else (p0.Nodes.length:Int)) then 5 else (if 1 > (p0.Nodes.length:Int) then 1 else (p0.Nodes.length:Int))) - 1)) - s3.2.1)))) (IntKind.bits .i64))) > 100))=true then
    (lkI x1 s3.2.1).bind fun a24 =>
    (lkL s3.2.2 a24).bind fun a26 =>
    some (.next (zw (s3.1*2),zw (s3.2.1+1),(List.set s3.2.2 (Int.toNat a24) (Sum.inl 2))))
   else
   (lkI x1 s3.2.1).bind fun a29 =>
   (lkL s3.2.2 a29).bind fun a31 =>
   some (.next (zw (s3.1*(zw (2+(zw (Int.tmod 0 2))))),zw (s3.2.1+1),(List.set s3.2.2 (Int.toNat a29) (Sum.inl (zw (2+(zw (Int.tmod 0 2))))))))
  else none
 else
 some (.done s3.2.2)
def Yw (s36:(Int × (List (Int ⊕ Ad)))) (x1:(List Int)) (s55:(Int × (List Int))) (a49:Q0) (s58:(Int × (List Int))):Option (Qh (Int × (List Int)) (List Int)) :=
 if (decide (s58.1 < s36.1))=true then
  (lkI x1 s58.1).bind fun a61 =>
  if (a61==s55.1)=true then
   if 0<=(zv (s58.1)) then
    if ((IntKind.u8.wrap (BitVec.ofInt (IntKind.bits .u8) (Int.fdiv a49.Parents (2^min (Int.toNat (zv (s58.1))) (IntKind.bits .u8))) &&& BitVec.ofInt (IntKind.bits .u8) 1).toNat)==1)=true then
     if (decide ((s58.2.length:Int) < 3))=true then
      if (s58.2++([s55.1]:(List Int))).length*8<=140737488355328 then
       some (.next (zw (s58.1+1),(s58.2++([s55.1]:(List Int)))))
      else none
     else
     some (.next (zw (s58.1+1),s58.2))
    else
    some (.next (zw (s58.1+1),s58.2))
   else none
  else
  some (.next (zw (s58.1+1),s58.2))
 else
 some (.done s58.2)
def Xw (p0:Qe) (s36:(Int × (List (Int ⊕ Ad)))) (x1:(List Int)) (a49:Q0) (s55:(Int × (List Int))):Option (Qh (Int × (List Int)) (List Int)) :=
 if (decide (s55.1 < (if 5 < (if 1 > (p0.Nodes.length:Int) then 1 else (p0.Nodes.length:Int)) then 5 else (if 1 > (p0.Nodes.length:Int) then 1 else (p0.Nodes.length:Int)))))=true then
  (Qc fuel (Yw s36 x1 s55 a49) (0,s55.2)).bind fun x70 =>
  some (.next (zw (s55.1+1),x70))
 else
 some (.done s55.2)
def Y0 (p0:Qe) (s36:(Int × (List (Int ⊕ Ad)))) (a51:Int) (a53:Int) (x72:(List Int)) (a49:Q0) (s73:(Int × (List (List Int)))):Option (Qh (Int × (List (List Int))) (List (List Int))) :=
 (Xh (Qd.mk (zw (1+(zw (Int.tmod p0.Grain 60)))) (List.set (List.map Ai s36.2) (Int.toNat a51) (Ad.mk a53 x72 s73.2))) a51).bind fun x74 =>
 (Qaj x74).bind fun x76 =>
 if (decide (s73.1 < x76))=true then
  (Qbf (zw (1+(zw (Int.tmod p0.Grain 60)))) a53 a49.W (zw (s73.1*(zw (a53+1))))).bind fun x80 =>
  if (s73.2++([x80]:(List (List Int)))).length*24<=140737488355328 then
   some (.next (zw (s73.1+1),(s73.2++([x80]:(List (List Int))))))
  else none
 else
 some (.done s73.2)
def Qjd (s36:(Int × (List (Int ⊕ Ad)))) (x1:(List Int)) (s90:(Int × (List Int))) (s93:(Int × (List Int))):Option (Qh (Int × (List Int)) (List Int)) :=
 if (decide (s93.1 < s36.1))=true then
  (lkI x1 s93.1).bind fun a96 =>
  if (a96==s90.1)=true then
   if 0<=(zv (s93.1)) then
    if ((IntKind.u8.wrap (BitVec.ofInt (IntKind.bits .u8) (Int.fdiv 0 (2^min (Int.toNat (zv (s93.1))) (IntKind.bits .u8))) &&& BitVec.ofInt (IntKind.bits .u8) 1).toNat)==1)=true then
     if (decide ((s93.2.length:Int) < 3))=true then
      if (s93.2++([s90.1]:(List Int))).length*8<=140737488355328 then
       some (.next (zw (s93.1+1),(s93.2++([s90.1]:(List Int)))))
      else none
     else
     some (.next (zw (s93.1+1),s93.2))
    else
    some (.next (zw (s93.1+1),s93.2))
   else none
  else
  some (.next (zw (s93.1+1),s93.2))
 else
 some (.done s93.2)
def Qdd (p0:Qe) (s36:(Int × (List (Int ⊕ Ad)))) (x1:(List Int)) (s90:(Int × (List Int))):Option (Qh (Int × (List Int)) (List Int)) :=
 if (decide (s90.1 < (if 5 < (if 1 > (p0.Nodes.length:Int) then 1 else (p0.Nodes.length:Int)) then 5 else (if 1 > (p0.Nodes.length:Int) then 1 else (p0.Nodes.length:Int)))))=true then
  (Qc fuel (Qjd s36 x1 s90) (0,s90.2)).bind fun x105 =>
  some (.next (zw (s90.1+1),x105))
 else
 some (.done s90.2)
def Qj8 (p0:Qe) (s36:(Int × (List (Int ⊕ Ad)))) (a86:Int) (a88:Int) (x107:(List Int)) (s108:(Int × (List (List Int)))):Option (Qh (Int × (List (List Int))) (List (List Int))) :=
 (Xh (Qd.mk (zw (1+(zw (Int.tmod p0.Grain 60)))) (List.set (List.map Ai s36.2) (Int.toNat a86) (Ad.mk a88 x107 s108.2))) a86).bind fun x109 =>
 (Qaj x109).bind fun x111 =>
 if (decide (s108.1 < x111))=true then
  (Qbf (zw (1+(zw (Int.tmod p0.Grain 60)))) a88 [] (zw (s108.1*(zw (a88+1))))).bind fun x115 =>
  if (s108.2++([x115]:(List (List Int)))).length*24<=140737488355328 then
   some (.next (zw (s108.1+1),(s108.2++([x115]:(List (List Int))))))
  else none
 else
 some (.done s108.2)
def Yr (p0:Qe) (x1:(List Int)) (s36:(Int × (List (Int ⊕ Ad)))):Option (Qh (Int × (List (Int ⊕ Ad))) (List (Int ⊕ Ad))) :=
 if (decide (s36.1 < (if 5 < (if 1 > (p0.Nodes.length:Int) then 1 else (p0.Nodes.length:Int)) then 5 else (if 1 > (p0.Nodes.length:Int) then 1 else (p0.Nodes.length:Int)))))=true then
  if (decide (s36.1 < (p0.Nodes.length:Int)))=true then
   (lkI p0.Nodes s36.1).bind fun a49 =>
   (lkI x1 s36.1).bind fun a51 =>
   (lkL s36.2 a51).bind fun a53 =>
   (Qc fuel (Xw p0 s36 x1 a49) (0,([]:(List Int)))).bind fun x72 =>
   (Qc fuel (Y0 p0 s36 a51 a53 x72 a49) (0,([]:(List (List Int))))).bind fun x83 =>
   some (.next (zw (s36.1+1),(List.set s36.2 (Int.toNat a51) (Sum.inr (Ad.mk a53 x72 x83)))))
  else
  (lkI x1 s36.1).bind fun a86 =>
  (lkL s36.2 a86).bind fun a88 =>
  (Qc fuel (Qdd p0 s36 x1) (0,([]:(List Int)))).bind fun x107 =>
  (Qc fuel (Qj8 p0 s36 a86 a88 x107) (0,([]:(List (List Int))))).bind fun x118 =>
  some (.next (zw (s36.1+1),(List.set s36.2 (Int.toNat a86) (Sum.inr (Ad.mk a88 x107 x118)))))
 else
 some (.done s36.2)
def Kc (p0:Qe):Option Qd :=
 if 0<=(if 5 < (if 1 > (p0.Nodes.length:Int) then 1 else (p0.Nodes.length:Int)) then 5 else (if 1 > (p0.Nodes.length:Int) then 1 else (p0.Nodes.length:Int)))/\(if 5 < (if 1 > (p0.Nodes.length:Int) then 1 else (p0.Nodes.length:Int)) then 5 else (if 1 > (p0.Nodes.length:Int) then 1 else (p0.Nodes.length:Int)))<=(if 5 < (if 1 > (p0.Nodes.length:Int) then 1 else (p0.Nodes.length:Int)) then 5 else (if 1 > (p0.Nodes.length:Int) then 1 else (p0.Nodes.length:Int)))/\(if 5 < (if 1 > (p0.Nodes.length:Int) then 1 else (p0.Nodes.length:Int)) then 5 else (if 1 > (p0.Nodes.length:Int) then 1 else (p0.Nodes.length:Int)))*56<=140737488355328 then
  if 0<=(if 5 < (if 1 > (p0.Nodes.length:Int) then 1 else (p0.Nodes.length:Int)) then 5 else (if 1 > (p0.Nodes.length:Int) then 1 else (p0.Nodes.length:Int)))/\(if 5 < (if 1 > (p0.Nodes.length:Int) then 1 else (p0.Nodes.length:Int)) then 5 else (if 1 > (p0.Nodes.length:Int) then 1 else (p0.Nodes.length:Int)))<=(if 5 < (if 1 > (p0.Nodes.length:Int) then 1 else (p0.Nodes.length:Int)) then 5 else (if 1 > (p0.Nodes.length:Int) then 1 else (p0.Nodes.length:Int)))/\(if 5 < (if 1 > (p0.Nodes.length:Int) then 1 else (p0.Nodes.length:Int)) then 5 else (if 1 > (p0.Nodes.length:Int) then 1 else (p0.Nodes.length:Int)))*1<=140737488355328 then
   (Yo (Ae.mk (List.replicate (Int.toNat (if 5 < (if 1 > (p0.Nodes.length:Int) then 1 else (p0.Nodes.length:Int)) then 5 else (if 1 > (p0.Nodes.length:Int) then 1 else (p0.Nodes.length:Int)))) (0:Int)) 0 p0.Order)).bind fun x1 =>
   (Qc fuel (Yx p0 x1) (1,0,(List.replicate (Int.toNat (if 5 < (if 1 > (p0.Nodes.length:Int) then 1 else (p0.Nodes.length:Int)) then 5 else (if 1 > (p0.Nodes.length:Int) then 1 else (p0.Nodes.length:Int)))) ((Sum.inl 0):(Int ⊕ Ad))))).bind fun x35 =>
   (Qc fuel (Yr p0 x1) (0,x35)).bind fun x122 =>
   (alr x122).bind fun m123 =>
   some (Qd.mk (zw (1+(zw (Int.tmod p0.Grain 60)))) m123)
  else none
 else none
def Jd (p1:Qd) (p0:Af) (s1:(Int × (List Int))):Option (Qh (Int × (List Int)) (List Int)) :=
 if (decide (s1.1 < (p1.Nodes.length:Int)))=true then
  if 0<=(zv (s1.1)) then
   if ((IntKind.u8.wrap (BitVec.ofInt (IntKind.bits .u8) (Int.fdiv p0.Which (2^min (Int.toNat (zv (s1.1))) (IntKind.bits .u8))) &&& BitVec.ofInt (IntKind.bits .u8) 1).toNat)==1)=true then
    if s1.1=0 then
     (lkI p1.Nodes 0).bind fun a7 =>
     if a7.Card≠0 then
      if (s1.2++([Int.tmod (zw (p0.V.1)) a7.Card]:(List Int))).length*8<=140737488355328 then
       some (.next (1,(s1.2++([Int.tmod (zw (p0.V.1)) a7.Card]:(List Int)))))
      else none
     else none
    else
    if s1.1=1 then
     (lkI p1.Nodes 1).bind fun a10 =>
     if a10.Card≠0 then
      if (s1.2++([Int.tmod (zw (p0.V.2.1)) a10.Card]:(List Int))).length*8<=140737488355328 then
       some (.next (2,(s1.2++([Int.tmod (zw (p0.V.2.1)) a10.Card]:(List Int)))))
      else none
     else none
    else
    if s1.1=2 then
     (lkI p1.Nodes 2).bind fun a13 =>
     if a13.Card≠0 then
      if (s1.2++([Int.tmod (zw (p0.V.2.2.1)) a13.Card]:(List Int))).length*8<=140737488355328 then
       some (.next (3,(s1.2++([Int.tmod (zw (p0.V.2.2.1)) a13.Card]:(List Int)))))
      else none
     else none
    else
    if s1.1=3 then
     (lkI p1.Nodes 3).bind fun a16 =>
     if a16.Card≠0 then
      if (s1.2++([Int.tmod (zw (p0.V.2.2.2.1)) a16.Card]:(List Int))).length*8<=140737488355328 then
       some (.next (4,(s1.2++([Int.tmod (zw (p0.V.2.2.2.1)) a16.Card]:(List Int)))))
      else none
     else none
    else
    if s1.1=4 then
     (lkI p1.Nodes 4).bind fun a19 =>
     if a19.Card≠0 then
      if (s1.2++([Int.tmod (zw (p0.V.2.2.2.2.1)) a19.Card]:(List Int))).length*8<=140737488355328 then
       some (.next (5,(s1.2++([Int.tmod (zw (p0.V.2.2.2.2.1)) a19.Card]:(List Int)))))
      else none
     else none
    else
    if s1.1=5 then
     (lkI p1.Nodes 5).bind fun a22 =>
     if a22.Card≠0 then
      if (s1.2++([Int.tmod (zw (p0.V.2.2.2.2.2.1)) a22.Card]:(List Int))).length*8<=140737488355328 then
       some (.next (6,(s1.2++([Int.tmod (zw (p0.V.2.2.2.2.2.1)) a22.Card]:(List Int)))))
      else none
     else none
    else
    if s1.1=6 then
     (lkI p1.Nodes 6).bind fun a25 =>
     if a25.Card≠0 then
      if (s1.2++([Int.tmod (zw (p0.V.2.2.2.2.2.2.1)) a25.Card]:(List Int))).length*8<=140737488355328 then
       some (.next (7,(s1.2++([Int.tmod (zw (p0.V.2.2.2.2.2.2.1)) a25.Card]:(List Int)))))
      else none
     else none
    else
    if s1.1=7 then
     (lkI p1.Nodes 7).bind fun a28 =>
     if a28.Card≠0 then
      if (s1.2++([Int.tmod (zw (p0.V.2.2.2.2.2.2.2)) a28.Card]:(List Int))).length*8<=140737488355328 then
       some (.next (8,(s1.2++([Int.tmod (zw (p0.V.2.2.2.2.2.2.2)) a28.Card]:(List Int)))))
      else none
     else none
    else
    none
   else
   if (s1.2++([-1]:(List Int))).length*8<=140737488355328 then
    some (.next (zw (s1.1+1),(s1.2++([-1]:(List Int)))))
   else none
  else none
 else
 some (.done s1.2)
def Yj (p0:Af) (p1:Qd):Option (List Int) :=
 (Qc fuel (Jd p1 p0) (0,([]:(List Int)))).bind fun x31 =>
 some x31
def Qaa (p0:Int):Option Bool :=
 some (p0 != p0)
def Qax (p0:Int) (p1:Int):Option Bool :=
 (Qaa p0).bind fun x1 =>
 if x1=true then
  (Qaa p1).bind fun x5 =>
  if (!x5)=true then
   some true
  else
  some (decide (p0 < p1))
 else
 some (decide (p0 < p1))
def Ju (p0:Int):Option Bool :=
 some (p0 != p0)
def Yg (p0:(List Int)) (p1:Int) (s1:(Int × Int)):Option (Qh (Int × Int) Int) :=
 if (decide (s1.1 < s1.2))=true then
  (lkI p0 (zw (Int.fdiv (zv (zw (s1.1+s1.2))) (2^min (Int.toNat 1) zk)))).bind fun a4 =>
  (Qax a4 p1).bind fun x6 =>
  if x6=true then
   some (.next (zw ((zw (Int.fdiv (zv (zw (s1.1+s1.2))) (2^min (Int.toNat 1) zk)))+1),s1.2))
  else
  some (.next (s1.1,zw (Int.fdiv (zv (zw (s1.1+s1.2))) (2^min (Int.toNat 1) zk))))
 else
 some (.done s1.1)
def Xq (p0:(List Int)) (p1:Int):Option (Int × Bool) :=
 (Qc fuel (Yg p0 p1) (0,(p0.length:Int))).bind fun x11 =>
 if (decide (x11 < (p0.length:Int)))=true then
  (lkI p0 x11).bind fun a14 =>
  if (a14==p1)=true then
   some (x11,true)
  else
  (Ju a14).bind fun x18 =>
  if x18=true then
   (Ju p1).bind fun x22 =>
   some (x11,x22)
  else
  some (x11,false)
 else
 some (x11,false)
def Ys (c0:Int) (d0:(List Int)):Option (List Int) :=
 if (c0::d0).length*8<=140737488355328 then
  some (c0::d0)
 else none
def Jc  : Option (List Int) :=
 some ([]:(List Int))
def V7  : Option (List Int) :=
 some ([]:(List Int))
def Zv (p0:(List Int)):Option (List Int) :=
 match p0 with
 | []=>(V7).bind fun x=>(Jc).bind fun y=>if x=y then some x else none
 | c0::d0=>Ys c0 d0
def X3 (x7:(List Int)) (p0:Qz) (x3:(Int × Bool)) (s8:(Int × Int × (List Int))):Option (Qh (Int × Int × (List Int)) (Int × (List Int))) :=
 if (decide (s8.1 < (x7.length:Int)))=true then
  (lkI x7 s8.1).bind fun a11 =>
  (lkI p0.cards a11).bind fun a13 =>
  if (s8.2.2++([a13]:(List Int))).length*8<=140737488355328 then
   if (decide (s8.1 > x3.1))=true then
    some (.next (zw (s8.1+1),zw (s8.2.1*a13),(s8.2.2++([a13]:(List Int)))))
   else
   some (.next (zw (s8.1+1),s8.2.1,(s8.2.2++([a13]:(List Int)))))
  else none
 else
 some (.done (s8.2.1,s8.2.2))
def X1 (a22:(List Int)) (x18:(Int × (List Int))) (s19:(Int × (List Int))) (a1:Ad) (s24:(Int × (List Int))):Option (Qh (Int × (List Int)) (List Int)) :=
 if (decide (s24.1 < (a22.length:Int)))=true then
  (lkI a22 s24.1).bind fun a27 =>
  if x18.1≠0 then
   if x18.1≠0 then
    (lkI s24.2 (zw ((zw ((zw ((zw ((zw (Int.tdiv s19.1 x18.1))*a1.Card))+s24.1))*x18.1))+(Int.tmod s19.1 x18.1)))).bind fun a29 =>
    (lkI s24.2 (zw ((zw ((zw ((zw ((zw (Int.tdiv s19.1 x18.1))*a1.Card))+s24.1))*x18.1))+(Int.tmod s19.1 x18.1)))).bind fun a31 =>
    some (.next (zw (s24.1+1),(List.set s24.2 (Int.toNat (zw ((zw ((zw ((zw ((zw (Int.tdiv s19.1 x18.1))*a1.Card))+s24.1))*x18.1))+(Int.tmod s19.1 x18.1)))) a27)))
   else none
  else none
 else
 some (.done s24.2)
def X2 (a1:Ad) (x18:(Int × (List Int))) (s19:(Int × (List Int))):Option (Qh (Int × (List Int)) (List Int)) :=
 if (decide (s19.1 < (a1.Rows.length:Int)))=true then
  (lkI a1.Rows s19.1).bind fun a22 =>
  (Qc fuel (X1 a22 x18 s19 a1) (0,s19.2)).bind fun x35 =>
  some (.next (zw (s19.1+1),x35))
 else
 some (.done s19.2)
def Yz (p0:Qz) (p1:Int):Option Qw :=
 (lkI p0.Net.Nodes p1).bind fun a1 =>
 (Xq a1.Parents p1).bind fun x3 =>
 (Zv a1.Parents).bind fun x5 =>
 (Qqk x5 x3.1 p1).bind fun x7 =>
 (Qc fuel (X3 x7 p0 x3) (0,1,([]:(List Int)))).bind fun x18 =>
 if 0<=(zw ((a1.Rows.length:Int)*a1.Card))/\(zw ((a1.Rows.length:Int)*a1.Card))<=(zw ((a1.Rows.length:Int)*a1.Card))/\(zw ((a1.Rows.length:Int)*a1.Card))*8<=140737488355328 then
  (Qc fuel (X2 a1 x18) (0,(List.replicate (Int.toNat (zw ((a1.Rows.length:Int)*a1.Card))) (0:Int)))).bind fun x37 =>
  some (Qw.mk x7 x18.2 x37)
 else none
def Km (x1:(Qz × Int)) (s5:(Int × (List Qw))):Option (Qh (Int × (List Qw)) (List Qw)) :=
 if (decide (s5.1 < (((List.replicate (Int.toNat (x1.1.Net.Nodes.length:Int)) ((Qw.mk [] [] []):Qw)).length):Int)))=true then
  (Yz x1.1 s5.1).bind fun x8 =>
  (lkI s5.2 s5.1).bind fun a10 =>
  some (.next (zw (s5.1+1),(List.set s5.2 (Int.toNat s5.1) x8)))
 else
 some (.done s5.2)
def Qbn (p0:Qd):Option ((List Qw) × Int) :=
 (Jq p0).bind fun x1 =>
 if (x1.2 != 0)=true then
  some (([]:(List Qw)),x1.2)
 else
 if 0<=(x1.1.Net.Nodes.length:Int)/\(x1.1.Net.Nodes.length:Int)<=(x1.1.Net.Nodes.length:Int)/\(x1.1.Net.Nodes.length:Int)*72<=140737488355328 then
  (Qc fuel (Km x1) (0,(List.replicate (Int.toNat (x1.1.Net.Nodes.length:Int)) ((Qw.mk [] [] []):Qw)))).bind fun x14 =>
  some (x14,0)
 else none
def Qar (p1:(List (List Int))) (p0:Qd) (s5:Int):Option (Qh Int (Int ⊕ Unit)) :=
 if (decide (s5 < (p1.length:Int)))=true then
  (lkI p1 s5).bind fun a8 =>
  (Z1 p0 a8).bind fun x10 =>
  if (x10 != 0)=true then
   some (.done (Sum.inl x10))
  else
  some (.next (zw (s5+1)))
 else
 some (.done (Sum.inr ()))
def Qa0 (s17:(Int × (List (List Int)))) (a20:Qw) (s25:(Int × Int × (List (List Int)))):Option (Qh (Int × Int × (List (List Int))) (List (List Int))) :=
 if (decide (s25.2.1>=0))=true then
  (lkI s25.2.2 s17.1).bind fun a28 =>
  (lkI a20.Vars s25.2.1).bind fun a30 =>
  (lkI a28 a30).bind fun a32 =>
  (lkI a20.Cards s25.2.1).bind fun a34 =>
  some (.next (zw (s25.1*a34),zw (s25.2.1 - 1),(List.set s25.2.2 (Int.toNat s17.1) (List.set a28 (Int.toNat a30) s25.1))))
 else
 some (.done s25.2.2)
def Kf (x1:((List Qw) × Int)) (p0:Qd) (s17:(Int × (List (List Int)))):Option (Qh (Int × (List (List Int))) (List (List Int))) :=
 if (decide (s17.1 < (x1.1.length:Int)))=true then
  (lkI x1.1 s17.1).bind fun a20 =>
  if 0<=(p0.Nodes.length:Int)/\(p0.Nodes.length:Int)<=(p0.Nodes.length:Int)/\(p0.Nodes.length:Int)*8<=140737488355328 then
   (lkI s17.2 s17.1).bind fun a22 =>
   (Qc fuel (Qa0 s17 a20) (1,zw ((a20.Vars.length:Int) - 1),(List.set s17.2 (Int.toNat s17.1) (List.replicate (Int.toNat (p0.Nodes.length:Int)) (0:Int))))).bind fun x38 =>
   some (.next (zw (s17.1+1),x38))
  else none
 else
 some (.done s17.2)
def Qd8 (p0:Qd) (p1:(List (List Int))):Option (Q5 × Int) :=
 (Qbn p0).bind fun x1 =>
 if (x1.2 != 0)=true then
  some ((Q5.mk (Qd.mk 0 []) [] []),x1.2)
 else
 (Qc fuel (Qar p1 p0) 0).bind fun x14=>match x14 with
 | .inl x15=>(
  some ((Q5.mk (Qd.mk 0 []) [] []),x15))
 | .inr x16=>(
  if 0<=(x1.1.length:Int)/\(x1.1.length:Int)<=(x1.1.length:Int)/\(x1.1.length:Int)*24<=140737488355328 then
   (Qc fuel (Kf x1 p0) (0,(List.replicate (Int.toNat (x1.1.length:Int)) ([]:(List Int))))).bind fun x40 =>
   some ((Q5.mk p0 x1.1 x40),0)
  else none)
def Z7 (p1:(List Int)) (p0:(List Int)) (s1:Int):Option (Qh Int Bool) :=
 if (decide (s1 < (p1.length:Int)))=true then
  (lkI p1 s1).bind fun a4 =>
  if (a4==(-1))=true then
   some (.next (zw (s1+1)))
  else
  (lkI p0 s1).bind fun a8 =>
  if (a4==a8)=true then
   some (.next (zw (s1+1)))
  else
  some (.done false)
 else
 some (.done true)
def Jx (p0:(List Int)) (p1:(List Int)):Option Bool :=
 (Qc fuel (Z7 p1 p0) 0).bind fun x13 =>
 some x13
def Xe (a4:Qw) (p1:(List Int)) (p0:Q5) (s1:(Int × Int)) (s6:(Int × Int)):Option (Qh (Int × Int) Int) :=
 if (decide (s6.2 < (a4.Vars.length:Int)))=true then
  (lkI a4.Vars s6.2).bind fun a9 =>
  (lkI p1 a9).bind fun a11 =>
  (lkI p0.steps s1.2).bind fun a13 =>
  (lkI a13 a9).bind fun a15 =>
  some (.next (zw (s6.1+(zw (a11*a15))),zw (s6.2+1)))
 else
 some (.done s6.1)
def Yf (p0:Q5) (p1:(List Int)) (s1:(Int × Int)):Option (Qh (Int × Int) Int) :=
 if (decide (s1.2 < (p0.factors.length:Int)))=true then
  (lkI p0.factors s1.2).bind fun a4 =>
  (Qc fuel (Xe a4 p1 p0 s1) (0,0)).bind fun x18 =>
  (lkI a4.W x18).bind fun a19 =>
  some (.next (zw (s1.1*a19),zw (s1.2+1)))
 else
 some (.done s1.1)
def Y6 (p0:Q5) (p1:(List Int)):Option Int :=
 (Qc fuel (Yf p0 p1) (1,0)).bind fun x22 =>
 some x22
def Y3 (s9:(Int × Int × (List (Ag × Int)) × (List Int))) (x14:Int) (s16:(Int × (List (Ag × Int)))):Option (Qh (Int × (List (Ag × Int))) (List (Ag × Int))) :=
 if (decide (s16.1 < (s9.2.2.2.length:Int)))=true then
  (lkI s9.2.2.2 s16.1).bind fun a19 =>
  some (.next (zw (s16.1+1),kput Ap s16.2 (Ag.mk s16.1 a19) (zw (((kget Ap s16.2 (Ag.mk s16.1 a19)).getD 0)+x14))))
 else
 some (.done s16.2)
def Qcw (x1:(Q5 × Int)) (s23:(Int × (List Int))):Option (Qh (Int × (List Int)) (Int × (List Int))) :=
 if (decide (s23.1>=0))=true then
  (lkI s23.2 s23.1).bind fun a26 =>
  (lkI x1.1.Net.Nodes s23.1).bind fun a28 =>
  if (a26==(zw (a28.Card - 1)))=true then
   some (.next (zw (s23.1 - 1),(List.set s23.2 (Int.toNat s23.1) 0)))
  else
  some (.done (s23.1,s23.2))
 else
 some (.done (s23.1,s23.2))
def Qc0 (x1:(Q5 × Int)) (s40:(Int × (List Int))):Option (Qh (Int × (List Int)) (Int × (List Int))) :=
 if (decide (s40.1>=0))=true then
  (lkI s40.2 s40.1).bind fun a43 =>
  (lkI x1.1.Net.Nodes s40.1).bind fun a45 =>
  if (a43==(zw (a45.Card - 1)))=true then
   some (.next (zw (s40.1 - 1),(List.set s40.2 (Int.toNat s40.1) 0)))
  else
  some (.done (s40.1,s40.2))
 else
 some (.done (s40.1,s40.2))
def Vx (p1:(List Int)) (x1:(Q5 × Int)) (s9:(Int × Int × (List (Ag × Int)) × (List Int))):Option (Qh (Int × Int × (List (Ag × Int)) × (List Int)) (Int × (List (Ag × Int)))) :=
 (Jx s9.2.2.2 p1).bind fun x10 =>
 if x10=true then
  (Y6 x1.1 s9.2.2.2).bind fun x14 =>
  (Qc fuel (Y3 s9 x14) (0,s9.2.2.1)).bind fun x22 =>
  (Qc fuel (Qcw x1) (zw ((s9.2.2.2.length:Int) - 1),s9.2.2.2)).bind fun x34 =>
  if (decide (x34.1 < 0))=true then
   some (.done (zw (s9.2.1+x14),x22))
  else
  (lkI x34.2 x34.1).bind fun a37 =>
  some (.next (zw (s9.1+1),zw (s9.2.1+x14),x22,(List.set x34.2 (Int.toNat x34.1) (zw (a37+1)))))
 else
 (Qc fuel (Qc0 x1) (zw ((s9.2.2.2.length:Int) - 1),s9.2.2.2)).bind fun x51 =>
 if (decide (x51.1 < 0))=true then
  some (.done (s9.2.1,s9.2.2.1))
 else
 (lkI x51.2 x51.1).bind fun a54 =>
 some (.next (zw (s9.1+1),s9.2.1,s9.2.2.1,(List.set x51.2 (Int.toNat x51.1) (zw (a54+1)))))
def V1 (a61:Ad) (x58:(Int × (List (Ag × Int)))) (p2:Int) (s63:(Int × (List Qm))):Option (Qh (Int × (List Qm)) (Int ⊕ (List Qm))) :=
 if (decide (s63.1 < (((List.replicate (Int.toNat a61.Card) ((Qm.mk 0 0):Qm)).length):Int)))=true then
  (J2 ((kget Ap x58.2 (Ag.mk p2 s63.1)).getD 0) x58.1).bind fun x66 =>
  if (x66.2 != 0)=true then
   some (.done (Sum.inl x66.2))
  else
  (lkI s63.2 s63.1).bind fun a70 =>
  some (.next (zw (s63.1+1),(List.set s63.2 (Int.toNat s63.1) x66.1)))
 else
 some (.done (Sum.inr s63.2))
def X4 (p0:Qd) (p1:(List Int)) (p2:Int):Option ((List Qm) × Int) :=
 (Qd8 p0 [p1]).bind fun x1 =>
 if (x1.2 != 0)=true then
  some (([]:(List Qm)),x1.2)
 else
 if (decide (p2 < 0))=true then
  some (([]:(List Qm)),2)
 else
 if (decide (p2>=(x1.1.Net.Nodes.length:Int)))=true then
  some (([]:(List Qm)),2)
 else
 if 0<=(x1.1.Net.Nodes.length:Int)/\(x1.1.Net.Nodes.length:Int)<=(x1.1.Net.Nodes.length:Int)/\(x1.1.Net.Nodes.length:Int)*8<=140737488355328 then
  (Qc fuel (Vx p1 x1) (0,0,[],(List.replicate (Int.toNat (x1.1.Net.Nodes.length:Int)) (0:Int)))).bind fun x58 =>
  if (x58.1==0)=true then
   some (([]:(List Qm)),7)
  else
  (lkI x1.1.Net.Nodes p2).bind fun a61 =>
  if 0<=a61.Card/\a61.Card<=a61.Card/\a61.Card*16<=140737488355328 then
   (Qc fuel (V1 a61 x58 p2) (0,(List.replicate (Int.toNat a61.Card) ((Qm.mk 0 0):Qm)))).bind fun x73=>match x73 with
   | .inl x74=>(
    some (([]:(List Qm)),x74))
   | .inr x75=>(
    some (x75,0))
  else none
 else none
def Ko (p0:(List Int)) (s1:(Int × Int)) (r2:((Int × Int)->Option Int)) (s4:(Int × Int)):Option (Qh (Int × Int) Int) :=
 if (decide (s4.1 < (p0.length:Int)))=true then
  if 0<=s4.1 then
   if ((zv (zb (Int.fdiv (zv (zb s1.1 &&& ~~~ zb s4.2).toNat) (2^min (Int.toNat s4.1) zk)) &&& zb 1).toNat)==1)=true then
    if 0<=s4.1 then
     (lkI p0 s4.1).bind fun a9 =>
     (r2 (a9,zv (zb s4.2 ||| zb (zv (1*2^min (Int.toNat s4.1) zk))).toNat)).bind fun x11 =>
     some (.next (zw (s4.1+1),x11))
    else none
   else
   some (.next (zw (s4.1+1),s4.2))
  else none
 else
 some (.done s4.2)
def Qb1 (p0:(List Int)) (r2:((Int × Int)->Option Int)) (s1:(Int × Int)):Option Int :=
 (Qc fuel (Ko p0 s1 r2) (0,s1.2)).bind fun x13 =>
 some x13
def Qbq (p0:(List Int)) (p1:Int):Option Int :=
 (Qa7 (Qb1 p0) fuel (p1,0)).bind fun x14 =>
 some x14
def Y2 (s7:(Int × (List Int))) (a10:Int) (s12:(Int × (List Int))):Option (Qh (Int × (List Int)) (List Int)) :=
 if (decide (s12.1 < (s7.2.length:Int)))=true then
  (lkI s12.2 s12.1).bind fun a15 =>
  if 0<=s12.1 then
   if 0<=s7.1 then
    some (.next (zw (s12.1+1),(List.set s12.2 (Int.toNat s12.1) (zv (zb a15 ||| zb (zv ((zv (zb (Int.fdiv a10 (2^min (Int.toNat s12.1) zk)) &&& zb 1).toNat)*2^min (Int.toNat s7.1) zk))).toNat))))
   else none
  else none
 else
 some (.done s12.2)
def Yy (x1:(Qz × Int)) (s7:(Int × (List Int))):Option (Qh (Int × (List Int)) (List Int)) :=
 if (decide (s7.1 < (x1.1.sets.length:Int)))=true then
  (lkI x1.1.sets s7.1).bind fun a10 =>
  (Qc fuel (Y2 s7 a10) (0,s7.2)).bind fun x19 =>
  some (.next (zw (s7.1+1),x19))
 else
 some (.done s7.2)
def Vt (p0:Qd) (p1:Int):Option (Int × Int) :=
 (Jq p0).bind fun x1 =>
 if (x1.2 != 0)=true then
  some (0,x1.2)
 else
 if 0<=(x1.1.Net.Nodes.length:Int) then
  if ((Int.fdiv p1 (2^min (Int.toNat (x1.1.Net.Nodes.length:Int)) zk)) != 0)=true then
   some (0,2)
  else
  if 0<=(x1.1.sets.length:Int)/\(x1.1.sets.length:Int)<=(x1.1.sets.length:Int)/\(x1.1.sets.length:Int)*8<=140737488355328 then
   (Qc fuel (Yy x1) (0,(List.replicate (Int.toNat (x1.1.sets.length:Int)) (0:Int)))).bind fun x21 =>
   (Qbq x21 p1).bind fun x22 =>
   some (x22,0)
  else none
 else none
def Y9 (x7:(List Int)) (x5:Qd) (s9:(Int × Int × (List Int) × (List Int))):Option (Qh (Int × Int × (List Int) × (List Int)) (Int × (List Int) × (List Int))) :=
 if (decide (s9.2.1 < (x7.length:Int)))=true then
  (lkI x7 s9.2.1).bind fun a12 =>
  (lkI s9.2.2.2 s9.2.1).bind fun a14 =>
  (lkI s9.2.2.1 s9.2.1).bind fun a16 =>
  (lkI x5.Nodes s9.2.1).bind fun a18 =>
  if ((a18.Parents.length:Int)==0)=true then
   if (decide (a12>=0))=true then
    if 0<=s9.2.1 then
     some (.next (zv (zb s9.1 ||| zb (zv (1*2^min (Int.toNat s9.2.1) zk))).toNat,zw (s9.2.1+1),(List.set s9.2.2.1 (Int.toNat s9.2.1) (-1)),(List.set (List.set s9.2.2.2 (Int.toNat s9.2.1) (-1)) (Int.toNat s9.2.1) a12)))
    else none
   else
   some (.next (s9.1,zw (s9.2.1+1),(List.set s9.2.2.1 (Int.toNat s9.2.1) (-1)),(List.set (List.set s9.2.2.2 (Int.toNat s9.2.1) (-1)) (Int.toNat s9.2.1) a12)))
  else
  if (decide (a12>=0))=true then
   if 0<=s9.2.1 then
    some (.next (zv (zb s9.1 ||| zb (zv (1*2^min (Int.toNat s9.2.1) zk))).toNat,zw (s9.2.1+1),(List.set s9.2.2.1 (Int.toNat s9.2.1) (-1)),(List.set s9.2.2.2 (Int.toNat s9.2.1) (-1))))
   else none
  else
  some (.next (s9.1,zw (s9.2.1+1),(List.set s9.2.2.1 (Int.toNat s9.2.1) (-1)),(List.set s9.2.2.2 (Int.toNat s9.2.1) (-1))))
 else
 some (.done (s9.1,s9.2.2.1,s9.2.2.2))
def Y7 (x31:(List Int)) (x30:(Int × (List Int) × (List Int))) (s33:(Int × (List Int))):Option (Qh (Int × (List Int)) (List Int)) :=
 if (decide (s33.1 < (x31.length:Int)))=true then
  (lkI x30.2.2 s33.1).bind fun a36 =>
  if (decide (a36>=0))=true then
   (lkI s33.2 s33.1).bind fun a40 =>
   some (.next (zw (s33.1+1),(List.set s33.2 (Int.toNat s33.1) a36)))
  else
  some (.next (zw (s33.1+1),s33.2))
 else
 some (.done s33.2)
def Qb5 (p0:Qe) (p1:Af) (p2:Af) (p3:Int):Option Bool :=
 (Qeu).bind fun x1 =>
 if (!x1)=true then
  some false
 else
 (Kc p0).bind fun x5 =>
 if (x5.Nodes.length:Int)≠0 then
  if 0<=(x5.Nodes.length:Int)/\(x5.Nodes.length:Int)<=(x5.Nodes.length:Int)/\(x5.Nodes.length:Int)*8<=140737488355328 then
   if 0<=(x5.Nodes.length:Int)/\(x5.Nodes.length:Int)<=(x5.Nodes.length:Int)/\(x5.Nodes.length:Int)*8<=140737488355328 then
    (Yj (Af.mk p1.Which (p1.V.1,p1.V.2.1,p1.V.2.2.1,p1.V.2.2.2.1,p1.V.2.2.2.2.1,p1.V.2.2.2.2.2.1,p1.V.2.2.2.2.2.2.1,p1.V.2.2.2.2.2.2.2)) x5).bind fun x7 =>
    (Qc fuel (Y9 x7 x5) (0,0,(List.replicate (Int.toNat (x5.Nodes.length:Int)) (0:Int)),(List.replicate (Int.toNat (x5.Nodes.length:Int)) (0:Int)))).bind fun x30 =>
    (Yj (Af.mk p2.Which (p2.V.1,p2.V.2.1,p2.V.2.2.1,p2.V.2.2.2.1,p2.V.2.2.2.2.1,p2.V.2.2.2.2.2.1,p2.V.2.2.2.2.2.2.1,p2.V.2.2.2.2.2.2.2)) x5).bind fun x31 =>
    (Qc fuel (Y7 x31 x30) (0,x31)).bind fun x44 =>
    (Yb x5 x30.2.2 x44 (Int.tmod (zw (p3)) (x5.Nodes.length:Int))).bind fun x45 =>
    (X4 x5 x44 (Int.tmod (zw (p3)) (x5.Nodes.length:Int))).bind fun x47 =>
    if (x47.2==0)=true then
     if (x45.2 != 0)=true then
      some false
     else
     (Ye x45.1 x47.1).bind fun x53 =>
     if (!x53)=true then
      some false
     else
     (Vt x5 x30.1).bind fun x58 =>
     if (x58.2 != 0)=true then
      some false
     else
     if 0<=(Int.tmod (zw (p3)) (x5.Nodes.length:Int)) then
      if ((zv (zb (Int.fdiv x58.1 (2^min (Int.toNat (Int.tmod (zw (p3)) (x5.Nodes.length:Int))) zk)) &&& zb 1).toNat)==1)=true then
       some true
      else
      (Yj (Af.mk p1.Which (p1.V.1,p1.V.2.1,p1.V.2.2.1,p1.V.2.2.2.1,p1.V.2.2.2.2.1,p1.V.2.2.2.2.2.1,p1.V.2.2.2.2.2.2.1,p1.V.2.2.2.2.2.2.2)) x5).bind fun x64 =>
      (Yb x5 x64 x30.2.1 (Int.tmod (zw (p3)) (x5.Nodes.length:Int))).bind fun x66 =>
      (X4 x5 x30.2.1 (Int.tmod (zw (p3)) (x5.Nodes.length:Int))).bind fun x68 =>
      if (x66.2==0)=true then
       if (x68.2==0)=true then
        (Ye x66.1 x68.1).bind fun x74 =>
        some x74
       else
       some false
      else
      some false
     else none
    else
    if (x47.2 != 7)=true then
     some false
    else
    (Vt x5 x30.1).bind fun x79 =>
    if (x79.2 != 0)=true then
     some false
    else
    if 0<=(Int.tmod (zw (p3)) (x5.Nodes.length:Int)) then
     if ((zv (zb (Int.fdiv x79.1 (2^min (Int.toNat (Int.tmod (zw (p3)) (x5.Nodes.length:Int))) zk)) &&& zb 1).toNat)==1)=true then
      some true
     else
     (Yj (Af.mk p1.Which (p1.V.1,p1.V.2.1,p1.V.2.2.1,p1.V.2.2.2.1,p1.V.2.2.2.2.1,p1.V.2.2.2.2.2.1,p1.V.2.2.2.2.2.2.1,p1.V.2.2.2.2.2.2.2)) x5).bind fun x85 =>
     (Yb x5 x85 x30.2.1 (Int.tmod (zw (p3)) (x5.Nodes.length:Int))).bind fun x87 =>
     (X4 x5 x30.2.1 (Int.tmod (zw (p3)) (x5.Nodes.length:Int))).bind fun x89 =>
     if (x87.2==0)=true then
      if (x89.2==0)=true then
       (Ye x87.1 x89.1).bind fun x95 =>
       some x95
      else
      some false
     else
     some false
    else none
   else none
  else none
 else none
end Go.Ab
