/- Functions. No conditions. -/
import Derived.Test.YtgogkahhifkocaaDoorEng10
set_option linter.all false
namespace Go.Ab
open Go
structure Ad where
 Card:Int
 Parents:(List Int)
 Rows:(List (List Int))
 deriving DecidableEq,Inhabited
@[reducible] def Ah (x:Ad):AV:=.agg [vI x.Card,eL true eI x.Parents,eL false (eL true eI) x.Rows]
@[reducible] def Al (x:Int ⊕ Ad):AV:=match x with | .inl c=>.agg [vI c,.nils,.nils] | .inr y=>Ah y
def Ag (x:Int ⊕ Ad):Ad:=match x with | .inl c=>⟨c,[],[]⟩ | .inr y=>y
structure Qc where
 Grain:Int
 Nodes:(List Ad)
 deriving DecidableEq,Inhabited
@[reducible] def Q0f (x:Qc):AV:=.agg [vI x.Grain,eL false Ah x.Nodes]
structure Q5 where
 Net:Qc
 cards:(List Int)
 sets:(List Int)
 order:(List Int)
 deriving DecidableEq,Inhabited
structure Q1 where
 N:Int
 D:Int
 deriving DecidableEq,Inhabited
@[reducible] def Ai (x:Q1):AV:=.agg [vI x.N,vI x.D]
structure Ac where
 parents:(List Int)
 deriving DecidableEq,Inhabited
structure Aa where
 sets:Ac
 deriving DecidableEq,Inhabited
structure Yq where
 parents:(List Int)
 deriving DecidableEq,Inhabited
structure Qx where
 ancestry:Yq
 children:(List Int)
 deriving DecidableEq,Inhabited
structure Af where
 node:Int
 down:Bool
 deriving DecidableEq,Inhabited
@[reducible] def Ak (x:Af):AV:=.agg [vI x.node,vB x.down]
@[reducible] def Am (a b:Af):Bool:=(a.node==b.node) && ((a.down==b.down) && true)
structure Ae where
 C:(List Int)
 Which:Int
 Order:(List Int)
 deriving DecidableEq,Inhabited
structure Qu where
 Card:Int
 Parents:Int
 W:(List Int)
 deriving DecidableEq,Inhabited
@[reducible] def Aj (x:Qu):AV:=.agg [.int .u8 x.Card,.int .u8 x.Parents,eL true (AV.int .u8) x.W]
structure Qd where
 Grain:Int
 Nodes:(List Qu)
 Order:(List Int)
 deriving DecidableEq,Inhabited
@[reducible] def eTharuspexref05_Draft (x:Qd):AV:=.agg [.int .u8 x.Grain,eL false Aj x.Nodes,eL true (AV.int .u8) x.Order]
structure Q9 where
 What : Int
 At:Int
 Row:Int
 N:Int
 deriving DecidableEq,Inhabited
@[reducible] def eTharuspexref05_Bend (x:Q9):AV:=.agg [.int .u8 x.What,.int .u8 x.At,.int .u8 x.Row,vI x.N]
def Va (p1:Ad) (p0:Q5) (s1:(Int × Int)):Option (Qe (Int × Int) Int) :=
 if (decide (s1.2 < (p1.Parents.length:Int)))=true then
  (lkI p1.Parents s1.2).bind fun a4 =>
  (lkI p0.cards a4).bind fun a6 =>
  some (.next (zw (s1.1*a6),zw (s1.2+1)))
 else
 some (.done s1.1)
def Zq (a15:(List Int)) (s17:(Int × Int)):Option (Qe (Int × Int) (Unit ⊕ Int)) :=
 if (decide (s17.2 < (a15.length:Int)))=true then
  (lkI a15 s17.2).bind fun a20 =>
  if (decide (a20 < 0))=true then
   some (.done (Sum.inl ()))
  else
  if (decide (a20 > s17.1))=true then
   some (.done (Sum.inl ()))
  else
  some (.next (zw (s17.1 - a20),zw (s17.2+1)))
 else
 some (.done (Sum.inr s17.1))
def X3 (p1:Ad) (p0:Q5) (s12:Int):Option (Qe Int (Unit ⊕ Unit)) :=
 if (decide (s12 < (p1.Rows.length:Int)))=true then
  (lkI p1.Rows s12).bind fun a15 =>
  (Qb fuel (Zq a15) (p0.Net.Grain,0)).bind fun x26=>match x26 with
  | .inl x27=>(
   some (.done (Sum.inl ())))
  | .inr x28=>(
   if ((a15.length:Int) != p1.Card)=true then
    some (.done (Sum.inl ()))
   else
   if (x28 != 0)=true then
    some (.done (Sum.inl ()))
   else
   some (.next (zw (s12+1))))
 else
 some (.done (Sum.inr ()))
def Y2 (p0:Q5) (p1:Ad):Option Bool :=
 (Qb fuel (Va p1 p0) (1,0)).bind fun x9 =>
 if ((p1.Rows.length:Int) != x9)=true then
  some false
 else
 (Qb fuel (X3 p1 p0) 0).bind fun x33=>match x33 with
 | .inl x34=>(
  some false)
 | .inr x35=>(
  some true)
def V6 (p0:(List Int)) (s1:(Int × (List Int))) (s4:Int):Option (Qe Int ((Int × (List Int)) ⊕ Unit)) :=
 if (decide (s4 < (p0.length:Int)))=true then
  (lkI p0 s4).bind fun a7 =>
  if 0<=s4 then
   if ((zv (zb (Int.fdiv s1.1 (2^min (Int.toNat s4) zk)) &&& zb 1).toNat)==0)=true then
    if ((zv (zb a7 &&& ~~~ zb s1.1).toNat)==0)=true then
     if (s1.2++([s4]:(List Int))).length*8<=140737488355328 then
      if 0<=s4 then
       some (.done (Sum.inl (zv (zb s1.1 ||| zb (zv (1*2^min (Int.toNat s4) zk))).toNat,(s1.2++([s4]:(List Int))))))
      else none
     else none
    else
    some (.next (zw (s4+1)))
   else
   some (.next (zw (s4+1)))
  else none
 else
 some (.done (Sum.inr ()))
def Xn (p0:(List Int)) (s1:(Int × (List Int))):Option (Qe (Int × (List Int)) (Unit ⊕ (List Int))) :=
 if (decide ((s1.2.length:Int) < (p0.length:Int)))=true then
  (Qb fuel (V6 p0 s1) 0).bind fun x13=>match x13 with
  | .inl x14=>(
   some (.next (x14.1,x14.2)))
  | .inr x15=>(
   some (.done (Sum.inl ())))
 else
 some (.done (Sum.inr s1.2))
def V0 (p0:(List Int)):Option ((List Int) × Bool) :=
 if 0<=(0:Int)/\(0:Int)<=(p0.length:Int)/\(p0.length:Int)*8<=140737488355328 then
  (Qb fuel (Xn p0) (0,(List.replicate (Int.toNat 0) (0:Int)))).bind fun x16=>match x16 with
  | .inl x17=>(
   some (([]:(List Int)),false))
  | .inr x18=>(
   some (x18,true))
 else none
def Jh (p0:Qc) (s9:(Int × Int × (List Int))):Option (Qe (Int × Int × (List Int)) (Unit ⊕ (Int × (List Int)))) :=
 if (decide (s9.2.1 < (p0.Nodes.length:Int)))=true then
  (lkI p0.Nodes s9.2.1).bind fun a12 =>
  if (decide (a12.Card < 1))=true then
   some (.done (Sum.inl ()))
  else
  if (decide (a12.Card > 4))=true then
   some (.done (Sum.inl ()))
  else
  (lkI s9.2.2 s9.2.1).bind fun a18 =>
  some (.next (zw (s9.1*a12.Card),zw (s9.2.1+1),(List.set s9.2.2 (Int.toNat s9.2.1) a12.Card)))
 else
 some (.done (Sum.inr (s9.1,s9.2.2)))
def Je (a29:Ad) (p0:Qc) (s26:(Int × (List Int))) (s31:(Int × Int × (List Int))):Option (Qe (Int × Int × (List Int)) (Unit ⊕ (List Int))) :=
 if (decide (s31.2.1 < (a29.Parents.length:Int)))=true then
  (lkI a29.Parents s31.2.1).bind fun a34 =>
  if (decide (a34<=s31.1))=true then
   some (.done (Sum.inl ()))
  else
  if (decide (a34>=(p0.Nodes.length:Int)))=true then
   some (.done (Sum.inl ()))
  else
  if (a34==s26.1)=true then
   some (.done (Sum.inl ()))
  else
  (lkI s31.2.2 s26.1).bind fun a42 =>
  if 0<=a34 then
   some (.next (a34,zw (s31.2.1+1),(List.set s31.2.2 (Int.toNat s26.1) (zv (zb a42 ||| zb (zv (1*2^min (Int.toNat a34) zk))).toNat))))
  else none
 else
 some (.done (Sum.inr s31.2.2))
def Jd (p0:Qc) (x23:(Int × (List Int))) (s26:(Int × (List Int))):Option (Qe (Int × (List Int)) (Unit ⊕ (List Int))) :=
 if (decide (s26.1 < (p0.Nodes.length:Int)))=true then
  (lkI p0.Nodes s26.1).bind fun a29 =>
  (Qb fuel (Je a29 p0 s26) (-1,0,s26.2)).bind fun x45=>match x45 with
  | .inl x46=>(
   some (.done (Sum.inl ())))
  | .inr x47=>(
   (Y2 (Q5.mk p0 x23.2 x47 []) a29).bind fun x48 =>
   if (!x48)=true then
    some (.done (Sum.inl ()))
   else
   some (.next (zw (s26.1+1),x47)))
 else
 some (.done (Sum.inr s26.2))
def Vn (p0:Qc):Option (Q5 × Int) :=
 if (decide (p0.Grain < 1))=true then
  some ((Q5.mk (Qc.mk 0 []) [] [] []),50)
 else
 if (decide (p0.Grain > 60))=true then
  some ((Q5.mk (Qc.mk 0 []) [] [] []),50)
 else
 if (decide ((p0.Nodes.length:Int) < 1))=true then
  some ((Q5.mk (Qc.mk 0 []) [] [] []),50)
 else
 if (decide ((p0.Nodes.length:Int) > 8))=true then
  some ((Q5.mk (Qc.mk 0 []) [] [] []),50)
 else
 if 0<=(p0.Nodes.length:Int)/\(p0.Nodes.length:Int)<=(p0.Nodes.length:Int)/\(p0.Nodes.length:Int)*8<=140737488355328 then
  if 0<=(p0.Nodes.length:Int)/\(p0.Nodes.length:Int)<=(p0.Nodes.length:Int)/\(p0.Nodes.length:Int)*8<=140737488355328 then
   (Qb fuel (Jh p0) (1,0,(List.replicate (Int.toNat (p0.Nodes.length:Int)) (0:Int)))).bind fun x21=>match x21 with
   | .inl x22=>(
    some ((Q5.mk (Qc.mk 0 []) [] [] []),50))
   | .inr x23=>(
    if (decide (x23.1 > 1024))=true then
     some ((Q5.mk (Qc.mk 0 []) [] [] []),50)
    else
    (Qb fuel (Jd p0 x23) (0,(List.replicate (Int.toNat (p0.Nodes.length:Int)) (0:Int)))).bind fun x52=>match x52 with
    | .inl x53=>(
     some ((Q5.mk (Qc.mk 0 []) [] [] []),50))
    | .inr x54=>(
     (V0 x54).bind fun x55 =>
     if (!x55.2)=true then
      some ((Q5.mk (Qc.mk 0 []) [] [] []),50)
     else
     some ((Q5.mk p0 x23.2 x54 x55.1),0)))
  else none
 else none
def Qex (p0:Qc):Option Int :=
 (Vn p0).bind fun x1 =>
 some x1.2
def Qih (p1:(List Int)) (x1:(Q5 × Int)) (s7:Int):Option (Qe Int (Unit ⊕ Unit)) :=
 if (decide (s7 < (p1.length:Int)))=true then
  (lkI p1 s7).bind fun a10 =>
  if (decide (a10 < (-1)))=true then
   some (.done (Sum.inl ()))
  else
  (lkI x1.1.cards s7).bind fun a14 =>
  if (decide (a10>=a14))=true then
   some (.done (Sum.inl ()))
  else
  some (.next (zw (s7+1)))
 else
 some (.done (Sum.inr ()))
def Qd5 (p0:Qc) (p1:(List Int)):Option Int :=
 (Vn p0).bind fun x1 =>
 if (x1.2 != 0)=true then
  some x1.2
 else
 if ((p1.length:Int) != (x1.1.Net.Nodes.length:Int))=true then
  some 2
 else
 (Qb fuel (Qih p1 x1) 0).bind fun x18=>match x18 with
 | .inl x19=>(
  some 2)
 | .inr x20=>(
  some 0)
def Qql (p1:(List (List Int))) (p0:Qc) (s5:Int):Option (Qe Int (Int ⊕ Unit)) :=
 if (decide (s5 < (p1.length:Int)))=true then
  (lkI p1 s5).bind fun a8 =>
  (Qd5 p0 a8).bind fun x10 =>
  if (x10 != 0)=true then
   some (.done (Sum.inl x10))
  else
  some (.next (zw (s5+1)))
 else
 some (.done (Sum.inr ()))
def Yx (p0:Qc) (p1:(List (List Int))):Option Int :=
 (Qex p0).bind fun x1 =>
 if (x1 != 0)=true then
  some x1
 else
 (Qb fuel (Qql p1 p0) 0).bind fun x14=>match x14 with
 | .inl x15=>(
  some x15)
 | .inr x16=>(
  some 0)
def Qvi (a8:Ad) (s21:(Int × (List (List Int)))):Option (Qe (Int × (List (List Int))) (List (List Int))) :=
 if (decide (s21.1 < (a8.Rows.length:Int)))=true then
  (lkI a8.Rows s21.1).bind fun a24 =>
  if a24.length*8<=140737488355328 then
   if (s21.2++([a24]:(List (List Int)))).length*24<=140737488355328 then
    some (.next (zw (s21.1+1),(s21.2++([a24]:(List (List Int))))))
   else none
  else none
 else
 some (.done s21.2)
def Qvj (p0:Qc) (p1:(List Int)) (s5:(Int × (List Ad))):Option (Qe (Int × (List Ad)) (List Ad)) :=
 if (decide (s5.1 < (p0.Nodes.length:Int)))=true then
  (lkI p0.Nodes s5.1).bind fun a8 =>
  (lkI p1 s5.1).bind fun a10 =>
  if (decide (a10>=0))=true then
   if 0<=a8.Card/\a8.Card<=a8.Card/\a8.Card*8<=140737488355328 then
    (lkI (List.replicate (Int.toNat a8.Card) (0:Int)) a10).bind fun a14 =>
    (lkI s5.2 s5.1).bind fun a16 =>
    some (.next (zw (s5.1+1),(List.set s5.2 (Int.toNat s5.1) (Ad.mk a8.Card [] [(List.set (List.replicate (Int.toNat a8.Card) (0:Int)) (Int.toNat a10) p0.Grain)]))))
   else none
  else
  if a8.Parents.length*8<=140737488355328 then
   (Qb fuel (Qvi a8) (0,([]:(List (List Int))))).bind fun x27 =>
   (lkI s5.2 s5.1).bind fun a28 =>
   some (.next (zw (s5.1+1),(List.set s5.2 (Int.toNat s5.1) (Ad.mk a8.Card a8.Parents x27))))
  else none
 else
 some (.done s5.2)
def Qu2 (p0:Qc) (p1:(List Int)):Option (Qc × Int) :=
 (Yx p0 [p1]).bind fun x1 =>
 if (x1 != 0)=true then
  some ((Qc.mk 0 ([]:(List Ad))),x1)
 else
 if 0<=(p0.Nodes.length:Int)/\(p0.Nodes.length:Int)<=(p0.Nodes.length:Int)/\(p0.Nodes.length:Int)*56<=140737488355328 then
  (Qb fuel (Qvj p0 p1) (0,(List.replicate (Int.toNat (p0.Nodes.length:Int)) ((Ad.mk 0 [] []):Ad)))).bind fun x32 =>
  some ((Qc.mk p0.Grain x32),0)
 else none
def Qqe (a4:Ad) (p0:Qc) (p2:(List Int)) (s8:(Int × Int)):Option (Qe (Int × Int) Int) :=
 if (decide (s8.2 < (a4.Parents.length:Int)))=true then
  (lkI a4.Parents s8.2).bind fun a11 =>
  (lkI p0.Nodes a11).bind fun a13 =>
  (lkI p2 a11).bind fun a15 =>
  some (.next (zw ((zw (s8.1*a13.Card))+a15),zw (s8.2+1)))
 else
 some (.done s8.1)
def Qrc (p0:Qc) (p1:Int) (p2:(List Int)) (s1:(Int × Int)):Option (Qe (Int × Int) Int) :=
 if (decide (s1.2 < (p0.Nodes.length:Int)))=true then
  (lkI p0.Nodes s1.2).bind fun a4 =>
  if 0<=s1.2 then
   if ((zv (zb (Int.fdiv p1 (2^min (Int.toNat s1.2) zk)) &&& zb 1).toNat)==1)=true then
    some (.next (s1.1,zw (s1.2+1)))
   else
   (Qb fuel (Qqe a4 p0 p2) (0,0)).bind fun x18 =>
   (lkI a4.Rows x18).bind fun a19 =>
   (lkI p2 s1.2).bind fun a21 =>
   (lkI a19 a21).bind fun a23 =>
   some (.next (zw (s1.1*a23),zw (s1.2+1)))
  else none
 else
 some (.done s1.1)
def Qet (p0:Qc) (p1:Int) (p2:(List Int)):Option Int :=
 (Qb fuel (Qrc p0 p1 p2) (1,0)).bind fun x26 =>
 some x26
def Qqv (p0:(List Int)) (s1:(Int × Int)):Option (Qe (Int × Int) Int) :=
 if (decide (s1.2 < (p0.length:Int)))=true then
  (lkI p0 s1.2).bind fun a4 =>
  if (decide (a4>=0))=true then
   if 0<=s1.2 then
    some (.next (zv (zb s1.1 ||| zb (zv (1*2^min (Int.toNat s1.2) zk))).toNat,zw (s1.2+1)))
   else none
  else
  some (.next (s1.1,zw (s1.2+1)))
 else
 some (.done s1.1)
def Qes (p0:(List Int)):Option Int :=
 (Qb fuel (Qqv p0) (0,0)).bind fun x9 =>
 some x9
def Qcc (p0:Int):Option Int :=
 if (decide (p0 < 0))=true then
  some (zv (0 - (zv (p0))))
 else
 some (zv (p0))
def Qok  (s1:(Int × Int)):Option (Qe (Int × Int) Int) :=
 if (s1.2 != 0)=true then
  if s1.2≠0 then
   some (.next (s1.2,Int.tmod s1.1 s1.2))
  else none
 else
 some (.done s1.1)
def Qkw (p0:Int) (p1:Int):Option Int :=
 (Qb fuel (Qok) (p0,p1)).bind fun x5 =>
 some x5
def Qp8 (p0:Bool) (p1:(Int × Int)) (p2:(Int × Int)):Option Q1 :=
 if (p1.1 != 0)=true then
  none
 else
 if (decide (p1.2 > 4611686018427387903))=true then
  none
 else
 if (p2.1 != 0)=true then
  none
 else
 if (decide (p2.2 > 4611686018427387903))=true then
  none
 else
 if p0=true then
  some (Q1.mk (zw (0 - (zw (p1.2)))) (zw (p2.2)))
 else
 some (Q1.mk (zw (p1.2)) (zw (p2.2)))
def Qhh (c0:Int) (c1:Int):Option Q1 :=
 (Qcc c0).bind fun x1 =>
 (Qcc c1).bind fun x3 =>
 (Qkw x1 x3).bind fun x5 =>
 (Qcc c0).bind fun x7 =>
 if x5≠0 then
  (Qcc c1).bind fun x9 =>
  if x5≠0 then
   (Qp8 (!((decide (c0 < 0))==(decide (c1 < 0)))) (0,zv (Int.tdiv x7 x5)) (0,zv (Int.tdiv x9 x5))).bind fun x11 =>
   some x11
  else none
 else none
def Qer (p0:Int) (p1:Int):Option (Q1 × Int) :=
 if (p1==0)=true then
  some ((Q1.mk 0 0),2)
 else
 (Qhh p0 p1).bind fun x3 =>
 some (x3,0)
def Qq3 (p0:Qc) (p1:Int) (s1:(Int × Int)):Option (Qe (Int × Int) Int) :=
 if (decide (s1.2 < (p0.Nodes.length:Int)))=true then
  if 0<=s1.2 then
   if ((zv (zb (Int.fdiv p1 (2^min (Int.toNat s1.2) zk)) &&& zb 1).toNat)==0)=true then
    some (.next (zw (s1.1*p0.Grain),zw (s1.2+1)))
   else
   some (.next (s1.1,zw (s1.2+1)))
  else none
 else
 some (.done s1.1)
def Qii (p0:Qc) (p1:Int):Option Int :=
 (Qb fuel (Qq3 p0 p1) (1,0)).bind fun x7 =>
 some x7
def Qpc (p1:(List Int)) (p2:(List Int)) (s10:(Int × Int × (List Int))) (s19:(Int × Int × (List Int))) (s22:Int):Option (Qe Int (Unit ⊕ Unit)) :=
 if (decide (s22 < ((([p1,p2]:(List (List Int))).length):Int)))=true then
  (lkI ([p1,p2]:(List (List Int))) s22).bind fun a25 =>
  (lkI a25 s10.1).bind fun a27 =>
  if (decide (a27>=0))=true then
   if (a27 != s19.1)=true then
    some (.done (Sum.inl ()))
   else
   some (.next (zw (s22+1)))
  else
  some (.next (zw (s22+1)))
 else
 some (.done (Sum.inr ()))
def Qp0 (a17:Ad) (p1:(List Int)) (p2:(List Int)) (s10:(Int × Int × (List Int))) (r11:((Int × Int × (List Int))->Option (Int × (List Int)))) (s19:(Int × Int × (List Int))):Option (Qe (Int × Int × (List Int)) (Int × (List Int))) :=
 if (decide (s19.1 < a17.Card))=true then
  (Qb fuel (Qpc p1 p2 s10 s19) 0).bind fun x33=>match x33 with
  | .inl x34=>(
   some (.next (zw (s19.1+1),s19.2.1,s19.2.2)))
  | .inr x35=>(
   (lkI s19.2.2 s10.1).bind fun a36 =>
   (r11 (zw (s10.1+1),s19.2.1,(List.set s19.2.2 (Int.toNat s10.1) s19.1))).bind fun x38 =>
   some (.next (zw (s19.1+1),x38.1,x38.2)))
 else
 some (.done (s19.2.1,s19.2.2))
def Qo9 (p0:Qc) (x5:Int) (p1:(List Int)) (p2:(List Int)) (r11:((Int × Int × (List Int))->Option (Int × (List Int)))) (s10:(Int × Int × (List Int))):Option (Int × (List Int)) :=
 if (s10.1==(s10.2.2.length:Int))=true then
  (Qet p0 x5 s10.2.2).bind fun x15 =>
  some (zw (s10.2.1+x15),s10.2.2)
 else
 (lkI p0.Nodes s10.1).bind fun a17 =>
 (Qb fuel (Qp0 a17 p1 p2 s10 r11) (0,s10.2.1,s10.2.2)).bind fun x41 =>
 some (x41.1,x41.2)
def Qgz (p0:Qc) (p1:(List Int)) (p2:(List Int)):Option (Q1 × Int) :=
 (Yx p0 [p1,p2]).bind fun x1 =>
 if (x1 != 0)=true then
  some ((Q1.mk 0 0),x1)
 else
 (Qes p1).bind fun x5 =>
 if 0<=(p0.Nodes.length:Int)/\(p0.Nodes.length:Int)<=(p0.Nodes.length:Int)/\(p0.Nodes.length:Int)*8<=140737488355328 then
  (Qfj (Qo9 p0 x5 p1 p2) fuel (0,0,(List.replicate (Int.toNat (p0.Nodes.length:Int)) (0:Int)))).bind fun x42 =>
  (Qes p1).bind fun x44 =>
  (Qii p0 x44).bind fun x46 =>
  (Qer x42.1 x46).bind fun x48 =>
  some (x48.1,x48.2)
 else none
def Qol (p1:(List Int)) (p2:(List Int)) (s16:(Int × Int × (List Int) × (List Int))) (s30:(Int × Int × (List Int) × (List Int))) (s33:Int):Option (Qe Int (Unit ⊕ Unit)) :=
 if (decide (s33 < ((([p1,p2]:(List (List Int))).length):Int)))=true then
  (lkI ([p1,p2]:(List (List Int))) s33).bind fun a36 =>
  (lkI a36 s16.1).bind fun a38 =>
  if (decide (a38>=0))=true then
   if (a38 != s30.1)=true then
    some (.done (Sum.inl ()))
   else
   some (.next (zw (s33+1)))
  else
  some (.next (zw (s33+1)))
 else
 some (.done (Sum.inr ()))
def Qpr (a28:Ad) (p1:(List Int)) (p2:(List Int)) (s16:(Int × Int × (List Int) × (List Int))) (r17:((Int × Int × (List Int) × (List Int))->Option (Int × (List Int) × (List Int)))) (s30:(Int × Int × (List Int) × (List Int))):Option (Qe (Int × Int × (List Int) × (List Int)) (Int × (List Int) × (List Int))) :=
 if (decide (s30.1 < a28.Card))=true then
  (Qb fuel (Qol p1 p2 s16 s30) 0).bind fun x44=>match x44 with
  | .inl x45=>(
   some (.next (zw (s30.1+1),s30.2.1,s30.2.2.1,s30.2.2.2)))
  | .inr x46=>(
   (lkI s30.2.2.2 s16.1).bind fun a47 =>
   (r17 (zw (s16.1+1),s30.2.1,s30.2.2.1,(List.set s30.2.2.2 (Int.toNat s16.1) s30.1))).bind fun x49 =>
   some (.next (zw (s30.1+1),x49.1,x49.2.1,x49.2.2)))
 else
 some (.done (s30.2.1,s30.2.2.1,s30.2.2.2))
def Qot (p0:Qc) (x11:Int) (p3:Int) (p1:(List Int)) (p2:(List Int)) (r17:((Int × Int × (List Int) × (List Int))->Option (Int × (List Int) × (List Int)))) (s16:(Int × Int × (List Int) × (List Int))):Option (Int × (List Int) × (List Int)) :=
 if (s16.1==(s16.2.2.2.length:Int))=true then
  (Qet p0 x11 s16.2.2.2).bind fun x21 =>
  (lkI s16.2.2.2 p3).bind fun a23 =>
  (lkI s16.2.2.1 a23).bind fun a25 =>
  some (zw (s16.2.1+x21),(List.set s16.2.2.1 (Int.toNat a23) (zw (a25+x21))),s16.2.2.2)
 else
 (lkI p0.Nodes s16.1).bind fun a28 =>
 (Qb fuel (Qpr a28 p1 p2 s16 r17) (0,s16.2.1,s16.2.2.1,s16.2.2.2)).bind fun x52 =>
 some (x52.1,x52.2.1,x52.2.2)
def Qpg (x53:(Int × (List Int) × (List Int))) (s57:(Int × (List Q1))):Option (Qe (Int × (List Q1)) (Int ⊕ (List Q1))) :=
 if (decide (s57.1 < (x53.2.1.length:Int)))=true then
  (lkI x53.2.1 s57.1).bind fun a60 =>
  (Qer a60 x53.1).bind fun x62 =>
  if (x62.2 != 0)=true then
   some (.done (Sum.inl x62.2))
  else
  (lkI s57.2 s57.1).bind fun a66 =>
  some (.next (zw (s57.1+1),(List.set s57.2 (Int.toNat s57.1) x62.1)))
 else
 some (.done (Sum.inr s57.2))
def Qhe (p0:Qc) (p1:(List Int)) (p2:(List Int)) (p3:Int):Option ((List Q1) × Int) :=
 (Yx p0 [p1,p2]).bind fun x1 =>
 if (x1 != 0)=true then
  some (([]:(List Q1)),x1)
 else
 if (decide (p3 < 0))=true then
  some (([]:(List Q1)),2)
 else
 if (decide (p3>=(p0.Nodes.length:Int)))=true then
  some (([]:(List Q1)),2)
 else
 (lkI p0.Nodes p3).bind fun a9 =>
 if 0<=a9.Card/\a9.Card<=a9.Card/\a9.Card*8<=140737488355328 then
  (Qes p1).bind fun x11 =>
  if 0<=(p0.Nodes.length:Int)/\(p0.Nodes.length:Int)<=(p0.Nodes.length:Int)/\(p0.Nodes.length:Int)*8<=140737488355328 then
   (Qfj (Qot p0 x11 p3 p1 p2) fuel (0,0,(List.replicate (Int.toNat a9.Card) (0:Int)),(List.replicate (Int.toNat (p0.Nodes.length:Int)) (0:Int)))).bind fun x53 =>
   if (x53.1==0)=true then
    some (([]:(List Q1)),7)
   else
   if 0<=(x53.2.1.length:Int)/\(x53.2.1.length:Int)<=(x53.2.1.length:Int)/\(x53.2.1.length:Int)*16<=140737488355328 then
    (Qb fuel (Qpg x53) (0,(List.replicate (Int.toNat (x53.2.1.length:Int)) ((Q1.mk 0 0):Q1)))).bind fun x69=>match x69 with
    | .inl x70=>(
     some (([]:(List Q1)),x70))
    | .inr x71=>(
     some (x71,0))
   else none
  else none
 else none
def Qo3 (p0:(List Int)) (p1:(List Int)) (s3:Int):Option (Qe Int (Unit ⊕ Unit)) :=
 if (decide (s3 < (p0.length:Int)))=true then
  (lkI p0 s3).bind fun a6 =>
  (lkI p1 s3).bind fun a8 =>
  if (a6 != a8)=true then
   some (.done (Sum.inl ()))
  else
  some (.next (zw (s3+1)))
 else
 some (.done (Sum.inr ()))
def Qbn (p0:(List Int)) (p1:(List Int)):Option Bool :=
 if ((p0.length:Int) != (p1.length:Int))=true then
  some false
 else
 (Qb fuel (Qo3 p0 p1) 0).bind fun x12=>match x12 with
 | .inl x13=>(
  some false)
 | .inr x14=>(
  some true)
def Qlm (a8:Ad) (a10:Ad) (s20:Int):Option (Qe Int (Unit ⊕ Unit)) :=
 if (decide (s20 < (a8.Rows.length:Int)))=true then
  (lkI a8.Rows s20).bind fun a23 =>
  (lkI a10.Rows s20).bind fun a25 =>
  (Qbn a23 a25).bind fun x27 =>
  if (!x27)=true then
   some (.done (Sum.inl ()))
  else
  some (.next (zw (s20+1)))
 else
 some (.done (Sum.inr ()))
def Qlr (p0:Qc) (p1:Qc) (s5:Int):Option (Qe Int (Unit ⊕ Unit)) :=
 if (decide (s5 < (p0.Nodes.length:Int)))=true then
  (lkI p0.Nodes s5).bind fun a8 =>
  (lkI p1.Nodes s5).bind fun a10 =>
  if (a8.Card != a10.Card)=true then
   some (.done (Sum.inl ()))
  else
  (Qbn a8.Parents a10.Parents).bind fun x14 =>
  if (!x14)=true then
   some (.done (Sum.inl ()))
  else
  if ((a8.Rows.length:Int) != (a10.Rows.length:Int))=true then
   some (.done (Sum.inl ()))
  else
  (Qb fuel (Qlm a8 a10) 0).bind fun x31=>match x31 with
  | .inl x32=>(
   some (.done (Sum.inl ())))
  | .inr x33=>(
   some (.next (zw (s5+1))))
 else
 some (.done (Sum.inr ()))
def Qh2 (p0:Qc) (p1:Qc):Option Bool :=
 if (p0.Grain != p1.Grain)=true then
  some false
 else
 if ((p0.Nodes.length:Int) != (p1.Nodes.length:Int))=true then
  some false
 else
 (Qb fuel (Qlr p0 p1) 0).bind fun x34=>match x34 with
 | .inl x35=>(
  some false)
 | .inr x36=>(
  some true)
def Qne (p0:Qc) (p1:Int) (p2:(List Int)) (s1:(Int × Int)):Option (Qe (Int × Int) Int) :=
 if (decide (s1.2 < (p0.Nodes.length:Int)))=true then
  (lkI p0.Nodes s1.2).bind fun a4 =>
  if 0<=s1.2 then
   if ((zv (zb (Int.fdiv p1 (2^min (Int.toNat s1.2) zk)) &&& zb 1).toNat)==1)=true then
    (lkI p2 s1.2).bind fun a8 =>
    some (.next (zw ((zw (s1.1*a4.Card))+a8),zw (s1.2+1)))
   else
   some (.next (s1.1,zw (s1.2+1)))
  else none
 else
 some (.done s1.1)
def Qiy (p0:Qc) (p1:Int) (p2:(List Int)):Option Int :=
 (Qb fuel (Qne p0 p1 p2) (0,0)).bind fun x11 =>
 some x11
def Qos (p1:Int) (p0:Qc) (s1:(Int × Int × (List Int))):Option (Qe (Int × Int × (List Int)) (List Int)) :=
 if (decide (s1.2.1>=0))=true then
  if 0<=s1.2.1 then
   if ((zv (zb (Int.fdiv p1 (2^min (Int.toNat s1.2.1) zk)) &&& zb 1).toNat)==0)=true then
    (lkI s1.2.2 s1.2.1).bind fun a6 =>
    some (.next (s1.1,zw (s1.2.1 - 1),(List.set s1.2.2 (Int.toNat s1.2.1) (-1))))
   else
   (lkI p0.Nodes s1.2.1).bind fun a9 =>
   if a9.Card≠0 then
    (lkI s1.2.2 s1.2.1).bind fun a11 =>
    if a9.Card≠0 then
     some (.next (zw (Int.tdiv s1.1 a9.Card),zw (s1.2.1 - 1),(List.set s1.2.2 (Int.toNat s1.2.1) (Int.tmod s1.1 a9.Card))))
    else none
   else none
  else none
 else
 some (.done s1.2.2)
def Qlf (p0:Qc) (p1:Int) (p2:Int):Option (List Int) :=
 if 0<=(p0.Nodes.length:Int)/\(p0.Nodes.length:Int)<=(p0.Nodes.length:Int)/\(p0.Nodes.length:Int)*8<=140737488355328 then
  (Qb fuel (Qos p1 p0) (p2,zw ((((List.replicate (Int.toNat (p0.Nodes.length:Int)) (0:Int)).length):Int) - 1),(List.replicate (Int.toNat (p0.Nodes.length:Int)) (0:Int)))).bind fun x15 =>
  some x15
 else none
def Qsr (p0:Qc) (p1:Int) (s17:(Int × Int)):Option (Qe (Int × Int) Int) :=
 if (decide (s17.2 < (p0.Nodes.length:Int)))=true then
  (lkI p0.Nodes s17.2).bind fun a20 =>
  if 0<=s17.2 then
   if ((zv (zb (Int.fdiv p1 (2^min (Int.toNat s17.2) zk)) &&& zb 1).toNat)==1)=true then
    some (.next (zw (s17.1*a20.Card),zw (s17.2+1)))
   else
   some (.next (s17.1,zw (s17.2+1)))
  else none
 else
 some (.done s17.1)
def Qsj  (s47:Unit):Option (Qe Unit Unit) :=
 some (.done ())
def Qsc (a42:Ad) (s26:(Int × (List Int) × (List Int))) (r27:((Int × (List Int) × (List Int))->Option ((List Int) × (List Int)))) (s44:(Int × (List Int) × (List Int))):Option (Qe (Int × (List Int) × (List Int)) ((List Int) × (List Int))) :=
 if (decide (s44.1 < a42.Card))=true then
  (Qb fuel (Qsj) ()).bind fun x49 =>
  (lkI s44.2.2 s26.1).bind fun a50 =>
  (r27 (zw (s26.1+1),s44.2.1,(List.set s44.2.2 (Int.toNat s26.1) s44.1))).bind fun x52 =>
  some (.next (zw (s44.1+1),x52.1,x52.2))
 else
 some (.done (s44.2.1,s44.2.2))
def Qsp (p0:Qc) (p1:Int) (p2:Int) (p3:Int) (r27:((Int × (List Int) × (List Int))->Option ((List Int) × (List Int)))) (s26:(Int × (List Int) × (List Int))):Option ((List Int) × (List Int)) :=
 if (s26.1==(s26.2.2.length:Int))=true then
  (Qet p0 p1 s26.2.2).bind fun x31 =>
  (lkI s26.2.2 p2).bind fun a33 =>
  if (a33==p3)=true then
   (Qiy p0 p1 s26.2.2).bind fun x37 =>
   (lkI s26.2.1 x37).bind fun a39 =>
   some ((List.set s26.2.1 (Int.toNat x37) (zw (a39+x31))),s26.2.2)
  else
  some (s26.2.1,s26.2.2)
 else
 (lkI p0.Nodes s26.1).bind fun a42 =>
 (Qb fuel (Qsc a42 s26 r27) (0,s26.2.1,s26.2.2)).bind fun x55 =>
 some (x55.1,x55.2)
def Qsq (x56:((List Int) × (List Int))) (s58:(Int × Int)):Option (Qe (Int × Int) Int) :=
 if (decide (s58.2 < (x56.1.length:Int)))=true then
  (lkI x56.1 s58.2).bind fun a61 =>
  (lkI x56.1 s58.1).bind fun a63 =>
  if (decide (a61 > a63))=true then
   some (.next (s58.2,zw (s58.2+1)))
  else
  some (.next (s58.1,zw (s58.2+1)))
 else
 some (.done s58.1)
def Qkr (p0:Qc) (p1:Int) (p2:Int) (p3:Int):Option ((List Int) × Q1 × Int) :=
 (Yx p0 []).bind fun x1 =>
 if (x1 != 0)=true then
  some (([]:(List Int)),(Q1.mk 0 0),x1)
 else
 if 0<=(p0.Nodes.length:Int) then
  if ((Int.fdiv p1 (2^min (Int.toNat (p0.Nodes.length:Int)) zk)) != 0)=true then
   some (([]:(List Int)),(Q1.mk 0 0),2)
  else
  if (decide (p2 < 0))=true then
   some (([]:(List Int)),(Q1.mk 0 0),2)
  else
  if (decide (p2>=(p0.Nodes.length:Int)))=true then
   some (([]:(List Int)),(Q1.mk 0 0),2)
  else
  if (decide (p3 < 0))=true then
   some (([]:(List Int)),(Q1.mk 0 0),2)
  else
  (lkI p0.Nodes p2).bind fun a13 =>
  if (decide (p3>=a13.Card))=true then
   some (([]:(List Int)),(Q1.mk 0 0),2)
  else
  (Qb fuel (Qsr p0 p1) (1,0)).bind fun x25 =>
  if 0<=x25/\x25<=x25/\x25*8<=140737488355328 then
   if 0<=(p0.Nodes.length:Int)/\(p0.Nodes.length:Int)<=(p0.Nodes.length:Int)/\(p0.Nodes.length:Int)*8<=140737488355328 then
    (Qfj (Qsp p0 p1 p2 p3) fuel (0,(List.replicate (Int.toNat x25) (0:Int)),(List.replicate (Int.toNat (p0.Nodes.length:Int)) (0:Int)))).bind fun x56 =>
    (Qb fuel (Qsq x56) (0,0)).bind fun x68 =>
    (lkI x56.1 x68).bind fun a69 =>
    (Qii p0 p1).bind fun x71 =>
    (Qer a69 x71).bind fun x73 =>
    if (x73.2 != 0)=true then
     some (([]:(List Int)),(Q1.mk 0 0),x73.2)
    else
    (Qlf p0 p1 x68).bind fun x77 =>
    some (x77,x73.1,0)
   else none
  else none
 else none
def Ki  : Option Qc :=
 some (Qc.mk 4 ([(Ad.mk 2 [] [[1,3]]),(Ad.mk 2 [0] [[3,1],[1,3]]),(Ad.mk 2 [0,1] [[4,0],[2,2],[1,3],[0,4]])]:(List Ad)))
def Yf (p0:Aa) (p1:Int) (s1:(Int × (List Int))):Option (Qe (Int × (List Int)) (List Int)) :=
 if (decide (s1.1 < (p0.sets.parents.length:Int)))=true then
  if 0<=s1.1 then
   if ((zv (zb (Int.fdiv p1 (2^min (Int.toNat s1.1) zk)) &&& zb 1).toNat)==1)=true then
    (lkI s1.2 s1.1).bind fun a6 =>
    some (.next (zw (s1.1+1),(List.set s1.2 (Int.toNat s1.1) 0)))
   else
   some (.next (zw (s1.1+1),s1.2))
  else none
 else
 some (.done s1.2)
def Zr (p0:Aa) (p1:Int):Option Aa :=
 if p0.sets.parents.length*8<=140737488355328 then
  (Qb fuel (Yf p0 p1) (0,p0.sets.parents)).bind fun x10 =>
  some (Aa.mk (Ac.mk x10))
 else none
def Kv (p0:Aa) (p1:Int) (p2:Int) (p3:Int):Option Aa :=
 (Zr p0 p2).bind fun x1 =>
 some x1
def Yt (p0:Aa) (p1:Int) (s1:(Int × (List Int))):Option (Qe (Int × (List Int)) (List Int)) :=
 if (decide (s1.1 < (p0.sets.parents.length:Int)))=true then
  (lkI s1.2 s1.1).bind fun a4 =>
  some (.next (zw (s1.1+1),(List.set s1.2 (Int.toNat s1.1) (zv (zb a4 &&& ~~~ zb p1).toNat))))
 else
 some (.done s1.2)
def Vl (p0:Aa) (p1:Int):Option Aa :=
 if p0.sets.parents.length*8<=140737488355328 then
  (Qb fuel (Yt p0 p1) (0,p0.sets.parents)).bind fun x8 =>
  some (Aa.mk (Ac.mk x8))
 else none
def Ko (p0:Aa) (p1:Int) (p2:Int) (p3:Int):Option Aa :=
 (Zr p0 p2).bind fun x1 =>
 (Vl x1 p1).bind fun x3 =>
 some x3
def Xq (p0:Aa) (p1:Int) (s1:(Int × Bool × Bool × Bool × Bool × Bool × Bool × Bool × Bool)):Option (Qe (Int × Bool × Bool × Bool × Bool × Bool × Bool × Bool × Bool) (Bool × Bool × Bool × Bool × Bool × Bool × Bool × Bool)) :=
 if (decide (s1.1 < (p0.sets.parents.length:Int)))=true then
  if 0<=s1.1 then
   (lkI ([s1.2.1,s1.2.2.1,s1.2.2.2.1,s1.2.2.2.2.1,s1.2.2.2.2.2.1,s1.2.2.2.2.2.2.1,s1.2.2.2.2.2.2.2.1,s1.2.2.2.2.2.2.2.2]:(List Bool)) s1.1).bind fun a4 =>
   some (.next (zw (s1.1+1),(if s1.1=0 then ((zv (zb (Int.fdiv p1 (2^min (Int.toNat s1.1) zk)) &&& zb 1).toNat)==1) else s1.2.1),(if s1.1=1 then ((zv (zb (Int.fdiv p1 (2^min (Int.toNat s1.1) zk)) &&& zb 1).toNat)==1) else s1.2.2.1),(if s1.1=2 then ((zv (zb (Int.fdiv p1 (2^min (Int.toNat s1.1) zk)) &&& zb 1).toNat)==1) else s1.2.2.2.1),(if s1.1=3 then ((zv (zb (Int.fdiv p1 (2^min (Int.toNat s1.1) zk)) &&& zb 1).toNat)==1) else s1.2.2.2.2.1),(if s1.1=4 then ((zv (zb (Int.fdiv p1 (2^min (Int.toNat s1.1) zk)) &&& zb 1).toNat)==1) else s1.2.2.2.2.2.1),(if s1.1=5 then ((zv (zb (Int.fdiv p1 (2^min (Int.toNat s1.1) zk)) &&& zb 1).toNat)==1) else s1.2.2.2.2.2.2.1),(if s1.1=6 then ((zv (zb (Int.fdiv p1 (2^min (Int.toNat s1.1) zk)) &&& zb 1).toNat)==1) else s1.2.2.2.2.2.2.2.1),(if s1.1=7 then ((zv (zb (Int.fdiv p1 (2^min (Int.toNat s1.1) zk)) &&& zb 1).toNat)==1) else s1.2.2.2.2.2.2.2.2)))
  else none
 else
 some (.done (s1.2.1,s1.2.2.1,s1.2.2.2.1,s1.2.2.2.2.1,s1.2.2.2.2.2.1,s1.2.2.2.2.2.2.1,s1.2.2.2.2.2.2.2.1,s1.2.2.2.2.2.2.2.2))
def Xw (p0:Aa) (s9:(Int × Bool × Bool × Bool × Bool × Bool × Bool × Bool × Bool × Bool)) (s8:(Bool × Bool × Bool × Bool × Bool × Bool × Bool × Bool)) (a12:Int) (s14:(Int × Bool × Bool × Bool × Bool × Bool × Bool × Bool × Bool)):Option (Qe (Int × Bool × Bool × Bool × Bool × Bool × Bool × Bool × Bool) (Bool × Bool × Bool × Bool × Bool × Bool × Bool × Bool)) :=
 if (decide (s14.1 < (p0.sets.parents.length:Int)))=true then
  (lkI ([s9.2.1,s8.2.1,s8.2.2.1,s8.2.2.2.1,s8.2.2.2.2.1,s8.2.2.2.2.2.1,s8.2.2.2.2.2.2.1,s8.2.2.2.2.2.2.2]:(List Bool)) s9.1).bind fun a17 =>
  if a17=true then
   if 0<=s14.1 then
    if ((zv (zb (Int.fdiv a12 (2^min (Int.toNat s14.1) zk)) &&& zb 1).toNat)==1)=true then
     (lkI ([s14.2.1,s14.2.2.1,s14.2.2.2.1,s14.2.2.2.2.1,s14.2.2.2.2.2.1,s14.2.2.2.2.2.2.1,s14.2.2.2.2.2.2.2.1,s14.2.2.2.2.2.2.2.2]:(List Bool)) s14.1).bind fun a23 =>
     some (.next (zw (s14.1+1),(if s14.1=0 then true else s14.2.1),(if s14.1=1 then true else s14.2.2.1),(if s14.1=2 then true else s14.2.2.2.1),(if s14.1=3 then true else s14.2.2.2.2.1),(if s14.1=4 then true else s14.2.2.2.2.2.1),(if s14.1=5 then true else s14.2.2.2.2.2.2.1),(if s14.1=6 then true else s14.2.2.2.2.2.2.2.1),(if s14.1=7 then true else s14.2.2.2.2.2.2.2.2)))
    else
    some (.next (zw (s14.1+1),s14.2.1,s14.2.2.1,s14.2.2.2.1,s14.2.2.2.2.1,s14.2.2.2.2.2.1,s14.2.2.2.2.2.2.1,s14.2.2.2.2.2.2.2.1,s14.2.2.2.2.2.2.2.2))
   else none
  else
  some (.next (zw (s14.1+1),s14.2.1,s14.2.2.1,s14.2.2.2.1,s14.2.2.2.2.1,s14.2.2.2.2.2.1,s14.2.2.2.2.2.2.1,s14.2.2.2.2.2.2.2.1,s14.2.2.2.2.2.2.2.2))
 else
 some (.done (s14.2.1,s14.2.2.1,s14.2.2.2.1,s14.2.2.2.2.1,s14.2.2.2.2.2.1,s14.2.2.2.2.2.2.1,s14.2.2.2.2.2.2.2.1,s14.2.2.2.2.2.2.2.2))
def Xr (p0:Aa) (s8:(Bool × Bool × Bool × Bool × Bool × Bool × Bool × Bool)) (s9:(Int × Bool × Bool × Bool × Bool × Bool × Bool × Bool × Bool × Bool)):Option (Qe (Int × Bool × Bool × Bool × Bool × Bool × Bool × Bool × Bool × Bool) (Bool × Bool × Bool × Bool × Bool × Bool × Bool × Bool × Bool)) :=
 if (decide (s9.1 < (p0.sets.parents.length:Int)))=true then
  (lkI p0.sets.parents s9.1).bind fun a12 =>
  (Qb fuel (Xw p0 s9 s8 a12) (0,s9.2.2.1,s9.2.2.2.1,s9.2.2.2.2.1,s9.2.2.2.2.2.1,s9.2.2.2.2.2.2.1,s9.2.2.2.2.2.2.2.1,s9.2.2.2.2.2.2.2.2.1,s9.2.2.2.2.2.2.2.2.2)).bind fun x26 =>
  some (.next (zw (s9.1+1),s9.2.1,x26.1,x26.2.1,x26.2.2.1,x26.2.2.2.1,x26.2.2.2.2.1,x26.2.2.2.2.2.1,x26.2.2.2.2.2.2.1,x26.2.2.2.2.2.2.2))
 else
 some (.done (s9.2.1,s9.2.2.1,s9.2.2.2.1,s9.2.2.2.2.1,s9.2.2.2.2.2.1,s9.2.2.2.2.2.2.1,s9.2.2.2.2.2.2.2.1,s9.2.2.2.2.2.2.2.2.1,s9.2.2.2.2.2.2.2.2.2))
def Z1 (p0:Aa) (s8:(Bool × Bool × Bool × Bool × Bool × Bool × Bool × Bool)):Option (Qe (Bool × Bool × Bool × Bool × Bool × Bool × Bool × Bool) (Bool × Bool × Bool × Bool × Bool × Bool × Bool × Bool)) :=
 (Qb fuel (Xr p0 s8) (0,s8.1,s8.1,s8.2.1,s8.2.2.1,s8.2.2.2.1,s8.2.2.2.2.1,s8.2.2.2.2.2.1,s8.2.2.2.2.2.2.1,s8.2.2.2.2.2.2.2)).bind fun x28 =>
 if ((x28.2.1==x28.1) && ((x28.2.2.1==s8.2.1) && ((x28.2.2.2.1==s8.2.2.1) && ((x28.2.2.2.2.1==s8.2.2.2.1) && ((x28.2.2.2.2.2.1==s8.2.2.2.2.1) && ((x28.2.2.2.2.2.2.1==s8.2.2.2.2.2.1) && ((x28.2.2.2.2.2.2.2.1==s8.2.2.2.2.2.2.1) && ((x28.2.2.2.2.2.2.2.2==s8.2.2.2.2.2.2.2) && true))))))))=true then
  some (.done (x28.1,s8.2.1,s8.2.2.1,s8.2.2.2.1,s8.2.2.2.2.1,s8.2.2.2.2.2.1,s8.2.2.2.2.2.2.1,s8.2.2.2.2.2.2.2))
 else
 some (.next (x28.2.1,x28.2.2.1,x28.2.2.2.1,x28.2.2.2.2.1,x28.2.2.2.2.2.1,x28.2.2.2.2.2.2.1,x28.2.2.2.2.2.2.2.1,x28.2.2.2.2.2.2.2.2))
def Jb (p0:Aa) (p1:Int):Option (Bool × Bool × Bool × Bool × Bool × Bool × Bool × Bool) :=
 (Qb fuel (Xq p0 p1) (0,false,false,false,false,false,false,false,false)).bind fun x7 =>
 (Qb fuel (Z1 p0) (x7.1,x7.2.1,x7.2.2.1,x7.2.2.2.1,x7.2.2.2.2.1,x7.2.2.2.2.2.1,x7.2.2.2.2.2.2.1,x7.2.2.2.2.2.2.2)).bind fun x32 =>
 some (x32.1,x32.2.1,x32.2.2.1,x32.2.2.2.1,x32.2.2.2.2.1,x32.2.2.2.2.2.1,x32.2.2.2.2.2.2.1,x32.2.2.2.2.2.2.2)
def Y4 (x3:(Bool × Bool × Bool × Bool × Bool × Bool × Bool × Bool)) (s5:(Int × Bool × Int)):Option (Qe (Int × Bool × Int) Int) :=
 if (decide (s5.2.2 < 8))=true then
  (lkI ([s5.2.1,x3.2.1,x3.2.2.1,x3.2.2.2.1,x3.2.2.2.2.1,x3.2.2.2.2.2.1,x3.2.2.2.2.2.2.1,x3.2.2.2.2.2.2.2]:(List Bool)) s5.2.2).bind fun a8 =>
  if a8=true then
   if 0<=s5.2.2 then
    some (.next (zv (zb s5.1 &&& ~~~ zb (zv (1*2^min (Int.toNat s5.2.2) zk))).toNat,s5.2.1,zw (s5.2.2+1)))
   else none
  else
  some (.next (s5.1,s5.2.1,zw (s5.2.2+1)))
 else
 some (.done s5.1)
def Ku (p0:Aa) (p1:Int) (p2:Int) (p3:Int):Option Aa :=
 (Zr p0 p2).bind fun x1 =>
 (Jb x1 p3).bind fun x3 =>
 (Qb fuel (Y4 x3) (p1,x3.1,0)).bind fun x13 =>
 (Zr x1 x13).bind fun x14 =>
 some x14
def Kb (p0:Qc):Option ((List Int) × Int) :=
 (Vn p0).bind fun x1 =>
 some (x1.1.sets,x1.2)
def V2 (p0:(List Int)) (s5:(Int × (List Int))) (a8:Int) (s12:(Int × (List Int))):Option (Qe (Int × (List Int)) (List Int)) :=
 if (decide (s12.1 < (p0.length:Int)))=true then
  (lkI s12.2 s12.1).bind fun a15 =>
  if 0<=s12.1 then
   if 0<=s5.1 then
    some (.next (zw (s12.1+1),(List.set s12.2 (Int.toNat s12.1) (zv (zb a15 ||| zb (zv ((zv (zb (Int.fdiv a8 (2^min (Int.toNat s12.1) zk)) &&& zb 1).toNat)*2^min (Int.toNat s5.1) zk))).toNat))))
   else none
  else none
 else
 some (.done s12.2)
def Vw (p0:(List Int)) (s5:(Int × (List Int))):Option (Qe (Int × (List Int)) (Unit ⊕ (List Int))) :=
 if (decide (s5.1 < (p0.length:Int)))=true then
  (lkI p0 s5.1).bind fun a8 =>
  if 0<=(p0.length:Int) then
   if ((Int.fdiv a8 (2^min (Int.toNat (p0.length:Int)) zk)) != 0)=true then
    some (.done (Sum.inl ()))
   else
   (Qb fuel (V2 p0 s5 a8) (0,s5.2)).bind fun x19 =>
   some (.next (zw (s5.1+1),x19))
  else none
 else
 some (.done (Sum.inr s5.2))
def Kn (p0:(List Int)) (s23:(Int × Int)) (s26:Int):Option (Qe Int (Int ⊕ Unit)) :=
 if (decide (s26 < (p0.length:Int)))=true then
  (lkI p0 s26).bind fun a29 =>
  if 0<=s26 then
   if ((zv (zb (Int.fdiv s23.1 (2^min (Int.toNat s26) zk)) &&& zb 1).toNat)==0)=true then
    if ((zv (zb a29 &&& ~~~ zb s23.1).toNat)==0)=true then
     if 0<=s26 then
      some (.done (Sum.inl (zv (zb s23.1 ||| zb (zv (1*2^min (Int.toNat s26) zk))).toNat)))
     else none
    else
    some (.next (zw (s26+1)))
   else
   some (.next (zw (s26+1)))
  else none
 else
 some (.done (Sum.inr ()))
def Vx (p0:(List Int)) (s23:(Int × Int)):Option (Qe (Int × Int) (Unit ⊕ Unit)) :=
 if (decide (s23.2 < (p0.length:Int)))=true then
  (Qb fuel (Kn p0 s23) 0).bind fun x35=>match x35 with
  | .inl x36=>(
   some (.next (x36,zw (s23.2+1))))
  | .inr x37=>(
   some (.done (Sum.inl ())))
 else
 some (.done (Sum.inr ()))
def Qa0 (p0:(List Int)):Option (Qx × Int) :=
 if (decide ((p0.length:Int) < 1))=true then
  some ((Qx.mk (Yq.mk []) []),70)
 else
 if (decide ((p0.length:Int) > 8))=true then
  some ((Qx.mk (Yq.mk []) []),70)
 else
 if 0<=(p0.length:Int)/\(p0.length:Int)<=(p0.length:Int)/\(p0.length:Int)*8<=140737488355328 then
  (Qb fuel (Vw p0) (0,(List.replicate (Int.toNat (p0.length:Int)) (0:Int)))).bind fun x20=>match x20 with
  | .inl x21=>(
   some ((Qx.mk (Yq.mk []) []),70))
  | .inr x22=>(
   (Qb fuel (Vx p0) (0,0)).bind fun x38=>match x38 with
   | .inl x39=>(
    some ((Qx.mk (Yq.mk []) []),70))
   | .inr x40=>(
    some ((Qx.mk (Yq.mk p0) x22),0)))
 else none
def Z4 (p1:(List Int)) (p0:Qx) (s1:(Int × Int)):Option (Qe (Int × Int) (Unit ⊕ Unit)) :=
 if (decide (s1.2 < (p1.length:Int)))=true then
  (lkI p1 s1.2).bind fun a4 =>
  if 0<=(p0.ancestry.parents.length:Int) then
   if ((Int.fdiv a4 (2^min (Int.toNat (p0.ancestry.parents.length:Int)) zk)) != 0)=true then
    some (.done (Sum.inl ()))
   else
   if ((zv (zb a4 &&& zb s1.1).toNat) != 0)=true then
    some (.done (Sum.inl ()))
   else
   some (.next (zv (zb s1.1 ||| zb a4).toNat,zw (s1.2+1)))
  else none
 else
 some (.done (Sum.inr ()))
def Yu (p0:Qx) (p1:(List Int)):Option Bool :=
 (Qb fuel (Z4 p1 p0) (0,0)).bind fun x10=>match x10 with
 | .inl x11=>(
  some false)
 | .inr x12=>(
  some true)
def K6 (p0:Int):Option Int :=
 if (p0==0)=true then
  some 64
 else
 (lkI tab1 (Int.fdiv (zv ((zv (zb p0 &&& zb (zv (0 - p0))).toNat)*285870213051353865)) (2^min (Int.toNat 58) zk))).bind fun a3 =>
 some (zw (a3))
def Qv (p0:Int):Option Int :=
 (K6 p0).bind fun x1 =>
 some x1
def Xk (p0:Qx) (s4:(Int × Int)):Option (Qe (Int × Int) Int) :=
 if (decide (s4.1 < (p0.ancestry.parents.length:Int)))=true then
  (lkI p0.ancestry.parents s4.1).bind fun a7 =>
  if 0<=s4.1 then
   if ((zv (zb (Int.fdiv s4.2 (2^min (Int.toNat s4.1) zk)) &&& zb 1).toNat)==1)=true then
    some (.next (zw (s4.1+1),zv (zb s4.2 ||| zb a7).toNat))
   else
   some (.next (zw (s4.1+1),s4.2))
  else none
 else
 some (.done s4.2)
def Xl (p0:Qx) (s1:(Int × Int)):Option (Qe (Int × Int) Int) :=
 if (decide (s1.1 < (p0.ancestry.parents.length:Int)))=true then
  (Qb fuel (Xk p0) (0,s1.2)).bind fun x12 =>
  some (.next (zw (s1.1+1),x12))
 else
 some (.done s1.2)
def Qaz (r21:((Int × Bool × Int × (List (Af × Bool)))->Option (Int × (List (Af × Bool))))) (s29:(Int × Int × (List (Af × Bool)))):Option (Qe (Int × Int × (List (Af × Bool))) (Int × (List (Af × Bool)))) :=
 if (s29.1 != 0)=true then
  (Qv s29.1).bind fun x32 =>
  (r21 (x32,true,s29.2.1,s29.2.2)).bind fun x34 =>
  some (.next (zv (zb s29.1 &&& zb (zv (s29.1 - 1))).toNat,x34.1,x34.2))
 else
 some (.done (s29.2.1,s29.2.2))
def Qa4 (r21:((Int × Bool × Int × (List (Af × Bool)))->Option (Int × (List (Af × Bool))))) (s43:(Int × Int × (List (Af × Bool)))):Option (Qe (Int × Int × (List (Af × Bool))) (Int × (List (Af × Bool)))) :=
 if (s43.1 != 0)=true then
  (Qv s43.1).bind fun x46 =>
  (r21 (x46,false,s43.2.1,s43.2.2)).bind fun x48 =>
  some (.next (zv (zb s43.1 &&& zb (zv (s43.1 - 1))).toNat,x48.1,x48.2))
 else
 some (.done (s43.2.1,s43.2.2))
def Qa6 (r21:((Int × Bool × Int × (List (Af × Bool)))->Option (Int × (List (Af × Bool))))) (s55:(Int × Int × (List (Af × Bool)))):Option (Qe (Int × Int × (List (Af × Bool))) (Int × (List (Af × Bool)))) :=
 if (s55.1 != 0)=true then
  (Qv s55.1).bind fun x58 =>
  (r21 (x58,false,s55.2.1,s55.2.2)).bind fun x60 =>
  some (.next (zv (zb s55.1 &&& zb (zv (s55.1 - 1))).toNat,x60.1,x60.2))
 else
 some (.done (s55.2.1,s55.2.2))
def Qa1 (r21:((Int × Bool × Int × (List (Af × Bool)))->Option (Int × (List (Af × Bool))))) (s69:(Int × Int × (List (Af × Bool)))):Option (Qe (Int × Int × (List (Af × Bool))) (Int × (List (Af × Bool)))) :=
 if (s69.1 != 0)=true then
  (Qv s69.1).bind fun x72 =>
  (r21 (x72,false,s69.2.1,s69.2.2)).bind fun x74 =>
  some (.next (zv (zb s69.1 &&& zb (zv (s69.1 - 1))).toNat,x74.1,x74.2))
 else
 some (.done (s69.2.1,s69.2.2))
def Qf9 (r21:((Int × Bool × Int × (List (Af × Bool)))->Option (Int × (List (Af × Bool))))) (s81:(Int × Int × (List (Af × Bool)))):Option (Qe (Int × Int × (List (Af × Bool))) (Int × (List (Af × Bool)))) :=
 if (s81.1 != 0)=true then
  (Qv s81.1).bind fun x84 =>
  (r21 (x84,false,s81.2.1,s81.2.2)).bind fun x86 =>
  some (.next (zv (zb s81.1 &&& zb (zv (s81.1 - 1))).toNat,x86.1,x86.2))
 else
 some (.done (s81.2.1,s81.2.2))
def Zw (p2:Int) (p0:Qx) (x14:Int) (r21:((Int × Bool × Int × (List (Af × Bool)))->Option (Int × (List (Af × Bool))))) (s20:(Int × Bool × Int × (List (Af × Bool)))):Option (Int × (List (Af × Bool))) :=
 if (Y9 Am s20.2.2.2 (Af.mk s20.1 s20.2.1)).getD false=true then
  some (s20.2.2.1,s20.2.2.2)
 else
 if 0<=s20.1 then
  if ((zv (zb (Int.fdiv p2 (2^min (Int.toNat s20.1) zk)) &&& zb 1).toNat)==0)=true then
   if 0<=s20.1 then
    (lkI p0.children s20.1).bind fun a27 =>
    (Qb fuel (Qaz r21) (a27,zv (zb s20.2.2.1 ||| zb (zv (1*2^min (Int.toNat s20.1) zk))).toNat,kput Am s20.2.2.2 (Af.mk s20.1 s20.2.1) true)).bind fun x36 =>
    if s20.2.1=true then
     if 0<=s20.1 then
      if ((zv (zb (Int.fdiv x14 (2^min (Int.toNat s20.1) zk)) &&& zb 1).toNat)==0)=true then
       some (x36.1,x36.2)
      else
      (lkI p0.ancestry.parents s20.1).bind fun a41 =>
      (Qb fuel (Qa4 r21) (a41,x36.1,x36.2)).bind fun x50 =>
      some (x50.1,x50.2)
     else none
    else
    if 0<=s20.1 then
     if ((zv (zb (Int.fdiv p2 (2^min (Int.toNat s20.1) zk)) &&& zb 1).toNat)==1)=true then
      some (x36.1,x36.2)
     else
     (lkI p0.ancestry.parents s20.1).bind fun a53 =>
     (Qb fuel (Qa6 r21) (a53,x36.1,x36.2)).bind fun x62 =>
     some (x62.1,x62.2)
    else none
   else none
  else
  if s20.2.1=true then
   if 0<=s20.1 then
    if ((zv (zb (Int.fdiv x14 (2^min (Int.toNat s20.1) zk)) &&& zb 1).toNat)==0)=true then
     some (s20.2.2.1,kput Am s20.2.2.2 (Af.mk s20.1 s20.2.1) true)
    else
    (lkI p0.ancestry.parents s20.1).bind fun a67 =>
    (Qb fuel (Qa1 r21) (a67,s20.2.2.1,kput Am s20.2.2.2 (Af.mk s20.1 s20.2.1) true)).bind fun x76 =>
    some (x76.1,x76.2)
   else none
  else
  if 0<=s20.1 then
   if ((zv (zb (Int.fdiv p2 (2^min (Int.toNat s20.1) zk)) &&& zb 1).toNat)==1)=true then
    some (s20.2.2.1,kput Am s20.2.2.2 (Af.mk s20.1 s20.2.1) true)
   else
   (lkI p0.ancestry.parents s20.1).bind fun a79 =>
   (Qb fuel (Qf9 r21) (a79,s20.2.2.1,kput Am s20.2.2.2 (Af.mk s20.1 s20.2.1) true)).bind fun x88 =>
   some (x88.1,x88.2)
  else none
 else none
def Qa3 (p2:Int) (p0:Qx) (x14:Int) (s15:(Int × Int × (List (Af × Bool)))):Option (Qe (Int × Int × (List (Af × Bool))) (Int × (List (Af × Bool)))) :=
 if (s15.1 != 0)=true then
  (Qv s15.1).bind fun x18 =>
  (Qfj (Zw p2 p0 x14) fuel (x18,false,s15.2.1,s15.2.2)).bind fun x89 =>
  some (.next (zv (zb s15.1 &&& zb (zv (s15.1 - 1))).toNat,x89.1,x89.2))
 else
 some (.done (s15.2.1,s15.2.2))
def Vm (p0:Qx) (p1:Int) (p2:Int):Option Int :=
 (Qb fuel (Xl p0) (0,p2)).bind fun x14 =>
 (Qb fuel (Qa3 p2 p0 x14) (p1,0,[])).bind fun x92 =>
 some x92.1
def Xs (p0:(List Int)) (p1:Int) (p2:Int) (p3:Int):Option (Bool × Int) :=
 (Qa0 p0).bind fun x1 =>
 if (x1.2 != 0)=true then
  some (false,x1.2)
 else
 (Yu x1.1 [p1,p2,p3]).bind fun x5 =>
 if (!x5)=true then
  some (false,2)
 else
 (Vm x1.1 p1 p3).bind fun x9 =>
 some (((zv (zb x9 &&& zb p2).toNat)==0),0)
def Kj (p0:Qc) (p1:Int) (p2:Int) (p3:Int) (p4:Int) (p5:Int):Option (Bool × Int) :=
 (Yx p0 []).bind fun x1 =>
 if (x1 != 0)=true then
  some (false,x1)
 else
 if p1=1 then
  if 0<=(p0.Nodes.length:Int) then
   if ((Int.fdiv (zv (zb (zv (zb (zv (zb p2 ||| zb p3).toNat) ||| zb p4).toNat) ||| zb p5).toNat) (2^min (Int.toNat (p0.Nodes.length:Int)) zk)) != 0)=true then
    some (false,2)
   else
   if ((zv (zb p2 &&& zb p3).toNat) != 0)=true then
    some (false,2)
   else
   if ((zv (zb (zv (zb p2 ||| zb p3).toNat) &&& zb p4).toNat) != 0)=true then
    some (false,2)
   else
   if ((zv (zb (zv (zb (zv (zb p2 ||| zb p3).toNat) ||| zb p4).toNat) &&& zb p5).toNat) != 0)=true then
    some (false,2)
   else
   (Kb p0).bind fun x15 =>
   if (x15.2 != 0)=true then
    some (false,x15.2)
   else
   if (p2==0)=true then
    some (true,0)
   else
   if (p3==0)=true then
    some (true,0)
   else
   (Kv (Aa.mk (Ac.mk x15.1)) p3 p4 p5).bind fun x23 =>
   (Xs x23.sets.parents p2 p3 (zv (zb p4 ||| zb p5).toNat)).bind fun x25 =>
   some (x25.1,x25.2)
  else none
 else
 if p1=2 then
  if 0<=(p0.Nodes.length:Int) then
   if ((Int.fdiv (zv (zb (zv (zb (zv (zb p2 ||| zb p3).toNat) ||| zb p4).toNat) ||| zb p5).toNat) (2^min (Int.toNat (p0.Nodes.length:Int)) zk)) != 0)=true then
    some (false,2)
   else
   if ((zv (zb p2 &&& zb p3).toNat) != 0)=true then
    some (false,2)
   else
   if ((zv (zb (zv (zb p2 ||| zb p3).toNat) &&& zb p4).toNat) != 0)=true then
    some (false,2)
   else
   if ((zv (zb (zv (zb (zv (zb p2 ||| zb p3).toNat) ||| zb p4).toNat) &&& zb p5).toNat) != 0)=true then
    some (false,2)
   else
   (Kb p0).bind fun x37 =>
   if (x37.2 != 0)=true then
    some (false,x37.2)
   else
   if (p2==0)=true then
    some (true,0)
   else
   if (p3==0)=true then
    some (true,0)
   else
   (Ko (Aa.mk (Ac.mk x37.1)) p3 p4 p5).bind fun x45 =>
   (Xs x45.sets.parents p2 p3 (zv (zb p4 ||| zb p5).toNat)).bind fun x47 =>
   some (x47.1,x47.2)
  else none
 else
 if p1=3 then
  if 0<=(p0.Nodes.length:Int) then
   if ((Int.fdiv (zv (zb (zv (zb (zv (zb p2 ||| zb p3).toNat) ||| zb p4).toNat) ||| zb p5).toNat) (2^min (Int.toNat (p0.Nodes.length:Int)) zk)) != 0)=true then
    some (false,2)
   else
   if ((zv (zb p2 &&& zb p3).toNat) != 0)=true then
    some (false,2)
   else
   if ((zv (zb (zv (zb p2 ||| zb p3).toNat) &&& zb p4).toNat) != 0)=true then
    some (false,2)
   else
   if ((zv (zb (zv (zb (zv (zb p2 ||| zb p3).toNat) ||| zb p4).toNat) &&& zb p5).toNat) != 0)=true then
    some (false,2)
   else
   (Kb p0).bind fun x59 =>
   if (x59.2 != 0)=true then
    some (false,x59.2)
   else
   if (p2==0)=true then
    some (true,0)
   else
   if (p3==0)=true then
    some (true,0)
   else
   (Ku (Aa.mk (Ac.mk x59.1)) p3 p4 p5).bind fun x67 =>
   (Xs x67.sets.parents p2 p3 (zv (zb p4 ||| zb p5).toNat)).bind fun x69 =>
   some (x69.1,x69.2)
  else none
 else
 some (false,2)
def Kz (p0:Int) (p1:Int) (p2:Int) (p3:Int) (p4:Int) (p5:Bool):Option Bool :=
 (Ki).bind fun x1 =>
 (Kj x1 p0 p1 p2 p3 p4).bind fun x3 =>
 if (x3.1==p5)=true then
  some (x3.2==0)
 else
 some false
def Kl (p0:Int) (p1:Int):Option Q1 :=
 some (Q1.mk p0 p1)
def Qoa (p0:(List Q1)) (p1:(List Q1)) (s3:Int):Option (Qe Int (Unit ⊕ Unit)) :=
 if (decide (s3 < (p0.length:Int)))=true then
  (lkI p0 s3).bind fun a6 =>
  (lkI p1 s3).bind fun a8 =>
  if (!((a6.N==a8.N) && ((a6.D==a8.D) && true)))=true then
   some (.done (Sum.inl ()))
  else
  some (.next (zw (s3+1)))
 else
 some (.done (Sum.inr ()))
def Qky (p0:(List Q1)) (p1:(List Q1)):Option Bool :=
 if ((p0.length:Int) != (p1.length:Int))=true then
  some false
 else
 (Qb fuel (Qoa p0 p1) 0).bind fun x12=>match x12 with
 | .inl x13=>(
  some false)
 | .inr x14=>(
  some true)
def Qec (p0:(List Int)) (p1:(List Int)) (p2:Int) (p3:(List Q1)):Option Bool :=
 (Ki).bind fun x1 =>
 (Qhe x1 p0 p1 p2).bind fun x3 =>
 if (x3.2==0)=true then
  (Qky x3.1 p3).bind fun x7 =>
  some x7
 else
 some false
def Z7 (w3_0:Bool):Option Bool :=
 some w3_0
def Ym (w2_0:Bool) (w2_1:Bool) (w2_2:Bool):Option Bool :=
 if w2_0=true then
  if w2_1=true then
   if w2_2=true then
    (Kz 2 4 1 0 0 true).bind fun x75 =>
    if x75=true then
     (Kz 2 4 2 0 0 false).bind fun x79 =>
     if x79=true then
      (Kz 2 4 2 0 1 true).bind fun x83 =>
      if x83=true then
       (Kz 3 1 6 0 0 true).bind fun x87 =>
       if x87=true then
        (Kz 1 1 4 2 0 false).bind fun x91 =>
        Z7 x91
       else
       Z7 false
      else
      Z7 false
     else
     Z7 false
    else
    Z7 false
   else
   Z7 false
  else
  Z7 false
 else
 Z7 false
def Qct (w1_0:Int) (w1_1:Int) (w1_2:Bool) (w1_3:Bool) (w1_4:(List Int)) (w1_5:Int) (w1_6:Int) (w1_7:(List Int)) (w1_8:Int) (w1_9:Int):Option Bool :=
 if (w1_0==0)=true then
  (Qbn w1_4 [1,1,-1]).bind fun x53 =>
  if x53=true then
   (Kl 1 1).bind fun x57 =>
   if ((w1_5==x57.N) && ((w1_6==x57.D) && true))=true then
    if (w1_1==0)=true then
     (Qbn w1_7 [-1,0,-1]).bind fun x63 =>
     if x63=true then
      (Kl 3 4).bind fun x67 =>
      Ym w1_2 w1_3 ((w1_8==x67.N) && ((w1_9==x67.D) && true))
     else
     Ym w1_2 w1_3 false
    else
    Ym w1_2 w1_3 false
   else
   Ym w1_2 w1_3 false
  else
  Ym w1_2 w1_3 false
 else
 Ym w1_2 w1_3 false
def Xp (w0_0:Int) (w0_1:Int) (w0_2:Bool) (w0_3:(List Int)) (w0_4:Int) (w0_5:Int) (w0_6:(List Int)) (w0_7:Int) (w0_8:Int):Option Bool :=
 (Kl 1 7).bind fun x37 =>
 (Kl 6 7).bind fun x39 =>
 (Qec [-1,1,-1] [-1,-1,1] 0 [x37,x39]).bind fun x41 =>
 if x41=true then
  (Kl 7 8).bind fun x45 =>
  (Kl 1 8).bind fun x47 =>
  (Qec [0,-1,-1] [-1,-1,-1] 2 [x45,x47]).bind fun x49 =>
  Qct w0_0 w0_1 w0_2 x49 w0_3 w0_4 w0_5 w0_6 w0_7 w0_8
 else
 Qct w0_0 w0_1 w0_2 false w0_3 w0_4 w0_5 w0_6 w0_7 w0_8
def Qfk  : Option Bool :=
 (Ki).bind fun x1 =>
 (Qu2 x1 [-1,1,-1]).bind fun x3 =>
 (Ki).bind fun x5 =>
 (lkI x5.Nodes 1).bind fun a7 =>
 (Qgz x1 [-1,1,-1] [-1,-1,1]).bind fun x94 =>
 (Qgz x1 [-1,1,-1] [-1,0,-1]).bind fun x96 =>
 (Qhe x1 [-1,1,-1] [-1,0,-1] 2).bind fun x98 =>
 (Qkr x1 3 2 1).bind fun x100 =>
 (Qkr x1 2 0 1).bind fun x102 =>
 if (x3.2==0)=true then
  (Qh2 x3.1 (Qc.mk x5.Grain (List.set x5.Nodes (Int.toNat 1) (Ad.mk 2 [] [[0,4]])))).bind fun x106 =>
  if x106=true then
   if (x94.2==0)=true then
    (Kl 7 8).bind fun x112 =>
    if ((x94.1.N==x112.N) && ((x94.1.D==x112.D) && true))=true then
     if (x96.2==0)=true then
      (Kl 0 1).bind fun x118 =>
      if ((x96.1.N==x118.N) && ((x96.1.D==x118.D) && true))=true then
       Xp x100.2.2 x102.2.2 (x98.2==7) x100.1 x100.2.1.N x100.2.1.D x102.1 x102.2.1.N x102.2.1.D
      else
      Xp x100.2.2 x102.2.2 false x100.1 x100.2.1.N x100.2.1.D x102.1 x102.2.1.N x102.2.1.D
     else
     Xp x100.2.2 x102.2.2 false x100.1 x100.2.1.N x100.2.1.D x102.1 x102.2.1.N x102.2.1.D
    else
    Xp x100.2.2 x102.2.2 false x100.1 x100.2.1.N x100.2.1.D x102.1 x102.2.1.N x102.2.1.D
   else
   Xp x100.2.2 x102.2.2 false x100.1 x100.2.1.N x100.2.1.D x102.1 x102.2.1.N x102.2.1.D
  else
  Xp x100.2.2 x102.2.2 false x100.1 x100.2.1.N x100.2.1.D x102.1 x102.2.1.N x102.2.1.D
 else
 Xp x100.2.2 x102.2.2 false x100.1 x100.2.1.N x100.2.1.D x102.1 x102.2.1.N x102.2.1.D
def Kr (p0:Ae) (s1:(Int × (List Int))):Option (Qe (Int × (List Int)) (List Int)) :=
 if (decide (s1.1 < (p0.C.length:Int)))=true then
  if (decide (s1.1 < 5))=true then
   (lkI p0.C s1.1).bind fun a6 =>
   if (s1.2++([zw (1+(zw (Int.tmod a6 4)))]:(List Int))).length*8<=140737488355328 then
    some (.next (zw (s1.1+1),(s1.2++([zw (1+(zw (Int.tmod a6 4)))]:(List Int)))))
   else none
  else
  some (.done s1.2)
 else
 some (.done s1.2)
def J4 (p0:Ae):Option (List Int) :=
 (Qb fuel (Kr p0) (0,([]:(List Int)))).bind fun x9 =>
 some x9
def Vg (p0:Ae) (s1:(Int × (List Int))):Option (Qe (Int × (List Int)) (List Int)) :=
 (J4 p0).bind fun x2 =>
 if (decide (s1.1 < (x2.length:Int)))=true then
  if (decide (s1.1 < (p0.Order.length:Int)))=true then
   (lkI p0.Order s1.1).bind fun a8 =>
   if (zw (s1.1+1))≠0 then
    if 0<=(0:Int)/\(0:Int)<=(Int.tmod (zw (a8)) (zw (s1.1+1)))/\(Int.tmod (zw (a8)) (zw (s1.1+1)))<=(s1.2.length:Int) then
     if (sub s1.2 0 (Int.tmod (zw (a8)) (zw (s1.1+1)))).length*8<=140737488355328 then
      if ((sub s1.2 0 (Int.tmod (zw (a8)) (zw (s1.1+1))))++([s1.1]:(List Int))).length*8<=140737488355328 then
       if 0<=(Int.tmod (zw (a8)) (zw (s1.1+1)))/\(Int.tmod (zw (a8)) (zw (s1.1+1)))<=(s1.2.length:Int)/\(s1.2.length:Int)<=(s1.2.length:Int) then
        if (((sub s1.2 0 (Int.tmod (zw (a8)) (zw (s1.1+1))))++([s1.1]:(List Int)))++(sub s1.2 (Int.tmod (zw (a8)) (zw (s1.1+1))) (s1.2.length:Int))).length*8<=140737488355328 then
         some (.next (zw (s1.1+1),(((sub s1.2 0 (Int.tmod (zw (a8)) (zw (s1.1+1))))++([s1.1]:(List Int)))++(sub s1.2 (Int.tmod (zw (a8)) (zw (s1.1+1))) (s1.2.length:Int)))))
        else none
       else none
      else none
     else none
    else none
   else none
  else
  if 0<=(0:Int)/\(0:Int)<=(0:Int)/\(0:Int)<=(s1.2.length:Int) then
   if (sub s1.2 0 0).length*8<=140737488355328 then
    if ((sub s1.2 0 0)++([s1.1]:(List Int))).length*8<=140737488355328 then
     if 0<=(0:Int)/\(0:Int)<=(s1.2.length:Int)/\(s1.2.length:Int)<=(s1.2.length:Int) then
      if (((sub s1.2 0 0)++([s1.1]:(List Int)))++(sub s1.2 0 (s1.2.length:Int))).length*8<=140737488355328 then
       some (.next (zw (s1.1+1),(((sub s1.2 0 0)++([s1.1]:(List Int)))++(sub s1.2 0 (s1.2.length:Int)))))
      else none
     else none
    else none
   else none
  else none
 else
 some (.done s1.2)
def Yv (p0:Ae):Option (List Int) :=
 (Qb fuel (Vg p0) (0,([]:(List Int)))).bind fun x15 =>
 some x15
def Qd0 (p0:(List Int)) (s1:(Int × Int)):Option (Qe (Int × Int) Int) :=
 if (decide (s1.2 < (p0.length:Int)))=true then
  (lkI p0 s1.2).bind fun a4 =>
  some (.next (zw (s1.1*a4),zw (s1.2+1)))
 else
 some (.done s1.1)
def Kx (p0:(List Int)):Option Int :=
 (Qb fuel (Qd0 p0) (1,0)).bind fun x7 =>
 some x7
def Qfu (p1:(List Int)) (p0:(List Int)) (s1:(Int × (List Int))):Option (Qe (Int × (List Int)) (List Int)) :=
 if (decide (s1.1 < (p1.length:Int)))=true then
  (lkI p1 s1.1).bind fun a4 =>
  (lkI p0 a4).bind fun a6 =>
  if (s1.2++([a6]:(List Int))).length*8<=140737488355328 then
   some (.next (zw (s1.1+1),(s1.2++([a6]:(List Int)))))
  else none
 else
 some (.done s1.2)
def Qfy (p0:(List Int)) (p1:(List Int)):Option (List Int) :=
 (Qb fuel (Qfu p1 p0) (0,([]:(List Int)))).bind fun x9 =>
 some x9
def Qc0 (p0:Qc) (s1:(Int × (List Int))):Option (Qe (Int × (List Int)) (List Int)) :=
 if (decide (s1.1 < (p0.Nodes.length:Int)))=true then
  (lkI p0.Nodes s1.1).bind fun a4 =>
  if (s1.2++([a4.Card]:(List Int))).length*8<=140737488355328 then
   some (.next (zw (s1.1+1),(s1.2++([a4.Card]:(List Int)))))
  else none
 else
 some (.done s1.2)
def Qch (p0:Qc):Option (List Int) :=
 (Qb fuel (Qc0 p0) (0,([]:(List Int)))).bind fun x7 =>
 some x7
def Zh (p0:Qc) (p1:Int):Option (List Int) :=
 (Qch p0).bind fun x1 =>
 (lkI p0.Nodes p1).bind fun a3 =>
 (Qfy x1 a3.Parents).bind fun x5 =>
 some x5
def Jt (p1:Int) (p2:(List Int)) (p3:Int) (s1:(Int × Int × (List Int))):Option (Qe (Int × Int × (List Int)) (Int × (List Int))) :=
 if (decide (s1.2.1 < p1))=true then
  if (decide ((p2.length:Int) > 0))=true then
   if (p2.length:Int)≠0 then
    (lkI p2 (Int.tmod (zw (p3+s1.2.1)) (p2.length:Int))).bind fun a6 =>
    (lkI s1.2.2 s1.2.1).bind fun a8 =>
    some (.next (zw (s1.1+(zw (Int.tmod a6 8))),zw (s1.2.1+1),(List.set s1.2.2 (Int.toNat s1.2.1) (zw (Int.tmod a6 8)))))
   else none
  else
  (lkI s1.2.2 s1.2.1).bind fun a11 =>
  some (.next (zw (s1.1+a11),zw (s1.2.1+1),s1.2.2))
 else
 some (.done (s1.1,s1.2.2))
def Qd7 (p1:Int) (x14:(Int × (List Int))) (p0:Int) (s15:(Int × Int × Int × (List Int))):Option (Qe (Int × Int × Int × (List Int)) (Int × Int × (List Int))) :=
 if (decide (s15.2.2.1 < p1))=true then
  (lkI s15.2.2.2 s15.2.2.1).bind fun a18 =>
  if (decide (a18 > 0))=true then
   if x14.1≠0 then
    some (.next (zw (s15.1 - (zw (Int.tdiv (zw (p0*a18)) x14.1))),s15.2.2.1,zw (s15.2.2.1+1),(List.set s15.2.2.2 (Int.toNat s15.2.2.1) (zw (Int.tdiv (zw (p0*a18)) x14.1)))))
   else none
  else
  some (.next (zw (s15.1 - a18),s15.2.1,zw (s15.2.2.1+1),s15.2.2.2))
 else
 some (.done (s15.1,s15.2.1,s15.2.2.2))
def Qb7 (p0:Int) (p1:Int) (p2:(List Int)) (p3:Int):Option (List Int) :=
 if 0<=p1/\p1<=p1/\p1*8<=140737488355328 then
  (Qb fuel (Jt p1 p2 p3) (0,0,(List.replicate (Int.toNat p1) (0:Int)))).bind fun x14 =>
  (Qb fuel (Qd7 p1 x14 p0) (p0,0,0,x14.2)).bind fun x24 =>
  (lkI x24.2.2 x24.2.1).bind fun a25 =>
  some (List.set x24.2.2 (Int.toNat x24.2.1) (zw (a25+x24.1)))
 else none
def Y1 (p0:Qd) (x1:(List Int)) (s3:(Int × Int × (List (Int ⊕ Ad)))):Option (Qe (Int × Int × (List (Int ⊕ Ad))) (List (Int ⊕ Ad))) :=
 if (decide (s3.2.1 < (if 5 < (if 1 > (p0.Nodes.length:Int) then 1 else (p0.Nodes.length:Int)) then 5 else (if 1 > (p0.Nodes.length:Int) then 1 else (p0.Nodes.length:Int)))))=true then
  if (decide (s3.2.1 < (p0.Nodes.length:Int)))=true then
   (lkI p0.Nodes s3.2.1).bind fun a8 =>
   if 0<=(zv (zw ((zw ((if 5 < (if 1 > (p0.Nodes.length:Int) then 1 else (p0.Nodes.length:Int)) then 5 else (if 1 > (p0.Nodes.length:Int) then 1 else (p0.Nodes.length:Int))) - 1)) - s3.2.1))) then
    if (decide ((zw ((zw (s3.1*(zw (2+(zw (Int.tmod a8.Card 2))))))*2^min (Int.toNat (zv (zw ((zw ((if 5 < (if 1 > (p0.Nodes.length:Int) then 1 else (p0.Nodes.length:Int)) then 5 else (if 1 > (p0.Nodes.length:Int) then 1 else (p0.Nodes.length:Int))) - 1)) - s3.2.1)))) (IntKind.bits .i64))) > 100))=true then
     (lkI x1 s3.2.1).bind fun a12 =>
     (lkL s3.2.2 a12).bind fun a14 =>
     some (.next (zw (s3.1*2),zw (s3.2.1+1),(List.set s3.2.2 (Int.toNat a12) (Sum.inl 2))))
    else
    (lkI x1 s3.2.1).bind fun a17 =>
    (lkL s3.2.2 a17).bind fun a19 =>
    some (.next (zw (s3.1*(zw (2+(zw (Int.tmod a8.Card 2))))),zw (s3.2.1+1),(List.set s3.2.2 (Int.toNat a17) (Sum.inl (zw (2+(zw (Int.tmod a8.Card 2))))))))
   else none
  else
  if 0<=(zv (zw ((zw ((if 5 < (if 1 > (p0.Nodes.length:Int) then 1 else (p0.Nodes.length:Int)) then 5 else (if 1 > (p0.Nodes.length:Int) then 1 else (p0.Nodes.length:Int))) - 1)) - s3.2.1))) then
   if (decide ((zw ((zw (s3.1*(zw (2+(zw (Int.tmod 0 2))))))*2^min (Int.toNat (zv (zw ((zw ((if 5 < (if 1 > (p0.Nodes.length:Int) then 1 else (p0.Nodes.length:Int)) then 5 else (if 1 > (p0.Nodes.length:Int) then 1 else (p0.Nodes.length:Int))) - 1)) - s3.2.1)))) (IntKind.bits .i64))) > 100))=true then
    (lkI x1 s3.2.1).bind fun a24 =>
    (lkL s3.2.2 a24).bind fun a26 =>
    some (.next (zw (s3.1*2),zw (s3.2.1+1),(List.set s3.2.2 (Int.toNat a24) (Sum.inl 2))))
   else
   (lkI x1 s3.2.1).bind fun a29 =>
   (lkL s3.2.2 a29).bind fun a31 =>
   some (.next (zw (s3.1*(zw (2+(zw (Int.tmod 0 2))))),zw (s3.2.1+1),(List.set s3.2.2 (Int.toNat a29) (Sum.inl (zw (2+(zw (Int.tmod 0 2))))))))
  else none
 else
 some (.done s3.2.2)
def Y3 (s36:(Int × (List (Int ⊕ Ad)))) (x1:(List Int)) (s55:(Int × (List Int))) (a49:Qu) (s58:(Int × (List Int))):Option (Qe (Int × (List Int)) (List Int)) :=
 if (decide (s58.1 < s36.1))=true then
  (lkI x1 s58.1).bind fun a61 =>
  if (a61==s55.1)=true then
   if 0<=(zv (s58.1)) then
    if ((IntKind.u8.wrap (BitVec.ofInt (IntKind.bits .u8) (Int.fdiv a49.Parents (2^min (Int.toNat (zv (s58.1))) (IntKind.bits .u8))) &&& BitVec.ofInt (IntKind.bits .u8) 1).toNat)==1)=true then
     if (decide ((s58.2.length:Int) < 3))=true then
      if (s58.2++([s55.1]:(List Int))).length*8<=140737488355328 then
       some (.next (zw (s58.1+1),(s58.2++([s55.1]:(List Int)))))
      else none
     else
     some (.next (zw (s58.1+1),s58.2))
    else
    some (.next (zw (s58.1+1),s58.2))
   else none
  else
  some (.next (zw (s58.1+1),s58.2))
 else
 some (.done s58.2)
def X0 (p0:Qd) (s36:(Int × (List (Int ⊕ Ad)))) (x1:(List Int)) (a49:Qu) (s55:(Int × (List Int))):Option (Qe (Int × (List Int)) (List Int)) :=
 if (decide (s55.1 < (if 5 < (if 1 > (p0.Nodes.length:Int) then 1 else (p0.Nodes.length:Int)) then 5 else (if 1 > (p0.Nodes.length:Int) then 1 else (p0.Nodes.length:Int)))))=true then
  (Qb fuel (Y3 s36 x1 s55 a49) (0,s55.2)).bind fun x70 =>
  some (.next (zw (s55.1+1),x70))
 else
 some (.done s55.2)
def Y6 (p0:Qd) (s36:(Int × (List (Int ⊕ Ad)))) (a51:Int) (a53:Int) (x72:(List Int)) (a49:Qu) (s73:(Int × (List (List Int)))):Option (Qe (Int × (List (List Int))) (List (List Int))) :=
 (Zh (Qc.mk (zw (1+(zw (Int.tmod p0.Grain 60)))) (List.set (List.map Ag s36.2) (Int.toNat a51) (Ad.mk a53 x72 s73.2))) a51).bind fun x74 =>
 (Kx x74).bind fun x76 =>
 if (decide (s73.1 < x76))=true then
  (Qb7 (zw (1+(zw (Int.tmod p0.Grain 60)))) a53 a49.W (zw (s73.1*(zw (a53+1))))).bind fun x80 =>
  if (s73.2++([x80]:(List (List Int)))).length*24<=140737488355328 then
   some (.next (zw (s73.1+1),(s73.2++([x80]:(List (List Int))))))
  else none
 else
 some (.done s73.2)
def Qkm (s36:(Int × (List (Int ⊕ Ad)))) (x1:(List Int)) (s90:(Int × (List Int))) (s93:(Int × (List Int))):Option (Qe (Int × (List Int)) (List Int)) :=
 if (decide (s93.1 < s36.1))=true then
  (lkI x1 s93.1).bind fun a96 =>
  if (a96==s90.1)=true then
   if 0<=(zv (s93.1)) then
    if ((IntKind.u8.wrap (BitVec.ofInt (IntKind.bits .u8) (Int.fdiv 0 (2^min (Int.toNat (zv (s93.1))) (IntKind.bits .u8))) &&& BitVec.ofInt (IntKind.bits .u8) 1).toNat)==1)=true then
     if (decide ((s93.2.length:Int) < 3))=true then
      if (s93.2++([s90.1]:(List Int))).length*8<=140737488355328 then
       some (.next (zw (s93.1+1),(s93.2++([s90.1]:(List Int)))))
      else none
     else
     some (.next (zw (s93.1+1),s93.2))
    else
    some (.next (zw (s93.1+1),s93.2))
   else none
  else
  some (.next (zw (s93.1+1),s93.2))
 else
 some (.done s93.2)
def Qdx (p0:Qd) (s36:(Int × (List (Int ⊕ Ad)))) (x1:(List Int)) (s90:(Int × (List Int))):Option (Qe (Int × (List Int)) (List Int)) :=
 if (decide (s90.1 < (if 5 < (if 1 > (p0.Nodes.length:Int) then 1 else (p0.Nodes.length:Int)) then 5 else (if 1 > (p0.Nodes.length:Int) then 1 else (p0.Nodes.length:Int)))))=true then
  (Qb fuel (Qkm s36 x1 s90) (0,s90.2)).bind fun x105 =>
  some (.next (zw (s90.1+1),x105))
 else
 some (.done s90.2)
def Qkg (p0:Qd) (s36:(Int × (List (Int ⊕ Ad)))) (a86:Int) (a88:Int) (x107:(List Int)) (s108:(Int × (List (List Int)))):Option (Qe (Int × (List (List Int))) (List (List Int))) :=
 (Zh (Qc.mk (zw (1+(zw (Int.tmod p0.Grain 60)))) (List.set (List.map Ag s36.2) (Int.toNat a86) (Ad.mk a88 x107 s108.2))) a86).bind fun x109 =>
 (Kx x109).bind fun x111 =>
 if (decide (s108.1 < x111))=true then
  (Qb7 (zw (1+(zw (Int.tmod p0.Grain 60)))) a88 [] (zw (s108.1*(zw (a88+1))))).bind fun x115 =>
  if (s108.2++([x115]:(List (List Int)))).length*24<=140737488355328 then
   some (.next (zw (s108.1+1),(s108.2++([x115]:(List (List Int))))))
  else none
 else
 some (.done s108.2)
def Yy (p0:Qd) (x1:(List Int)) (s36:(Int × (List (Int ⊕ Ad)))):Option (Qe (Int × (List (Int ⊕ Ad))) (List (Int ⊕ Ad))) :=
 if (decide (s36.1 < (if 5 < (if 1 > (p0.Nodes.length:Int) then 1 else (p0.Nodes.length:Int)) then 5 else (if 1 > (p0.Nodes.length:Int) then 1 else (p0.Nodes.length:Int)))))=true then
  if (decide (s36.1 < (p0.Nodes.length:Int)))=true then
   (lkI p0.Nodes s36.1).bind fun a49 =>
   (lkI x1 s36.1).bind fun a51 =>
   (lkL s36.2 a51).bind fun a53 =>
   (Qb fuel (X0 p0 s36 x1 a49) (0,([]:(List Int)))).bind fun x72 =>
   (Qb fuel (Y6 p0 s36 a51 a53 x72 a49) (0,([]:(List (List Int))))).bind fun x83 =>
   some (.next (zw (s36.1+1),(List.set s36.2 (Int.toNat a51) (Sum.inr (Ad.mk a53 x72 x83)))))
  else
  (lkI x1 s36.1).bind fun a86 =>
  (lkL s36.2 a86).bind fun a88 =>
  (Qb fuel (Qdx p0 s36 x1) (0,([]:(List Int)))).bind fun x107 =>
  (Qb fuel (Qkg p0 s36 a86 a88 x107) (0,([]:(List (List Int))))).bind fun x118 =>
  some (.next (zw (s36.1+1),(List.set s36.2 (Int.toNat a86) (Sum.inr (Ad.mk a88 x107 x118)))))
 else
 some (.done s36.2)
def Jl (p0:Qd):Option Qc :=
 if 0<=(if 5 < (if 1 > (p0.Nodes.length:Int) then 1 else (p0.Nodes.length:Int)) then 5 else (if 1 > (p0.Nodes.length:Int) then 1 else (p0.Nodes.length:Int)))/\(if 5 < (if 1 > (p0.Nodes.length:Int) then 1 else (p0.Nodes.length:Int)) then 5 else (if 1 > (p0.Nodes.length:Int) then 1 else (p0.Nodes.length:Int)))<=(if 5 < (if 1 > (p0.Nodes.length:Int) then 1 else (p0.Nodes.length:Int)) then 5 else (if 1 > (p0.Nodes.length:Int) then 1 else (p0.Nodes.length:Int)))/\(if 5 < (if 1 > (p0.Nodes.length:Int) then 1 else (p0.Nodes.length:Int)) then 5 else (if 1 > (p0.Nodes.length:Int) then 1 else (p0.Nodes.length:Int)))*56<=140737488355328 then
  if 0<=(if 5 < (if 1 > (p0.Nodes.length:Int) then 1 else (p0.Nodes.length:Int)) then 5 else (if 1 > (p0.Nodes.length:Int) then 1 else (p0.Nodes.length:Int)))/\(if 5 < (if 1 > (p0.Nodes.length:Int) then 1 else (p0.Nodes.length:Int)) then 5 else (if 1 > (p0.Nodes.length:Int) then 1 else (p0.Nodes.length:Int)))<=(if 5 < (if 1 > (p0.Nodes.length:Int) then 1 else (p0.Nodes.length:Int)) then 5 else (if 1 > (p0.Nodes.length:Int) then 1 else (p0.Nodes.length:Int)))/\(if 5 < (if 1 > (p0.Nodes.length:Int) then 1 else (p0.Nodes.length:Int)) then 5 else (if 1 > (p0.Nodes.length:Int) then 1 else (p0.Nodes.length:Int)))*1<=140737488355328 then
   (Yv (Ae.mk (List.replicate (Int.toNat (if 5 < (if 1 > (p0.Nodes.length:Int) then 1 else (p0.Nodes.length:Int)) then 5 else (if 1 > (p0.Nodes.length:Int) then 1 else (p0.Nodes.length:Int)))) (0:Int)) 0 p0.Order)).bind fun x1 =>
   (Qb fuel (Y1 p0 x1) (1,0,(List.replicate (Int.toNat (if 5 < (if 1 > (p0.Nodes.length:Int) then 1 else (p0.Nodes.length:Int)) then 5 else (if 1 > (p0.Nodes.length:Int) then 1 else (p0.Nodes.length:Int)))) ((Sum.inl 0):(Int ⊕ Ad))))).bind fun x35 =>
   (Qb fuel (Yy p0 x1) (0,x35)).bind fun x122 =>
   (alr x122).bind fun m123 =>
   some (Qc.mk (zw (1+(zw (Int.tmod p0.Grain 60)))) m123)
  else none
 else none
def Xu (a4:Ad) (s6:(Int × (List (List Int)))):Option (Qe (Int × (List (List Int))) (List (List Int))) :=
 if (decide (s6.1 < (a4.Rows.length:Int)))=true then
  (lkI a4.Rows s6.1).bind fun a9 =>
  if a9.length*8<=140737488355328 then
   if (s6.2++[a9]).length*24<=140737488355328 then
    some (.next (zw (s6.1+1),(s6.2++[a9])))
   else none
  else none
 else
 some (.done s6.2)
def Yo (p1:Qc) (s1:(Int × (List Ad))):Option (Qe (Int × (List Ad)) (List Ad)) :=
 if (decide (s1.1 < (p1.Nodes.length:Int)))=true then
  (lkI p1.Nodes s1.1).bind fun a4 =>
  if a4.Parents.length*8<=140737488355328 then
   (Qb fuel (Xu a4) (0,([]:List (List Int)))).bind fun x12 =>
   if (s1.2++([(Ad.mk a4.Card a4.Parents x12)]:(List Ad))).length*56<=140737488355328 then
    some (.next (zw (s1.1+1),(s1.2++([(Ad.mk a4.Card a4.Parents x12)]:(List Ad)))))
   else none
  else none
 else
 some (.done s1.2)
def Qe1 (w0_0:Int) (w0_1:(List Ad)):Option Qc :=
 some (Qc.mk w0_0 w0_1)
def Qfd (a20:Ad) (s22:(Int × (List (List Int)))):Option (Qe (Int × (List (List Int))) (List (List Int))) :=
 if (decide (s22.1 < (a20.Rows.length:Int)))=true then
  (lkI a20.Rows s22.1).bind fun a25 =>
  if a25.length*8<=140737488355328 then
   if (s22.2++[a25]).length*24<=140737488355328 then
    some (.next (zw (s22.1+1),(s22.2++[a25])))
   else none
  else none
 else
 some (.done s22.2)
def Qe8 (a32:Ad) (s34:(Int × (List (List Int)))):Option (Qe (Int × (List (List Int))) (List (List Int))) :=
 if (decide (s34.1 < (a32.Rows.length:Int)))=true then
  (lkI a32.Rows s34.1).bind fun a37 =>
  if a37.length*8<=140737488355328 then
   if (s34.2++[a37]).length*24<=140737488355328 then
    some (.next (zw (s34.1+1),(s34.2++[a37])))
   else none
  else none
 else
 some (.done s34.2)
def V3 (p1:Qc) (y17:(Int × (List Ad))) (s29:(Int × (List Ad))):Option (Qe (Int × (List Ad)) (List Ad)) :=
 if (decide (s29.1 < (p1.Nodes.length:Int)))=true then
  (lkI p1.Nodes s29.1).bind fun a32 =>
  if a32.Parents.length*8<=140737488355328 then
   (Qb fuel (Qe8 a32) (0,([]:List (List Int)))).bind fun x40 =>
   (lkI s29.2 (y17.2.length:Int)).bind fun a41 =>
   if (s29.2++([(Ad.mk a32.Card a32.Parents x40)]:(List Ad))).length*56<=140737488355328 then
    some (.next (zw (s29.1+1),(s29.2++([(Ad.mk a32.Card a32.Parents x40)]:(List Ad)))))
   else none
  else none
 else
 some (.done s29.2)
def Qfg (w1_0:Int) (w1_1:(List Ad)) (w1_2:Int) (w1_3:Int) (w1_4:(List Int)) (w1_5:(List (List Int))):Option Qc :=
 (lkI w1_1 w1_2).bind fun a47 =>
 some (Qc.mk w1_0 (List.set w1_1 (Int.toNat w1_2) (Ad.mk w1_3 w1_4 w1_5)))
def Ql (w3_0:Int) (w3_1:(List Ad)) (w3_2:Int) (w3_3:Int) (w3_4:(List Int)) (w3_5:(List (List Int))):Option Qc :=
 (lkI w3_1 w3_2).bind fun a58 =>
 some (Qc.mk w3_0 (List.set w3_1 (Int.toNat w3_2) (Ad.mk w3_3 w3_4 w3_5)))
def Qbq (w4_0:Int) (w4_1:(List Ad)) (w4_2:Int) (w4_3:Int) (w4_4:(List (List Int))):Option Qc :=
 (lkI w4_1 w4_2).bind fun a74 =>
 some (Qc.mk w4_0 (List.set w4_1 (Int.toNat w4_2) (Ad.mk w4_3 [] w4_4)))
def Qbo (w5_0:Int) (w5_1:(List Ad)):Option Qc :=
 some (Qc.mk w5_0 w5_1)
def Qbc (w2_1:Int) (s136:(Int × Int × (List (List Int)))):Option (Qe (Int × Int × (List (List Int))) (List (List Int))) :=
 if (decide (s136.1 < s136.2.1))=true then
  (lkI s136.2.2 w2_1).bind fun a139 =>
  (lkI a139 s136.1).bind fun a141 =>
  (lkI a139 s136.2.1).bind fun a143 =>
  (lkI (List.set a139 (Int.toNat s136.1) a143) s136.2.1).bind fun a145 =>
  some (.next (zw (s136.1+1),zw (s136.2.1 - 1),(List.set (List.set s136.2.2 (Int.toNat w2_1) (List.set a139 (Int.toNat s136.1) a143)) (Int.toNat w2_1) (List.set (List.set a139 (Int.toNat s136.1) a143) (Int.toNat s136.2.1) a141))))
 else
 some (.done s136.2.2)
def Vt (w2_0:Nat) (w2_1:Int) (w2_2:Int) (w2_3:Int) (w2_4:Int) (w2_5:Int) (w2_6:Int) (w2_7:Int) (w2_8:(List Ad)) (w2_9:Int) (w2_10:Int) (w2_11:(List Int)) (w2_12:(List (List Int))):Option Qc :=
 if ((Int.tmod w2_2 12)==0)=true then
  Ql w2_5 w2_8 w2_9 w2_10 w2_11 w2_12
 else
 if ((Int.tmod w2_2 12)==1)=true then
  (lkI w2_8 w2_9).bind fun a64 =>
  Ql w2_6 w2_8 w2_9 w2_5 w2_11 w2_12
 else
 if ((Int.tmod w2_2 12)==2)=true then
  (lkI w2_8 w2_9).bind fun a68 =>
  if (w2_11++([w2_5]:(List Int))).length*8<=140737488355328 then
   Ql w2_6 w2_8 w2_9 w2_10 (w2_11++([w2_5]:(List Int))) w2_12
  else none
 else
 if ((Int.tmod w2_2 12)==3)=true then
  (lkI w2_8 w2_9).bind fun a72 =>
  Qbq w2_6 w2_8 w2_9 w2_10 w2_12
 else
 if ((Int.tmod w2_2 12)==4)=true then
  (lkI w2_8 w2_9).bind fun a80 =>
  if (w2_12++[([w2_5]:(List Int))]).length*24<=140737488355328 then
   Ql w2_6 w2_8 w2_9 w2_10 w2_11 (w2_12++[([w2_5]:(List Int))])
  else none
 else
 if ((Int.tmod w2_2 12)==5)=true then
  if (decide (w2_1>=0))=true then
   (lkI w2_8 w2_9).bind fun a86 =>
   if 0<=(0:Int)/\(0:Int)<=w2_1/\w2_1<=(w2_12.length:Int) then
    Qbo w2_6 (List.set w2_8 (Int.toNat w2_9) (Ad.mk w2_10 w2_11 (sub w2_12 0 w2_1)))
   else none
  else
  Ql w2_6 w2_8 w2_9 w2_10 w2_11 w2_12
 else
 if ((Int.tmod w2_2 12)==6)=true then
  if (decide (w2_1>=0))=true then
   (lkI w2_8 w2_9).bind fun a95 =>
   (lkI w2_12 w2_1).bind fun a97 =>
   if (decide ((a97.length:Int) > 0))=true then
    (lkI a97 0).bind fun a101 =>
    Ql w2_6 w2_8 w2_9 w2_10 w2_11 (List.set w2_12 (Int.toNat w2_1) (List.set a97 (Int.toNat 0) w2_5))
   else
   Ql w2_6 w2_8 w2_9 w2_10 w2_11 w2_12
  else
  Ql w2_6 w2_8 w2_9 w2_10 w2_11 w2_12
 else
 if ((Int.tmod w2_2 12)==7)=true then
  if (decide (w2_1>=0))=true then
   (lkI w2_12 w2_1).bind fun a108 =>
   (lkI w2_8 w2_9).bind fun a111 =>
   if (a108++([0]:(List Int))).length*8<=140737488355328 then
    Ql w2_6 w2_8 w2_9 w2_10 w2_11 (List.set (List.set w2_12 (Int.toNat w2_1) ([]:List Int)) (Int.toNat w2_1) (a108++([0]:(List Int))))
   else none
  else
  Ql w2_6 w2_8 w2_9 w2_10 w2_11 w2_12
 else
 if ((Int.tmod w2_2 12)==8)=true then
  if (decide (w2_1>=0))=true then
   (lkI w2_8 w2_9).bind fun a118 =>
   (lkI w2_12 w2_1).bind fun a120 =>
   if (decide ((a120.length:Int) > 0))=true then
    if 0<=(a120.length:Int)/\(a120.length:Int)<=(a120.length:Int)/\(a120.length:Int)*8<=140737488355328 then
     (lkI (List.replicate (Int.toNat (a120.length:Int)) (0:Int)) 0).bind fun a125 =>
     Ql w2_6 w2_8 w2_9 w2_10 w2_11 (List.set (List.set w2_12 (Int.toNat w2_1) (List.replicate (Int.toNat (a120.length:Int)) (0:Int))) (Int.toNat w2_1) (List.set (List.replicate (Int.toNat (a120.length:Int)) (0:Int)) (Int.toNat 0) w2_6))
    else none
   else
   Ql w2_6 w2_8 w2_9 w2_10 w2_11 w2_12
  else
  Ql w2_6 w2_8 w2_9 w2_10 w2_11 w2_12
 else
 if ((Int.tmod w2_2 12)==9)=true then
  if (decide (w2_1>=0))=true then
   (lkI w2_8 w2_9).bind fun a132 =>
   (lkI w2_12 w2_1).bind fun a134 =>
   (Qb fuel (Qbc w2_1) (0,zw ((a134.length:Int) - 1),w2_12)).bind fun x150 =>
   Ql w2_6 w2_8 w2_9 w2_10 w2_11 x150
  else
  Ql w2_6 w2_8 w2_9 w2_10 w2_11 w2_12
 else
 if ((Int.tmod w2_2 12)==10)=true then
  (lkI w2_8 w2_9).bind fun a153 =>
  if (w2_8++([(Ad.mk 1 [] [[w2_6]])]:(List Ad))).length*56<=140737488355328 then
   Ql w2_6 (w2_8++([(Ad.mk 1 [] [[w2_6]])]:(List Ad))) w2_9 w2_10 w2_11 w2_12
  else none
 else
 (lkI w2_8 w2_9).bind fun a155 =>
 if 0<=(0:Int)/\(0:Int)<=(zw ((((List.set w2_8 (Int.toNat w2_9) (Ad.mk w2_10 w2_11 w2_12)).length):Int) - 1))/\(zw ((((List.set w2_8 (Int.toNat w2_9) (Ad.mk w2_10 w2_11 w2_12)).length):Int) - 1))<=((List.set w2_8 (Int.toNat w2_9) (Ad.mk w2_10 w2_11 w2_12)).length:Int) then
  some (Qc.mk w2_6 (sub (List.set w2_8 (Int.toNat w2_9) (Ad.mk w2_10 w2_11 w2_12)) 0 (zw ((((List.set w2_8 (Int.toNat w2_9) (Ad.mk w2_10 w2_11 w2_12)).length):Int) - 1))))
 else none
def V9 (p0:Q9) (p1:Qc):Option Qc :=
 (Qb fuel (Qa7 (fun s=>decide (s.1=(Int.tmod (zw p0.At) (p1.Nodes.length:Int)))) (Yo p1)) (0,([]:(List Ad)))).bind fun x160=>match x160 with
 | .inl y17=>(
  if (decide (y17.1 < (p1.Nodes.length:Int)))=true then
   (lkI p1.Nodes y17.1).bind fun a20 =>
   if a20.Parents.length*8<=140737488355328 then
    (Qb fuel (Qfd a20) (0,([]:List (List Int)))).bind fun x28 =>
    if (y17.2++[(default:Ad)]).length*56<=140737488355328 then
     (Qb fuel (V3 p1 y17) (zw (y17.1+1),(y17.2++[(default:Ad)]))).bind fun x44 =>
     if ((x44.length:Int)==0)=true then
      Qfg p1.Grain x44 (y17.2.length:Int) a20.Card a20.Parents x28
     else
     if (x44.length:Int)≠0 then
      (lkI x44 (y17.2.length:Int)).bind fun a51 =>
      if Int.tmod (zw (p0.At)) (x44.length:Int)=(y17.2.length:Int) then
       if (decide ((x28.length:Int) > 0))=true then
        if (x28.length:Int)≠0 then
         Vt (Int.toNat (y17.2.length:Int)) (Int.tmod (zw (p0.Row)) (x28.length:Int)) p0.What p0.At p0.Row p0.N p1.Grain 0 x44 (y17.2.length:Int) a20.Card a20.Parents x28
        else none
       else
       Vt (Int.toNat (y17.2.length:Int)) (-1) p0.What p0.At p0.Row p0.N p1.Grain 0 x44 (y17.2.length:Int) a20.Card a20.Parents x28
      else none
     else none
    else none
   else none
  else
  none)
 | .inr x14=>(
  if ((x14.length:Int)==0)=true then
   Qe1 p1.Grain x14
  else
  none)
def V4 (p0:Qc) (s1:(Int × (List Int))) (s4:(Int × Int)):Option (Qe (Int × Int) Int) :=
 (lkI p0.Nodes s1.1).bind fun a5 =>
 if (decide (s4.2 < (a5.Parents.length:Int)))=true then
  (lkI a5.Parents s4.2).bind fun a9 =>
  if 0<=(zv (a9)) then
   some (.next (zv (zb s4.1 ||| zb (zv (1*2^min (Int.toNat (zv (a9))) zk))).toNat,zw (s4.2+1)))
  else none
 else
 some (.done s4.1)
def V5 (p0:Qc) (s1:(Int × (List Int))):Option (Qe (Int × (List Int)) (List Int)) :=
 if (decide (s1.1 < (p0.Nodes.length:Int)))=true then
  (Qb fuel (V4 p0 s1) (0,0)).bind fun x12 =>
  if (s1.2++([x12]:(List Int))).length*8<=140737488355328 then
   some (.next (zw (s1.1+1),(s1.2++([x12]:(List Int)))))
  else none
 else
 some (.done s1.2)
def Vu (p0:Qc):Option (List Int) :=
 (Qb fuel (V5 p0) (0,([]:(List Int)))).bind fun x14 =>
 some x14
def Jj (p0:(List Int)) (p1:Int) (s1:Int):Option (Qe Int (Unit ⊕ Unit)) :=
 if (decide (s1 < (p0.length:Int)))=true then
  (lkI p0 s1).bind fun a4 =>
  if (decide (a4 < 0))=true then
   some (.done (Sum.inl ()))
  else
  if (decide (a4>=p1))=true then
   some (.done (Sum.inl ()))
  else
  if (decide (s1 > 0))=true then
   (lkI p0 (zw (s1 - 1))).bind fun a12 =>
   if (decide (a4<=a12))=true then
    some (.done (Sum.inl ()))
   else
   some (.next (zw (s1+1)))
  else
  some (.next (zw (s1+1)))
 else
 some (.done (Sum.inr ()))
def Ky (p0:(List Int)) (p1:Int):Option Bool :=
 (Qb fuel (Jj p0 p1) 0).bind fun x16=>match x16 with
 | .inl x17=>(
  some false)
 | .inr x18=>(
  some true)
def Xm (p0:Int) (p1:Int):Option Bool :=
 if 0<=(zv (p1)) then
  some ((zv (zb (Int.fdiv p0 (2^min (Int.toNat (zv (p1))) zk)) &&& zb 1).toNat)==1)
 else none
def Qal (p0:(List Int)) (s4:(Int × Int)):Option (Qe (Int × Int) Int) :=
 if (decide (s4.2 < (p0.length:Int)))=true then
  (Xm s4.1 s4.2).bind fun x7 =>
  if x7=true then
   (lkI p0 s4.2).bind fun a11 =>
   some (.next (zv (zb s4.1 ||| zb a11).toNat,zw (s4.2+1)))
  else
  some (.next (s4.1,zw (s4.2+1)))
 else
 some (.done s4.1)
def Qcg (p0:(List Int)) (s1:(Int × Int)):Option (Qe (Int × Int) Int) :=
 if (decide (s1.2 < (p0.length:Int)))=true then
  (Qb fuel (Qal p0) (s1.1,0)).bind fun x14 =>
  some (.next (x14,zw (s1.2+1)))
 else
 some (.done s1.1)
def Qb0 (p0:(List Int)) (p1:Int):Option Int :=
 (Qb fuel (Qcg p0) (p1,0)).bind fun x16 =>
 some x16
def Vq (p0:(List Int)) (s1:Int):Option (Qe Int (Unit ⊕ Unit)) :=
 if (decide (s1 < (p0.length:Int)))=true then
  (lkI p0 s1).bind fun a4 =>
  (Qb0 p0 a4).bind fun x6 =>
  (Xm x6 s1).bind fun x8 =>
  if x8=true then
   some (.done (Sum.inl ()))
  else
  some (.next (zw (s1+1)))
 else
 some (.done (Sum.inr ()))
def Kf (p0:(List Int)):Option Bool :=
 (Qb fuel (Vq p0) 0).bind fun x12=>match x12 with
 | .inl x13=>(
  some false)
 | .inr x14=>(
  some true)
def Yj (p0:Qc) (s9:(Int × Int)):Option (Qe (Int × Int) (Unit ⊕ Int)) :=
 if (decide (s9.2 < (p0.Nodes.length:Int)))=true then
  (lkI p0.Nodes s9.2).bind fun a12 =>
  if (decide (a12.Card < 1))=true then
   some (.done (Sum.inl ()))
  else
  if (decide (a12.Card > 4))=true then
   some (.done (Sum.inl ()))
  else
  (Ky a12.Parents (p0.Nodes.length:Int)).bind fun x18 =>
  if (!x18)=true then
   some (.done (Sum.inl ()))
  else
  some (.next (zw (s9.1*a12.Card),zw (s9.2+1)))
 else
 some (.done (Sum.inr s9.1))
def Yh (a47:(List Int)) (p0:Qc) (s51:(Int × Int)):Option (Qe (Int × Int) (Unit ⊕ Int)) :=
 if (decide (s51.2 < (a47.length:Int)))=true then
  (lkI a47 s51.2).bind fun a54 =>
  if (decide (a54 < 0))=true then
   some (.done (Sum.inl ()))
  else
  if (decide (a54 > p0.Grain))=true then
   some (.done (Sum.inl ()))
  else
  some (.next (zw (s51.1+a54),zw (s51.2+1)))
 else
 some (.done (Sum.inr s51.1))
def Yk (a36:Ad) (p0:Qc) (s44:Int):Option (Qe Int (Unit ⊕ Unit)) :=
 if (decide (s44 < (a36.Rows.length:Int)))=true then
  (lkI a36.Rows s44).bind fun a47 =>
  if ((a47.length:Int) != a36.Card)=true then
   some (.done (Sum.inl ()))
  else
  (Qb fuel (Yh a47 p0) (0,0)).bind fun x60=>match x60 with
  | .inl x61=>(
   some (.done (Sum.inl ())))
  | .inr x62=>(
   if (x62 != p0.Grain)=true then
    some (.done (Sum.inl ()))
   else
   some (.next (zw (s44+1))))
 else
 some (.done (Sum.inr ()))
def Yi (p0:Qc) (s33:Int):Option (Qe Int (Unit ⊕ Unit)) :=
 if (decide (s33 < (p0.Nodes.length:Int)))=true then
  (lkI p0.Nodes s33).bind fun a36 =>
  (Zh p0 s33).bind fun x38 =>
  (Kx x38).bind fun x40 =>
  if ((a36.Rows.length:Int) != x40)=true then
   some (.done (Sum.inl ()))
  else
  (Qb fuel (Yk a36 p0) 0).bind fun x65=>match x65 with
  | .inl x66=>(
   some (.done (Sum.inl ())))
  | .inr x67=>(
   some (.next (zw (s33+1))))
 else
 some (.done (Sum.inr ()))
def Jf (p0:Qc):Option Bool :=
 if (decide (p0.Grain < 1))=true then
  some false
 else
 if (decide (p0.Grain > 60))=true then
  some false
 else
 if (decide ((p0.Nodes.length:Int) < 1))=true then
  some false
 else
 if (decide ((p0.Nodes.length:Int) > 8))=true then
  some false
 else
 (Qb fuel (Yj p0) (1,0)).bind fun x22=>match x22 with
 | .inl x23=>(
  some false)
 | .inr x24=>(
  if (decide (x24 > 1024))=true then
   some false
  else
  (Vu p0).bind fun x27 =>
  (Kf x27).bind fun x29 =>
  if (!x29)=true then
   some false
  else
  (Qb fuel (Yi p0) 0).bind fun x68=>match x68 with
  | .inl x69=>(
   some false)
  | .inr x70=>(
   some true))
def Qag (p0:Int) (p1:(Int × Int × Int × Int × Int × Int × Int × Int)) (s1:(Int × Int × Int × Int × Int)):Option (Qe (Int × Int × Int × Int × Int) (Int × Int × Int × Int)) :=
 if (decide (s1.1 < p0))=true then
  (lkI ([p1.1,p1.2.1,p1.2.2.1,p1.2.2.2.1,p1.2.2.2.2.1,p1.2.2.2.2.2.1,p1.2.2.2.2.2.2.1,p1.2.2.2.2.2.2.2]:(List Int)) s1.1).bind fun a4 =>
  if (decide ((Int.tmod a4 5) < 4))=true then
   (lkI ([s1.2.1,s1.2.2.1,s1.2.2.2.1,s1.2.2.2.2]:(List Int)) (Int.tmod a4 5)).bind fun a8 =>
   if 0<=(zv (s1.1)) then
    some (.next (zw (s1.1+1),(if Int.tmod a4 5=0 then zv (zb a8 ||| zb (zv (1*2^min (Int.toNat (zv (s1.1))) zk))).toNat else s1.2.1),(if Int.tmod a4 5=1 then zv (zb a8 ||| zb (zv (1*2^min (Int.toNat (zv (s1.1))) zk))).toNat else s1.2.2.1),(if Int.tmod a4 5=2 then zv (zb a8 ||| zb (zv (1*2^min (Int.toNat (zv (s1.1))) zk))).toNat else s1.2.2.2.1),(if Int.tmod a4 5=3 then zv (zb a8 ||| zb (zv (1*2^min (Int.toNat (zv (s1.1))) zk))).toNat else s1.2.2.2.2)))
   else none
  else
  some (.next (zw (s1.1+1),s1.2.1,s1.2.2.1,s1.2.2.2.1,s1.2.2.2.2))
 else
 some (.done (s1.2.1,s1.2.2.1,s1.2.2.2.1,s1.2.2.2.2))
def Qci (p0:Int) (p1:(Int × Int × Int × Int × Int × Int × Int × Int)):Option (Int × Int × Int × Int) :=
 (Qb fuel (Qag p0 p1) (0,0,0,0,0)).bind fun x11 =>
 some (x11.1,x11.2.1,x11.2.2.1,x11.2.2.2)
def Kc (p0:(List Int)) (p1:Int) (p2:Int) (s1:(Int × (List Int))):Option (Qe (Int × (List Int)) (List Int)) :=
 if (decide (s1.1 < (p0.length:Int)))=true then
  (lkI p0 s1.1).bind fun a4 =>
  (Xm p1 s1.1).bind fun x6 =>
  if x6=true then
   if (s1.2++([0]:(List Int))).length*8<=140737488355328 then
    some (.next (zw (s1.1+1),(s1.2++([0]:(List Int)))))
   else none
  else
  if (s1.2++([zv (zb a4 &&& ~~~ zb p2).toNat]:(List Int))).length*8<=140737488355328 then
   some (.next (zw (s1.1+1),(s1.2++([zv (zb a4 &&& ~~~ zb p2).toNat]:(List Int)))))
  else none
 else
 some (.done s1.2)
def V8 (p0:(List Int)) (p1:Int) (p2:Int):Option (List Int) :=
 (Qb fuel (Kc p0 p1 p2) (0,([]:(List Int)))).bind fun x11 =>
 some x11
def Jw (p0:(List Int)) (s13:Int):Option (Qe Int Unit) :=
 if (decide (s13 < (p0.length:Int)))=true then
  some (.next (zw (s13+1)))
 else
 some (.done ())
def Jz (p0:(List Int)) (s1:(Int × (List Int))) (s4:(Int × (List Int))) (s27:(Bool × Int)):Option (Qe (Bool × Int) Bool) :=
 if (decide (s27.2 < (p0.length:Int)))=true then
  if s27.1=true then
   some (.next (true,zw (s27.2+1)))
  else
  (lkI p0 s27.2).bind fun a32 =>
  (Xm a32 s1.1).bind fun x34 =>
  if x34=true then
   (Xm a32 s4.1).bind fun x38 =>
   some (.next (x38,zw (s27.2+1)))
  else
  some (.next (false,zw (s27.2+1)))
 else
 some (.done s27.1)
def Jv (p0:(List Int)) (s1:(Int × (List Int))) (s4:(Int × (List Int))):Option (Qe (Int × (List Int)) (List Int)) :=
 if (decide (s4.1 < (p0.length:Int)))=true then
  (lkI p0 s1.1).bind fun a7 =>
  (Xm a7 s4.1).bind fun x9 =>
  if x9=true then
   (Qb fuel (Jw p0) 0).bind fun x17 =>
   if (s1.1 != s4.1)=true then
    (lkI s4.2 s1.1).bind fun a20 =>
    if 0<=(zv (s4.1)) then
     some (.next (zw (s4.1+1),(List.set s4.2 (Int.toNat s1.1) (zv (zb a20 ||| zb (zv (1*2^min (Int.toNat (zv (s4.1))) zk))).toNat))))
    else none
   else
   some (.next (zw (s4.1+1),s4.2))
  else
  (lkI p0 s4.1).bind fun a23 =>
  (Xm a23 s1.1).bind fun x25 =>
  (Qb fuel (Jz p0 s1 s4) (x25,0)).bind fun x41 =>
  if (s1.1 != s4.1)=true then
   if x41=true then
    (lkI s4.2 s1.1).bind fun a46 =>
    if 0<=(zv (s4.1)) then
     some (.next (zw (s4.1+1),(List.set s4.2 (Int.toNat s1.1) (zv (zb a46 ||| zb (zv (1*2^min (Int.toNat (zv (s4.1))) zk))).toNat))))
    else none
   else
   some (.next (zw (s4.1+1),s4.2))
  else
  some (.next (zw (s4.1+1),s4.2))
 else
 some (.done s4.2)
def K8 (p0:(List Int)) (s1:(Int × (List Int))):Option (Qe (Int × (List Int)) (List Int)) :=
 if (decide (s1.1 < (p0.length:Int)))=true then
  (Qb fuel (Jv p0 s1) (0,s1.2)).bind fun x50 =>
  some (.next (zw (s1.1+1),x50))
 else
 some (.done s1.2)
def Qcl (p0:(List Int)):Option (List Int) :=
 if 0<=(p0.length:Int)/\(p0.length:Int)<=(p0.length:Int)/\(p0.length:Int)*8<=140737488355328 then
  (Qb fuel (K8 p0) (0,(List.replicate (Int.toNat (p0.length:Int)) (0:Int)))).bind fun x52 =>
  some x52
 else none
def Jy (p0:(List Int)) (x1:Int) (s3:(Int × (List Int))):Option (Qe (Int × (List Int)) (List Int)) :=
 if (decide (s3.1 < (p0.length:Int)))=true then
  (lkI p0 s3.1).bind fun a6 =>
  (Xm x1 s3.1).bind fun x8 =>
  if (!x8)=true then
   if (s3.2++([0]:(List Int))).length*8<=140737488355328 then
    some (.next (zw (s3.1+1),(s3.2++([0]:(List Int)))))
   else none
  else
  if (s3.2++([a6]:(List Int))).length*8<=140737488355328 then
   some (.next (zw (s3.1+1),(s3.2++([a6]:(List Int)))))
  else none
 else
 some (.done s3.2)
def J3 (x14:(List Int)) (p3:Int) (x1:Int) (s19:(Int × Int)):Option (Qe (Int × Int) Int) :=
 if (decide (s19.2 < (x14.length:Int)))=true then
  (Xm s19.1 s19.2).bind fun x22 =>
  if x22=true then
   (Xm p3 s19.2).bind fun x26 =>
   if (!x26)=true then
    (lkI x14 s19.2).bind fun a30 =>
    some (.next (zv (zb s19.1 ||| zb (zv (zb a30 &&& zb x1).toNat)).toNat,zw (s19.2+1)))
   else
   some (.next (s19.1,zw (s19.2+1)))
  else
  some (.next (s19.1,zw (s19.2+1)))
 else
 some (.done s19.1)
def J1 (x14:(List Int)) (p3:Int) (x1:Int) (s16:(Int × Int)):Option (Qe (Int × Int) Int) :=
 if (decide (s16.2 < (x14.length:Int)))=true then
  (Qb fuel (J3 x14 p3 x1) (s16.1,0)).bind fun x33 =>
  some (.next (x33,zw (s16.2+1)))
 else
 some (.done s16.1)
def Y8 (p0:(List Int)) (p1:Int) (p2:Int) (p3:Int):Option Bool :=
 (Qb0 p0 (zv (zb (zv (zb p1 ||| zb p2).toNat) ||| zb p3).toNat)).bind fun x1 =>
 (Qb fuel (Jy p0 x1) (0,([]:(List Int)))).bind fun x13 =>
 (Qcl x13).bind fun x14 =>
 (Qb fuel (J1 x14 p3 x1) (p1,0)).bind fun x35 =>
 some ((zv (zb (zv (zb x35 &&& ~~~ zb p3).toNat) &&& zb p2).toNat)==0)
def Qa5 (p0:(List Int)) (p1:Int) (p2:Int) (p3:Int) (p4:Int) (p5:Int):Option Bool :=
 (V8 p0 p4 0).bind fun x1 =>
 if (p1==2)=true then
  (V8 p0 p4 p3).bind fun x5 =>
  (Y8 x5 p2 p3 (zv (zb p4 ||| zb p5).toNat)).bind fun x7 =>
  some x7
 else
 if (p1==3)=true then
  (Qb0 x1 p5).bind fun x11 =>
  (V8 p0 (zv (zb p4 ||| zb (zv (zb p3 &&& ~~~ zb x11).toNat)).toNat) 0).bind fun x13 =>
  (Y8 x13 p2 p3 (zv (zb p4 ||| zb p5).toNat)).bind fun x15 =>
  some x15
 else
 (Y8 x1 p2 p3 (zv (zb p4 ||| zb p5).toNat)).bind fun x17 =>
 some x17
def J0 (p0:Qc) (p1:Int) (p2:Int) (p3:Int) (p4:Int) (p5:Int):Option (Bool × Int) :=
 (Jf p0).bind fun x1 =>
 if (!x1)=true then
  some (false,50)
 else
 if 0<=(zv ((p0.Nodes.length:Int))) then
  if ((Int.fdiv (zv (zb (zv (zb (zv (zb p2 ||| zb p3).toNat) ||| zb p4).toNat) ||| zb p5).toNat) (2^min (Int.toNat (zv ((p0.Nodes.length:Int)))) zk)) != 0)=true then
   some (false,2)
  else
  if (decide (p1 < 1))=true then
   some (false,2)
  else
  if (decide (p1 > 3))=true then
   some (false,2)
  else
  if ((zv (zb p2 &&& zb p3).toNat) != 0)=true then
   some (false,2)
  else
  if ((zv (zb p2 &&& zb p4).toNat) != 0)=true then
   some (false,2)
  else
  if ((zv (zb p2 &&& zb p5).toNat) != 0)=true then
   some (false,2)
  else
  if ((zv (zb p3 &&& zb p4).toNat) != 0)=true then
   some (false,2)
  else
  if ((zv (zb p3 &&& zb p5).toNat) != 0)=true then
   some (false,2)
  else
  if ((zv (zb p4 &&& zb p5).toNat) != 0)=true then
   some (false,2)
  else
  (Vu p0).bind fun x23 =>
  (Qa5 x23 p1 p2 p3 p4 p5).bind fun x25 =>
  some (x25,0)
 else none
def Vb (p3:Int) (a10:Qc) (a15:(Int × Int × Int × Int)) (s17:Int):Option (Qe Int (Unit ⊕ Unit)) :=
 if (decide (s17 < 5))=true then
  (lkI ([1,2,3,0,p3]:(List Int)) s17).bind fun a20 =>
  (Kj a10 a20 a15.1 a15.2.1 a15.2.2.1 a15.2.2.2).bind fun x22 =>
  (J0 a10 a20 a15.1 a15.2.1 a15.2.2.1 a15.2.2.2).bind fun x24 =>
  if (!(x22.1==x24.1))=true then
   some (.done (Sum.inl ()))
  else
  if (x22.2 != x24.2)=true then
   some (.done (Sum.inl ()))
  else
  some (.next (zw (s17+1)))
 else
 some (.done (Sum.inr ()))
def Vf (x3:(Int × Int × Int × Int)) (p4:(Int × Int × Int × Int)) (p3:Int) (a10:Qc) (s12:Int):Option (Qe Int (Unit ⊕ Unit)) :=
 if (decide (s12 < 3))=true then
  (lkI ([(x3.1,x3.2.1,x3.2.2.1,x3.2.2.2),(p4.1,p4.2.1,p4.2.2.1,p4.2.2.2),(x3.1,x3.2.1,x3.2.2.1,p4.2.2.2)]:(List (Int × Int × Int × Int))) s12).bind fun a15 =>
  (Qb fuel (Vb p3 a10 a15) 0).bind fun x30=>match x30 with
  | .inl x31=>(
   some (.done (Sum.inl ())))
  | .inr x32=>(
   some (.next (zw (s12+1))))
 else
 some (.done (Sum.inr ()))
def J5 (x1:Qc) (x5:Qc) (x3:(Int × Int × Int × Int)) (p4:(Int × Int × Int × Int)) (p3:Int) (s7:Int):Option (Qe Int (Unit ⊕ Unit)) :=
 if (decide (s7 < 2))=true then
  (lkI ([x1,x5]:(List Qc)) s7).bind fun a10 =>
  (Qb fuel (Vf x3 p4 p3 a10) 0).bind fun x33=>match x33 with
  | .inl x34=>(
   some (.done (Sum.inl ())))
  | .inr x35=>(
   some (.next (zw (s7+1))))
 else
 some (.done (Sum.inr ()))
def Qcr (p0:Qd) (p1:Q9) (p2:(Int × Int × Int × Int × Int × Int × Int × Int)) (p3:Int) (p4:(Int × Int × Int × Int)):Option Bool :=
 (Jl p0).bind fun x1 =>
 (Qci (x1.Nodes.length:Int) (p2.1,p2.2.1,p2.2.2.1,p2.2.2.2.1,p2.2.2.2.2.1,p2.2.2.2.2.2.1,p2.2.2.2.2.2.2.1,p2.2.2.2.2.2.2.2)).bind fun x3 =>
 (V9 p1 x1).bind fun x5 =>
 (Qb fuel (J5 x1 x5 x3 p4 p3) 0).bind fun x36=>match x36 with
 | .inl x37=>(
  some false)
 | .inr x38=>(
  (Qfk).bind fun x39 =>
  some x39)
end Go.Ab
