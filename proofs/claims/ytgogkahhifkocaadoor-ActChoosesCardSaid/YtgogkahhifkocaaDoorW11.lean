/- Functions. No conditions. -/
import Derived.Test.YtgogkahhifkocaaDoorEng10
set_option linter.all false
namespace Go.Ab
open Go
structure Ad where
 Card:Int
 Parents:(List Int)
 Rows:(List (List Int))
 deriving DecidableEq,Inhabited
@[reducible] def Ai (x:Ad):AV:=.agg [vI x.Card,eL true eI x.Parents,eL false (eL true eI) x.Rows]
@[reducible] def Am (x:Int ⊕ Ad):AV:=match x with | .inl c=>.agg [vI c,.nils,.nils] | .inr y=>Ai y
def Ah (x:Int ⊕ Ad):Ad:=match x with | .inl c=>⟨c,[],[]⟩ | .inr y=>y
structure Qa where
 Grain:Int
 Nodes:(List Ad)
 deriving DecidableEq,Inhabited
@[reducible] def Q2e (x:Qa):AV:=.agg [vI x.Grain,eL false Ai x.Nodes]
structure Q7 where
 Net:Qa
 cards:(List Int)
 sets:(List Int)
 order:(List Int)
 deriving DecidableEq,Inhabited
structure Ae where
 N:Int
 D:Int
 deriving DecidableEq,Inhabited
@[reducible] def Aj (x:Ae):AV:=.agg [vI x.N,vI x.D]
structure Ac where
 parents:(List Int)
 deriving DecidableEq,Inhabited
structure Aa where
 sets:Ac
 deriving DecidableEq,Inhabited
structure Yx where
 parents:(List Int)
 deriving DecidableEq,Inhabited
structure Q3 where
 ancestry:Yx
 children:(List Int)
 deriving DecidableEq,Inhabited
structure Ag where
 node:Int
 down:Bool
 deriving DecidableEq,Inhabited
@[reducible] def Al (x:Ag):AV:=.agg [vI x.node,vB x.down]
@[reducible] def An (a b:Ag):Bool:=(a.node==b.node) && ((a.down==b.down) && true)
structure Af where
 C:(List Int)
 Which:Int
 Order:(List Int)
 deriving DecidableEq,Inhabited
structure Qz where
 Card:Int
 Parents:Int
 W:(List Int)
 deriving DecidableEq,Inhabited
@[reducible] def Ak (x:Qz):AV:=.agg [.int .u8 x.Card,.int .u8 x.Parents,eL true (AV.int .u8) x.W]
structure Qe where
 Grain:Int
 Nodes:(List Qz)
 Order:(List Int)
 deriving DecidableEq,Inhabited
@[reducible] def eTharuspexref05_Draft (x:Qe):AV:=.agg [.int .u8 x.Grain,eL false Ak x.Nodes,eL true (AV.int .u8) x.Order]
structure Za where
 What : Int
 At:Int
 Row:Int
 N:Int
 deriving DecidableEq,Inhabited
@[reducible] def eTharuspexref05_Bend (x:Za):AV:=.agg [.int .u8 x.What,.int .u8 x.At,.int .u8 x.Row,vI x.N]
def Xc (p1:Ad) (p0:Q7) (s1:(Int × Int)):Option (Qf (Int × Int) Int) :=
 if (decide (s1.2 < (p1.Parents.length:Int)))=true then
  (lkI p1.Parents s1.2).bind fun a4 =>
  (lkI p0.cards a4).bind fun a6 =>
  some (.next (zw (s1.1*a6),zw (s1.2+1)))
 else
 some (.done s1.1)
def Q5 (a15:(List Int)) (s17:(Int × Int)):Option (Qf (Int × Int) (Unit ⊕ Int)) :=
 if (decide (s17.2 < (a15.length:Int)))=true then
  (lkI a15 s17.2).bind fun a20 =>
  if (decide (a20 < 0))=true then
   some (.done (Sum.inl ()))
  else
  if (decide (a20 > s17.1))=true then
   some (.done (Sum.inl ()))
  else
  some (.next (zw (s17.1 - a20),zw (s17.2+1)))
 else
 some (.done (Sum.inr s17.1))
def Zp (p1:Ad) (p0:Q7) (s12:Int):Option (Qf Int (Unit ⊕ Unit)) :=
 if (decide (s12 < (p1.Rows.length:Int)))=true then
  (lkI p1.Rows s12).bind fun a15 =>
  (Qb fuel (Q5 a15) (p0.Net.Grain,0)).bind fun x26=>match x26 with
  | .inl x27=>(
   some (.done (Sum.inl ())))
  | .inr x28=>(
   if ((a15.length:Int) != p1.Card)=true then
    some (.done (Sum.inl ()))
   else
   if (x28 != 0)=true then
    some (.done (Sum.inl ()))
   else
   some (.next (zw (s12+1))))
 else
 some (.done (Sum.inr ()))
def Xf (p0:Q7) (p1:Ad):Option Bool :=
 (Qb fuel (Xc p1 p0) (1,0)).bind fun x9 =>
 if ((p1.Rows.length:Int) != x9)=true then
  some false
 else
 (Qb fuel (Zp p1 p0) 0).bind fun x33=>match x33 with
 | .inl x34=>(
  some false)
 | .inr x35=>(
  some true)
def Jg (p0:(List Int)) (s1:(Int × (List Int))) (s4:Int):Option (Qf Int ((Int × (List Int)) ⊕ Unit)) :=
 if (decide (s4 < (p0.length:Int)))=true then
  (lkI p0 s4).bind fun a7 =>
  if 0<=s4 then
   if ((zv (zb (Int.fdiv s1.1 (2^min (Int.toNat s4) zk)) &&& zb 1).toNat)==0)=true then
    if ((zv (zb a7 &&& ~~~ zb s1.1).toNat)==0)=true then
     if (s1.2++([s4]:(List Int))).length*8<=140737488355328 then
      if 0<=s4 then
       some (.done (Sum.inl (zv (zb s1.1 ||| zb (zv (1*2^min (Int.toNat s4) zk))).toNat,(s1.2++([s4]:(List Int))))))
      else none
     else none
    else
    some (.next (zw (s4+1)))
   else
   some (.next (zw (s4+1)))
  else none
 else
 some (.done (Sum.inr ()))
def Xt (p0:(List Int)) (s1:(Int × (List Int))):Option (Qf (Int × (List Int)) (Unit ⊕ (List Int))) :=
 if (decide ((s1.2.length:Int) < (p0.length:Int)))=true then
  (Qb fuel (Jg p0 s1) 0).bind fun x13=>match x13 with
  | .inl x14=>(
   some (.next (x14.1,x14.2)))
  | .inr x15=>(
   some (.done (Sum.inl ())))
 else
 some (.done (Sum.inr s1.2))
def Vw (p0:(List Int)):Option ((List Int) × Bool) :=
 if 0<=(0:Int)/\(0:Int)<=(p0.length:Int)/\(p0.length:Int)*8<=140737488355328 then
  (Qb fuel (Xt p0) (0,(List.replicate (Int.toNat 0) (0:Int)))).bind fun x16=>match x16 with
  | .inl x17=>(
   some (([]:(List Int)),false))
  | .inr x18=>(
   some (x18,true))
 else none
def X1 (p0:Qa) (s9:(Int × Int × (List Int))):Option (Qf (Int × Int × (List Int)) (Unit ⊕ (Int × (List Int)))) :=
 if (decide (s9.2.1 < (p0.Nodes.length:Int)))=true then
  (lkI p0.Nodes s9.2.1).bind fun a12 =>
  if (decide (a12.Card < 1))=true then
   some (.done (Sum.inl ()))
  else
  if (decide (a12.Card > 4))=true then
   some (.done (Sum.inl ()))
  else
  (lkI s9.2.2 s9.2.1).bind fun a18 =>
  some (.next (zw (s9.1*a12.Card),zw (s9.2.1+1),(List.set s9.2.2 (Int.toNat s9.2.1) a12.Card)))
 else
 some (.done (Sum.inr (s9.1,s9.2.2)))
def X4 (a29:Ad) (p0:Qa) (s26:(Int × (List Int))) (s31:(Int × Int × (List Int))):Option (Qf (Int × Int × (List Int)) (Unit ⊕ (List Int))) :=
 if (decide (s31.2.1 < (a29.Parents.length:Int)))=true then
  (lkI a29.Parents s31.2.1).bind fun a34 =>
  if (decide (a34<=s31.1))=true then
   some (.done (Sum.inl ()))
  else
  if (decide (a34>=(p0.Nodes.length:Int)))=true then
   some (.done (Sum.inl ()))
  else
  if (a34==s26.1)=true then
   some (.done (Sum.inl ()))
  else
  (lkI s31.2.2 s26.1).bind fun a42 =>
  if 0<=a34 then
   some (.next (a34,zw (s31.2.1+1),(List.set s31.2.2 (Int.toNat s26.1) (zv (zb a42 ||| zb (zv (1*2^min (Int.toNat a34) zk))).toNat))))
  else none
 else
 some (.done (Sum.inr s31.2.2))
def X3 (p0:Qa) (x23:(Int × (List Int))) (s26:(Int × (List Int))):Option (Qf (Int × (List Int)) (Unit ⊕ (List Int))) :=
 if (decide (s26.1 < (p0.Nodes.length:Int)))=true then
  (lkI p0.Nodes s26.1).bind fun a29 =>
  (Qb fuel (X4 a29 p0 s26) (-1,0,s26.2)).bind fun x45=>match x45 with
  | .inl x46=>(
   some (.done (Sum.inl ())))
  | .inr x47=>(
   (Xf (Q7.mk p0 x23.2 x47 []) a29).bind fun x48 =>
   if (!x48)=true then
    some (.done (Sum.inl ()))
   else
   some (.next (zw (s26.1+1),x47)))
 else
 some (.done (Sum.inr s26.2))
def Ym (p0:Qa):Option (Q7 × Int) :=
 if (decide (p0.Grain < 1))=true then
  some ((Q7.mk (Qa.mk 0 []) [] [] []),50)
 else
 if (decide (p0.Grain > 60))=true then
  some ((Q7.mk (Qa.mk 0 []) [] [] []),50)
 else
 if (decide ((p0.Nodes.length:Int) < 1))=true then
  some ((Q7.mk (Qa.mk 0 []) [] [] []),50)
 else
 if (decide ((p0.Nodes.length:Int) > 8))=true then
  some ((Q7.mk (Qa.mk 0 []) [] [] []),50)
 else
 if 0<=(p0.Nodes.length:Int)/\(p0.Nodes.length:Int)<=(p0.Nodes.length:Int)/\(p0.Nodes.length:Int)*8<=140737488355328 then
  if 0<=(p0.Nodes.length:Int)/\(p0.Nodes.length:Int)<=(p0.Nodes.length:Int)/\(p0.Nodes.length:Int)*8<=140737488355328 then
   (Qb fuel (X1 p0) (1,0,(List.replicate (Int.toNat (p0.Nodes.length:Int)) (0:Int)))).bind fun x21=>match x21 with
   | .inl x22=>(
    some ((Q7.mk (Qa.mk 0 []) [] [] []),50))
   | .inr x23=>(
    if (decide (x23.1 > 1024))=true then
     some ((Q7.mk (Qa.mk 0 []) [] [] []),50)
    else
    (Qb fuel (X3 p0 x23) (0,(List.replicate (Int.toNat (p0.Nodes.length:Int)) (0:Int)))).bind fun x52=>match x52 with
    | .inl x53=>(
     some ((Q7.mk (Qa.mk 0 []) [] [] []),50))
    | .inr x54=>(
     (Vw x54).bind fun x55 =>
     if (!x55.2)=true then
      some ((Q7.mk (Qa.mk 0 []) [] [] []),50)
     else
     some ((Q7.mk p0 x23.2 x54 x55.1),0)))
  else none
 else none
def Qfp (p0:Qa):Option Int :=
 (Ym p0).bind fun x1 =>
 some x1.2
def Zv (p1:(List Int)) (x1:(Q7 × Int)) (s7:Int):Option (Qf Int (Unit ⊕ Unit)) :=
 if (decide (s7 < (p1.length:Int)))=true then
  (lkI p1 s7).bind fun a10 =>
  if (decide (a10 < (-1)))=true then
   some (.done (Sum.inl ()))
  else
  (lkI x1.1.cards s7).bind fun a14 =>
  if (decide (a10>=a14))=true then
   some (.done (Sum.inl ()))
  else
  some (.next (zw (s7+1)))
 else
 some (.done (Sum.inr ()))
def Yh (p0:Qa) (p1:(List Int)):Option Int :=
 (Ym p0).bind fun x1 =>
 if (x1.2 != 0)=true then
  some x1.2
 else
 if ((p1.length:Int) != (x1.1.Net.Nodes.length:Int))=true then
  some 2
 else
 (Qb fuel (Zv p1 x1) 0).bind fun x18=>match x18 with
 | .inl x19=>(
  some 2)
 | .inr x20=>(
  some 0)
def Qb7 (p1:(List (List Int))) (p0:Qa) (s5:Int):Option (Qf Int (Int ⊕ Unit)) :=
 if (decide (s5 < (p1.length:Int)))=true then
  (lkI p1 s5).bind fun a8 =>
  (Yh p0 a8).bind fun x10 =>
  if (x10 != 0)=true then
   some (.done (Sum.inl x10))
  else
  some (.next (zw (s5+1)))
 else
 some (.done (Sum.inr ()))
def Y1 (p0:Qa) (p1:(List (List Int))):Option Int :=
 (Qfp p0).bind fun x1 =>
 if (x1 != 0)=true then
  some x1
 else
 (Qb fuel (Qb7 p1 p0) 0).bind fun x14=>match x14 with
 | .inl x15=>(
  some x15)
 | .inr x16=>(
  some 0)
def Qxw (a8:Ad) (s21:(Int × (List (List Int)))):Option (Qf (Int × (List (List Int))) (List (List Int))) :=
 if (decide (s21.1 < (a8.Rows.length:Int)))=true then
  (lkI a8.Rows s21.1).bind fun a24 =>
  if a24.length*8<=140737488355328 then
   if (s21.2++([a24]:(List (List Int)))).length*24<=140737488355328 then
    some (.next (zw (s21.1+1),(s21.2++([a24]:(List (List Int))))))
   else none
  else none
 else
 some (.done s21.2)
def Qx6 (p0:Qa) (p1:(List Int)) (s5:(Int × (List Ad))):Option (Qf (Int × (List Ad)) (List Ad)) :=
 if (decide (s5.1 < (p0.Nodes.length:Int)))=true then
  (lkI p0.Nodes s5.1).bind fun a8 =>
  (lkI p1 s5.1).bind fun a10 =>
  if (decide (a10>=0))=true then
   if 0<=a8.Card/\a8.Card<=a8.Card/\a8.Card*8<=140737488355328 then
    (lkI (List.replicate (Int.toNat a8.Card) (0:Int)) a10).bind fun a14 =>
    (lkI s5.2 s5.1).bind fun a16 =>
    some (.next (zw (s5.1+1),(List.set s5.2 (Int.toNat s5.1) (Ad.mk a8.Card [] [(List.set (List.replicate (Int.toNat a8.Card) (0:Int)) (Int.toNat a10) p0.Grain)]))))
   else none
  else
  if a8.Parents.length*8<=140737488355328 then
   (Qb fuel (Qxw a8) (0,([]:(List (List Int))))).bind fun x27 =>
   (lkI s5.2 s5.1).bind fun a28 =>
   some (.next (zw (s5.1+1),(List.set s5.2 (Int.toNat s5.1) (Ad.mk a8.Card a8.Parents x27))))
  else none
 else
 some (.done s5.2)
def Qv2 (p0:Qa) (p1:(List Int)):Option (Qa × Int) :=
 (Y1 p0 [p1]).bind fun x1 =>
 if (x1 != 0)=true then
  some ((Qa.mk 0 ([]:(List Ad))),x1)
 else
 if 0<=(p0.Nodes.length:Int)/\(p0.Nodes.length:Int)<=(p0.Nodes.length:Int)/\(p0.Nodes.length:Int)*56<=140737488355328 then
  (Qb fuel (Qx6 p0 p1) (0,(List.replicate (Int.toNat (p0.Nodes.length:Int)) ((Ad.mk 0 [] []):Ad)))).bind fun x32 =>
  some ((Qa.mk p0.Grain x32),0)
 else none
def Qcb (a4:Ad) (p0:Qa) (p2:(List Int)) (s8:(Int × Int)):Option (Qf (Int × Int) Int) :=
 if (decide (s8.2 < (a4.Parents.length:Int)))=true then
  (lkI a4.Parents s8.2).bind fun a11 =>
  (lkI p0.Nodes a11).bind fun a13 =>
  (lkI p2 a11).bind fun a15 =>
  some (.next (zw ((zw (s8.1*a13.Card))+a15),zw (s8.2+1)))
 else
 some (.done s8.1)
def Qcg (p0:Qa) (p1:Int) (p2:(List Int)) (s1:(Int × Int)):Option (Qf (Int × Int) Int) :=
 if (decide (s1.2 < (p0.Nodes.length:Int)))=true then
  (lkI p0.Nodes s1.2).bind fun a4 =>
  if 0<=s1.2 then
   if ((zv (zb (Int.fdiv p1 (2^min (Int.toNat s1.2) zk)) &&& zb 1).toNat)==1)=true then
    some (.next (s1.1,zw (s1.2+1)))
   else
   (Qb fuel (Qcb a4 p0 p2) (0,0)).bind fun x18 =>
   (lkI a4.Rows x18).bind fun a19 =>
   (lkI p2 s1.2).bind fun a21 =>
   (lkI a19 a21).bind fun a23 =>
   some (.next (zw (s1.1*a23),zw (s1.2+1)))
  else none
 else
 some (.done s1.1)
def Qax (p0:Qa) (p1:Int) (p2:(List Int)):Option Int :=
 (Qb fuel (Qcg p0 p1 p2) (1,0)).bind fun x26 =>
 some x26
def Qs9 (p0:(List Int)) (s1:(Int × Int)):Option (Qf (Int × Int) Int) :=
 if (decide (s1.2 < (p0.length:Int)))=true then
  (lkI p0 s1.2).bind fun a4 =>
  if (decide (a4>=0))=true then
   if 0<=s1.2 then
    some (.next (zv (zb s1.1 ||| zb (zv (1*2^min (Int.toNat s1.2) zk))).toNat,zw (s1.2+1)))
   else none
  else
  some (.next (s1.1,zw (s1.2+1)))
 else
 some (.done s1.1)
def Qfr (p0:(List Int)):Option Int :=
 (Qb fuel (Qs9 p0) (0,0)).bind fun x9 =>
 some x9
def Ko (p0:Int):Option Int :=
 if (decide (p0 < 0))=true then
  some (zv (0 - (zv (p0))))
 else
 some (zv (p0))
def Qik  (s1:(Int × Int)):Option (Qf (Int × Int) Int) :=
 if (s1.2 != 0)=true then
  if s1.2≠0 then
   some (.next (s1.2,Int.tmod s1.1 s1.2))
  else none
 else
 some (.done s1.1)
def Qc5 (p0:Int) (p1:Int):Option Int :=
 (Qb fuel (Qik) (p0,p1)).bind fun x5 =>
 some x5
def Ql6 (p0:Bool) (p1:(Int × Int)) (p2:(Int × Int)):Option Ae :=
 if (p1.1 != 0)=true then
  none
 else
 if (decide (p1.2 > 4611686018427387903))=true then
  none
 else
 if (p2.1 != 0)=true then
  none
 else
 if (decide (p2.2 > 4611686018427387903))=true then
  none
 else
 if p0=true then
  some (Ae.mk (zw (0 - (zw (p1.2)))) (zw (p2.2)))
 else
 some (Ae.mk (zw (p1.2)) (zw (p2.2)))
def Qdi (c0:Int) (c1:Int):Option Ae :=
 (Ko c0).bind fun x1 =>
 (Ko c1).bind fun x3 =>
 (Qc5 x1 x3).bind fun x5 =>
 (Ko c0).bind fun x7 =>
 if x5≠0 then
  (Ko c1).bind fun x9 =>
  if x5≠0 then
   (Ql6 (!((decide (c0 < 0))==(decide (c1 < 0)))) (0,zv (Int.tdiv x7 x5)) (0,zv (Int.tdiv x9 x5))).bind fun x11 =>
   some x11
  else none
 else none
def Qay (p0:Int) (p1:Int):Option (Ae × Int) :=
 if (p1==0)=true then
  some ((Ae.mk 0 0),2)
 else
 (Qdi p0 p1).bind fun x3 =>
 some (x3,0)
def Qcd (p0:Qa) (p1:Int) (s1:(Int × Int)):Option (Qf (Int × Int) Int) :=
 if (decide (s1.2 < (p0.Nodes.length:Int)))=true then
  if 0<=s1.2 then
   if ((zv (zb (Int.fdiv p1 (2^min (Int.toNat s1.2) zk)) &&& zb 1).toNat)==0)=true then
    some (.next (zw (s1.1*p0.Grain),zw (s1.2+1)))
   else
   some (.next (s1.1,zw (s1.2+1)))
  else none
 else
 some (.done s1.1)
def Qcw (p0:Qa) (p1:Int):Option Int :=
 (Qb fuel (Qcd p0 p1) (1,0)).bind fun x7 =>
 some x7
def Qrw (p1:(List Int)) (p2:(List Int)) (s10:(Int × Int × (List Int))) (s19:(Int × Int × (List Int))) (s22:Int):Option (Qf Int (Unit ⊕ Unit)) :=
 if (decide (s22 < ((([p1,p2]:(List (List Int))).length):Int)))=true then
  (lkI ([p1,p2]:(List (List Int))) s22).bind fun a25 =>
  (lkI a25 s10.1).bind fun a27 =>
  if (decide (a27>=0))=true then
   if (a27 != s19.1)=true then
    some (.done (Sum.inl ()))
   else
   some (.next (zw (s22+1)))
  else
  some (.next (zw (s22+1)))
 else
 some (.done (Sum.inr ()))
def Qqv (a17:Ad) (p1:(List Int)) (p2:(List Int)) (s10:(Int × Int × (List Int))) (r11:((Int × Int × (List Int))->Option (Int × (List Int)))) (s19:(Int × Int × (List Int))):Option (Qf (Int × Int × (List Int)) (Int × (List Int))) :=
 if (decide (s19.1 < a17.Card))=true then
  (Qb fuel (Qrw p1 p2 s10 s19) 0).bind fun x33=>match x33 with
  | .inl x34=>(
   some (.next (zw (s19.1+1),s19.2.1,s19.2.2)))
  | .inr x35=>(
   (lkI s19.2.2 s10.1).bind fun a36 =>
   (r11 (zw (s10.1+1),s19.2.1,(List.set s19.2.2 (Int.toNat s10.1) s19.1))).bind fun x38 =>
   some (.next (zw (s19.1+1),x38.1,x38.2)))
 else
 some (.done (s19.2.1,s19.2.2))
def Qrr (p0:Qa) (x5:Int) (p1:(List Int)) (p2:(List Int)) (r11:((Int × Int × (List Int))->Option (Int × (List Int)))) (s10:(Int × Int × (List Int))):Option (Int × (List Int)) :=
 if (s10.1==(s10.2.2.length:Int))=true then
  (Qax p0 x5 s10.2.2).bind fun x15 =>
  some (zw (s10.2.1+x15),s10.2.2)
 else
 (lkI p0.Nodes s10.1).bind fun a17 =>
 (Qb fuel (Qqv a17 p1 p2 s10 r11) (0,s10.2.1,s10.2.2)).bind fun x41 =>
 some (x41.1,x41.2)
def Qio (p0:Qa) (p1:(List Int)) (p2:(List Int)):Option (Ae × Int) :=
 (Y1 p0 [p1,p2]).bind fun x1 =>
 if (x1 != 0)=true then
  some ((Ae.mk 0 0),x1)
 else
 (Qfr p1).bind fun x5 =>
 if 0<=(p0.Nodes.length:Int)/\(p0.Nodes.length:Int)<=(p0.Nodes.length:Int)/\(p0.Nodes.length:Int)*8<=140737488355328 then
  (Qfh (Qrr p0 x5 p1 p2) fuel (0,0,(List.replicate (Int.toNat (p0.Nodes.length:Int)) (0:Int)))).bind fun x42 =>
  (Qfr p1).bind fun x44 =>
  (Qcw p0 x44).bind fun x46 =>
  (Qay x42.1 x46).bind fun x48 =>
  some (x48.1,x48.2)
 else none
def Qq4 (p1:(List Int)) (p2:(List Int)) (s16:(Int × Int × (List Int) × (List Int))) (s30:(Int × Int × (List Int) × (List Int))) (s33:Int):Option (Qf Int (Unit ⊕ Unit)) :=
 if (decide (s33 < ((([p1,p2]:(List (List Int))).length):Int)))=true then
  (lkI ([p1,p2]:(List (List Int))) s33).bind fun a36 =>
  (lkI a36 s16.1).bind fun a38 =>
  if (decide (a38>=0))=true then
   if (a38 != s30.1)=true then
    some (.done (Sum.inl ()))
   else
   some (.next (zw (s33+1)))
  else
  some (.next (zw (s33+1)))
 else
 some (.done (Sum.inr ()))
def Qrj (a28:Ad) (p1:(List Int)) (p2:(List Int)) (s16:(Int × Int × (List Int) × (List Int))) (r17:((Int × Int × (List Int) × (List Int))->Option (Int × (List Int) × (List Int)))) (s30:(Int × Int × (List Int) × (List Int))):Option (Qf (Int × Int × (List Int) × (List Int)) (Int × (List Int) × (List Int))) :=
 if (decide (s30.1 < a28.Card))=true then
  (Qb fuel (Qq4 p1 p2 s16 s30) 0).bind fun x44=>match x44 with
  | .inl x45=>(
   some (.next (zw (s30.1+1),s30.2.1,s30.2.2.1,s30.2.2.2)))
  | .inr x46=>(
   (lkI s30.2.2.2 s16.1).bind fun a47 =>
   (r17 (zw (s16.1+1),s30.2.1,s30.2.2.1,(List.set s30.2.2.2 (Int.toNat s16.1) s30.1))).bind fun x49 =>
   some (.next (zw (s30.1+1),x49.1,x49.2.1,x49.2.2)))
 else
 some (.done (s30.2.1,s30.2.2.1,s30.2.2.2))
def Qqz (p0:Qa) (x11:Int) (p3:Int) (p1:(List Int)) (p2:(List Int)) (r17:((Int × Int × (List Int) × (List Int))->Option (Int × (List Int) × (List Int)))) (s16:(Int × Int × (List Int) × (List Int))):Option (Int × (List Int) × (List Int)) :=
 if (s16.1==(s16.2.2.2.length:Int))=true then
  (Qax p0 x11 s16.2.2.2).bind fun x21 =>
  (lkI s16.2.2.2 p3).bind fun a23 =>
  (lkI s16.2.2.1 a23).bind fun a25 =>
  some (zw (s16.2.1+x21),(List.set s16.2.2.1 (Int.toNat a23) (zw (a25+x21))),s16.2.2.2)
 else
 (lkI p0.Nodes s16.1).bind fun a28 =>
 (Qb fuel (Qrj a28 p1 p2 s16 r17) (0,s16.2.1,s16.2.2.1,s16.2.2.2)).bind fun x52 =>
 some (x52.1,x52.2.1,x52.2.2)
def Qrk (x53:(Int × (List Int) × (List Int))) (s57:(Int × (List Ae))):Option (Qf (Int × (List Ae)) (Int ⊕ (List Ae))) :=
 if (decide (s57.1 < (x53.2.1.length:Int)))=true then
  (lkI x53.2.1 s57.1).bind fun a60 =>
  (Qay a60 x53.1).bind fun x62 =>
  if (x62.2 != 0)=true then
   some (.done (Sum.inl x62.2))
  else
  (lkI s57.2 s57.1).bind fun a66 =>
  some (.next (zw (s57.1+1),(List.set s57.2 (Int.toNat s57.1) x62.1)))
 else
 some (.done (Sum.inr s57.2))
def Qh6 (p0:Qa) (p1:(List Int)) (p2:(List Int)) (p3:Int):Option ((List Ae) × Int) :=
 (Y1 p0 [p1,p2]).bind fun x1 =>
 if (x1 != 0)=true then
  some (([]:(List Ae)),x1)
 else
 if (decide (p3 < 0))=true then
  some (([]:(List Ae)),2)
 else
 if (decide (p3>=(p0.Nodes.length:Int)))=true then
  some (([]:(List Ae)),2)
 else
 (lkI p0.Nodes p3).bind fun a9 =>
 if 0<=a9.Card/\a9.Card<=a9.Card/\a9.Card*8<=140737488355328 then
  (Qfr p1).bind fun x11 =>
  if 0<=(p0.Nodes.length:Int)/\(p0.Nodes.length:Int)<=(p0.Nodes.length:Int)/\(p0.Nodes.length:Int)*8<=140737488355328 then
   (Qfh (Qqz p0 x11 p3 p1 p2) fuel (0,0,(List.replicate (Int.toNat a9.Card) (0:Int)),(List.replicate (Int.toNat (p0.Nodes.length:Int)) (0:Int)))).bind fun x53 =>
   if (x53.1==0)=true then
    some (([]:(List Ae)),7)
   else
   if 0<=(x53.2.1.length:Int)/\(x53.2.1.length:Int)<=(x53.2.1.length:Int)/\(x53.2.1.length:Int)*16<=140737488355328 then
    (Qb fuel (Qrk x53) (0,(List.replicate (Int.toNat (x53.2.1.length:Int)) ((Ae.mk 0 0):Ae)))).bind fun x69=>match x69 with
    | .inl x70=>(
     some (([]:(List Ae)),x70))
    | .inr x71=>(
     some (x71,0))
   else none
  else none
 else none
def Qa6 (p0:(List Int)) (p1:(List Int)) (s3:Int):Option (Qf Int (Unit ⊕ Unit)) :=
 if (decide (s3 < (p0.length:Int)))=true then
  (lkI p0 s3).bind fun a6 =>
  (lkI p1 s3).bind fun a8 =>
  if (a6 != a8)=true then
   some (.done (Sum.inl ()))
  else
  some (.next (zw (s3+1)))
 else
 some (.done (Sum.inr ()))
def Vz (p0:(List Int)) (p1:(List Int)):Option Bool :=
 if ((p0.length:Int) != (p1.length:Int))=true then
  some false
 else
 (Qb fuel (Qa6 p0 p1) 0).bind fun x12=>match x12 with
 | .inl x13=>(
  some false)
 | .inr x14=>(
  some true)
def Qno (a8:Ad) (a10:Ad) (s20:Int):Option (Qf Int (Unit ⊕ Unit)) :=
 if (decide (s20 < (a8.Rows.length:Int)))=true then
  (lkI a8.Rows s20).bind fun a23 =>
  (lkI a10.Rows s20).bind fun a25 =>
  (Vz a23 a25).bind fun x27 =>
  if (!x27)=true then
   some (.done (Sum.inl ()))
  else
  some (.next (zw (s20+1)))
 else
 some (.done (Sum.inr ()))
def Qm8 (p0:Qa) (p1:Qa) (s5:Int):Option (Qf Int (Unit ⊕ Unit)) :=
 if (decide (s5 < (p0.Nodes.length:Int)))=true then
  (lkI p0.Nodes s5).bind fun a8 =>
  (lkI p1.Nodes s5).bind fun a10 =>
  if (a8.Card != a10.Card)=true then
   some (.done (Sum.inl ()))
  else
  (Vz a8.Parents a10.Parents).bind fun x14 =>
  if (!x14)=true then
   some (.done (Sum.inl ()))
  else
  if ((a8.Rows.length:Int) != (a10.Rows.length:Int))=true then
   some (.done (Sum.inl ()))
  else
  (Qb fuel (Qno a8 a10) 0).bind fun x31=>match x31 with
  | .inl x32=>(
   some (.done (Sum.inl ())))
  | .inr x33=>(
   some (.next (zw (s5+1))))
 else
 some (.done (Sum.inr ()))
def Qjm (p0:Qa) (p1:Qa):Option Bool :=
 if (p0.Grain != p1.Grain)=true then
  some false
 else
 if ((p0.Nodes.length:Int) != (p1.Nodes.length:Int))=true then
  some false
 else
 (Qb fuel (Qm8 p0 p1) 0).bind fun x34=>match x34 with
 | .inl x35=>(
  some false)
 | .inr x36=>(
  some true)
def Ks (p0:Qa) (p1:Int) (p2:(List Int)) (s1:(Int × Int)):Option (Qf (Int × Int) Int) :=
 if (decide (s1.2 < (p0.Nodes.length:Int)))=true then
  (lkI p0.Nodes s1.2).bind fun a4 =>
  if 0<=s1.2 then
   if ((zv (zb (Int.fdiv p1 (2^min (Int.toNat s1.2) zk)) &&& zb 1).toNat)==1)=true then
    (lkI p2 s1.2).bind fun a8 =>
    some (.next (zw ((zw (s1.1*a4.Card))+a8),zw (s1.2+1)))
   else
   some (.next (s1.1,zw (s1.2+1)))
  else none
 else
 some (.done s1.1)
def Qb1 (p0:Qa) (p1:Int) (p2:(List Int)):Option Int :=
 (Qb fuel (Ks p0 p1 p2) (0,0)).bind fun x11 =>
 some x11
def Qa7 (p1:Int) (p0:Qa) (s1:(Int × Int × (List Int))):Option (Qf (Int × Int × (List Int)) (List Int)) :=
 if (decide (s1.2.1>=0))=true then
  if 0<=s1.2.1 then
   if ((zv (zb (Int.fdiv p1 (2^min (Int.toNat s1.2.1) zk)) &&& zb 1).toNat)==0)=true then
    (lkI s1.2.2 s1.2.1).bind fun a6 =>
    some (.next (s1.1,zw (s1.2.1 - 1),(List.set s1.2.2 (Int.toNat s1.2.1) (-1))))
   else
   (lkI p0.Nodes s1.2.1).bind fun a9 =>
   if a9.Card≠0 then
    (lkI s1.2.2 s1.2.1).bind fun a11 =>
    if a9.Card≠0 then
     some (.next (zw (Int.tdiv s1.1 a9.Card),zw (s1.2.1 - 1),(List.set s1.2.2 (Int.toNat s1.2.1) (Int.tmod s1.1 a9.Card))))
    else none
   else none
  else none
 else
 some (.done s1.2.2)
def Qeb (p0:Qa) (p1:Int) (p2:Int):Option (List Int) :=
 if 0<=(p0.Nodes.length:Int)/\(p0.Nodes.length:Int)<=(p0.Nodes.length:Int)/\(p0.Nodes.length:Int)*8<=140737488355328 then
  (Qb fuel (Qa7 p1 p0) (p2,zw ((((List.replicate (Int.toNat (p0.Nodes.length:Int)) (0:Int)).length):Int) - 1),(List.replicate (Int.toNat (p0.Nodes.length:Int)) (0:Int)))).bind fun x15 =>
  some x15
 else none
def Qaq (p0:Qa) (p1:Int) (s17:(Int × Int)):Option (Qf (Int × Int) Int) :=
 if (decide (s17.2 < (p0.Nodes.length:Int)))=true then
  (lkI p0.Nodes s17.2).bind fun a20 =>
  if 0<=s17.2 then
   if ((zv (zb (Int.fdiv p1 (2^min (Int.toNat s17.2) zk)) &&& zb 1).toNat)==1)=true then
    some (.next (zw (s17.1*a20.Card),zw (s17.2+1)))
   else
   some (.next (s17.1,zw (s17.2+1)))
  else none
 else
 some (.done s17.1)
def Quq  (s47:Unit):Option (Qf Unit Unit) :=
 some (.done ())
def Qda (a42:Ad) (s26:(Int × (List Int) × (List Int))) (r27:((Int × (List Int) × (List Int))->Option ((List Int) × (List Int)))) (s44:(Int × (List Int) × (List Int))):Option (Qf (Int × (List Int) × (List Int)) ((List Int) × (List Int))) :=
 if (decide (s44.1 < a42.Card))=true then
  (Qb fuel (Quq) ()).bind fun x49 =>
  (lkI s44.2.2 s26.1).bind fun a50 =>
  (r27 (zw (s26.1+1),s44.2.1,(List.set s44.2.2 (Int.toNat s26.1) s44.1))).bind fun x52 =>
  some (.next (zw (s44.1+1),x52.1,x52.2))
 else
 some (.done (s44.2.1,s44.2.2))
def Qam (p0:Qa) (p1:Int) (p2:Int) (p3:Int) (r27:((Int × (List Int) × (List Int))->Option ((List Int) × (List Int)))) (s26:(Int × (List Int) × (List Int))):Option ((List Int) × (List Int)) :=
 if (s26.1==(s26.2.2.length:Int))=true then
  (Qax p0 p1 s26.2.2).bind fun x31 =>
  (lkI s26.2.2 p2).bind fun a33 =>
  if (a33==p3)=true then
   (Qb1 p0 p1 s26.2.2).bind fun x37 =>
   (lkI s26.2.1 x37).bind fun a39 =>
   some ((List.set s26.2.1 (Int.toNat x37) (zw (a39+x31))),s26.2.2)
  else
  some (s26.2.1,s26.2.2)
 else
 (lkI p0.Nodes s26.1).bind fun a42 =>
 (Qb fuel (Qda a42 s26 r27) (0,s26.2.1,s26.2.2)).bind fun x55 =>
 some (x55.1,x55.2)
def Qar (x56:((List Int) × (List Int))) (s58:(Int × Int)):Option (Qf (Int × Int) Int) :=
 if (decide (s58.2 < (x56.1.length:Int)))=true then
  (lkI x56.1 s58.2).bind fun a61 =>
  (lkI x56.1 s58.1).bind fun a63 =>
  if (decide (a61 > a63))=true then
   some (.next (s58.2,zw (s58.2+1)))
  else
  some (.next (s58.1,zw (s58.2+1)))
 else
 some (.done s58.1)
def Jp (p0:Qa) (p1:Int) (p2:Int) (p3:Int):Option ((List Int) × Ae × Int) :=
 (Y1 p0 []).bind fun x1 =>
 if (x1 != 0)=true then
  some (([]:(List Int)),(Ae.mk 0 0),x1)
 else
 if 0<=(p0.Nodes.length:Int) then
  if ((Int.fdiv p1 (2^min (Int.toNat (p0.Nodes.length:Int)) zk)) != 0)=true then
   some (([]:(List Int)),(Ae.mk 0 0),2)
  else
  if (decide (p2 < 0))=true then
   some (([]:(List Int)),(Ae.mk 0 0),2)
  else
  if (decide (p2>=(p0.Nodes.length:Int)))=true then
   some (([]:(List Int)),(Ae.mk 0 0),2)
  else
  if (decide (p3 < 0))=true then
   some (([]:(List Int)),(Ae.mk 0 0),2)
  else
  (lkI p0.Nodes p2).bind fun a13 =>
  if (decide (p3>=a13.Card))=true then
   some (([]:(List Int)),(Ae.mk 0 0),2)
  else
  (Qb fuel (Qaq p0 p1) (1,0)).bind fun x25 =>
  if 0<=x25/\x25<=x25/\x25*8<=140737488355328 then
   if 0<=(p0.Nodes.length:Int)/\(p0.Nodes.length:Int)<=(p0.Nodes.length:Int)/\(p0.Nodes.length:Int)*8<=140737488355328 then
    (Qfh (Qam p0 p1 p2 p3) fuel (0,(List.replicate (Int.toNat x25) (0:Int)),(List.replicate (Int.toNat (p0.Nodes.length:Int)) (0:Int)))).bind fun x56 =>
    (Qb fuel (Qar x56) (0,0)).bind fun x68 =>
    (lkI x56.1 x68).bind fun a69 =>
    (Qcw p0 p1).bind fun x71 =>
    (Qay a69 x71).bind fun x73 =>
    if (x73.2 != 0)=true then
     some (([]:(List Int)),(Ae.mk 0 0),x73.2)
    else
    (Qeb p0 p1 x68).bind fun x77 =>
    some (x77,x73.1,0)
   else none
  else none
 else none
def Ke  : Option Qa :=
 some (Qa.mk 4 ([(Ad.mk 2 [] [[1,3]]),(Ad.mk 2 [0] [[3,1],[1,3]]),(Ad.mk 2 [0,1] [[4,0],[2,2],[1,3],[0,4]])]:(List Ad)))
def Qgs (p0:Aa) (p1:Int) (s1:(Int × (List Int))):Option (Qf (Int × (List Int)) (List Int)) :=
 if (decide (s1.1 < (p0.sets.parents.length:Int)))=true then
  if 0<=s1.1 then
   if ((zv (zb (Int.fdiv p1 (2^min (Int.toNat s1.1) zk)) &&& zb 1).toNat)==1)=true then
    (lkI s1.2 s1.1).bind fun a6 =>
    some (.next (zw (s1.1+1),(List.set s1.2 (Int.toNat s1.1) 0)))
   else
   some (.next (zw (s1.1+1),s1.2))
  else none
 else
 some (.done s1.2)
def Ya (p0:Aa) (p1:Int):Option Aa :=
 if p0.sets.parents.length*8<=140737488355328 then
  (Qb fuel (Qgs p0 p1) (0,p0.sets.parents)).bind fun x10 =>
  some (Aa.mk (Ac.mk x10))
 else none
def Qgw (p0:Aa) (p1:Int) (p2:Int) (p3:Int):Option Aa :=
 (Ya p0 p2).bind fun x1 =>
 some x1
def Qhi (p0:Aa) (p1:Int) (s1:(Int × (List Int))):Option (Qf (Int × (List Int)) (List Int)) :=
 if (decide (s1.1 < (p0.sets.parents.length:Int)))=true then
  (lkI s1.2 s1.1).bind fun a4 =>
  some (.next (zw (s1.1+1),(List.set s1.2 (Int.toNat s1.1) (zv (zb a4 &&& ~~~ zb p1).toNat))))
 else
 some (.done s1.2)
def Qcz (p0:Aa) (p1:Int):Option Aa :=
 if p0.sets.parents.length*8<=140737488355328 then
  (Qb fuel (Qhi p0 p1) (0,p0.sets.parents)).bind fun x8 =>
  some (Aa.mk (Ac.mk x8))
 else none
def Qf6 (p0:Aa) (p1:Int) (p2:Int) (p3:Int):Option Aa :=
 (Ya p0 p2).bind fun x1 =>
 (Qcz x1 p1).bind fun x3 =>
 some x3
def Qh8 (p0:Aa) (p1:Int) (s1:(Int × Bool × Bool × Bool × Bool × Bool × Bool × Bool × Bool)):Option (Qf (Int × Bool × Bool × Bool × Bool × Bool × Bool × Bool × Bool) (Bool × Bool × Bool × Bool × Bool × Bool × Bool × Bool)) :=
 if (decide (s1.1 < (p0.sets.parents.length:Int)))=true then
  if 0<=s1.1 then
   (lkI ([s1.2.1,s1.2.2.1,s1.2.2.2.1,s1.2.2.2.2.1,s1.2.2.2.2.2.1,s1.2.2.2.2.2.2.1,s1.2.2.2.2.2.2.2.1,s1.2.2.2.2.2.2.2.2]:(List Bool)) s1.1).bind fun a4 =>
   some (.next (zw (s1.1+1),(if s1.1=0 then ((zv (zb (Int.fdiv p1 (2^min (Int.toNat s1.1) zk)) &&& zb 1).toNat)==1) else s1.2.1),(if s1.1=1 then ((zv (zb (Int.fdiv p1 (2^min (Int.toNat s1.1) zk)) &&& zb 1).toNat)==1) else s1.2.2.1),(if s1.1=2 then ((zv (zb (Int.fdiv p1 (2^min (Int.toNat s1.1) zk)) &&& zb 1).toNat)==1) else s1.2.2.2.1),(if s1.1=3 then ((zv (zb (Int.fdiv p1 (2^min (Int.toNat s1.1) zk)) &&& zb 1).toNat)==1) else s1.2.2.2.2.1),(if s1.1=4 then ((zv (zb (Int.fdiv p1 (2^min (Int.toNat s1.1) zk)) &&& zb 1).toNat)==1) else s1.2.2.2.2.2.1),(if s1.1=5 then ((zv (zb (Int.fdiv p1 (2^min (Int.toNat s1.1) zk)) &&& zb 1).toNat)==1) else s1.2.2.2.2.2.2.1),(if s1.1=6 then ((zv (zb (Int.fdiv p1 (2^min (Int.toNat s1.1) zk)) &&& zb 1).toNat)==1) else s1.2.2.2.2.2.2.2.1),(if s1.1=7 then ((zv (zb (Int.fdiv p1 (2^min (Int.toNat s1.1) zk)) &&& zb 1).toNat)==1) else s1.2.2.2.2.2.2.2.2)))
  else none
 else
 some (.done (s1.2.1,s1.2.2.1,s1.2.2.2.1,s1.2.2.2.2.1,s1.2.2.2.2.2.1,s1.2.2.2.2.2.2.1,s1.2.2.2.2.2.2.2.1,s1.2.2.2.2.2.2.2.2))
def Qim (p0:Aa) (s9:(Int × Bool × Bool × Bool × Bool × Bool × Bool × Bool × Bool × Bool)) (s8:(Bool × Bool × Bool × Bool × Bool × Bool × Bool × Bool)) (a12:Int) (s14:(Int × Bool × Bool × Bool × Bool × Bool × Bool × Bool × Bool)):Option (Qf (Int × Bool × Bool × Bool × Bool × Bool × Bool × Bool × Bool) (Bool × Bool × Bool × Bool × Bool × Bool × Bool × Bool)) :=
 if (decide (s14.1 < (p0.sets.parents.length:Int)))=true then
  (lkI ([s9.2.1,s8.2.1,s8.2.2.1,s8.2.2.2.1,s8.2.2.2.2.1,s8.2.2.2.2.2.1,s8.2.2.2.2.2.2.1,s8.2.2.2.2.2.2.2]:(List Bool)) s9.1).bind fun a17 =>
  if a17=true then
   if 0<=s14.1 then
    if ((zv (zb (Int.fdiv a12 (2^min (Int.toNat s14.1) zk)) &&& zb 1).toNat)==1)=true then
     (lkI ([s14.2.1,s14.2.2.1,s14.2.2.2.1,s14.2.2.2.2.1,s14.2.2.2.2.2.1,s14.2.2.2.2.2.2.1,s14.2.2.2.2.2.2.2.1,s14.2.2.2.2.2.2.2.2]:(List Bool)) s14.1).bind fun a23 =>
     some (.next (zw (s14.1+1),(if s14.1=0 then true else s14.2.1),(if s14.1=1 then true else s14.2.2.1),(if s14.1=2 then true else s14.2.2.2.1),(if s14.1=3 then true else s14.2.2.2.2.1),(if s14.1=4 then true else s14.2.2.2.2.2.1),(if s14.1=5 then true else s14.2.2.2.2.2.2.1),(if s14.1=6 then true else s14.2.2.2.2.2.2.2.1),(if s14.1=7 then true else s14.2.2.2.2.2.2.2.2)))
    else
    some (.next (zw (s14.1+1),s14.2.1,s14.2.2.1,s14.2.2.2.1,s14.2.2.2.2.1,s14.2.2.2.2.2.1,s14.2.2.2.2.2.2.1,s14.2.2.2.2.2.2.2.1,s14.2.2.2.2.2.2.2.2))
   else none
  else
  some (.next (zw (s14.1+1),s14.2.1,s14.2.2.1,s14.2.2.2.1,s14.2.2.2.2.1,s14.2.2.2.2.2.1,s14.2.2.2.2.2.2.1,s14.2.2.2.2.2.2.2.1,s14.2.2.2.2.2.2.2.2))
 else
 some (.done (s14.2.1,s14.2.2.1,s14.2.2.2.1,s14.2.2.2.2.1,s14.2.2.2.2.2.1,s14.2.2.2.2.2.2.1,s14.2.2.2.2.2.2.2.1,s14.2.2.2.2.2.2.2.2))
def Qh7 (p0:Aa) (s8:(Bool × Bool × Bool × Bool × Bool × Bool × Bool × Bool)) (s9:(Int × Bool × Bool × Bool × Bool × Bool × Bool × Bool × Bool × Bool)):Option (Qf (Int × Bool × Bool × Bool × Bool × Bool × Bool × Bool × Bool × Bool) (Bool × Bool × Bool × Bool × Bool × Bool × Bool × Bool × Bool)) :=
 if (decide (s9.1 < (p0.sets.parents.length:Int)))=true then
  (lkI p0.sets.parents s9.1).bind fun a12 =>
  (Qb fuel (Qim p0 s9 s8 a12) (0,s9.2.2.1,s9.2.2.2.1,s9.2.2.2.2.1,s9.2.2.2.2.2.1,s9.2.2.2.2.2.2.1,s9.2.2.2.2.2.2.2.1,s9.2.2.2.2.2.2.2.2.1,s9.2.2.2.2.2.2.2.2.2)).bind fun x26 =>
  some (.next (zw (s9.1+1),s9.2.1,x26.1,x26.2.1,x26.2.2.1,x26.2.2.2.1,x26.2.2.2.2.1,x26.2.2.2.2.2.1,x26.2.2.2.2.2.2.1,x26.2.2.2.2.2.2.2))
 else
 some (.done (s9.2.1,s9.2.2.1,s9.2.2.2.1,s9.2.2.2.2.1,s9.2.2.2.2.2.1,s9.2.2.2.2.2.2.1,s9.2.2.2.2.2.2.2.1,s9.2.2.2.2.2.2.2.2.1,s9.2.2.2.2.2.2.2.2.2))
def Qij (p0:Aa) (s8:(Bool × Bool × Bool × Bool × Bool × Bool × Bool × Bool)):Option (Qf (Bool × Bool × Bool × Bool × Bool × Bool × Bool × Bool) (Bool × Bool × Bool × Bool × Bool × Bool × Bool × Bool)) :=
 (Qb fuel (Qh7 p0 s8) (0,s8.1,s8.1,s8.2.1,s8.2.2.1,s8.2.2.2.1,s8.2.2.2.2.1,s8.2.2.2.2.2.1,s8.2.2.2.2.2.2.1,s8.2.2.2.2.2.2.2)).bind fun x28 =>
 if ((x28.2.1==x28.1) && ((x28.2.2.1==s8.2.1) && ((x28.2.2.2.1==s8.2.2.1) && ((x28.2.2.2.2.1==s8.2.2.2.1) && ((x28.2.2.2.2.2.1==s8.2.2.2.2.1) && ((x28.2.2.2.2.2.2.1==s8.2.2.2.2.2.1) && ((x28.2.2.2.2.2.2.2.1==s8.2.2.2.2.2.2.1) && ((x28.2.2.2.2.2.2.2.2==s8.2.2.2.2.2.2.2) && true))))))))=true then
  some (.done (x28.1,s8.2.1,s8.2.2.1,s8.2.2.2.1,s8.2.2.2.2.1,s8.2.2.2.2.2.1,s8.2.2.2.2.2.2.1,s8.2.2.2.2.2.2.2))
 else
 some (.next (x28.2.1,x28.2.2.1,x28.2.2.2.1,x28.2.2.2.2.1,x28.2.2.2.2.2.1,x28.2.2.2.2.2.2.1,x28.2.2.2.2.2.2.2.1,x28.2.2.2.2.2.2.2.2))
def Qd5 (p0:Aa) (p1:Int):Option (Bool × Bool × Bool × Bool × Bool × Bool × Bool × Bool) :=
 (Qb fuel (Qh8 p0 p1) (0,false,false,false,false,false,false,false,false)).bind fun x7 =>
 (Qb fuel (Qij p0) (x7.1,x7.2.1,x7.2.2.1,x7.2.2.2.1,x7.2.2.2.2.1,x7.2.2.2.2.2.1,x7.2.2.2.2.2.2.1,x7.2.2.2.2.2.2.2)).bind fun x32 =>
 some (x32.1,x32.2.1,x32.2.2.1,x32.2.2.2.1,x32.2.2.2.2.1,x32.2.2.2.2.2.1,x32.2.2.2.2.2.2.1,x32.2.2.2.2.2.2.2)
def Ql5 (x3:(Bool × Bool × Bool × Bool × Bool × Bool × Bool × Bool)) (s5:(Int × Bool × Int)):Option (Qf (Int × Bool × Int) Int) :=
 if (decide (s5.2.2 < 8))=true then
  (lkI ([s5.2.1,x3.2.1,x3.2.2.1,x3.2.2.2.1,x3.2.2.2.2.1,x3.2.2.2.2.2.1,x3.2.2.2.2.2.2.1,x3.2.2.2.2.2.2.2]:(List Bool)) s5.2.2).bind fun a8 =>
  if a8=true then
   if 0<=s5.2.2 then
    some (.next (zv (zb s5.1 &&& ~~~ zb (zv (1*2^min (Int.toNat s5.2.2) zk))).toNat,s5.2.1,zw (s5.2.2+1)))
   else none
  else
  some (.next (s5.1,s5.2.1,zw (s5.2.2+1)))
 else
 some (.done s5.1)
def Qgv (p0:Aa) (p1:Int) (p2:Int) (p3:Int):Option Aa :=
 (Ya p0 p2).bind fun x1 =>
 (Qd5 x1 p3).bind fun x3 =>
 (Qb fuel (Ql5 x3) (p1,x3.1,0)).bind fun x13 =>
 (Ya x1 x13).bind fun x14 =>
 some x14
def Qc7 (p0:Qa):Option ((List Int) × Int) :=
 (Ym p0).bind fun x1 =>
 some (x1.1.sets,x1.2)
def Qnq (p0:(List Int)) (s5:(Int × (List Int))) (a8:Int) (s12:(Int × (List Int))):Option (Qf (Int × (List Int)) (List Int)) :=
 if (decide (s12.1 < (p0.length:Int)))=true then
  (lkI s12.2 s12.1).bind fun a15 =>
  if 0<=s12.1 then
   if 0<=s5.1 then
    some (.next (zw (s12.1+1),(List.set s12.2 (Int.toNat s12.1) (zv (zb a15 ||| zb (zv ((zv (zb (Int.fdiv a8 (2^min (Int.toNat s12.1) zk)) &&& zb 1).toNat)*2^min (Int.toNat s5.1) zk))).toNat))))
   else none
  else none
 else
 some (.done s12.2)
def Qoj (p0:(List Int)) (s5:(Int × (List Int))):Option (Qf (Int × (List Int)) (Unit ⊕ (List Int))) :=
 if (decide (s5.1 < (p0.length:Int)))=true then
  (lkI p0 s5.1).bind fun a8 =>
  if 0<=(p0.length:Int) then
   if ((Int.fdiv a8 (2^min (Int.toNat (p0.length:Int)) zk)) != 0)=true then
    some (.done (Sum.inl ()))
   else
   (Qb fuel (Qnq p0 s5 a8) (0,s5.2)).bind fun x19 =>
   some (.next (zw (s5.1+1),x19))
  else none
 else
 some (.done (Sum.inr s5.2))
def Qnz (p0:(List Int)) (s23:(Int × Int)) (s26:Int):Option (Qf Int (Int ⊕ Unit)) :=
 if (decide (s26 < (p0.length:Int)))=true then
  (lkI p0 s26).bind fun a29 =>
  if 0<=s26 then
   if ((zv (zb (Int.fdiv s23.1 (2^min (Int.toNat s26) zk)) &&& zb 1).toNat)==0)=true then
    if ((zv (zb a29 &&& ~~~ zb s23.1).toNat)==0)=true then
     if 0<=s26 then
      some (.done (Sum.inl (zv (zb s23.1 ||| zb (zv (1*2^min (Int.toNat s26) zk))).toNat)))
     else none
    else
    some (.next (zw (s26+1)))
   else
   some (.next (zw (s26+1)))
  else none
 else
 some (.done (Sum.inr ()))
def Qm9 (p0:(List Int)) (s23:(Int × Int)):Option (Qf (Int × Int) (Unit ⊕ Unit)) :=
 if (decide (s23.2 < (p0.length:Int)))=true then
  (Qb fuel (Qnz p0 s23) 0).bind fun x35=>match x35 with
  | .inl x36=>(
   some (.next (x36,zw (s23.2+1))))
  | .inr x37=>(
   some (.done (Sum.inl ())))
 else
 some (.done (Sum.inr ()))
def Qi6 (p0:(List Int)):Option (Q3 × Int) :=
 if (decide ((p0.length:Int) < 1))=true then
  some ((Q3.mk (Yx.mk []) []),70)
 else
 if (decide ((p0.length:Int) > 8))=true then
  some ((Q3.mk (Yx.mk []) []),70)
 else
 if 0<=(p0.length:Int)/\(p0.length:Int)<=(p0.length:Int)/\(p0.length:Int)*8<=140737488355328 then
  (Qb fuel (Qoj p0) (0,(List.replicate (Int.toNat (p0.length:Int)) (0:Int)))).bind fun x20=>match x20 with
  | .inl x21=>(
   some ((Q3.mk (Yx.mk []) []),70))
  | .inr x22=>(
   (Qb fuel (Qm9 p0) (0,0)).bind fun x38=>match x38 with
   | .inl x39=>(
    some ((Q3.mk (Yx.mk []) []),70))
   | .inr x40=>(
    some ((Q3.mk (Yx.mk p0) x22),0)))
 else none
def Qe7 (p1:(List Int)) (p0:Q3) (s1:(Int × Int)):Option (Qf (Int × Int) (Unit ⊕ Unit)) :=
 if (decide (s1.2 < (p1.length:Int)))=true then
  (lkI p1 s1.2).bind fun a4 =>
  if 0<=(p0.ancestry.parents.length:Int) then
   if ((Int.fdiv a4 (2^min (Int.toNat (p0.ancestry.parents.length:Int)) zk)) != 0)=true then
    some (.done (Sum.inl ()))
   else
   if ((zv (zb a4 &&& zb s1.1).toNat) != 0)=true then
    some (.done (Sum.inl ()))
   else
   some (.next (zv (zb s1.1 ||| zb a4).toNat,zw (s1.2+1)))
  else none
 else
 some (.done (Sum.inr ()))
def Qa9 (p0:Q3) (p1:(List Int)):Option Bool :=
 (Qb fuel (Qe7 p1 p0) (0,0)).bind fun x10=>match x10 with
 | .inl x11=>(
  some false)
 | .inr x12=>(
  some true)
def K3 (p0:Int):Option Int :=
 if (p0==0)=true then
  some 64
 else
 (lkI tab1 (Int.fdiv (zv ((zv (zb p0 &&& zb (zv (0 - p0))).toNat)*285870213051353865)) (2^min (Int.toNat 58) zk))).bind fun a3 =>
 some (zw (a3))
def Zj (p0:Int):Option Int :=
 (K3 p0).bind fun x1 =>
 some x1
def Qhb (p0:Q3) (s4:(Int × Int)):Option (Qf (Int × Int) Int) :=
 if (decide (s4.1 < (p0.ancestry.parents.length:Int)))=true then
  (lkI p0.ancestry.parents s4.1).bind fun a7 =>
  if 0<=s4.1 then
   if ((zv (zb (Int.fdiv s4.2 (2^min (Int.toNat s4.1) zk)) &&& zb 1).toNat)==1)=true then
    some (.next (zw (s4.1+1),zv (zb s4.2 ||| zb a7).toNat))
   else
   some (.next (zw (s4.1+1),s4.2))
  else none
 else
 some (.done s4.2)
def Qhl (p0:Q3) (s1:(Int × Int)):Option (Qf (Int × Int) Int) :=
 if (decide (s1.1 < (p0.ancestry.parents.length:Int)))=true then
  (Qb fuel (Qhb p0) (0,s1.2)).bind fun x12 =>
  some (.next (zw (s1.1+1),x12))
 else
 some (.done s1.2)
def Qgz (r21:((Int × Bool × Int × (List (Ag × Bool)))->Option (Int × (List (Ag × Bool))))) (s29:(Int × Int × (List (Ag × Bool)))):Option (Qf (Int × Int × (List (Ag × Bool))) (Int × (List (Ag × Bool)))) :=
 if (s29.1 != 0)=true then
  (Zj s29.1).bind fun x32 =>
  (r21 (x32,true,s29.2.1,s29.2.2)).bind fun x34 =>
  some (.next (zv (zb s29.1 &&& zb (zv (s29.1 - 1))).toNat,x34.1,x34.2))
 else
 some (.done (s29.2.1,s29.2.2))
def Qg2 (r21:((Int × Bool × Int × (List (Ag × Bool)))->Option (Int × (List (Ag × Bool))))) (s43:(Int × Int × (List (Ag × Bool)))):Option (Qf (Int × Int × (List (Ag × Bool))) (Int × (List (Ag × Bool)))) :=
 if (s43.1 != 0)=true then
  (Zj s43.1).bind fun x46 =>
  (r21 (x46,false,s43.2.1,s43.2.2)).bind fun x48 =>
  some (.next (zv (zb s43.1 &&& zb (zv (s43.1 - 1))).toNat,x48.1,x48.2))
 else
 some (.done (s43.2.1,s43.2.2))
def Qgx (r21:((Int × Bool × Int × (List (Ag × Bool)))->Option (Int × (List (Ag × Bool))))) (s55:(Int × Int × (List (Ag × Bool)))):Option (Qf (Int × Int × (List (Ag × Bool))) (Int × (List (Ag × Bool)))) :=
 if (s55.1 != 0)=true then
  (Zj s55.1).bind fun x58 =>
  (r21 (x58,false,s55.2.1,s55.2.2)).bind fun x60 =>
  some (.next (zv (zb s55.1 &&& zb (zv (s55.1 - 1))).toNat,x60.1,x60.2))
 else
 some (.done (s55.2.1,s55.2.2))
def Qhf (r21:((Int × Bool × Int × (List (Ag × Bool)))->Option (Int × (List (Ag × Bool))))) (s69:(Int × Int × (List (Ag × Bool)))):Option (Qf (Int × Int × (List (Ag × Bool))) (Int × (List (Ag × Bool)))) :=
 if (s69.1 != 0)=true then
  (Zj s69.1).bind fun x72 =>
  (r21 (x72,false,s69.2.1,s69.2.2)).bind fun x74 =>
  some (.next (zv (zb s69.1 &&& zb (zv (s69.1 - 1))).toNat,x74.1,x74.2))
 else
 some (.done (s69.2.1,s69.2.2))
def Qhd (r21:((Int × Bool × Int × (List (Ag × Bool)))->Option (Int × (List (Ag × Bool))))) (s81:(Int × Int × (List (Ag × Bool)))):Option (Qf (Int × Int × (List (Ag × Bool))) (Int × (List (Ag × Bool)))) :=
 if (s81.1 != 0)=true then
  (Zj s81.1).bind fun x84 =>
  (r21 (x84,false,s81.2.1,s81.2.2)).bind fun x86 =>
  some (.next (zv (zb s81.1 &&& zb (zv (s81.1 - 1))).toNat,x86.1,x86.2))
 else
 some (.done (s81.2.1,s81.2.2))
def Qg8 (p2:Int) (p0:Q3) (x14:Int) (r21:((Int × Bool × Int × (List (Ag × Bool)))->Option (Int × (List (Ag × Bool))))) (s20:(Int × Bool × Int × (List (Ag × Bool)))):Option (Int × (List (Ag × Bool))) :=
 if (Qcp An s20.2.2.2 (Ag.mk s20.1 s20.2.1)).getD false=true then
  some (s20.2.2.1,s20.2.2.2)
 else
 if 0<=s20.1 then
  if ((zv (zb (Int.fdiv p2 (2^min (Int.toNat s20.1) zk)) &&& zb 1).toNat)==0)=true then
   if 0<=s20.1 then
    (lkI p0.children s20.1).bind fun a27 =>
    (Qb fuel (Qgz r21) (a27,zv (zb s20.2.2.1 ||| zb (zv (1*2^min (Int.toNat s20.1) zk))).toNat,kput An s20.2.2.2 (Ag.mk s20.1 s20.2.1) true)).bind fun x36 =>
    if s20.2.1=true then
     if 0<=s20.1 then
      if ((zv (zb (Int.fdiv x14 (2^min (Int.toNat s20.1) zk)) &&& zb 1).toNat)==0)=true then
       some (x36.1,x36.2)
      else
      (lkI p0.ancestry.parents s20.1).bind fun a41 =>
      (Qb fuel (Qg2 r21) (a41,x36.1,x36.2)).bind fun x50 =>
      some (x50.1,x50.2)
     else none
    else
    if 0<=s20.1 then
     if ((zv (zb (Int.fdiv p2 (2^min (Int.toNat s20.1) zk)) &&& zb 1).toNat)==1)=true then
      some (x36.1,x36.2)
     else
     (lkI p0.ancestry.parents s20.1).bind fun a53 =>
     (Qb fuel (Qgx r21) (a53,x36.1,x36.2)).bind fun x62 =>
     some (x62.1,x62.2)
    else none
   else none
  else
  if s20.2.1=true then
   if 0<=s20.1 then
    if ((zv (zb (Int.fdiv x14 (2^min (Int.toNat s20.1) zk)) &&& zb 1).toNat)==0)=true then
     some (s20.2.2.1,kput An s20.2.2.2 (Ag.mk s20.1 s20.2.1) true)
    else
    (lkI p0.ancestry.parents s20.1).bind fun a67 =>
    (Qb fuel (Qhf r21) (a67,s20.2.2.1,kput An s20.2.2.2 (Ag.mk s20.1 s20.2.1) true)).bind fun x76 =>
    some (x76.1,x76.2)
   else none
  else
  if 0<=s20.1 then
   if ((zv (zb (Int.fdiv p2 (2^min (Int.toNat s20.1) zk)) &&& zb 1).toNat)==1)=true then
    some (s20.2.2.1,kput An s20.2.2.2 (Ag.mk s20.1 s20.2.1) true)
   else
   (lkI p0.ancestry.parents s20.1).bind fun a79 =>
   (Qb fuel (Qhd r21) (a79,s20.2.2.1,kput An s20.2.2.2 (Ag.mk s20.1 s20.2.1) true)).bind fun x88 =>
   some (x88.1,x88.2)
  else none
 else none
def Qhk (p2:Int) (p0:Q3) (x14:Int) (s15:(Int × Int × (List (Ag × Bool)))):Option (Qf (Int × Int × (List (Ag × Bool))) (Int × (List (Ag × Bool)))) :=
 if (s15.1 != 0)=true then
  (Zj s15.1).bind fun x18 =>
  (Qfh (Qg8 p2 p0 x14) fuel (x18,false,s15.2.1,s15.2.2)).bind fun x89 =>
  some (.next (zv (zb s15.1 &&& zb (zv (s15.1 - 1))).toNat,x89.1,x89.2))
 else
 some (.done (s15.2.1,s15.2.2))
def Qcv (p0:Q3) (p1:Int) (p2:Int):Option Int :=
 (Qb fuel (Qhl p0) (0,p2)).bind fun x14 =>
 (Qb fuel (Qhk p2 p0 x14) (p1,0,[])).bind fun x92 =>
 some x92.1
def Qae (p0:(List Int)) (p1:Int) (p2:Int) (p3:Int):Option (Bool × Int) :=
 (Qi6 p0).bind fun x1 =>
 if (x1.2 != 0)=true then
  some (false,x1.2)
 else
 (Qa9 x1.1 [p1,p2,p3]).bind fun x5 =>
 if (!x5)=true then
  some (false,2)
 else
 (Qcv x1.1 p1 p3).bind fun x9 =>
 some (((zv (zb x9 &&& zb p2).toNat)==0),0)
def Qqq (p0:Qa) (p1:Int) (p2:Int) (p3:Int) (p4:Int) (p5:Int):Option (Bool × Int) :=
 (Y1 p0 []).bind fun x1 =>
 if (x1 != 0)=true then
  some (false,x1)
 else
 if p1=1 then
  if 0<=(p0.Nodes.length:Int) then
   if ((Int.fdiv (zv (zb (zv (zb (zv (zb p2 ||| zb p3).toNat) ||| zb p4).toNat) ||| zb p5).toNat) (2^min (Int.toNat (p0.Nodes.length:Int)) zk)) != 0)=true then
    some (false,2)
   else
   if ((zv (zb p2 &&& zb p3).toNat) != 0)=true then
    some (false,2)
   else
   if ((zv (zb (zv (zb p2 ||| zb p3).toNat) &&& zb p4).toNat) != 0)=true then
    some (false,2)
   else
   if ((zv (zb (zv (zb (zv (zb p2 ||| zb p3).toNat) ||| zb p4).toNat) &&& zb p5).toNat) != 0)=true then
    some (false,2)
   else
   (Qc7 p0).bind fun x15 =>
   if (x15.2 != 0)=true then
    some (false,x15.2)
   else
   if (p2==0)=true then
    some (true,0)
   else
   if (p3==0)=true then
    some (true,0)
   else
   (Qgw (Aa.mk (Ac.mk x15.1)) p3 p4 p5).bind fun x23 =>
   (Qae x23.sets.parents p2 p3 (zv (zb p4 ||| zb p5).toNat)).bind fun x25 =>
   some (x25.1,x25.2)
  else none
 else
 if p1=2 then
  if 0<=(p0.Nodes.length:Int) then
   if ((Int.fdiv (zv (zb (zv (zb (zv (zb p2 ||| zb p3).toNat) ||| zb p4).toNat) ||| zb p5).toNat) (2^min (Int.toNat (p0.Nodes.length:Int)) zk)) != 0)=true then
    some (false,2)
   else
   if ((zv (zb p2 &&& zb p3).toNat) != 0)=true then
    some (false,2)
   else
   if ((zv (zb (zv (zb p2 ||| zb p3).toNat) &&& zb p4).toNat) != 0)=true then
    some (false,2)
   else
   if ((zv (zb (zv (zb (zv (zb p2 ||| zb p3).toNat) ||| zb p4).toNat) &&& zb p5).toNat) != 0)=true then
    some (false,2)
   else
   (Qc7 p0).bind fun x37 =>
   if (x37.2 != 0)=true then
    some (false,x37.2)
   else
   if (p2==0)=true then
    some (true,0)
   else
   if (p3==0)=true then
    some (true,0)
   else
   (Qf6 (Aa.mk (Ac.mk x37.1)) p3 p4 p5).bind fun x45 =>
   (Qae x45.sets.parents p2 p3 (zv (zb p4 ||| zb p5).toNat)).bind fun x47 =>
   some (x47.1,x47.2)
  else none
 else
 if p1=3 then
  if 0<=(p0.Nodes.length:Int) then
   if ((Int.fdiv (zv (zb (zv (zb (zv (zb p2 ||| zb p3).toNat) ||| zb p4).toNat) ||| zb p5).toNat) (2^min (Int.toNat (p0.Nodes.length:Int)) zk)) != 0)=true then
    some (false,2)
   else
   if ((zv (zb p2 &&& zb p3).toNat) != 0)=true then
    some (false,2)
   else
   if ((zv (zb (zv (zb p2 ||| zb p3).toNat) &&& zb p4).toNat) != 0)=true then
    some (false,2)
   else
   if ((zv (zb (zv (zb (zv (zb p2 ||| zb p3).toNat) ||| zb p4).toNat) &&& zb p5).toNat) != 0)=true then
    some (false,2)
   else
   (Qc7 p0).bind fun x59 =>
   if (x59.2 != 0)=true then
    some (false,x59.2)
   else
   if (p2==0)=true then
    some (true,0)
   else
   if (p3==0)=true then
    some (true,0)
   else
   (Qgv (Aa.mk (Ac.mk x59.1)) p3 p4 p5).bind fun x67 =>
   (Qae x67.sets.parents p2 p3 (zv (zb p4 ||| zb p5).toNat)).bind fun x69 =>
   some (x69.1,x69.2)
  else none
 else
 some (false,2)
def K1 (p0:Int) (p1:Int) (p2:Int) (p3:Int) (p4:Int) (p5:Bool):Option Bool :=
 (Ke).bind fun x1 =>
 (Qqq x1 p0 p1 p2 p3 p4).bind fun x3 =>
 if (x3.1==p5)=true then
  some (x3.2==0)
 else
 some false
def Kc (p0:Int) (p1:Int):Option Ae :=
 some (Ae.mk p0 p1)
def Qp4 (p0:(List Ae)) (p1:(List Ae)) (s3:Int):Option (Qf Int (Unit ⊕ Unit)) :=
 if (decide (s3 < (p0.length:Int)))=true then
  (lkI p0 s3).bind fun a6 =>
  (lkI p1 s3).bind fun a8 =>
  if (!((a6.N==a8.N) && ((a6.D==a8.D) && true)))=true then
   some (.done (Sum.inl ()))
  else
  some (.next (zw (s3+1)))
 else
 some (.done (Sum.inr ()))
def Qmd (p0:(List Ae)) (p1:(List Ae)):Option Bool :=
 if ((p0.length:Int) != (p1.length:Int))=true then
  some false
 else
 (Qb fuel (Qp4 p0 p1) 0).bind fun x12=>match x12 with
 | .inl x13=>(
  some false)
 | .inr x14=>(
  some true)
def Qe8 (p0:(List Int)) (p1:(List Int)) (p2:Int) (p3:(List Ae)):Option Bool :=
 (Ke).bind fun x1 =>
 (Qh6 x1 p0 p1 p2).bind fun x3 =>
 if (x3.2==0)=true then
  (Qmd x3.1 p3).bind fun x7 =>
  some x7
 else
 some false
def Xd (w3_0:Bool):Option Bool :=
 some w3_0
def Yr (w2_0:Bool) (w2_1:Bool) (w2_2:Bool):Option Bool :=
 if w2_0=true then
  if w2_1=true then
   if w2_2=true then
    (K1 2 4 1 0 0 true).bind fun x75 =>
    if x75=true then
     (K1 2 4 2 0 0 false).bind fun x79 =>
     if x79=true then
      (K1 2 4 2 0 1 true).bind fun x83 =>
      if x83=true then
       (K1 3 1 6 0 0 true).bind fun x87 =>
       if x87=true then
        (K1 1 1 4 2 0 false).bind fun x91 =>
        Xd x91
       else
       Xd false
      else
      Xd false
     else
     Xd false
    else
    Xd false
   else
   Xd false
  else
  Xd false
 else
 Xd false
def Qde (w1_0:Int) (w1_1:Int) (w1_2:Bool) (w1_3:Bool) (w1_4:(List Int)) (w1_5:Int) (w1_6:Int) (w1_7:(List Int)) (w1_8:Int) (w1_9:Int):Option Bool :=
 if (w1_0==0)=true then
  (Vz w1_4 [1,1,-1]).bind fun x53 =>
  if x53=true then
   (Kc 1 1).bind fun x57 =>
   if ((w1_5==x57.N) && ((w1_6==x57.D) && true))=true then
    if (w1_1==0)=true then
     (Vz w1_7 [-1,0,-1]).bind fun x63 =>
     if x63=true then
      (Kc 3 4).bind fun x67 =>
      Yr w1_2 w1_3 ((w1_8==x67.N) && ((w1_9==x67.D) && true))
     else
     Yr w1_2 w1_3 false
    else
    Yr w1_2 w1_3 false
   else
   Yr w1_2 w1_3 false
  else
  Yr w1_2 w1_3 false
 else
 Yr w1_2 w1_3 false
def Xw (w0_0:Int) (w0_1:Int) (w0_2:Bool) (w0_3:(List Int)) (w0_4:Int) (w0_5:Int) (w0_6:(List Int)) (w0_7:Int) (w0_8:Int):Option Bool :=
 (Kc 1 7).bind fun x37 =>
 (Kc 6 7).bind fun x39 =>
 (Qe8 [-1,1,-1] [-1,-1,1] 0 [x37,x39]).bind fun x41 =>
 if x41=true then
  (Kc 7 8).bind fun x45 =>
  (Kc 1 8).bind fun x47 =>
  (Qe8 [0,-1,-1] [-1,-1,-1] 2 [x45,x47]).bind fun x49 =>
  Qde w0_0 w0_1 w0_2 x49 w0_3 w0_4 w0_5 w0_6 w0_7 w0_8
 else
 Qde w0_0 w0_1 w0_2 false w0_3 w0_4 w0_5 w0_6 w0_7 w0_8
def Qgq  : Option Bool :=
 (Ke).bind fun x1 =>
 (Qv2 x1 [-1,1,-1]).bind fun x3 =>
 (Ke).bind fun x5 =>
 (lkI x5.Nodes 1).bind fun a7 =>
 (Qio x1 [-1,1,-1] [-1,-1,1]).bind fun x94 =>
 (Qio x1 [-1,1,-1] [-1,0,-1]).bind fun x96 =>
 (Qh6 x1 [-1,1,-1] [-1,0,-1] 2).bind fun x98 =>
 (Jp x1 3 2 1).bind fun x100 =>
 (Jp x1 2 0 1).bind fun x102 =>
 if (x3.2==0)=true then
  (Qjm x3.1 (Qa.mk x5.Grain (List.set x5.Nodes (Int.toNat 1) (Ad.mk 2 [] [[0,4]])))).bind fun x106 =>
  if x106=true then
   if (x94.2==0)=true then
    (Kc 7 8).bind fun x112 =>
    if ((x94.1.N==x112.N) && ((x94.1.D==x112.D) && true))=true then
     if (x96.2==0)=true then
      (Kc 0 1).bind fun x118 =>
      if ((x96.1.N==x118.N) && ((x96.1.D==x118.D) && true))=true then
       Xw x100.2.2 x102.2.2 (x98.2==7) x100.1 x100.2.1.N x100.2.1.D x102.1 x102.2.1.N x102.2.1.D
      else
      Xw x100.2.2 x102.2.2 false x100.1 x100.2.1.N x100.2.1.D x102.1 x102.2.1.N x102.2.1.D
     else
     Xw x100.2.2 x102.2.2 false x100.1 x100.2.1.N x100.2.1.D x102.1 x102.2.1.N x102.2.1.D
    else
    Xw x100.2.2 x102.2.2 false x100.1 x100.2.1.N x100.2.1.D x102.1 x102.2.1.N x102.2.1.D
   else
   Xw x100.2.2 x102.2.2 false x100.1 x100.2.1.N x100.2.1.D x102.1 x102.2.1.N x102.2.1.D
  else
  Xw x100.2.2 x102.2.2 false x100.1 x100.2.1.N x100.2.1.D x102.1 x102.2.1.N x102.2.1.D
 else
 Xw x100.2.2 x102.2.2 false x100.1 x100.2.1.N x100.2.1.D x102.1 x102.2.1.N x102.2.1.D
def Kq (p0:Af) (s1:(Int × (List Int))):Option (Qf (Int × (List Int)) (List Int)) :=
 if (decide (s1.1 < (p0.C.length:Int)))=true then
  if (decide (s1.1 < 5))=true then
   (lkI p0.C s1.1).bind fun a6 =>
   if (s1.2++([zw (1+(zw (Int.tmod a6 4)))]:(List Int))).length*8<=140737488355328 then
    some (.next (zw (s1.1+1),(s1.2++([zw (1+(zw (Int.tmod a6 4)))]:(List Int)))))
   else none
  else
  some (.done s1.2)
 else
 some (.done s1.2)
def J2 (p0:Af):Option (List Int) :=
 (Qb fuel (Kq p0) (0,([]:(List Int)))).bind fun x9 =>
 some x9
def Vr (p0:Af) (s1:(Int × (List Int))):Option (Qf (Int × (List Int)) (List Int)) :=
 (J2 p0).bind fun x2 =>
 if (decide (s1.1 < (x2.length:Int)))=true then
  if (decide (s1.1 < (p0.Order.length:Int)))=true then
   (lkI p0.Order s1.1).bind fun a8 =>
   if (zw (s1.1+1))≠0 then
    if 0<=(0:Int)/\(0:Int)<=(Int.tmod (zw (a8)) (zw (s1.1+1)))/\(Int.tmod (zw (a8)) (zw (s1.1+1)))<=(s1.2.length:Int) then
     if (sub s1.2 0 (Int.tmod (zw (a8)) (zw (s1.1+1)))).length*8<=140737488355328 then
      if ((sub s1.2 0 (Int.tmod (zw (a8)) (zw (s1.1+1))))++([s1.1]:(List Int))).length*8<=140737488355328 then
       if 0<=(Int.tmod (zw (a8)) (zw (s1.1+1)))/\(Int.tmod (zw (a8)) (zw (s1.1+1)))<=(s1.2.length:Int)/\(s1.2.length:Int)<=(s1.2.length:Int) then
        if (((sub s1.2 0 (Int.tmod (zw (a8)) (zw (s1.1+1))))++([s1.1]:(List Int)))++(sub s1.2 (Int.tmod (zw (a8)) (zw (s1.1+1))) (s1.2.length:Int))).length*8<=140737488355328 then
         some (.next (zw (s1.1+1),(((sub s1.2 0 (Int.tmod (zw (a8)) (zw (s1.1+1))))++([s1.1]:(List Int)))++(sub s1.2 (Int.tmod (zw (a8)) (zw (s1.1+1))) (s1.2.length:Int)))))
        else none
       else none
      else none
     else none
    else none
   else none
  else
  if 0<=(0:Int)/\(0:Int)<=(0:Int)/\(0:Int)<=(s1.2.length:Int) then
   if (sub s1.2 0 0).length*8<=140737488355328 then
    if ((sub s1.2 0 0)++([s1.1]:(List Int))).length*8<=140737488355328 then
     if 0<=(0:Int)/\(0:Int)<=(s1.2.length:Int)/\(s1.2.length:Int)<=(s1.2.length:Int) then
      if (((sub s1.2 0 0)++([s1.1]:(List Int)))++(sub s1.2 0 (s1.2.length:Int))).length*8<=140737488355328 then
       some (.next (zw (s1.1+1),(((sub s1.2 0 0)++([s1.1]:(List Int)))++(sub s1.2 0 (s1.2.length:Int)))))
      else none
     else none
    else none
   else none
  else none
 else
 some (.done s1.2)
def Yz (p0:Af):Option (List Int) :=
 (Qb fuel (Vr p0) (0,([]:(List Int)))).bind fun x15 =>
 some x15
def Ki (p0:(List Int)) (s1:(Int × Int)):Option (Qf (Int × Int) Int) :=
 if (decide (s1.2 < (p0.length:Int)))=true then
  (lkI p0 s1.2).bind fun a4 =>
  some (.next (zw (s1.1*a4),zw (s1.2+1)))
 else
 some (.done s1.1)
def Vd (p0:(List Int)):Option Int :=
 (Qb fuel (Ki p0) (1,0)).bind fun x7 =>
 some x7
def Qgt (p1:(List Int)) (p0:(List Int)) (s1:(Int × (List Int))):Option (Qf (Int × (List Int)) (List Int)) :=
 if (decide (s1.1 < (p1.length:Int)))=true then
  (lkI p1 s1.1).bind fun a4 =>
  (lkI p0 a4).bind fun a6 =>
  if (s1.2++([a6]:(List Int))).length*8<=140737488355328 then
   some (.next (zw (s1.1+1),(s1.2++([a6]:(List Int)))))
  else none
 else
 some (.done s1.2)
def Qex (p0:(List Int)) (p1:(List Int)):Option (List Int) :=
 (Qb fuel (Qgt p1 p0) (0,([]:(List Int)))).bind fun x9 =>
 some x9
def J1 (p0:Qa) (s1:(Int × (List Int))):Option (Qf (Int × (List Int)) (List Int)) :=
 if (decide (s1.1 < (p0.Nodes.length:Int)))=true then
  (lkI p0.Nodes s1.1).bind fun a4 =>
  if (s1.2++([a4.Card]:(List Int))).length*8<=140737488355328 then
   some (.next (zw (s1.1+1),(s1.2++([a4.Card]:(List Int)))))
  else none
 else
 some (.done s1.2)
def Vh (p0:Qa):Option (List Int) :=
 (Qb fuel (J1 p0) (0,([]:(List Int)))).bind fun x7 =>
 some x7
def Q4 (p0:Qa) (p1:Int):Option (List Int) :=
 (Vh p0).bind fun x1 =>
 (lkI p0.Nodes p1).bind fun a3 =>
 (Qex x1 a3.Parents).bind fun x5 =>
 some x5
def Jt (p1:Int) (p2:(List Int)) (p3:Int) (s1:(Int × Int × (List Int))):Option (Qf (Int × Int × (List Int)) (Int × (List Int))) :=
 if (decide (s1.2.1 < p1))=true then
  if (decide ((p2.length:Int) > 0))=true then
   if (p2.length:Int)≠0 then
    (lkI p2 (Int.tmod (zw (p3+s1.2.1)) (p2.length:Int))).bind fun a6 =>
    (lkI s1.2.2 s1.2.1).bind fun a8 =>
    some (.next (zw (s1.1+(zw (Int.tmod a6 8))),zw (s1.2.1+1),(List.set s1.2.2 (Int.toNat s1.2.1) (zw (Int.tmod a6 8)))))
   else none
  else
  (lkI s1.2.2 s1.2.1).bind fun a11 =>
  some (.next (zw (s1.1+a11),zw (s1.2.1+1),s1.2.2))
 else
 some (.done (s1.1,s1.2.2))
def Qfa (p1:Int) (x14:(Int × (List Int))) (p0:Int) (s15:(Int × Int × Int × (List Int))):Option (Qf (Int × Int × Int × (List Int)) (Int × Int × (List Int))) :=
 if (decide (s15.2.2.1 < p1))=true then
  (lkI s15.2.2.2 s15.2.2.1).bind fun a18 =>
  if (decide (a18 > 0))=true then
   if x14.1≠0 then
    some (.next (zw (s15.1 - (zw (Int.tdiv (zw (p0*a18)) x14.1))),s15.2.2.1,zw (s15.2.2.1+1),(List.set s15.2.2.2 (Int.toNat s15.2.2.1) (zw (Int.tdiv (zw (p0*a18)) x14.1)))))
   else none
  else
  some (.next (zw (s15.1 - a18),s15.2.1,zw (s15.2.2.1+1),s15.2.2.2))
 else
 some (.done (s15.1,s15.2.1,s15.2.2.2))
def Qc2 (p0:Int) (p1:Int) (p2:(List Int)) (p3:Int):Option (List Int) :=
 if 0<=p1/\p1<=p1/\p1*8<=140737488355328 then
  (Qb fuel (Jt p1 p2 p3) (0,0,(List.replicate (Int.toNat p1) (0:Int)))).bind fun x14 =>
  (Qb fuel (Qfa p1 x14 p0) (p0,0,0,x14.2)).bind fun x24 =>
  (lkI x24.2.2 x24.2.1).bind fun a25 =>
  some (List.set x24.2.2 (Int.toNat x24.2.1) (zw (a25+x24.1)))
 else none
def Y7 (p0:Qe) (x1:(List Int)) (s3:(Int × Int × (List (Int ⊕ Ad)))):Option (Qf (Int × Int × (List (Int ⊕ Ad))) (List (Int ⊕ Ad))) :=
 if (decide (s3.2.1 < (if 5 < (if 1 > (p0.Nodes.length:Int) then 1 else (p0.Nodes.length:Int)) then 5 else (if 1 > (p0.Nodes.length:Int) then 1 else (p0.Nodes.length:Int)))))=true then
  if (decide (s3.2.1 < (p0.Nodes.length:Int)))=true then
   (lkI p0.Nodes s3.2.1).bind fun a8 =>
   if 0<=(zv (zw ((zw ((if 5 < (if 1 > (p0.Nodes.length:Int) then 1 else (p0.Nodes.length:Int)) then 5 else (if 1 > (p0.Nodes.length:Int) then 1 else (p0.Nodes.length:Int))) - 1)) - s3.2.1))) then
    if (decide ((zw ((zw (s3.1*(zw (2+(zw (Int.tmod a8.Card 2))))))*2^min (Int.toNat (zv (zw ((zw ((if 5 < (if 1 > (p0.Nodes.length:Int) then 1 else (p0.Nodes.length:Int)) then 5 else (if 1 > (p0.Nodes.length:Int) then 1 else (p0.Nodes.length:Int))) - 1)) - s3.2.1)))) (IntKind.bits .i64))) > 100))=true then
     (lkI x1 s3.2.1).bind fun a12 =>
     (lkL s3.2.2 a12).bind fun a14 =>
     some (.next (zw (s3.1*2),zw (s3.2.1+1),(List.set s3.2.2 (Int.toNat a12) (Sum.inl 2))))
    else
    (lkI x1 s3.2.1).bind fun a17 =>
    (lkL s3.2.2 a17).bind fun a19 =>
    some (.next (zw (s3.1*(zw (2+(zw (Int.tmod a8.Card 2))))),zw (s3.2.1+1),(List.set s3.2.2 (Int.toNat a17) (Sum.inl (zw (2+(zw (Int.tmod a8.Card 2))))))))
   else none
  else
  if 0<=(zv (zw ((zw ((if 5 < (if 1 > (p0.Nodes.length:Int) then 1 else (p0.Nodes.length:Int)) then 5 else (if 1 > (p0.Nodes.length:Int) then 1 else (p0.Nodes.length:Int))) - 1)) - s3.2.1))) then
   if (decide ((zw ((zw (s3.1*(zw (2+(zw (Int.tmod 0 2))))))*2^min (Int.toNat (zv (zw ((zw ((if 5 < (if 1 > (p0.Nodes.length:Int) then 1 else (p0.Nodes.length:Int)) then 5 else (if 1 > (p0.Nodes.length:Int) then 1 else (p0.Nodes.length:Int))) - 1)) - s3.2.1)))) (IntKind.bits .i64))) > 100))=true then
    (lkI x1 s3.2.1).bind fun a24 =>
    (lkL s3.2.2 a24).bind fun a26 =>
    some (.next (zw (s3.1*2),zw (s3.2.1+1),(List.set s3.2.2 (Int.toNat a24) (Sum.inl 2))))
   else
   (lkI x1 s3.2.1).bind fun a29 =>
   (lkL s3.2.2 a29).bind fun a31 =>
   some (.next (zw (s3.1*(zw (2+(zw (Int.tmod 0 2))))),zw (s3.2.1+1),(List.set s3.2.2 (Int.toNat a29) (Sum.inl (zw (2+(zw (Int.tmod 0 2))))))))
  else none
 else
 some (.done s3.2.2)
def Y8 (s36:(Int × (List (Int ⊕ Ad)))) (x1:(List Int)) (s55:(Int × (List Int))) (a49:Qz) (s58:(Int × (List Int))):Option (Qf (Int × (List Int)) (List Int)) :=
 if (decide (s58.1 < s36.1))=true then
  (lkI x1 s58.1).bind fun a61 =>
  if (a61==s55.1)=true then
   if 0<=(zv (s58.1)) then
    if ((IntKind.u8.wrap (BitVec.ofInt (IntKind.bits .u8) (Int.fdiv a49.Parents (2^min (Int.toNat (zv (s58.1))) (IntKind.bits .u8))) &&& BitVec.ofInt (IntKind.bits .u8) 1).toNat)==1)=true then
     if (decide ((s58.2.length:Int) < 3))=true then
      if (s58.2++([s55.1]:(List Int))).length*8<=140737488355328 then
       some (.next (zw (s58.1+1),(s58.2++([s55.1]:(List Int)))))
      else none
     else
     some (.next (zw (s58.1+1),s58.2))
    else
    some (.next (zw (s58.1+1),s58.2))
   else none
  else
  some (.next (zw (s58.1+1),s58.2))
 else
 some (.done s58.2)
def X6 (p0:Qe) (s36:(Int × (List (Int ⊕ Ad)))) (x1:(List Int)) (a49:Qz) (s55:(Int × (List Int))):Option (Qf (Int × (List Int)) (List Int)) :=
 if (decide (s55.1 < (if 5 < (if 1 > (p0.Nodes.length:Int) then 1 else (p0.Nodes.length:Int)) then 5 else (if 1 > (p0.Nodes.length:Int) then 1 else (p0.Nodes.length:Int)))))=true then
  (Qb fuel (Y8 s36 x1 s55 a49) (0,s55.2)).bind fun x70 =>
  some (.next (zw (s55.1+1),x70))
 else
 some (.done s55.2)
def Y4 (p0:Qe) (s36:(Int × (List (Int ⊕ Ad)))) (a51:Int) (a53:Int) (x72:(List Int)) (a49:Qz) (s73:(Int × (List (List Int)))):Option (Qf (Int × (List (List Int))) (List (List Int))) :=
 (Q4 (Qa.mk (zw (1+(zw (Int.tmod p0.Grain 60)))) (List.set (List.map Ah s36.2) (Int.toNat a51) (Ad.mk a53 x72 s73.2))) a51).bind fun x74 =>
 (Vd x74).bind fun x76 =>
 if (decide (s73.1 < x76))=true then
  (Qc2 (zw (1+(zw (Int.tmod p0.Grain 60)))) a53 a49.W (zw (s73.1*(zw (a53+1))))).bind fun x80 =>
  if (s73.2++([x80]:(List (List Int)))).length*24<=140737488355328 then
   some (.next (zw (s73.1+1),(s73.2++([x80]:(List (List Int))))))
  else none
 else
 some (.done s73.2)
def Qla (s36:(Int × (List (Int ⊕ Ad)))) (x1:(List Int)) (s90:(Int × (List Int))) (s93:(Int × (List Int))):Option (Qf (Int × (List Int)) (List Int)) :=
 if (decide (s93.1 < s36.1))=true then
  (lkI x1 s93.1).bind fun a96 =>
  if (a96==s90.1)=true then
   if 0<=(zv (s93.1)) then
    if ((IntKind.u8.wrap (BitVec.ofInt (IntKind.bits .u8) (Int.fdiv 0 (2^min (Int.toNat (zv (s93.1))) (IntKind.bits .u8))) &&& BitVec.ofInt (IntKind.bits .u8) 1).toNat)==1)=true then
     if (decide ((s93.2.length:Int) < 3))=true then
      if (s93.2++([s90.1]:(List Int))).length*8<=140737488355328 then
       some (.next (zw (s93.1+1),(s93.2++([s90.1]:(List Int)))))
      else none
     else
     some (.next (zw (s93.1+1),s93.2))
    else
    some (.next (zw (s93.1+1),s93.2))
   else none
  else
  some (.next (zw (s93.1+1),s93.2))
 else
 some (.done s93.2)
def Qei (p0:Qe) (s36:(Int × (List (Int ⊕ Ad)))) (x1:(List Int)) (s90:(Int × (List Int))):Option (Qf (Int × (List Int)) (List Int)) :=
 if (decide (s90.1 < (if 5 < (if 1 > (p0.Nodes.length:Int) then 1 else (p0.Nodes.length:Int)) then 5 else (if 1 > (p0.Nodes.length:Int) then 1 else (p0.Nodes.length:Int)))))=true then
  (Qb fuel (Qla s36 x1 s90) (0,s90.2)).bind fun x105 =>
  some (.next (zw (s90.1+1),x105))
 else
 some (.done s90.2)
def Qlj (p0:Qe) (s36:(Int × (List (Int ⊕ Ad)))) (a86:Int) (a88:Int) (x107:(List Int)) (s108:(Int × (List (List Int)))):Option (Qf (Int × (List (List Int))) (List (List Int))) :=
 (Q4 (Qa.mk (zw (1+(zw (Int.tmod p0.Grain 60)))) (List.set (List.map Ah s36.2) (Int.toNat a86) (Ad.mk a88 x107 s108.2))) a86).bind fun x109 =>
 (Vd x109).bind fun x111 =>
 if (decide (s108.1 < x111))=true then
  (Qc2 (zw (1+(zw (Int.tmod p0.Grain 60)))) a88 [] (zw (s108.1*(zw (a88+1))))).bind fun x115 =>
  if (s108.2++([x115]:(List (List Int)))).length*24<=140737488355328 then
   some (.next (zw (s108.1+1),(s108.2++([x115]:(List (List Int))))))
  else none
 else
 some (.done s108.2)
def Vb (p0:Qe) (x1:(List Int)) (s36:(Int × (List (Int ⊕ Ad)))):Option (Qf (Int × (List (Int ⊕ Ad))) (List (Int ⊕ Ad))) :=
 if (decide (s36.1 < (if 5 < (if 1 > (p0.Nodes.length:Int) then 1 else (p0.Nodes.length:Int)) then 5 else (if 1 > (p0.Nodes.length:Int) then 1 else (p0.Nodes.length:Int)))))=true then
  if (decide (s36.1 < (p0.Nodes.length:Int)))=true then
   (lkI p0.Nodes s36.1).bind fun a49 =>
   (lkI x1 s36.1).bind fun a51 =>
   (lkL s36.2 a51).bind fun a53 =>
   (Qb fuel (X6 p0 s36 x1 a49) (0,([]:(List Int)))).bind fun x72 =>
   (Qb fuel (Y4 p0 s36 a51 a53 x72 a49) (0,([]:(List (List Int))))).bind fun x83 =>
   some (.next (zw (s36.1+1),(List.set s36.2 (Int.toNat a51) (Sum.inr (Ad.mk a53 x72 x83)))))
  else
  (lkI x1 s36.1).bind fun a86 =>
  (lkL s36.2 a86).bind fun a88 =>
  (Qb fuel (Qei p0 s36 x1) (0,([]:(List Int)))).bind fun x107 =>
  (Qb fuel (Qlj p0 s36 a86 a88 x107) (0,([]:(List (List Int))))).bind fun x118 =>
  some (.next (zw (s36.1+1),(List.set s36.2 (Int.toNat a86) (Sum.inr (Ad.mk a88 x107 x118)))))
 else
 some (.done s36.2)
def Jl (p0:Qe):Option Qa :=
 if 0<=(if 5 < (if 1 > (p0.Nodes.length:Int) then 1 else (p0.Nodes.length:Int)) then 5 else (if 1 > (p0.Nodes.length:Int) then 1 else (p0.Nodes.length:Int)))/\(if 5 < (if 1 > (p0.Nodes.length:Int) then 1 else (p0.Nodes.length:Int)) then 5 else (if 1 > (p0.Nodes.length:Int) then 1 else (p0.Nodes.length:Int)))<=(if 5 < (if 1 > (p0.Nodes.length:Int) then 1 else (p0.Nodes.length:Int)) then 5 else (if 1 > (p0.Nodes.length:Int) then 1 else (p0.Nodes.length:Int)))/\(if 5 < (if 1 > (p0.Nodes.length:Int) then 1 else (p0.Nodes.length:Int)) then 5 else (if 1 > (p0.Nodes.length:Int) then 1 else (p0.Nodes.length:Int)))*56<=140737488355328 then
  if 0<=(if 5 < (if 1 > (p0.Nodes.length:Int) then 1 else (p0.Nodes.length:Int)) then 5 else (if 1 > (p0.Nodes.length:Int) then 1 else (p0.Nodes.length:Int)))/\(if 5 < (if 1 > (p0.Nodes.length:Int) then 1 else (p0.Nodes.length:Int)) then 5 else (if 1 > (p0.Nodes.length:Int) then 1 else (p0.Nodes.length:Int)))<=(if 5 < (if 1 > (p0.Nodes.length:Int) then 1 else (p0.Nodes.length:Int)) then 5 else (if 1 > (p0.Nodes.length:Int) then 1 else (p0.Nodes.length:Int)))/\(if 5 < (if 1 > (p0.Nodes.length:Int) then 1 else (p0.Nodes.length:Int)) then 5 else (if 1 > (p0.Nodes.length:Int) then 1 else (p0.Nodes.length:Int)))*1<=140737488355328 then
   (Yz (Af.mk (List.replicate (Int.toNat (if 5 < (if 1 > (p0.Nodes.length:Int) then 1 else (p0.Nodes.length:Int)) then 5 else (if 1 > (p0.Nodes.length:Int) then 1 else (p0.Nodes.length:Int)))) (0:Int)) 0 p0.Order)).bind fun x1 =>
   (Qb fuel (Y7 p0 x1) (1,0,(List.replicate (Int.toNat (if 5 < (if 1 > (p0.Nodes.length:Int) then 1 else (p0.Nodes.length:Int)) then 5 else (if 1 > (p0.Nodes.length:Int) then 1 else (p0.Nodes.length:Int)))) ((Sum.inl 0):(Int ⊕ Ad))))).bind fun x35 =>
   (Qb fuel (Vb p0 x1) (0,x35)).bind fun x122 =>
   (alr x122).bind fun m123 =>
   some (Qa.mk (zw (1+(zw (Int.tmod p0.Grain 60)))) m123)
  else none
 else none
def X0 (a4:Ad) (s6:(Int × (List (List Int)))):Option (Qf (Int × (List (List Int))) (List (List Int))) :=
 if (decide (s6.1 < (a4.Rows.length:Int)))=true then
  (lkI a4.Rows s6.1).bind fun a9 =>
  if a9.length*8<=140737488355328 then
   if (s6.2++[a9]).length*24<=140737488355328 then
    some (.next (zw (s6.1+1),(s6.2++[a9])))
   else none
  else none
 else
 some (.done s6.2)
def Yu (p1:Qa) (s1:(Int × (List Ad))):Option (Qf (Int × (List Ad)) (List Ad)) :=
 if (decide (s1.1 < (p1.Nodes.length:Int)))=true then
  (lkI p1.Nodes s1.1).bind fun a4 =>
  if a4.Parents.length*8<=140737488355328 then
   (Qb fuel (X0 a4) (0,([]:List (List Int)))).bind fun x12 =>
   if (s1.2++([(Ad.mk a4.Card a4.Parents x12)]:(List Ad))).length*56<=140737488355328 then
    some (.next (zw (s1.1+1),(s1.2++([(Ad.mk a4.Card a4.Parents x12)]:(List Ad)))))
   else none
  else none
 else
 some (.done s1.2)
def Qgg (w0_0:Int) (w0_1:(List Ad)):Option Qa :=
 some (Qa.mk w0_0 w0_1)
def Qf4 (a20:Ad) (s22:(Int × (List (List Int)))):Option (Qf (Int × (List (List Int))) (List (List Int))) :=
 if (decide (s22.1 < (a20.Rows.length:Int)))=true then
  (lkI a20.Rows s22.1).bind fun a25 =>
  if a25.length*8<=140737488355328 then
   if (s22.2++[a25]).length*24<=140737488355328 then
    some (.next (zw (s22.1+1),(s22.2++[a25])))
   else none
  else none
 else
 some (.done s22.2)
def Qgc (a32:Ad) (s34:(Int × (List (List Int)))):Option (Qf (Int × (List (List Int))) (List (List Int))) :=
 if (decide (s34.1 < (a32.Rows.length:Int)))=true then
  (lkI a32.Rows s34.1).bind fun a37 =>
  if a37.length*8<=140737488355328 then
   if (s34.2++[a37]).length*24<=140737488355328 then
    some (.next (zw (s34.1+1),(s34.2++[a37])))
   else none
  else none
 else
 some (.done s34.2)
def V5 (p1:Qa) (y17:(Int × (List Ad))) (s29:(Int × (List Ad))):Option (Qf (Int × (List Ad)) (List Ad)) :=
 if (decide (s29.1 < (p1.Nodes.length:Int)))=true then
  (lkI p1.Nodes s29.1).bind fun a32 =>
  if a32.Parents.length*8<=140737488355328 then
   (Qb fuel (Qgc a32) (0,([]:List (List Int)))).bind fun x40 =>
   (lkI s29.2 (y17.2.length:Int)).bind fun a41 =>
   if (s29.2++([(Ad.mk a32.Card a32.Parents x40)]:(List Ad))).length*56<=140737488355328 then
    some (.next (zw (s29.1+1),(s29.2++([(Ad.mk a32.Card a32.Parents x40)]:(List Ad)))))
   else none
  else none
 else
 some (.done s29.2)
def Qf8 (w1_0:Int) (w1_1:(List Ad)) (w1_2:Int) (w1_3:Int) (w1_4:(List Int)) (w1_5:(List (List Int))):Option Qa :=
 (lkI w1_1 w1_2).bind fun a47 =>
 some (Qa.mk w1_0 (List.set w1_1 (Int.toNat w1_2) (Ad.mk w1_3 w1_4 w1_5)))
def Qq (w3_0:Int) (w3_1:(List Ad)) (w3_2:Int) (w3_3:Int) (w3_4:(List Int)) (w3_5:(List (List Int))):Option Qa :=
 (lkI w3_1 w3_2).bind fun a58 =>
 some (Qa.mk w3_0 (List.set w3_1 (Int.toNat w3_2) (Ad.mk w3_3 w3_4 w3_5)))
def Qbi (w4_0:Int) (w4_1:(List Ad)) (w4_2:Int) (w4_3:Int) (w4_4:(List (List Int))):Option Qa :=
 (lkI w4_1 w4_2).bind fun a74 =>
 some (Qa.mk w4_0 (List.set w4_1 (Int.toNat w4_2) (Ad.mk w4_3 [] w4_4)))
def Qbo (w5_0:Int) (w5_1:(List Ad)):Option Qa :=
 some (Qa.mk w5_0 w5_1)
def Qbk (w2_1:Int) (s136:(Int × Int × (List (List Int)))):Option (Qf (Int × Int × (List (List Int))) (List (List Int))) :=
 if (decide (s136.1 < s136.2.1))=true then
  (lkI s136.2.2 w2_1).bind fun a139 =>
  (lkI a139 s136.1).bind fun a141 =>
  (lkI a139 s136.2.1).bind fun a143 =>
  (lkI (List.set a139 (Int.toNat s136.1) a143) s136.2.1).bind fun a145 =>
  some (.next (zw (s136.1+1),zw (s136.2.1 - 1),(List.set (List.set s136.2.2 (Int.toNat w2_1) (List.set a139 (Int.toNat s136.1) a143)) (Int.toNat w2_1) (List.set (List.set a139 (Int.toNat s136.1) a143) (Int.toNat s136.2.1) a141))))
 else
 some (.done s136.2.2)
def V2 (w2_0:Nat) (w2_1:Int) (w2_2:Int) (w2_3:Int) (w2_4:Int) (w2_5:Int) (w2_6:Int) (w2_7:Int) (w2_8:(List Ad)) (w2_9:Int) (w2_10:Int) (w2_11:(List Int)) (w2_12:(List (List Int))):Option Qa :=
 if ((Int.tmod w2_2 12)==0)=true then
  Qq w2_5 w2_8 w2_9 w2_10 w2_11 w2_12
 else
 if ((Int.tmod w2_2 12)==1)=true then
  (lkI w2_8 w2_9).bind fun a64 =>
  Qq w2_6 w2_8 w2_9 w2_5 w2_11 w2_12
 else
 if ((Int.tmod w2_2 12)==2)=true then
  (lkI w2_8 w2_9).bind fun a68 =>
  if (w2_11++([w2_5]:(List Int))).length*8<=140737488355328 then
   Qq w2_6 w2_8 w2_9 w2_10 (w2_11++([w2_5]:(List Int))) w2_12
  else none
 else
 if ((Int.tmod w2_2 12)==3)=true then
  (lkI w2_8 w2_9).bind fun a72 =>
  Qbi w2_6 w2_8 w2_9 w2_10 w2_12
 else
 if ((Int.tmod w2_2 12)==4)=true then
  (lkI w2_8 w2_9).bind fun a80 =>
  if (w2_12++[([w2_5]:(List Int))]).length*24<=140737488355328 then
   Qq w2_6 w2_8 w2_9 w2_10 w2_11 (w2_12++[([w2_5]:(List Int))])
  else none
 else
 if ((Int.tmod w2_2 12)==5)=true then
  if (decide (w2_1>=0))=true then
   (lkI w2_8 w2_9).bind fun a86 =>
   if 0<=(0:Int)/\(0:Int)<=w2_1/\w2_1<=(w2_12.length:Int) then
    Qbo w2_6 (List.set w2_8 (Int.toNat w2_9) (Ad.mk w2_10 w2_11 (sub w2_12 0 w2_1)))
   else none
  else
  Qq w2_6 w2_8 w2_9 w2_10 w2_11 w2_12
 else
 if ((Int.tmod w2_2 12)==6)=true then
  if (decide (w2_1>=0))=true then
   (lkI w2_8 w2_9).bind fun a95 =>
   (lkI w2_12 w2_1).bind fun a97 =>
   if (decide ((a97.length:Int) > 0))=true then
    (lkI a97 0).bind fun a101 =>
    Qq w2_6 w2_8 w2_9 w2_10 w2_11 (List.set w2_12 (Int.toNat w2_1) (List.set a97 (Int.toNat 0) w2_5))
   else
   Qq w2_6 w2_8 w2_9 w2_10 w2_11 w2_12
  else
  Qq w2_6 w2_8 w2_9 w2_10 w2_11 w2_12
 else
 if ((Int.tmod w2_2 12)==7)=true then
  if (decide (w2_1>=0))=true then
   (lkI w2_12 w2_1).bind fun a108 =>
   (lkI w2_8 w2_9).bind fun a111 =>
   if (a108++([0]:(List Int))).length*8<=140737488355328 then
    Qq w2_6 w2_8 w2_9 w2_10 w2_11 (List.set (List.set w2_12 (Int.toNat w2_1) ([]:List Int)) (Int.toNat w2_1) (a108++([0]:(List Int))))
   else none
  else
  Qq w2_6 w2_8 w2_9 w2_10 w2_11 w2_12
 else
 if ((Int.tmod w2_2 12)==8)=true then
  if (decide (w2_1>=0))=true then
   (lkI w2_8 w2_9).bind fun a118 =>
   (lkI w2_12 w2_1).bind fun a120 =>
   if (decide ((a120.length:Int) > 0))=true then
    if 0<=(a120.length:Int)/\(a120.length:Int)<=(a120.length:Int)/\(a120.length:Int)*8<=140737488355328 then
     (lkI (List.replicate (Int.toNat (a120.length:Int)) (0:Int)) 0).bind fun a125 =>
     Qq w2_6 w2_8 w2_9 w2_10 w2_11 (List.set (List.set w2_12 (Int.toNat w2_1) (List.replicate (Int.toNat (a120.length:Int)) (0:Int))) (Int.toNat w2_1) (List.set (List.replicate (Int.toNat (a120.length:Int)) (0:Int)) (Int.toNat 0) w2_6))
    else none
   else
   Qq w2_6 w2_8 w2_9 w2_10 w2_11 w2_12
  else
  Qq w2_6 w2_8 w2_9 w2_10 w2_11 w2_12
 else
 if ((Int.tmod w2_2 12)==9)=true then
  if (decide (w2_1>=0))=true then
   (lkI w2_8 w2_9).bind fun a132 =>
   (lkI w2_12 w2_1).bind fun a134 =>
   (Qb fuel (Qbk w2_1) (0,zw ((a134.length:Int) - 1),w2_12)).bind fun x150 =>
   Qq w2_6 w2_8 w2_9 w2_10 w2_11 x150
  else
  Qq w2_6 w2_8 w2_9 w2_10 w2_11 w2_12
 else
 if ((Int.tmod w2_2 12)==10)=true then
  (lkI w2_8 w2_9).bind fun a153 =>
  if (w2_8++([(Ad.mk 1 [] [[w2_6]])]:(List Ad))).length*56<=140737488355328 then
   Qq w2_6 (w2_8++([(Ad.mk 1 [] [[w2_6]])]:(List Ad))) w2_9 w2_10 w2_11 w2_12
  else none
 else
 (lkI w2_8 w2_9).bind fun a155 =>
 if 0<=(0:Int)/\(0:Int)<=(zw ((((List.set w2_8 (Int.toNat w2_9) (Ad.mk w2_10 w2_11 w2_12)).length):Int) - 1))/\(zw ((((List.set w2_8 (Int.toNat w2_9) (Ad.mk w2_10 w2_11 w2_12)).length):Int) - 1))<=((List.set w2_8 (Int.toNat w2_9) (Ad.mk w2_10 w2_11 w2_12)).length:Int) then
  some (Qa.mk w2_6 (sub (List.set w2_8 (Int.toNat w2_9) (Ad.mk w2_10 w2_11 w2_12)) 0 (zw ((((List.set w2_8 (Int.toNat w2_9) (Ad.mk w2_10 w2_11 w2_12)).length):Int) - 1))))
 else none
def Jf (p0:Za) (p1:Qa):Option Qa :=
 (Qb fuel (Qbg (fun s=>decide (s.1=(Int.tmod (zw p0.At) (p1.Nodes.length:Int)))) (Yu p1)) (0,([]:(List Ad)))).bind fun x160=>match x160 with
 | .inl y17=>(
  if (decide (y17.1 < (p1.Nodes.length:Int)))=true then
   (lkI p1.Nodes y17.1).bind fun a20 =>
   if a20.Parents.length*8<=140737488355328 then
    (Qb fuel (Qf4 a20) (0,([]:List (List Int)))).bind fun x28 =>
    if (y17.2++[(default:Ad)]).length*56<=140737488355328 then
     (Qb fuel (V5 p1 y17) (zw (y17.1+1),(y17.2++[(default:Ad)]))).bind fun x44 =>
     if ((x44.length:Int)==0)=true then
      Qf8 p1.Grain x44 (y17.2.length:Int) a20.Card a20.Parents x28
     else
     if (x44.length:Int)≠0 then
      (lkI x44 (y17.2.length:Int)).bind fun a51 =>
      if Int.tmod (zw (p0.At)) (x44.length:Int)=(y17.2.length:Int) then
       if (decide ((x28.length:Int) > 0))=true then
        if (x28.length:Int)≠0 then
         V2 (Int.toNat (y17.2.length:Int)) (Int.tmod (zw (p0.Row)) (x28.length:Int)) p0.What p0.At p0.Row p0.N p1.Grain 0 x44 (y17.2.length:Int) a20.Card a20.Parents x28
        else none
       else
       V2 (Int.toNat (y17.2.length:Int)) (-1) p0.What p0.At p0.Row p0.N p1.Grain 0 x44 (y17.2.length:Int) a20.Card a20.Parents x28
      else none
     else none
    else none
   else none
  else
  none)
 | .inr x14=>(
  if ((x14.length:Int)==0)=true then
   Qgg p1.Grain x14
  else
  none)
def Jc (p0:Qa) (s1:(Int × (List Int))) (s4:(Int × Int)):Option (Qf (Int × Int) Int) :=
 (lkI p0.Nodes s1.1).bind fun a5 =>
 if (decide (s4.2 < (a5.Parents.length:Int)))=true then
  (lkI a5.Parents s4.2).bind fun a9 =>
  if 0<=(zv (a9)) then
   some (.next (zv (zb s4.1 ||| zb (zv (1*2^min (Int.toNat (zv (a9))) zk))).toNat,zw (s4.2+1)))
  else none
 else
 some (.done s4.1)
def Jb (p0:Qa) (s1:(Int × (List Int))):Option (Qf (Int × (List Int)) (List Int)) :=
 if (decide (s1.1 < (p0.Nodes.length:Int)))=true then
  (Qb fuel (Jc p0 s1) (0,0)).bind fun x12 =>
  if (s1.2++([x12]:(List Int))).length*8<=140737488355328 then
   some (.next (zw (s1.1+1),(s1.2++([x12]:(List Int)))))
  else none
 else
 some (.done s1.2)
def Kk (p0:Qa):Option (List Int) :=
 (Qb fuel (Jb p0) (0,([]:(List Int)))).bind fun x14 =>
 some x14
def Jk (p0:(List Int)) (p1:Int) (s1:Int):Option (Qf Int (Unit ⊕ Unit)) :=
 if (decide (s1 < (p0.length:Int)))=true then
  (lkI p0 s1).bind fun a4 =>
  if (decide (a4 < 0))=true then
   some (.done (Sum.inl ()))
  else
  if (decide (a4>=p1))=true then
   some (.done (Sum.inl ()))
  else
  if (decide (s1 > 0))=true then
   (lkI p0 (zw (s1 - 1))).bind fun a12 =>
   if (decide (a4<=a12))=true then
    some (.done (Sum.inl ()))
   else
   some (.next (zw (s1+1)))
  else
  some (.next (zw (s1+1)))
 else
 some (.done (Sum.inr ()))
def Ky (p0:(List Int)) (p1:Int):Option Bool :=
 (Qb fuel (Jk p0 p1) 0).bind fun x16=>match x16 with
 | .inl x17=>(
  some false)
 | .inr x18=>(
  some true)
def Qb8 (p0:Int) (p1:Int):Option Bool :=
 if 0<=(zv (p1)) then
  some ((zv (zb (Int.fdiv p0 (2^min (Int.toNat (zv (p1))) zk)) &&& zb 1).toNat)==1)
 else none
def Qao (p0:(List Int)) (s4:(Int × Int)):Option (Qf (Int × Int) Int) :=
 if (decide (s4.2 < (p0.length:Int)))=true then
  (Qb8 s4.1 s4.2).bind fun x7 =>
  if x7=true then
   (lkI p0 s4.2).bind fun a11 =>
   some (.next (zv (zb s4.1 ||| zb a11).toNat,zw (s4.2+1)))
  else
  some (.next (s4.1,zw (s4.2+1)))
 else
 some (.done s4.1)
def Qdb (p0:(List Int)) (s1:(Int × Int)):Option (Qf (Int × Int) Int) :=
 if (decide (s1.2 < (p0.length:Int)))=true then
  (Qb fuel (Qao p0) (s1.1,0)).bind fun x14 =>
  some (.next (x14,zw (s1.2+1)))
 else
 some (.done s1.1)
def Qha (p0:(List Int)) (p1:Int):Option Int :=
 (Qb fuel (Qdb p0) (p1,0)).bind fun x16 =>
 some x16
def V4 (p0:(List Int)) (s1:Int):Option (Qf Int (Unit ⊕ Unit)) :=
 if (decide (s1 < (p0.length:Int)))=true then
  (lkI p0 s1).bind fun a4 =>
  (Qha p0 a4).bind fun x6 =>
  (Qb8 x6 s1).bind fun x8 =>
  if x8=true then
   some (.done (Sum.inl ()))
  else
  some (.next (zw (s1+1)))
 else
 some (.done (Sum.inr ()))
def Kl (p0:(List Int)):Option Bool :=
 (Qb fuel (V4 p0) 0).bind fun x12=>match x12 with
 | .inl x13=>(
  some false)
 | .inr x14=>(
  some true)
def Yo (p0:Qa) (s9:(Int × Int)):Option (Qf (Int × Int) (Unit ⊕ Int)) :=
 if (decide (s9.2 < (p0.Nodes.length:Int)))=true then
  (lkI p0.Nodes s9.2).bind fun a12 =>
  if (decide (a12.Card < 1))=true then
   some (.done (Sum.inl ()))
  else
  if (decide (a12.Card > 4))=true then
   some (.done (Sum.inl ()))
  else
  (Ky a12.Parents (p0.Nodes.length:Int)).bind fun x18 =>
  if (!x18)=true then
   some (.done (Sum.inl ()))
  else
  some (.next (zw (s9.1*a12.Card),zw (s9.2+1)))
 else
 some (.done (Sum.inr s9.1))
def Yq (a47:(List Int)) (p0:Qa) (s51:(Int × Int)):Option (Qf (Int × Int) (Unit ⊕ Int)) :=
 if (decide (s51.2 < (a47.length:Int)))=true then
  (lkI a47 s51.2).bind fun a54 =>
  if (decide (a54 < 0))=true then
   some (.done (Sum.inl ()))
  else
  if (decide (a54 > p0.Grain))=true then
   some (.done (Sum.inl ()))
  else
  some (.next (zw (s51.1+a54),zw (s51.2+1)))
 else
 some (.done (Sum.inr s51.1))
def Yp (a36:Ad) (p0:Qa) (s44:Int):Option (Qf Int (Unit ⊕ Unit)) :=
 if (decide (s44 < (a36.Rows.length:Int)))=true then
  (lkI a36.Rows s44).bind fun a47 =>
  if ((a47.length:Int) != a36.Card)=true then
   some (.done (Sum.inl ()))
  else
  (Qb fuel (Yq a47 p0) (0,0)).bind fun x60=>match x60 with
  | .inl x61=>(
   some (.done (Sum.inl ())))
  | .inr x62=>(
   if (x62 != p0.Grain)=true then
    some (.done (Sum.inl ()))
   else
   some (.next (zw (s44+1))))
 else
 some (.done (Sum.inr ()))
def Yn (p0:Qa) (s33:Int):Option (Qf Int (Unit ⊕ Unit)) :=
 if (decide (s33 < (p0.Nodes.length:Int)))=true then
  (lkI p0.Nodes s33).bind fun a36 =>
  (Q4 p0 s33).bind fun x38 =>
  (Vd x38).bind fun x40 =>
  if ((a36.Rows.length:Int) != x40)=true then
   some (.done (Sum.inl ()))
  else
  (Qb fuel (Yp a36 p0) 0).bind fun x65=>match x65 with
  | .inl x66=>(
   some (.done (Sum.inl ())))
  | .inr x67=>(
   some (.next (zw (s33+1))))
 else
 some (.done (Sum.inr ()))
def Ve (p0:Qa):Option Bool :=
 if (decide (p0.Grain < 1))=true then
  some false
 else
 if (decide (p0.Grain > 60))=true then
  some false
 else
 if (decide ((p0.Nodes.length:Int) < 1))=true then
  some false
 else
 if (decide ((p0.Nodes.length:Int) > 8))=true then
  some false
 else
 (Qb fuel (Yo p0) (1,0)).bind fun x22=>match x22 with
 | .inl x23=>(
  some false)
 | .inr x24=>(
  if (decide (x24 > 1024))=true then
   some false
  else
  (Kk p0).bind fun x27 =>
  (Kl x27).bind fun x29 =>
  if (!x29)=true then
   some false
  else
  (Qb fuel (Yn p0) 0).bind fun x68=>match x68 with
  | .inl x69=>(
   some false)
  | .inr x70=>(
   some true))
def Qcf (p0:Qa):Option Int :=
 (Vh p0).bind fun x1 =>
 (Vd x1).bind fun x3 =>
 some x3
def Qcq (p0:(List Int)) (s1:(Int × Int × (List Int))):Option (Qf (Int × Int × (List Int)) (List Int)) :=
 if (decide (s1.2.1>=0))=true then
  (lkI p0 s1.2.1).bind fun a4 =>
  if a4≠0 then
   (lkI s1.2.2 s1.2.1).bind fun a6 =>
   if a4≠0 then
    some (.next (zw (Int.tdiv s1.1 a4),zw (s1.2.1 - 1),(List.set s1.2.2 (Int.toNat s1.2.1) (Int.tmod s1.1 a4))))
   else none
  else none
 else
 some (.done s1.2.2)
def Qe2 (p0:(List Int)) (p1:Int):Option (List Int) :=
 if 0<=(p0.length:Int)/\(p0.length:Int)<=(p0.length:Int)/\(p0.length:Int)*8<=140737488355328 then
  (Qb fuel (Qcq p0) (p1,zw ((p0.length:Int) - 1),(List.replicate (Int.toNat (p0.length:Int)) (0:Int)))).bind fun x10 =>
  some x10
 else none
def Qb9 (p0:Qa) (p1:Int):Option (List Int) :=
 (Vh p0).bind fun x1 =>
 (Qe2 x1 p1).bind fun x3 =>
 some x3
def V8 (p0:(List Int)) (p1:(List Int)) (s1:Int):Option (Qf Int (Unit ⊕ Unit)) :=
 if (decide (s1 < (p0.length:Int)))=true then
  (lkI p1 s1).bind fun a4 =>
  if (decide (a4>=0))=true then
   (lkI p0 s1).bind fun a8 =>
   if (a4 != a8)=true then
    some (.done (Sum.inl ()))
   else
   some (.next (zw (s1+1)))
  else
  some (.next (zw (s1+1)))
 else
 some (.done (Sum.inr ()))
def Y5 (p0:(List Int)) (p1:(List Int)):Option Bool :=
 (Qb fuel (V8 p0 p1) 0).bind fun x12=>match x12 with
 | .inl x13=>(
  some false)
 | .inr x14=>(
  some true)
def Qdu (p1:(List Int)) (p0:(List Int)) (s1:(Int × Int × Int)):Option (Qf (Int × Int × Int) Int) :=
 if (decide (s1.2.2>=0))=true then
  (lkI p1 s1.2.2).bind fun a4 =>
  (lkI p0 s1.2.2).bind fun a6 =>
  some (.next (zw (s1.1+(zw (a4*s1.2.1))),zw (s1.2.1*a6),zw (s1.2.2 - 1)))
 else
 some (.done s1.1)
def Qc8 (p0:(List Int)) (p1:(List Int)):Option Int :=
 (Qb fuel (Qdu p1 p0) (0,1,zw ((p0.length:Int) - 1))).bind fun x9 =>
 some x9
def Qfo (p0:Qa) (p1:Int) (p2:(List Int)):Option (List Int) :=
 (lkI p0.Nodes p1).bind fun a1 =>
 (Q4 p0 p1).bind fun x3 =>
 (Qex p2 a1.Parents).bind fun x5 =>
 (Qc8 x3 x5).bind fun x7 =>
 (lkI a1.Rows x7).bind fun a9 =>
 some a9
def K0 (p1:(List Int)) (p0:Qa) (s1:(Int × Int)):Option (Qf (Int × Int) Int) :=
 if (decide (s1.2 < (p1.length:Int)))=true then
  (lkI p1 s1.2).bind fun a4 =>
  if (decide (a4 < 0))=true then
   some (.next (zw (s1.1*p0.Grain),zw (s1.2+1)))
  else
  some (.next (s1.1,zw (s1.2+1)))
 else
 some (.done s1.1)
def Kx (x15:(List Int)) (p1:(List Int)) (p0:Qa) (s25:(Int × Int)):Option (Qf (Int × Int) Int) :=
 if (decide (s25.2 < (x15.length:Int)))=true then
  (lkI p1 s25.2).bind fun a28 =>
  if (decide (a28 < 0))=true then
   (Qfo p0 s25.2 x15).bind fun x32 =>
   (lkI x15 s25.2).bind fun a34 =>
   (lkI x32 a34).bind fun a36 =>
   some (.next (zw (s25.1*a36),zw (s25.2+1)))
  else
  some (.next (s25.1,zw (s25.2+1)))
 else
 some (.done s25.1)
def Qe1 (p0:Qa) (p1:(List Int)) (p2:(List Int)) (s10:(Int × Int)):Option (Qf (Int × Int) Int) :=
 (Qcf p0).bind fun x11 =>
 if (decide (s10.2 < x11))=true then
  (Qb9 p0 s10.2).bind fun x15 =>
  (Y5 x15 p1).bind fun x17 =>
  if (!x17)=true then
   some (.next (s10.1,zw (s10.2+1)))
  else
  (Y5 x15 p2).bind fun x21 =>
  if (!x21)=true then
   some (.next (s10.1,zw (s10.2+1)))
  else
  (Qb fuel (Kx x15 p1 p0) (1,0)).bind fun x39 =>
  some (.next (zw (s10.1+x39),zw (s10.2+1)))
 else
 some (.done s10.1)
def Qfn (p0:Qa) (p1:(List Int)) (p2:(List Int)):Option (Int × Int) :=
 (Qb fuel (K0 p1 p0) (1,0)).bind fun x9 =>
 (Qb fuel (Qe1 p0 p1 p2) (0,0)).bind fun x41 =>
 some (x41,x9)
def Qcr  (s1:(Int × (List Int))):Option (Qf (Int × (List Int)) (List Int)) :=
 if (s1.1 != 0)=true then
  if (s1.2++([(if (zw (0 - (Int.tmod s1.1 10000))) > (Int.tmod s1.1 10000) then (zw (0 - (Int.tmod s1.1 10000))) else (Int.tmod s1.1 10000))]:(List Int))).length*8<=140737488355328 then
   some (.next (zw (Int.tdiv s1.1 10000),(s1.2++([(if (zw (0 - (Int.tmod s1.1 10000))) > (Int.tmod s1.1 10000) then (zw (0 - (Int.tmod s1.1 10000))) else (Int.tmod s1.1 10000))]:(List Int)))))
  else none
 else
 some (.done s1.2)
def Xl (p0:Int):Option (List Int) :=
 (Qb fuel (Qcr) (p0,([]:(List Int)))).bind fun x5 =>
 some x5
def Qks  (s1:(List Int)):Option (Qf (List Int) (List Int)) :=
 if (decide ((s1.length:Int) > 0))=true then
  (lkI s1 (zw ((s1.length:Int) - 1))).bind fun a4 =>
  if (a4==0)=true then
   if 0<=(0:Int)/\(0:Int)<=(zw ((s1.length:Int) - 1))/\(zw ((s1.length:Int) - 1))<=(s1.length:Int) then
    some (.next (sub s1 0 (zw ((s1.length:Int) - 1))))
   else none
  else
  some (.done s1)
 else
 some (.done s1)
def Jr (p0:(List Int)):Option (List Int) :=
 (Qb fuel (Qks) p0).bind fun x9 =>
 some x9
def Qdm (p1:(List Int)) (s1:(Int × (List Int))) (p0:(List Int)) (s4:(Int × Int × (List Int))):Option (Qf (Int × Int × (List Int)) (List Int)) :=
 if (decide (s4.2.1 < (p1.length:Int)))=true then
  (lkI s4.2.2 (zw (s1.1+s4.2.1))).bind fun a7 =>
  (lkI p0 s1.1).bind fun a10 =>
  (lkI p1 s4.2.1).bind fun a12 =>
  (lkI s4.2.2 (zw (s1.1+s4.2.1))).bind fun a14 =>
  some (.next (zw (Int.tdiv (zw ((zw (s4.1+a7))+(zw (a10*a12)))) 10000),zw (s4.2.1+1),(List.set s4.2.2 (Int.toNat (zw (s1.1+s4.2.1))) (Int.tmod (zw ((zw (s4.1+a7))+(zw (a10*a12)))) 10000))))
 else
 if (decide (s4.1 > 0))=true then
  (lkI s4.2.2 (zw (s1.1+s4.2.1))).bind fun a19 =>
  (lkI s4.2.2 (zw (s1.1+s4.2.1))).bind fun a22 =>
  some (.next (zw (Int.tdiv (zw (s4.1+a19)) 10000),zw (s4.2.1+1),(List.set s4.2.2 (Int.toNat (zw (s1.1+s4.2.1))) (Int.tmod (zw (s4.1+a19)) 10000))))
 else
 some (.done s4.2.2)
def Qdh (p0:(List Int)) (p1:(List Int)) (s1:(Int × (List Int))):Option (Qf (Int × (List Int)) (List Int)) :=
 if (decide (s1.1 < (p0.length:Int)))=true then
  (Qb fuel (Qdm p1 s1 p0) (0,0,s1.2)).bind fun x26 =>
  some (.next (zw (s1.1+1),x26))
 else
 some (.done s1.2)
def Vg (p0:(List Int)) (p1:(List Int)):Option (List Int) :=
 if 0<=(zw ((p0.length:Int)+(p1.length:Int)))/\(zw ((p0.length:Int)+(p1.length:Int)))<=(zw ((p0.length:Int)+(p1.length:Int)))/\(zw ((p0.length:Int)+(p1.length:Int)))*8<=140737488355328 then
  (Qb fuel (Qdh p0 p1) (0,(List.replicate (Int.toNat (zw ((p0.length:Int)+(p1.length:Int)))) (0:Int)))).bind fun x28 =>
  (Jr x28).bind fun x29 =>
  some x29
 else none
def J8 (p0:(List Int)) (p1:(List Int)) (s5:Int):Option (Qf Int (Int ⊕ Unit)) :=
 if (decide (s5>=0))=true then
  (lkI p0 s5).bind fun a8 =>
  (lkI p1 s5).bind fun a10 =>
  if (a8 != a10)=true then
   if (decide (a8 < a10))=true then
    some (.done (Sum.inl (-1)))
   else
   some (.done (Sum.inl 1))
  else
  some (.next (zw (s5 - 1)))
 else
 some (.done (Sum.inr ()))
def Y9 (p0:(List Int)) (p1:(List Int)):Option Int :=
 if ((p0.length:Int) != (p1.length:Int))=true then
  if (decide ((p0.length:Int) < (p1.length:Int)))=true then
   some (-1)
  else
  some 1
 else
 (Qb fuel (J8 p0 p1) (zw ((p0.length:Int) - 1))).bind fun x16=>match x16 with
 | .inl x17=>(
  some x17)
 | .inr x18=>(
  some 0)
def Qdo (p0:(List Int)) (p1:(List Int)) (s1:(Int × Int × (List Int))):Option (Qf (Int × Int × (List Int)) (List Int)) :=
 if (decide (s1.2.1 < (p0.length:Int)))=true then
  (lkI p0 s1.2.1).bind fun a4 =>
  if (decide (s1.2.1 < (p1.length:Int)))=true then
   (lkI p1 s1.2.1).bind fun a8 =>
   if (decide ((zw ((zw (a4 - s1.1)) - a8)) < 0))=true then
    if (s1.2.2++([zw ((zw ((zw (a4 - s1.1)) - a8))+10000)]:(List Int))).length*8<=140737488355328 then
     some (.next (1,zw (s1.2.1+1),(s1.2.2++([zw ((zw ((zw (a4 - s1.1)) - a8))+10000)]:(List Int)))))
    else none
   else
   if (s1.2.2++([zw ((zw (a4 - s1.1)) - a8)]:(List Int))).length*8<=140737488355328 then
    some (.next (0,zw (s1.2.1+1),(s1.2.2++([zw ((zw (a4 - s1.1)) - a8)]:(List Int)))))
   else none
  else
  if (decide ((zw (a4 - s1.1)) < 0))=true then
   if (s1.2.2++([zw ((zw (a4 - s1.1))+10000)]:(List Int))).length*8<=140737488355328 then
    some (.next (1,zw (s1.2.1+1),(s1.2.2++([zw ((zw (a4 - s1.1))+10000)]:(List Int)))))
   else none
  else
  if (s1.2.2++([zw (a4 - s1.1)]:(List Int))).length*8<=140737488355328 then
   some (.next (0,zw (s1.2.1+1),(s1.2.2++([zw (a4 - s1.1)]:(List Int)))))
  else none
 else
 some (.done s1.2.2)
def Qc9 (p0:(List Int)) (p1:(List Int)):Option (List Int) :=
 (Qb fuel (Qdo p0 p1) (0,0,([]:(List Int)))).bind fun x15 =>
 (Jr x15).bind fun x16 =>
 some x16
def Qcm (p1:(List Int)) (x8:(List Int)) (s10:(Int × Int × Int)):Option (Qf (Int × Int × Int) (Int × Int)) :=
 if (decide (s10.2.2>=(if (zw ((zw ((p1.length:Int) - 1)) - 1)) > 0 then (zw ((zw ((p1.length:Int) - 1)) - 1)) else 0)))=true then
  if (decide (s10.2.2 < (x8.length:Int)))=true then
   (lkI x8 s10.2.2).bind fun a15 =>
   if (decide (s10.2.2<=(zw ((p1.length:Int) - 1))))=true then
    (lkI p1 s10.2.2).bind fun a19 =>
    some (.next (zw ((zw (s10.1*10000))+a19),zw ((zw (s10.2.1*10000))+a15),zw (s10.2.2 - 1)))
   else
   some (.next (s10.1,zw ((zw (s10.2.1*10000))+a15),zw (s10.2.2 - 1)))
  else
  if (decide (s10.2.2<=(zw ((p1.length:Int) - 1))))=true then
   (lkI p1 s10.2.2).bind fun a23 =>
   some (.next (zw ((zw (s10.1*10000))+a23),zw (s10.2.1*10000),zw (s10.2.2 - 1)))
  else
  some (.next (s10.1,zw (s10.2.1*10000),zw (s10.2.2 - 1)))
 else
 some (.done (s10.1,s10.2.1))
def Qch (p1:(List Int)) (x8:(List Int)) (s27:(Int × Int)):Option (Qf (Int × Int) Int) :=
 if (decide (s27.1 < s27.2))=true then
  (Vg p1 [zw (Int.tdiv (zw ((zw (s27.1+s27.2))+1)) 2)]).bind fun x30 =>
  (Y9 x30 x8).bind fun x32 =>
  if (decide (x32<=0))=true then
   some (.next (zw (Int.tdiv (zw ((zw (s27.1+s27.2))+1)) 2),s27.2))
  else
  some (.next (s27.1,zw ((zw (Int.tdiv (zw ((zw (s27.1+s27.2))+1)) 2)) - 1)))
 else
 some (.done s27.1)
def Qcn (p0:(List Int)) (p1:(List Int)) (s3:((List Int) × Int × (List Int))):Option (Qf ((List Int) × Int × (List Int)) ((List Int) × (List Int))) :=
 if (decide (s3.2.1>=0))=true then
  (lkI p0 s3.2.1).bind fun a6 =>
  if (([a6]:(List Int))++s3.1).length*8<=140737488355328 then
   (Jr (([a6]:(List Int))++s3.1)).bind fun x8 =>
   (Qb fuel (Qcm p1 x8) (0,0,zw ((zw ((p1.length:Int) - 1))+1))).bind fun x26 =>
   if (zw (x26.1+1))≠0 then
    if x26.1≠0 then
     (Qb fuel (Qch p1 x8) (zw (Int.tdiv x26.2 (zw (x26.1+1))),zw (Int.tdiv x26.2 x26.1))).bind fun x37 =>
     (lkI s3.2.2 s3.2.1).bind fun a38 =>
     (Jr [x37]).bind fun x40 =>
     (Vg p1 x40).bind fun x42 =>
     (Qc9 x8 x42).bind fun x44 =>
     some (.next (x44,zw (s3.2.1 - 1),(List.set s3.2.2 (Int.toNat s3.2.1) x37)))
    else none
   else none
  else none
 else
 some (.done (s3.1,s3.2.2))
def Jv (p0:(List Int)) (p1:(List Int)):Option ((List Int) × (List Int)) :=
 if (decide ((p0.length:Int)<=(zw ((p1.length:Int) - 1))))=true then
  if p0.length*8<=140737488355328 then
   some ([],p0)
  else none
 else
 if 0<=(zw ((p0.length:Int) - (zw ((p1.length:Int) - 1))))/\(zw ((p0.length:Int) - (zw ((p1.length:Int) - 1))))<=(zw ((p0.length:Int) - (zw ((p1.length:Int) - 1))))/\(zw ((p0.length:Int) - (zw ((p1.length:Int) - 1))))*8<=140737488355328 then
  if 0<=(zw ((p0.length:Int) - (zw ((p1.length:Int) - 1))))/\(zw ((p0.length:Int) - (zw ((p1.length:Int) - 1))))<=(p0.length:Int)/\(p0.length:Int)<=(p0.length:Int) then
   if (sub p0 (zw ((p0.length:Int) - (zw ((p1.length:Int) - 1)))) (p0.length:Int)).length*8<=140737488355328 then
    (Qb fuel (Qcn p0 p1) ((sub p0 (zw ((p0.length:Int) - (zw ((p1.length:Int) - 1)))) (p0.length:Int)),zw ((((List.replicate (Int.toNat (zw ((p0.length:Int) - (zw ((p1.length:Int) - 1))))) (0:Int)).length):Int) - 1),(List.replicate (Int.toNat (zw ((p0.length:Int) - (zw ((p1.length:Int) - 1))))) (0:Int)))).bind fun x48 =>
    (Jr x48.2).bind fun x49 =>
    some (x49,x48.1)
   else none
  else none
 else none
def Qkt  (s1:((List Int) × (List Int))):Option (Qf ((List Int) × (List Int)) (List Int)) :=
 if (decide ((s1.2.length:Int) > 0))=true then
  (Jv s1.1 s1.2).bind fun x4 =>
  some (.next (s1.2,x4.2))
 else
 some (.done s1.1)
def Qfs (p0:(List Int)) (p1:(List Int)):Option (List Int) :=
 (Qb fuel (Qkt) (p0,p1)).bind fun x7 =>
 some x7
def Qiy (p0:(List Int)) (s7:(Int × Int)):Option (Qf (Int × Int) Int) :=
 if (decide (s7.2>=0))=true then
  (lkI p0 s7.2).bind fun a10 =>
  some (.next (zw ((zw (10000*s7.1))+a10),zw (s7.2 - 1)))
 else
 some (.done s7.1)
def Qat (p0:(List Int)):Option (Int × Bool) :=
 (Xl 4611686018427387903).bind fun x1 =>
 (Y9 p0 x1).bind fun x3 =>
 if (decide (x3 > 0))=true then
  some (0,false)
 else
 (Qb fuel (Qiy p0) (0,zw ((p0.length:Int) - 1))).bind fun x13 =>
 some (x13,true)
def Qet (p0:Bool) (p1:(List Int)) (p2:(List Int)):Option (Ae × Bool) :=
 (Qfs p1 p2).bind fun x1 =>
 (Jv p1 x1).bind fun x3 =>
 (Jv p2 x1).bind fun x5 =>
 (Qat x3.1).bind fun x7 =>
 (Qat x5.1).bind fun x9 =>
 if (!x7.2)=true then
  some ((Ae.mk 0 0),false)
 else
 if (!x9.2)=true then
  some ((Ae.mk 0 0),false)
 else
 if p0=true then
  some ((Ae.mk (zw (0 - x7.1)) x9.1),true)
 else
 some ((Ae.mk x7.1 x9.1),true)
def Qej (p0:Int) (p1:Int):Option (Ae × Bool) :=
 (Xl p0).bind fun x1 =>
 (Xl p1).bind fun x3 =>
 (Qet (!((decide (p0 < 0))==(decide (p1 < 0)))) x1 x3).bind fun x5 =>
 some (x5.1,x5.2)
def Qhh (p0:Int) (p1:Int):Option Ae :=
 (Qej p0 p1).bind fun x1 =>
 some x1.1
def Jw (p0:Qa) (p1:(List Int)) (p2:(List Int)):Option Ae :=
 (Qfn p0 p1 p2).bind fun x1 =>
 (Qhh x1.1 x1.2).bind fun x3 =>
 some x3
def Vy (p0:Qa) (s1:(Int × (List (List Int)))) (s4:(Int × (List (List Int)))) (s13:(Int × (List (List Int)))):Option (Qf (Int × (List (List Int))) (List (List Int))) :=
 (lkI p0.Nodes s1.1).bind fun a14 =>
 if (decide (s13.1 < a14.Card))=true then
  (lkI s1.2 s4.1).bind fun a18 =>
  if a18.length*8<=140737488355328 then
   if (a18++([s13.1]:(List Int))).length*8<=140737488355328 then
    if (s13.2++([(a18++([s13.1]:(List Int)))]:(List (List Int)))).length*24<=140737488355328 then
     some (.next (zw (s13.1+1),(s13.2++([(a18++([s13.1]:(List Int)))]:(List (List Int))))))
    else none
   else none
  else none
 else
 some (.done s13.2)
def V0 (s1:(Int × (List (List Int)))) (p1:Int) (p0:Qa) (s4:(Int × (List (List Int)))):Option (Qf (Int × (List (List Int))) (List (List Int))) :=
 if (decide (s4.1 < (s1.2.length:Int)))=true then
  (Qb8 p1 s1.1).bind fun x7 =>
  if (!x7)=true then
   (lkI s1.2 s4.1).bind fun a11 =>
   if a11.length*8<=140737488355328 then
    if (a11++([-1]:(List Int))).length*8<=140737488355328 then
     if (s4.2++([(a11++([-1]:(List Int)))]:(List (List Int)))).length*24<=140737488355328 then
      some (.next (zw (s4.1+1),(s4.2++([(a11++([-1]:(List Int)))]:(List (List Int))))))
     else none
    else none
   else none
  else
  (Qb fuel (Vy p0 s1 s4) (0,s4.2)).bind fun x21 =>
  some (.next (zw (s4.1+1),x21))
 else
 some (.done s4.2)
def Km (p0:Qa) (p1:Int) (s1:(Int × (List (List Int)))):Option (Qf (Int × (List (List Int))) (List (List Int))) :=
 if (decide (s1.1 < (p0.Nodes.length:Int)))=true then
  (Qb fuel (V0 s1 p1 p0) (0,([]:(List (List Int))))).bind fun x23 =>
  some (.next (zw (s1.1+1),x23))
 else
 some (.done s1.2)
def Qbc (p0:Qa) (p1:Int):Option (List (List Int)) :=
 (Qb fuel (Km p0 p1) (0,([[]]:(List (List Int))))).bind fun x25 =>
 some x25
def Qcy (p0:Ae) (p1:Ae):Option Int :=
 (Xl p0.N).bind fun x1 =>
 (Xl p1.D).bind fun x3 =>
 (Vg x1 x3).bind fun x5 =>
 (Xl p1.N).bind fun x7 =>
 (Xl p0.D).bind fun x9 =>
 (Vg x7 x9).bind fun x11 =>
 if (decide (p0.N < 0))=true then
  if (decide (p1.N < 0))=true then
   (Y9 x11 x5).bind fun x17 =>
   some x17
  else
  some (-1)
 else
 if (decide (p1.N < 0))=true then
  some 1
 else
 (Y9 x5 x11).bind fun x23 =>
 some x23
def J9  (s17:(Int × (List Int))):Option (Qf (Int × (List Int)) (List Int)) :=
 if (decide (s17.1 < (s17.2.length:Int)))=true then
  (lkI s17.2 s17.1).bind fun a20 =>
  some (.next (zw (s17.1+1),(List.set s17.2 (Int.toNat s17.1) (-1))))
 else
 some (.done s17.2)
def Qbd (x27:(List (List Int))) (p0:Qa) (x24:(List Int)) (p2:Int) (p3:Int) (s33:(Int × Int × Int × Int)):Option (Qf (Int × Int × Int × Int) (Int × Int × Int)) :=
 if (decide (s33.2.1 < (x27.length:Int)))=true then
  (lkI x27 s33.2.1).bind fun a36 =>
  (Jw p0 a36 (List.set x24 (Int.toNat p2) p3)).bind fun x38 =>
  (Qcy x38 (Ae.mk s33.2.2.1 s33.2.2.2)).bind fun x40 =>
  if (decide (x40 > 0))=true then
   some (.next (s33.2.1,zw (s33.2.1+1),x38.N,x38.D))
  else
  some (.next (s33.1,zw (s33.2.1+1),s33.2.2.1,s33.2.2.2))
 else
 some (.done (s33.1,s33.2.2.1,s33.2.2.2))
def Jy (p0:Qa) (p1:Int) (p2:Int) (p3:Int):Option ((List Int) × Ae × Int) :=
 (Ve p0).bind fun x1 =>
 if (!x1)=true then
  some ([],(Ae.mk 0 0),50)
 else
 if 0<=(zv ((p0.Nodes.length:Int))) then
  if ((Int.fdiv p1 (2^min (Int.toNat (zv ((p0.Nodes.length:Int)))) zk)) != 0)=true then
   some ([],(Ae.mk 0 0),2)
  else
  if (decide (p2 < 0))=true then
   some ([],(Ae.mk 0 0),2)
  else
  if (decide (p2>=(p0.Nodes.length:Int)))=true then
   some ([],(Ae.mk 0 0),2)
  else
  if (decide (p3 < 0))=true then
   some ([],(Ae.mk 0 0),2)
  else
  (lkI p0.Nodes p2).bind fun a13 =>
  if (decide (p3>=a13.Card))=true then
   some ([],(Ae.mk 0 0),2)
  else
  if 0<=(p0.Nodes.length:Int)/\(p0.Nodes.length:Int)<=(p0.Nodes.length:Int)/\(p0.Nodes.length:Int)*8<=140737488355328 then
   (Qb fuel (J9) (0,(List.replicate (Int.toNat (p0.Nodes.length:Int)) (0:Int)))).bind fun x24 =>
   (lkI x24 p2).bind fun a25 =>
   (Qbc p0 p1).bind fun x27 =>
   (lkI x27 0).bind fun a29 =>
   (Jw p0 a29 (List.set x24 (Int.toNat p2) p3)).bind fun x31 =>
   (Qb fuel (Qbd x27 p0 x24 p2 p3) (0,1,x31.N,x31.D)).bind fun x45 =>
   (lkI x27 x45.1).bind fun a46 =>
   some (a46,(Ae.mk x45.2.1 x45.2.2),0)
  else none
 else none
def Ys (p2:Int) (a8:Qa) (a13:(Int × Int)) (s15:Int):Option (Qf Int (Unit ⊕ Unit)) :=
 if (decide (s15 < 2))=true then
  (lkI ([p2,zv (zb p2 &&& zb 31).toNat]:(List Int)) s15).bind fun a18 =>
  (Jp a8 a18 a13.1 a13.2).bind fun x20 =>
  (Jy a8 a18 a13.1 a13.2).bind fun x22 =>
  if (x20.2.2 != x22.2.2)=true then
   some (.done (Sum.inl ()))
  else
  if (!((x20.2.1.N==x22.2.1.N) && ((x20.2.1.D==x22.2.1.D) && true)))=true then
   some (.done (Sum.inl ()))
  else
  (Vz x20.1 x22.1).bind fun x28 =>
  if (!x28)=true then
   some (.done (Sum.inl ()))
  else
  some (.next (zw (s15+1)))
 else
 some (.done (Sum.inr ()))
def Yt (p3:Int) (p4:Int) (p2:Int) (a8:Qa) (s10:Int):Option (Qf Int (Unit ⊕ Unit)) :=
 if (decide (s10 < 3))=true then
  (lkI ([(p3,p4),(zw (Int.tmod (zv (p3)) 8),zw (Int.tmod (zv (p4)) 4)),(0,1)]:(List (Int × Int))) s10).bind fun a13 =>
  (Qb fuel (Ys p2 a8 a13) 0).bind fun x32=>match x32 with
  | .inl x33=>(
   some (.done (Sum.inl ())))
  | .inr x34=>(
   some (.next (zw (s10+1))))
 else
 some (.done (Sum.inr ()))
def V9 (x1:Qa) (x3:Qa) (p3:Int) (p4:Int) (p2:Int) (s5:Int):Option (Qf Int (Unit ⊕ Unit)) :=
 if (decide (s5 < 2))=true then
  (lkI ([x1,x3]:(List Qa)) s5).bind fun a8 =>
  (Qb fuel (Yt p3 p4 p2 a8) 0).bind fun x35=>match x35 with
  | .inl x36=>(
   some (.done (Sum.inl ())))
  | .inr x37=>(
   some (.next (zw (s5+1))))
 else
 some (.done (Sum.inr ()))
def Qbu (p0:Qe) (p1:Za) (p2:Int) (p3:Int) (p4:Int):Option Bool :=
 (Jl p0).bind fun x1 =>
 (Jf p1 x1).bind fun x3 =>
 (Qb fuel (V9 x1 x3 p3 p4 p2) 0).bind fun x38=>match x38 with
 | .inl x39=>(
  some false)
 | .inr x40=>(
  (Qgq).bind fun x41 =>
  some x41)
end Go.Ab
