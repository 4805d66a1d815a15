/- Functions. No conditions. -/
import Derived.Test.YtgogkahhifkocaaDoorEng9
set_option linter.all false
namespace Go.Ab
open Go
structure Ad where
 Card:Int
 Parents:(List Int)
 Rows:(List (List Int))
 deriving DecidableEq,Inhabited
@[reducible] def Ai (x:Ad):AV:=.agg [vI x.Card,eL true eI x.Parents,eL false (eL true eI) x.Rows]
@[reducible] def Am (x:Int ⊕ Ad):AV:=match x with | .inl c=>.agg [vI c,.nils,.nils] | .inr y=>Ai y
def Ah (x:Int ⊕ Ad):Ad:=match x with | .inl c=>⟨c,[],[]⟩ | .inr y=>y
structure Qc where
 Grain:Int
 Nodes:(List Ad)
 deriving DecidableEq,Inhabited
structure Q9 where
 Net:Qc
 cards:(List Int)
 sets:(List Int)
 order:(List Int)
 deriving DecidableEq,Inhabited
structure Ae where
 N:Int
 D:Int
 deriving DecidableEq,Inhabited
@[reducible] def Aj (x:Ae):AV:=.agg [vI x.N,vI x.D]
structure Ac where
 parents:(List Int)
 deriving DecidableEq,Inhabited
structure Aa where
 sets:Ac
 deriving DecidableEq,Inhabited
structure Yv where
 parents:(List Int)
 deriving DecidableEq,Inhabited
structure Qx where
 ancestry:Yv
 children:(List Int)
 deriving DecidableEq,Inhabited
structure Ag where
 node:Int
 down:Bool
 deriving DecidableEq,Inhabited
@[reducible] def Al (x:Ag):AV:=.agg [vI x.node,vB x.down]
@[reducible] def An (a b:Ag):Bool:=(a.node==b.node) && ((a.down==b.down) && true)
structure Af where
 C:(List Int)
 Which:Int
 Order:(List Int)
 deriving DecidableEq,Inhabited
structure Qw where
 Card:Int
 Parents:Int
 W:(List Int)
 deriving DecidableEq,Inhabited
@[reducible] def Ak (x:Qw):AV:=.agg [.int .u8 x.Card,.int .u8 x.Parents,eL true (AV.int .u8) x.W]
structure Qf where
 Grain:Int
 Nodes:(List Qw)
 Order:(List Int)
 deriving DecidableEq,Inhabited
@[reducible] def eTharuspexref05_Draft (x:Qf):AV:=.agg [.int .u8 x.Grain,eL false Ak x.Nodes,eL true (AV.int .u8) x.Order]
def Z8 (p1:Ad) (p0:Q9) (s1:(Int × Int)):Option (Qg (Int × Int) Int) :=
 if (decide (s1.2 < (p1.Parents.length:Int)))=true then
  (lkI p1.Parents s1.2).bind fun a4 =>
  (lkI p0.cards a4).bind fun a6 =>
  some (.next (zw (s1.1*a6),zw (s1.2+1)))
 else
 some (.done s1.1)
def Q7 (a15:(List Int)) (s17:(Int × Int)):Option (Qg (Int × Int) (Unit ⊕ Int)) :=
 if (decide (s17.2 < (a15.length:Int)))=true then
  (lkI a15 s17.2).bind fun a20 =>
  if (decide (a20 < 0))=true then
   some (.done (Sum.inl ()))
  else
  if (decide (a20 > s17.1))=true then
   some (.done (Sum.inl ()))
  else
  some (.next (zw (s17.1 - a20),zw (s17.2+1)))
 else
 some (.done (Sum.inr s17.1))
def Zn (p1:Ad) (p0:Q9) (s12:Int):Option (Qg Int (Unit ⊕ Unit)) :=
 if (decide (s12 < (p1.Rows.length:Int)))=true then
  (lkI p1.Rows s12).bind fun a15 =>
  (Qb fuel (Q7 a15) (p0.Net.Grain,0)).bind fun x26=>match x26 with
  | .inl x27=>(
   some (.done (Sum.inl ())))
  | .inr x28=>(
   if ((a15.length:Int) != p1.Card)=true then
    some (.done (Sum.inl ()))
   else
   if (x28 != 0)=true then
    some (.done (Sum.inl ()))
   else
   some (.next (zw (s12+1))))
 else
 some (.done (Sum.inr ()))
def Z9 (p0:Q9) (p1:Ad):Option Bool :=
 (Qb fuel (Z8 p1 p0) (1,0)).bind fun x9 =>
 if ((p1.Rows.length:Int) != x9)=true then
  some false
 else
 (Qb fuel (Zn p1 p0) 0).bind fun x33=>match x33 with
 | .inl x34=>(
  some false)
 | .inr x35=>(
  some true)
def V8 (p0:(List Int)) (s1:(Int × (List Int))) (s4:Int):Option (Qg Int ((Int × (List Int)) ⊕ Unit)) :=
 if (decide (s4 < (p0.length:Int)))=true then
  (lkI p0 s4).bind fun a7 =>
  if 0<=s4 then
   if ((zv (zb (Int.fdiv s1.1 (2^min (Int.toNat s4) zk)) &&& zb 1).toNat)==0)=true then
    if ((zv (zb a7 &&& ~~~ zb s1.1).toNat)==0)=true then
     if (s1.2++([s4]:(List Int))).length*8<=140737488355328 then
      if 0<=s4 then
       some (.done (Sum.inl (zv (zb s1.1 ||| zb (zv (1*2^min (Int.toNat s4) zk))).toNat,(s1.2++([s4]:(List Int))))))
      else none
     else none
    else
    some (.next (zw (s4+1)))
   else
   some (.next (zw (s4+1)))
  else none
 else
 some (.done (Sum.inr ()))
def Xl (p0:(List Int)) (s1:(Int × (List Int))):Option (Qg (Int × (List Int)) (Unit ⊕ (List Int))) :=
 if (decide ((s1.2.length:Int) < (p0.length:Int)))=true then
  (Qb fuel (V8 p0 s1) 0).bind fun x13=>match x13 with
  | .inl x14=>(
   some (.next (x14.1,x14.2)))
  | .inr x15=>(
   some (.done (Sum.inl ())))
 else
 some (.done (Sum.inr s1.2))
def Vz (p0:(List Int)):Option ((List Int) × Bool) :=
 if 0<=(0:Int)/\(0:Int)<=(p0.length:Int)/\(p0.length:Int)*8<=140737488355328 then
  (Qb fuel (Xl p0) (0,(List.replicate (Int.toNat 0) (0:Int)))).bind fun x16=>match x16 with
  | .inl x17=>(
   some (([]:(List Int)),false))
  | .inr x18=>(
   some (x18,true))
 else none
def X0 (p0:Qc) (s9:(Int × Int × (List Int))):Option (Qg (Int × Int × (List Int)) (Unit ⊕ (Int × (List Int)))) :=
 if (decide (s9.2.1 < (p0.Nodes.length:Int)))=true then
  (lkI p0.Nodes s9.2.1).bind fun a12 =>
  if (decide (a12.Card < 1))=true then
   some (.done (Sum.inl ()))
  else
  if (decide (a12.Card > 4))=true then
   some (.done (Sum.inl ()))
  else
  (lkI s9.2.2 s9.2.1).bind fun a18 =>
  some (.next (zw (s9.1*a12.Card),zw (s9.2.1+1),(List.set s9.2.2 (Int.toNat s9.2.1) a12.Card)))
 else
 some (.done (Sum.inr (s9.1,s9.2.2)))
def X1 (a29:Ad) (p0:Qc) (s26:(Int × (List Int))) (s31:(Int × Int × (List Int))):Option (Qg (Int × Int × (List Int)) (Unit ⊕ (List Int))) :=
 if (decide (s31.2.1 < (a29.Parents.length:Int)))=true then
  (lkI a29.Parents s31.2.1).bind fun a34 =>
  if (decide (a34<=s31.1))=true then
   some (.done (Sum.inl ()))
  else
  if (decide (a34>=(p0.Nodes.length:Int)))=true then
   some (.done (Sum.inl ()))
  else
  if (a34==s26.1)=true then
   some (.done (Sum.inl ()))
  else
  (lkI s31.2.2 s26.1).bind fun a42 =>
  if 0<=a34 then
   some (.next (a34,zw (s31.2.1+1),(List.set s31.2.2 (Int.toNat s26.1) (zv (zb a42 ||| zb (zv (1*2^min (Int.toNat a34) zk))).toNat))))
  else none
 else
 some (.done (Sum.inr s31.2.2))
def X2 (p0:Qc) (x23:(Int × (List Int))) (s26:(Int × (List Int))):Option (Qg (Int × (List Int)) (Unit ⊕ (List Int))) :=
 if (decide (s26.1 < (p0.Nodes.length:Int)))=true then
  (lkI p0.Nodes s26.1).bind fun a29 =>
  (Qb fuel (X1 a29 p0 s26) (-1,0,s26.2)).bind fun x45=>match x45 with
  | .inl x46=>(
   some (.done (Sum.inl ())))
  | .inr x47=>(
   (Z9 (Q9.mk p0 x23.2 x47 []) a29).bind fun x48 =>
   if (!x48)=true then
    some (.done (Sum.inl ()))
   else
   some (.next (zw (s26.1+1),x47)))
 else
 some (.done (Sum.inr s26.2))
def Xn (p0:Qc):Option (Q9 × Int) :=
 if (decide (p0.Grain < 1))=true then
  some ((Q9.mk (Qc.mk 0 []) [] [] []),50)
 else
 if (decide (p0.Grain > 60))=true then
  some ((Q9.mk (Qc.mk 0 []) [] [] []),50)
 else
 if (decide ((p0.Nodes.length:Int) < 1))=true then
  some ((Q9.mk (Qc.mk 0 []) [] [] []),50)
 else
 if (decide ((p0.Nodes.length:Int) > 8))=true then
  some ((Q9.mk (Qc.mk 0 []) [] [] []),50)
 else
 if 0<=(p0.Nodes.length:Int)/\(p0.Nodes.length:Int)<=(p0.Nodes.length:Int)/\(p0.Nodes.length:Int)*8<=140737488355328 then
  if 0<=(p0.Nodes.length:Int)/\(p0.Nodes.length:Int)<=(p0.Nodes.length:Int)/\(p0.Nodes.length:Int)*8<=140737488355328 then
   (Qb fuel (X0 p0) (1,0,(List.replicate (Int.toNat (p0.Nodes.length:Int)) (0:Int)))).bind fun x21=>match x21 with
   | .inl x22=>(
    some ((Q9.mk (Qc.mk 0 []) [] [] []),50))
   | .inr x23=>(
    if (decide (x23.1 > 1024))=true then
     some ((Q9.mk (Qc.mk 0 []) [] [] []),50)
    else
    (Qb fuel (X2 p0 x23) (0,(List.replicate (Int.toNat (p0.Nodes.length:Int)) (0:Int)))).bind fun x52=>match x52 with
    | .inl x53=>(
     some ((Q9.mk (Qc.mk 0 []) [] [] []),50))
    | .inr x54=>(
     (Vz x54).bind fun x55 =>
     if (!x55.2)=true then
      some ((Q9.mk (Qc.mk 0 []) [] [] []),50)
     else
     some ((Q9.mk p0 x23.2 x54 x55.1),0)))
  else none
 else none
def Qcb (p0:Qc):Option Int :=
 (Xn p0).bind fun x1 =>
 some x1.2
def Zt (p1:(List Int)) (x1:(Q9 × Int)) (s7:Int):Option (Qg Int (Unit ⊕ Unit)) :=
 if (decide (s7 < (p1.length:Int)))=true then
  (lkI p1 s7).bind fun a10 =>
  if (decide (a10 < (-1)))=true then
   some (.done (Sum.inl ()))
  else
  (lkI x1.1.cards s7).bind fun a14 =>
  if (decide (a10>=a14))=true then
   some (.done (Sum.inl ()))
  else
  some (.next (zw (s7+1)))
 else
 some (.done (Sum.inr ()))
def Yf (p0:Qc) (p1:(List Int)):Option Int :=
 (Xn p0).bind fun x1 =>
 if (x1.2 != 0)=true then
  some x1.2
 else
 if ((p1.length:Int) != (x1.1.Net.Nodes.length:Int))=true then
  some 2
 else
 (Qb fuel (Zt p1 x1) 0).bind fun x18=>match x18 with
 | .inl x19=>(
  some 2)
 | .inr x20=>(
  some 0)
def Qbt (p1:(List (List Int))) (p0:Qc) (s5:Int):Option (Qg Int (Int ⊕ Unit)) :=
 if (decide (s5 < (p1.length:Int)))=true then
  (lkI p1 s5).bind fun a8 =>
  (Yf p0 a8).bind fun x10 =>
  if (x10 != 0)=true then
   some (.done (Sum.inl x10))
  else
  some (.next (zw (s5+1)))
 else
 some (.done (Sum.inr ()))
def X4 (p0:Qc) (p1:(List (List Int))):Option Int :=
 (Qcb p0).bind fun x1 =>
 if (x1 != 0)=true then
  some x1
 else
 (Qb fuel (Qbt p1 p0) 0).bind fun x14=>match x14 with
 | .inl x15=>(
  some x15)
 | .inr x16=>(
  some 0)
def Qw3 (a8:Ad) (s21:(Int × (List (List Int)))):Option (Qg (Int × (List (List Int))) (List (List Int))) :=
 if (decide (s21.1 < (a8.Rows.length:Int)))=true then
  (lkI a8.Rows s21.1).bind fun a24 =>
  if a24.length*8<=140737488355328 then
   if (s21.2++([a24]:(List (List Int)))).length*24<=140737488355328 then
    some (.next (zw (s21.1+1),(s21.2++([a24]:(List (List Int))))))
   else none
  else none
 else
 some (.done s21.2)
def Qwr (p0:Qc) (p1:(List Int)) (s5:(Int × (List Ad))):Option (Qg (Int × (List Ad)) (List Ad)) :=
 if (decide (s5.1 < (p0.Nodes.length:Int)))=true then
  (lkI p0.Nodes s5.1).bind fun a8 =>
  (lkI p1 s5.1).bind fun a10 =>
  if (decide (a10>=0))=true then
   if 0<=a8.Card/\a8.Card<=a8.Card/\a8.Card*8<=140737488355328 then
    (lkI (List.replicate (Int.toNat a8.Card) (0:Int)) a10).bind fun a14 =>
    (lkI s5.2 s5.1).bind fun a16 =>
    some (.next (zw (s5.1+1),(List.set s5.2 (Int.toNat s5.1) (Ad.mk a8.Card [] [(List.set (List.replicate (Int.toNat a8.Card) (0:Int)) (Int.toNat a10) p0.Grain)]))))
   else none
  else
  if a8.Parents.length*8<=140737488355328 then
   (Qb fuel (Qw3 a8) (0,([]:(List (List Int))))).bind fun x27 =>
   (lkI s5.2 s5.1).bind fun a28 =>
   some (.next (zw (s5.1+1),(List.set s5.2 (Int.toNat s5.1) (Ad.mk a8.Card a8.Parents x27))))
  else none
 else
 some (.done s5.2)
def Quz (p0:Qc) (p1:(List Int)):Option (Qc × Int) :=
 (X4 p0 [p1]).bind fun x1 =>
 if (x1 != 0)=true then
  some ((Qc.mk 0 ([]:(List Ad))),x1)
 else
 if 0<=(p0.Nodes.length:Int)/\(p0.Nodes.length:Int)<=(p0.Nodes.length:Int)/\(p0.Nodes.length:Int)*56<=140737488355328 then
  (Qb fuel (Qwr p0 p1) (0,(List.replicate (Int.toNat (p0.Nodes.length:Int)) ((Ad.mk 0 [] []):Ad)))).bind fun x32 =>
  some ((Qc.mk p0.Grain x32),0)
 else none
def Qby (a4:Ad) (p0:Qc) (p2:(List Int)) (s8:(Int × Int)):Option (Qg (Int × Int) Int) :=
 if (decide (s8.2 < (a4.Parents.length:Int)))=true then
  (lkI a4.Parents s8.2).bind fun a11 =>
  (lkI p0.Nodes a11).bind fun a13 =>
  (lkI p2 a11).bind fun a15 =>
  some (.next (zw ((zw (s8.1*a13.Card))+a15),zw (s8.2+1)))
 else
 some (.done s8.1)
def Qbx (p0:Qc) (p1:Int) (p2:(List Int)) (s1:(Int × Int)):Option (Qg (Int × Int) Int) :=
 if (decide (s1.2 < (p0.Nodes.length:Int)))=true then
  (lkI p0.Nodes s1.2).bind fun a4 =>
  if 0<=s1.2 then
   if ((zv (zb (Int.fdiv p1 (2^min (Int.toNat s1.2) zk)) &&& zb 1).toNat)==1)=true then
    some (.next (s1.1,zw (s1.2+1)))
   else
   (Qb fuel (Qby a4 p0 p2) (0,0)).bind fun x18 =>
   (lkI a4.Rows x18).bind fun a19 =>
   (lkI p2 s1.2).bind fun a21 =>
   (lkI a19 a21).bind fun a23 =>
   some (.next (zw (s1.1*a23),zw (s1.2+1)))
  else none
 else
 some (.done s1.1)
def Qay (p0:Qc) (p1:Int) (p2:(List Int)):Option Int :=
 (Qb fuel (Qbx p0 p1 p2) (1,0)).bind fun x26 =>
 some x26
def Qbz (p0:(List Int)) (s1:(Int × Int)):Option (Qg (Int × Int) Int) :=
 if (decide (s1.2 < (p0.length:Int)))=true then
  (lkI p0 s1.2).bind fun a4 =>
  if (decide (a4>=0))=true then
   if 0<=s1.2 then
    some (.next (zv (zb s1.1 ||| zb (zv (1*2^min (Int.toNat s1.2) zk))).toNat,zw (s1.2+1)))
   else none
  else
  some (.next (s1.1,zw (s1.2+1)))
 else
 some (.done s1.1)
def Qaw (p0:(List Int)):Option Int :=
 (Qb fuel (Qbz p0) (0,0)).bind fun x9 =>
 some x9
def Xe (p0:Int):Option Int :=
 if (decide (p0 < 0))=true then
  some (zv (0 - (zv (p0))))
 else
 some (zv (p0))
def Qg8  (s1:(Int × Int)):Option (Qg (Int × Int) Int) :=
 if (s1.2 != 0)=true then
  if s1.2≠0 then
   some (.next (s1.2,Int.tmod s1.1 s1.2))
  else none
 else
 some (.done s1.1)
def Jd (p0:Int) (p1:Int):Option Int :=
 (Qb fuel (Qg8) (p0,p1)).bind fun x5 =>
 some x5
def Qbv (p0:Bool) (p1:(Int × Int)) (p2:(Int × Int)):Option Ae :=
 if (p1.1 != 0)=true then
  none
 else
 if (decide (p1.2 > 4611686018427387903))=true then
  none
 else
 if (p2.1 != 0)=true then
  none
 else
 if (decide (p2.2 > 4611686018427387903))=true then
  none
 else
 if p0=true then
  some (Ae.mk (zw (0 - (zw (p1.2)))) (zw (p2.2)))
 else
 some (Ae.mk (zw (p1.2)) (zw (p2.2)))
def Qcy (c0:Int) (c1:Int):Option Ae :=
 (Xe c0).bind fun x1 =>
 (Xe c1).bind fun x3 =>
 (Jd x1 x3).bind fun x5 =>
 (Xe c0).bind fun x7 =>
 if x5≠0 then
  (Xe c1).bind fun x9 =>
  if x5≠0 then
   (Qbv (!((decide (c0 < 0))==(decide (c1 < 0)))) (0,zv (Int.tdiv x7 x5)) (0,zv (Int.tdiv x9 x5))).bind fun x11 =>
   some x11
  else none
 else none
def Qa0 (p0:Int) (p1:Int):Option (Ae × Int) :=
 if (p1==0)=true then
  some ((Ae.mk 0 0),2)
 else
 (Qcy p0 p1).bind fun x3 =>
 some (x3,0)
def Qb4 (p0:Qc) (p1:Int) (s1:(Int × Int)):Option (Qg (Int × Int) Int) :=
 if (decide (s1.2 < (p0.Nodes.length:Int)))=true then
  if 0<=s1.2 then
   if ((zv (zb (Int.fdiv p1 (2^min (Int.toNat s1.2) zk)) &&& zb 1).toNat)==0)=true then
    some (.next (zw (s1.1*p0.Grain),zw (s1.2+1)))
   else
   some (.next (s1.1,zw (s1.2+1)))
  else none
 else
 some (.done s1.1)
def Qcd (p0:Qc) (p1:Int):Option Int :=
 (Qb fuel (Qb4 p0 p1) (1,0)).bind fun x7 =>
 some x7
def Qd0 (p1:(List Int)) (p2:(List Int)) (s10:(Int × Int × (List Int))) (s19:(Int × Int × (List Int))) (s22:Int):Option (Qg Int (Unit ⊕ Unit)) :=
 if (decide (s22 < ((([p1,p2]:(List (List Int))).length):Int)))=true then
  (lkI ([p1,p2]:(List (List Int))) s22).bind fun a25 =>
  (lkI a25 s10.1).bind fun a27 =>
  if (decide (a27>=0))=true then
   if (a27 != s19.1)=true then
    some (.done (Sum.inl ()))
   else
   some (.next (zw (s22+1)))
  else
  some (.next (zw (s22+1)))
 else
 some (.done (Sum.inr ()))
def Kg (a17:Ad) (p1:(List Int)) (p2:(List Int)) (s10:(Int × Int × (List Int))) (r11:((Int × Int × (List Int))->Option (Int × (List Int)))) (s19:(Int × Int × (List Int))):Option (Qg (Int × Int × (List Int)) (Int × (List Int))) :=
 if (decide (s19.1 < a17.Card))=true then
  (Qb fuel (Qd0 p1 p2 s10 s19) 0).bind fun x33=>match x33 with
  | .inl x34=>(
   some (.next (zw (s19.1+1),s19.2.1,s19.2.2)))
  | .inr x35=>(
   (lkI s19.2.2 s10.1).bind fun a36 =>
   (r11 (zw (s10.1+1),s19.2.1,(List.set s19.2.2 (Int.toNat s10.1) s19.1))).bind fun x38 =>
   some (.next (zw (s19.1+1),x38.1,x38.2)))
 else
 some (.done (s19.2.1,s19.2.2))
def Kb (p0:Qc) (x5:Int) (p1:(List Int)) (p2:(List Int)) (r11:((Int × Int × (List Int))->Option (Int × (List Int)))) (s10:(Int × Int × (List Int))):Option (Int × (List Int)) :=
 if (s10.1==(s10.2.2.length:Int))=true then
  (Qay p0 x5 s10.2.2).bind fun x15 =>
  some (zw (s10.2.1+x15),s10.2.2)
 else
 (lkI p0.Nodes s10.1).bind fun a17 =>
 (Qb fuel (Kg a17 p1 p2 s10 r11) (0,s10.2.1,s10.2.2)).bind fun x41 =>
 some (x41.1,x41.2)
def Jv (p0:Qc) (p1:(List Int)) (p2:(List Int)):Option (Ae × Int) :=
 (X4 p0 [p1,p2]).bind fun x1 =>
 if (x1 != 0)=true then
  some ((Ae.mk 0 0),x1)
 else
 (Qaw p1).bind fun x5 =>
 if 0<=(p0.Nodes.length:Int)/\(p0.Nodes.length:Int)<=(p0.Nodes.length:Int)/\(p0.Nodes.length:Int)*8<=140737488355328 then
  (Qbh (Kb p0 x5 p1 p2) fuel (0,0,(List.replicate (Int.toNat (p0.Nodes.length:Int)) (0:Int)))).bind fun x42 =>
  (Qaw p1).bind fun x44 =>
  (Qcd p0 x44).bind fun x46 =>
  (Qa0 x42.1 x46).bind fun x48 =>
  some (x48.1,x48.2)
 else none
def Qpe (p1:(List Int)) (p2:(List Int)) (s16:(Int × Int × (List Int) × (List Int))) (s30:(Int × Int × (List Int) × (List Int))) (s33:Int):Option (Qg Int (Unit ⊕ Unit)) :=
 if (decide (s33 < ((([p1,p2]:(List (List Int))).length):Int)))=true then
  (lkI ([p1,p2]:(List (List Int))) s33).bind fun a36 =>
  (lkI a36 s16.1).bind fun a38 =>
  if (decide (a38>=0))=true then
   if (a38 != s30.1)=true then
    some (.done (Sum.inl ()))
   else
   some (.next (zw (s33+1)))
  else
  some (.next (zw (s33+1)))
 else
 some (.done (Sum.inr ()))
def Qp6 (a28:Ad) (p1:(List Int)) (p2:(List Int)) (s16:(Int × Int × (List Int) × (List Int))) (r17:((Int × Int × (List Int) × (List Int))->Option (Int × (List Int) × (List Int)))) (s30:(Int × Int × (List Int) × (List Int))):Option (Qg (Int × Int × (List Int) × (List Int)) (Int × (List Int) × (List Int))) :=
 if (decide (s30.1 < a28.Card))=true then
  (Qb fuel (Qpe p1 p2 s16 s30) 0).bind fun x44=>match x44 with
  | .inl x45=>(
   some (.next (zw (s30.1+1),s30.2.1,s30.2.2.1,s30.2.2.2)))
  | .inr x46=>(
   (lkI s30.2.2.2 s16.1).bind fun a47 =>
   (r17 (zw (s16.1+1),s30.2.1,s30.2.2.1,(List.set s30.2.2.2 (Int.toNat s16.1) s30.1))).bind fun x49 =>
   some (.next (zw (s30.1+1),x49.1,x49.2.1,x49.2.2)))
 else
 some (.done (s30.2.1,s30.2.2.1,s30.2.2.2))
def Qpr (p0:Qc) (x11:Int) (p3:Int) (p1:(List Int)) (p2:(List Int)) (r17:((Int × Int × (List Int) × (List Int))->Option (Int × (List Int) × (List Int)))) (s16:(Int × Int × (List Int) × (List Int))):Option (Int × (List Int) × (List Int)) :=
 if (s16.1==(s16.2.2.2.length:Int))=true then
  (Qay p0 x11 s16.2.2.2).bind fun x21 =>
  (lkI s16.2.2.2 p3).bind fun a23 =>
  (lkI s16.2.2.1 a23).bind fun a25 =>
  some (zw (s16.2.1+x21),(List.set s16.2.2.1 (Int.toNat a23) (zw (a25+x21))),s16.2.2.2)
 else
 (lkI p0.Nodes s16.1).bind fun a28 =>
 (Qb fuel (Qp6 a28 p1 p2 s16 r17) (0,s16.2.1,s16.2.2.1,s16.2.2.2)).bind fun x52 =>
 some (x52.1,x52.2.1,x52.2.2)
def Qqj (x53:(Int × (List Int) × (List Int))) (s57:(Int × (List Ae))):Option (Qg (Int × (List Ae)) (Int ⊕ (List Ae))) :=
 if (decide (s57.1 < (x53.2.1.length:Int)))=true then
  (lkI x53.2.1 s57.1).bind fun a60 =>
  (Qa0 a60 x53.1).bind fun x62 =>
  if (x62.2 != 0)=true then
   some (.done (Sum.inl x62.2))
  else
  (lkI s57.2 s57.1).bind fun a66 =>
  some (.next (zw (s57.1+1),(List.set s57.2 (Int.toNat s57.1) x62.1)))
 else
 some (.done (Sum.inr s57.2))
def Qhc (p0:Qc) (p1:(List Int)) (p2:(List Int)) (p3:Int):Option ((List Ae) × Int) :=
 (X4 p0 [p1,p2]).bind fun x1 =>
 if (x1 != 0)=true then
  some (([]:(List Ae)),x1)
 else
 if (decide (p3 < 0))=true then
  some (([]:(List Ae)),2)
 else
 if (decide (p3>=(p0.Nodes.length:Int)))=true then
  some (([]:(List Ae)),2)
 else
 (lkI p0.Nodes p3).bind fun a9 =>
 if 0<=a9.Card/\a9.Card<=a9.Card/\a9.Card*8<=140737488355328 then
  (Qaw p1).bind fun x11 =>
  if 0<=(p0.Nodes.length:Int)/\(p0.Nodes.length:Int)<=(p0.Nodes.length:Int)/\(p0.Nodes.length:Int)*8<=140737488355328 then
   (Qbh (Qpr p0 x11 p3 p1 p2) fuel (0,0,(List.replicate (Int.toNat a9.Card) (0:Int)),(List.replicate (Int.toNat (p0.Nodes.length:Int)) (0:Int)))).bind fun x53 =>
   if (x53.1==0)=true then
    some (([]:(List Ae)),7)
   else
   if 0<=(x53.2.1.length:Int)/\(x53.2.1.length:Int)<=(x53.2.1.length:Int)/\(x53.2.1.length:Int)*16<=140737488355328 then
    (Qb fuel (Qqj x53) (0,(List.replicate (Int.toNat (x53.2.1.length:Int)) ((Ae.mk 0 0):Ae)))).bind fun x69=>match x69 with
    | .inl x70=>(
     some (([]:(List Ae)),x70))
    | .inr x71=>(
     some (x71,0))
   else none
  else none
 else none
def Qqy (p0:(List Int)) (p1:(List Int)) (s3:Int):Option (Qg Int (Unit ⊕ Unit)) :=
 if (decide (s3 < (p0.length:Int)))=true then
  (lkI p0 s3).bind fun a6 =>
  (lkI p1 s3).bind fun a8 =>
  if (a6 != a8)=true then
   some (.done (Sum.inl ()))
  else
  some (.next (zw (s3+1)))
 else
 some (.done (Sum.inr ()))
def Qbf (p0:(List Int)) (p1:(List Int)):Option Bool :=
 if ((p0.length:Int) != (p1.length:Int))=true then
  some false
 else
 (Qb fuel (Qqy p0 p1) 0).bind fun x12=>match x12 with
 | .inl x13=>(
  some false)
 | .inr x14=>(
  some true)
def Qnb (a8:Ad) (a10:Ad) (s20:Int):Option (Qg Int (Unit ⊕ Unit)) :=
 if (decide (s20 < (a8.Rows.length:Int)))=true then
  (lkI a8.Rows s20).bind fun a23 =>
  (lkI a10.Rows s20).bind fun a25 =>
  (Qbf a23 a25).bind fun x27 =>
  if (!x27)=true then
   some (.done (Sum.inl ()))
  else
  some (.next (zw (s20+1)))
 else
 some (.done (Sum.inr ()))
def Qmw (p0:Qc) (p1:Qc) (s5:Int):Option (Qg Int (Unit ⊕ Unit)) :=
 if (decide (s5 < (p0.Nodes.length:Int)))=true then
  (lkI p0.Nodes s5).bind fun a8 =>
  (lkI p1.Nodes s5).bind fun a10 =>
  if (a8.Card != a10.Card)=true then
   some (.done (Sum.inl ()))
  else
  (Qbf a8.Parents a10.Parents).bind fun x14 =>
  if (!x14)=true then
   some (.done (Sum.inl ()))
  else
  if ((a8.Rows.length:Int) != (a10.Rows.length:Int))=true then
   some (.done (Sum.inl ()))
  else
  (Qb fuel (Qnb a8 a10) 0).bind fun x31=>match x31 with
  | .inl x32=>(
   some (.done (Sum.inl ())))
  | .inr x33=>(
   some (.next (zw (s5+1))))
 else
 some (.done (Sum.inr ()))
def Qhy (p0:Qc) (p1:Qc):Option Bool :=
 if (p0.Grain != p1.Grain)=true then
  some false
 else
 if ((p0.Nodes.length:Int) != (p1.Nodes.length:Int))=true then
  some false
 else
 (Qb fuel (Qmw p0 p1) 0).bind fun x34=>match x34 with
 | .inl x35=>(
  some false)
 | .inr x36=>(
  some true)
def Qny (p0:Qc) (p1:Int) (p2:(List Int)) (s1:(Int × Int)):Option (Qg (Int × Int) Int) :=
 if (decide (s1.2 < (p0.Nodes.length:Int)))=true then
  (lkI p0.Nodes s1.2).bind fun a4 =>
  if 0<=s1.2 then
   if ((zv (zb (Int.fdiv p1 (2^min (Int.toNat s1.2) zk)) &&& zb 1).toNat)==1)=true then
    (lkI p2 s1.2).bind fun a8 =>
    some (.next (zw ((zw (s1.1*a4.Card))+a8),zw (s1.2+1)))
   else
   some (.next (s1.1,zw (s1.2+1)))
  else none
 else
 some (.done s1.1)
def Qjb (p0:Qc) (p1:Int) (p2:(List Int)):Option Int :=
 (Qb fuel (Qny p0 p1 p2) (0,0)).bind fun x11 =>
 some x11
def Qpq (p1:Int) (p0:Qc) (s1:(Int × Int × (List Int))):Option (Qg (Int × Int × (List Int)) (List Int)) :=
 if (decide (s1.2.1>=0))=true then
  if 0<=s1.2.1 then
   if ((zv (zb (Int.fdiv p1 (2^min (Int.toNat s1.2.1) zk)) &&& zb 1).toNat)==0)=true then
    (lkI s1.2.2 s1.2.1).bind fun a6 =>
    some (.next (s1.1,zw (s1.2.1 - 1),(List.set s1.2.2 (Int.toNat s1.2.1) (-1))))
   else
   (lkI p0.Nodes s1.2.1).bind fun a9 =>
   if a9.Card≠0 then
    (lkI s1.2.2 s1.2.1).bind fun a11 =>
    if a9.Card≠0 then
     some (.next (zw (Int.tdiv s1.1 a9.Card),zw (s1.2.1 - 1),(List.set s1.2.2 (Int.toNat s1.2.1) (Int.tmod s1.1 a9.Card))))
    else none
   else none
  else none
 else
 some (.done s1.2.2)
def Qmk (p0:Qc) (p1:Int) (p2:Int):Option (List Int) :=
 if 0<=(p0.Nodes.length:Int)/\(p0.Nodes.length:Int)<=(p0.Nodes.length:Int)/\(p0.Nodes.length:Int)*8<=140737488355328 then
  (Qb fuel (Qpq p1 p0) (p2,zw ((((List.replicate (Int.toNat (p0.Nodes.length:Int)) (0:Int)).length):Int) - 1),(List.replicate (Int.toNat (p0.Nodes.length:Int)) (0:Int)))).bind fun x15 =>
  some x15
 else none
def Qto (p0:Qc) (p1:Int) (s17:(Int × Int)):Option (Qg (Int × Int) Int) :=
 if (decide (s17.2 < (p0.Nodes.length:Int)))=true then
  (lkI p0.Nodes s17.2).bind fun a20 =>
  if 0<=s17.2 then
   if ((zv (zb (Int.fdiv p1 (2^min (Int.toNat s17.2) zk)) &&& zb 1).toNat)==1)=true then
    some (.next (zw (s17.1*a20.Card),zw (s17.2+1)))
   else
   some (.next (s17.1,zw (s17.2+1)))
  else none
 else
 some (.done s17.1)
def Qth  (s47:Unit):Option (Qg Unit Unit) :=
 some (.done ())
def Qtf (a42:Ad) (s26:(Int × (List Int) × (List Int))) (r27:((Int × (List Int) × (List Int))->Option ((List Int) × (List Int)))) (s44:(Int × (List Int) × (List Int))):Option (Qg (Int × (List Int) × (List Int)) ((List Int) × (List Int))) :=
 if (decide (s44.1 < a42.Card))=true then
  (Qb fuel (Qth) ()).bind fun x49 =>
  (lkI s44.2.2 s26.1).bind fun a50 =>
  (r27 (zw (s26.1+1),s44.2.1,(List.set s44.2.2 (Int.toNat s26.1) s44.1))).bind fun x52 =>
  some (.next (zw (s44.1+1),x52.1,x52.2))
 else
 some (.done (s44.2.1,s44.2.2))
def Qs8 (p0:Qc) (p1:Int) (p2:Int) (p3:Int) (r27:((Int × (List Int) × (List Int))->Option ((List Int) × (List Int)))) (s26:(Int × (List Int) × (List Int))):Option ((List Int) × (List Int)) :=
 if (s26.1==(s26.2.2.length:Int))=true then
  (Qay p0 p1 s26.2.2).bind fun x31 =>
  (lkI s26.2.2 p2).bind fun a33 =>
  if (a33==p3)=true then
   (Qjb p0 p1 s26.2.2).bind fun x37 =>
   (lkI s26.2.1 x37).bind fun a39 =>
   some ((List.set s26.2.1 (Int.toNat x37) (zw (a39+x31))),s26.2.2)
  else
  some (s26.2.1,s26.2.2)
 else
 (lkI p0.Nodes s26.1).bind fun a42 =>
 (Qb fuel (Qtf a42 s26 r27) (0,s26.2.1,s26.2.2)).bind fun x55 =>
 some (x55.1,x55.2)
def Qtg (x56:((List Int) × (List Int))) (s58:(Int × Int)):Option (Qg (Int × Int) Int) :=
 if (decide (s58.2 < (x56.1.length:Int)))=true then
  (lkI x56.1 s58.2).bind fun a61 =>
  (lkI x56.1 s58.1).bind fun a63 =>
  if (decide (a61 > a63))=true then
   some (.next (s58.2,zw (s58.2+1)))
  else
  some (.next (s58.1,zw (s58.2+1)))
 else
 some (.done s58.1)
def Qj8 (p0:Qc) (p1:Int) (p2:Int) (p3:Int):Option ((List Int) × Ae × Int) :=
 (X4 p0 []).bind fun x1 =>
 if (x1 != 0)=true then
  some (([]:(List Int)),(Ae.mk 0 0),x1)
 else
 if 0<=(p0.Nodes.length:Int) then
  if ((Int.fdiv p1 (2^min (Int.toNat (p0.Nodes.length:Int)) zk)) != 0)=true then
   some (([]:(List Int)),(Ae.mk 0 0),2)
  else
  if (decide (p2 < 0))=true then
   some (([]:(List Int)),(Ae.mk 0 0),2)
  else
  if (decide (p2>=(p0.Nodes.length:Int)))=true then
   some (([]:(List Int)),(Ae.mk 0 0),2)
  else
  if (decide (p3 < 0))=true then
   some (([]:(List Int)),(Ae.mk 0 0),2)
  else
  (lkI p0.Nodes p2).bind fun a13 =>
  if (decide (p3>=a13.Card))=true then
   some (([]:(List Int)),(Ae.mk 0 0),2)
  else
  (Qb fuel (Qto p0 p1) (1,0)).bind fun x25 =>
  if 0<=x25/\x25<=x25/\x25*8<=140737488355328 then
   if 0<=(p0.Nodes.length:Int)/\(p0.Nodes.length:Int)<=(p0.Nodes.length:Int)/\(p0.Nodes.length:Int)*8<=140737488355328 then
    (Qbh (Qs8 p0 p1 p2 p3) fuel (0,(List.replicate (Int.toNat x25) (0:Int)),(List.replicate (Int.toNat (p0.Nodes.length:Int)) (0:Int)))).bind fun x56 =>
    (Qb fuel (Qtg x56) (0,0)).bind fun x68 =>
    (lkI x56.1 x68).bind fun a69 =>
    (Qcd p0 p1).bind fun x71 =>
    (Qa0 a69 x71).bind fun x73 =>
    if (x73.2 != 0)=true then
     some (([]:(List Int)),(Ae.mk 0 0),x73.2)
    else
    (Qmk p0 p1 x68).bind fun x77 =>
    some (x77,x73.1,0)
   else none
  else none
 else none
def Kh  : Option Qc :=
 some (Qc.mk 4 ([(Ad.mk 2 [] [[1,3]]),(Ad.mk 2 [0] [[3,1],[1,3]]),(Ad.mk 2 [0,1] [[4,0],[2,2],[1,3],[0,4]])]:(List Ad)))
def Yo (p0:Aa) (p1:Int) (s1:(Int × (List Int))):Option (Qg (Int × (List Int)) (List Int)) :=
 if (decide (s1.1 < (p0.sets.parents.length:Int)))=true then
  if 0<=s1.1 then
   if ((zv (zb (Int.fdiv p1 (2^min (Int.toNat s1.1) zk)) &&& zb 1).toNat)==1)=true then
    (lkI s1.2 s1.1).bind fun a6 =>
    some (.next (zw (s1.1+1),(List.set s1.2 (Int.toNat s1.1) 0)))
   else
   some (.next (zw (s1.1+1),s1.2))
  else none
 else
 some (.done s1.2)
def Zo (p0:Aa) (p1:Int):Option Aa :=
 if p0.sets.parents.length*8<=140737488355328 then
  (Qb fuel (Yo p0 p1) (0,p0.sets.parents)).bind fun x10 =>
  some (Aa.mk (Ac.mk x10))
 else none
def Kv (p0:Aa) (p1:Int) (p2:Int) (p3:Int):Option Aa :=
 (Zo p0 p2).bind fun x1 =>
 some x1
def Y0 (p0:Aa) (p1:Int) (s1:(Int × (List Int))):Option (Qg (Int × (List Int)) (List Int)) :=
 if (decide (s1.1 < (p0.sets.parents.length:Int)))=true then
  (lkI s1.2 s1.1).bind fun a4 =>
  some (.next (zw (s1.1+1),(List.set s1.2 (Int.toNat s1.1) (zv (zb a4 &&& ~~~ zb p1).toNat))))
 else
 some (.done s1.2)
def Vs (p0:Aa) (p1:Int):Option Aa :=
 if p0.sets.parents.length*8<=140737488355328 then
  (Qb fuel (Y0 p0 p1) (0,p0.sets.parents)).bind fun x8 =>
  some (Aa.mk (Ac.mk x8))
 else none
def J7 (p0:Aa) (p1:Int) (p2:Int) (p3:Int):Option Aa :=
 (Zo p0 p2).bind fun x1 =>
 (Vs x1 p1).bind fun x3 =>
 some x3
def Xz (p0:Aa) (p1:Int) (s1:(Int × Bool × Bool × Bool × Bool × Bool × Bool × Bool × Bool)):Option (Qg (Int × Bool × Bool × Bool × Bool × Bool × Bool × Bool × Bool) (Bool × Bool × Bool × Bool × Bool × Bool × Bool × Bool)) :=
 if (decide (s1.1 < (p0.sets.parents.length:Int)))=true then
  if 0<=s1.1 then
   (lkI ([s1.2.1,s1.2.2.1,s1.2.2.2.1,s1.2.2.2.2.1,s1.2.2.2.2.2.1,s1.2.2.2.2.2.2.1,s1.2.2.2.2.2.2.2.1,s1.2.2.2.2.2.2.2.2]:(List Bool)) s1.1).bind fun a4 =>
   some (.next (zw (s1.1+1),(if s1.1=0 then ((zv (zb (Int.fdiv p1 (2^min (Int.toNat s1.1) zk)) &&& zb 1).toNat)==1) else s1.2.1),(if s1.1=1 then ((zv (zb (Int.fdiv p1 (2^min (Int.toNat s1.1) zk)) &&& zb 1).toNat)==1) else s1.2.2.1),(if s1.1=2 then ((zv (zb (Int.fdiv p1 (2^min (Int.toNat s1.1) zk)) &&& zb 1).toNat)==1) else s1.2.2.2.1),(if s1.1=3 then ((zv (zb (Int.fdiv p1 (2^min (Int.toNat s1.1) zk)) &&& zb 1).toNat)==1) else s1.2.2.2.2.1),(if s1.1=4 then ((zv (zb (Int.fdiv p1 (2^min (Int.toNat s1.1) zk)) &&& zb 1).toNat)==1) else s1.2.2.2.2.2.1),(if s1.1=5 then ((zv (zb (Int.fdiv p1 (2^min (Int.toNat s1.1) zk)) &&& zb 1).toNat)==1) else s1.2.2.2.2.2.2.1),(if s1.1=6 then ((zv (zb (Int.fdiv p1 (2^min (Int.toNat s1.1) zk)) &&& zb 1).toNat)==1) else s1.2.2.2.2.2.2.2.1),(if s1.1=7 then ((zv (zb (Int.fdiv p1 (2^min (Int.toNat s1.1) zk)) &&& zb 1).toNat)==1) else s1.2.2.2.2.2.2.2.2)))
  else none
 else
 some (.done (s1.2.1,s1.2.2.1,s1.2.2.2.1,s1.2.2.2.2.1,s1.2.2.2.2.2.1,s1.2.2.2.2.2.2.1,s1.2.2.2.2.2.2.2.1,s1.2.2.2.2.2.2.2.2))
def Xv (p0:Aa) (s9:(Int × Bool × Bool × Bool × Bool × Bool × Bool × Bool × Bool × Bool)) (s8:(Bool × Bool × Bool × Bool × Bool × Bool × Bool × Bool)) (a12:Int) (s14:(Int × Bool × Bool × Bool × Bool × Bool × Bool × Bool × Bool)):Option (Qg (Int × Bool × Bool × Bool × Bool × Bool × Bool × Bool × Bool) (Bool × Bool × Bool × Bool × Bool × Bool × Bool × Bool)) :=
 if (decide (s14.1 < (p0.sets.parents.length:Int)))=true then
  (lkI ([s9.2.1,s8.2.1,s8.2.2.1,s8.2.2.2.1,s8.2.2.2.2.1,s8.2.2.2.2.2.1,s8.2.2.2.2.2.2.1,s8.2.2.2.2.2.2.2]:(List Bool)) s9.1).bind fun a17 =>
  if a17=true then
   if 0<=s14.1 then
    if ((zv (zb (Int.fdiv a12 (2^min (Int.toNat s14.1) zk)) &&& zb 1).toNat)==1)=true then
     (lkI ([s14.2.1,s14.2.2.1,s14.2.2.2.1,s14.2.2.2.2.1,s14.2.2.2.2.2.1,s14.2.2.2.2.2.2.1,s14.2.2.2.2.2.2.2.1,s14.2.2.2.2.2.2.2.2]:(List Bool)) s14.1).bind fun a23 =>
     some (.next (zw (s14.1+1),(if s14.1=0 then true else s14.2.1),(if s14.1=1 then true else s14.2.2.1),(if s14.1=2 then true else s14.2.2.2.1),(if s14.1=3 then true else s14.2.2.2.2.1),(if s14.1=4 then true else s14.2.2.2.2.2.1),(if s14.1=5 then true else s14.2.2.2.2.2.2.1),(if s14.1=6 then true else s14.2.2.2.2.2.2.2.1),(if s14.1=7 then true else s14.2.2.2.2.2.2.2.2)))
    else
    some (.next (zw (s14.1+1),s14.2.1,s14.2.2.1,s14.2.2.2.1,s14.2.2.2.2.1,s14.2.2.2.2.2.1,s14.2.2.2.2.2.2.1,s14.2.2.2.2.2.2.2.1,s14.2.2.2.2.2.2.2.2))
   else none
  else
  some (.next (zw (s14.1+1),s14.2.1,s14.2.2.1,s14.2.2.2.1,s14.2.2.2.2.1,s14.2.2.2.2.2.1,s14.2.2.2.2.2.2.1,s14.2.2.2.2.2.2.2.1,s14.2.2.2.2.2.2.2.2))
 else
 some (.done (s14.2.1,s14.2.2.1,s14.2.2.2.1,s14.2.2.2.2.1,s14.2.2.2.2.2.1,s14.2.2.2.2.2.2.1,s14.2.2.2.2.2.2.2.1,s14.2.2.2.2.2.2.2.2))
def Xy (p0:Aa) (s8:(Bool × Bool × Bool × Bool × Bool × Bool × Bool × Bool)) (s9:(Int × Bool × Bool × Bool × Bool × Bool × Bool × Bool × Bool × Bool)):Option (Qg (Int × Bool × Bool × Bool × Bool × Bool × Bool × Bool × Bool × Bool) (Bool × Bool × Bool × Bool × Bool × Bool × Bool × Bool × Bool)) :=
 if (decide (s9.1 < (p0.sets.parents.length:Int)))=true then
  (lkI p0.sets.parents s9.1).bind fun a12 =>
  (Qb fuel (Xv p0 s9 s8 a12) (0,s9.2.2.1,s9.2.2.2.1,s9.2.2.2.2.1,s9.2.2.2.2.2.1,s9.2.2.2.2.2.2.1,s9.2.2.2.2.2.2.2.1,s9.2.2.2.2.2.2.2.2.1,s9.2.2.2.2.2.2.2.2.2)).bind fun x26 =>
  some (.next (zw (s9.1+1),s9.2.1,x26.1,x26.2.1,x26.2.2.1,x26.2.2.2.1,x26.2.2.2.2.1,x26.2.2.2.2.2.1,x26.2.2.2.2.2.2.1,x26.2.2.2.2.2.2.2))
 else
 some (.done (s9.2.1,s9.2.2.1,s9.2.2.2.1,s9.2.2.2.2.1,s9.2.2.2.2.2.1,s9.2.2.2.2.2.2.1,s9.2.2.2.2.2.2.2.1,s9.2.2.2.2.2.2.2.2.1,s9.2.2.2.2.2.2.2.2.2))
def Z1 (p0:Aa) (s8:(Bool × Bool × Bool × Bool × Bool × Bool × Bool × Bool)):Option (Qg (Bool × Bool × Bool × Bool × Bool × Bool × Bool × Bool) (Bool × Bool × Bool × Bool × Bool × Bool × Bool × Bool)) :=
 (Qb fuel (Xy p0 s8) (0,s8.1,s8.1,s8.2.1,s8.2.2.1,s8.2.2.2.1,s8.2.2.2.2.1,s8.2.2.2.2.2.1,s8.2.2.2.2.2.2.1,s8.2.2.2.2.2.2.2)).bind fun x28 =>
 if ((x28.2.1==x28.1) && ((x28.2.2.1==s8.2.1) && ((x28.2.2.2.1==s8.2.2.1) && ((x28.2.2.2.2.1==s8.2.2.2.1) && ((x28.2.2.2.2.2.1==s8.2.2.2.2.1) && ((x28.2.2.2.2.2.2.1==s8.2.2.2.2.2.1) && ((x28.2.2.2.2.2.2.2.1==s8.2.2.2.2.2.2.1) && ((x28.2.2.2.2.2.2.2.2==s8.2.2.2.2.2.2.2) && true))))))))=true then
  some (.done (x28.1,s8.2.1,s8.2.2.1,s8.2.2.2.1,s8.2.2.2.2.1,s8.2.2.2.2.2.1,s8.2.2.2.2.2.2.1,s8.2.2.2.2.2.2.2))
 else
 some (.next (x28.2.1,x28.2.2.1,x28.2.2.2.1,x28.2.2.2.2.1,x28.2.2.2.2.2.1,x28.2.2.2.2.2.2.1,x28.2.2.2.2.2.2.2.1,x28.2.2.2.2.2.2.2.2))
def V3 (p0:Aa) (p1:Int):Option (Bool × Bool × Bool × Bool × Bool × Bool × Bool × Bool) :=
 (Qb fuel (Xz p0 p1) (0,false,false,false,false,false,false,false,false)).bind fun x7 =>
 (Qb fuel (Z1 p0) (x7.1,x7.2.1,x7.2.2.1,x7.2.2.2.1,x7.2.2.2.2.1,x7.2.2.2.2.2.1,x7.2.2.2.2.2.2.1,x7.2.2.2.2.2.2.2)).bind fun x32 =>
 some (x32.1,x32.2.1,x32.2.2.1,x32.2.2.2.1,x32.2.2.2.2.1,x32.2.2.2.2.2.1,x32.2.2.2.2.2.2.1,x32.2.2.2.2.2.2.2)
def Va (x3:(Bool × Bool × Bool × Bool × Bool × Bool × Bool × Bool)) (s5:(Int × Bool × Int)):Option (Qg (Int × Bool × Int) Int) :=
 if (decide (s5.2.2 < 8))=true then
  (lkI ([s5.2.1,x3.2.1,x3.2.2.1,x3.2.2.2.1,x3.2.2.2.2.1,x3.2.2.2.2.2.1,x3.2.2.2.2.2.2.1,x3.2.2.2.2.2.2.2]:(List Bool)) s5.2.2).bind fun a8 =>
  if a8=true then
   if 0<=s5.2.2 then
    some (.next (zv (zb s5.1 &&& ~~~ zb (zv (1*2^min (Int.toNat s5.2.2) zk))).toNat,s5.2.1,zw (s5.2.2+1)))
   else none
  else
  some (.next (s5.1,s5.2.1,zw (s5.2.2+1)))
 else
 some (.done s5.1)
def Ky (p0:Aa) (p1:Int) (p2:Int) (p3:Int):Option Aa :=
 (Zo p0 p2).bind fun x1 =>
 (V3 x1 p3).bind fun x3 =>
 (Qb fuel (Va x3) (p1,x3.1,0)).bind fun x13 =>
 (Zo x1 x13).bind fun x14 =>
 some x14
def J5 (p0:Qc):Option ((List Int) × Int) :=
 (Xn p0).bind fun x1 =>
 some (x1.1.sets,x1.2)
def Vv (p0:(List Int)) (s5:(Int × (List Int))) (a8:Int) (s12:(Int × (List Int))):Option (Qg (Int × (List Int)) (List Int)) :=
 if (decide (s12.1 < (p0.length:Int)))=true then
  (lkI s12.2 s12.1).bind fun a15 =>
  if 0<=s12.1 then
   if 0<=s5.1 then
    some (.next (zw (s12.1+1),(List.set s12.2 (Int.toNat s12.1) (zv (zb a15 ||| zb (zv ((zv (zb (Int.fdiv a8 (2^min (Int.toNat s12.1) zk)) &&& zb 1).toNat)*2^min (Int.toNat s5.1) zk))).toNat))))
   else none
  else none
 else
 some (.done s12.2)
def Vt (p0:(List Int)) (s5:(Int × (List Int))):Option (Qg (Int × (List Int)) (Unit ⊕ (List Int))) :=
 if (decide (s5.1 < (p0.length:Int)))=true then
  (lkI p0 s5.1).bind fun a8 =>
  if 0<=(p0.length:Int) then
   if ((Int.fdiv a8 (2^min (Int.toNat (p0.length:Int)) zk)) != 0)=true then
    some (.done (Sum.inl ()))
   else
   (Qb fuel (Vv p0 s5 a8) (0,s5.2)).bind fun x19 =>
   some (.next (zw (s5.1+1),x19))
  else none
 else
 some (.done (Sum.inr s5.2))
def Ke (p0:(List Int)) (s23:(Int × Int)) (s26:Int):Option (Qg Int (Int ⊕ Unit)) :=
 if (decide (s26 < (p0.length:Int)))=true then
  (lkI p0 s26).bind fun a29 =>
  if 0<=s26 then
   if ((zv (zb (Int.fdiv s23.1 (2^min (Int.toNat s26) zk)) &&& zb 1).toNat)==0)=true then
    if ((zv (zb a29 &&& ~~~ zb s23.1).toNat)==0)=true then
     if 0<=s26 then
      some (.done (Sum.inl (zv (zb s23.1 ||| zb (zv (1*2^min (Int.toNat s26) zk))).toNat)))
     else none
    else
    some (.next (zw (s26+1)))
   else
   some (.next (zw (s26+1)))
  else none
 else
 some (.done (Sum.inr ()))
def Vy (p0:(List Int)) (s23:(Int × Int)):Option (Qg (Int × Int) (Unit ⊕ Unit)) :=
 if (decide (s23.2 < (p0.length:Int)))=true then
  (Qb fuel (Ke p0 s23) 0).bind fun x35=>match x35 with
  | .inl x36=>(
   some (.next (x36,zw (s23.2+1))))
  | .inr x37=>(
   some (.done (Sum.inl ())))
 else
 some (.done (Sum.inr ()))
def Qbb (p0:(List Int)):Option (Qx × Int) :=
 if (decide ((p0.length:Int) < 1))=true then
  some ((Qx.mk (Yv.mk []) []),70)
 else
 if (decide ((p0.length:Int) > 8))=true then
  some ((Qx.mk (Yv.mk []) []),70)
 else
 if 0<=(p0.length:Int)/\(p0.length:Int)<=(p0.length:Int)/\(p0.length:Int)*8<=140737488355328 then
  (Qb fuel (Vt p0) (0,(List.replicate (Int.toNat (p0.length:Int)) (0:Int)))).bind fun x20=>match x20 with
  | .inl x21=>(
   some ((Qx.mk (Yv.mk []) []),70))
  | .inr x22=>(
   (Qb fuel (Vy p0) (0,0)).bind fun x38=>match x38 with
   | .inl x39=>(
    some ((Qx.mk (Yv.mk []) []),70))
   | .inr x40=>(
    some ((Qx.mk (Yv.mk p0) x22),0)))
 else none
def Z2 (p1:(List Int)) (p0:Qx) (s1:(Int × Int)):Option (Qg (Int × Int) (Unit ⊕ Unit)) :=
 if (decide (s1.2 < (p1.length:Int)))=true then
  (lkI p1 s1.2).bind fun a4 =>
  if 0<=(p0.ancestry.parents.length:Int) then
   if ((Int.fdiv a4 (2^min (Int.toNat (p0.ancestry.parents.length:Int)) zk)) != 0)=true then
    some (.done (Sum.inl ()))
   else
   if ((zv (zb a4 &&& zb s1.1).toNat) != 0)=true then
    some (.done (Sum.inl ()))
   else
   some (.next (zv (zb s1.1 ||| zb a4).toNat,zw (s1.2+1)))
  else none
 else
 some (.done (Sum.inr ()))
def Y2 (p0:Qx) (p1:(List Int)):Option Bool :=
 (Qb fuel (Z2 p1 p0) (0,0)).bind fun x10=>match x10 with
 | .inl x11=>(
  some false)
 | .inr x12=>(
  some true)
def Qaa (p0:Int):Option Int :=
 if (p0==0)=true then
  some 64
 else
 (lkI tab1 (Int.fdiv (zv ((zv (zb p0 &&& zb (zv (0 - p0))).toNat)*285870213051353865)) (2^min (Int.toNat 58) zk))).bind fun a3 =>
 some (zw (a3))
def Qv (p0:Int):Option Int :=
 (Qaa p0).bind fun x1 =>
 some x1
def Xp (p0:Qx) (s4:(Int × Int)):Option (Qg (Int × Int) Int) :=
 if (decide (s4.1 < (p0.ancestry.parents.length:Int)))=true then
  (lkI p0.ancestry.parents s4.1).bind fun a7 =>
  if 0<=s4.1 then
   if ((zv (zb (Int.fdiv s4.2 (2^min (Int.toNat s4.1) zk)) &&& zb 1).toNat)==1)=true then
    some (.next (zw (s4.1+1),zv (zb s4.2 ||| zb a7).toNat))
   else
   some (.next (zw (s4.1+1),s4.2))
  else none
 else
 some (.done s4.2)
def Xm (p0:Qx) (s1:(Int × Int)):Option (Qg (Int × Int) Int) :=
 if (decide (s1.1 < (p0.ancestry.parents.length:Int)))=true then
  (Qb fuel (Xp p0) (0,s1.2)).bind fun x12 =>
  some (.next (zw (s1.1+1),x12))
 else
 some (.done s1.2)
def Qbc (r21:((Int × Bool × Int × (List (Ag × Bool)))->Option (Int × (List (Ag × Bool))))) (s29:(Int × Int × (List (Ag × Bool)))):Option (Qg (Int × Int × (List (Ag × Bool))) (Int × (List (Ag × Bool)))) :=
 if (s29.1 != 0)=true then
  (Qv s29.1).bind fun x32 =>
  (r21 (x32,true,s29.2.1,s29.2.2)).bind fun x34 =>
  some (.next (zv (zb s29.1 &&& zb (zv (s29.1 - 1))).toNat,x34.1,x34.2))
 else
 some (.done (s29.2.1,s29.2.2))
def Qa9 (r21:((Int × Bool × Int × (List (Ag × Bool)))->Option (Int × (List (Ag × Bool))))) (s43:(Int × Int × (List (Ag × Bool)))):Option (Qg (Int × Int × (List (Ag × Bool))) (Int × (List (Ag × Bool)))) :=
 if (s43.1 != 0)=true then
  (Qv s43.1).bind fun x46 =>
  (r21 (x46,false,s43.2.1,s43.2.2)).bind fun x48 =>
  some (.next (zv (zb s43.1 &&& zb (zv (s43.1 - 1))).toNat,x48.1,x48.2))
 else
 some (.done (s43.2.1,s43.2.2))
def Qa6 (r21:((Int × Bool × Int × (List (Ag × Bool)))->Option (Int × (List (Ag × Bool))))) (s55:(Int × Int × (List (Ag × Bool)))):Option (Qg (Int × Int × (List (Ag × Bool))) (Int × (List (Ag × Bool)))) :=
 if (s55.1 != 0)=true then
  (Qv s55.1).bind fun x58 =>
  (r21 (x58,false,s55.2.1,s55.2.2)).bind fun x60 =>
  some (.next (zv (zb s55.1 &&& zb (zv (s55.1 - 1))).toNat,x60.1,x60.2))
 else
 some (.done (s55.2.1,s55.2.2))
def Qbe (r21:((Int × Bool × Int × (List (Ag × Bool)))->Option (Int × (List (Ag × Bool))))) (s69:(Int × Int × (List (Ag × Bool)))):Option (Qg (Int × Int × (List (Ag × Bool))) (Int × (List (Ag × Bool)))) :=
 if (s69.1 != 0)=true then
  (Qv s69.1).bind fun x72 =>
  (r21 (x72,false,s69.2.1,s69.2.2)).bind fun x74 =>
  some (.next (zv (zb s69.1 &&& zb (zv (s69.1 - 1))).toNat,x74.1,x74.2))
 else
 some (.done (s69.2.1,s69.2.2))
def Qf7 (r21:((Int × Bool × Int × (List (Ag × Bool)))->Option (Int × (List (Ag × Bool))))) (s81:(Int × Int × (List (Ag × Bool)))):Option (Qg (Int × Int × (List (Ag × Bool))) (Int × (List (Ag × Bool)))) :=
 if (s81.1 != 0)=true then
  (Qv s81.1).bind fun x84 =>
  (r21 (x84,false,s81.2.1,s81.2.2)).bind fun x86 =>
  some (.next (zv (zb s81.1 &&& zb (zv (s81.1 - 1))).toNat,x86.1,x86.2))
 else
 some (.done (s81.2.1,s81.2.2))
def Zu (p2:Int) (p0:Qx) (x14:Int) (r21:((Int × Bool × Int × (List (Ag × Bool)))->Option (Int × (List (Ag × Bool))))) (s20:(Int × Bool × Int × (List (Ag × Bool)))):Option (Int × (List (Ag × Bool))) :=
 if (Ve An s20.2.2.2 (Ag.mk s20.1 s20.2.1)).getD false=true then
  some (s20.2.2.1,s20.2.2.2)
 else
 if 0<=s20.1 then
  if ((zv (zb (Int.fdiv p2 (2^min (Int.toNat s20.1) zk)) &&& zb 1).toNat)==0)=true then
   if 0<=s20.1 then
    (lkI p0.children s20.1).bind fun a27 =>
    (Qb fuel (Qbc r21) (a27,zv (zb s20.2.2.1 ||| zb (zv (1*2^min (Int.toNat s20.1) zk))).toNat,kput An s20.2.2.2 (Ag.mk s20.1 s20.2.1) true)).bind fun x36 =>
    if s20.2.1=true then
     if 0<=s20.1 then
      if ((zv (zb (Int.fdiv x14 (2^min (Int.toNat s20.1) zk)) &&& zb 1).toNat)==0)=true then
       some (x36.1,x36.2)
      else
      (lkI p0.ancestry.parents s20.1).bind fun a41 =>
      (Qb fuel (Qa9 r21) (a41,x36.1,x36.2)).bind fun x50 =>
      some (x50.1,x50.2)
     else none
    else
    if 0<=s20.1 then
     if ((zv (zb (Int.fdiv p2 (2^min (Int.toNat s20.1) zk)) &&& zb 1).toNat)==1)=true then
      some (x36.1,x36.2)
     else
     (lkI p0.ancestry.parents s20.1).bind fun a53 =>
     (Qb fuel (Qa6 r21) (a53,x36.1,x36.2)).bind fun x62 =>
     some (x62.1,x62.2)
    else none
   else none
  else
  if s20.2.1=true then
   if 0<=s20.1 then
    if ((zv (zb (Int.fdiv x14 (2^min (Int.toNat s20.1) zk)) &&& zb 1).toNat)==0)=true then
     some (s20.2.2.1,kput An s20.2.2.2 (Ag.mk s20.1 s20.2.1) true)
    else
    (lkI p0.ancestry.parents s20.1).bind fun a67 =>
    (Qb fuel (Qbe r21) (a67,s20.2.2.1,kput An s20.2.2.2 (Ag.mk s20.1 s20.2.1) true)).bind fun x76 =>
    some (x76.1,x76.2)
   else none
  else
  if 0<=s20.1 then
   if ((zv (zb (Int.fdiv p2 (2^min (Int.toNat s20.1) zk)) &&& zb 1).toNat)==1)=true then
    some (s20.2.2.1,kput An s20.2.2.2 (Ag.mk s20.1 s20.2.1) true)
   else
   (lkI p0.ancestry.parents s20.1).bind fun a79 =>
   (Qb fuel (Qf7 r21) (a79,s20.2.2.1,kput An s20.2.2.2 (Ag.mk s20.1 s20.2.1) true)).bind fun x88 =>
   some (x88.1,x88.2)
  else none
 else none
def Qbd (p2:Int) (p0:Qx) (x14:Int) (s15:(Int × Int × (List (Ag × Bool)))):Option (Qg (Int × Int × (List (Ag × Bool))) (Int × (List (Ag × Bool)))) :=
 if (s15.1 != 0)=true then
  (Qv s15.1).bind fun x18 =>
  (Qbh (Zu p2 p0 x14) fuel (x18,false,s15.2.1,s15.2.2)).bind fun x89 =>
  some (.next (zv (zb s15.1 &&& zb (zv (s15.1 - 1))).toNat,x89.1,x89.2))
 else
 some (.done (s15.2.1,s15.2.2))
def Vq (p0:Qx) (p1:Int) (p2:Int):Option Int :=
 (Qb fuel (Xm p0) (0,p2)).bind fun x14 =>
 (Qb fuel (Qbd p2 p0 x14) (p1,0,[])).bind fun x92 =>
 some x92.1
def Xw (p0:(List Int)) (p1:Int) (p2:Int) (p3:Int):Option (Bool × Int) :=
 (Qbb p0).bind fun x1 =>
 if (x1.2 != 0)=true then
  some (false,x1.2)
 else
 (Y2 x1.1 [p1,p2,p3]).bind fun x5 =>
 if (!x5)=true then
  some (false,2)
 else
 (Vq x1.1 p1 p3).bind fun x9 =>
 some (((zv (zb x9 &&& zb p2).toNat)==0),0)
def Vn (p0:Qc) (p1:Int) (p2:Int) (p3:Int) (p4:Int) (p5:Int):Option (Bool × Int) :=
 (X4 p0 []).bind fun x1 =>
 if (x1 != 0)=true then
  some (false,x1)
 else
 if p1=1 then
  if 0<=(p0.Nodes.length:Int) then
   if ((Int.fdiv (zv (zb (zv (zb (zv (zb p2 ||| zb p3).toNat) ||| zb p4).toNat) ||| zb p5).toNat) (2^min (Int.toNat (p0.Nodes.length:Int)) zk)) != 0)=true then
    some (false,2)
   else
   if ((zv (zb p2 &&& zb p3).toNat) != 0)=true then
    some (false,2)
   else
   if ((zv (zb (zv (zb p2 ||| zb p3).toNat) &&& zb p4).toNat) != 0)=true then
    some (false,2)
   else
   if ((zv (zb (zv (zb (zv (zb p2 ||| zb p3).toNat) ||| zb p4).toNat) &&& zb p5).toNat) != 0)=true then
    some (false,2)
   else
   (J5 p0).bind fun x15 =>
   if (x15.2 != 0)=true then
    some (false,x15.2)
   else
   if (p2==0)=true then
    some (true,0)
   else
   if (p3==0)=true then
    some (true,0)
   else
   (Kv (Aa.mk (Ac.mk x15.1)) p3 p4 p5).bind fun x23 =>
   (Xw x23.sets.parents p2 p3 (zv (zb p4 ||| zb p5).toNat)).bind fun x25 =>
   some (x25.1,x25.2)
  else none
 else
 if p1=2 then
  if 0<=(p0.Nodes.length:Int) then
   if ((Int.fdiv (zv (zb (zv (zb (zv (zb p2 ||| zb p3).toNat) ||| zb p4).toNat) ||| zb p5).toNat) (2^min (Int.toNat (p0.Nodes.length:Int)) zk)) != 0)=true then
    some (false,2)
   else
   if ((zv (zb p2 &&& zb p3).toNat) != 0)=true then
    some (false,2)
   else
   if ((zv (zb (zv (zb p2 ||| zb p3).toNat) &&& zb p4).toNat) != 0)=true then
    some (false,2)
   else
   if ((zv (zb (zv (zb (zv (zb p2 ||| zb p3).toNat) ||| zb p4).toNat) &&& zb p5).toNat) != 0)=true then
    some (false,2)
   else
   (J5 p0).bind fun x37 =>
   if (x37.2 != 0)=true then
    some (false,x37.2)
   else
   if (p2==0)=true then
    some (true,0)
   else
   if (p3==0)=true then
    some (true,0)
   else
   (J7 (Aa.mk (Ac.mk x37.1)) p3 p4 p5).bind fun x45 =>
   (Xw x45.sets.parents p2 p3 (zv (zb p4 ||| zb p5).toNat)).bind fun x47 =>
   some (x47.1,x47.2)
  else none
 else
 if p1=3 then
  if 0<=(p0.Nodes.length:Int) then
   if ((Int.fdiv (zv (zb (zv (zb (zv (zb p2 ||| zb p3).toNat) ||| zb p4).toNat) ||| zb p5).toNat) (2^min (Int.toNat (p0.Nodes.length:Int)) zk)) != 0)=true then
    some (false,2)
   else
   if ((zv (zb p2 &&& zb p3).toNat) != 0)=true then
    some (false,2)
   else
   if ((zv (zb (zv (zb p2 ||| zb p3).toNat) &&& zb p4).toNat) != 0)=true then
    some (false,2)
   else
   if ((zv (zb (zv (zb (zv (zb p2 ||| zb p3).toNat) ||| zb p4).toNat) &&& zb p5).toNat) != 0)=true then
    some (false,2)
   else
   (J5 p0).bind fun x59 =>
   if (x59.2 != 0)=true then
    some (false,x59.2)
   else
   if (p2==0)=true then
    some (true,0)
   else
   if (p3==0)=true then
    some (true,0)
   else
   (Ky (Aa.mk (Ac.mk x59.1)) p3 p4 p5).bind fun x67 =>
   (Xw x67.sets.parents p2 p3 (zv (zb p4 ||| zb p5).toNat)).bind fun x69 =>
   some (x69.1,x69.2)
  else none
 else
 some (false,2)
def Kz (p0:Int) (p1:Int) (p2:Int) (p3:Int) (p4:Int) (p5:Bool):Option Bool :=
 (Kh).bind fun x1 =>
 (Vn x1 p0 p1 p2 p3 p4).bind fun x3 =>
 if (x3.1==p5)=true then
  some (x3.2==0)
 else
 some false
def J6 (p0:Int) (p1:Int):Option Ae :=
 some (Ae.mk p0 p1)
def Qoz (p0:(List Ae)) (p1:(List Ae)) (s3:Int):Option (Qg Int (Unit ⊕ Unit)) :=
 if (decide (s3 < (p0.length:Int)))=true then
  (lkI p0 s3).bind fun a6 =>
  (lkI p1 s3).bind fun a8 =>
  if (!((a6.N==a8.N) && ((a6.D==a8.D) && true)))=true then
   some (.done (Sum.inl ()))
  else
  some (.next (zw (s3+1)))
 else
 some (.done (Sum.inr ()))
def Qlb (p0:(List Ae)) (p1:(List Ae)):Option Bool :=
 if ((p0.length:Int) != (p1.length:Int))=true then
  some false
 else
 (Qb fuel (Qoz p0 p1) 0).bind fun x12=>match x12 with
 | .inl x13=>(
  some false)
 | .inr x14=>(
  some true)
def Qeh (p0:(List Int)) (p1:(List Int)) (p2:Int) (p3:(List Ae)):Option Bool :=
 (Kh).bind fun x1 =>
 (Qhc x1 p0 p1 p2).bind fun x3 =>
 if (x3.2==0)=true then
  (Qlb x3.1 p3).bind fun x7 =>
  some x7
 else
 some false
def Xb (w3_0:Bool):Option Bool :=
 some w3_0
def Yt (w2_0:Bool) (w2_1:Bool) (w2_2:Bool):Option Bool :=
 if w2_0=true then
  if w2_1=true then
   if w2_2=true then
    (Kz 2 4 1 0 0 true).bind fun x75 =>
    if x75=true then
     (Kz 2 4 2 0 0 false).bind fun x79 =>
     if x79=true then
      (Kz 2 4 2 0 1 true).bind fun x83 =>
      if x83=true then
       (Kz 3 1 6 0 0 true).bind fun x87 =>
       if x87=true then
        (Kz 1 1 4 2 0 false).bind fun x91 =>
        Xb x91
       else
       Xb false
      else
      Xb false
     else
     Xb false
    else
    Xb false
   else
   Xb false
  else
  Xb false
 else
 Xb false
def Qc1 (w1_0:Int) (w1_1:Int) (w1_2:Bool) (w1_3:Bool) (w1_4:(List Int)) (w1_5:Int) (w1_6:Int) (w1_7:(List Int)) (w1_8:Int) (w1_9:Int):Option Bool :=
 if (w1_0==0)=true then
  (Qbf w1_4 [1,1,-1]).bind fun x53 =>
  if x53=true then
   (J6 1 1).bind fun x57 =>
   if ((w1_5==x57.N) && ((w1_6==x57.D) && true))=true then
    if (w1_1==0)=true then
     (Qbf w1_7 [-1,0,-1]).bind fun x63 =>
     if x63=true then
      (J6 3 4).bind fun x67 =>
      Yt w1_2 w1_3 ((w1_8==x67.N) && ((w1_9==x67.D) && true))
     else
     Yt w1_2 w1_3 false
    else
    Yt w1_2 w1_3 false
   else
   Yt w1_2 w1_3 false
  else
  Yt w1_2 w1_3 false
 else
 Yt w1_2 w1_3 false
def Xx (w0_0:Int) (w0_1:Int) (w0_2:Bool) (w0_3:(List Int)) (w0_4:Int) (w0_5:Int) (w0_6:(List Int)) (w0_7:Int) (w0_8:Int):Option Bool :=
 (J6 1 7).bind fun x37 =>
 (J6 6 7).bind fun x39 =>
 (Qeh [-1,1,-1] [-1,-1,1] 0 [x37,x39]).bind fun x41 =>
 if x41=true then
  (J6 7 8).bind fun x45 =>
  (J6 1 8).bind fun x47 =>
  (Qeh [0,-1,-1] [-1,-1,-1] 2 [x45,x47]).bind fun x49 =>
  Qc1 w0_0 w0_1 w0_2 x49 w0_3 w0_4 w0_5 w0_6 w0_7 w0_8
 else
 Qc1 w0_0 w0_1 w0_2 false w0_3 w0_4 w0_5 w0_6 w0_7 w0_8
def Qfq  : Option Bool :=
 (Kh).bind fun x1 =>
 (Quz x1 [-1,1,-1]).bind fun x3 =>
 (Kh).bind fun x5 =>
 (lkI x5.Nodes 1).bind fun a7 =>
 (Jv x1 [-1,1,-1] [-1,-1,1]).bind fun x94 =>
 (Jv x1 [-1,1,-1] [-1,0,-1]).bind fun x96 =>
 (Qhc x1 [-1,1,-1] [-1,0,-1] 2).bind fun x98 =>
 (Qj8 x1 3 2 1).bind fun x100 =>
 (Qj8 x1 2 0 1).bind fun x102 =>
 if (x3.2==0)=true then
  (Qhy x3.1 (Qc.mk x5.Grain (List.set x5.Nodes (Int.toNat 1) (Ad.mk 2 [] [[0,4]])))).bind fun x106 =>
  if x106=true then
   if (x94.2==0)=true then
    (J6 7 8).bind fun x112 =>
    if ((x94.1.N==x112.N) && ((x94.1.D==x112.D) && true))=true then
     if (x96.2==0)=true then
      (J6 0 1).bind fun x118 =>
      if ((x96.1.N==x118.N) && ((x96.1.D==x118.D) && true))=true then
       Xx x100.2.2 x102.2.2 (x98.2==7) x100.1 x100.2.1.N x100.2.1.D x102.1 x102.2.1.N x102.2.1.D
      else
      Xx x100.2.2 x102.2.2 false x100.1 x100.2.1.N x100.2.1.D x102.1 x102.2.1.N x102.2.1.D
     else
     Xx x100.2.2 x102.2.2 false x100.1 x100.2.1.N x100.2.1.D x102.1 x102.2.1.N x102.2.1.D
    else
    Xx x100.2.2 x102.2.2 false x100.1 x100.2.1.N x100.2.1.D x102.1 x102.2.1.N x102.2.1.D
   else
   Xx x100.2.2 x102.2.2 false x100.1 x100.2.1.N x100.2.1.D x102.1 x102.2.1.N x102.2.1.D
  else
  Xx x100.2.2 x102.2.2 false x100.1 x100.2.1.N x100.2.1.D x102.1 x102.2.1.N x102.2.1.D
 else
 Xx x100.2.2 x102.2.2 false x100.1 x100.2.1.N x100.2.1.D x102.1 x102.2.1.N x102.2.1.D
def Kn (p0:Af) (s1:(Int × (List Int))):Option (Qg (Int × (List Int)) (List Int)) :=
 if (decide (s1.1 < (p0.C.length:Int)))=true then
  if (decide (s1.1 < 5))=true then
   (lkI p0.C s1.1).bind fun a6 =>
   if (s1.2++([zw (1+(zw (Int.tmod a6 4)))]:(List Int))).length*8<=140737488355328 then
    some (.next (zw (s1.1+1),(s1.2++([zw (1+(zw (Int.tmod a6 4)))]:(List Int)))))
   else none
  else
  some (.done s1.2)
 else
 some (.done s1.2)
def J1 (p0:Af):Option (List Int) :=
 (Qb fuel (Kn p0) (0,([]:(List Int)))).bind fun x9 =>
 some x9
def Vj (p0:Af) (s1:(Int × (List Int))):Option (Qg (Int × (List Int)) (List Int)) :=
 (J1 p0).bind fun x2 =>
 if (decide (s1.1 < (x2.length:Int)))=true then
  if (decide (s1.1 < (p0.Order.length:Int)))=true then
   (lkI p0.Order s1.1).bind fun a8 =>
   if (zw (s1.1+1))≠0 then
    if 0<=(0:Int)/\(0:Int)<=(Int.tmod (zw (a8)) (zw (s1.1+1)))/\(Int.tmod (zw (a8)) (zw (s1.1+1)))<=(s1.2.length:Int) then
     if (sub s1.2 0 (Int.tmod (zw (a8)) (zw (s1.1+1)))).length*8<=140737488355328 then
      if ((sub s1.2 0 (Int.tmod (zw (a8)) (zw (s1.1+1))))++([s1.1]:(List Int))).length*8<=140737488355328 then
       if 0<=(Int.tmod (zw (a8)) (zw (s1.1+1)))/\(Int.tmod (zw (a8)) (zw (s1.1+1)))<=(s1.2.length:Int)/\(s1.2.length:Int)<=(s1.2.length:Int) then
        if (((sub s1.2 0 (Int.tmod (zw (a8)) (zw (s1.1+1))))++([s1.1]:(List Int)))++(sub s1.2 (Int.tmod (zw (a8)) (zw (s1.1+1))) (s1.2.length:Int))).length*8<=140737488355328 then
         some (.next (zw (s1.1+1),(((sub s1.2 0 (Int.tmod (zw (a8)) (zw (s1.1+1))))++([s1.1]:(List Int)))++(sub s1.2 (Int.tmod (zw (a8)) (zw (s1.1+1))) (s1.2.length:Int)))))
        else none
       else none
      else none
     else none
    else none
   else none
  else
  if 0<=(0:Int)/\(0:Int)<=(0:Int)/\(0:Int)<=(s1.2.length:Int) then
   if (sub s1.2 0 0).length*8<=140737488355328 then
    if ((sub s1.2 0 0)++([s1.1]:(List Int))).length*8<=140737488355328 then
     if 0<=(0:Int)/\(0:Int)<=(s1.2.length:Int)/\(s1.2.length:Int)<=(s1.2.length:Int) then
      if (((sub s1.2 0 0)++([s1.1]:(List Int)))++(sub s1.2 0 (s1.2.length:Int))).length*8<=140737488355328 then
       some (.next (zw (s1.1+1),(((sub s1.2 0 0)++([s1.1]:(List Int)))++(sub s1.2 0 (s1.2.length:Int)))))
      else none
     else none
    else none
   else none
  else none
 else
 some (.done s1.2)
def Y1 (p0:Af):Option (List Int) :=
 (Qb fuel (Vj p0) (0,([]:(List Int)))).bind fun x15 =>
 some x15
def Qd8 (p0:(List Int)) (s1:(Int × Int)):Option (Qg (Int × Int) Int) :=
 if (decide (s1.2 < (p0.length:Int)))=true then
  (lkI p0 s1.2).bind fun a4 =>
  some (.next (zw (s1.1*a4),zw (s1.2+1)))
 else
 some (.done s1.1)
def K4 (p0:(List Int)):Option Int :=
 (Qb fuel (Qd8 p0) (1,0)).bind fun x7 =>
 some x7
def Qft (p1:(List Int)) (p0:(List Int)) (s1:(Int × (List Int))):Option (Qg (Int × (List Int)) (List Int)) :=
 if (decide (s1.1 < (p1.length:Int)))=true then
  (lkI p1 s1.1).bind fun a4 =>
  (lkI p0 a4).bind fun a6 =>
  if (s1.2++([a6]:(List Int))).length*8<=140737488355328 then
   some (.next (zw (s1.1+1),(s1.2++([a6]:(List Int)))))
  else none
 else
 some (.done s1.2)
def Qf5 (p0:(List Int)) (p1:(List Int)):Option (List Int) :=
 (Qb fuel (Qft p1 p0) (0,([]:(List Int)))).bind fun x9 =>
 some x9
def Qcu (p0:Qc) (s1:(Int × (List Int))):Option (Qg (Int × (List Int)) (List Int)) :=
 if (decide (s1.1 < (p0.Nodes.length:Int)))=true then
  (lkI p0.Nodes s1.1).bind fun a4 =>
  if (s1.2++([a4.Card]:(List Int))).length*8<=140737488355328 then
   some (.next (zw (s1.1+1),(s1.2++([a4.Card]:(List Int)))))
  else none
 else
 some (.done s1.2)
def Qcq (p0:Qc):Option (List Int) :=
 (Qb fuel (Qcu p0) (0,([]:(List Int)))).bind fun x7 =>
 some x7
def Zg (p0:Qc) (p1:Int):Option (List Int) :=
 (Qcq p0).bind fun x1 =>
 (lkI p0.Nodes p1).bind fun a3 =>
 (Qf5 x1 a3.Parents).bind fun x5 =>
 some x5
def Jq (p1:Int) (p2:(List Int)) (p3:Int) (s1:(Int × Int × (List Int))):Option (Qg (Int × Int × (List Int)) (Int × (List Int))) :=
 if (decide (s1.2.1 < p1))=true then
  if (decide ((p2.length:Int) > 0))=true then
   if (p2.length:Int)≠0 then
    (lkI p2 (Int.tmod (zw (p3+s1.2.1)) (p2.length:Int))).bind fun a6 =>
    (lkI s1.2.2 s1.2.1).bind fun a8 =>
    some (.next (zw (s1.1+(zw (Int.tmod a6 8))),zw (s1.2.1+1),(List.set s1.2.2 (Int.toNat s1.2.1) (zw (Int.tmod a6 8)))))
   else none
  else
  (lkI s1.2.2 s1.2.1).bind fun a11 =>
  some (.next (zw (s1.1+a11),zw (s1.2.1+1),s1.2.2))
 else
 some (.done (s1.1,s1.2.2))
def Qeu (p1:Int) (x14:(Int × (List Int))) (p0:Int) (s15:(Int × Int × Int × (List Int))):Option (Qg (Int × Int × Int × (List Int)) (Int × Int × (List Int))) :=
 if (decide (s15.2.2.1 < p1))=true then
  (lkI s15.2.2.2 s15.2.2.1).bind fun a18 =>
  if (decide (a18 > 0))=true then
   if x14.1≠0 then
    some (.next (zw (s15.1 - (zw (Int.tdiv (zw (p0*a18)) x14.1))),s15.2.2.1,zw (s15.2.2.1+1),(List.set s15.2.2.2 (Int.toNat s15.2.2.1) (zw (Int.tdiv (zw (p0*a18)) x14.1)))))
   else none
  else
  some (.next (zw (s15.1 - a18),s15.2.1,zw (s15.2.2.1+1),s15.2.2.2))
 else
 some (.done (s15.1,s15.2.1,s15.2.2.2))
def Qcc (p0:Int) (p1:Int) (p2:(List Int)) (p3:Int):Option (List Int) :=
 if 0<=p1/\p1<=p1/\p1*8<=140737488355328 then
  (Qb fuel (Jq p1 p2 p3) (0,0,(List.replicate (Int.toNat p1) (0:Int)))).bind fun x14 =>
  (Qb fuel (Qeu p1 x14 p0) (p0,0,0,x14.2)).bind fun x24 =>
  (lkI x24.2.2 x24.2.1).bind fun a25 =>
  some (List.set x24.2.2 (Int.toNat x24.2.1) (zw (a25+x24.1)))
 else none
def Y5 (p0:Qf) (x1:(List Int)) (s3:(Int × Int × (List (Int ⊕ Ad)))):Option (Qg (Int × Int × (List (Int ⊕ Ad))) (List (Int ⊕ Ad))) :=
 if (decide (s3.2.1 < (if 5 < (if 1 > (p0.Nodes.length:Int) then 1 else (p0.Nodes.length:Int)) then 5 else (if 1 > (p0.Nodes.length:Int) then 1 else (p0.Nodes.length:Int)))))=true then
  if (decide (s3.2.1 < (p0.Nodes.length:Int)))=true then
   (lkI p0.Nodes s3.2.1).bind fun a8 =>
   if 0<=(zv (zw ((zw ((if 5 < (if 1 > (p0.Nodes.length:Int) then 1 else (p0.Nodes.length:Int)) then 5 else (if 1 > (p0.Nodes.length:Int) then 1 else (p0.Nodes.length:Int))) - 1)) - s3.2.1))) then
    if (decide ((zw ((zw (s3.1*(zw (2+(zw (Int.tmod a8.Card 2))))))*2^min (Int.toNat (zv (zw ((zw ((if 5 < (if 1 > (p0.Nodes.length:Int) then 1 else (p0.Nodes.length:Int)) then 5 else (if 1 > (p0.Nodes.length:Int) then 1 else (p0.Nodes.length:Int))) - 1)) - s3.2.1)))) (IntKind.bits .i64))) > 100))=true then
     (lkI x1 s3.2.1).bind fun a12 =>
     (lkL s3.2.2 a12).bind fun a14 =>
     some (.next (zw (s3.1*2),zw (s3.2.1+1),(List.set s3.2.2 (Int.toNat a12) (Sum.inl 2))))
    else
    (lkI x1 s3.2.1).bind fun a17 =>
    (lkL s3.2.2 a17).bind fun a19 =>
    some (.next (zw (s3.1*(zw (2+(zw (Int.tmod a8.Card 2))))),zw (s3.2.1+1),(List.set s3.2.2 (Int.toNat a17) (Sum.inl (zw (2+(zw (Int.tmod a8.Card 2))))))))
   else none
  else
  if 0<=(zv (zw ((zw ((if 5 < (if 1 > (p0.Nodes.length:Int) then 1 else (p0.Nodes.length:Int)) then 5 else (if 1 > (p0.Nodes.length:Int) then 1 else (p0.Nodes.length:Int))) - 1)) - s3.2.1))) then
   if (decide ((zw ((zw (s3.1*(zw (2+(zw (Int.tmod 0 2))))))*2^min (Int.toNat (zv (zw ((zw ((if 5 < (if 1 > (p0.Nodes.length:Int) then 1 else (p0.Nodes.length:Int)) then 5 else (if 1 > (p0.Nodes.length:Int) then 1 else (p0.Nodes.length:Int))) - 1)) - s3.2.1)))) (IntKind.bits .i64))) > 100))=true then
    (lkI x1 s3.2.1).bind fun a24 =>
    (lkL s3.2.2 a24).bind fun a26 =>
    some (.next (zw (s3.1*2),zw (s3.2.1+1),(List.set s3.2.2 (Int.toNat a24) (Sum.inl 2))))
   else
   (lkI x1 s3.2.1).bind fun a29 =>
   (lkL s3.2.2 a29).bind fun a31 =>
   some (.next (zw (s3.1*(zw (2+(zw (Int.tmod 0 2))))),zw (s3.2.1+1),(List.set s3.2.2 (Int.toNat a29) (Sum.inl (zw (2+(zw (Int.tmod 0 2))))))))
  else none
 else
 some (.done s3.2.2)
def Y8 (s36:(Int × (List (Int ⊕ Ad)))) (x1:(List Int)) (s55:(Int × (List Int))) (a49:Qw) (s58:(Int × (List Int))):Option (Qg (Int × (List Int)) (List Int)) :=
 if (decide (s58.1 < s36.1))=true then
  (lkI x1 s58.1).bind fun a61 =>
  if (a61==s55.1)=true then
   if 0<=(zv (s58.1)) then
    if ((IntKind.u8.wrap (BitVec.ofInt (IntKind.bits .u8) (Int.fdiv a49.Parents (2^min (Int.toNat (zv (s58.1))) (IntKind.bits .u8))) &&& BitVec.ofInt (IntKind.bits .u8) 1).toNat)==1)=true then
     if (decide ((s58.2.length:Int) < 3))=true then
      if (s58.2++([s55.1]:(List Int))).length*8<=140737488355328 then
       some (.next (zw (s58.1+1),(s58.2++([s55.1]:(List Int)))))
      else none
     else
     some (.next (zw (s58.1+1),s58.2))
    else
    some (.next (zw (s58.1+1),s58.2))
   else none
  else
  some (.next (zw (s58.1+1),s58.2))
 else
 some (.done s58.2)
def X6 (p0:Qf) (s36:(Int × (List (Int ⊕ Ad)))) (x1:(List Int)) (a49:Qw) (s55:(Int × (List Int))):Option (Qg (Int × (List Int)) (List Int)) :=
 if (decide (s55.1 < (if 5 < (if 1 > (p0.Nodes.length:Int) then 1 else (p0.Nodes.length:Int)) then 5 else (if 1 > (p0.Nodes.length:Int) then 1 else (p0.Nodes.length:Int)))))=true then
  (Qb fuel (Y8 s36 x1 s55 a49) (0,s55.2)).bind fun x70 =>
  some (.next (zw (s55.1+1),x70))
 else
 some (.done s55.2)
def Y7 (p0:Qf) (s36:(Int × (List (Int ⊕ Ad)))) (a51:Int) (a53:Int) (x72:(List Int)) (a49:Qw) (s73:(Int × (List (List Int)))):Option (Qg (Int × (List (List Int))) (List (List Int))) :=
 (Zg (Qc.mk (zw (1+(zw (Int.tmod p0.Grain 60)))) (List.set (List.map Ah s36.2) (Int.toNat a51) (Ad.mk a53 x72 s73.2))) a51).bind fun x74 =>
 (K4 x74).bind fun x76 =>
 if (decide (s73.1 < x76))=true then
  (Qcc (zw (1+(zw (Int.tmod p0.Grain 60)))) a53 a49.W (zw (s73.1*(zw (a53+1))))).bind fun x80 =>
  if (s73.2++([x80]:(List (List Int)))).length*24<=140737488355328 then
   some (.next (zw (s73.1+1),(s73.2++([x80]:(List (List Int))))))
  else none
 else
 some (.done s73.2)
def Qk3 (s36:(Int × (List (Int ⊕ Ad)))) (x1:(List Int)) (s90:(Int × (List Int))) (s93:(Int × (List Int))):Option (Qg (Int × (List Int)) (List Int)) :=
 if (decide (s93.1 < s36.1))=true then
  (lkI x1 s93.1).bind fun a96 =>
  if (a96==s90.1)=true then
   if 0<=(zv (s93.1)) then
    if ((IntKind.u8.wrap (BitVec.ofInt (IntKind.bits .u8) (Int.fdiv 0 (2^min (Int.toNat (zv (s93.1))) (IntKind.bits .u8))) &&& BitVec.ofInt (IntKind.bits .u8) 1).toNat)==1)=true then
     if (decide ((s93.2.length:Int) < 3))=true then
      if (s93.2++([s90.1]:(List Int))).length*8<=140737488355328 then
       some (.next (zw (s93.1+1),(s93.2++([s90.1]:(List Int)))))
      else none
     else
     some (.next (zw (s93.1+1),s93.2))
    else
    some (.next (zw (s93.1+1),s93.2))
   else none
  else
  some (.next (zw (s93.1+1),s93.2))
 else
 some (.done s93.2)
def Qdq (p0:Qf) (s36:(Int × (List (Int ⊕ Ad)))) (x1:(List Int)) (s90:(Int × (List Int))):Option (Qg (Int × (List Int)) (List Int)) :=
 if (decide (s90.1 < (if 5 < (if 1 > (p0.Nodes.length:Int) then 1 else (p0.Nodes.length:Int)) then 5 else (if 1 > (p0.Nodes.length:Int) then 1 else (p0.Nodes.length:Int)))))=true then
  (Qb fuel (Qk3 s36 x1 s90) (0,s90.2)).bind fun x105 =>
  some (.next (zw (s90.1+1),x105))
 else
 some (.done s90.2)
def Qkg (p0:Qf) (s36:(Int × (List (Int ⊕ Ad)))) (a86:Int) (a88:Int) (x107:(List Int)) (s108:(Int × (List (List Int)))):Option (Qg (Int × (List (List Int))) (List (List Int))) :=
 (Zg (Qc.mk (zw (1+(zw (Int.tmod p0.Grain 60)))) (List.set (List.map Ah s36.2) (Int.toNat a86) (Ad.mk a88 x107 s108.2))) a86).bind fun x109 =>
 (K4 x109).bind fun x111 =>
 if (decide (s108.1 < x111))=true then
  (Qcc (zw (1+(zw (Int.tmod p0.Grain 60)))) a88 [] (zw (s108.1*(zw (a88+1))))).bind fun x115 =>
  if (s108.2++([x115]:(List (List Int)))).length*24<=140737488355328 then
   some (.next (zw (s108.1+1),(s108.2++([x115]:(List (List Int))))))
  else none
 else
 some (.done s108.2)
def Y4 (p0:Qf) (x1:(List Int)) (s36:(Int × (List (Int ⊕ Ad)))):Option (Qg (Int × (List (Int ⊕ Ad))) (List (Int ⊕ Ad))) :=
 if (decide (s36.1 < (if 5 < (if 1 > (p0.Nodes.length:Int) then 1 else (p0.Nodes.length:Int)) then 5 else (if 1 > (p0.Nodes.length:Int) then 1 else (p0.Nodes.length:Int)))))=true then
  if (decide (s36.1 < (p0.Nodes.length:Int)))=true then
   (lkI p0.Nodes s36.1).bind fun a49 =>
   (lkI x1 s36.1).bind fun a51 =>
   (lkL s36.2 a51).bind fun a53 =>
   (Qb fuel (X6 p0 s36 x1 a49) (0,([]:(List Int)))).bind fun x72 =>
   (Qb fuel (Y7 p0 s36 a51 a53 x72 a49) (0,([]:(List (List Int))))).bind fun x83 =>
   some (.next (zw (s36.1+1),(List.set s36.2 (Int.toNat a51) (Sum.inr (Ad.mk a53 x72 x83)))))
  else
  (lkI x1 s36.1).bind fun a86 =>
  (lkL s36.2 a86).bind fun a88 =>
  (Qb fuel (Qdq p0 s36 x1) (0,([]:(List Int)))).bind fun x107 =>
  (Qb fuel (Qkg p0 s36 a86 a88 x107) (0,([]:(List (List Int))))).bind fun x118 =>
  some (.next (zw (s36.1+1),(List.set s36.2 (Int.toNat a86) (Sum.inr (Ad.mk a88 x107 x118)))))
 else
 some (.done s36.2)
def Kx (p0:Qf):Option Qc :=
 if 0<=(if 5 < (if 1 > (p0.Nodes.length:Int) then 1 else (p0.Nodes.length:Int)) then 5 else (if 1 > (p0.Nodes.length:Int) then 1 else (p0.Nodes.length:Int)))/\(if 5 < (if 1 > (p0.Nodes.length:Int) then 1 else (p0.Nodes.length:Int)) then 5 else (if 1 > (p0.Nodes.length:Int) then 1 else (p0.Nodes.length:Int)))<=(if 5 < (if 1 > (p0.Nodes.length:Int) then 1 else (p0.Nodes.length:Int)) then 5 else (if 1 > (p0.Nodes.length:Int) then 1 else (p0.Nodes.length:Int)))/\(if 5 < (if 1 > (p0.Nodes.length:Int) then 1 else (p0.Nodes.length:Int)) then 5 else (if 1 > (p0.Nodes.length:Int) then 1 else (p0.Nodes.length:Int)))*56<=140737488355328 then
  if 0<=(if 5 < (if 1 > (p0.Nodes.length:Int) then 1 else (p0.Nodes.length:Int)) then 5 else (if 1 > (p0.Nodes.length:Int) then 1 else (p0.Nodes.length:Int)))/\(if 5 < (if 1 > (p0.Nodes.length:Int) then 1 else (p0.Nodes.length:Int)) then 5 else (if 1 > (p0.Nodes.length:Int) then 1 else (p0.Nodes.length:Int)))<=(if 5 < (if 1 > (p0.Nodes.length:Int) then 1 else (p0.Nodes.length:Int)) then 5 else (if 1 > (p0.Nodes.length:Int) then 1 else (p0.Nodes.length:Int)))/\(if 5 < (if 1 > (p0.Nodes.length:Int) then 1 else (p0.Nodes.length:Int)) then 5 else (if 1 > (p0.Nodes.length:Int) then 1 else (p0.Nodes.length:Int)))*1<=140737488355328 then
   (Y1 (Af.mk (List.replicate (Int.toNat (if 5 < (if 1 > (p0.Nodes.length:Int) then 1 else (p0.Nodes.length:Int)) then 5 else (if 1 > (p0.Nodes.length:Int) then 1 else (p0.Nodes.length:Int)))) (0:Int)) 0 p0.Order)).bind fun x1 =>
   (Qb fuel (Y5 p0 x1) (1,0,(List.replicate (Int.toNat (if 5 < (if 1 > (p0.Nodes.length:Int) then 1 else (p0.Nodes.length:Int)) then 5 else (if 1 > (p0.Nodes.length:Int) then 1 else (p0.Nodes.length:Int)))) ((Sum.inl 0):(Int ⊕ Ad))))).bind fun x35 =>
   (Qb fuel (Y4 p0 x1) (0,x35)).bind fun x122 =>
   (alr x122).bind fun m123 =>
   some (Qc.mk (zw (1+(zw (Int.tmod p0.Grain 60)))) m123)
  else none
 else none
def V9 (p0:Qc) (s1:(Int × (List Int))) (s4:(Int × Int)):Option (Qg (Int × Int) Int) :=
 (lkI p0.Nodes s1.1).bind fun a5 =>
 if (decide (s4.2 < (a5.Parents.length:Int)))=true then
  (lkI a5.Parents s4.2).bind fun a9 =>
  if 0<=(zv (a9)) then
   some (.next (zv (zb s4.1 ||| zb (zv (1*2^min (Int.toNat (zv (a9))) zk))).toNat,zw (s4.2+1)))
  else none
 else
 some (.done s4.1)
def V6 (p0:Qc) (s1:(Int × (List Int))):Option (Qg (Int × (List Int)) (List Int)) :=
 if (decide (s1.1 < (p0.Nodes.length:Int)))=true then
  (Qb fuel (V9 p0 s1) (0,0)).bind fun x12 =>
  if (s1.2++([x12]:(List Int))).length*8<=140737488355328 then
   some (.next (zw (s1.1+1),(s1.2++([x12]:(List Int)))))
  else none
 else
 some (.done s1.2)
def Kc (p0:Qc):Option (List Int) :=
 (Qb fuel (V6 p0) (0,([]:(List Int)))).bind fun x14 =>
 some x14
def Ji (p0:(List Int)) (p1:Int) (s1:Int):Option (Qg Int (Unit ⊕ Unit)) :=
 if (decide (s1 < (p0.length:Int)))=true then
  (lkI p0 s1).bind fun a4 =>
  if (decide (a4 < 0))=true then
   some (.done (Sum.inl ()))
  else
  if (decide (a4>=p1))=true then
   some (.done (Sum.inl ()))
  else
  if (decide (s1 > 0))=true then
   (lkI p0 (zw (s1 - 1))).bind fun a12 =>
   if (decide (a4<=a12))=true then
    some (.done (Sum.inl ()))
   else
   some (.next (zw (s1+1)))
  else
  some (.next (zw (s1+1)))
 else
 some (.done (Sum.inr ()))
def Qbu (p0:(List Int)) (p1:Int):Option Bool :=
 (Qb fuel (Ji p0 p1) 0).bind fun x16=>match x16 with
 | .inl x17=>(
  some false)
 | .inr x18=>(
  some true)
def X9 (p0:Int) (p1:Int):Option Bool :=
 if 0<=(zv (p1)) then
  some ((zv (zb (Int.fdiv p0 (2^min (Int.toNat (zv (p1))) zk)) &&& zb 1).toNat)==1)
 else none
def Qan (p0:(List Int)) (s4:(Int × Int)):Option (Qg (Int × Int) Int) :=
 if (decide (s4.2 < (p0.length:Int)))=true then
  (X9 s4.1 s4.2).bind fun x7 =>
  if x7=true then
   (lkI p0 s4.2).bind fun a11 =>
   some (.next (zv (zb s4.1 ||| zb a11).toNat,zw (s4.2+1)))
  else
  some (.next (s4.1,zw (s4.2+1)))
 else
 some (.done s4.1)
def Qcm (p0:(List Int)) (s1:(Int × Int)):Option (Qg (Int × Int) Int) :=
 if (decide (s1.2 < (p0.length:Int)))=true then
  (Qb fuel (Qan p0) (s1.1,0)).bind fun x14 =>
  some (.next (x14,zw (s1.2+1)))
 else
 some (.done s1.1)
def Qd1 (p0:(List Int)) (p1:Int):Option Int :=
 (Qb fuel (Qcm p0) (p1,0)).bind fun x16 =>
 some x16
def Vx (p0:(List Int)) (s1:Int):Option (Qg Int (Unit ⊕ Unit)) :=
 if (decide (s1 < (p0.length:Int)))=true then
  (lkI p0 s1).bind fun a4 =>
  (Qd1 p0 a4).bind fun x6 =>
  (X9 x6 s1).bind fun x8 =>
  if x8=true then
   some (.done (Sum.inl ()))
  else
  some (.next (zw (s1+1)))
 else
 some (.done (Sum.inr ()))
def Qa8 (p0:(List Int)):Option Bool :=
 (Qb fuel (Vx p0) 0).bind fun x12=>match x12 with
 | .inl x13=>(
  some false)
 | .inr x14=>(
  some true)
def Yq (p0:Qc) (s9:(Int × Int)):Option (Qg (Int × Int) (Unit ⊕ Int)) :=
 if (decide (s9.2 < (p0.Nodes.length:Int)))=true then
  (lkI p0.Nodes s9.2).bind fun a12 =>
  if (decide (a12.Card < 1))=true then
   some (.done (Sum.inl ()))
  else
  if (decide (a12.Card > 4))=true then
   some (.done (Sum.inl ()))
  else
  (Qbu a12.Parents (p0.Nodes.length:Int)).bind fun x18 =>
  if (!x18)=true then
   some (.done (Sum.inl ()))
  else
  some (.next (zw (s9.1*a12.Card),zw (s9.2+1)))
 else
 some (.done (Sum.inr s9.1))
def Ys (a47:(List Int)) (p0:Qc) (s51:(Int × Int)):Option (Qg (Int × Int) (Unit ⊕ Int)) :=
 if (decide (s51.2 < (a47.length:Int)))=true then
  (lkI a47 s51.2).bind fun a54 =>
  if (decide (a54 < 0))=true then
   some (.done (Sum.inl ()))
  else
  if (decide (a54 > p0.Grain))=true then
   some (.done (Sum.inl ()))
  else
  some (.next (zw (s51.1+a54),zw (s51.2+1)))
 else
 some (.done (Sum.inr s51.1))
def Yu (a36:Ad) (p0:Qc) (s44:Int):Option (Qg Int (Unit ⊕ Unit)) :=
 if (decide (s44 < (a36.Rows.length:Int)))=true then
  (lkI a36.Rows s44).bind fun a47 =>
  if ((a47.length:Int) != a36.Card)=true then
   some (.done (Sum.inl ()))
  else
  (Qb fuel (Ys a47 p0) (0,0)).bind fun x60=>match x60 with
  | .inl x61=>(
   some (.done (Sum.inl ())))
  | .inr x62=>(
   if (x62 != p0.Grain)=true then
    some (.done (Sum.inl ()))
   else
   some (.next (zw (s44+1))))
 else
 some (.done (Sum.inr ()))
def Yp (p0:Qc) (s33:Int):Option (Qg Int (Unit ⊕ Unit)) :=
 if (decide (s33 < (p0.Nodes.length:Int)))=true then
  (lkI p0.Nodes s33).bind fun a36 =>
  (Zg p0 s33).bind fun x38 =>
  (K4 x38).bind fun x40 =>
  if ((a36.Rows.length:Int) != x40)=true then
   some (.done (Sum.inl ()))
  else
  (Qb fuel (Yu a36 p0) 0).bind fun x65=>match x65 with
  | .inl x66=>(
   some (.done (Sum.inl ())))
  | .inr x67=>(
   some (.next (zw (s33+1))))
 else
 some (.done (Sum.inr ()))
def Jc (p0:Qc):Option Bool :=
 if (decide (p0.Grain < 1))=true then
  some false
 else
 if (decide (p0.Grain > 60))=true then
  some false
 else
 if (decide ((p0.Nodes.length:Int) < 1))=true then
  some false
 else
 if (decide ((p0.Nodes.length:Int) > 8))=true then
  some false
 else
 (Qb fuel (Yq p0) (1,0)).bind fun x22=>match x22 with
 | .inl x23=>(
  some false)
 | .inr x24=>(
  if (decide (x24 > 1024))=true then
   some false
  else
  (Kc p0).bind fun x27 =>
  (Qa8 x27).bind fun x29 =>
  if (!x29)=true then
   some false
  else
  (Qb fuel (Yp p0) 0).bind fun x68=>match x68 with
  | .inl x69=>(
   some false)
  | .inr x70=>(
   some true))
def Qae (p0:Int) (p1:(Int × Int × Int × Int × Int × Int × Int × Int)) (s1:(Int × Int × Int × Int × Int)):Option (Qg (Int × Int × Int × Int × Int) (Int × Int × Int × Int)) :=
 if (decide (s1.1 < p0))=true then
  (lkI ([p1.1,p1.2.1,p1.2.2.1,p1.2.2.2.1,p1.2.2.2.2.1,p1.2.2.2.2.2.1,p1.2.2.2.2.2.2.1,p1.2.2.2.2.2.2.2]:(List Int)) s1.1).bind fun a4 =>
  if (decide ((Int.tmod a4 5) < 4))=true then
   (lkI ([s1.2.1,s1.2.2.1,s1.2.2.2.1,s1.2.2.2.2]:(List Int)) (Int.tmod a4 5)).bind fun a8 =>
   if 0<=(zv (s1.1)) then
    some (.next (zw (s1.1+1),(if Int.tmod a4 5=0 then zv (zb a8 ||| zb (zv (1*2^min (Int.toNat (zv (s1.1))) zk))).toNat else s1.2.1),(if Int.tmod a4 5=1 then zv (zb a8 ||| zb (zv (1*2^min (Int.toNat (zv (s1.1))) zk))).toNat else s1.2.2.1),(if Int.tmod a4 5=2 then zv (zb a8 ||| zb (zv (1*2^min (Int.toNat (zv (s1.1))) zk))).toNat else s1.2.2.2.1),(if Int.tmod a4 5=3 then zv (zb a8 ||| zb (zv (1*2^min (Int.toNat (zv (s1.1))) zk))).toNat else s1.2.2.2.2)))
   else none
  else
  some (.next (zw (s1.1+1),s1.2.1,s1.2.2.1,s1.2.2.2.1,s1.2.2.2.2))
 else
 some (.done (s1.2.1,s1.2.2.1,s1.2.2.2.1,s1.2.2.2.2))
def Qcr (p0:Int) (p1:(Int × Int × Int × Int × Int × Int × Int × Int)):Option (Int × Int × Int × Int) :=
 (Qb fuel (Qae p0 p1) (0,0,0,0,0)).bind fun x11 =>
 some (x11.1,x11.2.1,x11.2.2.1,x11.2.2.2)
def Ki (p0:(List Int)) (p1:Int) (p2:Int) (s1:(Int × (List Int))):Option (Qg (Int × (List Int)) (List Int)) :=
 if (decide (s1.1 < (p0.length:Int)))=true then
  (lkI p0 s1.1).bind fun a4 =>
  (X9 p1 s1.1).bind fun x6 =>
  if x6=true then
   if (s1.2++([0]:(List Int))).length*8<=140737488355328 then
    some (.next (zw (s1.1+1),(s1.2++([0]:(List Int)))))
   else none
  else
  if (s1.2++([zv (zb a4 &&& ~~~ zb p2).toNat]:(List Int))).length*8<=140737488355328 then
   some (.next (zw (s1.1+1),(s1.2++([zv (zb a4 &&& ~~~ zb p2).toNat]:(List Int)))))
  else none
 else
 some (.done s1.2)
def Kl (p0:(List Int)) (p1:Int) (p2:Int):Option (List Int) :=
 (Qb fuel (Ki p0 p1 p2) (0,([]:(List Int)))).bind fun x11 =>
 some x11
def J0 (p0:(List Int)) (s13:Int):Option (Qg Int Unit) :=
 if (decide (s13 < (p0.length:Int)))=true then
  some (.next (zw (s13+1)))
 else
 some (.done ())
def Jt (p0:(List Int)) (s1:(Int × (List Int))) (s4:(Int × (List Int))) (s27:(Bool × Int)):Option (Qg (Bool × Int) Bool) :=
 if (decide (s27.2 < (p0.length:Int)))=true then
  if s27.1=true then
   some (.next (true,zw (s27.2+1)))
  else
  (lkI p0 s27.2).bind fun a32 =>
  (X9 a32 s1.1).bind fun x34 =>
  if x34=true then
   (X9 a32 s4.1).bind fun x38 =>
   some (.next (x38,zw (s27.2+1)))
  else
  some (.next (false,zw (s27.2+1)))
 else
 some (.done s27.1)
def Jz (p0:(List Int)) (s1:(Int × (List Int))) (s4:(Int × (List Int))):Option (Qg (Int × (List Int)) (List Int)) :=
 if (decide (s4.1 < (p0.length:Int)))=true then
  (lkI p0 s1.1).bind fun a7 =>
  (X9 a7 s4.1).bind fun x9 =>
  if x9=true then
   (Qb fuel (J0 p0) 0).bind fun x17 =>
   if (s1.1 != s4.1)=true then
    (lkI s4.2 s1.1).bind fun a20 =>
    if 0<=(zv (s4.1)) then
     some (.next (zw (s4.1+1),(List.set s4.2 (Int.toNat s1.1) (zv (zb a20 ||| zb (zv (1*2^min (Int.toNat (zv (s4.1))) zk))).toNat))))
    else none
   else
   some (.next (zw (s4.1+1),s4.2))
  else
  (lkI p0 s4.1).bind fun a23 =>
  (X9 a23 s1.1).bind fun x25 =>
  (Qb fuel (Jt p0 s1 s4) (x25,0)).bind fun x41 =>
  if (s1.1 != s4.1)=true then
   if x41=true then
    (lkI s4.2 s1.1).bind fun a46 =>
    if 0<=(zv (s4.1)) then
     some (.next (zw (s4.1+1),(List.set s4.2 (Int.toNat s1.1) (zv (zb a46 ||| zb (zv (1*2^min (Int.toNat (zv (s4.1))) zk))).toNat))))
    else none
   else
   some (.next (zw (s4.1+1),s4.2))
  else
  some (.next (zw (s4.1+1),s4.2))
 else
 some (.done s4.2)
def Qah (p0:(List Int)) (s1:(Int × (List Int))):Option (Qg (Int × (List Int)) (List Int)) :=
 if (decide (s1.1 < (p0.length:Int)))=true then
  (Qb fuel (Jz p0 s1) (0,s1.2)).bind fun x50 =>
  some (.next (zw (s1.1+1),x50))
 else
 some (.done s1.2)
def Qfr (p0:(List Int)):Option (List Int) :=
 if 0<=(p0.length:Int)/\(p0.length:Int)<=(p0.length:Int)/\(p0.length:Int)*8<=140737488355328 then
  (Qb fuel (Qah p0) (0,(List.replicate (Int.toNat (p0.length:Int)) (0:Int)))).bind fun x52 =>
  some x52
 else none
def Jy (p0:(List Int)) (x1:Int) (s3:(Int × (List Int))):Option (Qg (Int × (List Int)) (List Int)) :=
 if (decide (s3.1 < (p0.length:Int)))=true then
  (lkI p0 s3.1).bind fun a6 =>
  (X9 x1 s3.1).bind fun x8 =>
  if (!x8)=true then
   if (s3.2++([0]:(List Int))).length*8<=140737488355328 then
    some (.next (zw (s3.1+1),(s3.2++([0]:(List Int)))))
   else none
  else
  if (s3.2++([a6]:(List Int))).length*8<=140737488355328 then
   some (.next (zw (s3.1+1),(s3.2++([a6]:(List Int)))))
  else none
 else
 some (.done s3.2)
def Jr (x14:(List Int)) (p3:Int) (x1:Int) (s19:(Int × Int)):Option (Qg (Int × Int) Int) :=
 if (decide (s19.2 < (x14.length:Int)))=true then
  (X9 s19.1 s19.2).bind fun x22 =>
  if x22=true then
   (X9 p3 s19.2).bind fun x26 =>
   if (!x26)=true then
    (lkI x14 s19.2).bind fun a30 =>
    some (.next (zv (zb s19.1 ||| zb (zv (zb a30 &&& zb x1).toNat)).toNat,zw (s19.2+1)))
   else
   some (.next (s19.1,zw (s19.2+1)))
  else
  some (.next (s19.1,zw (s19.2+1)))
 else
 some (.done s19.1)
def Jw (x14:(List Int)) (p3:Int) (x1:Int) (s16:(Int × Int)):Option (Qg (Int × Int) Int) :=
 if (decide (s16.2 < (x14.length:Int)))=true then
  (Qb fuel (Jr x14 p3 x1) (s16.1,0)).bind fun x33 =>
  some (.next (x33,zw (s16.2+1)))
 else
 some (.done s16.1)
def Jf (p0:(List Int)) (p1:Int) (p2:Int) (p3:Int):Option Bool :=
 (Qd1 p0 (zv (zb (zv (zb p1 ||| zb p2).toNat) ||| zb p3).toNat)).bind fun x1 =>
 (Qb fuel (Jy p0 x1) (0,([]:(List Int)))).bind fun x13 =>
 (Qfr x13).bind fun x14 =>
 (Qb fuel (Jw x14 p3 x1) (p1,0)).bind fun x35 =>
 some ((zv (zb (zv (zb x35 &&& ~~~ zb p3).toNat) &&& zb p2).toNat)==0)
def Qdz (p0:(List Int)) (p1:Int) (p2:Int) (p3:Int) (p4:Int) (p5:Int):Option Bool :=
 (Kl p0 p4 0).bind fun x1 =>
 if (p1==2)=true then
  (Kl p0 p4 p3).bind fun x5 =>
  (Jf x5 p2 p3 (zv (zb p4 ||| zb p5).toNat)).bind fun x7 =>
  some x7
 else
 if (p1==3)=true then
  (Qd1 x1 p5).bind fun x11 =>
  (Kl p0 (zv (zb p4 ||| zb (zv (zb p3 &&& ~~~ zb x11).toNat)).toNat) 0).bind fun x13 =>
  (Jf x13 p2 p3 (zv (zb p4 ||| zb p5).toNat)).bind fun x15 =>
  some x15
 else
 (Jf x1 p2 p3 (zv (zb p4 ||| zb p5).toNat)).bind fun x17 =>
 some x17
def V1 (p0:Qc) (p1:Int) (p2:Int) (p3:Int) (p4:Int) (p5:Int):Option (Bool × Int) :=
 (Jc p0).bind fun x1 =>
 if (!x1)=true then
  some (false,50)
 else
 if 0<=(zv ((p0.Nodes.length:Int))) then
  if ((Int.fdiv (zv (zb (zv (zb (zv (zb p2 ||| zb p3).toNat) ||| zb p4).toNat) ||| zb p5).toNat) (2^min (Int.toNat (zv ((p0.Nodes.length:Int)))) zk)) != 0)=true then
   some (false,2)
  else
  if (decide (p1 < 1))=true then
   some (false,2)
  else
  if (decide (p1 > 3))=true then
   some (false,2)
  else
  if ((zv (zb p2 &&& zb p3).toNat) != 0)=true then
   some (false,2)
  else
  if ((zv (zb p2 &&& zb p4).toNat) != 0)=true then
   some (false,2)
  else
  if ((zv (zb p2 &&& zb p5).toNat) != 0)=true then
   some (false,2)
  else
  if ((zv (zb p3 &&& zb p4).toNat) != 0)=true then
   some (false,2)
  else
  if ((zv (zb p3 &&& zb p5).toNat) != 0)=true then
   some (false,2)
  else
  if ((zv (zb p4 &&& zb p5).toNat) != 0)=true then
   some (false,2)
  else
  (Kc p0).bind fun x23 =>
  (Qdz x23 p1 p2 p3 p4 p5).bind fun x25 =>
  some (x25,0)
 else none
def Xt (p0:Ae):Option Int :=
 if (decide (p0.D < 1))=true then
  some 5
 else
 if (decide (p0.D > 4611686018427387903))=true then
  some 5
 else
 if (decide (p0.N < (-4611686018427387903)))=true then
  some 5
 else
 if (decide (p0.N > 4611686018427387903))=true then
  some 5
 else
 (Xe p0.N).bind fun x9 =>
 (Jd x9 (zv (p0.D))).bind fun x11 =>
 if (x11 != 1)=true then
  some 5
 else
 some 0
def Ks (p0:Int) (p1:Int):Option (Int × Int) :=
 some (zv ((zv ((zv ((Int.fdiv p0 (2^min (Int.toNat 32) zk))*(Int.fdiv p1 (2^min (Int.toNat 32) zk))))+(Int.fdiv (zv ((zv ((Int.fdiv p0 (2^min (Int.toNat 32) zk))*(zv (zb p1 &&& zb 4294967295).toNat)))+(Int.fdiv (zv ((zv (zb p0 &&& zb 4294967295).toNat)*(zv (zb p1 &&& zb 4294967295).toNat))) (2^min (Int.toNat 32) zk)))) (2^min (Int.toNat 32) zk))))+(Int.fdiv (zv ((zv (zb (zv ((zv ((Int.fdiv p0 (2^min (Int.toNat 32) zk))*(zv (zb p1 &&& zb 4294967295).toNat)))+(Int.fdiv (zv ((zv (zb p0 &&& zb 4294967295).toNat)*(zv (zb p1 &&& zb 4294967295).toNat))) (2^min (Int.toNat 32) zk)))) &&& zb 4294967295).toNat)+(zv ((zv (zb p0 &&& zb 4294967295).toNat)*(Int.fdiv p1 (2^min (Int.toNat 32) zk)))))) (2^min (Int.toNat 32) zk))),zv (p0*p1))
def Qbq (p0:Int) (p1:Int):Option (Int × Int) :=
 (Ks p0 p1).bind fun x1 =>
 some (x1.1,x1.2)
def Qai (p0:(List Int)) (s3:(Int × Int)):Option (Qg (Int × Int) (Int × Bool)) :=
 if (decide (s3.2 < (p0.length:Int)))=true then
  (lkI p0 s3.2).bind fun a6 =>
  if (decide (a6 < 1))=true then
   some (.done (0,false))
  else
  if (decide (a6 > 8))=true then
   some (.done (0,false))
  else
  if (decide ((zw (s3.1*a6)) > 4096))=true then
   some (.done (0,false))
  else
  some (.next (zw (s3.1*a6),zw (s3.2+1)))
 else
 some (.done (s3.1,true))
def Qaq (p0:(List Int)):Option (Int × Bool) :=
 if (decide ((p0.length:Int) > 12))=true then
  some (0,false)
 else
 (Qb fuel (Qai p0) (1,0)).bind fun x15 =>
 some (x15.1,x15.2)
def Qgy (p0:(List Int)):Option (Int × Int) :=
 (Qaq p0).bind fun x1 =>
 if (!x1.2)=true then
  some (0,20)
 else
 some (x1.1,0)
def Qdn (p0:Qc):Option (Int × Int) :=
 (Xn p0).bind fun x1 =>
 if (x1.2 != 0)=true then
  some (0,x1.2)
 else
 (Qgy x1.1.cards).bind fun x5 =>
 some (x5.1,x5.2)
def Kw (p0:(List Int)) (s9:(Int × Int × Int × (List Int))):Option (Qg (Int × Int × Int × (List Int)) (List Int)) :=
 if (decide (s9.2.2.1 < (p0.length:Int)))=true then
  (lkI p0 s9.2.2.1).bind fun a12 =>
  if a12≠0 then
   if (zw (Int.tdiv s9.2.1 a12))≠0 then
    (lkI s9.2.2.2 s9.2.2.1).bind fun a14 =>
    if (zw (Int.tdiv s9.2.1 a12))≠0 then
     some (.next (Int.tmod s9.1 (zw (Int.tdiv s9.2.1 a12)),zw (Int.tdiv s9.2.1 a12),zw (s9.2.2.1+1),(List.set s9.2.2.2 (Int.toNat s9.2.2.1) (zw (Int.tdiv s9.1 (zw (Int.tdiv s9.2.1 a12)))))))
    else none
   else none
  else none
 else
 some (.done s9.2.2.2)
def Qem (p0:(List Int)) (p1:Int):Option ((List Int) × Int) :=
 (Qaq p0).bind fun x1 =>
 if (!x1.2)=true then
  some (([]:(List Int)),20)
 else
 if (decide (p1 < 0))=true then
  some (([]:(List Int)),2)
 else
 if (decide (p1>=x1.1))=true then
  some (([]:(List Int)),2)
 else
 if 0<=(p0.length:Int)/\(p0.length:Int)<=(p0.length:Int)/\(p0.length:Int)*8<=140737488355328 then
  (Qb fuel (Kw p0) (p1,x1.1,0,(List.replicate (Int.toNat (p0.length:Int)) (0:Int)))).bind fun x18 =>
  some (x18,0)
 else none
def Qd4 (p0:Qc) (p1:Int):Option ((List Int) × Int) :=
 (Xn p0).bind fun x1 =>
 if (x1.2 != 0)=true then
  some (([]:(List Int)),x1.2)
 else
 (Qem x1.1.cards p1).bind fun x5 =>
 some (x5.1,x5.2)
def Kt (p0:(List Int)) (p1:Int) (s1:(Int × (List Int))):Option (Qg (Int × (List Int)) (List Int)) :=
 if (decide (s1.1 < (((List.replicate (Int.toNat (p0.length:Int)) (0:Int)).length):Int)))=true then
  (lkI s1.2 s1.1).bind fun a4 =>
  if 0<=s1.1 then
   if ((zv (zb (Int.fdiv p1 (2^min (Int.toNat s1.1) zk)) &&& zb 1).toNat)==1)=true then
    (lkI p0 s1.1).bind fun a8 =>
    some (.next (zw (s1.1+1),(List.set (List.set s1.2 (Int.toNat s1.1) (-1)) (Int.toNat s1.1) a8)))
   else
   some (.next (zw (s1.1+1),(List.set s1.2 (Int.toNat s1.1) (-1))))
  else none
 else
 some (.done s1.2)
def Vm (p0:(List Int)) (p1:Int):Option (List Int) :=
 if 0<=(p0.length:Int)/\(p0.length:Int)<=(p0.length:Int)/\(p0.length:Int)*8<=140737488355328 then
  (Qb fuel (Kt p0 p1) (0,(List.replicate (Int.toNat (p0.length:Int)) (0:Int)))).bind fun x13 =>
  some x13
 else none
def K3 (p0:Ae) (p1:Ae):Option Ae :=
 (Xe p0.N).bind fun x1 =>
 (Jd x1 (zv (p1.D))).bind fun x3 =>
 (Xe p1.N).bind fun x5 =>
 (Jd x5 (zv (p0.D))).bind fun x7 =>
 (Xe p0.N).bind fun x9 =>
 if x3≠0 then
  (Xe p1.N).bind fun x11 =>
  if x7≠0 then
   (Qbq (zv (Int.tdiv x9 x3)) (zv (Int.tdiv x11 x7))).bind fun x13 =>
   if x7≠0 then
    if x3≠0 then
     (Qbq (zv (Int.tdiv (zv (p0.D)) x7)) (zv (Int.tdiv (zv (p1.D)) x3))).bind fun x15 =>
     (Qbv (!((decide (p0.N < 0))==(decide (p1.N < 0)))) (x13.1,x13.2) (x15.1,x15.2)).bind fun x17 =>
     some x17
    else none
   else none
  else none
 else none
def Qgx (p0:Ae) (p1:Ae):Option Ae :=
 if (decide (p1.N < 0))=true then
  (K3 p0 (Ae.mk (zw (0 - p1.D)) (zw (0 - p1.N)))).bind fun x3 =>
  some x3
 else
 (K3 p0 (Ae.mk p1.D p1.N)).bind fun x5 =>
 some x5
def Yi (c0:Int) (c1:Int) (c2:Int) (c3:Int):Option Ae :=
 (Qgx (Ae.mk c0 c1) (Ae.mk c2 c3)).bind fun x1 =>
 some x1
def Qf1 (p0:Ae) (p1:Ae):Option (Ae × Int) :=
 (Xt p0).bind fun x1 =>
 if (x1==0)=true then
  (Xt p1).bind fun x5 =>
  if (x5==0)=true then
   if (p1.N==0)=true then
    some ((Ae.mk 0 0),2)
   else
   (Xt p0).bind fun x11 =>
   if (x11 != 0)=true then
    some ((Ae.mk 0 0),5)
   else
   (Xt p1).bind fun x15 =>
   if (x15 != 0)=true then
    some ((Ae.mk 0 0),5)
   else
   (Yi p0.N p0.D p1.N p1.D).bind fun x19 =>
   some (x19,0)
  else
  (Xt p0).bind fun x21 =>
  if (x21 != 0)=true then
   some ((Ae.mk 0 0),5)
  else
  (Xt p1).bind fun x25 =>
  if (x25 != 0)=true then
   some ((Ae.mk 0 0),5)
  else
  (Yi p0.N p0.D p1.N p1.D).bind fun x29 =>
  some (x29,0)
 else
 (Xt p0).bind fun x31 =>
 if (x31 != 0)=true then
  some ((Ae.mk 0 0),5)
 else
 (Xt p1).bind fun x35 =>
 if (x35 != 0)=true then
  some ((Ae.mk 0 0),5)
 else
 (Yi p0.N p0.D p1.N p1.D).bind fun x39 =>
 some (x39,0)
def Qas (p0:Qc) (p1:(List Int)) (p2:Int) (p3:Int) (p4:Int):Option (Ae × Bool) :=
 (Vm p1 p2).bind fun x1 =>
 (Vm p1 (zv (zb p3 ||| zb p4).toNat)).bind fun x3 =>
 (Jv p0 x1 x3).bind fun x5 =>
 (Vm p1 p2).bind fun x7 =>
 (Vm p1 p4).bind fun x9 =>
 (Jv p0 x7 x9).bind fun x11 =>
 if (x5.2 != 0)=true then
  some ((Ae.mk 0 0),false)
 else
 if (x11.2 != 0)=true then
  some ((Ae.mk 0 0),false)
 else
 if (decide (x11.1.N<=0))=true then
  some ((Ae.mk 0 0),false)
 else
 (Qf1 x5.1 x11.1).bind fun x19 =>
 some (x19.1,(x19.2==0))
def Xd (x7:(Int × Int × Int × Int)) (x5:Qc) (x15:((List Int) × Int)) (s21:Int):Option (Qg Int (Unit ⊕ Unit)) :=
 if (decide (s21 < 3))=true then
  (lkI ([((x7.2.2.1,zv (zb x7.2.1 ||| zb x7.2.2.2).toNat),(x7.2.2.1,x7.2.2.2)),((zv (zb x7.2.2.1 ||| zb x7.2.1).toNat,x7.2.2.2),(x7.2.2.1,zv (zb x7.2.1 ||| zb x7.2.2.2).toNat)),((zv (zb x7.2.2.1 ||| zb x7.2.1).toNat,x7.2.2.2),(x7.2.2.1,x7.2.2.2))]:(List ((Int × Int) × (Int × Int)))) s21).bind fun a24 =>
  (Vn x5 (zw (s21+1)) x7.1 x7.2.1 x7.2.2.1 x7.2.2.2).bind fun x26 =>
  if (x26.2 != 0)=true then
   some (.done (Sum.inl ()))
  else
  (Qas x5 x15.1 a24.1.1 x7.1 a24.1.2).bind fun x30 =>
  (Qas x5 x15.1 a24.2.1 x7.1 a24.2.2).bind fun x32 =>
  if x26.1=true then
   if x30.2=true then
    if x32.2=true then
     if (!((x30.1.N==x32.1.N) && ((x30.1.D==x32.1.D) && true)))=true then
      some (.done (Sum.inl ()))
     else
     some (.next (zw (s21+1)))
    else
    some (.next (zw (s21+1)))
   else
   some (.next (zw (s21+1)))
  else
  some (.next (zw (s21+1)))
 else
 some (.done (Sum.inr ()))
def Qa4 (p0:Qf) (p1:(Int × Int × Int × Int × Int × Int × Int × Int)) (p2:Int):Option Bool :=
 (Qfq).bind fun x1 =>
 if (!x1)=true then
  some false
 else
 (Kx p0).bind fun x5 =>
 (Qcr (x5.Nodes.length:Int) (p1.1,p1.2.1,p1.2.2.1,p1.2.2.2.1,p1.2.2.2.2.1,p1.2.2.2.2.2.1,p1.2.2.2.2.2.2.1,p1.2.2.2.2.2.2.2)).bind fun x7 =>
 (Qdn x5).bind fun x9 =>
 if (x9.2 != 0)=true then
  some false
 else
 if (decide (x9.1 < 1))=true then
  some false
 else
 if x9.1≠0 then
  (Qd4 x5 (Int.tmod (zw (p2)) x9.1)).bind fun x15 =>
  if (x15.2 != 0)=true then
   some false
  else
  if ((x15.1.length:Int) != (x5.Nodes.length:Int))=true then
   some false
  else
  (Qb fuel (Xd x7 x5 x15) 0).bind fun x42=>match x42 with
  | .inl x43=>(
   some false)
  | .inr x44=>(
   some true)
 else none
end Go.Ab
