/- Functions. No conditions. -/
import Derived.Test.YtgogkahhifkocaaDoorEng8
set_option linter.all false
namespace Go.Ab
open Go
structure Qe where
 Card:Int
 Parents:(List Int)
 Rows:(List (List Int))
 deriving DecidableEq,Inhabited
@[reducible] def Ae (x:Qe):AV:=.agg [vI x.Card,eL true eI x.Parents,eL false (eL true eI) x.Rows]
structure Qb where
 Grain:Int
 Nodes:(List Qe)
 deriving DecidableEq,Inhabited
structure Qu where
 Net:Qb
 cards:(List Int)
 sets:(List Int)
 order:(List Int)
 deriving DecidableEq,Inhabited
structure Qi where
 N:Int
 D:Int
 deriving DecidableEq,Inhabited
@[reducible] def Af (x:Qi):AV:=.agg [vI x.N,vI x.D]
structure Ac where
 parents:(List Int)
 deriving DecidableEq,Inhabited
structure Aa where
 sets:Ac
 deriving DecidableEq,Inhabited
structure Z3 where
 parents:(List Int)
 deriving DecidableEq,Inhabited
structure Qm where
 ancestry:Z3
 children:(List Int)
 deriving DecidableEq,Inhabited
structure Ad where
 node:Int
 down:Bool
 deriving DecidableEq,Inhabited
@[reducible] def Ag (x:Ad):AV:=.agg [vI x.node,vB x.down]
@[reducible] def Ah (a b:Ad):Bool:=(a.node==b.node) && ((a.down==b.down) && true)
def Qbq (p1:Qe) (p0:Qu) (s1:(Int × Int)):Option (Qo (Int × Int) Int) :=
 if (decide (s1.2 < (p1.Parents.length:Int)))=true then
  (lkI p1.Parents s1.2).bind fun a4 =>
  (lkI p0.cards a4).bind fun a6 =>
  some (.next (zw (s1.1*a6),zw (s1.2+1)))
 else
 some (.done s1.1)
def Qbn (a15:(List Int)) (s17:(Int × Int)):Option (Qo (Int × Int) (Unit ⊕ Int)) :=
 if (decide (s17.2 < (a15.length:Int)))=true then
  (lkI a15 s17.2).bind fun a20 =>
  if (decide (a20 < 0))=true then
   some (.done (Sum.inl ()))
  else
  if (decide (a20 > s17.1))=true then
   some (.done (Sum.inl ()))
  else
  some (.next (zw (s17.1 - a20),zw (s17.2+1)))
 else
 some (.done (Sum.inr s17.1))
def Qbp (p1:Qe) (p0:Qu) (s12:Int):Option (Qo Int (Unit ⊕ Unit)) :=
 if (decide (s12 < (p1.Rows.length:Int)))=true then
  (lkI p1.Rows s12).bind fun a15 =>
  (Qf fuel (Qbn a15) (p0.Net.Grain,0)).bind fun x26=>match x26 with
  | .inl x27=>(
   some (.done (Sum.inl ())))
  | .inr x28=>(
   if ((a15.length:Int) != p1.Card)=true then
    some (.done (Sum.inl ()))
   else
   if (x28 != 0)=true then
    some (.done (Sum.inl ()))
   else
   some (.next (zw (s12+1))))
 else
 some (.done (Sum.inr ()))
def Ja (p0:Qu) (p1:Qe):Option Bool :=
 (Qf fuel (Qbq p1 p0) (1,0)).bind fun x9 =>
 if ((p1.Rows.length:Int) != x9)=true then
  some false
 else
 (Qf fuel (Qbp p1 p0) 0).bind fun x33=>match x33 with
 | .inl x34=>(
  some false)
 | .inr x35=>(
  some true)
def Qhl (p0:(List Int)) (s1:(Int × (List Int))) (s4:Int):Option (Qo Int ((Int × (List Int)) ⊕ Unit)) :=
 if (decide (s4 < (p0.length:Int)))=true then
  (lkI p0 s4).bind fun a7 =>
  if 0<=s4 then
   if ((zv (zb (Int.fdiv s1.1 (2^min (Int.toNat s4) zk)) &&& zb 1).toNat)==0)=true then
    if ((zv (zb a7 &&& ~~~ zb s1.1).toNat)==0)=true then
     if (s1.2++([s4]:(List Int))).length*8<=140737488355328 then
      if 0<=s4 then
       some (.done (Sum.inl (zv (zb s1.1 ||| zb (zv (1*2^min (Int.toNat s4) zk))).toNat,(s1.2++([s4]:(List Int))))))
      else none
     else none
    else
    some (.next (zw (s4+1)))
   else
   some (.next (zw (s4+1)))
  else none
 else
 some (.done (Sum.inr ()))
def Qho (p0:(List Int)) (s1:(Int × (List Int))):Option (Qo (Int × (List Int)) (Unit ⊕ (List Int))) :=
 if (decide ((s1.2.length:Int) < (p0.length:Int)))=true then
  (Qf fuel (Qhl p0 s1) 0).bind fun x13=>match x13 with
  | .inl x14=>(
   some (.next (x14.1,x14.2)))
  | .inr x15=>(
   some (.done (Sum.inl ())))
 else
 some (.done (Sum.inr s1.2))
def Qey (p0:(List Int)):Option ((List Int) × Bool) :=
 if 0<=(0:Int)/\(0:Int)<=(p0.length:Int)/\(p0.length:Int)*8<=140737488355328 then
  (Qf fuel (Qho p0) (0,(List.replicate (Int.toNat 0) (0:Int)))).bind fun x16=>match x16 with
  | .inl x17=>(
   some (([]:(List Int)),false))
  | .inr x18=>(
   some (x18,true))
 else none
def Qj6 (p0:Qb) (s9:(Int × Int × (List Int))):Option (Qo (Int × Int × (List Int)) (Unit ⊕ (Int × (List Int)))) :=
 if (decide (s9.2.1 < (p0.Nodes.length:Int)))=true then
  (lkI p0.Nodes s9.2.1).bind fun a12 =>
  if (decide (a12.Card < 1))=true then
   some (.done (Sum.inl ()))
  else
  if (decide (a12.Card > 4))=true then
   some (.done (Sum.inl ()))
  else
  (lkI s9.2.2 s9.2.1).bind fun a18 =>
  some (.next (zw (s9.1*a12.Card),zw (s9.2.1+1),(List.set s9.2.2 (Int.toNat s9.2.1) a12.Card)))
 else
 some (.done (Sum.inr (s9.1,s9.2.2)))
def Qj8 (a29:Qe) (p0:Qb) (s26:(Int × (List Int))) (s31:(Int × Int × (List Int))):Option (Qo (Int × Int × (List Int)) (Unit ⊕ (List Int))) :=
 if (decide (s31.2.1 < (a29.Parents.length:Int)))=true then
  (lkI a29.Parents s31.2.1).bind fun a34 =>
  if (decide (a34<=s31.1))=true then
   some (.done (Sum.inl ()))
  else
  if (decide (a34>=(p0.Nodes.length:Int)))=true then
   some (.done (Sum.inl ()))
  else
  if (a34==s26.1)=true then
   some (.done (Sum.inl ()))
  else
  (lkI s31.2.2 s26.1).bind fun a42 =>
  if 0<=a34 then
   some (.next (a34,zw (s31.2.1+1),(List.set s31.2.2 (Int.toNat s26.1) (zv (zb a42 ||| zb (zv (1*2^min (Int.toNat a34) zk))).toNat))))
  else none
 else
 some (.done (Sum.inr s31.2.2))
def Qke (p0:Qb) (x23:(Int × (List Int))) (s26:(Int × (List Int))):Option (Qo (Int × (List Int)) (Unit ⊕ (List Int))) :=
 if (decide (s26.1 < (p0.Nodes.length:Int)))=true then
  (lkI p0.Nodes s26.1).bind fun a29 =>
  (Qf fuel (Qj8 a29 p0 s26) (-1,0,s26.2)).bind fun x45=>match x45 with
  | .inl x46=>(
   some (.done (Sum.inl ())))
  | .inr x47=>(
   (Ja (Qu.mk p0 x23.2 x47 []) a29).bind fun x48 =>
   if (!x48)=true then
    some (.done (Sum.inl ()))
   else
   some (.next (zw (s26.1+1),x47)))
 else
 some (.done (Sum.inr s26.2))
def Qae (p0:Qb):Option (Qu × Int) :=
 if (decide (p0.Grain < 1))=true then
  some ((Qu.mk (Qb.mk 0 []) [] [] []),50)
 else
 if (decide (p0.Grain > 60))=true then
  some ((Qu.mk (Qb.mk 0 []) [] [] []),50)
 else
 if (decide ((p0.Nodes.length:Int) < 1))=true then
  some ((Qu.mk (Qb.mk 0 []) [] [] []),50)
 else
 if (decide ((p0.Nodes.length:Int) > 8))=true then
  some ((Qu.mk (Qb.mk 0 []) [] [] []),50)
 else
 if 0<=(p0.Nodes.length:Int)/\(p0.Nodes.length:Int)<=(p0.Nodes.length:Int)/\(p0.Nodes.length:Int)*8<=140737488355328 then
  if 0<=(p0.Nodes.length:Int)/\(p0.Nodes.length:Int)<=(p0.Nodes.length:Int)/\(p0.Nodes.length:Int)*8<=140737488355328 then
   (Qf fuel (Qj6 p0) (1,0,(List.replicate (Int.toNat (p0.Nodes.length:Int)) (0:Int)))).bind fun x21=>match x21 with
   | .inl x22=>(
    some ((Qu.mk (Qb.mk 0 []) [] [] []),50))
   | .inr x23=>(
    if (decide (x23.1 > 1024))=true then
     some ((Qu.mk (Qb.mk 0 []) [] [] []),50)
    else
    (Qf fuel (Qke p0 x23) (0,(List.replicate (Int.toNat (p0.Nodes.length:Int)) (0:Int)))).bind fun x52=>match x52 with
    | .inl x53=>(
     some ((Qu.mk (Qb.mk 0 []) [] [] []),50))
    | .inr x54=>(
     (Qey x54).bind fun x55 =>
     if (!x55.2)=true then
      some ((Qu.mk (Qb.mk 0 []) [] [] []),50)
     else
     some ((Qu.mk p0 x23.2 x54 x55.1),0)))
  else none
 else none
def Qgh (p0:Qb):Option Int :=
 (Qae p0).bind fun x1 =>
 some x1.2
def Qca (p1:(List Int)) (x1:(Qu × Int)) (s7:Int):Option (Qo Int (Unit ⊕ Unit)) :=
 if (decide (s7 < (p1.length:Int)))=true then
  (lkI p1 s7).bind fun a10 =>
  if (decide (a10 < (-1)))=true then
   some (.done (Sum.inl ()))
  else
  (lkI x1.1.cards s7).bind fun a14 =>
  if (decide (a10>=a14))=true then
   some (.done (Sum.inl ()))
  else
  some (.next (zw (s7+1)))
 else
 some (.done (Sum.inr ()))
def Jq (p0:Qb) (p1:(List Int)):Option Int :=
 (Qae p0).bind fun x1 =>
 if (x1.2 != 0)=true then
  some x1.2
 else
 if ((p1.length:Int) != (x1.1.Net.Nodes.length:Int))=true then
  some 2
 else
 (Qf fuel (Qca p1 x1) 0).bind fun x18=>match x18 with
 | .inl x19=>(
  some 2)
 | .inr x20=>(
  some 0)
def Qi7 (p1:(List (List Int))) (p0:Qb) (s5:Int):Option (Qo Int (Int ⊕ Unit)) :=
 if (decide (s5 < (p1.length:Int)))=true then
  (lkI p1 s5).bind fun a8 =>
  (Jq p0 a8).bind fun x10 =>
  if (x10 != 0)=true then
   some (.done (Sum.inl x10))
  else
  some (.next (zw (s5+1)))
 else
 some (.done (Sum.inr ()))
def Yq (p0:Qb) (p1:(List (List Int))):Option Int :=
 (Qgh p0).bind fun x1 =>
 if (x1 != 0)=true then
  some x1
 else
 (Qf fuel (Qi7 p1 p0) 0).bind fun x14=>match x14 with
 | .inl x15=>(
  some x15)
 | .inr x16=>(
  some 0)
def Ql9 (a8:Qe) (s21:(Int × (List (List Int)))):Option (Qo (Int × (List (List Int))) (List (List Int))) :=
 if (decide (s21.1 < (a8.Rows.length:Int)))=true then
  (lkI a8.Rows s21.1).bind fun a24 =>
  if a24.length*8<=140737488355328 then
   if (s21.2++([a24]:(List (List Int)))).length*24<=140737488355328 then
    some (.next (zw (s21.1+1),(s21.2++([a24]:(List (List Int))))))
   else none
  else none
 else
 some (.done s21.2)
def Qmd (p0:Qb) (p1:(List Int)) (s5:(Int × (List Qe))):Option (Qo (Int × (List Qe)) (List Qe)) :=
 if (decide (s5.1 < (p0.Nodes.length:Int)))=true then
  (lkI p0.Nodes s5.1).bind fun a8 =>
  (lkI p1 s5.1).bind fun a10 =>
  if (decide (a10>=0))=true then
   if 0<=a8.Card/\a8.Card<=a8.Card/\a8.Card*8<=140737488355328 then
    (lkI (List.replicate (Int.toNat a8.Card) (0:Int)) a10).bind fun a14 =>
    (lkI s5.2 s5.1).bind fun a16 =>
    some (.next (zw (s5.1+1),(List.set s5.2 (Int.toNat s5.1) (Qe.mk a8.Card [] [(List.set (List.replicate (Int.toNat a8.Card) (0:Int)) (Int.toNat a10) p0.Grain)]))))
   else none
  else
  if a8.Parents.length*8<=140737488355328 then
   (Qf fuel (Ql9 a8) (0,([]:(List (List Int))))).bind fun x27 =>
   (lkI s5.2 s5.1).bind fun a28 =>
   some (.next (zw (s5.1+1),(List.set s5.2 (Int.toNat s5.1) (Qe.mk a8.Card a8.Parents x27))))
  else none
 else
 some (.done s5.2)
def Vx (p0:Qb) (p1:(List Int)):Option (Qb × Int) :=
 (Yq p0 [p1]).bind fun x1 =>
 if (x1 != 0)=true then
  some ((Qb.mk 0 ([]:(List Qe))),x1)
 else
 if 0<=(p0.Nodes.length:Int)/\(p0.Nodes.length:Int)<=(p0.Nodes.length:Int)/\(p0.Nodes.length:Int)*56<=140737488355328 then
  (Qf fuel (Qmd p0 p1) (0,(List.replicate (Int.toNat (p0.Nodes.length:Int)) ((Qe.mk 0 [] []):Qe)))).bind fun x32 =>
  some ((Qb.mk p0.Grain x32),0)
 else none
def Qiu (a4:Qe) (p0:Qb) (p2:(List Int)) (s8:(Int × Int)):Option (Qo (Int × Int) Int) :=
 if (decide (s8.2 < (a4.Parents.length:Int)))=true then
  (lkI a4.Parents s8.2).bind fun a11 =>
  (lkI p0.Nodes a11).bind fun a13 =>
  (lkI p2 a11).bind fun a15 =>
  some (.next (zw ((zw (s8.1*a13.Card))+a15),zw (s8.2+1)))
 else
 some (.done s8.1)
def Qit (p0:Qb) (p1:Int) (p2:(List Int)) (s1:(Int × Int)):Option (Qo (Int × Int) Int) :=
 if (decide (s1.2 < (p0.Nodes.length:Int)))=true then
  (lkI p0.Nodes s1.2).bind fun a4 =>
  if 0<=s1.2 then
   if ((zv (zb (Int.fdiv p1 (2^min (Int.toNat s1.2) zk)) &&& zb 1).toNat)==1)=true then
    some (.next (s1.1,zw (s1.2+1)))
   else
   (Qf fuel (Qiu a4 p0 p2) (0,0)).bind fun x18 =>
   (lkI a4.Rows x18).bind fun a19 =>
   (lkI p2 s1.2).bind fun a21 =>
   (lkI a19 a21).bind fun a23 =>
   some (.next (zw (s1.1*a23),zw (s1.2+1)))
  else none
 else
 some (.done s1.1)
def Ka (p0:Qb) (p1:Int) (p2:(List Int)):Option Int :=
 (Qf fuel (Qit p0 p1 p2) (1,0)).bind fun x26 =>
 some x26
def Qio (p0:(List Int)) (s1:(Int × Int)):Option (Qo (Int × Int) Int) :=
 if (decide (s1.2 < (p0.length:Int)))=true then
  (lkI p0 s1.2).bind fun a4 =>
  if (decide (a4>=0))=true then
   if 0<=s1.2 then
    some (.next (zv (zb s1.1 ||| zb (zv (1*2^min (Int.toNat s1.2) zk))).toNat,zw (s1.2+1)))
   else none
  else
  some (.next (s1.1,zw (s1.2+1)))
 else
 some (.done s1.1)
def J9 (p0:(List Int)):Option Int :=
 (Qf fuel (Qio p0) (0,0)).bind fun x9 =>
 some x9
def Ve (p0:Int):Option Int :=
 if (decide (p0 < 0))=true then
  some (zv (0 - (zv (p0))))
 else
 some (zv (p0))
def Qgu  (s1:(Int × Int)):Option (Qo (Int × Int) Int) :=
 if (s1.2 != 0)=true then
  if s1.2≠0 then
   some (.next (s1.2,Int.tmod s1.1 s1.2))
  else none
 else
 some (.done s1.1)
def Qd6 (p0:Int) (p1:Int):Option Int :=
 (Qf fuel (Qgu) (p0,p1)).bind fun x5 =>
 some x5
def Qhb (p0:Bool) (p1:(Int × Int)) (p2:(Int × Int)):Option Qi :=
 if (p1.1 != 0)=true then
  none
 else
 if (decide (p1.2 > 4611686018427387903))=true then
  none
 else
 if (p2.1 != 0)=true then
  none
 else
 if (decide (p2.2 > 4611686018427387903))=true then
  none
 else
 if p0=true then
  some (Qi.mk (zw (0 - (zw (p1.2)))) (zw (p2.2)))
 else
 some (Qi.mk (zw (p1.2)) (zw (p2.2)))
def Qbl (c0:Int) (c1:Int):Option Qi :=
 (Ve c0).bind fun x1 =>
 (Ve c1).bind fun x3 =>
 (Qd6 x1 x3).bind fun x5 =>
 (Ve c0).bind fun x7 =>
 if x5≠0 then
  (Ve c1).bind fun x9 =>
  if x5≠0 then
   (Qhb (!((decide (c0 < 0))==(decide (c1 < 0)))) (0,zv (Int.tdiv x7 x5)) (0,zv (Int.tdiv x9 x5))).bind fun x11 =>
   some x11
  else none
 else none
def J4 (p0:Int) (p1:Int):Option (Qi × Int) :=
 if (p1==0)=true then
  some ((Qi.mk 0 0),2)
 else
 (Qbl p0 p1).bind fun x3 =>
 some (x3,0)
def Qiq (p0:Qb) (p1:Int) (s1:(Int × Int)):Option (Qo (Int × Int) Int) :=
 if (decide (s1.2 < (p0.Nodes.length:Int)))=true then
  if 0<=s1.2 then
   if ((zv (zb (Int.fdiv p1 (2^min (Int.toNat s1.2) zk)) &&& zb 1).toNat)==0)=true then
    some (.next (zw (s1.1*p0.Grain),zw (s1.2+1)))
   else
   some (.next (s1.1,zw (s1.2+1)))
  else none
 else
 some (.done s1.1)
def Qcc (p0:Qb) (p1:Int):Option Int :=
 (Qf fuel (Qiq p0 p1) (1,0)).bind fun x7 =>
 some x7
def Qha (p1:(List Int)) (p2:(List Int)) (s10:(Int × Int × (List Int))) (s19:(Int × Int × (List Int))) (s22:Int):Option (Qo Int (Unit ⊕ Unit)) :=
 if (decide (s22 < ((([p1,p2]:(List (List Int))).length):Int)))=true then
  (lkI ([p1,p2]:(List (List Int))) s22).bind fun a25 =>
  (lkI a25 s10.1).bind fun a27 =>
  if (decide (a27>=0))=true then
   if (a27 != s19.1)=true then
    some (.done (Sum.inl ()))
   else
   some (.next (zw (s22+1)))
  else
  some (.next (zw (s22+1)))
 else
 some (.done (Sum.inr ()))
def Qg3 (a17:Qe) (p1:(List Int)) (p2:(List Int)) (s10:(Int × Int × (List Int))) (r11:((Int × Int × (List Int))->Option (Int × (List Int)))) (s19:(Int × Int × (List Int))):Option (Qo (Int × Int × (List Int)) (Int × (List Int))) :=
 if (decide (s19.1 < a17.Card))=true then
  (Qf fuel (Qha p1 p2 s10 s19) 0).bind fun x33=>match x33 with
  | .inl x34=>(
   some (.next (zw (s19.1+1),s19.2.1,s19.2.2)))
  | .inr x35=>(
   (lkI s19.2.2 s10.1).bind fun a36 =>
   (r11 (zw (s10.1+1),s19.2.1,(List.set s19.2.2 (Int.toNat s10.1) s19.1))).bind fun x38 =>
   some (.next (zw (s19.1+1),x38.1,x38.2)))
 else
 some (.done (s19.2.1,s19.2.2))
def Qhh (p0:Qb) (x5:Int) (p1:(List Int)) (p2:(List Int)) (r11:((Int × Int × (List Int))->Option (Int × (List Int)))) (s10:(Int × Int × (List Int))):Option (Int × (List Int)) :=
 if (s10.1==(s10.2.2.length:Int))=true then
  (Ka p0 x5 s10.2.2).bind fun x15 =>
  some (zw (s10.2.1+x15),s10.2.2)
 else
 (lkI p0.Nodes s10.1).bind fun a17 =>
 (Qf fuel (Qg3 a17 p1 p2 s10 r11) (0,s10.2.1,s10.2.2)).bind fun x41 =>
 some (x41.1,x41.2)
def Ya (p0:Qb) (p1:(List Int)) (p2:(List Int)):Option (Qi × Int) :=
 (Yq p0 [p1,p2]).bind fun x1 =>
 if (x1 != 0)=true then
  some ((Qi.mk 0 0),x1)
 else
 (J9 p1).bind fun x5 =>
 if 0<=(p0.Nodes.length:Int)/\(p0.Nodes.length:Int)<=(p0.Nodes.length:Int)/\(p0.Nodes.length:Int)*8<=140737488355328 then
  (Qfs (Qhh p0 x5 p1 p2) fuel (0,0,(List.replicate (Int.toNat (p0.Nodes.length:Int)) (0:Int)))).bind fun x42 =>
  (J9 p1).bind fun x44 =>
  (Qcc p0 x44).bind fun x46 =>
  (J4 x42.1 x46).bind fun x48 =>
  some (x48.1,x48.2)
 else none
def Qh7 (p1:(List Int)) (p2:(List Int)) (s16:(Int × Int × (List Int) × (List Int))) (s30:(Int × Int × (List Int) × (List Int))) (s33:Int):Option (Qo Int (Unit ⊕ Unit)) :=
 if (decide (s33 < ((([p1,p2]:(List (List Int))).length):Int)))=true then
  (lkI ([p1,p2]:(List (List Int))) s33).bind fun a36 =>
  (lkI a36 s16.1).bind fun a38 =>
  if (decide (a38>=0))=true then
   if (a38 != s30.1)=true then
    some (.done (Sum.inl ()))
   else
   some (.next (zw (s33+1)))
  else
  some (.next (zw (s33+1)))
 else
 some (.done (Sum.inr ()))
def Qih (a28:Qe) (p1:(List Int)) (p2:(List Int)) (s16:(Int × Int × (List Int) × (List Int))) (r17:((Int × Int × (List Int) × (List Int))->Option (Int × (List Int) × (List Int)))) (s30:(Int × Int × (List Int) × (List Int))):Option (Qo (Int × Int × (List Int) × (List Int)) (Int × (List Int) × (List Int))) :=
 if (decide (s30.1 < a28.Card))=true then
  (Qf fuel (Qh7 p1 p2 s16 s30) 0).bind fun x44=>match x44 with
  | .inl x45=>(
   some (.next (zw (s30.1+1),s30.2.1,s30.2.2.1,s30.2.2.2)))
  | .inr x46=>(
   (lkI s30.2.2.2 s16.1).bind fun a47 =>
   (r17 (zw (s16.1+1),s30.2.1,s30.2.2.1,(List.set s30.2.2.2 (Int.toNat s16.1) s30.1))).bind fun x49 =>
   some (.next (zw (s30.1+1),x49.1,x49.2.1,x49.2.2)))
 else
 some (.done (s30.2.1,s30.2.2.1,s30.2.2.2))
def Qhu (p0:Qb) (x11:Int) (p3:Int) (p1:(List Int)) (p2:(List Int)) (r17:((Int × Int × (List Int) × (List Int))->Option (Int × (List Int) × (List Int)))) (s16:(Int × Int × (List Int) × (List Int))):Option (Int × (List Int) × (List Int)) :=
 if (s16.1==(s16.2.2.2.length:Int))=true then
  (Ka p0 x11 s16.2.2.2).bind fun x21 =>
  (lkI s16.2.2.2 p3).bind fun a23 =>
  (lkI s16.2.2.1 a23).bind fun a25 =>
  some (zw (s16.2.1+x21),(List.set s16.2.2.1 (Int.toNat a23) (zw (a25+x21))),s16.2.2.2)
 else
 (lkI p0.Nodes s16.1).bind fun a28 =>
 (Qf fuel (Qih a28 p1 p2 s16 r17) (0,s16.2.1,s16.2.2.1,s16.2.2.2)).bind fun x52 =>
 some (x52.1,x52.2.1,x52.2.2)
def Qht (x53:(Int × (List Int) × (List Int))) (s57:(Int × (List Qi))):Option (Qo (Int × (List Qi)) (Int ⊕ (List Qi))) :=
 if (decide (s57.1 < (x53.2.1.length:Int)))=true then
  (lkI x53.2.1 s57.1).bind fun a60 =>
  (J4 a60 x53.1).bind fun x62 =>
  if (x62.2 != 0)=true then
   some (.done (Sum.inl x62.2))
  else
  (lkI s57.2 s57.1).bind fun a66 =>
  some (.next (zw (s57.1+1),(List.set s57.2 (Int.toNat s57.1) x62.1)))
 else
 some (.done (Sum.inr s57.2))
def Yy (p0:Qb) (p1:(List Int)) (p2:(List Int)) (p3:Int):Option ((List Qi) × Int) :=
 (Yq p0 [p1,p2]).bind fun x1 =>
 if (x1 != 0)=true then
  some (([]:(List Qi)),x1)
 else
 if (decide (p3 < 0))=true then
  some (([]:(List Qi)),2)
 else
 if (decide (p3>=(p0.Nodes.length:Int)))=true then
  some (([]:(List Qi)),2)
 else
 (lkI p0.Nodes p3).bind fun a9 =>
 if 0<=a9.Card/\a9.Card<=a9.Card/\a9.Card*8<=140737488355328 then
  (J9 p1).bind fun x11 =>
  if 0<=(p0.Nodes.length:Int)/\(p0.Nodes.length:Int)<=(p0.Nodes.length:Int)/\(p0.Nodes.length:Int)*8<=140737488355328 then
   (Qfs (Qhu p0 x11 p3 p1 p2) fuel (0,0,(List.replicate (Int.toNat a9.Card) (0:Int)),(List.replicate (Int.toNat (p0.Nodes.length:Int)) (0:Int)))).bind fun x53 =>
   if (x53.1==0)=true then
    some (([]:(List Qi)),7)
   else
   if 0<=(x53.2.1.length:Int)/\(x53.2.1.length:Int)<=(x53.2.1.length:Int)/\(x53.2.1.length:Int)*16<=140737488355328 then
    (Qf fuel (Qht x53) (0,(List.replicate (Int.toNat (x53.2.1.length:Int)) ((Qi.mk 0 0):Qi)))).bind fun x69=>match x69 with
    | .inl x70=>(
     some (([]:(List Qi)),x70))
    | .inr x71=>(
     some (x71,0))
   else none
  else none
 else none
def Qhe (p0:(List Int)) (p1:(List Int)) (s3:Int):Option (Qo Int (Unit ⊕ Unit)) :=
 if (decide (s3 < (p0.length:Int)))=true then
  (lkI p0 s3).bind fun a6 =>
  (lkI p1 s3).bind fun a8 =>
  if (a6 != a8)=true then
   some (.done (Sum.inl ()))
  else
  some (.next (zw (s3+1)))
 else
 some (.done (Sum.inr ()))
def Xo (p0:(List Int)) (p1:(List Int)):Option Bool :=
 if ((p0.length:Int) != (p1.length:Int))=true then
  some false
 else
 (Qf fuel (Qhe p0 p1) 0).bind fun x12=>match x12 with
 | .inl x13=>(
  some false)
 | .inr x14=>(
  some true)
def Qfw (a8:Qe) (a10:Qe) (s20:Int):Option (Qo Int (Unit ⊕ Unit)) :=
 if (decide (s20 < (a8.Rows.length:Int)))=true then
  (lkI a8.Rows s20).bind fun a23 =>
  (lkI a10.Rows s20).bind fun a25 =>
  (Xo a23 a25).bind fun x27 =>
  if (!x27)=true then
   some (.done (Sum.inl ()))
  else
  some (.next (zw (s20+1)))
 else
 some (.done (Sum.inr ()))
def Qfo (p0:Qb) (p1:Qb) (s5:Int):Option (Qo Int (Unit ⊕ Unit)) :=
 if (decide (s5 < (p0.Nodes.length:Int)))=true then
  (lkI p0.Nodes s5).bind fun a8 =>
  (lkI p1.Nodes s5).bind fun a10 =>
  if (a8.Card != a10.Card)=true then
   some (.done (Sum.inl ()))
  else
  (Xo a8.Parents a10.Parents).bind fun x14 =>
  if (!x14)=true then
   some (.done (Sum.inl ()))
  else
  if ((a8.Rows.length:Int) != (a10.Rows.length:Int))=true then
   some (.done (Sum.inl ()))
  else
  (Qf fuel (Qfw a8 a10) 0).bind fun x31=>match x31 with
  | .inl x32=>(
   some (.done (Sum.inl ())))
  | .inr x33=>(
   some (.next (zw (s5+1))))
 else
 some (.done (Sum.inr ()))
def Jg (p0:Qb) (p1:Qb):Option Bool :=
 if (p0.Grain != p1.Grain)=true then
  some false
 else
 if ((p0.Nodes.length:Int) != (p1.Nodes.length:Int))=true then
  some false
 else
 (Qf fuel (Qfo p0 p1) 0).bind fun x34=>match x34 with
 | .inl x35=>(
  some false)
 | .inr x36=>(
  some true)
def Qge (p0:Qb) (p1:Int) (p2:(List Int)) (s1:(Int × Int)):Option (Qo (Int × Int) Int) :=
 if (decide (s1.2 < (p0.Nodes.length:Int)))=true then
  (lkI p0.Nodes s1.2).bind fun a4 =>
  if 0<=s1.2 then
   if ((zv (zb (Int.fdiv p1 (2^min (Int.toNat s1.2) zk)) &&& zb 1).toNat)==1)=true then
    (lkI p2 s1.2).bind fun a8 =>
    some (.next (zw ((zw (s1.1*a4.Card))+a8),zw (s1.2+1)))
   else
   some (.next (s1.1,zw (s1.2+1)))
  else none
 else
 some (.done s1.1)
def Qcw (p0:Qb) (p1:Int) (p2:(List Int)):Option Int :=
 (Qf fuel (Qge p0 p1 p2) (0,0)).bind fun x11 =>
 some x11
def Qhz (p1:Int) (p0:Qb) (s1:(Int × Int × (List Int))):Option (Qo (Int × Int × (List Int)) (List Int)) :=
 if (decide (s1.2.1>=0))=true then
  if 0<=s1.2.1 then
   if ((zv (zb (Int.fdiv p1 (2^min (Int.toNat s1.2.1) zk)) &&& zb 1).toNat)==0)=true then
    (lkI s1.2.2 s1.2.1).bind fun a6 =>
    some (.next (s1.1,zw (s1.2.1 - 1),(List.set s1.2.2 (Int.toNat s1.2.1) (-1))))
   else
   (lkI p0.Nodes s1.2.1).bind fun a9 =>
   if a9.Card≠0 then
    (lkI s1.2.2 s1.2.1).bind fun a11 =>
    if a9.Card≠0 then
     some (.next (zw (Int.tdiv s1.1 a9.Card),zw (s1.2.1 - 1),(List.set s1.2.2 (Int.toNat s1.2.1) (Int.tmod s1.1 a9.Card))))
    else none
   else none
  else none
 else
 some (.done s1.2.2)
def Qen (p0:Qb) (p1:Int) (p2:Int):Option (List Int) :=
 if 0<=(p0.Nodes.length:Int)/\(p0.Nodes.length:Int)<=(p0.Nodes.length:Int)/\(p0.Nodes.length:Int)*8<=140737488355328 then
  (Qf fuel (Qhz p1 p0) (p2,zw ((((List.replicate (Int.toNat (p0.Nodes.length:Int)) (0:Int)).length):Int) - 1),(List.replicate (Int.toNat (p0.Nodes.length:Int)) (0:Int)))).bind fun x15 =>
  some x15
 else none
def Qkf (p0:Qb) (p1:Int) (s17:(Int × Int)):Option (Qo (Int × Int) Int) :=
 if (decide (s17.2 < (p0.Nodes.length:Int)))=true then
  (lkI p0.Nodes s17.2).bind fun a20 =>
  if 0<=s17.2 then
   if ((zv (zb (Int.fdiv p1 (2^min (Int.toNat s17.2) zk)) &&& zb 1).toNat)==1)=true then
    some (.next (zw (s17.1*a20.Card),zw (s17.2+1)))
   else
   some (.next (s17.1,zw (s17.2+1)))
  else none
 else
 some (.done s17.1)
def Qkb  (s47:Unit):Option (Qo Unit Unit) :=
 some (.done ())
def Qj2 (a42:Qe) (s26:(Int × (List Int) × (List Int))) (r27:((Int × (List Int) × (List Int))->Option ((List Int) × (List Int)))) (s44:(Int × (List Int) × (List Int))):Option (Qo (Int × (List Int) × (List Int)) ((List Int) × (List Int))) :=
 if (decide (s44.1 < a42.Card))=true then
  (Qf fuel (Qkb) ()).bind fun x49 =>
  (lkI s44.2.2 s26.1).bind fun a50 =>
  (r27 (zw (s26.1+1),s44.2.1,(List.set s44.2.2 (Int.toNat s26.1) s44.1))).bind fun x52 =>
  some (.next (zw (s44.1+1),x52.1,x52.2))
 else
 some (.done (s44.2.1,s44.2.2))
def Qj3 (p0:Qb) (p1:Int) (p2:Int) (p3:Int) (r27:((Int × (List Int) × (List Int))->Option ((List Int) × (List Int)))) (s26:(Int × (List Int) × (List Int))):Option ((List Int) × (List Int)) :=
 if (s26.1==(s26.2.2.length:Int))=true then
  (Ka p0 p1 s26.2.2).bind fun x31 =>
  (lkI s26.2.2 p2).bind fun a33 =>
  if (a33==p3)=true then
   (Qcw p0 p1 s26.2.2).bind fun x37 =>
   (lkI s26.2.1 x37).bind fun a39 =>
   some ((List.set s26.2.1 (Int.toNat x37) (zw (a39+x31))),s26.2.2)
  else
  some (s26.2.1,s26.2.2)
 else
 (lkI p0.Nodes s26.1).bind fun a42 =>
 (Qf fuel (Qj2 a42 s26 r27) (0,s26.2.1,s26.2.2)).bind fun x55 =>
 some (x55.1,x55.2)
def Qj9 (x56:((List Int) × (List Int))) (s58:(Int × Int)):Option (Qo (Int × Int) Int) :=
 if (decide (s58.2 < (x56.1.length:Int)))=true then
  (lkI x56.1 s58.2).bind fun a61 =>
  (lkI x56.1 s58.1).bind fun a63 =>
  if (decide (a61 > a63))=true then
   some (.next (s58.2,zw (s58.2+1)))
  else
  some (.next (s58.1,zw (s58.2+1)))
 else
 some (.done s58.1)
def X2 (p0:Qb) (p1:Int) (p2:Int) (p3:Int):Option ((List Int) × Qi × Int) :=
 (Yq p0 []).bind fun x1 =>
 if (x1 != 0)=true then
  some (([]:(List Int)),(Qi.mk 0 0),x1)
 else
 if 0<=(p0.Nodes.length:Int) then
  if ((Int.fdiv p1 (2^min (Int.toNat (p0.Nodes.length:Int)) zk)) != 0)=true then
   some (([]:(List Int)),(Qi.mk 0 0),2)
  else
  if (decide (p2 < 0))=true then
   some (([]:(List Int)),(Qi.mk 0 0),2)
  else
  if (decide (p2>=(p0.Nodes.length:Int)))=true then
   some (([]:(List Int)),(Qi.mk 0 0),2)
  else
  if (decide (p3 < 0))=true then
   some (([]:(List Int)),(Qi.mk 0 0),2)
  else
  (lkI p0.Nodes p2).bind fun a13 =>
  if (decide (p3>=a13.Card))=true then
   some (([]:(List Int)),(Qi.mk 0 0),2)
  else
  (Qf fuel (Qkf p0 p1) (1,0)).bind fun x25 =>
  if 0<=x25/\x25<=x25/\x25*8<=140737488355328 then
   if 0<=(p0.Nodes.length:Int)/\(p0.Nodes.length:Int)<=(p0.Nodes.length:Int)/\(p0.Nodes.length:Int)*8<=140737488355328 then
    (Qfs (Qj3 p0 p1 p2 p3) fuel (0,(List.replicate (Int.toNat x25) (0:Int)),(List.replicate (Int.toNat (p0.Nodes.length:Int)) (0:Int)))).bind fun x56 =>
    (Qf fuel (Qj9 x56) (0,0)).bind fun x68 =>
    (lkI x56.1 x68).bind fun a69 =>
    (Qcc p0 p1).bind fun x71 =>
    (J4 a69 x71).bind fun x73 =>
    if (x73.2 != 0)=true then
     some (([]:(List Int)),(Qi.mk 0 0),x73.2)
    else
    (Qen p0 p1 x68).bind fun x77 =>
    some (x77,x73.1,0)
   else none
  else none
 else none
def Xf  : Option Qb :=
 some (Qb.mk 4 ([(Qe.mk 2 [] [[1,3]]),(Qe.mk 2 [0] [[3,1],[1,3]]),(Qe.mk 2 [0,1] [[4,0],[2,2],[1,3],[0,4]])]:(List Qe)))
def Kw (p0:Aa) (p1:Int) (s1:(Int × (List Int))):Option (Qo (Int × (List Int)) (List Int)) :=
 if (decide (s1.1 < (p0.sets.parents.length:Int)))=true then
  if 0<=s1.1 then
   if ((zv (zb (Int.fdiv p1 (2^min (Int.toNat s1.1) zk)) &&& zb 1).toNat)==1)=true then
    (lkI s1.2 s1.1).bind fun a6 =>
    some (.next (zw (s1.1+1),(List.set s1.2 (Int.toNat s1.1) 0)))
   else
   some (.next (zw (s1.1+1),s1.2))
  else none
 else
 some (.done s1.2)
def Zs (p0:Aa) (p1:Int):Option Aa :=
 if p0.sets.parents.length*8<=140737488355328 then
  (Qf fuel (Kw p0 p1) (0,p0.sets.parents)).bind fun x10 =>
  some (Aa.mk (Ac.mk x10))
 else none
def K2 (p0:Aa) (p1:Int) (p2:Int) (p3:Int):Option Aa :=
 (Zs p0 p2).bind fun x1 =>
 some x1
def K8 (p0:Aa) (p1:Int) (s1:(Int × (List Int))):Option (Qo (Int × (List Int)) (List Int)) :=
 if (decide (s1.1 < (p0.sets.parents.length:Int)))=true then
  (lkI s1.2 s1.1).bind fun a4 =>
  some (.next (zw (s1.1+1),(List.set s1.2 (Int.toNat s1.1) (zv (zb a4 &&& ~~~ zb p1).toNat))))
 else
 some (.done s1.2)
def Vg (p0:Aa) (p1:Int):Option Aa :=
 if p0.sets.parents.length*8<=140737488355328 then
  (Qf fuel (K8 p0 p1) (0,p0.sets.parents)).bind fun x8 =>
  some (Aa.mk (Ac.mk x8))
 else none
def Ko (p0:Aa) (p1:Int) (p2:Int) (p3:Int):Option Aa :=
 (Zs p0 p2).bind fun x1 =>
 (Vg x1 p1).bind fun x3 =>
 some x3
def Qa6 (p0:Aa) (p1:Int) (s1:(Int × Bool × Bool × Bool × Bool × Bool × Bool × Bool × Bool)):Option (Qo (Int × Bool × Bool × Bool × Bool × Bool × Bool × Bool × Bool) (Bool × Bool × Bool × Bool × Bool × Bool × Bool × Bool)) :=
 if (decide (s1.1 < (p0.sets.parents.length:Int)))=true then
  if 0<=s1.1 then
   if s1.1=0 then
    some (.next (1,((zv (zb (Int.fdiv p1 (2^min (Int.toNat s1.1) zk)) &&& zb 1).toNat)==1),s1.2.2.1,s1.2.2.2.1,s1.2.2.2.2.1,s1.2.2.2.2.2.1,s1.2.2.2.2.2.2.1,s1.2.2.2.2.2.2.2.1,s1.2.2.2.2.2.2.2.2))
   else
   if s1.1=1 then
    some (.next (2,s1.2.1,((zv (zb (Int.fdiv p1 (2^min (Int.toNat s1.1) zk)) &&& zb 1).toNat)==1),s1.2.2.2.1,s1.2.2.2.2.1,s1.2.2.2.2.2.1,s1.2.2.2.2.2.2.1,s1.2.2.2.2.2.2.2.1,s1.2.2.2.2.2.2.2.2))
   else
   if s1.1=2 then
    some (.next (3,s1.2.1,s1.2.2.1,((zv (zb (Int.fdiv p1 (2^min (Int.toNat s1.1) zk)) &&& zb 1).toNat)==1),s1.2.2.2.2.1,s1.2.2.2.2.2.1,s1.2.2.2.2.2.2.1,s1.2.2.2.2.2.2.2.1,s1.2.2.2.2.2.2.2.2))
   else
   if s1.1=3 then
    some (.next (4,s1.2.1,s1.2.2.1,s1.2.2.2.1,((zv (zb (Int.fdiv p1 (2^min (Int.toNat s1.1) zk)) &&& zb 1).toNat)==1),s1.2.2.2.2.2.1,s1.2.2.2.2.2.2.1,s1.2.2.2.2.2.2.2.1,s1.2.2.2.2.2.2.2.2))
   else
   if s1.1=4 then
    some (.next (5,s1.2.1,s1.2.2.1,s1.2.2.2.1,s1.2.2.2.2.1,((zv (zb (Int.fdiv p1 (2^min (Int.toNat s1.1) zk)) &&& zb 1).toNat)==1),s1.2.2.2.2.2.2.1,s1.2.2.2.2.2.2.2.1,s1.2.2.2.2.2.2.2.2))
   else
   if s1.1=5 then
    some (.next (6,s1.2.1,s1.2.2.1,s1.2.2.2.1,s1.2.2.2.2.1,s1.2.2.2.2.2.1,((zv (zb (Int.fdiv p1 (2^min (Int.toNat s1.1) zk)) &&& zb 1).toNat)==1),s1.2.2.2.2.2.2.2.1,s1.2.2.2.2.2.2.2.2))
   else
   if s1.1=6 then
    some (.next (7,s1.2.1,s1.2.2.1,s1.2.2.2.1,s1.2.2.2.2.1,s1.2.2.2.2.2.1,s1.2.2.2.2.2.2.1,((zv (zb (Int.fdiv p1 (2^min (Int.toNat s1.1) zk)) &&& zb 1).toNat)==1),s1.2.2.2.2.2.2.2.2))
   else
   if s1.1=7 then
    some (.next (8,s1.2.1,s1.2.2.1,s1.2.2.2.1,s1.2.2.2.2.1,s1.2.2.2.2.2.1,s1.2.2.2.2.2.2.1,s1.2.2.2.2.2.2.2.1,((zv (zb (Int.fdiv p1 (2^min (Int.toNat s1.1) zk)) &&& zb 1).toNat)==1)))
   else
   none
  else none
 else
 some (.done (s1.2.1,s1.2.2.1,s1.2.2.2.1,s1.2.2.2.2.1,s1.2.2.2.2.2.1,s1.2.2.2.2.2.2.1,s1.2.2.2.2.2.2.2.1,s1.2.2.2.2.2.2.2.2))
def Qbe (p0:Aa) (a18:Int) (s20:(Int × Int × Int × Bool × Bool × Bool × Bool × Bool × Bool × Bool × Bool × Bool × Bool × Bool × Bool × Bool × Bool × Bool × Bool)):Option (Qo (Int × Int × Int × Bool × Bool × Bool × Bool × Bool × Bool × Bool × Bool × Bool × Bool × Bool × Bool × Bool × Bool × Bool × Bool) (Int × Bool × Bool × Bool × Bool × Bool × Bool × Bool × Bool × Bool × Bool × Bool × Bool × Bool × Bool × Bool × Bool)) :=
 if (decide (s20.2.2.1 < (p0.sets.parents.length:Int)))=true then
  if s20.1=0 then
   if s20.2.2.2.1=true then
    if 0<=s20.2.2.1 then
     if ((zv (zb (Int.fdiv a18 (2^min (Int.toNat s20.2.2.1) zk)) &&& zb 1).toNat)==1)=true then
      if s20.2.2.1=0 then
       some (.next (0,s20.2.1,1,true,s20.2.2.2.2.1,s20.2.2.2.2.2.1,s20.2.2.2.2.2.2.1,s20.2.2.2.2.2.2.2.1,s20.2.2.2.2.2.2.2.2.1,s20.2.2.2.2.2.2.2.2.2.1,s20.2.2.2.2.2.2.2.2.2.2.1,true,s20.2.2.2.2.2.2.2.2.2.2.2.2.1,s20.2.2.2.2.2.2.2.2.2.2.2.2.2.1,s20.2.2.2.2.2.2.2.2.2.2.2.2.2.2.1,s20.2.2.2.2.2.2.2.2.2.2.2.2.2.2.2.1,s20.2.2.2.2.2.2.2.2.2.2.2.2.2.2.2.2.1,s20.2.2.2.2.2.2.2.2.2.2.2.2.2.2.2.2.2.1,s20.2.2.2.2.2.2.2.2.2.2.2.2.2.2.2.2.2.2))
      else
      if s20.2.2.1=1 then
       some (.next (0,s20.2.1,2,true,s20.2.2.2.2.1,s20.2.2.2.2.2.1,s20.2.2.2.2.2.2.1,s20.2.2.2.2.2.2.2.1,s20.2.2.2.2.2.2.2.2.1,s20.2.2.2.2.2.2.2.2.2.1,s20.2.2.2.2.2.2.2.2.2.2.1,s20.2.2.2.2.2.2.2.2.2.2.2.1,true,s20.2.2.2.2.2.2.2.2.2.2.2.2.2.1,s20.2.2.2.2.2.2.2.2.2.2.2.2.2.2.1,s20.2.2.2.2.2.2.2.2.2.2.2.2.2.2.2.1,s20.2.2.2.2.2.2.2.2.2.2.2.2.2.2.2.2.1,s20.2.2.2.2.2.2.2.2.2.2.2.2.2.2.2.2.2.1,s20.2.2.2.2.2.2.2.2.2.2.2.2.2.2.2.2.2.2))
      else
      if s20.2.2.1=2 then
       some (.next (0,s20.2.1,3,true,s20.2.2.2.2.1,s20.2.2.2.2.2.1,s20.2.2.2.2.2.2.1,s20.2.2.2.2.2.2.2.1,s20.2.2.2.2.2.2.2.2.1,s20.2.2.2.2.2.2.2.2.2.1,s20.2.2.2.2.2.2.2.2.2.2.1,s20.2.2.2.2.2.2.2.2.2.2.2.1,s20.2.2.2.2.2.2.2.2.2.2.2.2.1,true,s20.2.2.2.2.2.2.2.2.2.2.2.2.2.2.1,s20.2.2.2.2.2.2.2.2.2.2.2.2.2.2.2.1,s20.2.2.2.2.2.2.2.2.2.2.2.2.2.2.2.2.1,s20.2.2.2.2.2.2.2.2.2.2.2.2.2.2.2.2.2.1,s20.2.2.2.2.2.2.2.2.2.2.2.2.2.2.2.2.2.2))
      else
      if s20.2.2.1=3 then
       some (.next (0,s20.2.1,4,true,s20.2.2.2.2.1,s20.2.2.2.2.2.1,s20.2.2.2.2.2.2.1,s20.2.2.2.2.2.2.2.1,s20.2.2.2.2.2.2.2.2.1,s20.2.2.2.2.2.2.2.2.2.1,s20.2.2.2.2.2.2.2.2.2.2.1,s20.2.2.2.2.2.2.2.2.2.2.2.1,s20.2.2.2.2.2.2.2.2.2.2.2.2.1,s20.2.2.2.2.2.2.2.2.2.2.2.2.2.1,true,s20.2.2.2.2.2.2.2.2.2.2.2.2.2.2.2.1,s20.2.2.2.2.2.2.2.2.2.2.2.2.2.2.2.2.1,s20.2.2.2.2.2.2.2.2.2.2.2.2.2.2.2.2.2.1,s20.2.2.2.2.2.2.2.2.2.2.2.2.2.2.2.2.2.2))
      else
      if s20.2.2.1=4 then
       some (.next (0,s20.2.1,5,true,s20.2.2.2.2.1,s20.2.2.2.2.2.1,s20.2.2.2.2.2.2.1,s20.2.2.2.2.2.2.2.1,s20.2.2.2.2.2.2.2.2.1,s20.2.2.2.2.2.2.2.2.2.1,s20.2.2.2.2.2.2.2.2.2.2.1,s20.2.2.2.2.2.2.2.2.2.2.2.1,s20.2.2.2.2.2.2.2.2.2.2.2.2.1,s20.2.2.2.2.2.2.2.2.2.2.2.2.2.1,s20.2.2.2.2.2.2.2.2.2.2.2.2.2.2.1,true,s20.2.2.2.2.2.2.2.2.2.2.2.2.2.2.2.2.1,s20.2.2.2.2.2.2.2.2.2.2.2.2.2.2.2.2.2.1,s20.2.2.2.2.2.2.2.2.2.2.2.2.2.2.2.2.2.2))
      else
      if s20.2.2.1=5 then
       some (.next (0,s20.2.1,6,true,s20.2.2.2.2.1,s20.2.2.2.2.2.1,s20.2.2.2.2.2.2.1,s20.2.2.2.2.2.2.2.1,s20.2.2.2.2.2.2.2.2.1,s20.2.2.2.2.2.2.2.2.2.1,s20.2.2.2.2.2.2.2.2.2.2.1,s20.2.2.2.2.2.2.2.2.2.2.2.1,s20.2.2.2.2.2.2.2.2.2.2.2.2.1,s20.2.2.2.2.2.2.2.2.2.2.2.2.2.1,s20.2.2.2.2.2.2.2.2.2.2.2.2.2.2.1,s20.2.2.2.2.2.2.2.2.2.2.2.2.2.2.2.1,true,s20.2.2.2.2.2.2.2.2.2.2.2.2.2.2.2.2.2.1,s20.2.2.2.2.2.2.2.2.2.2.2.2.2.2.2.2.2.2))
      else
      if s20.2.2.1=6 then
       some (.next (0,s20.2.1,7,true,s20.2.2.2.2.1,s20.2.2.2.2.2.1,s20.2.2.2.2.2.2.1,s20.2.2.2.2.2.2.2.1,s20.2.2.2.2.2.2.2.2.1,s20.2.2.2.2.2.2.2.2.2.1,s20.2.2.2.2.2.2.2.2.2.2.1,s20.2.2.2.2.2.2.2.2.2.2.2.1,s20.2.2.2.2.2.2.2.2.2.2.2.2.1,s20.2.2.2.2.2.2.2.2.2.2.2.2.2.1,s20.2.2.2.2.2.2.2.2.2.2.2.2.2.2.1,s20.2.2.2.2.2.2.2.2.2.2.2.2.2.2.2.1,s20.2.2.2.2.2.2.2.2.2.2.2.2.2.2.2.2.1,true,s20.2.2.2.2.2.2.2.2.2.2.2.2.2.2.2.2.2.2))
      else
      if s20.2.2.1=7 then
       some (.next (0,s20.2.1,8,true,s20.2.2.2.2.1,s20.2.2.2.2.2.1,s20.2.2.2.2.2.2.1,s20.2.2.2.2.2.2.2.1,s20.2.2.2.2.2.2.2.2.1,s20.2.2.2.2.2.2.2.2.2.1,s20.2.2.2.2.2.2.2.2.2.2.1,s20.2.2.2.2.2.2.2.2.2.2.2.1,s20.2.2.2.2.2.2.2.2.2.2.2.2.1,s20.2.2.2.2.2.2.2.2.2.2.2.2.2.1,s20.2.2.2.2.2.2.2.2.2.2.2.2.2.2.1,s20.2.2.2.2.2.2.2.2.2.2.2.2.2.2.2.1,s20.2.2.2.2.2.2.2.2.2.2.2.2.2.2.2.2.1,s20.2.2.2.2.2.2.2.2.2.2.2.2.2.2.2.2.2.1,true))
      else
      none
     else
     some (.next (0,s20.2.1,zw (s20.2.2.1+1),true,s20.2.2.2.2.1,s20.2.2.2.2.2.1,s20.2.2.2.2.2.2.1,s20.2.2.2.2.2.2.2.1,s20.2.2.2.2.2.2.2.2.1,s20.2.2.2.2.2.2.2.2.2.1,s20.2.2.2.2.2.2.2.2.2.2.1,s20.2.2.2.2.2.2.2.2.2.2.2.1,s20.2.2.2.2.2.2.2.2.2.2.2.2.1,s20.2.2.2.2.2.2.2.2.2.2.2.2.2.1,s20.2.2.2.2.2.2.2.2.2.2.2.2.2.2.1,s20.2.2.2.2.2.2.2.2.2.2.2.2.2.2.2.1,s20.2.2.2.2.2.2.2.2.2.2.2.2.2.2.2.2.1,s20.2.2.2.2.2.2.2.2.2.2.2.2.2.2.2.2.2.1,s20.2.2.2.2.2.2.2.2.2.2.2.2.2.2.2.2.2.2))
    else none
   else
   some (.next (0,s20.2.1,zw (s20.2.2.1+1),false,s20.2.2.2.2.1,s20.2.2.2.2.2.1,s20.2.2.2.2.2.2.1,s20.2.2.2.2.2.2.2.1,s20.2.2.2.2.2.2.2.2.1,s20.2.2.2.2.2.2.2.2.2.1,s20.2.2.2.2.2.2.2.2.2.2.1,s20.2.2.2.2.2.2.2.2.2.2.2.1,s20.2.2.2.2.2.2.2.2.2.2.2.2.1,s20.2.2.2.2.2.2.2.2.2.2.2.2.2.1,s20.2.2.2.2.2.2.2.2.2.2.2.2.2.2.1,s20.2.2.2.2.2.2.2.2.2.2.2.2.2.2.2.1,s20.2.2.2.2.2.2.2.2.2.2.2.2.2.2.2.2.1,s20.2.2.2.2.2.2.2.2.2.2.2.2.2.2.2.2.2.1,s20.2.2.2.2.2.2.2.2.2.2.2.2.2.2.2.2.2.2))
  else
  if s20.1=1 then
   if s20.2.2.2.2.1=true then
    if 0<=s20.2.2.1 then
     if ((zv (zb (Int.fdiv a18 (2^min (Int.toNat s20.2.2.1) zk)) &&& zb 1).toNat)==1)=true then
      if s20.2.2.1=0 then
       some (.next (1,s20.2.1,1,s20.2.2.2.1,true,s20.2.2.2.2.2.1,s20.2.2.2.2.2.2.1,s20.2.2.2.2.2.2.2.1,s20.2.2.2.2.2.2.2.2.1,s20.2.2.2.2.2.2.2.2.2.1,s20.2.2.2.2.2.2.2.2.2.2.1,true,s20.2.2.2.2.2.2.2.2.2.2.2.2.1,s20.2.2.2.2.2.2.2.2.2.2.2.2.2.1,s20.2.2.2.2.2.2.2.2.2.2.2.2.2.2.1,s20.2.2.2.2.2.2.2.2.2.2.2.2.2.2.2.1,s20.2.2.2.2.2.2.2.2.2.2.2.2.2.2.2.2.1,s20.2.2.2.2.2.2.2.2.2.2.2.2.2.2.2.2.2.1,s20.2.2.2.2.2.2.2.2.2.2.2.2.2.2.2.2.2.2))
      else
      if s20.2.2.1=1 then
       some (.next (1,s20.2.1,2,s20.2.2.2.1,true,s20.2.2.2.2.2.1,s20.2.2.2.2.2.2.1,s20.2.2.2.2.2.2.2.1,s20.2.2.2.2.2.2.2.2.1,s20.2.2.2.2.2.2.2.2.2.1,s20.2.2.2.2.2.2.2.2.2.2.1,s20.2.2.2.2.2.2.2.2.2.2.2.1,true,s20.2.2.2.2.2.2.2.2.2.2.2.2.2.1,s20.2.2.2.2.2.2.2.2.2.2.2.2.2.2.1,s20.2.2.2.2.2.2.2.2.2.2.2.2.2.2.2.1,s20.2.2.2.2.2.2.2.2.2.2.2.2.2.2.2.2.1,s20.2.2.2.2.2.2.2.2.2.2.2.2.2.2.2.2.2.1,s20.2.2.2.2.2.2.2.2.2.2.2.2.2.2.2.2.2.2))
      else
      if s20.2.2.1=2 then
       some (.next (1,s20.2.1,3,s20.2.2.2.1,true,s20.2.2.2.2.2.1,s20.2.2.2.2.2.2.1,s20.2.2.2.2.2.2.2.1,s20.2.2.2.2.2.2.2.2.1,s20.2.2.2.2.2.2.2.2.2.1,s20.2.2.2.2.2.2.2.2.2.2.1,s20.2.2.2.2.2.2.2.2.2.2.2.1,s20.2.2.2.2.2.2.2.2.2.2.2.2.1,true,s20.2.2.2.2.2.2.2.2.2.2.2.2.2.2.1,s20.2.2.2.2.2.2.2.2.2.2.2.2.2.2.2.1,s20.2.2.2.2.2.2.2.2.2.2.2.2.2.2.2.2.1,s20.2.2.2.2.2.2.2.2.2.2.2.2.2.2.2.2.2.1,s20.2.2.2.2.2.2.2.2.2.2.2.2.2.2.2.2.2.2))
      else
      if s20.2.2.1=3 then
       some (.next (1,s20.2.1,4,s20.2.2.2.1,true,s20.2.2.2.2.2.1,s20.2.2.2.2.2.2.1,s20.2.2.2.2.2.2.2.1,s20.2.2.2.2.2.2.2.2.1,s20.2.2.2.2.2.2.2.2.2.1,s20.2.2.2.2.2.2.2.2.2.2.1,s20.2.2.2.2.2.2.2.2.2.2.2.1,s20.2.2.2.2.2.2.2.2.2.2.2.2.1,s20.2.2.2.2.2.2.2.2.2.2.2.2.2.1,true,s20.2.2.2.2.2.2.2.2.2.2.2.2.2.2.2.1,s20.2.2.2.2.2.2.2.2.2.2.2.2.2.2.2.2.1,s20.2.2.2.2.2.2.2.2.2.2.2.2.2.2.2.2.2.1,s20.2.2.2.2.2.2.2.2.2.2.2.2.2.2.2.2.2.2))
      else
      if s20.2.2.1=4 then
       some (.next (1,s20.2.1,5,s20.2.2.2.1,true,s20.2.2.2.2.2.1,s20.2.2.2.2.2.2.1,s20.2.2.2.2.2.2.2.1,s20.2.2.2.2.2.2.2.2.1,s20.2.2.2.2.2.2.2.2.2.1,s20.2.2.2.2.2.2.2.2.2.2.1,s20.2.2.2.2.2.2.2.2.2.2.2.1,s20.2.2.2.2.2.2.2.2.2.2.2.2.1,s20.2.2.2.2.2.2.2.2.2.2.2.2.2.1,s20.2.2.2.2.2.2.2.2.2.2.2.2.2.2.1,true,s20.2.2.2.2.2.2.2.2.2.2.2.2.2.2.2.2.1,s20.2.2.2.2.2.2.2.2.2.2.2.2.2.2.2.2.2.1,s20.2.2.2.2.2.2.2.2.2.2.2.2.2.2.2.2.2.2))
      else
      if s20.2.2.1=5 then
       some (.next (1,s20.2.1,6,s20.2.2.2.1,true,s20.2.2.2.2.2.1,s20.2.2.2.2.2.2.1,s20.2.2.2.2.2.2.2.1,s20.2.2.2.2.2.2.2.2.1,s20.2.2.2.2.2.2.2.2.2.1,s20.2.2.2.2.2.2.2.2.2.2.1,s20.2.2.2.2.2.2.2.2.2.2.2.1,s20.2.2.2.2.2.2.2.2.2.2.2.2.1,s20.2.2.2.2.2.2.2.2.2.2.2.2.2.1,s20.2.2.2.2.2.2.2.2.2.2.2.2.2.2.1,s20.2.2.2.2.2.2.2.2.2.2.2.2.2.2.2.1,true,s20.2.2.2.2.2.2.2.2.2.2.2.2.2.2.2.2.2.1,s20.2.2.2.2.2.2.2.2.2.2.2.2.2.2.2.2.2.2))
      else
      if s20.2.2.1=6 then
       some (.next (1,s20.2.1,7,s20.2.2.2.1,true,s20.2.2.2.2.2.1,s20.2.2.2.2.2.2.1,s20.2.2.2.2.2.2.2.1,s20.2.2.2.2.2.2.2.2.1,s20.2.2.2.2.2.2.2.2.2.1,s20.2.2.2.2.2.2.2.2.2.2.1,s20.2.2.2.2.2.2.2.2.2.2.2.1,s20.2.2.2.2.2.2.2.2.2.2.2.2.1,s20.2.2.2.2.2.2.2.2.2.2.2.2.2.1,s20.2.2.2.2.2.2.2.2.2.2.2.2.2.2.1,s20.2.2.2.2.2.2.2.2.2.2.2.2.2.2.2.1,s20.2.2.2.2.2.2.2.2.2.2.2.2.2.2.2.2.1,true,s20.2.2.2.2.2.2.2.2.2.2.2.2.2.2.2.2.2.2))
      else
      if s20.2.2.1=7 then
       some (.next (1,s20.2.1,8,s20.2.2.2.1,true,s20.2.2.2.2.2.1,s20.2.2.2.2.2.2.1,s20.2.2.2.2.2.2.2.1,s20.2.2.2.2.2.2.2.2.1,s20.2.2.2.2.2.2.2.2.2.1,s20.2.2.2.2.2.2.2.2.2.2.1,s20.2.2.2.2.2.2.2.2.2.2.2.1,s20.2.2.2.2.2.2.2.2.2.2.2.2.1,s20.2.2.2.2.2.2.2.2.2.2.2.2.2.1,s20.2.2.2.2.2.2.2.2.2.2.2.2.2.2.1,s20.2.2.2.2.2.2.2.2.2.2.2.2.2.2.2.1,s20.2.2.2.2.2.2.2.2.2.2.2.2.2.2.2.2.1,s20.2.2.2.2.2.2.2.2.2.2.2.2.2.2.2.2.2.1,true))
      else
      none
     else
     some (.next (1,s20.2.1,zw (s20.2.2.1+1),s20.2.2.2.1,true,s20.2.2.2.2.2.1,s20.2.2.2.2.2.2.1,s20.2.2.2.2.2.2.2.1,s20.2.2.2.2.2.2.2.2.1,s20.2.2.2.2.2.2.2.2.2.1,s20.2.2.2.2.2.2.2.2.2.2.1,s20.2.2.2.2.2.2.2.2.2.2.2.1,s20.2.2.2.2.2.2.2.2.2.2.2.2.1,s20.2.2.2.2.2.2.2.2.2.2.2.2.2.1,s20.2.2.2.2.2.2.2.2.2.2.2.2.2.2.1,s20.2.2.2.2.2.2.2.2.2.2.2.2.2.2.2.1,s20.2.2.2.2.2.2.2.2.2.2.2.2.2.2.2.2.1,s20.2.2.2.2.2.2.2.2.2.2.2.2.2.2.2.2.2.1,s20.2.2.2.2.2.2.2.2.2.2.2.2.2.2.2.2.2.2))
    else none
   else
   some (.next (1,s20.2.1,zw (s20.2.2.1+1),s20.2.2.2.1,false,s20.2.2.2.2.2.1,s20.2.2.2.2.2.2.1,s20.2.2.2.2.2.2.2.1,s20.2.2.2.2.2.2.2.2.1,s20.2.2.2.2.2.2.2.2.2.1,s20.2.2.2.2.2.2.2.2.2.2.1,s20.2.2.2.2.2.2.2.2.2.2.2.1,s20.2.2.2.2.2.2.2.2.2.2.2.2.1,s20.2.2.2.2.2.2.2.2.2.2.2.2.2.1,s20.2.2.2.2.2.2.2.2.2.2.2.2.2.2.1,s20.2.2.2.2.2.2.2.2.2.2.2.2.2.2.2.1,s20.2.2.2.2.2.2.2.2.2.2.2.2.2.2.2.2.1,s20.2.2.2.2.2.2.2.2.2.2.2.2.2.2.2.2.2.1,s20.2.2.2.2.2.2.2.2.2.2.2.2.2.2.2.2.2.2))
  else
  if s20.1=2 then
   if s20.2.2.2.2.2.1=true then
    if 0<=s20.2.2.1 then
     if ((zv (zb (Int.fdiv a18 (2^min (Int.toNat s20.2.2.1) zk)) &&& zb 1).toNat)==1)=true then
      if s20.2.2.1=0 then
       some (.next (2,s20.2.1,1,s20.2.2.2.1,s20.2.2.2.2.1,true,s20.2.2.2.2.2.2.1,s20.2.2.2.2.2.2.2.1,s20.2.2.2.2.2.2.2.2.1,s20.2.2.2.2.2.2.2.2.2.1,s20.2.2.2.2.2.2.2.2.2.2.1,true,s20.2.2.2.2.2.2.2.2.2.2.2.2.1,s20.2.2.2.2.2.2.2.2.2.2.2.2.2.1,s20.2.2.2.2.2.2.2.2.2.2.2.2.2.2.1,s20.2.2.2.2.2.2.2.2.2.2.2.2.2.2.2.1,s20.2.2.2.2.2.2.2.2.2.2.2.2.2.2.2.2.1,s20.2.2.2.2.2.2.2.2.2.2.2.2.2.2.2.2.2.1,s20.2.2.2.2.2.2.2.2.2.2.2.2.2.2.2.2.2.2))
      else
      if s20.2.2.1=1 then
       some (.next (2,s20.2.1,2,s20.2.2.2.1,s20.2.2.2.2.1,true,s20.2.2.2.2.2.2.1,s20.2.2.2.2.2.2.2.1,s20.2.2.2.2.2.2.2.2.1,s20.2.2.2.2.2.2.2.2.2.1,s20.2.2.2.2.2.2.2.2.2.2.1,s20.2.2.2.2.2.2.2.2.2.2.2.1,true,s20.2.2.2.2.2.2.2.2.2.2.2.2.2.1,s20.2.2.2.2.2.2.2.2.2.2.2.2.2.2.1,s20.2.2.2.2.2.2.2.2.2.2.2.2.2.2.2.1,s20.2.2.2.2.2.2.2.2.2.2.2.2.2.2.2.2.1,s20.2.2.2.2.2.2.2.2.2.2.2.2.2.2.2.2.2.1,s20.2.2.2.2.2.2.2.2.2.2.2.2.2.2.2.2.2.2))
      else
      if s20.2.2.1=2 then
       some (.next (2,s20.2.1,3,s20.2.2.2.1,s20.2.2.2.2.1,true,s20.2.2.2.2.2.2.1,s20.2.2.2.2.2.2.2.1,s20.2.2.2.2.2.2.2.2.1,s20.2.2.2.2.2.2.2.2.2.1,s20.2.2.2.2.2.2.2.2.2.2.1,s20.2.2.2.2.2.2.2.2.2.2.2.1,s20.2.2.2.2.2.2.2.2.2.2.2.2.1,true,s20.2.2.2.2.2.2.2.2.2.2.2.2.2.2.1,s20.2.2.2.2.2.2.2.2.2.2.2.2.2.2.2.1,s20.2.2.2.2.2.2.2.2.2.2.2.2.2.2.2.2.1,s20.2.2.2.2.2.2.2.2.2.2.2.2.2.2.2.2.2.1,s20.2.2.2.2.2.2.2.2.2.2.2.2.2.2.2.2.2.2))
      else
      if s20.2.2.1=3 then
       some (.next (2,s20.2.1,4,s20.2.2.2.1,s20.2.2.2.2.1,true,s20.2.2.2.2.2.2.1,s20.2.2.2.2.2.2.2.1,s20.2.2.2.2.2.2.2.2.1,s20.2.2.2.2.2.2.2.2.2.1,s20.2.2.2.2.2.2.2.2.2.2.1,s20.2.2.2.2.2.2.2.2.2.2.2.1,s20.2.2.2.2.2.2.2.2.2.2.2.2.1,s20.2.2.2.2.2.2.2.2.2.2.2.2.2.1,true,s20.2.2.2.2.2.2.2.2.2.2.2.2.2.2.2.1,s20.2.2.2.2.2.2.2.2.2.2.2.2.2.2.2.2.1,s20.2.2.2.2.2.2.2.2.2.2.2.2.2.2.2.2.2.1,s20.2.2.2.2.2.2.2.2.2.2.2.2.2.2.2.2.2.2))
      else
      if s20.2.2.1=4 then
       some (.next (2,s20.2.1,5,s20.2.2.2.1,s20.2.2.2.2.1,true,s20.2.2.2.2.2.2.1,s20.2.2.2.2.2.2.2.1,s20.2.2.2.2.2.2.2.2.1,s20.2.2.2.2.2.2.2.2.2.1,s20.2.2.2.2.2.2.2.2.2.2.1,s20.2.2.2.2.2.2.2.2.2.2.2.1,s20.2.2.2.2.2.2.2.2.2.2.2.2.1,s20.2.2.2.2.2.2.2.2.2.2.2.2.2.1,s20.2.2.2.2.2.2.2.2.2.2.2.2.2.2.1,true,s20.2.2.2.2.2.2.2.2.2.2.2.2.2.2.2.2.1,s20.2.2.2.2.2.2.2.2.2.2.2.2.2.2.2.2.2.1,s20.2.2.2.2.2.2.2.2.2.2.2.2.2.2.2.2.2.2))
      else
      if s20.2.2.1=5 then
       some (.next (2,s20.2.1,6,s20.2.2.2.1,s20.2.2.2.2.1,true,s20.2.2.2.2.2.2.1,s20.2.2.2.2.2.2.2.1,s20.2.2.2.2.2.2.2.2.1,s20.2.2.2.2.2.2.2.2.2.1,s20.2.2.2.2.2.2.2.2.2.2.1,s20.2.2.2.2.2.2.2.2.2.2.2.1,s20.2.2.2.2.2.2.2.2.2.2.2.2.1,s20.2.2.2.2.2.2.2.2.2.2.2.2.2.1,s20.2.2.2.2.2.2.2.2.2.2.2.2.2.2.1,s20.2.2.2.2.2.2.2.2.2.2.2.2.2.2.2.1,true,s20.2.2.2.2.2.2.2.2.2.2.2.2.2.2.2.2.2.1,s20.2.2.2.2.2.2.2.2.2.2.2.2.2.2.2.2.2.2))
      else
      if s20.2.2.1=6 then
       some (.next (2,s20.2.1,7,s20.2.2.2.1,s20.2.2.2.2.1,true,s20.2.2.2.2.2.2.1,s20.2.2.2.2.2.2.2.1,s20.2.2.2.2.2.2.2.2.1,s20.2.2.2.2.2.2.2.2.2.1,s20.2.2.2.2.2.2.2.2.2.2.1,s20.2.2.2.2.2.2.2.2.2.2.2.1,s20.2.2.2.2.2.2.2.2.2.2.2.2.1,s20.2.2.2.2.2.2.2.2.2.2.2.2.2.1,s20.2.2.2.2.2.2.2.2.2.2.2.2.2.2.1,s20.2.2.2.2.2.2.2.2.2.2.2.2.2.2.2.1,s20.2.2.2.2.2.2.2.2.2.2.2.2.2.2.2.2.1,true,s20.2.2.2.2.2.2.2.2.2.2.2.2.2.2.2.2.2.2))
      else
      if s20.2.2.1=7 then
       some (.next (2,s20.2.1,8,s20.2.2.2.1,s20.2.2.2.2.1,true,s20.2.2.2.2.2.2.1,s20.2.2.2.2.2.2.2.1,s20.2.2.2.2.2.2.2.2.1,s20.2.2.2.2.2.2.2.2.2.1,s20.2.2.2.2.2.2.2.2.2.2.1,s20.2.2.2.2.2.2.2.2.2.2.2.1,s20.2.2.2.2.2.2.2.2.2.2.2.2.1,s20.2.2.2.2.2.2.2.2.2.2.2.2.2.1,s20.2.2.2.2.2.2.2.2.2.2.2.2.2.2.1,s20.2.2.2.2.2.2.2.2.2.2.2.2.2.2.2.1,s20.2.2.2.2.2.2.2.2.2.2.2.2.2.2.2.2.1,s20.2.2.2.2.2.2.2.2.2.2.2.2.2.2.2.2.2.1,true))
      else
      none
     else
     some (.next (2,s20.2.1,zw (s20.2.2.1+1),s20.2.2.2.1,s20.2.2.2.2.1,true,s20.2.2.2.2.2.2.1,s20.2.2.2.2.2.2.2.1,s20.2.2.2.2.2.2.2.2.1,s20.2.2.2.2.2.2.2.2.2.1,s20.2.2.2.2.2.2.2.2.2.2.1,s20.2.2.2.2.2.2.2.2.2.2.2.1,s20.2.2.2.2.2.2.2.2.2.2.2.2.1,s20.2.2.2.2.2.2.2.2.2.2.2.2.2.1,s20.2.2.2.2.2.2.2.2.2.2.2.2.2.2.1,s20.2.2.2.2.2.2.2.2.2.2.2.2.2.2.2.1,s20.2.2.2.2.2.2.2.2.2.2.2.2.2.2.2.2.1,s20.2.2.2.2.2.2.2.2.2.2.2.2.2.2.2.2.2.1,s20.2.2.2.2.2.2.2.2.2.2.2.2.2.2.2.2.2.2))
    else none
   else
   some (.next (2,s20.2.1,zw (s20.2.2.1+1),s20.2.2.2.1,s20.2.2.2.2.1,false,s20.2.2.2.2.2.2.1,s20.2.2.2.2.2.2.2.1,s20.2.2.2.2.2.2.2.2.1,s20.2.2.2.2.2.2.2.2.2.1,s20.2.2.2.2.2.2.2.2.2.2.1,s20.2.2.2.2.2.2.2.2.2.2.2.1,s20.2.2.2.2.2.2.2.2.2.2.2.2.1,s20.2.2.2.2.2.2.2.2.2.2.2.2.2.1,s20.2.2.2.2.2.2.2.2.2.2.2.2.2.2.1,s20.2.2.2.2.2.2.2.2.2.2.2.2.2.2.2.1,s20.2.2.2.2.2.2.2.2.2.2.2.2.2.2.2.2.1,s20.2.2.2.2.2.2.2.2.2.2.2.2.2.2.2.2.2.1,s20.2.2.2.2.2.2.2.2.2.2.2.2.2.2.2.2.2.2))
  else
  if s20.1=3 then
   if s20.2.2.2.2.2.2.1=true then
    if 0<=s20.2.2.1 then
     if ((zv (zb (Int.fdiv a18 (2^min (Int.toNat s20.2.2.1) zk)) &&& zb 1).toNat)==1)=true then
      if s20.2.2.1=0 then
       some (.next (3,s20.2.1,1,s20.2.2.2.1,s20.2.2.2.2.1,s20.2.2.2.2.2.1,true,s20.2.2.2.2.2.2.2.1,s20.2.2.2.2.2.2.2.2.1,s20.2.2.2.2.2.2.2.2.2.1,s20.2.2.2.2.2.2.2.2.2.2.1,true,s20.2.2.2.2.2.2.2.2.2.2.2.2.1,s20.2.2.2.2.2.2.2.2.2.2.2.2.2.1,s20.2.2.2.2.2.2.2.2.2.2.2.2.2.2.1,s20.2.2.2.2.2.2.2.2.2.2.2.2.2.2.2.1,s20.2.2.2.2.2.2.2.2.2.2.2.2.2.2.2.2.1,s20.2.2.2.2.2.2.2.2.2.2.2.2.2.2.2.2.2.1,s20.2.2.2.2.2.2.2.2.2.2.2.2.2.2.2.2.2.2))
      else
      if s20.2.2.1=1 then
       some (.next (3,s20.2.1,2,s20.2.2.2.1,s20.2.2.2.2.1,s20.2.2.2.2.2.1,true,s20.2.2.2.2.2.2.2.1,s20.2.2.2.2.2.2.2.2.1,s20.2.2.2.2.2.2.2.2.2.1,s20.2.2.2.2.2.2.2.2.2.2.1,s20.2.2.2.2.2.2.2.2.2.2.2.1,true,s20.2.2.2.2.2.2.2.2.2.2.2.2.2.1,s20.2.2.2.2.2.2.2.2.2.2.2.2.2.2.1,s20.2.2.2.2.2.2.2.2.2.2.2.2.2.2.2.1,s20.2.2.2.2.2.2.2.2.2.2.2.2.2.2.2.2.1,s20.2.2.2.2.2.2.2.2.2.2.2.2.2.2.2.2.2.1,s20.2.2.2.2.2.2.2.2.2.2.2.2.2.2.2.2.2.2))
      else
      if s20.2.2.1=2 then
       some (.next (3,s20.2.1,3,s20.2.2.2.1,s20.2.2.2.2.1,s20.2.2.2.2.2.1,true,s20.2.2.2.2.2.2.2.1,s20.2.2.2.2.2.2.2.2.1,s20.2.2.2.2.2.2.2.2.2.1,s20.2.2.2.2.2.2.2.2.2.2.1,s20.2.2.2.2.2.2.2.2.2.2.2.1,s20.2.2.2.2.2.2.2.2.2.2.2.2.1,true,s20.2.2.2.2.2.2.2.2.2.2.2.2.2.2.1,s20.2.2.2.2.2.2.2.2.2.2.2.2.2.2.2.1,s20.2.2.2.2.2.2.2.2.2.2.2.2.2.2.2.2.1,s20.2.2.2.2.2.2.2.2.2.2.2.2.2.2.2.2.2.1,s20.2.2.2.2.2.2.2.2.2.2.2.2.2.2.2.2.2.2))
      else
      if s20.2.2.1=3 then
       some (.next (3,s20.2.1,4,s20.2.2.2.1,s20.2.2.2.2.1,s20.2.2.2.2.2.1,true,s20.2.2.2.2.2.2.2.1,s20.2.2.2.2.2.2.2.2.1,s20.2.2.2.2.2.2.2.2.2.1,s20.2.2.2.2.2.2.2.2.2.2.1,s20.2.2.2.2.2.2.2.2.2.2.2.1,s20.2.2.2.2.2.2.2.2.2.2.2.2.1,s20.2.2.2.2.2.2.2.2.2.2.2.2.2.1,true,s20.2.2.2.2.2.2.2.2.2.2.2.2.2.2.2.1,s20.2.2.2.2.2.2.2.2.2.2.2.2.2.2.2.2.1,s20.2.2.2.2.2.2.2.2.2.2.2.2.2.2.2.2.2.1,s20.2.2.2.2.2.2.2.2.2.2.2.2.2.2.2.2.2.2))
      else
      if s20.2.2.1=4 then
       some (.next (3,s20.2.1,5,s20.2.2.2.1,s20.2.2.2.2.1,s20.2.2.2.2.2.1,true,s20.2.2.2.2.2.2.2.1,s20.2.2.2.2.2.2.2.2.1,s20.2.2.2.2.2.2.2.2.2.1,s20.2.2.2.2.2.2.2.2.2.2.1,s20.2.2.2.2.2.2.2.2.2.2.2.1,s20.2.2.2.2.2.2.2.2.2.2.2.2.1,s20.2.2.2.2.2.2.2.2.2.2.2.2.2.1,s20.2.2.2.2.2.2.2.2.2.2.2.2.2.2.1,true,s20.2.2.2.2.2.2.2.2.2.2.2.2.2.2.2.2.1,s20.2.2.2.2.2.2.2.2.2.2.2.2.2.2.2.2.2.1,s20.2.2.2.2.2.2.2.2.2.2.2.2.2.2.2.2.2.2))
      else
      if s20.2.2.1=5 then
       some (.next (3,s20.2.1,6,s20.2.2.2.1,s20.2.2.2.2.1,s20.2.2.2.2.2.1,true,s20.2.2.2.2.2.2.2.1,s20.2.2.2.2.2.2.2.2.1,s20.2.2.2.2.2.2.2.2.2.1,s20.2.2.2.2.2.2.2.2.2.2.1,s20.2.2.2.2.2.2.2.2.2.2.2.1,s20.2.2.2.2.2.2.2.2.2.2.2.2.1,s20.2.2.2.2.2.2.2.2.2.2.2.2.2.1,s20.2.2.2.2.2.2.2.2.2.2.2.2.2.2.1,s20.2.2.2.2.2.2.2.2.2.2.2.2.2.2.2.1,true,s20.2.2.2.2.2.2.2.2.2.2.2.2.2.2.2.2.2.1,s20.2.2.2.2.2.2.2.2.2.2.2.2.2.2.2.2.2.2))
      else
      if s20.2.2.1=6 then
       some (.next (3,s20.2.1,7,s20.2.2.2.1,s20.2.2.2.2.1,s20.2.2.2.2.2.1,true,s20.2.2.2.2.2.2.2.1,s20.2.2.2.2.2.2.2.2.1,s20.2.2.2.2.2.2.2.2.2.1,s20.2.2.2.2.2.2.2.2.2.2.1,s20.2.2.2.2.2.2.2.2.2.2.2.1,s20.2.2.2.2.2.2.2.2.2.2.2.2.1,s20.2.2.2.2.2.2.2.2.2.2.2.2.2.1,s20.2.2.2.2.2.2.2.2.2.2.2.2.2.2.1,s20.2.2.2.2.2.2.2.2.2.2.2.2.2.2.2.1,s20.2.2.2.2.2.2.2.2.2.2.2.2.2.2.2.2.1,true,s20.2.2.2.2.2.2.2.2.2.2.2.2.2.2.2.2.2.2))
      else
      if s20.2.2.1=7 then
       some (.next (3,s20.2.1,8,s20.2.2.2.1,s20.2.2.2.2.1,s20.2.2.2.2.2.1,true,s20.2.2.2.2.2.2.2.1,s20.2.2.2.2.2.2.2.2.1,s20.2.2.2.2.2.2.2.2.2.1,s20.2.2.2.2.2.2.2.2.2.2.1,s20.2.2.2.2.2.2.2.2.2.2.2.1,s20.2.2.2.2.2.2.2.2.2.2.2.2.1,s20.2.2.2.2.2.2.2.2.2.2.2.2.2.1,s20.2.2.2.2.2.2.2.2.2.2.2.2.2.2.1,s20.2.2.2.2.2.2.2.2.2.2.2.2.2.2.2.1,s20.2.2.2.2.2.2.2.2.2.2.2.2.2.2.2.2.1,s20.2.2.2.2.2.2.2.2.2.2.2.2.2.2.2.2.2.1,true))
      else
      none
     else
     some (.next (3,s20.2.1,zw (s20.2.2.1+1),s20.2.2.2.1,s20.2.2.2.2.1,s20.2.2.2.2.2.1,true,s20.2.2.2.2.2.2.2.1,s20.2.2.2.2.2.2.2.2.1,s20.2.2.2.2.2.2.2.2.2.1,s20.2.2.2.2.2.2.2.2.2.2.1,s20.2.2.2.2.2.2.2.2.2.2.2.1,s20.2.2.2.2.2.2.2.2.2.2.2.2.1,s20.2.2.2.2.2.2.2.2.2.2.2.2.2.1,s20.2.2.2.2.2.2.2.2.2.2.2.2.2.2.1,s20.2.2.2.2.2.2.2.2.2.2.2.2.2.2.2.1,s20.2.2.2.2.2.2.2.2.2.2.2.2.2.2.2.2.1,s20.2.2.2.2.2.2.2.2.2.2.2.2.2.2.2.2.2.1,s20.2.2.2.2.2.2.2.2.2.2.2.2.2.2.2.2.2.2))
    else none
   else
   some (.next (3,s20.2.1,zw (s20.2.2.1+1),s20.2.2.2.1,s20.2.2.2.2.1,s20.2.2.2.2.2.1,false,s20.2.2.2.2.2.2.2.1,s20.2.2.2.2.2.2.2.2.1,s20.2.2.2.2.2.2.2.2.2.1,s20.2.2.2.2.2.2.2.2.2.2.1,s20.2.2.2.2.2.2.2.2.2.2.2.1,s20.2.2.2.2.2.2.2.2.2.2.2.2.1,s20.2.2.2.2.2.2.2.2.2.2.2.2.2.1,s20.2.2.2.2.2.2.2.2.2.2.2.2.2.2.1,s20.2.2.2.2.2.2.2.2.2.2.2.2.2.2.2.1,s20.2.2.2.2.2.2.2.2.2.2.2.2.2.2.2.2.1,s20.2.2.2.2.2.2.2.2.2.2.2.2.2.2.2.2.2.1,s20.2.2.2.2.2.2.2.2.2.2.2.2.2.2.2.2.2.2))
  else
  if s20.1=4 then
   if s20.2.2.2.2.2.2.2.1=true then
    if 0<=s20.2.2.1 then
     if ((zv (zb (Int.fdiv a18 (2^min (Int.toNat s20.2.2.1) zk)) &&& zb 1).toNat)==1)=true then
      if s20.2.2.1=0 then
       some (.next (4,s20.2.1,1,s20.2.2.2.1,s20.2.2.2.2.1,s20.2.2.2.2.2.1,s20.2.2.2.2.2.2.1,true,s20.2.2.2.2.2.2.2.2.1,s20.2.2.2.2.2.2.2.2.2.1,s20.2.2.2.2.2.2.2.2.2.2.1,true,s20.2.2.2.2.2.2.2.2.2.2.2.2.1,s20.2.2.2.2.2.2.2.2.2.2.2.2.2.1,s20.2.2.2.2.2.2.2.2.2.2.2.2.2.2.1,s20.2.2.2.2.2.2.2.2.2.2.2.2.2.2.2.1,s20.2.2.2.2.2.2.2.2.2.2.2.2.2.2.2.2.1,s20.2.2.2.2.2.2.2.2.2.2.2.2.2.2.2.2.2.1,s20.2.2.2.2.2.2.2.2.2.2.2.2.2.2.2.2.2.2))
      else
      if s20.2.2.1=1 then
       some (.next (4,s20.2.1,2,s20.2.2.2.1,s20.2.2.2.2.1,s20.2.2.2.2.2.1,s20.2.2.2.2.2.2.1,true,s20.2.2.2.2.2.2.2.2.1,s20.2.2.2.2.2.2.2.2.2.1,s20.2.2.2.2.2.2.2.2.2.2.1,s20.2.2.2.2.2.2.2.2.2.2.2.1,true,s20.2.2.2.2.2.2.2.2.2.2.2.2.2.1,s20.2.2.2.2.2.2.2.2.2.2.2.2.2.2.1,s20.2.2.2.2.2.2.2.2.2.2.2.2.2.2.2.1,s20.2.2.2.2.2.2.2.2.2.2.2.2.2.2.2.2.1,s20.2.2.2.2.2.2.2.2.2.2.2.2.2.2.2.2.2.1,s20.2.2.2.2.2.2.2.2.2.2.2.2.2.2.2.2.2.2))
      else
      if s20.2.2.1=2 then
       some (.next (4,s20.2.1,3,s20.2.2.2.1,s20.2.2.2.2.1,s20.2.2.2.2.2.1,s20.2.2.2.2.2.2.1,true,s20.2.2.2.2.2.2.2.2.1,s20.2.2.2.2.2.2.2.2.2.1,s20.2.2.2.2.2.2.2.2.2.2.1,s20.2.2.2.2.2.2.2.2.2.2.2.1,s20.2.2.2.2.2.2.2.2.2.2.2.2.1,true,s20.2.2.2.2.2.2.2.2.2.2.2.2.2.2.1,s20.2.2.2.2.2.2.2.2.2.2.2.2.2.2.2.1,s20.2.2.2.2.2.2.2.2.2.2.2.2.2.2.2.2.1,s20.2.2.2.2.2.2.2.2.2.2.2.2.2.2.2.2.2.1,s20.2.2.2.2.2.2.2.2.2.2.2.2.2.2.2.2.2.2))
      else
      if s20.2.2.1=3 then
       some (.next (4,s20.2.1,4,s20.2.2.2.1,s20.2.2.2.2.1,s20.2.2.2.2.2.1,s20.2.2.2.2.2.2.1,true,s20.2.2.2.2.2.2.2.2.1,s20.2.2.2.2.2.2.2.2.2.1,s20.2.2.2.2.2.2.2.2.2.2.1,s20.2.2.2.2.2.2.2.2.2.2.2.1,s20.2.2.2.2.2.2.2.2.2.2.2.2.1,s20.2.2.2.2.2.2.2.2.2.2.2.2.2.1,true,s20.2.2.2.2.2.2.2.2.2.2.2.2.2.2.2.1,s20.2.2.2.2.2.2.2.2.2.2.2.2.2.2.2.2.1,s20.2.2.2.2.2.2.2.2.2.2.2.2.2.2.2.2.2.1,s20.2.2.2.2.2.2.2.2.2.2.2.2.2.2.2.2.2.2))
      else
      if s20.2.2.1=4 then
       some (.next (4,s20.2.1,5,s20.2.2.2.1,s20.2.2.2.2.1,s20.2.2.2.2.2.1,s20.2.2.2.2.2.2.1,true,s20.2.2.2.2.2.2.2.2.1,s20.2.2.2.2.2.2.2.2.2.1,s20.2.2.2.2.2.2.2.2.2.2.1,s20.2.2.2.2.2.2.2.2.2.2.2.1,s20.2.2.2.2.2.2.2.2.2.2.2.2.1,s20.2.2.2.2.2.2.2.2.2.2.2.2.2.1,s20.2.2.2.2.2.2.2.2.2.2.2.2.2.2.1,true,s20.2.2.2.2.2.2.2.2.2.2.2.2.2.2.2.2.1,s20.2.2.2.2.2.2.2.2.2.2.2.2.2.2.2.2.2.1,s20.2.2.2.2.2.2.2.2.2.2.2.2.2.2.2.2.2.2))
      else
      if s20.2.2.1=5 then
       some (.next (4,s20.2.1,6,s20.2.2.2.1,s20.2.2.2.2.1,s20.2.2.2.2.2.1,s20.2.2.2.2.2.2.1,true,s20.2.2.2.2.2.2.2.2.1,s20.2.2.2.2.2.2.2.2.2.1,s20.2.2.2.2.2.2.2.2.2.2.1,s20.2.2.2.2.2.2.2.2.2.2.2.1,s20.2.2.2.2.2.2.2.2.2.2.2.2.1,s20.2.2.2.2.2.2.2.2.2.2.2.2.2.1,s20.2.2.2.2.2.2.2.2.2.2.2.2.2.2.1,s20.2.2.2.2.2.2.2.2.2.2.2.2.2.2.2.1,true,s20.2.2.2.2.2.2.2.2.2.2.2.2.2.2.2.2.2.1,s20.2.2.2.2.2.2.2.2.2.2.2.2.2.2.2.2.2.2))
      else
      if s20.2.2.1=6 then
       some (.next (4,s20.2.1,7,s20.2.2.2.1,s20.2.2.2.2.1,s20.2.2.2.2.2.1,s20.2.2.2.2.2.2.1,true,s20.2.2.2.2.2.2.2.2.1,s20.2.2.2.2.2.2.2.2.2.1,s20.2.2.2.2.2.2.2.2.2.2.1,s20.2.2.2.2.2.2.2.2.2.2.2.1,s20.2.2.2.2.2.2.2.2.2.2.2.2.1,s20.2.2.2.2.2.2.2.2.2.2.2.2.2.1,s20.2.2.2.2.2.2.2.2.2.2.2.2.2.2.1,s20.2.2.2.2.2.2.2.2.2.2.2.2.2.2.2.1,s20.2.2.2.2.2.2.2.2.2.2.2.2.2.2.2.2.1,true,s20.2.2.2.2.2.2.2.2.2.2.2.2.2.2.2.2.2.2))
      else
      if s20.2.2.1=7 then
       some (.next (4,s20.2.1,8,s20.2.2.2.1,s20.2.2.2.2.1,s20.2.2.2.2.2.1,s20.2.2.2.2.2.2.1,true,s20.2.2.2.2.2.2.2.2.1,s20.2.2.2.2.2.2.2.2.2.1,s20.2.2.2.2.2.2.2.2.2.2.1,s20.2.2.2.2.2.2.2.2.2.2.2.1,s20.2.2.2.2.2.2.2.2.2.2.2.2.1,s20.2.2.2.2.2.2.2.2.2.2.2.2.2.1,s20.2.2.2.2.2.2.2.2.2.2.2.2.2.2.1,s20.2.2.2.2.2.2.2.2.2.2.2.2.2.2.2.1,s20.2.2.2.2.2.2.2.2.2.2.2.2.2.2.2.2.1,s20.2.2.2.2.2.2.2.2.2.2.2.2.2.2.2.2.2.1,true))
      else
      none
     else
     some (.next (4,s20.2.1,zw (s20.2.2.1+1),s20.2.2.2.1,s20.2.2.2.2.1,s20.2.2.2.2.2.1,s20.2.2.2.2.2.2.1,true,s20.2.2.2.2.2.2.2.2.1,s20.2.2.2.2.2.2.2.2.2.1,s20.2.2.2.2.2.2.2.2.2.2.1,s20.2.2.2.2.2.2.2.2.2.2.2.1,s20.2.2.2.2.2.2.2.2.2.2.2.2.1,s20.2.2.2.2.2.2.2.2.2.2.2.2.2.1,s20.2.2.2.2.2.2.2.2.2.2.2.2.2.2.1,s20.2.2.2.2.2.2.2.2.2.2.2.2.2.2.2.1,s20.2.2.2.2.2.2.2.2.2.2.2.2.2.2.2.2.1,s20.2.2.2.2.2.2.2.2.2.2.2.2.2.2.2.2.2.1,s20.2.2.2.2.2.2.2.2.2.2.2.2.2.2.2.2.2.2))
    else none
   else
   some (.next (4,s20.2.1,zw (s20.2.2.1+1),s20.2.2.2.1,s20.2.2.2.2.1,s20.2.2.2.2.2.1,s20.2.2.2.2.2.2.1,false,s20.2.2.2.2.2.2.2.2.1,s20.2.2.2.2.2.2.2.2.2.1,s20.2.2.2.2.2.2.2.2.2.2.1,s20.2.2.2.2.2.2.2.2.2.2.2.1,s20.2.2.2.2.2.2.2.2.2.2.2.2.1,s20.2.2.2.2.2.2.2.2.2.2.2.2.2.1,s20.2.2.2.2.2.2.2.2.2.2.2.2.2.2.1,s20.2.2.2.2.2.2.2.2.2.2.2.2.2.2.2.1,s20.2.2.2.2.2.2.2.2.2.2.2.2.2.2.2.2.1,s20.2.2.2.2.2.2.2.2.2.2.2.2.2.2.2.2.2.1,s20.2.2.2.2.2.2.2.2.2.2.2.2.2.2.2.2.2.2))
  else
  if s20.1=5 then
   if s20.2.2.2.2.2.2.2.2.1=true then
    if 0<=s20.2.2.1 then
     if ((zv (zb (Int.fdiv a18 (2^min (Int.toNat s20.2.2.1) zk)) &&& zb 1).toNat)==1)=true then
      if s20.2.2.1=0 then
       some (.next (5,s20.2.1,1,s20.2.2.2.1,s20.2.2.2.2.1,s20.2.2.2.2.2.1,s20.2.2.2.2.2.2.1,s20.2.2.2.2.2.2.2.1,true,s20.2.2.2.2.2.2.2.2.2.1,s20.2.2.2.2.2.2.2.2.2.2.1,true,s20.2.2.2.2.2.2.2.2.2.2.2.2.1,s20.2.2.2.2.2.2.2.2.2.2.2.2.2.1,s20.2.2.2.2.2.2.2.2.2.2.2.2.2.2.1,s20.2.2.2.2.2.2.2.2.2.2.2.2.2.2.2.1,s20.2.2.2.2.2.2.2.2.2.2.2.2.2.2.2.2.1,s20.2.2.2.2.2.2.2.2.2.2.2.2.2.2.2.2.2.1,s20.2.2.2.2.2.2.2.2.2.2.2.2.2.2.2.2.2.2))
      else
      if s20.2.2.1=1 then
       some (.next (5,s20.2.1,2,s20.2.2.2.1,s20.2.2.2.2.1,s20.2.2.2.2.2.1,s20.2.2.2.2.2.2.1,s20.2.2.2.2.2.2.2.1,true,s20.2.2.2.2.2.2.2.2.2.1,s20.2.2.2.2.2.2.2.2.2.2.1,s20.2.2.2.2.2.2.2.2.2.2.2.1,true,s20.2.2.2.2.2.2.2.2.2.2.2.2.2.1,s20.2.2.2.2.2.2.2.2.2.2.2.2.2.2.1,s20.2.2.2.2.2.2.2.2.2.2.2.2.2.2.2.1,s20.2.2.2.2.2.2.2.2.2.2.2.2.2.2.2.2.1,s20.2.2.2.2.2.2.2.2.2.2.2.2.2.2.2.2.2.1,s20.2.2.2.2.2.2.2.2.2.2.2.2.2.2.2.2.2.2))
      else
      if s20.2.2.1=2 then
       some (.next (5,s20.2.1,3,s20.2.2.2.1,s20.2.2.2.2.1,s20.2.2.2.2.2.1,s20.2.2.2.2.2.2.1,s20.2.2.2.2.2.2.2.1,true,s20.2.2.2.2.2.2.2.2.2.1,s20.2.2.2.2.2.2.2.2.2.2.1,s20.2.2.2.2.2.2.2.2.2.2.2.1,s20.2.2.2.2.2.2.2.2.2.2.2.2.1,true,s20.2.2.2.2.2.2.2.2.2.2.2.2.2.2.1,s20.2.2.2.2.2.2.2.2.2.2.2.2.2.2.2.1,s20.2.2.2.2.2.2.2.2.2.2.2.2.2.2.2.2.1,s20.2.2.2.2.2.2.2.2.2.2.2.2.2.2.2.2.2.1,s20.2.2.2.2.2.2.2.2.2.2.2.2.2.2.2.2.2.2))
      else
      if s20.2.2.1=3 then
       some (.next (5,s20.2.1,4,s20.2.2.2.1,s20.2.2.2.2.1,s20.2.2.2.2.2.1,s20.2.2.2.2.2.2.1,s20.2.2.2.2.2.2.2.1,true,s20.2.2.2.2.2.2.2.2.2.1,s20.2.2.2.2.2.2.2.2.2.2.1,s20.2.2.2.2.2.2.2.2.2.2.2.1,s20.2.2.2.2.2.2.2.2.2.2.2.2.1,s20.2.2.2.2.2.2.2.2.2.2.2.2.2.1,true,s20.2.2.2.2.2.2.2.2.2.2.2.2.2.2.2.1,s20.2.2.2.2.2.2.2.2.2.2.2.2.2.2.2.2.1,s20.2.2.2.2.2.2.2.2.2.2.2.2.2.2.2.2.2.1,s20.2.2.2.2.2.2.2.2.2.2.2.2.2.2.2.2.2.2))
      else
      if s20.2.2.1=4 then
       some (.next (5,s20.2.1,5,s20.2.2.2.1,s20.2.2.2.2.1,s20.2.2.2.2.2.1,s20.2.2.2.2.2.2.1,s20.2.2.2.2.2.2.2.1,true,s20.2.2.2.2.2.2.2.2.2.1,s20.2.2.2.2.2.2.2.2.2.2.1,s20.2.2.2.2.2.2.2.2.2.2.2.1,s20.2.2.2.2.2.2.2.2.2.2.2.2.1,s20.2.2.2.2.2.2.2.2.2.2.2.2.2.1,s20.2.2.2.2.2.2.2.2.2.2.2.2.2.2.1,true,s20.2.2.2.2.2.2.2.2.2.2.2.2.2.2.2.2.1,s20.2.2.2.2.2.2.2.2.2.2.2.2.2.2.2.2.2.1,s20.2.2.2.2.2.2.2.2.2.2.2.2.2.2.2.2.2.2))
      else
      if s20.2.2.1=5 then
       some (.next (5,s20.2.1,6,s20.2.2.2.1,s20.2.2.2.2.1,s20.2.2.2.2.2.1,s20.2.2.2.2.2.2.1,s20.2.2.2.2.2.2.2.1,true,s20.2.2.2.2.2.2.2.2.2.1,s20.2.2.2.2.2.2.2.2.2.2.1,s20.2.2.2.2.2.2.2.2.2.2.2.1,s20.2.2.2.2.2.2.2.2.2.2.2.2.1,s20.2.2.2.2.2.2.2.2.2.2.2.2.2.1,s20.2.2.2.2.2.2.2.2.2.2.2.2.2.2.1,s20.2.2.2.2.2.2.2.2.2.2.2.2.2.2.2.1,true,s20.2.2.2.2.2.2.2.2.2.2.2.2.2.2.2.2.2.1,s20.2.2.2.2.2.2.2.2.2.2.2.2.2.2.2.2.2.2))
      else
      if s20.2.2.1=6 then
       some (.next (5,s20.2.1,7,s20.2.2.2.1,s20.2.2.2.2.1,s20.2.2.2.2.2.1,s20.2.2.2.2.2.2.1,s20.2.2.2.2.2.2.2.1,true,s20.2.2.2.2.2.2.2.2.2.1,s20.2.2.2.2.2.2.2.2.2.2.1,s20.2.2.2.2.2.2.2.2.2.2.2.1,s20.2.2.2.2.2.2.2.2.2.2.2.2.1,s20.2.2.2.2.2.2.2.2.2.2.2.2.2.1,s20.2.2.2.2.2.2.2.2.2.2.2.2.2.2.1,s20.2.2.2.2.2.2.2.2.2.2.2.2.2.2.2.1,s20.2.2.2.2.2.2.2.2.2.2.2.2.2.2.2.2.1,true,s20.2.2.2.2.2.2.2.2.2.2.2.2.2.2.2.2.2.2))
      else
      if s20.2.2.1=7 then
       some (.next (5,s20.2.1,8,s20.2.2.2.1,s20.2.2.2.2.1,s20.2.2.2.2.2.1,s20.2.2.2.2.2.2.1,s20.2.2.2.2.2.2.2.1,true,s20.2.2.2.2.2.2.2.2.2.1,s20.2.2.2.2.2.2.2.2.2.2.1,s20.2.2.2.2.2.2.2.2.2.2.2.1,s20.2.2.2.2.2.2.2.2.2.2.2.2.1,s20.2.2.2.2.2.2.2.2.2.2.2.2.2.1,s20.2.2.2.2.2.2.2.2.2.2.2.2.2.2.1,s20.2.2.2.2.2.2.2.2.2.2.2.2.2.2.2.1,s20.2.2.2.2.2.2.2.2.2.2.2.2.2.2.2.2.1,s20.2.2.2.2.2.2.2.2.2.2.2.2.2.2.2.2.2.1,true))
      else
      none
     else
     some (.next (5,s20.2.1,zw (s20.2.2.1+1),s20.2.2.2.1,s20.2.2.2.2.1,s20.2.2.2.2.2.1,s20.2.2.2.2.2.2.1,s20.2.2.2.2.2.2.2.1,true,s20.2.2.2.2.2.2.2.2.2.1,s20.2.2.2.2.2.2.2.2.2.2.1,s20.2.2.2.2.2.2.2.2.2.2.2.1,s20.2.2.2.2.2.2.2.2.2.2.2.2.1,s20.2.2.2.2.2.2.2.2.2.2.2.2.2.1,s20.2.2.2.2.2.2.2.2.2.2.2.2.2.2.1,s20.2.2.2.2.2.2.2.2.2.2.2.2.2.2.2.1,s20.2.2.2.2.2.2.2.2.2.2.2.2.2.2.2.2.1,s20.2.2.2.2.2.2.2.2.2.2.2.2.2.2.2.2.2.1,s20.2.2.2.2.2.2.2.2.2.2.2.2.2.2.2.2.2.2))
    else none
   else
   some (.next (5,s20.2.1,zw (s20.2.2.1+1),s20.2.2.2.1,s20.2.2.2.2.1,s20.2.2.2.2.2.1,s20.2.2.2.2.2.2.1,s20.2.2.2.2.2.2.2.1,false,s20.2.2.2.2.2.2.2.2.2.1,s20.2.2.2.2.2.2.2.2.2.2.1,s20.2.2.2.2.2.2.2.2.2.2.2.1,s20.2.2.2.2.2.2.2.2.2.2.2.2.1,s20.2.2.2.2.2.2.2.2.2.2.2.2.2.1,s20.2.2.2.2.2.2.2.2.2.2.2.2.2.2.1,s20.2.2.2.2.2.2.2.2.2.2.2.2.2.2.2.1,s20.2.2.2.2.2.2.2.2.2.2.2.2.2.2.2.2.1,s20.2.2.2.2.2.2.2.2.2.2.2.2.2.2.2.2.2.1,s20.2.2.2.2.2.2.2.2.2.2.2.2.2.2.2.2.2.2))
  else
  if s20.1=6 then
   if s20.2.2.2.2.2.2.2.2.2.1=true then
    if 0<=s20.2.2.1 then
     if ((zv (zb (Int.fdiv a18 (2^min (Int.toNat s20.2.2.1) zk)) &&& zb 1).toNat)==1)=true then
      if s20.2.2.1=0 then
       some (.next (6,s20.2.1,1,s20.2.2.2.1,s20.2.2.2.2.1,s20.2.2.2.2.2.1,s20.2.2.2.2.2.2.1,s20.2.2.2.2.2.2.2.1,s20.2.2.2.2.2.2.2.2.1,true,s20.2.2.2.2.2.2.2.2.2.2.1,true,s20.2.2.2.2.2.2.2.2.2.2.2.2.1,s20.2.2.2.2.2.2.2.2.2.2.2.2.2.1,s20.2.2.2.2.2.2.2.2.2.2.2.2.2.2.1,s20.2.2.2.2.2.2.2.2.2.2.2.2.2.2.2.1,s20.2.2.2.2.2.2.2.2.2.2.2.2.2.2.2.2.1,s20.2.2.2.2.2.2.2.2.2.2.2.2.2.2.2.2.2.1,s20.2.2.2.2.2.2.2.2.2.2.2.2.2.2.2.2.2.2))
      else
      if s20.2.2.1=1 then
       some (.next (6,s20.2.1,2,s20.2.2.2.1,s20.2.2.2.2.1,s20.2.2.2.2.2.1,s20.2.2.2.2.2.2.1,s20.2.2.2.2.2.2.2.1,s20.2.2.2.2.2.2.2.2.1,true,s20.2.2.2.2.2.2.2.2.2.2.1,s20.2.2.2.2.2.2.2.2.2.2.2.1,true,s20.2.2.2.2.2.2.2.2.2.2.2.2.2.1,s20.2.2.2.2.2.2.2.2.2.2.2.2.2.2.1,s20.2.2.2.2.2.2.2.2.2.2.2.2.2.2.2.1,s20.2.2.2.2.2.2.2.2.2.2.2.2.2.2.2.2.1,s20.2.2.2.2.2.2.2.2.2.2.2.2.2.2.2.2.2.1,s20.2.2.2.2.2.2.2.2.2.2.2.2.2.2.2.2.2.2))
      else
      if s20.2.2.1=2 then
       some (.next (6,s20.2.1,3,s20.2.2.2.1,s20.2.2.2.2.1,s20.2.2.2.2.2.1,s20.2.2.2.2.2.2.1,s20.2.2.2.2.2.2.2.1,s20.2.2.2.2.2.2.2.2.1,true,s20.2.2.2.2.2.2.2.2.2.2.1,s20.2.2.2.2.2.2.2.2.2.2.2.1,s20.2.2.2.2.2.2.2.2.2.2.2.2.1,true,s20.2.2.2.2.2.2.2.2.2.2.2.2.2.2.1,s20.2.2.2.2.2.2.2.2.2.2.2.2.2.2.2.1,s20.2.2.2.2.2.2.2.2.2.2.2.2.2.2.2.2.1,s20.2.2.2.2.2.2.2.2.2.2.2.2.2.2.2.2.2.1,s20.2.2.2.2.2.2.2.2.2.2.2.2.2.2.2.2.2.2))
      else
      if s20.2.2.1=3 then
       some (.next (6,s20.2.1,4,s20.2.2.2.1,s20.2.2.2.2.1,s20.2.2.2.2.2.1,s20.2.2.2.2.2.2.1,s20.2.2.2.2.2.2.2.1,s20.2.2.2.2.2.2.2.2.1,true,s20.2.2.2.2.2.2.2.2.2.2.1,s20.2.2.2.2.2.2.2.2.2.2.2.1,s20.2.2.2.2.2.2.2.2.2.2.2.2.1,s20.2.2.2.2.2.2.2.2.2.2.2.2.2.1,true,s20.2.2.2.2.2.2.2.2.2.2.2.2.2.2.2.1,s20.2.2.2.2.2.2.2.2.2.2.2.2.2.2.2.2.1,s20.2.2.2.2.2.2.2.2.2.2.2.2.2.2.2.2.2.1,s20.2.2.2.2.2.2.2.2.2.2.2.2.2.2.2.2.2.2))
      else
      if s20.2.2.1=4 then
       some (.next (6,s20.2.1,5,s20.2.2.2.1,s20.2.2.2.2.1,s20.2.2.2.2.2.1,s20.2.2.2.2.2.2.1,s20.2.2.2.2.2.2.2.1,s20.2.2.2.2.2.2.2.2.1,true,s20.2.2.2.2.2.2.2.2.2.2.1,s20.2.2.2.2.2.2.2.2.2.2.2.1,s20.2.2.2.2.2.2.2.2.2.2.2.2.1,s20.2.2.2.2.2.2.2.2.2.2.2.2.2.1,s20.2.2.2.2.2.2.2.2.2.2.2.2.2.2.1,true,s20.2.2.2.2.2.2.2.2.2.2.2.2.2.2.2.2.1,s20.2.2.2.2.2.2.2.2.2.2.2.2.2.2.2.2.2.1,s20.2.2.2.2.2.2.2.2.2.2.2.2.2.2.2.2.2.2))
      else
      if s20.2.2.1=5 then
       some (.next (6,s20.2.1,6,s20.2.2.2.1,s20.2.2.2.2.1,s20.2.2.2.2.2.1,s20.2.2.2.2.2.2.1,s20.2.2.2.2.2.2.2.1,s20.2.2.2.2.2.2.2.2.1,true,s20.2.2.2.2.2.2.2.2.2.2.1,s20.2.2.2.2.2.2.2.2.2.2.2.1,s20.2.2.2.2.2.2.2.2.2.2.2.2.1,s20.2.2.2.2.2.2.2.2.2.2.2.2.2.1,s20.2.2.2.2.2.2.2.2.2.2.2.2.2.2.1,s20.2.2.2.2.2.2.2.2.2.2.2.2.2.2.2.1,true,s20.2.2.2.2.2.2.2.2.2.2.2.2.2.2.2.2.2.1,s20.2.2.2.2.2.2.2.2.2.2.2.2.2.2.2.2.2.2))
      else
      if s20.2.2.1=6 then
       some (.next (6,s20.2.1,7,s20.2.2.2.1,s20.2.2.2.2.1,s20.2.2.2.2.2.1,s20.2.2.2.2.2.2.1,s20.2.2.2.2.2.2.2.1,s20.2.2.2.2.2.2.2.2.1,true,s20.2.2.2.2.2.2.2.2.2.2.1,s20.2.2.2.2.2.2.2.2.2.2.2.1,s20.2.2.2.2.2.2.2.2.2.2.2.2.1,s20.2.2.2.2.2.2.2.2.2.2.2.2.2.1,s20.2.2.2.2.2.2.2.2.2.2.2.2.2.2.1,s20.2.2.2.2.2.2.2.2.2.2.2.2.2.2.2.1,s20.2.2.2.2.2.2.2.2.2.2.2.2.2.2.2.2.1,true,s20.2.2.2.2.2.2.2.2.2.2.2.2.2.2.2.2.2.2))
      else
      if s20.2.2.1=7 then
       some (.next (6,s20.2.1,8,s20.2.2.2.1,s20.2.2.2.2.1,s20.2.2.2.2.2.1,s20.2.2.2.2.2.2.1,s20.2.2.2.2.2.2.2.1,s20.2.2.2.2.2.2.2.2.1,true,s20.2.2.2.2.2.2.2.2.2.2.1,s20.2.2.2.2.2.2.2.2.2.2.2.1,s20.2.2.2.2.2.2.2.2.2.2.2.2.1,s20.2.2.2.2.2.2.2.2.2.2.2.2.2.1,s20.2.2.2.2.2.2.2.2.2.2.2.2.2.2.1,s20.2.2.2.2.2.2.2.2.2.2.2.2.2.2.2.1,s20.2.2.2.2.2.2.2.2.2.2.2.2.2.2.2.2.1,s20.2.2.2.2.2.2.2.2.2.2.2.2.2.2.2.2.2.1,true))
      else
      none
     else
     some (.next (6,s20.2.1,zw (s20.2.2.1+1),s20.2.2.2.1,s20.2.2.2.2.1,s20.2.2.2.2.2.1,s20.2.2.2.2.2.2.1,s20.2.2.2.2.2.2.2.1,s20.2.2.2.2.2.2.2.2.1,true,s20.2.2.2.2.2.2.2.2.2.2.1,s20.2.2.2.2.2.2.2.2.2.2.2.1,s20.2.2.2.2.2.2.2.2.2.2.2.2.1,s20.2.2.2.2.2.2.2.2.2.2.2.2.2.1,s20.2.2.2.2.2.2.2.2.2.2.2.2.2.2.1,s20.2.2.2.2.2.2.2.2.2.2.2.2.2.2.2.1,s20.2.2.2.2.2.2.2.2.2.2.2.2.2.2.2.2.1,s20.2.2.2.2.2.2.2.2.2.2.2.2.2.2.2.2.2.1,s20.2.2.2.2.2.2.2.2.2.2.2.2.2.2.2.2.2.2))
    else none
   else
   some (.next (6,s20.2.1,zw (s20.2.2.1+1),s20.2.2.2.1,s20.2.2.2.2.1,s20.2.2.2.2.2.1,s20.2.2.2.2.2.2.1,s20.2.2.2.2.2.2.2.1,s20.2.2.2.2.2.2.2.2.1,false,s20.2.2.2.2.2.2.2.2.2.2.1,s20.2.2.2.2.2.2.2.2.2.2.2.1,s20.2.2.2.2.2.2.2.2.2.2.2.2.1,s20.2.2.2.2.2.2.2.2.2.2.2.2.2.1,s20.2.2.2.2.2.2.2.2.2.2.2.2.2.2.1,s20.2.2.2.2.2.2.2.2.2.2.2.2.2.2.2.1,s20.2.2.2.2.2.2.2.2.2.2.2.2.2.2.2.2.1,s20.2.2.2.2.2.2.2.2.2.2.2.2.2.2.2.2.2.1,s20.2.2.2.2.2.2.2.2.2.2.2.2.2.2.2.2.2.2))
  else
  if s20.1=7 then
   if s20.2.2.2.2.2.2.2.2.2.2.1=true then
    if 0<=s20.2.2.1 then
     if ((zv (zb (Int.fdiv a18 (2^min (Int.toNat s20.2.2.1) zk)) &&& zb 1).toNat)==1)=true then
      if s20.2.2.1=0 then
       some (.next (7,s20.2.1,1,s20.2.2.2.1,s20.2.2.2.2.1,s20.2.2.2.2.2.1,s20.2.2.2.2.2.2.1,s20.2.2.2.2.2.2.2.1,s20.2.2.2.2.2.2.2.2.1,s20.2.2.2.2.2.2.2.2.2.1,true,true,s20.2.2.2.2.2.2.2.2.2.2.2.2.1,s20.2.2.2.2.2.2.2.2.2.2.2.2.2.1,s20.2.2.2.2.2.2.2.2.2.2.2.2.2.2.1,s20.2.2.2.2.2.2.2.2.2.2.2.2.2.2.2.1,s20.2.2.2.2.2.2.2.2.2.2.2.2.2.2.2.2.1,s20.2.2.2.2.2.2.2.2.2.2.2.2.2.2.2.2.2.1,s20.2.2.2.2.2.2.2.2.2.2.2.2.2.2.2.2.2.2))
      else
      if s20.2.2.1=1 then
       some (.next (7,s20.2.1,2,s20.2.2.2.1,s20.2.2.2.2.1,s20.2.2.2.2.2.1,s20.2.2.2.2.2.2.1,s20.2.2.2.2.2.2.2.1,s20.2.2.2.2.2.2.2.2.1,s20.2.2.2.2.2.2.2.2.2.1,true,s20.2.2.2.2.2.2.2.2.2.2.2.1,true,s20.2.2.2.2.2.2.2.2.2.2.2.2.2.1,s20.2.2.2.2.2.2.2.2.2.2.2.2.2.2.1,s20.2.2.2.2.2.2.2.2.2.2.2.2.2.2.2.1,s20.2.2.2.2.2.2.2.2.2.2.2.2.2.2.2.2.1,s20.2.2.2.2.2.2.2.2.2.2.2.2.2.2.2.2.2.1,s20.2.2.2.2.2.2.2.2.2.2.2.2.2.2.2.2.2.2))
      else
      if s20.2.2.1=2 then
       some (.next (7,s20.2.1,3,s20.2.2.2.1,s20.2.2.2.2.1,s20.2.2.2.2.2.1,s20.2.2.2.2.2.2.1,s20.2.2.2.2.2.2.2.1,s20.2.2.2.2.2.2.2.2.1,s20.2.2.2.2.2.2.2.2.2.1,true,s20.2.2.2.2.2.2.2.2.2.2.2.1,s20.2.2.2.2.2.2.2.2.2.2.2.2.1,true,s20.2.2.2.2.2.2.2.2.2.2.2.2.2.2.1,s20.2.2.2.2.2.2.2.2.2.2.2.2.2.2.2.1,s20.2.2.2.2.2.2.2.2.2.2.2.2.2.2.2.2.1,s20.2.2.2.2.2.2.2.2.2.2.2.2.2.2.2.2.2.1,s20.2.2.2.2.2.2.2.2.2.2.2.2.2.2.2.2.2.2))
      else
      if s20.2.2.1=3 then
       some (.next (7,s20.2.1,4,s20.2.2.2.1,s20.2.2.2.2.1,s20.2.2.2.2.2.1,s20.2.2.2.2.2.2.1,s20.2.2.2.2.2.2.2.1,s20.2.2.2.2.2.2.2.2.1,s20.2.2.2.2.2.2.2.2.2.1,true,s20.2.2.2.2.2.2.2.2.2.2.2.1,s20.2.2.2.2.2.2.2.2.2.2.2.2.1,s20.2.2.2.2.2.2.2.2.2.2.2.2.2.1,true,s20.2.2.2.2.2.2.2.2.2.2.2.2.2.2.2.1,s20.2.2.2.2.2.2.2.2.2.2.2.2.2.2.2.2.1,s20.2.2.2.2.2.2.2.2.2.2.2.2.2.2.2.2.2.1,s20.2.2.2.2.2.2.2.2.2.2.2.2.2.2.2.2.2.2))
      else
      if s20.2.2.1=4 then
       some (.next (7,s20.2.1,5,s20.2.2.2.1,s20.2.2.2.2.1,s20.2.2.2.2.2.1,s20.2.2.2.2.2.2.1,s20.2.2.2.2.2.2.2.1,s20.2.2.2.2.2.2.2.2.1,s20.2.2.2.2.2.2.2.2.2.1,true,s20.2.2.2.2.2.2.2.2.2.2.2.1,s20.2.2.2.2.2.2.2.2.2.2.2.2.1,s20.2.2.2.2.2.2.2.2.2.2.2.2.2.1,s20.2.2.2.2.2.2.2.2.2.2.2.2.2.2.1,true,s20.2.2.2.2.2.2.2.2.2.2.2.2.2.2.2.2.1,s20.2.2.2.2.2.2.2.2.2.2.2.2.2.2.2.2.2.1,s20.2.2.2.2.2.2.2.2.2.2.2.2.2.2.2.2.2.2))
      else
      if s20.2.2.1=5 then
       some (.next (7,s20.2.1,6,s20.2.2.2.1,s20.2.2.2.2.1,s20.2.2.2.2.2.1,s20.2.2.2.2.2.2.1,s20.2.2.2.2.2.2.2.1,s20.2.2.2.2.2.2.2.2.1,s20.2.2.2.2.2.2.2.2.2.1,true,s20.2.2.2.2.2.2.2.2.2.2.2.1,s20.2.2.2.2.2.2.2.2.2.2.2.2.1,s20.2.2.2.2.2.2.2.2.2.2.2.2.2.1,s20.2.2.2.2.2.2.2.2.2.2.2.2.2.2.1,s20.2.2.2.2.2.2.2.2.2.2.2.2.2.2.2.1,true,s20.2.2.2.2.2.2.2.2.2.2.2.2.2.2.2.2.2.1,s20.2.2.2.2.2.2.2.2.2.2.2.2.2.2.2.2.2.2))
      else
      if s20.2.2.1=6 then
       some (.next (7,s20.2.1,7,s20.2.2.2.1,s20.2.2.2.2.1,s20.2.2.2.2.2.1,s20.2.2.2.2.2.2.1,s20.2.2.2.2.2.2.2.1,s20.2.2.2.2.2.2.2.2.1,s20.2.2.2.2.2.2.2.2.2.1,true,s20.2.2.2.2.2.2.2.2.2.2.2.1,s20.2.2.2.2.2.2.2.2.2.2.2.2.1,s20.2.2.2.2.2.2.2.2.2.2.2.2.2.1,s20.2.2.2.2.2.2.2.2.2.2.2.2.2.2.1,s20.2.2.2.2.2.2.2.2.2.2.2.2.2.2.2.1,s20.2.2.2.2.2.2.2.2.2.2.2.2.2.2.2.2.1,true,s20.2.2.2.2.2.2.2.2.2.2.2.2.2.2.2.2.2.2))
      else
      if s20.2.2.1=7 then
       some (.next (7,s20.2.1,8,s20.2.2.2.1,s20.2.2.2.2.1,s20.2.2.2.2.2.1,s20.2.2.2.2.2.2.1,s20.2.2.2.2.2.2.2.1,s20.2.2.2.2.2.2.2.2.1,s20.2.2.2.2.2.2.2.2.2.1,true,s20.2.2.2.2.2.2.2.2.2.2.2.1,s20.2.2.2.2.2.2.2.2.2.2.2.2.1,s20.2.2.2.2.2.2.2.2.2.2.2.2.2.1,s20.2.2.2.2.2.2.2.2.2.2.2.2.2.2.1,s20.2.2.2.2.2.2.2.2.2.2.2.2.2.2.2.1,s20.2.2.2.2.2.2.2.2.2.2.2.2.2.2.2.2.1,s20.2.2.2.2.2.2.2.2.2.2.2.2.2.2.2.2.2.1,true))
      else
      none
     else
     some (.next (7,s20.2.1,zw (s20.2.2.1+1),s20.2.2.2.1,s20.2.2.2.2.1,s20.2.2.2.2.2.1,s20.2.2.2.2.2.2.1,s20.2.2.2.2.2.2.2.1,s20.2.2.2.2.2.2.2.2.1,s20.2.2.2.2.2.2.2.2.2.1,true,s20.2.2.2.2.2.2.2.2.2.2.2.1,s20.2.2.2.2.2.2.2.2.2.2.2.2.1,s20.2.2.2.2.2.2.2.2.2.2.2.2.2.1,s20.2.2.2.2.2.2.2.2.2.2.2.2.2.2.1,s20.2.2.2.2.2.2.2.2.2.2.2.2.2.2.2.1,s20.2.2.2.2.2.2.2.2.2.2.2.2.2.2.2.2.1,s20.2.2.2.2.2.2.2.2.2.2.2.2.2.2.2.2.2.1,s20.2.2.2.2.2.2.2.2.2.2.2.2.2.2.2.2.2.2))
    else none
   else
   some (.next (7,s20.2.1,zw (s20.2.2.1+1),s20.2.2.2.1,s20.2.2.2.2.1,s20.2.2.2.2.2.1,s20.2.2.2.2.2.2.1,s20.2.2.2.2.2.2.2.1,s20.2.2.2.2.2.2.2.2.1,s20.2.2.2.2.2.2.2.2.2.1,false,s20.2.2.2.2.2.2.2.2.2.2.2.1,s20.2.2.2.2.2.2.2.2.2.2.2.2.1,s20.2.2.2.2.2.2.2.2.2.2.2.2.2.1,s20.2.2.2.2.2.2.2.2.2.2.2.2.2.2.1,s20.2.2.2.2.2.2.2.2.2.2.2.2.2.2.2.1,s20.2.2.2.2.2.2.2.2.2.2.2.2.2.2.2.2.1,s20.2.2.2.2.2.2.2.2.2.2.2.2.2.2.2.2.2.1,s20.2.2.2.2.2.2.2.2.2.2.2.2.2.2.2.2.2.2))
  else
  none
 else
 some (.done (s20.2.1,s20.2.2.2.1,s20.2.2.2.2.1,s20.2.2.2.2.2.1,s20.2.2.2.2.2.2.1,s20.2.2.2.2.2.2.2.1,s20.2.2.2.2.2.2.2.2.1,s20.2.2.2.2.2.2.2.2.2.1,s20.2.2.2.2.2.2.2.2.2.2.1,s20.2.2.2.2.2.2.2.2.2.2.2.1,s20.2.2.2.2.2.2.2.2.2.2.2.2.1,s20.2.2.2.2.2.2.2.2.2.2.2.2.2.1,s20.2.2.2.2.2.2.2.2.2.2.2.2.2.2.1,s20.2.2.2.2.2.2.2.2.2.2.2.2.2.2.2.1,s20.2.2.2.2.2.2.2.2.2.2.2.2.2.2.2.2.1,s20.2.2.2.2.2.2.2.2.2.2.2.2.2.2.2.2.2.1,s20.2.2.2.2.2.2.2.2.2.2.2.2.2.2.2.2.2.2))
def Qbj (p0:Aa) (s15:(Int × Bool × Bool × Bool × Bool × Bool × Bool × Bool × Bool × Bool × Bool × Bool × Bool × Bool × Bool × Bool × Bool)):Option (Qo (Int × Bool × Bool × Bool × Bool × Bool × Bool × Bool × Bool × Bool × Bool × Bool × Bool × Bool × Bool × Bool × Bool) (Bool × Bool × Bool × Bool × Bool × Bool × Bool × Bool × Bool × Bool × Bool × Bool × Bool × Bool × Bool × Bool)) :=
 if (decide (s15.1 < (p0.sets.parents.length:Int)))=true then
  (lkI p0.sets.parents s15.1).bind fun a18 =>
  (Qf fuel (Qbe p0 a18) (s15.1,s15.1,0,s15.2.1,s15.2.2.1,s15.2.2.2.1,s15.2.2.2.2.1,s15.2.2.2.2.2.1,s15.2.2.2.2.2.2.1,s15.2.2.2.2.2.2.2.1,s15.2.2.2.2.2.2.2.2.1,s15.2.2.2.2.2.2.2.2.2.1,s15.2.2.2.2.2.2.2.2.2.2.1,s15.2.2.2.2.2.2.2.2.2.2.2.1,s15.2.2.2.2.2.2.2.2.2.2.2.2.1,s15.2.2.2.2.2.2.2.2.2.2.2.2.2.1,s15.2.2.2.2.2.2.2.2.2.2.2.2.2.2.1,s15.2.2.2.2.2.2.2.2.2.2.2.2.2.2.2.1,s15.2.2.2.2.2.2.2.2.2.2.2.2.2.2.2.2)).bind fun x128 =>
  some (.next (zw (x128.1+1),x128.2.1,x128.2.2.1,x128.2.2.2.1,x128.2.2.2.2.1,x128.2.2.2.2.2.1,x128.2.2.2.2.2.2.1,x128.2.2.2.2.2.2.2.1,x128.2.2.2.2.2.2.2.2.1,x128.2.2.2.2.2.2.2.2.2.1,x128.2.2.2.2.2.2.2.2.2.2.1,x128.2.2.2.2.2.2.2.2.2.2.2.1,x128.2.2.2.2.2.2.2.2.2.2.2.2.1,x128.2.2.2.2.2.2.2.2.2.2.2.2.2.1,x128.2.2.2.2.2.2.2.2.2.2.2.2.2.2.1,x128.2.2.2.2.2.2.2.2.2.2.2.2.2.2.2.1,x128.2.2.2.2.2.2.2.2.2.2.2.2.2.2.2.2))
 else
 some (.done (s15.2.1,s15.2.2.1,s15.2.2.2.1,s15.2.2.2.2.1,s15.2.2.2.2.2.1,s15.2.2.2.2.2.2.1,s15.2.2.2.2.2.2.2.1,s15.2.2.2.2.2.2.2.2.1,s15.2.2.2.2.2.2.2.2.2.1,s15.2.2.2.2.2.2.2.2.2.2.1,s15.2.2.2.2.2.2.2.2.2.2.2.1,s15.2.2.2.2.2.2.2.2.2.2.2.2.1,s15.2.2.2.2.2.2.2.2.2.2.2.2.2.1,s15.2.2.2.2.2.2.2.2.2.2.2.2.2.2.1,s15.2.2.2.2.2.2.2.2.2.2.2.2.2.2.2.1,s15.2.2.2.2.2.2.2.2.2.2.2.2.2.2.2.2))
def Qa7 (p0:Aa) (s14:(Bool × Bool × Bool × Bool × Bool × Bool × Bool × Bool)):Option (Qo (Bool × Bool × Bool × Bool × Bool × Bool × Bool × Bool) (Bool × Bool × Bool × Bool × Bool × Bool × Bool × Bool)) :=
 (Qf fuel (Qbj p0) (0,s14.1,s14.2.1,s14.2.2.1,s14.2.2.2.1,s14.2.2.2.2.1,s14.2.2.2.2.2.1,s14.2.2.2.2.2.2.1,s14.2.2.2.2.2.2.2,s14.1,s14.2.1,s14.2.2.1,s14.2.2.2.1,s14.2.2.2.2.1,s14.2.2.2.2.2.1,s14.2.2.2.2.2.2.1,s14.2.2.2.2.2.2.2)).bind fun x130 =>
 if ((x130.2.2.2.2.2.2.2.2.1==x130.1) && ((x130.2.2.2.2.2.2.2.2.2.1==x130.2.1) && ((x130.2.2.2.2.2.2.2.2.2.2.1==x130.2.2.1) && ((x130.2.2.2.2.2.2.2.2.2.2.2.1==x130.2.2.2.1) && ((x130.2.2.2.2.2.2.2.2.2.2.2.2.1==x130.2.2.2.2.1) && ((x130.2.2.2.2.2.2.2.2.2.2.2.2.2.1==x130.2.2.2.2.2.1) && ((x130.2.2.2.2.2.2.2.2.2.2.2.2.2.2.1==x130.2.2.2.2.2.2.1) && ((x130.2.2.2.2.2.2.2.2.2.2.2.2.2.2.2==x130.2.2.2.2.2.2.2.1) && true))))))))=true then
  some (.done (x130.1,x130.2.1,x130.2.2.1,x130.2.2.2.1,x130.2.2.2.2.1,x130.2.2.2.2.2.1,x130.2.2.2.2.2.2.1,x130.2.2.2.2.2.2.2.1))
 else
 some (.next (x130.2.2.2.2.2.2.2.2.1,x130.2.2.2.2.2.2.2.2.2.1,x130.2.2.2.2.2.2.2.2.2.2.1,x130.2.2.2.2.2.2.2.2.2.2.2.1,x130.2.2.2.2.2.2.2.2.2.2.2.2.1,x130.2.2.2.2.2.2.2.2.2.2.2.2.2.1,x130.2.2.2.2.2.2.2.2.2.2.2.2.2.2.1,x130.2.2.2.2.2.2.2.2.2.2.2.2.2.2.2))
def V2 (p0:Aa) (p1:Int):Option (Bool × Bool × Bool × Bool × Bool × Bool × Bool × Bool) :=
 (Qf fuel (Qa6 p0 p1) (0,false,false,false,false,false,false,false,false)).bind fun x13 =>
 (Qf fuel (Qa7 p0) (x13.1,x13.2.1,x13.2.2.1,x13.2.2.2.1,x13.2.2.2.2.1,x13.2.2.2.2.2.1,x13.2.2.2.2.2.2.1,x13.2.2.2.2.2.2.2)).bind fun x134 =>
 some (x134.1,x134.2.1,x134.2.2.1,x134.2.2.2.1,x134.2.2.2.2.1,x134.2.2.2.2.2.1,x134.2.2.2.2.2.2.1,x134.2.2.2.2.2.2.2)
def Qdt (x3:(Bool × Bool × Bool × Bool × Bool × Bool × Bool × Bool)) (s5:(Int × Bool × Int)):Option (Qo (Int × Bool × Int) Int) :=
 if (decide (s5.2.2 < 8))=true then
  (lkI ([s5.2.1,x3.2.1,x3.2.2.1,x3.2.2.2.1,x3.2.2.2.2.1,x3.2.2.2.2.2.1,x3.2.2.2.2.2.2.1,x3.2.2.2.2.2.2.2]:(List Bool)) s5.2.2).bind fun a8 =>
  if a8=true then
   if 0<=s5.2.2 then
    some (.next (zv (zb s5.1 &&& ~~~ zb (zv (1*2^min (Int.toNat s5.2.2) zk))).toNat,s5.2.1,zw (s5.2.2+1)))
   else none
  else
  some (.next (s5.1,s5.2.1,zw (s5.2.2+1)))
 else
 some (.done s5.1)
def K3 (p0:Aa) (p1:Int) (p2:Int) (p3:Int):Option Aa :=
 (Zs p0 p2).bind fun x1 =>
 (V2 x1 p3).bind fun x3 =>
 (Qf fuel (Qdt x3) (p1,x3.1,0)).bind fun x13 =>
 (Zs x1 x13).bind fun x14 =>
 some x14
def Vl (p0:Qb):Option ((List Int) × Int) :=
 (Qae p0).bind fun x1 =>
 some (x1.1.sets,x1.2)
def Qfe (p0:(List Int)) (s5:(Int × (List Int))) (a8:Int) (s12:(Int × (List Int))):Option (Qo (Int × (List Int)) (List Int)) :=
 if (decide (s12.1 < (p0.length:Int)))=true then
  (lkI s12.2 s12.1).bind fun a15 =>
  if 0<=s12.1 then
   if 0<=s5.1 then
    some (.next (zw (s12.1+1),(List.set s12.2 (Int.toNat s12.1) (zv (zb a15 ||| zb (zv ((zv (zb (Int.fdiv a8 (2^min (Int.toNat s12.1) zk)) &&& zb 1).toNat)*2^min (Int.toNat s5.1) zk))).toNat))))
   else none
  else none
 else
 some (.done s12.2)
def Qeu (p0:(List Int)) (s5:(Int × (List Int))):Option (Qo (Int × (List Int)) (Unit ⊕ (List Int))) :=
 if (decide (s5.1 < (p0.length:Int)))=true then
  (lkI p0 s5.1).bind fun a8 =>
  if 0<=(p0.length:Int) then
   if ((Int.fdiv a8 (2^min (Int.toNat (p0.length:Int)) zk)) != 0)=true then
    some (.done (Sum.inl ()))
   else
   (Qf fuel (Qfe p0 s5 a8) (0,s5.2)).bind fun x19 =>
   some (.next (zw (s5.1+1),x19))
  else none
 else
 some (.done (Sum.inr s5.2))
def Qel (p0:(List Int)) (s23:(Int × Int)) (s26:Int):Option (Qo Int (Int ⊕ Unit)) :=
 if (decide (s26 < (p0.length:Int)))=true then
  (lkI p0 s26).bind fun a29 =>
  if 0<=s26 then
   if ((zv (zb (Int.fdiv s23.1 (2^min (Int.toNat s26) zk)) &&& zb 1).toNat)==0)=true then
    if ((zv (zb a29 &&& ~~~ zb s23.1).toNat)==0)=true then
     if 0<=s26 then
      some (.done (Sum.inl (zv (zb s23.1 ||| zb (zv (1*2^min (Int.toNat s26) zk))).toNat)))
     else none
    else
    some (.next (zw (s26+1)))
   else
   some (.next (zw (s26+1)))
  else none
 else
 some (.done (Sum.inr ()))
def Qe8 (p0:(List Int)) (s23:(Int × Int)):Option (Qo (Int × Int) (Unit ⊕ Unit)) :=
 if (decide (s23.2 < (p0.length:Int)))=true then
  (Qf fuel (Qel p0 s23) 0).bind fun x35=>match x35 with
  | .inl x36=>(
   some (.next (x36,zw (s23.2+1))))
  | .inr x37=>(
   some (.done (Sum.inl ())))
 else
 some (.done (Sum.inr ()))
def Qbt (p0:(List Int)):Option (Qm × Int) :=
 if (decide ((p0.length:Int) < 1))=true then
  some ((Qm.mk (Z3.mk []) []),70)
 else
 if (decide ((p0.length:Int) > 8))=true then
  some ((Qm.mk (Z3.mk []) []),70)
 else
 if 0<=(p0.length:Int)/\(p0.length:Int)<=(p0.length:Int)/\(p0.length:Int)*8<=140737488355328 then
  (Qf fuel (Qeu p0) (0,(List.replicate (Int.toNat (p0.length:Int)) (0:Int)))).bind fun x20=>match x20 with
  | .inl x21=>(
   some ((Qm.mk (Z3.mk []) []),70))
  | .inr x22=>(
   (Qf fuel (Qe8 p0) (0,0)).bind fun x38=>match x38 with
   | .inl x39=>(
    some ((Qm.mk (Z3.mk []) []),70))
   | .inr x40=>(
    some ((Qm.mk (Z3.mk p0) x22),0)))
 else none
def Jx (p1:(List Int)) (p0:Qm) (s1:(Int × Int)):Option (Qo (Int × Int) (Unit ⊕ Unit)) :=
 if (decide (s1.2 < (p1.length:Int)))=true then
  (lkI p1 s1.2).bind fun a4 =>
  if 0<=(p0.ancestry.parents.length:Int) then
   if ((Int.fdiv a4 (2^min (Int.toNat (p0.ancestry.parents.length:Int)) zk)) != 0)=true then
    some (.done (Sum.inl ()))
   else
   if ((zv (zb a4 &&& zb s1.1).toNat) != 0)=true then
    some (.done (Sum.inl ()))
   else
   some (.next (zv (zb s1.1 ||| zb a4).toNat,zw (s1.2+1)))
  else none
 else
 some (.done (Sum.inr ()))
def Yu (p0:Qm) (p1:(List Int)):Option Bool :=
 (Qf fuel (Jx p1 p0) (0,0)).bind fun x10=>match x10 with
 | .inl x11=>(
  some false)
 | .inr x12=>(
  some true)
def Ye (p0:Int):Option Int :=
 if (p0==0)=true then
  some 64
 else
 (lkI tab1 (Int.fdiv (zv ((zv (zb p0 &&& zb (zv (0 - p0))).toNat)*285870213051353865)) (2^min (Int.toNat 58) zk))).bind fun a3 =>
 some (zw (a3))
def Qx (p0:Int):Option Int :=
 (Ye p0).bind fun x1 =>
 some x1
def Qac (p0:Qm) (s4:(Int × Int)):Option (Qo (Int × Int) Int) :=
 if (decide (s4.1 < (p0.ancestry.parents.length:Int)))=true then
  (lkI p0.ancestry.parents s4.1).bind fun a7 =>
  if 0<=s4.1 then
   if ((zv (zb (Int.fdiv s4.2 (2^min (Int.toNat s4.1) zk)) &&& zb 1).toNat)==1)=true then
    some (.next (zw (s4.1+1),zv (zb s4.2 ||| zb a7).toNat))
   else
   some (.next (zw (s4.1+1),s4.2))
  else none
 else
 some (.done s4.2)
def Qaa (p0:Qm) (s1:(Int × Int)):Option (Qo (Int × Int) Int) :=
 if (decide (s1.1 < (p0.ancestry.parents.length:Int)))=true then
  (Qf fuel (Qac p0) (0,s1.2)).bind fun x12 =>
  some (.next (zw (s1.1+1),x12))
 else
 some (.done s1.2)
def K7 (r21:((Int × Bool × Int × (List (Ad × Bool)))->Option (Int × (List (Ad × Bool))))) (s29:(Int × Int × (List (Ad × Bool)))):Option (Qo (Int × Int × (List (Ad × Bool))) (Int × (List (Ad × Bool)))) :=
 if (s29.1 != 0)=true then
  (Qx s29.1).bind fun x32 =>
  (r21 (x32,true,s29.2.1,s29.2.2)).bind fun x34 =>
  some (.next (zv (zb s29.1 &&& zb (zv (s29.1 - 1))).toNat,x34.1,x34.2))
 else
 some (.done (s29.2.1,s29.2.2))
def Qap (r21:((Int × Bool × Int × (List (Ad × Bool)))->Option (Int × (List (Ad × Bool))))) (s43:(Int × Int × (List (Ad × Bool)))):Option (Qo (Int × Int × (List (Ad × Bool))) (Int × (List (Ad × Bool)))) :=
 if (s43.1 != 0)=true then
  (Qx s43.1).bind fun x46 =>
  (r21 (x46,false,s43.2.1,s43.2.2)).bind fun x48 =>
  some (.next (zv (zb s43.1 &&& zb (zv (s43.1 - 1))).toNat,x48.1,x48.2))
 else
 some (.done (s43.2.1,s43.2.2))
def Qai (r21:((Int × Bool × Int × (List (Ad × Bool)))->Option (Int × (List (Ad × Bool))))) (s55:(Int × Int × (List (Ad × Bool)))):Option (Qo (Int × Int × (List (Ad × Bool))) (Int × (List (Ad × Bool)))) :=
 if (s55.1 != 0)=true then
  (Qx s55.1).bind fun x58 =>
  (r21 (x58,false,s55.2.1,s55.2.2)).bind fun x60 =>
  some (.next (zv (zb s55.1 &&& zb (zv (s55.1 - 1))).toNat,x60.1,x60.2))
 else
 some (.done (s55.2.1,s55.2.2))
def Qaj (r21:((Int × Bool × Int × (List (Ad × Bool)))->Option (Int × (List (Ad × Bool))))) (s69:(Int × Int × (List (Ad × Bool)))):Option (Qo (Int × Int × (List (Ad × Bool))) (Int × (List (Ad × Bool)))) :=
 if (s69.1 != 0)=true then
  (Qx s69.1).bind fun x72 =>
  (r21 (x72,false,s69.2.1,s69.2.2)).bind fun x74 =>
  some (.next (zv (zb s69.1 &&& zb (zv (s69.1 - 1))).toNat,x74.1,x74.2))
 else
 some (.done (s69.2.1,s69.2.2))
def Qal (r21:((Int × Bool × Int × (List (Ad × Bool)))->Option (Int × (List (Ad × Bool))))) (s81:(Int × Int × (List (Ad × Bool)))):Option (Qo (Int × Int × (List (Ad × Bool))) (Int × (List (Ad × Bool)))) :=
 if (s81.1 != 0)=true then
  (Qx s81.1).bind fun x84 =>
  (r21 (x84,false,s81.2.1,s81.2.2)).bind fun x86 =>
  some (.next (zv (zb s81.1 &&& zb (zv (s81.1 - 1))).toNat,x86.1,x86.2))
 else
 some (.done (s81.2.1,s81.2.2))
def K9 (p2:Int) (p0:Qm) (x14:Int) (r21:((Int × Bool × Int × (List (Ad × Bool)))->Option (Int × (List (Ad × Bool))))) (s20:(Int × Bool × Int × (List (Ad × Bool)))):Option (Int × (List (Ad × Bool))) :=
 if (Y8 Ah s20.2.2.2 (Ad.mk s20.1 s20.2.1)).getD false=true then
  some (s20.2.2.1,s20.2.2.2)
 else
 if 0<=s20.1 then
  if ((zv (zb (Int.fdiv p2 (2^min (Int.toNat s20.1) zk)) &&& zb 1).toNat)==0)=true then
   if 0<=s20.1 then
    (lkI p0.children s20.1).bind fun a27 =>
    (Qf fuel (K7 r21) (a27,zv (zb s20.2.2.1 ||| zb (zv (1*2^min (Int.toNat s20.1) zk))).toNat,kput Ah s20.2.2.2 (Ad.mk s20.1 s20.2.1) true)).bind fun x36 =>
    if s20.2.1=true then
     if 0<=s20.1 then
      if ((zv (zb (Int.fdiv x14 (2^min (Int.toNat s20.1) zk)) &&& zb 1).toNat)==0)=true then
       some (x36.1,x36.2)
      else
      (lkI p0.ancestry.parents s20.1).bind fun a41 =>
      (Qf fuel (Qap r21) (a41,x36.1,x36.2)).bind fun x50 =>
      some (x50.1,x50.2)
     else none
    else
    if 0<=s20.1 then
     if ((zv (zb (Int.fdiv p2 (2^min (Int.toNat s20.1) zk)) &&& zb 1).toNat)==1)=true then
      some (x36.1,x36.2)
     else
     (lkI p0.ancestry.parents s20.1).bind fun a53 =>
     (Qf fuel (Qai r21) (a53,x36.1,x36.2)).bind fun x62 =>
     some (x62.1,x62.2)
    else none
   else none
  else
  if s20.2.1=true then
   if 0<=s20.1 then
    if ((zv (zb (Int.fdiv x14 (2^min (Int.toNat s20.1) zk)) &&& zb 1).toNat)==0)=true then
     some (s20.2.2.1,kput Ah s20.2.2.2 (Ad.mk s20.1 s20.2.1) true)
    else
    (lkI p0.ancestry.parents s20.1).bind fun a67 =>
    (Qf fuel (Qaj r21) (a67,s20.2.2.1,kput Ah s20.2.2.2 (Ad.mk s20.1 s20.2.1) true)).bind fun x76 =>
    some (x76.1,x76.2)
   else none
  else
  if 0<=s20.1 then
   if ((zv (zb (Int.fdiv p2 (2^min (Int.toNat s20.1) zk)) &&& zb 1).toNat)==1)=true then
    some (s20.2.2.1,kput Ah s20.2.2.2 (Ad.mk s20.1 s20.2.1) true)
   else
   (lkI p0.ancestry.parents s20.1).bind fun a79 =>
   (Qf fuel (Qal r21) (a79,s20.2.2.1,kput Ah s20.2.2.2 (Ad.mk s20.1 s20.2.1) true)).bind fun x88 =>
   some (x88.1,x88.2)
  else none
 else none
def Qam (p2:Int) (p0:Qm) (x14:Int) (s15:(Int × Int × (List (Ad × Bool)))):Option (Qo (Int × Int × (List (Ad × Bool))) (Int × (List (Ad × Bool)))) :=
 if (s15.1 != 0)=true then
  (Qx s15.1).bind fun x18 =>
  (Qfs (K9 p2 p0 x14) fuel (x18,false,s15.2.1,s15.2.2)).bind fun x89 =>
  some (.next (zv (zb s15.1 &&& zb (zv (s15.1 - 1))).toNat,x89.1,x89.2))
 else
 some (.done (s15.2.1,s15.2.2))
def Vd (p0:Qm) (p1:Int) (p2:Int):Option Int :=
 (Qf fuel (Qaa p0) (0,p2)).bind fun x14 =>
 (Qf fuel (Qam p2 p0 x14) (p1,0,[])).bind fun x92 =>
 some x92.1
def Yg (p0:(List Int)) (p1:Int) (p2:Int) (p3:Int):Option (Bool × Int) :=
 (Qbt p0).bind fun x1 =>
 if (x1.2 != 0)=true then
  some (false,x1.2)
 else
 (Yu x1.1 [p1,p2,p3]).bind fun x5 =>
 if (!x5)=true then
  some (false,2)
 else
 (Vd x1.1 p1 p3).bind fun x9 =>
 some (((zv (zb x9 &&& zb p2).toNat)==0),0)
def Xx (p0:Qb) (p1:Int) (p2:Int) (p3:Int) (p4:Int) (p5:Int):Option (Bool × Int) :=
 (Yq p0 []).bind fun x1 =>
 if (x1 != 0)=true then
  some (false,x1)
 else
 if p1=1 then
  if 0<=(p0.Nodes.length:Int) then
   if ((Int.fdiv (zv (zb (zv (zb (zv (zb p2 ||| zb p3).toNat) ||| zb p4).toNat) ||| zb p5).toNat) (2^min (Int.toNat (p0.Nodes.length:Int)) zk)) != 0)=true then
    some (false,2)
   else
   if ((zv (zb p2 &&& zb p3).toNat) != 0)=true then
    some (false,2)
   else
   if ((zv (zb (zv (zb p2 ||| zb p3).toNat) &&& zb p4).toNat) != 0)=true then
    some (false,2)
   else
   if ((zv (zb (zv (zb (zv (zb p2 ||| zb p3).toNat) ||| zb p4).toNat) &&& zb p5).toNat) != 0)=true then
    some (false,2)
   else
   (Vl p0).bind fun x15 =>
   if (x15.2 != 0)=true then
    some (false,x15.2)
   else
   if (p2==0)=true then
    some (true,0)
   else
   if (p3==0)=true then
    some (true,0)
   else
   (K2 (Aa.mk (Ac.mk x15.1)) p3 p4 p5).bind fun x23 =>
   (Yg x23.sets.parents p2 p3 (zv (zb p4 ||| zb p5).toNat)).bind fun x25 =>
   some (x25.1,x25.2)
  else none
 else
 if p1=2 then
  if 0<=(p0.Nodes.length:Int) then
   if ((Int.fdiv (zv (zb (zv (zb (zv (zb p2 ||| zb p3).toNat) ||| zb p4).toNat) ||| zb p5).toNat) (2^min (Int.toNat (p0.Nodes.length:Int)) zk)) != 0)=true then
    some (false,2)
   else
   if ((zv (zb p2 &&& zb p3).toNat) != 0)=true then
    some (false,2)
   else
   if ((zv (zb (zv (zb p2 ||| zb p3).toNat) &&& zb p4).toNat) != 0)=true then
    some (false,2)
   else
   if ((zv (zb (zv (zb (zv (zb p2 ||| zb p3).toNat) ||| zb p4).toNat) &&& zb p5).toNat) != 0)=true then
    some (false,2)
   else
   (Vl p0).bind fun x37 =>
   if (x37.2 != 0)=true then
    some (false,x37.2)
   else
   if (p2==0)=true then
    some (true,0)
   else
   if (p3==0)=true then
    some (true,0)
   else
   (Ko (Aa.mk (Ac.mk x37.1)) p3 p4 p5).bind fun x45 =>
   (Yg x45.sets.parents p2 p3 (zv (zb p4 ||| zb p5).toNat)).bind fun x47 =>
   some (x47.1,x47.2)
  else none
 else
 if p1=3 then
  if 0<=(p0.Nodes.length:Int) then
   if ((Int.fdiv (zv (zb (zv (zb (zv (zb p2 ||| zb p3).toNat) ||| zb p4).toNat) ||| zb p5).toNat) (2^min (Int.toNat (p0.Nodes.length:Int)) zk)) != 0)=true then
    some (false,2)
   else
   if ((zv (zb p2 &&& zb p3).toNat) != 0)=true then
    some (false,2)
   else
   if ((zv (zb (zv (zb p2 ||| zb p3).toNat) &&& zb p4).toNat) != 0)=true then
    some (false,2)
   else
   if ((zv (zb (zv (zb (zv (zb p2 ||| zb p3).toNat) ||| zb p4).toNat) &&& zb p5).toNat) != 0)=true then
    some (false,2)
   else
   (Vl p0).bind fun x59 =>
   if (x59.2 != 0)=true then
    some (false,x59.2)
   else
   if (p2==0)=true then
    some (true,0)
   else
   if (p3==0)=true then
    some (true,0)
   else
   (K3 (Aa.mk (Ac.mk x59.1)) p3 p4 p5).bind fun x67 =>
   (Yg x67.sets.parents p2 p3 (zv (zb p4 ||| zb p5).toNat)).bind fun x69 =>
   some (x69.1,x69.2)
  else none
 else
 some (false,2)
def Q3 (p0:Int) (p1:Int) (p2:Int) (p3:Int) (p4:Int) (p5:Bool):Option Bool :=
 (Xf).bind fun x1 =>
 (Xx x1 p0 p1 p2 p3 p4).bind fun x3 =>
 if (x3.1==p5)=true then
  some (x3.2==0)
 else
 some false
def Z2 (p0:Int) (p1:Int):Option Qi :=
 some (Qi.mk p0 p1)
def Qgw (p0:(List Qi)) (p1:(List Qi)) (s3:Int):Option (Qo Int (Unit ⊕ Unit)) :=
 if (decide (s3 < (p0.length:Int)))=true then
  (lkI p0 s3).bind fun a6 =>
  (lkI p1 s3).bind fun a8 =>
  if (!((a6.N==a8.N) && ((a6.D==a8.D) && true)))=true then
   some (.done (Sum.inl ()))
  else
  some (.next (zw (s3+1)))
 else
 some (.done (Sum.inr ()))
def Qd3 (p0:(List Qi)) (p1:(List Qi)):Option Bool :=
 if ((p0.length:Int) != (p1.length:Int))=true then
  some false
 else
 (Qf fuel (Qgw p0 p1) 0).bind fun x12=>match x12 with
 | .inl x13=>(
  some false)
 | .inr x14=>(
  some true)
def J1 (p0:(List Int)) (p1:(List Int)) (p2:Int) (p3:(List Qi)):Option Bool :=
 (Xf).bind fun x1 =>
 (Yy x1 p0 p1 p2).bind fun x3 =>
 if (x3.2==0)=true then
  (Qd3 x3.1 p3).bind fun x7 =>
  some x7
 else
 some false
def Zb (w3_0:Bool):Option Bool :=
 some w3_0
def Zz (w2_0:Bool) (w2_1:Bool) (w2_2:Bool):Option Bool :=
 if w2_0=true then
  if w2_1=true then
   if w2_2=true then
    (Q3 2 4 1 0 0 true).bind fun x75 =>
    if x75=true then
     (Q3 2 4 2 0 0 false).bind fun x79 =>
     if x79=true then
      (Q3 2 4 2 0 1 true).bind fun x83 =>
      if x83=true then
       (Q3 3 1 6 0 0 true).bind fun x87 =>
       if x87=true then
        (Q3 1 1 4 2 0 false).bind fun x91 =>
        Zb x91
       else
       Zb false
      else
      Zb false
     else
     Zb false
    else
    Zb false
   else
   Zb false
  else
  Zb false
 else
 Zb false
def Vw (w1_0:Int) (w1_1:Int) (w1_2:Bool) (w1_3:Bool) (w1_4:(List Int)) (w1_5:Int) (w1_6:Int) (w1_7:(List Int)) (w1_8:Int) (w1_9:Int):Option Bool :=
 if (w1_0==0)=true then
  (Xo w1_4 [1,1,-1]).bind fun x53 =>
  if x53=true then
   (Z2 1 1).bind fun x57 =>
   if ((w1_5==x57.N) && ((w1_6==x57.D) && true))=true then
    if (w1_1==0)=true then
     (Xo w1_7 [-1,0,-1]).bind fun x63 =>
     if x63=true then
      (Z2 3 4).bind fun x67 =>
      Zz w1_2 w1_3 ((w1_8==x67.N) && ((w1_9==x67.D) && true))
     else
     Zz w1_2 w1_3 false
    else
    Zz w1_2 w1_3 false
   else
   Zz w1_2 w1_3 false
  else
  Zz w1_2 w1_3 false
 else
 Zz w1_2 w1_3 false
def Zm (w0_0:Int) (w0_1:Int) (w0_2:Bool) (w0_3:(List Int)) (w0_4:Int) (w0_5:Int) (w0_6:(List Int)) (w0_7:Int) (w0_8:Int):Option Bool :=
 (Z2 1 7).bind fun x37 =>
 (Z2 6 7).bind fun x39 =>
 (J1 [-1,1,-1] [-1,-1,1] 0 [x37,x39]).bind fun x41 =>
 if x41=true then
  (Z2 7 8).bind fun x45 =>
  (Z2 1 8).bind fun x47 =>
  (J1 [0,-1,-1] [-1,-1,-1] 2 [x45,x47]).bind fun x49 =>
  Vw w0_0 w0_1 w0_2 x49 w0_3 w0_4 w0_5 w0_6 w0_7 w0_8
 else
 Vw w0_0 w0_1 w0_2 false w0_3 w0_4 w0_5 w0_6 w0_7 w0_8
def Qd0  : Option Bool :=
 (Xf).bind fun x1 =>
 (Vx x1 [-1,1,-1]).bind fun x3 =>
 (Xf).bind fun x5 =>
 (lkI x5.Nodes 1).bind fun a7 =>
 (Ya x1 [-1,1,-1] [-1,-1,1]).bind fun x94 =>
 (Ya x1 [-1,1,-1] [-1,0,-1]).bind fun x96 =>
 (Yy x1 [-1,1,-1] [-1,0,-1] 2).bind fun x98 =>
 (X2 x1 3 2 1).bind fun x100 =>
 (X2 x1 2 0 1).bind fun x102 =>
 if (x3.2==0)=true then
  (Jg x3.1 (Qb.mk x5.Grain (List.set x5.Nodes (Int.toNat 1) (Qe.mk 2 [] [[0,4]])))).bind fun x106 =>
  if x106=true then
   if (x94.2==0)=true then
    (Z2 7 8).bind fun x112 =>
    if ((x94.1.N==x112.N) && ((x94.1.D==x112.D) && true))=true then
     if (x96.2==0)=true then
      (Z2 0 1).bind fun x118 =>
      if ((x96.1.N==x118.N) && ((x96.1.D==x118.D) && true))=true then
       Zm x100.2.2 x102.2.2 (x98.2==7) x100.1 x100.2.1.N x100.2.1.D x102.1 x102.2.1.N x102.2.1.D
      else
      Zm x100.2.2 x102.2.2 false x100.1 x100.2.1.N x100.2.1.D x102.1 x102.2.1.N x102.2.1.D
     else
     Zm x100.2.2 x102.2.2 false x100.1 x100.2.1.N x100.2.1.D x102.1 x102.2.1.N x102.2.1.D
    else
    Zm x100.2.2 x102.2.2 false x100.1 x100.2.1.N x100.2.1.D x102.1 x102.2.1.N x102.2.1.D
   else
   Zm x100.2.2 x102.2.2 false x100.1 x100.2.1.N x100.2.1.D x102.1 x102.2.1.N x102.2.1.D
  else
  Zm x100.2.2 x102.2.2 false x100.1 x100.2.1.N x100.2.1.D x102.1 x102.2.1.N x102.2.1.D
 else
 Zm x100.2.2 x102.2.2 false x100.1 x100.2.1.N x100.2.1.D x102.1 x102.2.1.N x102.2.1.D
def Qea (x5:Qb) (s37:Int):Option (Qo Int (Unit ⊕ Unit)) :=
 if (decide (s37 < 5))=true then
  if s37=0 then
   (Xx x5 0 1 2 4 0).bind fun x41 =>
   if x41.1=true then
    some (.done (Sum.inl ()))
   else
   if (x41.2 != 2)=true then
    some (.done (Sum.inl ()))
   else
   some (.next 1)
  else
  if s37=1 then
   (Xx x5 4 1 2 4 0).bind fun x48 =>
   if x48.1=true then
    some (.done (Sum.inl ()))
   else
   if (x48.2 != 2)=true then
    some (.done (Sum.inl ()))
   else
   some (.next 2)
  else
  if s37=2 then
   (Xx x5 1 1 1 0 0).bind fun x55 =>
   if x55.1=true then
    some (.done (Sum.inl ()))
   else
   if (x55.2 != 2)=true then
    some (.done (Sum.inl ()))
   else
   some (.next 3)
  else
  if s37=3 then
   (Xx x5 2 8 1 0 0).bind fun x62 =>
   if x62.1=true then
    some (.done (Sum.inl ()))
   else
   if (x62.2 != 2)=true then
    some (.done (Sum.inl ()))
   else
   some (.next 4)
  else
  if s37=4 then
   (Xx x5 3 1 2 4 6).bind fun x69 =>
   if x69.1=true then
    some (.done (Sum.inl ()))
   else
   if (x69.2 != 2)=true then
    some (.done (Sum.inl ()))
   else
   some (.next 5)
  else
  none
 else
 some (.done (Sum.inr ()))
def Q0 (w1_0:Int) (w1_1:Int) (w1_2:Int) (w1_3:Int) (w1_4:Int) (w1_5:Int) (w1_6:Int) (w1_7:Int) (w1_8:Int) (w1_9:Int) (w1_10:Int) (w1_11:Int) (w1_12:Int) (w1_13:Int) (w1_14:Int) (w1_15:Int) (w1_16:Bool) (w1_17:Int) (w1_18:Int) (w1_19:Int) (w1_20:Int) (w1_21:Int) (w1_22:Int) (w1_23:Int) (w1_24:Int) (w1_25:Int) (w1_26:(List Int)) (w1_27:Int) (w1_28:Int) (w1_29:(List Int)) (w1_30:Int) (w1_31:Int) (w1_32:(List Qe)) (w1_33:(List Qe)):Option Bool :=
 if (w1_0==0)=true then
  (Jg (Qb.mk w1_21 w1_33) (Qb.mk w1_17 w1_32)).bind fun x112 =>
  if x112=true then
   if (w1_1==0)=true then
    (Z2 1 1).bind fun x118 =>
    if ((w1_22==x118.N) && ((w1_23==x118.D) && true))=true then
     if (w1_2==0)=true then
      (Z2 1 1).bind fun x124 =>
      if ((w1_24==x124.N) && ((w1_25==x124.D) && true))=true then
       if (w1_3==50)=true then
        if (w1_4==2)=true then
         if (w1_5==2)=true then
          if (w1_6==2)=true then
           if (w1_7==2)=true then
            if (w1_8==2)=true then
             if (w1_9==2)=true then
              if (w1_10==2)=true then
               if (w1_11==2)=true then
                if (w1_12==2)=true then
                 if (w1_13==0)=true then
                  (Xo w1_26 [w1_18,w1_19,w1_20]).bind fun x150 =>
                  if x150=true then
                   (Z2 47 64).bind fun x154 =>
                   if ((w1_27==x154.N) && ((w1_28==x154.D) && true))=true then
                    if (w1_14==0)=true then
                     (Xo w1_29 [1,0,0]).bind fun x160 =>
                     if x160=true then
                      (Z2 1 1).bind fun x164 =>
                      if ((w1_30==x164.N) && ((w1_31==x164.D) && true))=true then
                       if (w1_15==50)=true then
                        some w1_16
                       else
                       some false
                      else
                      some false
                     else
                     some false
                    else
                    some false
                   else
                   some false
                  else
                  some false
                 else
                 some false
                else
                some false
               else
               some false
              else
              some false
             else
             some false
            else
            some false
           else
           some false
          else
          some false
         else
         some false
        else
        some false
       else
       some false
      else
      some false
     else
     some false
    else
    some false
   else
   some false
  else
  some false
 else
 some false
def Jo (w0_0:Int) (w0_1:Int) (w0_2:Int) (w0_3:Int) (w0_4:Int) (w0_5:Int) (w0_6:Int) (w0_7:Int) (w0_8:Int) (w0_9:Int) (w0_10:Int) (w0_11:Int) (w0_12:Int) (w0_13:Int) (w0_14:Int) (w0_15:Int) (w0_16:Int) (w0_17:Int) (w0_18:Int) (w0_19:Int) (w0_20:Int) (w0_21:Int) (w0_22:Int) (w0_23:Int) (w0_24:Int) (w0_25:(List Int)) (w0_26:Int) (w0_27:Int) (w0_28:(List Int)) (w0_29:Int) (w0_30:Int) (w0_31:(List Qe)) (w0_32:(List Qe)):Option Bool :=
 (Q3 1 1 2 0 0 false).bind fun x80 =>
 if x80=true then
  (Q3 1 0 7 0 0 true).bind fun x84 =>
  if x84=true then
   (Q3 3 2 1 0 0 false).bind fun x88 =>
   if x88=true then
    (Q3 3 1 2 0 4 false).bind fun x92 =>
    if x92=true then
     (Q3 3 1 2 0 0 true).bind fun x96 =>
     if x96=true then
      (Q3 1 2 1 4 0 false).bind fun x100 =>
      if x100=true then
       (Q3 1 1 2 4 0 false).bind fun x104 =>
       if x104=true then
        (Q3 2 2 1 0 4 true).bind fun x108 =>
        Q0 w0_0 w0_1 w0_2 w0_3 w0_4 w0_5 w0_6 w0_7 w0_8 w0_9 w0_10 w0_11 w0_12 w0_13 w0_14 w0_15 x108 w0_16 w0_17 w0_18 w0_19 w0_20 w0_21 w0_22 w0_23 w0_24 w0_25 w0_26 w0_27 w0_28 w0_29 w0_30 w0_31 w0_32
       else
       Q0 w0_0 w0_1 w0_2 w0_3 w0_4 w0_5 w0_6 w0_7 w0_8 w0_9 w0_10 w0_11 w0_12 w0_13 w0_14 w0_15 false w0_16 w0_17 w0_18 w0_19 w0_20 w0_21 w0_22 w0_23 w0_24 w0_25 w0_26 w0_27 w0_28 w0_29 w0_30 w0_31 w0_32
      else
      Q0 w0_0 w0_1 w0_2 w0_3 w0_4 w0_5 w0_6 w0_7 w0_8 w0_9 w0_10 w0_11 w0_12 w0_13 w0_14 w0_15 false w0_16 w0_17 w0_18 w0_19 w0_20 w0_21 w0_22 w0_23 w0_24 w0_25 w0_26 w0_27 w0_28 w0_29 w0_30 w0_31 w0_32
     else
     Q0 w0_0 w0_1 w0_2 w0_3 w0_4 w0_5 w0_6 w0_7 w0_8 w0_9 w0_10 w0_11 w0_12 w0_13 w0_14 w0_15 false w0_16 w0_17 w0_18 w0_19 w0_20 w0_21 w0_22 w0_23 w0_24 w0_25 w0_26 w0_27 w0_28 w0_29 w0_30 w0_31 w0_32
    else
    Q0 w0_0 w0_1 w0_2 w0_3 w0_4 w0_5 w0_6 w0_7 w0_8 w0_9 w0_10 w0_11 w0_12 w0_13 w0_14 w0_15 false w0_16 w0_17 w0_18 w0_19 w0_20 w0_21 w0_22 w0_23 w0_24 w0_25 w0_26 w0_27 w0_28 w0_29 w0_30 w0_31 w0_32
   else
   Q0 w0_0 w0_1 w0_2 w0_3 w0_4 w0_5 w0_6 w0_7 w0_8 w0_9 w0_10 w0_11 w0_12 w0_13 w0_14 w0_15 false w0_16 w0_17 w0_18 w0_19 w0_20 w0_21 w0_22 w0_23 w0_24 w0_25 w0_26 w0_27 w0_28 w0_29 w0_30 w0_31 w0_32
  else
  Q0 w0_0 w0_1 w0_2 w0_3 w0_4 w0_5 w0_6 w0_7 w0_8 w0_9 w0_10 w0_11 w0_12 w0_13 w0_14 w0_15 false w0_16 w0_17 w0_18 w0_19 w0_20 w0_21 w0_22 w0_23 w0_24 w0_25 w0_26 w0_27 w0_28 w0_29 w0_30 w0_31 w0_32
 else
 Q0 w0_0 w0_1 w0_2 w0_3 w0_4 w0_5 w0_6 w0_7 w0_8 w0_9 w0_10 w0_11 w0_12 w0_13 w0_14 w0_15 false w0_16 w0_17 w0_18 w0_19 w0_20 w0_21 w0_22 w0_23 w0_24 w0_25 w0_26 w0_27 w0_28 w0_29 w0_30 w0_31 w0_32
def Qa4  : Option Bool :=
 (Qd0).bind fun x1 =>
 if (!x1)=true then
  some false
 else
 (Xf).bind fun x5 =>
 (Vx x5 [-1,-1,-1]).bind fun x7 =>
 (Ya x5 [-1,-1,-1] [-1,-1,-1]).bind fun x9 =>
 (Ya x5 [1,1,1] [1,1,1]).bind fun x11 =>
 (Vx (Qb.mk 0 []) []).bind fun x13 =>
 (Vx x5 [-1,-1]).bind fun x15 =>
 (Vx x5 [-1,2,-1]).bind fun x17 =>
 (Vx x5 [-1,-2,-1]).bind fun x19 =>
 (Ya x5 [-1,-1,-1] []).bind fun x21 =>
 (Yy x5 [-1,-1,-1] [-1,-1,-1] 3).bind fun x23 =>
 (Yy x5 [-1,0,-1] [-1,1,-1] (-1)).bind fun x25 =>
 (X2 x5 8 0 0).bind fun x27 =>
 (X2 x5 1 0 2).bind fun x29 =>
 (X2 x5 1 0 (-1)).bind fun x31 =>
 (X2 x5 0 2 1).bind fun x33 =>
 (X2 x5 7 0 1).bind fun x35 =>
 (Qf fuel (Qea x5) 0).bind fun x75=>match x75 with
 | .inl x76=>(
  some false)
 | .inr x77=>(
  (Xx (Qb.mk 0 []) 0 0 0 0 0).bind fun x78 =>
  Jo x7.2 x9.2 x11.2 x13.2 x15.2 x17.2 x19.2 x21.2 x23.2 x25.2 x27.2.2 x29.2.2 x31.2.2 x33.2.2 x35.2.2 x78.2 x5.Grain (-1) (-1) (-1) x7.1.Grain x9.1.N x9.1.D x11.1.N x11.1.D x33.1 x33.2.1.N x33.2.1.D x35.1 x35.2.1.N x35.2.1.D x5.Nodes x7.1.Nodes)
end Go.Ab
