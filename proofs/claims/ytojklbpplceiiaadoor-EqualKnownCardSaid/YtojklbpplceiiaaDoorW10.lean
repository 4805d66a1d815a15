/- What functions compute. No conditions. -/
import Derived.Test.YtojklbpplceiiaaDoorEng8
set_option linter.all false
namespace Go.Ab
open Go
structure Z6 where
 parents:(List Int)
 deriving DecidableEq,Inhabited
structure Qp where
 ancestry:Z6
 children:(List Int)
 deriving DecidableEq,Inhabited
structure Tseparate_step where
 node:Int
 down:Bool
 deriving DecidableEq,Inhabited
@[reducible] def eTseparate_step (x:Tseparate_step):AV:=.agg [vI x.node,vB x.down]
@[reducible] def qTseparate_step (a b:Tseparate_step):Bool:=(a.node==b.node) && ((a.down==b.down) && true)
structure Tapi_Fact where
 X:Int
 Y:Int
 Z:Int
 deriving DecidableEq,Inhabited
@[reducible] def eTapi_Fact (x:Tapi_Fact):AV:=.agg [vI x.X,vI x.Y,.int .u64 x.Z]
@[reducible] def qTapi_Fact (a b:Tapi_Fact):Bool:=(a.X==b.X) && ((a.Y==b.Y) && ((a.Z==b.Z) && true))
structure Tequal_skeleton where
 n:Int
 near:(Int × Int × Int × Int × Int × Int)
 deriving DecidableEq,Inhabited
structure Qb where
 skeleton:Tequal_skeleton
 out:(Int × Int × Int × Int × Int × Int)
 deriving DecidableEq,Inhabited
structure Qk where
 N:Int
 Arrows:(List (Int × Int))
 Lines:(List (Int × Int))
 deriving DecidableEq,Inhabited
def Qlk (x:List Int):Bool:=Nat.ble x.length 63
def leL:List Int→List Int→Bool
 | [],_=>true
 | _::_,[]=>false
 | a::x,b::y=>decide (a < b) || (a==b && leL x y)
def Qf6 (p0:(List Int)) (s4:(Int × Int)):Option (Qm (Int × Int) Int) :=
 if (decide (s4.2 < (p0.length:Int)))=true then
  (lkI p0 s4.2).bind fun a7 =>
  if ((zv (zb a7 &&& ~~~ zb s4.1).toNat)==0)=true then
   if 0≤s4.2 then
    some (.next (zv (zb s4.1 ||| zb (zv (1*2^min (Int.toNat s4.2) (IntKind.bits .u64)))).toNat,zw (s4.2+1)))
   else none
  else
  some (.next (s4.1,zw (s4.2+1)))
 else
 some (.done s4.1)
def Qgh (p0:(List Int)) (s1:(Int × Int)):Option (Qm (Int × Int) Int) :=
 if (decide (s1.2 < (p0.length:Int)))=true then
  (Qe fuel (Qf6 p0) (s1.1,0)).bind fun x12 =>
  some (.next (x12,zw (s1.2+1)))
 else
 some (.done s1.1)
def Y6 (p0:(List Int)):Option Bool :=
 (Qe fuel (Qgh p0) (0,0)).bind fun x14 =>
 if 0≤(p0.length:Int) then
  some (x14==(zv ((zv (1*2^min (Int.toNat (p0.length:Int)) (IntKind.bits .u64))) - 1)))
 else none
def Q4 (p0:(List Int)):Option Int :=
 if (decide ((p0.length:Int) < 1))=true then
  some 310
 else
 if (decide ((p0.length:Int) > 6))=true then
  some 310
 else
 (Y6 p0).bind fun x5 =>
 if (!x5)=true then
  some 310
 else
 some 0
def Qgv (p0:(List Int)) (s5:(Int × (List Int))) (a8:Int) (s12:(Int × (List Int))):Option (Qm (Int × (List Int)) (List Int)) :=
 if (decide (s12.1 < (p0.length:Int)))=true then
  (lkI s12.2 s12.1).bind fun a15 =>
  if 0≤s12.1 then
   if 0≤s5.1 then
    some (.next (zw (s12.1+1),(List.set s12.2 (Int.toNat s12.1) (zv (zb a15 ||| zb (zv ((zv (zb (Int.fdiv a8 (2^min (Int.toNat s12.1) (IntKind.bits .u64))) &&& zb 1).toNat)*2^min (Int.toNat s5.1) (IntKind.bits .u64)))).toNat))))
   else none
  else none
 else
 some (.done s12.2)
def Qgp (p0:(List Int)) (s5:(Int × (List Int))):Option (Qm (Int × (List Int)) (Unit ⊕ (List Int))) :=
 if (decide (s5.1 < (p0.length:Int)))=true then
  (lkI p0 s5.1).bind fun a8 =>
  if 0≤(p0.length:Int) then
   if ((Int.fdiv a8 (2^min (Int.toNat (p0.length:Int)) (IntKind.bits .u64))) != 0)=true then
    some (.done (Sum.inl ()))
   else
   (Qe fuel (Qgv p0 s5 a8) (0,s5.2)).bind fun x19 =>
   some (.next (zw (s5.1+1),x19))
  else none
 else
 some (.done (Sum.inr s5.2))
def Qg7 (p0:(List Int)) (s23:(Int × Int)) (s26:Int):Option (Qm Int (Int ⊕ Unit)) :=
 if (decide (s26 < (p0.length:Int)))=true then
  (lkI p0 s26).bind fun a29 =>
  if 0≤s26 then
   if ((zv (zb (Int.fdiv s23.1 (2^min (Int.toNat s26) (IntKind.bits .u64))) &&& zb 1).toNat)==0)=true then
    if ((zv (zb a29 &&& ~~~ zb s23.1).toNat)==0)=true then
     if 0≤s26 then
      some (.done (Sum.inl (zv (zb s23.1 ||| zb (zv (1*2^min (Int.toNat s26) (IntKind.bits .u64)))).toNat)))
     else none
    else
    some (.next (zw (s26+1)))
   else
   some (.next (zw (s26+1)))
  else none
 else
 some (.done (Sum.inr ()))
def Qgg (p0:(List Int)) (s23:(Int × Int)):Option (Qm (Int × Int) (Unit ⊕ Unit)) :=
 if (decide (s23.2 < (p0.length:Int)))=true then
  (Qe fuel (Qg7 p0 s23) 0).bind fun x35=>match x35 with
  | .inl x36=>(
   some (.next (x36,zw (s23.2+1))))
  | .inr x37=>(
   some (.done (Sum.inl ())))
 else
 some (.done (Sum.inr ()))
def Qcb (p0:(List Int)):Option (Qp × Int) :=
 if (decide ((p0.length:Int) < 1))=true then
  some ((Qp.mk (Z6.mk []) []),70)
 else
 if (decide ((p0.length:Int) > 8))=true then
  some ((Qp.mk (Z6.mk []) []),70)
 else
 if 0≤(p0.length:Int)∧(p0.length:Int)≤(p0.length:Int)∧(p0.length:Int)*8≤140737488355328 then
  (Qe fuel (Qgp p0) (0,(List.replicate (Int.toNat (p0.length:Int)) (0:Int)))).bind fun x20=>match x20 with
  | .inl x21=>(
   some ((Qp.mk (Z6.mk []) []),70))
  | .inr x22=>(
   (Qe fuel (Qgg p0) (0,0)).bind fun x38=>match x38 with
   | .inl x39=>(
    some ((Qp.mk (Z6.mk []) []),70))
   | .inr x40=>(
    some ((Qp.mk (Z6.mk p0) x22),0)))
 else none
def J8 (p1:(List Int)) (p0:Qp) (s1:(Int × Int)):Option (Qm (Int × Int) (Unit ⊕ Unit)) :=
 if (decide (s1.2 < (p1.length:Int)))=true then
  (lkI p1 s1.2).bind fun a4 =>
  if 0≤(p0.ancestry.parents.length:Int) then
   if ((Int.fdiv a4 (2^min (Int.toNat (p0.ancestry.parents.length:Int)) (IntKind.bits .u64))) != 0)=true then
    some (.done (Sum.inl ()))
   else
   if ((zv (zb a4 &&& zb s1.1).toNat) != 0)=true then
    some (.done (Sum.inl ()))
   else
   some (.next (zv (zb s1.1 ||| zb a4).toNat,zw (s1.2+1)))
  else none
 else
 some (.done (Sum.inr ()))
def Y5 (p0:Qp) (p1:(List Int)):Option Bool :=
 (Qe fuel (J8 p1 p0) (0,0)).bind fun x10=>match x10 with
 | .inl x11=>(
  some false)
 | .inr x12=>(
  some true)
def Yp (p0:Int):Option Int :=
 if (p0==0)=true then
  some 64
 else
 (lkI tab1 (Int.fdiv (zv ((zv (zb p0 &&& zb (zv (0 - p0))).toNat)*285870213051353865)) (2^min (Int.toNat 58) (IntKind.bits .u64)))).bind fun a3 =>
 some (zw (a3))
def Q6 (p0:Int):Option Int :=
 (Yp p0).bind fun x1 =>
 some x1
def Qat (p0:Qp) (s4:(Int × Int)):Option (Qm (Int × Int) Int) :=
 if (decide (s4.1 < (p0.ancestry.parents.length:Int)))=true then
  (lkI p0.ancestry.parents s4.1).bind fun a7 =>
  if 0≤s4.1 then
   if ((zv (zb (Int.fdiv s4.2 (2^min (Int.toNat s4.1) (IntKind.bits .u64))) &&& zb 1).toNat)==1)=true then
    some (.next (zw (s4.1+1),zv (zb s4.2 ||| zb a7).toNat))
   else
   some (.next (zw (s4.1+1),s4.2))
  else none
 else
 some (.done s4.2)
def Qax (p0:Qp) (s1:(Int × Int)):Option (Qm (Int × Int) Int) :=
 if (decide (s1.1 < (p0.ancestry.parents.length:Int)))=true then
  (Qe fuel (Qat p0) (0,s1.2)).bind fun x12 =>
  some (.next (zw (s1.1+1),x12))
 else
 some (.done s1.2)
def Qah (r21:((Int × Bool × Int × (List (Tseparate_step × Bool)))→Option (Int × (List (Tseparate_step × Bool))))) (s29:(Int × Int × (List (Tseparate_step × Bool)))):Option (Qm (Int × Int × (List (Tseparate_step × Bool))) (Int × (List (Tseparate_step × Bool)))) :=
 if (s29.1 != 0)=true then
  (Q6 s29.1).bind fun x32 =>
  (r21 (x32,true,s29.2.1,s29.2.2)).bind fun x34 =>
  some (.next (zv (zb s29.1 &&& zb (zv (s29.1 - 1))).toNat,x34.1,x34.2))
 else
 some (.done (s29.2.1,s29.2.2))
def Qag (r21:((Int × Bool × Int × (List (Tseparate_step × Bool)))→Option (Int × (List (Tseparate_step × Bool))))) (s43:(Int × Int × (List (Tseparate_step × Bool)))):Option (Qm (Int × Int × (List (Tseparate_step × Bool))) (Int × (List (Tseparate_step × Bool)))) :=
 if (s43.1 != 0)=true then
  (Q6 s43.1).bind fun x46 =>
  (r21 (x46,false,s43.2.1,s43.2.2)).bind fun x48 =>
  some (.next (zv (zb s43.1 &&& zb (zv (s43.1 - 1))).toNat,x48.1,x48.2))
 else
 some (.done (s43.2.1,s43.2.2))
def Qaq (r21:((Int × Bool × Int × (List (Tseparate_step × Bool)))→Option (Int × (List (Tseparate_step × Bool))))) (s55:(Int × Int × (List (Tseparate_step × Bool)))):Option (Qm (Int × Int × (List (Tseparate_step × Bool))) (Int × (List (Tseparate_step × Bool)))) :=
 if (s55.1 != 0)=true then
  (Q6 s55.1).bind fun x58 =>
  (r21 (x58,false,s55.2.1,s55.2.2)).bind fun x60 =>
  some (.next (zv (zb s55.1 &&& zb (zv (s55.1 - 1))).toNat,x60.1,x60.2))
 else
 some (.done (s55.2.1,s55.2.2))
def Qav (r21:((Int × Bool × Int × (List (Tseparate_step × Bool)))→Option (Int × (List (Tseparate_step × Bool))))) (s69:(Int × Int × (List (Tseparate_step × Bool)))):Option (Qm (Int × Int × (List (Tseparate_step × Bool))) (Int × (List (Tseparate_step × Bool)))) :=
 if (s69.1 != 0)=true then
  (Q6 s69.1).bind fun x72 =>
  (r21 (x72,false,s69.2.1,s69.2.2)).bind fun x74 =>
  some (.next (zv (zb s69.1 &&& zb (zv (s69.1 - 1))).toNat,x74.1,x74.2))
 else
 some (.done (s69.2.1,s69.2.2))
def Qao (r21:((Int × Bool × Int × (List (Tseparate_step × Bool)))→Option (Int × (List (Tseparate_step × Bool))))) (s81:(Int × Int × (List (Tseparate_step × Bool)))):Option (Qm (Int × Int × (List (Tseparate_step × Bool))) (Int × (List (Tseparate_step × Bool)))) :=
 if (s81.1 != 0)=true then
  (Q6 s81.1).bind fun x84 =>
  (r21 (x84,false,s81.2.1,s81.2.2)).bind fun x86 =>
  some (.next (zv (zb s81.1 &&& zb (zv (s81.1 - 1))).toNat,x86.1,x86.2))
 else
 some (.done (s81.2.1,s81.2.2))
def Qan (p2:Int) (p0:Qp) (x14:Int) (r21:((Int × Bool × Int × (List (Tseparate_step × Bool)))→Option (Int × (List (Tseparate_step × Bool))))) (s20:(Int × Bool × Int × (List (Tseparate_step × Bool)))):Option (Int × (List (Tseparate_step × Bool))) :=
 if (Xo qTseparate_step s20.2.2.2 (Tseparate_step.mk s20.1 s20.2.1)).getD false=true then
  some (s20.2.2.1,s20.2.2.2)
 else
 if 0≤s20.1 then
  if ((zv (zb (Int.fdiv p2 (2^min (Int.toNat s20.1) (IntKind.bits .u64))) &&& zb 1).toNat)==0)=true then
   if 0≤s20.1 then
    (lkI p0.children s20.1).bind fun a27 =>
    (Qe fuel (Qah r21) (a27,zv (zb s20.2.2.1 ||| zb (zv (1*2^min (Int.toNat s20.1) (IntKind.bits .u64)))).toNat,kput qTseparate_step s20.2.2.2 (Tseparate_step.mk s20.1 s20.2.1) true)).bind fun x36 =>
    if s20.2.1=true then
     if 0≤s20.1 then
      if ((zv (zb (Int.fdiv x14 (2^min (Int.toNat s20.1) (IntKind.bits .u64))) &&& zb 1).toNat)==0)=true then
       some (x36.1,x36.2)
      else
      (lkI p0.ancestry.parents s20.1).bind fun a41 =>
      (Qe fuel (Qag r21) (a41,x36.1,x36.2)).bind fun x50 =>
      some (x50.1,x50.2)
     else none
    else
    if 0≤s20.1 then
     if ((zv (zb (Int.fdiv p2 (2^min (Int.toNat s20.1) (IntKind.bits .u64))) &&& zb 1).toNat)==1)=true then
      some (x36.1,x36.2)
     else
     (lkI p0.ancestry.parents s20.1).bind fun a53 =>
     (Qe fuel (Qaq r21) (a53,x36.1,x36.2)).bind fun x62 =>
     some (x62.1,x62.2)
    else none
   else none
  else
  if s20.2.1=true then
   if 0≤s20.1 then
    if ((zv (zb (Int.fdiv x14 (2^min (Int.toNat s20.1) (IntKind.bits .u64))) &&& zb 1).toNat)==0)=true then
     some (s20.2.2.1,kput qTseparate_step s20.2.2.2 (Tseparate_step.mk s20.1 s20.2.1) true)
    else
    (lkI p0.ancestry.parents s20.1).bind fun a67 =>
    (Qe fuel (Qav r21) (a67,s20.2.2.1,kput qTseparate_step s20.2.2.2 (Tseparate_step.mk s20.1 s20.2.1) true)).bind fun x76 =>
    some (x76.1,x76.2)
   else none
  else
  if 0≤s20.1 then
   if ((zv (zb (Int.fdiv p2 (2^min (Int.toNat s20.1) (IntKind.bits .u64))) &&& zb 1).toNat)==1)=true then
    some (s20.2.2.1,kput qTseparate_step s20.2.2.2 (Tseparate_step.mk s20.1 s20.2.1) true)
   else
   (lkI p0.ancestry.parents s20.1).bind fun a79 =>
   (Qe fuel (Qao r21) (a79,s20.2.2.1,kput qTseparate_step s20.2.2.2 (Tseparate_step.mk s20.1 s20.2.1) true)).bind fun x88 =>
   some (x88.1,x88.2)
  else none
 else none
def Qaj (p2:Int) (p0:Qp) (x14:Int) (s15:(Int × Int × (List (Tseparate_step × Bool)))):Option (Qm (Int × Int × (List (Tseparate_step × Bool))) (Int × (List (Tseparate_step × Bool)))) :=
 if (s15.1 != 0)=true then
  (Q6 s15.1).bind fun x18 =>
  (Qlo (Qan p2 p0 x14) fuel (x18,false,s15.2.1,s15.2.2)).bind fun x89 =>
  some (.next (zv (zb s15.1 &&& zb (zv (s15.1 - 1))).toNat,x89.1,x89.2))
 else
 some (.done (s15.2.1,s15.2.2))
def Vr (p0:Qp) (p1:Int) (p2:Int):Option Int :=
 (Qe fuel (Qax p0) (0,p2)).bind fun x14 =>
 (Qe fuel (Qaj p2 p0 x14) (p1,0,[])).bind fun x92 =>
 some x92.1
def Qbo (p0:(List Int)) (p1:Int) (p2:Int) (p3:Int):Option (Bool × Int) :=
 (Qcb p0).bind fun x1 =>
 if (x1.2 != 0)=true then
  some (false,x1.2)
 else
 (Y5 x1.1 [p1,p2,p3]).bind fun x5 =>
 if (!x5)=true then
  some (false,2)
 else
 (Vr x1.1 p1 p3).bind fun x9 =>
 some (((zv (zb x9 &&& zb p2).toNat)==0),0)
def Qfp (p0:(List Int)) (s1:(Int × (List Tapi_Fact))) (s4:(Int × (List Tapi_Fact))) (s7:(Int × (List Tapi_Fact))):Option (Qm (Int × (List Tapi_Fact)) (Int ⊕ (List Tapi_Fact))) :=
 if (decide (s7.1 < (zv (1*2^min (Int.toNat (p0.length:Int)) (IntKind.bits .u64)))))=true then
  if 0≤s1.1 then
   if 0≤s4.1 then
    if ((zv (zb (zv (zb (Int.fdiv s7.1 (2^min (Int.toNat s1.1) (IntKind.bits .u64))) ||| zb (Int.fdiv s7.1 (2^min (Int.toNat s4.1) (IntKind.bits .u64)))).toNat) &&& zb 1).toNat)==1)=true then
     some (.next (zv (s7.1+1),s7.2))
    else
    if 0≤s1.1 then
     if 0≤s4.1 then
      (Qbo p0 (zv (1*2^min (Int.toNat s1.1) (IntKind.bits .u64))) (zv (1*2^min (Int.toNat s4.1) (IntKind.bits .u64))) s7.1).bind fun x12 =>
      if (x12.2 != 0)=true then
       some (.done (Sum.inl x12.2))
      else
      if x12.1=true then
       if (s7.2++([(Tapi_Fact.mk s1.1 s4.1 s7.1)]:(List Tapi_Fact))).length*24≤140737488355328 then
        some (.next (zv (s7.1+1),(s7.2++([(Tapi_Fact.mk s1.1 s4.1 s7.1)]:(List Tapi_Fact)))))
       else none
      else
      some (.next (zv (s7.1+1),s7.2))
     else none
    else none
   else none
  else none
 else
 some (.done (Sum.inr s7.2))
def Qfu (p0:(List Int)) (s1:(Int × (List Tapi_Fact))) (s4:(Int × (List Tapi_Fact))):Option (Qm (Int × (List Tapi_Fact)) (Int ⊕ (List Tapi_Fact))) :=
 if (decide (s4.1 < (p0.length:Int)))=true then
  if 0≤(p0.length:Int) then
   (Qe fuel (Qfp p0 s1 s4) (0,s4.2)).bind fun x18=>match x18 with
   | .inl x19=>(
    some (.done (Sum.inl x19)))
   | .inr x20=>(
    some (.next (zw (s4.1+1),x20)))
  else none
 else
 some (.done (Sum.inr s4.2))
def Qf8 (p0:(List Int)) (s1:(Int × (List Tapi_Fact))):Option (Qm (Int × (List Tapi_Fact)) (Int ⊕ (List Tapi_Fact))) :=
 if (decide (s1.1 < (p0.length:Int)))=true then
  (Qe fuel (Qfu p0 s1) (zw (s1.1+1),s1.2)).bind fun x21=>match x21 with
  | .inl x22=>(
   some (.done (Sum.inl x22)))
  | .inr x23=>(
   some (.next (zw (s1.1+1),x23)))
 else
 some (.done (Sum.inr s1.2))
def Jx (p0:(List Int)):Option ((List Tapi_Fact) × Int) :=
 (Qe fuel (Qf8 p0) (0,([]:(List Tapi_Fact)))).bind fun x24=>match x24 with
 | .inl x25=>(
  some (([]:(List Tapi_Fact)),x25))
 | .inr x26=>(
  some (x26,0))
def X5 (p0:(List Int)):Option ((List Tapi_Fact) × Int) :=
 (Q4 p0).bind fun x1 =>
 if (x1 != 0)=true then
  some (([]:(List Tapi_Fact)),x1)
 else
 if (decide ((p0.length:Int) > 5))=true then
  some (([]:(List Tapi_Fact)),6)
 else
 (Jx p0).bind fun x7 =>
 some (x7.1,x7.2)
def Qdj (p0:(List Int)) (a4:Int) (s6:(Int × Int × Int × Int × Int × Int × Int × Int × Int)):Option (Qm (Int × Int × Int × Int × Int × Int × Int × Int × Int) (Int × Int × Int × Int × Int × Int × Int)) :=
 if (decide (s6.2.2.1 < (p0.length:Int)))=true then
  if 0≤s6.2.2.1 then
   if ((zv (zb (Int.fdiv a4 (2^min (Int.toNat s6.2.2.1) (IntKind.bits .u64))) &&& zb 1).toNat)==1)=true then
    if s6.1=0 then
     if 0≤s6.2.2.1 then
      if s6.2.2.1=0 then
       some (.next (0,s6.2.1,1,zv (zb (zv (zb s6.2.2.2.1 ||| zb (zv (1*2^min (Int.toNat s6.2.2.1) (IntKind.bits .u64)))).toNat) ||| zb (zv (1*2^min (Int.toNat 0) (IntKind.bits .u64)))).toNat,s6.2.2.2.2.1,s6.2.2.2.2.2.1,s6.2.2.2.2.2.2.1,s6.2.2.2.2.2.2.2.1,s6.2.2.2.2.2.2.2.2))
      else
      if s6.2.2.1=1 then
       some (.next (0,s6.2.1,2,zv (zb s6.2.2.2.1 ||| zb (zv (1*2^min (Int.toNat s6.2.2.1) (IntKind.bits .u64)))).toNat,zv (zb s6.2.2.2.2.1 ||| zb (zv (1*2^min (Int.toNat 0) (IntKind.bits .u64)))).toNat,s6.2.2.2.2.2.1,s6.2.2.2.2.2.2.1,s6.2.2.2.2.2.2.2.1,s6.2.2.2.2.2.2.2.2))
      else
      if s6.2.2.1=2 then
       some (.next (0,s6.2.1,3,zv (zb s6.2.2.2.1 ||| zb (zv (1*2^min (Int.toNat s6.2.2.1) (IntKind.bits .u64)))).toNat,s6.2.2.2.2.1,zv (zb s6.2.2.2.2.2.1 ||| zb (zv (1*2^min (Int.toNat 0) (IntKind.bits .u64)))).toNat,s6.2.2.2.2.2.2.1,s6.2.2.2.2.2.2.2.1,s6.2.2.2.2.2.2.2.2))
      else
      if s6.2.2.1=3 then
       some (.next (0,s6.2.1,4,zv (zb s6.2.2.2.1 ||| zb (zv (1*2^min (Int.toNat s6.2.2.1) (IntKind.bits .u64)))).toNat,s6.2.2.2.2.1,s6.2.2.2.2.2.1,zv (zb s6.2.2.2.2.2.2.1 ||| zb (zv (1*2^min (Int.toNat 0) (IntKind.bits .u64)))).toNat,s6.2.2.2.2.2.2.2.1,s6.2.2.2.2.2.2.2.2))
      else
      if s6.2.2.1=4 then
       some (.next (0,s6.2.1,5,zv (zb s6.2.2.2.1 ||| zb (zv (1*2^min (Int.toNat s6.2.2.1) (IntKind.bits .u64)))).toNat,s6.2.2.2.2.1,s6.2.2.2.2.2.1,s6.2.2.2.2.2.2.1,zv (zb s6.2.2.2.2.2.2.2.1 ||| zb (zv (1*2^min (Int.toNat 0) (IntKind.bits .u64)))).toNat,s6.2.2.2.2.2.2.2.2))
      else
      if s6.2.2.1=5 then
       some (.next (0,s6.2.1,6,zv (zb s6.2.2.2.1 ||| zb (zv (1*2^min (Int.toNat s6.2.2.1) (IntKind.bits .u64)))).toNat,s6.2.2.2.2.1,s6.2.2.2.2.2.1,s6.2.2.2.2.2.2.1,s6.2.2.2.2.2.2.2.1,zv (zb s6.2.2.2.2.2.2.2.2 ||| zb (zv (1*2^min (Int.toNat 0) (IntKind.bits .u64)))).toNat))
      else
      none
     else none
    else
    if s6.1=1 then
     if 0≤s6.2.2.1 then
      if s6.2.2.1=0 then
       some (.next (1,s6.2.1,1,zv (zb s6.2.2.2.1 ||| zb (zv (1*2^min (Int.toNat 1) (IntKind.bits .u64)))).toNat,zv (zb s6.2.2.2.2.1 ||| zb (zv (1*2^min (Int.toNat s6.2.2.1) (IntKind.bits .u64)))).toNat,s6.2.2.2.2.2.1,s6.2.2.2.2.2.2.1,s6.2.2.2.2.2.2.2.1,s6.2.2.2.2.2.2.2.2))
      else
      if s6.2.2.1=1 then
       some (.next (1,s6.2.1,2,s6.2.2.2.1,zv (zb (zv (zb s6.2.2.2.2.1 ||| zb (zv (1*2^min (Int.toNat s6.2.2.1) (IntKind.bits .u64)))).toNat) ||| zb (zv (1*2^min (Int.toNat 1) (IntKind.bits .u64)))).toNat,s6.2.2.2.2.2.1,s6.2.2.2.2.2.2.1,s6.2.2.2.2.2.2.2.1,s6.2.2.2.2.2.2.2.2))
      else
      if s6.2.2.1=2 then
       some (.next (1,s6.2.1,3,s6.2.2.2.1,zv (zb s6.2.2.2.2.1 ||| zb (zv (1*2^min (Int.toNat s6.2.2.1) (IntKind.bits .u64)))).toNat,zv (zb s6.2.2.2.2.2.1 ||| zb (zv (1*2^min (Int.toNat 1) (IntKind.bits .u64)))).toNat,s6.2.2.2.2.2.2.1,s6.2.2.2.2.2.2.2.1,s6.2.2.2.2.2.2.2.2))
      else
      if s6.2.2.1=3 then
       some (.next (1,s6.2.1,4,s6.2.2.2.1,zv (zb s6.2.2.2.2.1 ||| zb (zv (1*2^min (Int.toNat s6.2.2.1) (IntKind.bits .u64)))).toNat,s6.2.2.2.2.2.1,zv (zb s6.2.2.2.2.2.2.1 ||| zb (zv (1*2^min (Int.toNat 1) (IntKind.bits .u64)))).toNat,s6.2.2.2.2.2.2.2.1,s6.2.2.2.2.2.2.2.2))
      else
      if s6.2.2.1=4 then
       some (.next (1,s6.2.1,5,s6.2.2.2.1,zv (zb s6.2.2.2.2.1 ||| zb (zv (1*2^min (Int.toNat s6.2.2.1) (IntKind.bits .u64)))).toNat,s6.2.2.2.2.2.1,s6.2.2.2.2.2.2.1,zv (zb s6.2.2.2.2.2.2.2.1 ||| zb (zv (1*2^min (Int.toNat 1) (IntKind.bits .u64)))).toNat,s6.2.2.2.2.2.2.2.2))
      else
      if s6.2.2.1=5 then
       some (.next (1,s6.2.1,6,s6.2.2.2.1,zv (zb s6.2.2.2.2.1 ||| zb (zv (1*2^min (Int.toNat s6.2.2.1) (IntKind.bits .u64)))).toNat,s6.2.2.2.2.2.1,s6.2.2.2.2.2.2.1,s6.2.2.2.2.2.2.2.1,zv (zb s6.2.2.2.2.2.2.2.2 ||| zb (zv (1*2^min (Int.toNat 1) (IntKind.bits .u64)))).toNat))
      else
      none
     else none
    else
    if s6.1=2 then
     if 0≤s6.2.2.1 then
      if s6.2.2.1=0 then
       some (.next (2,s6.2.1,1,zv (zb s6.2.2.2.1 ||| zb (zv (1*2^min (Int.toNat 2) (IntKind.bits .u64)))).toNat,s6.2.2.2.2.1,zv (zb s6.2.2.2.2.2.1 ||| zb (zv (1*2^min (Int.toNat s6.2.2.1) (IntKind.bits .u64)))).toNat,s6.2.2.2.2.2.2.1,s6.2.2.2.2.2.2.2.1,s6.2.2.2.2.2.2.2.2))
      else
      if s6.2.2.1=1 then
       some (.next (2,s6.2.1,2,s6.2.2.2.1,zv (zb s6.2.2.2.2.1 ||| zb (zv (1*2^min (Int.toNat 2) (IntKind.bits .u64)))).toNat,zv (zb s6.2.2.2.2.2.1 ||| zb (zv (1*2^min (Int.toNat s6.2.2.1) (IntKind.bits .u64)))).toNat,s6.2.2.2.2.2.2.1,s6.2.2.2.2.2.2.2.1,s6.2.2.2.2.2.2.2.2))
      else
      if s6.2.2.1=2 then
       some (.next (2,s6.2.1,3,s6.2.2.2.1,s6.2.2.2.2.1,zv (zb (zv (zb s6.2.2.2.2.2.1 ||| zb (zv (1*2^min (Int.toNat s6.2.2.1) (IntKind.bits .u64)))).toNat) ||| zb (zv (1*2^min (Int.toNat 2) (IntKind.bits .u64)))).toNat,s6.2.2.2.2.2.2.1,s6.2.2.2.2.2.2.2.1,s6.2.2.2.2.2.2.2.2))
      else
      if s6.2.2.1=3 then
       some (.next (2,s6.2.1,4,s6.2.2.2.1,s6.2.2.2.2.1,zv (zb s6.2.2.2.2.2.1 ||| zb (zv (1*2^min (Int.toNat s6.2.2.1) (IntKind.bits .u64)))).toNat,zv (zb s6.2.2.2.2.2.2.1 ||| zb (zv (1*2^min (Int.toNat 2) (IntKind.bits .u64)))).toNat,s6.2.2.2.2.2.2.2.1,s6.2.2.2.2.2.2.2.2))
      else
      if s6.2.2.1=4 then
       some (.next (2,s6.2.1,5,s6.2.2.2.1,s6.2.2.2.2.1,zv (zb s6.2.2.2.2.2.1 ||| zb (zv (1*2^min (Int.toNat s6.2.2.1) (IntKind.bits .u64)))).toNat,s6.2.2.2.2.2.2.1,zv (zb s6.2.2.2.2.2.2.2.1 ||| zb (zv (1*2^min (Int.toNat 2) (IntKind.bits .u64)))).toNat,s6.2.2.2.2.2.2.2.2))
      else
      if s6.2.2.1=5 then
       some (.next (2,s6.2.1,6,s6.2.2.2.1,s6.2.2.2.2.1,zv (zb s6.2.2.2.2.2.1 ||| zb (zv (1*2^min (Int.toNat s6.2.2.1) (IntKind.bits .u64)))).toNat,s6.2.2.2.2.2.2.1,s6.2.2.2.2.2.2.2.1,zv (zb s6.2.2.2.2.2.2.2.2 ||| zb (zv (1*2^min (Int.toNat 2) (IntKind.bits .u64)))).toNat))
      else
      none
     else none
    else
    if s6.1=3 then
     if 0≤s6.2.2.1 then
      if s6.2.2.1=0 then
       some (.next (3,s6.2.1,1,zv (zb s6.2.2.2.1 ||| zb (zv (1*2^min (Int.toNat 3) (IntKind.bits .u64)))).toNat,s6.2.2.2.2.1,s6.2.2.2.2.2.1,zv (zb s6.2.2.2.2.2.2.1 ||| zb (zv (1*2^min (Int.toNat s6.2.2.1) (IntKind.bits .u64)))).toNat,s6.2.2.2.2.2.2.2.1,s6.2.2.2.2.2.2.2.2))
      else
      if s6.2.2.1=1 then
       some (.next (3,s6.2.1,2,s6.2.2.2.1,zv (zb s6.2.2.2.2.1 ||| zb (zv (1*2^min (Int.toNat 3) (IntKind.bits .u64)))).toNat,s6.2.2.2.2.2.1,zv (zb s6.2.2.2.2.2.2.1 ||| zb (zv (1*2^min (Int.toNat s6.2.2.1) (IntKind.bits .u64)))).toNat,s6.2.2.2.2.2.2.2.1,s6.2.2.2.2.2.2.2.2))
      else
      if s6.2.2.1=2 then
       some (.next (3,s6.2.1,3,s6.2.2.2.1,s6.2.2.2.2.1,zv (zb s6.2.2.2.2.2.1 ||| zb (zv (1*2^min (Int.toNat 3) (IntKind.bits .u64)))).toNat,zv (zb s6.2.2.2.2.2.2.1 ||| zb (zv (1*2^min (Int.toNat s6.2.2.1) (IntKind.bits .u64)))).toNat,s6.2.2.2.2.2.2.2.1,s6.2.2.2.2.2.2.2.2))
      else
      if s6.2.2.1=3 then
       some (.next (3,s6.2.1,4,s6.2.2.2.1,s6.2.2.2.2.1,s6.2.2.2.2.2.1,zv (zb (zv (zb s6.2.2.2.2.2.2.1 ||| zb (zv (1*2^min (Int.toNat s6.2.2.1) (IntKind.bits .u64)))).toNat) ||| zb (zv (1*2^min (Int.toNat 3) (IntKind.bits .u64)))).toNat,s6.2.2.2.2.2.2.2.1,s6.2.2.2.2.2.2.2.2))
      else
      if s6.2.2.1=4 then
       some (.next (3,s6.2.1,5,s6.2.2.2.1,s6.2.2.2.2.1,s6.2.2.2.2.2.1,zv (zb s6.2.2.2.2.2.2.1 ||| zb (zv (1*2^min (Int.toNat s6.2.2.1) (IntKind.bits .u64)))).toNat,zv (zb s6.2.2.2.2.2.2.2.1 ||| zb (zv (1*2^min (Int.toNat 3) (IntKind.bits .u64)))).toNat,s6.2.2.2.2.2.2.2.2))
      else
      if s6.2.2.1=5 then
       some (.next (3,s6.2.1,6,s6.2.2.2.1,s6.2.2.2.2.1,s6.2.2.2.2.2.1,zv (zb s6.2.2.2.2.2.2.1 ||| zb (zv (1*2^min (Int.toNat s6.2.2.1) (IntKind.bits .u64)))).toNat,s6.2.2.2.2.2.2.2.1,zv (zb s6.2.2.2.2.2.2.2.2 ||| zb (zv (1*2^min (Int.toNat 3) (IntKind.bits .u64)))).toNat))
      else
      none
     else none
    else
    if s6.1=4 then
     if 0≤s6.2.2.1 then
      if s6.2.2.1=0 then
       some (.next (4,s6.2.1,1,zv (zb s6.2.2.2.1 ||| zb (zv (1*2^min (Int.toNat 4) (IntKind.bits .u64)))).toNat,s6.2.2.2.2.1,s6.2.2.2.2.2.1,s6.2.2.2.2.2.2.1,zv (zb s6.2.2.2.2.2.2.2.1 ||| zb (zv (1*2^min (Int.toNat s6.2.2.1) (IntKind.bits .u64)))).toNat,s6.2.2.2.2.2.2.2.2))
      else
      if s6.2.2.1=1 then
       some (.next (4,s6.2.1,2,s6.2.2.2.1,zv (zb s6.2.2.2.2.1 ||| zb (zv (1*2^min (Int.toNat 4) (IntKind.bits .u64)))).toNat,s6.2.2.2.2.2.1,s6.2.2.2.2.2.2.1,zv (zb s6.2.2.2.2.2.2.2.1 ||| zb (zv (1*2^min (Int.toNat s6.2.2.1) (IntKind.bits .u64)))).toNat,s6.2.2.2.2.2.2.2.2))
      else
      if s6.2.2.1=2 then
       some (.next (4,s6.2.1,3,s6.2.2.2.1,s6.2.2.2.2.1,zv (zb s6.2.2.2.2.2.1 ||| zb (zv (1*2^min (Int.toNat 4) (IntKind.bits .u64)))).toNat,s6.2.2.2.2.2.2.1,zv (zb s6.2.2.2.2.2.2.2.1 ||| zb (zv (1*2^min (Int.toNat s6.2.2.1) (IntKind.bits .u64)))).toNat,s6.2.2.2.2.2.2.2.2))
      else
      if s6.2.2.1=3 then
       some (.next (4,s6.2.1,4,s6.2.2.2.1,s6.2.2.2.2.1,s6.2.2.2.2.2.1,zv (zb s6.2.2.2.2.2.2.1 ||| zb (zv (1*2^min (Int.toNat 4) (IntKind.bits .u64)))).toNat,zv (zb s6.2.2.2.2.2.2.2.1 ||| zb (zv (1*2^min (Int.toNat s6.2.2.1) (IntKind.bits .u64)))).toNat,s6.2.2.2.2.2.2.2.2))
      else
      if s6.2.2.1=4 then
       some (.next (4,s6.2.1,5,s6.2.2.2.1,s6.2.2.2.2.1,s6.2.2.2.2.2.1,s6.2.2.2.2.2.2.1,zv (zb (zv (zb s6.2.2.2.2.2.2.2.1 ||| zb (zv (1*2^min (Int.toNat s6.2.2.1) (IntKind.bits .u64)))).toNat) ||| zb (zv (1*2^min (Int.toNat 4) (IntKind.bits .u64)))).toNat,s6.2.2.2.2.2.2.2.2))
      else
      if s6.2.2.1=5 then
       some (.next (4,s6.2.1,6,s6.2.2.2.1,s6.2.2.2.2.1,s6.2.2.2.2.2.1,s6.2.2.2.2.2.2.1,zv (zb s6.2.2.2.2.2.2.2.1 ||| zb (zv (1*2^min (Int.toNat s6.2.2.1) (IntKind.bits .u64)))).toNat,zv (zb s6.2.2.2.2.2.2.2.2 ||| zb (zv (1*2^min (Int.toNat 4) (IntKind.bits .u64)))).toNat))
      else
      none
     else none
    else
    if s6.1=5 then
     if 0≤s6.2.2.1 then
      if s6.2.2.1=0 then
       some (.next (5,s6.2.1,1,zv (zb s6.2.2.2.1 ||| zb (zv (1*2^min (Int.toNat 5) (IntKind.bits .u64)))).toNat,s6.2.2.2.2.1,s6.2.2.2.2.2.1,s6.2.2.2.2.2.2.1,s6.2.2.2.2.2.2.2.1,zv (zb s6.2.2.2.2.2.2.2.2 ||| zb (zv (1*2^min (Int.toNat s6.2.2.1) (IntKind.bits .u64)))).toNat))
      else
      if s6.2.2.1=1 then
       some (.next (5,s6.2.1,2,s6.2.2.2.1,zv (zb s6.2.2.2.2.1 ||| zb (zv (1*2^min (Int.toNat 5) (IntKind.bits .u64)))).toNat,s6.2.2.2.2.2.1,s6.2.2.2.2.2.2.1,s6.2.2.2.2.2.2.2.1,zv (zb s6.2.2.2.2.2.2.2.2 ||| zb (zv (1*2^min (Int.toNat s6.2.2.1) (IntKind.bits .u64)))).toNat))
      else
      if s6.2.2.1=2 then
       some (.next (5,s6.2.1,3,s6.2.2.2.1,s6.2.2.2.2.1,zv (zb s6.2.2.2.2.2.1 ||| zb (zv (1*2^min (Int.toNat 5) (IntKind.bits .u64)))).toNat,s6.2.2.2.2.2.2.1,s6.2.2.2.2.2.2.2.1,zv (zb s6.2.2.2.2.2.2.2.2 ||| zb (zv (1*2^min (Int.toNat s6.2.2.1) (IntKind.bits .u64)))).toNat))
      else
      if s6.2.2.1=3 then
       some (.next (5,s6.2.1,4,s6.2.2.2.1,s6.2.2.2.2.1,s6.2.2.2.2.2.1,zv (zb s6.2.2.2.2.2.2.1 ||| zb (zv (1*2^min (Int.toNat 5) (IntKind.bits .u64)))).toNat,s6.2.2.2.2.2.2.2.1,zv (zb s6.2.2.2.2.2.2.2.2 ||| zb (zv (1*2^min (Int.toNat s6.2.2.1) (IntKind.bits .u64)))).toNat))
      else
      if s6.2.2.1=4 then
       some (.next (5,s6.2.1,5,s6.2.2.2.1,s6.2.2.2.2.1,s6.2.2.2.2.2.1,s6.2.2.2.2.2.2.1,zv (zb s6.2.2.2.2.2.2.2.1 ||| zb (zv (1*2^min (Int.toNat 5) (IntKind.bits .u64)))).toNat,zv (zb s6.2.2.2.2.2.2.2.2 ||| zb (zv (1*2^min (Int.toNat s6.2.2.1) (IntKind.bits .u64)))).toNat))
      else
      if s6.2.2.1=5 then
       some (.next (5,s6.2.1,6,s6.2.2.2.1,s6.2.2.2.2.1,s6.2.2.2.2.2.1,s6.2.2.2.2.2.2.1,s6.2.2.2.2.2.2.2.1,zv (zb (zv (zb s6.2.2.2.2.2.2.2.2 ||| zb (zv (1*2^min (Int.toNat s6.2.2.1) (IntKind.bits .u64)))).toNat) ||| zb (zv (1*2^min (Int.toNat 5) (IntKind.bits .u64)))).toNat))
      else
      none
     else none
    else
    none
   else
   some (.next (s6.1,s6.2.1,zw (s6.2.2.1+1),s6.2.2.2.1,s6.2.2.2.2.1,s6.2.2.2.2.2.1,s6.2.2.2.2.2.2.1,s6.2.2.2.2.2.2.2.1,s6.2.2.2.2.2.2.2.2))
  else none
 else
 some (.done (s6.2.1,s6.2.2.2.1,s6.2.2.2.2.1,s6.2.2.2.2.2.1,s6.2.2.2.2.2.2.1,s6.2.2.2.2.2.2.2.1,s6.2.2.2.2.2.2.2.2))
def Qea (p0:(List Int)) (s1:(Int × Int × Int × Int × Int × Int × Int)):Option (Qm (Int × Int × Int × Int × Int × Int × Int) (Int × Int × Int × Int × Int × Int)) :=
 if (decide (s1.1 < (p0.length:Int)))=true then
  (lkI p0 s1.1).bind fun a4 =>
  (Qe fuel (Qdj p0 a4) (s1.1,s1.1,0,s1.2.1,s1.2.2.1,s1.2.2.2.1,s1.2.2.2.2.1,s1.2.2.2.2.2.1,s1.2.2.2.2.2.2)).bind fun x54 =>
  some (.next (zw (x54.1+1),x54.2.1,x54.2.2.1,x54.2.2.2.1,x54.2.2.2.2.1,x54.2.2.2.2.2.1,x54.2.2.2.2.2.2))
 else
 some (.done (s1.2.1,s1.2.2.1,s1.2.2.2.1,s1.2.2.2.2.1,s1.2.2.2.2.2.1,s1.2.2.2.2.2.2))
def Zu (p0:(List Int)):Option Tequal_skeleton :=
 (Qe fuel (Qea p0) (0,0,0,0,0,0,0)).bind fun x56 =>
 some (Tequal_skeleton.mk (p0.length:Int) (x56.1,x56.2.1,x56.2.2.1,x56.2.2.2.1,x56.2.2.2.2.1,x56.2.2.2.2.2))
def Q5 (p0:Tequal_skeleton) (p1:Int) (p2:Int):Option Bool :=
 if p1=0 then
  if 0≤p2 then
   some ((zv (zb (Int.fdiv p0.near.1 (2^min (Int.toNat p2) (IntKind.bits .u64))) &&& zb 1).toNat)==1)
  else none
 else
 if p1=1 then
  if 0≤p2 then
   some ((zv (zb (Int.fdiv p0.near.2.1 (2^min (Int.toNat p2) (IntKind.bits .u64))) &&& zb 1).toNat)==1)
  else none
 else
 if p1=2 then
  if 0≤p2 then
   some ((zv (zb (Int.fdiv p0.near.2.2.1 (2^min (Int.toNat p2) (IntKind.bits .u64))) &&& zb 1).toNat)==1)
  else none
 else
 if p1=3 then
  if 0≤p2 then
   some ((zv (zb (Int.fdiv p0.near.2.2.2.1 (2^min (Int.toNat p2) (IntKind.bits .u64))) &&& zb 1).toNat)==1)
  else none
 else
 if p1=4 then
  if 0≤p2 then
   some ((zv (zb (Int.fdiv p0.near.2.2.2.2.1 (2^min (Int.toNat p2) (IntKind.bits .u64))) &&& zb 1).toNat)==1)
  else none
 else
 if p1=5 then
  if 0≤p2 then
   some ((zv (zb (Int.fdiv p0.near.2.2.2.2.2 (2^min (Int.toNat p2) (IntKind.bits .u64))) &&& zb 1).toNat)==1)
  else none
 else
 none
def Qeh (p0:(List Int)) (s3:(Int × (List (Int × Int × Int)))) (a9:Int) (x1:Tequal_skeleton) (s6:(Int × (List (Int × Int × Int)))) (s11:(Int × (List (Int × Int × Int)))):Option (Qm (Int × (List (Int × Int × Int))) (List (Int × Int × Int))) :=
 if (decide (s11.1 < (p0.length:Int)))=true then
  if 0≤s3.1 then
   if ((zv (zb (Int.fdiv a9 (2^min (Int.toNat s3.1) (IntKind.bits .u64))) &&& zb 1).toNat)==1)=true then
    if 0≤s11.1 then
     if ((zv (zb (Int.fdiv a9 (2^min (Int.toNat s11.1) (IntKind.bits .u64))) &&& zb 1).toNat)==1)=true then
      (Q5 (Tequal_skeleton.mk x1.n (x1.near.1,x1.near.2.1,x1.near.2.2.1,x1.near.2.2.2.1,x1.near.2.2.2.2.1,x1.near.2.2.2.2.2)) s3.1 s11.1).bind fun x18 =>
      if (!x18)=true then
       if (s11.2++([(s3.1,s6.1,s11.1)]:(List (Int × Int × Int)))).length*24≤140737488355328 then
        some (.next (zw (s11.1+1),(s11.2++([(s3.1,s6.1,s11.1)]:(List (Int × Int × Int))))))
       else none
      else
      some (.next (zw (s11.1+1),s11.2))
     else
     some (.next (zw (s11.1+1),s11.2))
    else none
   else
   some (.next (zw (s11.1+1),s11.2))
  else none
 else
 some (.done s11.2)
def Qeo (p0:(List Int)) (s3:(Int × (List (Int × Int × Int)))) (x1:Tequal_skeleton) (s6:(Int × (List (Int × Int × Int)))):Option (Qm (Int × (List (Int × Int × Int))) (List (Int × Int × Int))) :=
 if (decide (s6.1 < (p0.length:Int)))=true then
  (lkI p0 s6.1).bind fun a9 =>
  (Qe fuel (Qeh p0 s3 a9 x1 s6) (zw (s3.1+1),s6.2)).bind fun x23 =>
  some (.next (zw (s6.1+1),x23))
 else
 some (.done s6.2)
def Qe5 (p0:(List Int)) (x1:Tequal_skeleton) (s3:(Int × (List (Int × Int × Int)))):Option (Qm (Int × (List (Int × Int × Int))) (List (Int × Int × Int))) :=
 if (decide (s3.1 < (p0.length:Int)))=true then
  (Qe fuel (Qeo p0 s3 x1) (0,s3.2)).bind fun x25 =>
  some (.next (zw (s3.1+1),x25))
 else
 some (.done s3.2)
def Zo (p0:(List Int)):Option (List (Int × Int × Int)) :=
 (Zu p0).bind fun x1 =>
 (Qe fuel (Qe5 p0 x1) (0,([]:(List (Int × Int × Int))))).bind fun x27 =>
 some x27
def Q9 (p0:Qb) (p1:Int) (p2:Int):Option Bool :=
 if p1=0 then
  if 0≤p2 then
   some ((zv (zb (Int.fdiv p0.out.1 (2^min (Int.toNat p2) (IntKind.bits .u64))) &&& zb 1).toNat)==1)
  else none
 else
 if p1=1 then
  if 0≤p2 then
   some ((zv (zb (Int.fdiv p0.out.2.1 (2^min (Int.toNat p2) (IntKind.bits .u64))) &&& zb 1).toNat)==1)
  else none
 else
 if p1=2 then
  if 0≤p2 then
   some ((zv (zb (Int.fdiv p0.out.2.2.1 (2^min (Int.toNat p2) (IntKind.bits .u64))) &&& zb 1).toNat)==1)
  else none
 else
 if p1=3 then
  if 0≤p2 then
   some ((zv (zb (Int.fdiv p0.out.2.2.2.1 (2^min (Int.toNat p2) (IntKind.bits .u64))) &&& zb 1).toNat)==1)
  else none
 else
 if p1=4 then
  if 0≤p2 then
   some ((zv (zb (Int.fdiv p0.out.2.2.2.2.1 (2^min (Int.toNat p2) (IntKind.bits .u64))) &&& zb 1).toNat)==1)
  else none
 else
 if p1=5 then
  if 0≤p2 then
   some ((zv (zb (Int.fdiv p0.out.2.2.2.2.2 (2^min (Int.toNat p2) (IntKind.bits .u64))) &&& zb 1).toNat)==1)
  else none
 else
 none
def Qb6 (p0:Qb) (p2:Int) (p1:Int) (s1:Int):Option (Qm Int (Unit ⊕ Unit)) :=
 if (decide (s1 < p0.skeleton.n))=true then
  if (s1 != p2)=true then
   (Q9 (Qb.mk (Tequal_skeleton.mk p0.skeleton.n (p0.skeleton.near.1,p0.skeleton.near.2.1,p0.skeleton.near.2.2.1,p0.skeleton.near.2.2.2.1,p0.skeleton.near.2.2.2.2.1,p0.skeleton.near.2.2.2.2.2)) (p0.out.1,p0.out.2.1,p0.out.2.2.1,p0.out.2.2.2.1,p0.out.2.2.2.2.1,p0.out.2.2.2.2.2)) s1 p1).bind fun x6 =>
   if x6=true then
    (Q5 (Tequal_skeleton.mk p0.skeleton.n (p0.skeleton.near.1,p0.skeleton.near.2.1,p0.skeleton.near.2.2.1,p0.skeleton.near.2.2.2.1,p0.skeleton.near.2.2.2.2.1,p0.skeleton.near.2.2.2.2.2)) s1 p2).bind fun x10 =>
    if (!x10)=true then
     some (.done (Sum.inl ()))
    else
    some (.next (zw (s1+1)))
   else
   some (.next (zw (s1+1)))
  else
  some (.next (zw (s1+1)))
 else
 some (.done (Sum.inr ()))
def Jz (p0:Qb) (p1:Int) (p2:Int):Option Bool :=
 (Qe fuel (Qb6 p0 p2 p1) 0).bind fun x14=>match x14 with
 | .inl x15=>(
  some true)
 | .inr x16=>(
  some false)
def Qb9 (p0:Qb) (p1:Int) (p2:Int) (s1:Int):Option (Qm Int (Unit ⊕ Unit)) :=
 if (decide (s1 < p0.skeleton.n))=true then
  (Q9 (Qb.mk (Tequal_skeleton.mk p0.skeleton.n (p0.skeleton.near.1,p0.skeleton.near.2.1,p0.skeleton.near.2.2.1,p0.skeleton.near.2.2.2.1,p0.skeleton.near.2.2.2.2.1,p0.skeleton.near.2.2.2.2.2)) (p0.out.1,p0.out.2.1,p0.out.2.2.1,p0.out.2.2.2.1,p0.out.2.2.2.2.1,p0.out.2.2.2.2.2)) p1 s1).bind fun x4 =>
  if x4=true then
   (Q9 (Qb.mk (Tequal_skeleton.mk p0.skeleton.n (p0.skeleton.near.1,p0.skeleton.near.2.1,p0.skeleton.near.2.2.1,p0.skeleton.near.2.2.2.1,p0.skeleton.near.2.2.2.2.1,p0.skeleton.near.2.2.2.2.2)) (p0.out.1,p0.out.2.1,p0.out.2.2.1,p0.out.2.2.2.1,p0.out.2.2.2.2.1,p0.out.2.2.2.2.2)) s1 p2).bind fun x8 =>
   if x8=true then
    some (.done (Sum.inl ()))
   else
   some (.next (zw (s1+1)))
  else
  some (.next (zw (s1+1)))
 else
 some (.done (Sum.inr ()))
def Jv (p0:Qb) (p1:Int) (p2:Int):Option Bool :=
 (Qe fuel (Qb9 p0 p1 p2) 0).bind fun x12=>match x12 with
 | .inl x13=>(
  some true)
 | .inr x14=>(
  some false)
def Xa (p0:Qb) (p1:Int) (p2:Int):Option Bool :=
 (Q5 (Tequal_skeleton.mk p0.skeleton.n (p0.skeleton.near.1,p0.skeleton.near.2.1,p0.skeleton.near.2.2.1,p0.skeleton.near.2.2.2.1,p0.skeleton.near.2.2.2.2.1,p0.skeleton.near.2.2.2.2.2)) p1 p2).bind fun x1 =>
 if x1=true then
  (Q9 (Qb.mk (Tequal_skeleton.mk p0.skeleton.n (p0.skeleton.near.1,p0.skeleton.near.2.1,p0.skeleton.near.2.2.1,p0.skeleton.near.2.2.2.1,p0.skeleton.near.2.2.2.2.1,p0.skeleton.near.2.2.2.2.2)) (p0.out.1,p0.out.2.1,p0.out.2.2.1,p0.out.2.2.2.1,p0.out.2.2.2.2.1,p0.out.2.2.2.2.2)) p1 p2).bind fun x5 =>
  if (!x5)=true then
   (Q9 (Qb.mk (Tequal_skeleton.mk p0.skeleton.n (p0.skeleton.near.1,p0.skeleton.near.2.1,p0.skeleton.near.2.2.1,p0.skeleton.near.2.2.2.1,p0.skeleton.near.2.2.2.2.1,p0.skeleton.near.2.2.2.2.2)) (p0.out.1,p0.out.2.1,p0.out.2.2.1,p0.out.2.2.2.1,p0.out.2.2.2.2.1,p0.out.2.2.2.2.2)) p2 p1).bind fun x9 =>
   some (!x9)
  else
  some false
 else
 some false
def Qbq (s1:Int) (p0:Qb) (p1:Int) (p2:Int) (s4:Int):Option (Qm Int (Unit ⊕ Unit)) :=
 if (decide (s4 < s1))=true then
  (Xa (Qb.mk (Tequal_skeleton.mk p0.skeleton.n (p0.skeleton.near.1,p0.skeleton.near.2.1,p0.skeleton.near.2.2.1,p0.skeleton.near.2.2.2.1,p0.skeleton.near.2.2.2.2.1,p0.skeleton.near.2.2.2.2.2)) (p0.out.1,p0.out.2.1,p0.out.2.2.1,p0.out.2.2.2.1,p0.out.2.2.2.2.1,p0.out.2.2.2.2.2)) p1 s1).bind fun x7 =>
  if x7=true then
   (Xa (Qb.mk (Tequal_skeleton.mk p0.skeleton.n (p0.skeleton.near.1,p0.skeleton.near.2.1,p0.skeleton.near.2.2.1,p0.skeleton.near.2.2.2.1,p0.skeleton.near.2.2.2.2.1,p0.skeleton.near.2.2.2.2.2)) (p0.out.1,p0.out.2.1,p0.out.2.2.1,p0.out.2.2.2.1,p0.out.2.2.2.2.1,p0.out.2.2.2.2.2)) p1 s4).bind fun x11 =>
   if x11=true then
    (Q9 (Qb.mk (Tequal_skeleton.mk p0.skeleton.n (p0.skeleton.near.1,p0.skeleton.near.2.1,p0.skeleton.near.2.2.1,p0.skeleton.near.2.2.2.1,p0.skeleton.near.2.2.2.2.1,p0.skeleton.near.2.2.2.2.2)) (p0.out.1,p0.out.2.1,p0.out.2.2.1,p0.out.2.2.2.1,p0.out.2.2.2.2.1,p0.out.2.2.2.2.2)) s1 p2).bind fun x15 =>
    if x15=true then
     (Q9 (Qb.mk (Tequal_skeleton.mk p0.skeleton.n (p0.skeleton.near.1,p0.skeleton.near.2.1,p0.skeleton.near.2.2.1,p0.skeleton.near.2.2.2.1,p0.skeleton.near.2.2.2.2.1,p0.skeleton.near.2.2.2.2.2)) (p0.out.1,p0.out.2.1,p0.out.2.2.1,p0.out.2.2.2.1,p0.out.2.2.2.2.1,p0.out.2.2.2.2.2)) s4 p2).bind fun x19 =>
     if x19=true then
      (Q5 (Tequal_skeleton.mk p0.skeleton.n (p0.skeleton.near.1,p0.skeleton.near.2.1,p0.skeleton.near.2.2.1,p0.skeleton.near.2.2.2.1,p0.skeleton.near.2.2.2.2.1,p0.skeleton.near.2.2.2.2.2)) s1 s4).bind fun x23 =>
      if (!x23)=true then
       some (.done (Sum.inl ()))
      else
      some (.next (zw (s4+1)))
     else
     some (.next (zw (s4+1)))
    else
    some (.next (zw (s4+1)))
   else
   some (.next (zw (s4+1)))
  else
  some (.next (zw (s4+1)))
 else
 some (.done (Sum.inr ()))
def Qbz (p0:Qb) (p1:Int) (p2:Int) (s1:Int):Option (Qm Int (Unit ⊕ Unit)) :=
 if (decide (s1 < p0.skeleton.n))=true then
  (Qe fuel (Qbq s1 p0 p1 p2) 0).bind fun x27=>match x27 with
  | .inl x28=>(
   some (.done (Sum.inl ())))
  | .inr x29=>(
   some (.next (zw (s1+1))))
 else
 some (.done (Sum.inr ()))
def Jg (p0:Qb) (p1:Int) (p2:Int):Option Bool :=
 (Qe fuel (Qbz p0 p1 p2) 0).bind fun x30=>match x30 with
 | .inl x31=>(
  some true)
 | .inr x32=>(
  some false)
def Qed (x3:(List (Int × Int × Int))) (s5:(Int × Int × Int × Int × Int × Int × Int)):Option (Qm (Int × Int × Int × Int × Int × Int × Int) (Int × Int × Int × Int × Int × Int)) :=
 if (decide (s5.1 < (x3.length:Int)))=true then
  (lkI x3 s5.1).bind fun a8 =>
  if a8.1=0 then
   if 0≤a8.2.1 then
    if a8.2.2=0 then
     if 0≤a8.2.1 then
      some (.next (zw (s5.1+1),zv (zb (zv (zb s5.2.1 ||| zb (zv (1*2^min (Int.toNat a8.2.1) (IntKind.bits .u64)))).toNat) ||| zb (zv (1*2^min (Int.toNat a8.2.1) (IntKind.bits .u64)))).toNat,s5.2.2.1,s5.2.2.2.1,s5.2.2.2.2.1,s5.2.2.2.2.2.1,s5.2.2.2.2.2.2))
     else none
    else
    if a8.2.2=1 then
     if 0≤a8.2.1 then
      some (.next (zw (s5.1+1),zv (zb s5.2.1 ||| zb (zv (1*2^min (Int.toNat a8.2.1) (IntKind.bits .u64)))).toNat,zv (zb s5.2.2.1 ||| zb (zv (1*2^min (Int.toNat a8.2.1) (IntKind.bits .u64)))).toNat,s5.2.2.2.1,s5.2.2.2.2.1,s5.2.2.2.2.2.1,s5.2.2.2.2.2.2))
     else none
    else
    if a8.2.2=2 then
     if 0≤a8.2.1 then
      some (.next (zw (s5.1+1),zv (zb s5.2.1 ||| zb (zv (1*2^min (Int.toNat a8.2.1) (IntKind.bits .u64)))).toNat,s5.2.2.1,zv (zb s5.2.2.2.1 ||| zb (zv (1*2^min (Int.toNat a8.2.1) (IntKind.bits .u64)))).toNat,s5.2.2.2.2.1,s5.2.2.2.2.2.1,s5.2.2.2.2.2.2))
     else none
    else
    if a8.2.2=3 then
     if 0≤a8.2.1 then
      some (.next (zw (s5.1+1),zv (zb s5.2.1 ||| zb (zv (1*2^min (Int.toNat a8.2.1) (IntKind.bits .u64)))).toNat,s5.2.2.1,s5.2.2.2.1,zv (zb s5.2.2.2.2.1 ||| zb (zv (1*2^min (Int.toNat a8.2.1) (IntKind.bits .u64)))).toNat,s5.2.2.2.2.2.1,s5.2.2.2.2.2.2))
     else none
    else
    if a8.2.2=4 then
     if 0≤a8.2.1 then
      some (.next (zw (s5.1+1),zv (zb s5.2.1 ||| zb (zv (1*2^min (Int.toNat a8.2.1) (IntKind.bits .u64)))).toNat,s5.2.2.1,s5.2.2.2.1,s5.2.2.2.2.1,zv (zb s5.2.2.2.2.2.1 ||| zb (zv (1*2^min (Int.toNat a8.2.1) (IntKind.bits .u64)))).toNat,s5.2.2.2.2.2.2))
     else none
    else
    if a8.2.2=5 then
     if 0≤a8.2.1 then
      some (.next (zw (s5.1+1),zv (zb s5.2.1 ||| zb (zv (1*2^min (Int.toNat a8.2.1) (IntKind.bits .u64)))).toNat,s5.2.2.1,s5.2.2.2.1,s5.2.2.2.2.1,s5.2.2.2.2.2.1,zv (zb s5.2.2.2.2.2.2 ||| zb (zv (1*2^min (Int.toNat a8.2.1) (IntKind.bits .u64)))).toNat))
     else none
    else
    none
   else none
  else
  if a8.1=1 then
   if 0≤a8.2.1 then
    if a8.2.2=0 then
     if 0≤a8.2.1 then
      some (.next (zw (s5.1+1),zv (zb s5.2.1 ||| zb (zv (1*2^min (Int.toNat a8.2.1) (IntKind.bits .u64)))).toNat,zv (zb s5.2.2.1 ||| zb (zv (1*2^min (Int.toNat a8.2.1) (IntKind.bits .u64)))).toNat,s5.2.2.2.1,s5.2.2.2.2.1,s5.2.2.2.2.2.1,s5.2.2.2.2.2.2))
     else none
    else
    if a8.2.2=1 then
     if 0≤a8.2.1 then
      some (.next (zw (s5.1+1),s5.2.1,zv (zb (zv (zb s5.2.2.1 ||| zb (zv (1*2^min (Int.toNat a8.2.1) (IntKind.bits .u64)))).toNat) ||| zb (zv (1*2^min (Int.toNat a8.2.1) (IntKind.bits .u64)))).toNat,s5.2.2.2.1,s5.2.2.2.2.1,s5.2.2.2.2.2.1,s5.2.2.2.2.2.2))
     else none
    else
    if a8.2.2=2 then
     if 0≤a8.2.1 then
      some (.next (zw (s5.1+1),s5.2.1,zv (zb s5.2.2.1 ||| zb (zv (1*2^min (Int.toNat a8.2.1) (IntKind.bits .u64)))).toNat,zv (zb s5.2.2.2.1 ||| zb (zv (1*2^min (Int.toNat a8.2.1) (IntKind.bits .u64)))).toNat,s5.2.2.2.2.1,s5.2.2.2.2.2.1,s5.2.2.2.2.2.2))
     else none
    else
    if a8.2.2=3 then
     if 0≤a8.2.1 then
      some (.next (zw (s5.1+1),s5.2.1,zv (zb s5.2.2.1 ||| zb (zv (1*2^min (Int.toNat a8.2.1) (IntKind.bits .u64)))).toNat,s5.2.2.2.1,zv (zb s5.2.2.2.2.1 ||| zb (zv (1*2^min (Int.toNat a8.2.1) (IntKind.bits .u64)))).toNat,s5.2.2.2.2.2.1,s5.2.2.2.2.2.2))
     else none
    else
    if a8.2.2=4 then
     if 0≤a8.2.1 then
      some (.next (zw (s5.1+1),s5.2.1,zv (zb s5.2.2.1 ||| zb (zv (1*2^min (Int.toNat a8.2.1) (IntKind.bits .u64)))).toNat,s5.2.2.2.1,s5.2.2.2.2.1,zv (zb s5.2.2.2.2.2.1 ||| zb (zv (1*2^min (Int.toNat a8.2.1) (IntKind.bits .u64)))).toNat,s5.2.2.2.2.2.2))
     else none
    else
    if a8.2.2=5 then
     if 0≤a8.2.1 then
      some (.next (zw (s5.1+1),s5.2.1,zv (zb s5.2.2.1 ||| zb (zv (1*2^min (Int.toNat a8.2.1) (IntKind.bits .u64)))).toNat,s5.2.2.2.1,s5.2.2.2.2.1,s5.2.2.2.2.2.1,zv (zb s5.2.2.2.2.2.2 ||| zb (zv (1*2^min (Int.toNat a8.2.1) (IntKind.bits .u64)))).toNat))
     else none
    else
    none
   else none
  else
  if a8.1=2 then
   if 0≤a8.2.1 then
    if a8.2.2=0 then
     if 0≤a8.2.1 then
      some (.next (zw (s5.1+1),zv (zb s5.2.1 ||| zb (zv (1*2^min (Int.toNat a8.2.1) (IntKind.bits .u64)))).toNat,s5.2.2.1,zv (zb s5.2.2.2.1 ||| zb (zv (1*2^min (Int.toNat a8.2.1) (IntKind.bits .u64)))).toNat,s5.2.2.2.2.1,s5.2.2.2.2.2.1,s5.2.2.2.2.2.2))
     else none
    else
    if a8.2.2=1 then
     if 0≤a8.2.1 then
      some (.next (zw (s5.1+1),s5.2.1,zv (zb s5.2.2.1 ||| zb (zv (1*2^min (Int.toNat a8.2.1) (IntKind.bits .u64)))).toNat,zv (zb s5.2.2.2.1 ||| zb (zv (1*2^min (Int.toNat a8.2.1) (IntKind.bits .u64)))).toNat,s5.2.2.2.2.1,s5.2.2.2.2.2.1,s5.2.2.2.2.2.2))
     else none
    else
    if a8.2.2=2 then
     if 0≤a8.2.1 then
      some (.next (zw (s5.1+1),s5.2.1,s5.2.2.1,zv (zb (zv (zb s5.2.2.2.1 ||| zb (zv (1*2^min (Int.toNat a8.2.1) (IntKind.bits .u64)))).toNat) ||| zb (zv (1*2^min (Int.toNat a8.2.1) (IntKind.bits .u64)))).toNat,s5.2.2.2.2.1,s5.2.2.2.2.2.1,s5.2.2.2.2.2.2))
     else none
    else
    if a8.2.2=3 then
     if 0≤a8.2.1 then
      some (.next (zw (s5.1+1),s5.2.1,s5.2.2.1,zv (zb s5.2.2.2.1 ||| zb (zv (1*2^min (Int.toNat a8.2.1) (IntKind.bits .u64)))).toNat,zv (zb s5.2.2.2.2.1 ||| zb (zv (1*2^min (Int.toNat a8.2.1) (IntKind.bits .u64)))).toNat,s5.2.2.2.2.2.1,s5.2.2.2.2.2.2))
     else none
    else
    if a8.2.2=4 then
     if 0≤a8.2.1 then
      some (.next (zw (s5.1+1),s5.2.1,s5.2.2.1,zv (zb s5.2.2.2.1 ||| zb (zv (1*2^min (Int.toNat a8.2.1) (IntKind.bits .u64)))).toNat,s5.2.2.2.2.1,zv (zb s5.2.2.2.2.2.1 ||| zb (zv (1*2^min (Int.toNat a8.2.1) (IntKind.bits .u64)))).toNat,s5.2.2.2.2.2.2))
     else none
    else
    if a8.2.2=5 then
     if 0≤a8.2.1 then
      some (.next (zw (s5.1+1),s5.2.1,s5.2.2.1,zv (zb s5.2.2.2.1 ||| zb (zv (1*2^min (Int.toNat a8.2.1) (IntKind.bits .u64)))).toNat,s5.2.2.2.2.1,s5.2.2.2.2.2.1,zv (zb s5.2.2.2.2.2.2 ||| zb (zv (1*2^min (Int.toNat a8.2.1) (IntKind.bits .u64)))).toNat))
     else none
    else
    none
   else none
  else
  if a8.1=3 then
   if 0≤a8.2.1 then
    if a8.2.2=0 then
     if 0≤a8.2.1 then
      some (.next (zw (s5.1+1),zv (zb s5.2.1 ||| zb (zv (1*2^min (Int.toNat a8.2.1) (IntKind.bits .u64)))).toNat,s5.2.2.1,s5.2.2.2.1,zv (zb s5.2.2.2.2.1 ||| zb (zv (1*2^min (Int.toNat a8.2.1) (IntKind.bits .u64)))).toNat,s5.2.2.2.2.2.1,s5.2.2.2.2.2.2))
     else none
    else
    if a8.2.2=1 then
     if 0≤a8.2.1 then
      some (.next (zw (s5.1+1),s5.2.1,zv (zb s5.2.2.1 ||| zb (zv (1*2^min (Int.toNat a8.2.1) (IntKind.bits .u64)))).toNat,s5.2.2.2.1,zv (zb s5.2.2.2.2.1 ||| zb (zv (1*2^min (Int.toNat a8.2.1) (IntKind.bits .u64)))).toNat,s5.2.2.2.2.2.1,s5.2.2.2.2.2.2))
     else none
    else
    if a8.2.2=2 then
     if 0≤a8.2.1 then
      some (.next (zw (s5.1+1),s5.2.1,s5.2.2.1,zv (zb s5.2.2.2.1 ||| zb (zv (1*2^min (Int.toNat a8.2.1) (IntKind.bits .u64)))).toNat,zv (zb s5.2.2.2.2.1 ||| zb (zv (1*2^min (Int.toNat a8.2.1) (IntKind.bits .u64)))).toNat,s5.2.2.2.2.2.1,s5.2.2.2.2.2.2))
     else none
    else
    if a8.2.2=3 then
     if 0≤a8.2.1 then
      some (.next (zw (s5.1+1),s5.2.1,s5.2.2.1,s5.2.2.2.1,zv (zb (zv (zb s5.2.2.2.2.1 ||| zb (zv (1*2^min (Int.toNat a8.2.1) (IntKind.bits .u64)))).toNat) ||| zb (zv (1*2^min (Int.toNat a8.2.1) (IntKind.bits .u64)))).toNat,s5.2.2.2.2.2.1,s5.2.2.2.2.2.2))
     else none
    else
    if a8.2.2=4 then
     if 0≤a8.2.1 then
      some (.next (zw (s5.1+1),s5.2.1,s5.2.2.1,s5.2.2.2.1,zv (zb s5.2.2.2.2.1 ||| zb (zv (1*2^min (Int.toNat a8.2.1) (IntKind.bits .u64)))).toNat,zv (zb s5.2.2.2.2.2.1 ||| zb (zv (1*2^min (Int.toNat a8.2.1) (IntKind.bits .u64)))).toNat,s5.2.2.2.2.2.2))
     else none
    else
    if a8.2.2=5 then
     if 0≤a8.2.1 then
      some (.next (zw (s5.1+1),s5.2.1,s5.2.2.1,s5.2.2.2.1,zv (zb s5.2.2.2.2.1 ||| zb (zv (1*2^min (Int.toNat a8.2.1) (IntKind.bits .u64)))).toNat,s5.2.2.2.2.2.1,zv (zb s5.2.2.2.2.2.2 ||| zb (zv (1*2^min (Int.toNat a8.2.1) (IntKind.bits .u64)))).toNat))
     else none
    else
    none
   else none
  else
  if a8.1=4 then
   if 0≤a8.2.1 then
    if a8.2.2=0 then
     if 0≤a8.2.1 then
      some (.next (zw (s5.1+1),zv (zb s5.2.1 ||| zb (zv (1*2^min (Int.toNat a8.2.1) (IntKind.bits .u64)))).toNat,s5.2.2.1,s5.2.2.2.1,s5.2.2.2.2.1,zv (zb s5.2.2.2.2.2.1 ||| zb (zv (1*2^min (Int.toNat a8.2.1) (IntKind.bits .u64)))).toNat,s5.2.2.2.2.2.2))
     else none
    else
    if a8.2.2=1 then
     if 0≤a8.2.1 then
      some (.next (zw (s5.1+1),s5.2.1,zv (zb s5.2.2.1 ||| zb (zv (1*2^min (Int.toNat a8.2.1) (IntKind.bits .u64)))).toNat,s5.2.2.2.1,s5.2.2.2.2.1,zv (zb s5.2.2.2.2.2.1 ||| zb (zv (1*2^min (Int.toNat a8.2.1) (IntKind.bits .u64)))).toNat,s5.2.2.2.2.2.2))
     else none
    else
    if a8.2.2=2 then
     if 0≤a8.2.1 then
      some (.next (zw (s5.1+1),s5.2.1,s5.2.2.1,zv (zb s5.2.2.2.1 ||| zb (zv (1*2^min (Int.toNat a8.2.1) (IntKind.bits .u64)))).toNat,s5.2.2.2.2.1,zv (zb s5.2.2.2.2.2.1 ||| zb (zv (1*2^min (Int.toNat a8.2.1) (IntKind.bits .u64)))).toNat,s5.2.2.2.2.2.2))
     else none
    else
    if a8.2.2=3 then
     if 0≤a8.2.1 then
      some (.next (zw (s5.1+1),s5.2.1,s5.2.2.1,s5.2.2.2.1,zv (zb s5.2.2.2.2.1 ||| zb (zv (1*2^min (Int.toNat a8.2.1) (IntKind.bits .u64)))).toNat,zv (zb s5.2.2.2.2.2.1 ||| zb (zv (1*2^min (Int.toNat a8.2.1) (IntKind.bits .u64)))).toNat,s5.2.2.2.2.2.2))
     else none
    else
    if a8.2.2=4 then
     if 0≤a8.2.1 then
      some (.next (zw (s5.1+1),s5.2.1,s5.2.2.1,s5.2.2.2.1,s5.2.2.2.2.1,zv (zb (zv (zb s5.2.2.2.2.2.1 ||| zb (zv (1*2^min (Int.toNat a8.2.1) (IntKind.bits .u64)))).toNat) ||| zb (zv (1*2^min (Int.toNat a8.2.1) (IntKind.bits .u64)))).toNat,s5.2.2.2.2.2.2))
     else none
    else
    if a8.2.2=5 then
     if 0≤a8.2.1 then
      some (.next (zw (s5.1+1),s5.2.1,s5.2.2.1,s5.2.2.2.1,s5.2.2.2.2.1,zv (zb s5.2.2.2.2.2.1 ||| zb (zv (1*2^min (Int.toNat a8.2.1) (IntKind.bits .u64)))).toNat,zv (zb s5.2.2.2.2.2.2 ||| zb (zv (1*2^min (Int.toNat a8.2.1) (IntKind.bits .u64)))).toNat))
     else none
    else
    none
   else none
  else
  if a8.1=5 then
   if 0≤a8.2.1 then
    if a8.2.2=0 then
     if 0≤a8.2.1 then
      some (.next (zw (s5.1+1),zv (zb s5.2.1 ||| zb (zv (1*2^min (Int.toNat a8.2.1) (IntKind.bits .u64)))).toNat,s5.2.2.1,s5.2.2.2.1,s5.2.2.2.2.1,s5.2.2.2.2.2.1,zv (zb s5.2.2.2.2.2.2 ||| zb (zv (1*2^min (Int.toNat a8.2.1) (IntKind.bits .u64)))).toNat))
     else none
    else
    if a8.2.2=1 then
     if 0≤a8.2.1 then
      some (.next (zw (s5.1+1),s5.2.1,zv (zb s5.2.2.1 ||| zb (zv (1*2^min (Int.toNat a8.2.1) (IntKind.bits .u64)))).toNat,s5.2.2.2.1,s5.2.2.2.2.1,s5.2.2.2.2.2.1,zv (zb s5.2.2.2.2.2.2 ||| zb (zv (1*2^min (Int.toNat a8.2.1) (IntKind.bits .u64)))).toNat))
     else none
    else
    if a8.2.2=2 then
     if 0≤a8.2.1 then
      some (.next (zw (s5.1+1),s5.2.1,s5.2.2.1,zv (zb s5.2.2.2.1 ||| zb (zv (1*2^min (Int.toNat a8.2.1) (IntKind.bits .u64)))).toNat,s5.2.2.2.2.1,s5.2.2.2.2.2.1,zv (zb s5.2.2.2.2.2.2 ||| zb (zv (1*2^min (Int.toNat a8.2.1) (IntKind.bits .u64)))).toNat))
     else none
    else
    if a8.2.2=3 then
     if 0≤a8.2.1 then
      some (.next (zw (s5.1+1),s5.2.1,s5.2.2.1,s5.2.2.2.1,zv (zb s5.2.2.2.2.1 ||| zb (zv (1*2^min (Int.toNat a8.2.1) (IntKind.bits .u64)))).toNat,s5.2.2.2.2.2.1,zv (zb s5.2.2.2.2.2.2 ||| zb (zv (1*2^min (Int.toNat a8.2.1) (IntKind.bits .u64)))).toNat))
     else none
    else
    if a8.2.2=4 then
     if 0≤a8.2.1 then
      some (.next (zw (s5.1+1),s5.2.1,s5.2.2.1,s5.2.2.2.1,s5.2.2.2.2.1,zv (zb s5.2.2.2.2.2.1 ||| zb (zv (1*2^min (Int.toNat a8.2.1) (IntKind.bits .u64)))).toNat,zv (zb s5.2.2.2.2.2.2 ||| zb (zv (1*2^min (Int.toNat a8.2.1) (IntKind.bits .u64)))).toNat))
     else none
    else
    if a8.2.2=5 then
     if 0≤a8.2.1 then
      some (.next (zw (s5.1+1),s5.2.1,s5.2.2.1,s5.2.2.2.1,s5.2.2.2.2.1,s5.2.2.2.2.2.1,zv (zb (zv (zb s5.2.2.2.2.2.2 ||| zb (zv (1*2^min (Int.toNat a8.2.1) (IntKind.bits .u64)))).toNat) ||| zb (zv (1*2^min (Int.toNat a8.2.1) (IntKind.bits .u64)))).toNat))
     else none
    else
    none
   else none
  else
  none
 else
 some (.done (s5.2.1,s5.2.2.1,s5.2.2.2.1,s5.2.2.2.2.1,s5.2.2.2.2.2.1,s5.2.2.2.2.2.2))
def Qez (x1:Tequal_skeleton) (s54:(Int × Int × Int × Int × Int × Int)) (s55:Int) (s58:Int) (s65:Int):Option (Qm Int ((Int × Int × Int × Int × Int × Int) ⊕ Unit)) :=
 if (decide (s65 < 3))=true then
  if s65=0 then
   (Jz (Qb.mk (Tequal_skeleton.mk x1.n (x1.near.1,x1.near.2.1,x1.near.2.2.1,x1.near.2.2.2.1,x1.near.2.2.2.2.1,x1.near.2.2.2.2.2)) (s54.1,s54.2.1,s54.2.2.1,s54.2.2.2.1,s54.2.2.2.2.1,s54.2.2.2.2.2)) s55 s58).bind fun x69 =>
   if x69=true then
    if s55=0 then
     if 0≤s58 then
      some (.done (Sum.inl (zv (zb s54.1 ||| zb (zv (1*2^min (Int.toNat s58) (IntKind.bits .u64)))).toNat,s54.2.1,s54.2.2.1,s54.2.2.2.1,s54.2.2.2.2.1,s54.2.2.2.2.2)))
     else none
    else
    if s55=1 then
     if 0≤s58 then
      some (.done (Sum.inl (s54.1,zv (zb s54.2.1 ||| zb (zv (1*2^min (Int.toNat s58) (IntKind.bits .u64)))).toNat,s54.2.2.1,s54.2.2.2.1,s54.2.2.2.2.1,s54.2.2.2.2.2)))
     else none
    else
    if s55=2 then
     if 0≤s58 then
      some (.done (Sum.inl (s54.1,s54.2.1,zv (zb s54.2.2.1 ||| zb (zv (1*2^min (Int.toNat s58) (IntKind.bits .u64)))).toNat,s54.2.2.2.1,s54.2.2.2.2.1,s54.2.2.2.2.2)))
     else none
    else
    if s55=3 then
     if 0≤s58 then
      some (.done (Sum.inl (s54.1,s54.2.1,s54.2.2.1,zv (zb s54.2.2.2.1 ||| zb (zv (1*2^min (Int.toNat s58) (IntKind.bits .u64)))).toNat,s54.2.2.2.2.1,s54.2.2.2.2.2)))
     else none
    else
    if s55=4 then
     if 0≤s58 then
      some (.done (Sum.inl (s54.1,s54.2.1,s54.2.2.1,s54.2.2.2.1,zv (zb s54.2.2.2.2.1 ||| zb (zv (1*2^min (Int.toNat s58) (IntKind.bits .u64)))).toNat,s54.2.2.2.2.2)))
     else none
    else
    if s55=5 then
     if 0≤s58 then
      some (.done (Sum.inl (s54.1,s54.2.1,s54.2.2.1,s54.2.2.2.1,s54.2.2.2.2.1,zv (zb s54.2.2.2.2.2 ||| zb (zv (1*2^min (Int.toNat s58) (IntKind.bits .u64)))).toNat)))
     else none
    else
    none
   else
   some (.next 1)
  else
  if s65=1 then
   (Jv (Qb.mk (Tequal_skeleton.mk x1.n (x1.near.1,x1.near.2.1,x1.near.2.2.1,x1.near.2.2.2.1,x1.near.2.2.2.2.1,x1.near.2.2.2.2.2)) (s54.1,s54.2.1,s54.2.2.1,s54.2.2.2.1,s54.2.2.2.2.1,s54.2.2.2.2.2)) s55 s58).bind fun x80 =>
   if x80=true then
    if s55=0 then
     if 0≤s58 then
      some (.done (Sum.inl (zv (zb s54.1 ||| zb (zv (1*2^min (Int.toNat s58) (IntKind.bits .u64)))).toNat,s54.2.1,s54.2.2.1,s54.2.2.2.1,s54.2.2.2.2.1,s54.2.2.2.2.2)))
     else none
    else
    if s55=1 then
     if 0≤s58 then
      some (.done (Sum.inl (s54.1,zv (zb s54.2.1 ||| zb (zv (1*2^min (Int.toNat s58) (IntKind.bits .u64)))).toNat,s54.2.2.1,s54.2.2.2.1,s54.2.2.2.2.1,s54.2.2.2.2.2)))
     else none
    else
    if s55=2 then
     if 0≤s58 then
      some (.done (Sum.inl (s54.1,s54.2.1,zv (zb s54.2.2.1 ||| zb (zv (1*2^min (Int.toNat s58) (IntKind.bits .u64)))).toNat,s54.2.2.2.1,s54.2.2.2.2.1,s54.2.2.2.2.2)))
     else none
    else
    if s55=3 then
     if 0≤s58 then
      some (.done (Sum.inl (s54.1,s54.2.1,s54.2.2.1,zv (zb s54.2.2.2.1 ||| zb (zv (1*2^min (Int.toNat s58) (IntKind.bits .u64)))).toNat,s54.2.2.2.2.1,s54.2.2.2.2.2)))
     else none
    else
    if s55=4 then
     if 0≤s58 then
      some (.done (Sum.inl (s54.1,s54.2.1,s54.2.2.1,s54.2.2.2.1,zv (zb s54.2.2.2.2.1 ||| zb (zv (1*2^min (Int.toNat s58) (IntKind.bits .u64)))).toNat,s54.2.2.2.2.2)))
     else none
    else
    if s55=5 then
     if 0≤s58 then
      some (.done (Sum.inl (s54.1,s54.2.1,s54.2.2.1,s54.2.2.2.1,s54.2.2.2.2.1,zv (zb s54.2.2.2.2.2 ||| zb (zv (1*2^min (Int.toNat s58) (IntKind.bits .u64)))).toNat)))
     else none
    else
    none
   else
   some (.next 2)
  else
  if s65=2 then
   (Jg (Qb.mk (Tequal_skeleton.mk x1.n (x1.near.1,x1.near.2.1,x1.near.2.2.1,x1.near.2.2.2.1,x1.near.2.2.2.2.1,x1.near.2.2.2.2.2)) (s54.1,s54.2.1,s54.2.2.1,s54.2.2.2.1,s54.2.2.2.2.1,s54.2.2.2.2.2)) s55 s58).bind fun x91 =>
   if x91=true then
    if s55=0 then
     if 0≤s58 then
      some (.done (Sum.inl (zv (zb s54.1 ||| zb (zv (1*2^min (Int.toNat s58) (IntKind.bits .u64)))).toNat,s54.2.1,s54.2.2.1,s54.2.2.2.1,s54.2.2.2.2.1,s54.2.2.2.2.2)))
     else none
    else
    if s55=1 then
     if 0≤s58 then
      some (.done (Sum.inl (s54.1,zv (zb s54.2.1 ||| zb (zv (1*2^min (Int.toNat s58) (IntKind.bits .u64)))).toNat,s54.2.2.1,s54.2.2.2.1,s54.2.2.2.2.1,s54.2.2.2.2.2)))
     else none
    else
    if s55=2 then
     if 0≤s58 then
      some (.done (Sum.inl (s54.1,s54.2.1,zv (zb s54.2.2.1 ||| zb (zv (1*2^min (Int.toNat s58) (IntKind.bits .u64)))).toNat,s54.2.2.2.1,s54.2.2.2.2.1,s54.2.2.2.2.2)))
     else none
    else
    if s55=3 then
     if 0≤s58 then
      some (.done (Sum.inl (s54.1,s54.2.1,s54.2.2.1,zv (zb s54.2.2.2.1 ||| zb (zv (1*2^min (Int.toNat s58) (IntKind.bits .u64)))).toNat,s54.2.2.2.2.1,s54.2.2.2.2.2)))
     else none
    else
    if s55=4 then
     if 0≤s58 then
      some (.done (Sum.inl (s54.1,s54.2.1,s54.2.2.1,s54.2.2.2.1,zv (zb s54.2.2.2.2.1 ||| zb (zv (1*2^min (Int.toNat s58) (IntKind.bits .u64)))).toNat,s54.2.2.2.2.2)))
     else none
    else
    if s55=5 then
     if 0≤s58 then
      some (.done (Sum.inl (s54.1,s54.2.1,s54.2.2.1,s54.2.2.2.1,s54.2.2.2.2.1,zv (zb s54.2.2.2.2.2 ||| zb (zv (1*2^min (Int.toNat s58) (IntKind.bits .u64)))).toNat)))
     else none
    else
    none
   else
   some (.next 3)
  else
  none
 else
 some (.done (Sum.inr ()))
def Qei (x1:Tequal_skeleton) (s54:(Int × Int × Int × Int × Int × Int)) (s55:Int) (s58:Int):Option (Qm Int ((Int × Int × Int × Int × Int × Int) ⊕ Unit)) :=
 if (decide (s58 < x1.n))=true then
  (Xa (Qb.mk (Tequal_skeleton.mk x1.n (x1.near.1,x1.near.2.1,x1.near.2.2.1,x1.near.2.2.2.1,x1.near.2.2.2.2.1,x1.near.2.2.2.2.2)) (s54.1,s54.2.1,s54.2.2.1,s54.2.2.2.1,s54.2.2.2.2.1,s54.2.2.2.2.2)) s55 s58).bind fun x61 =>
  if (!x61)=true then
   some (.next (zw (s58+1)))
  else
  (Qe fuel (Qez x1 s54 s55 s58) 0).bind fun x101=>match x101 with
  | .inl x102=>(
   some (.done (Sum.inl (x102.1,x102.2.1,x102.2.2.1,x102.2.2.2.1,x102.2.2.2.2.1,x102.2.2.2.2.2))))
  | .inr x103=>(
   some (.next (zw (s58+1))))
 else
 some (.done (Sum.inr ()))
def Qen (x1:Tequal_skeleton) (s54:(Int × Int × Int × Int × Int × Int)) (s55:Int):Option (Qm Int ((Int × Int × Int × Int × Int × Int) ⊕ Unit)) :=
 if (decide (s55 < x1.n))=true then
  (Qe fuel (Qei x1 s54 s55) 0).bind fun x104=>match x104 with
  | .inl x105=>(
   some (.done (Sum.inl (x105.1,x105.2.1,x105.2.2.1,x105.2.2.2.1,x105.2.2.2.2.1,x105.2.2.2.2.2))))
  | .inr x106=>(
   some (.next (zw (s55+1))))
 else
 some (.done (Sum.inr ()))
def Qer (x1:Tequal_skeleton) (s54:(Int × Int × Int × Int × Int × Int)) (s110:(Int × (List (Int × Int)) × (List (Int × Int)))) (s113:(Int × (List (Int × Int)) × (List (Int × Int)))):Option (Qm (Int × (List (Int × Int)) × (List (Int × Int))) ((List (Int × Int)) × (List (Int × Int)))) :=
 if (decide (s113.1 < x1.n))=true then
  (Q9 (Qb.mk (Tequal_skeleton.mk x1.n (x1.near.1,x1.near.2.1,x1.near.2.2.1,x1.near.2.2.2.1,x1.near.2.2.2.2.1,x1.near.2.2.2.2.2)) (s54.1,s54.2.1,s54.2.2.1,s54.2.2.2.1,s54.2.2.2.2.1,s54.2.2.2.2.2)) s110.1 s113.1).bind fun x116 =>
  if x116=true then
   if (s113.2.1++([(s110.1,s113.1)]:(List (Int × Int)))).length*16≤140737488355328 then
    if (decide (s110.1 < s113.1))=true then
     (Xa (Qb.mk (Tequal_skeleton.mk x1.n (x1.near.1,x1.near.2.1,x1.near.2.2.1,x1.near.2.2.2.1,x1.near.2.2.2.2.1,x1.near.2.2.2.2.2)) (s54.1,s54.2.1,s54.2.2.1,s54.2.2.2.1,s54.2.2.2.2.1,s54.2.2.2.2.2)) s110.1 s113.1).bind fun x122 =>
     if x122=true then
      if (s113.2.2++([(s110.1,s113.1)]:(List (Int × Int)))).length*16≤140737488355328 then
       some (.next (zw (s113.1+1),(s113.2.1++([(s110.1,s113.1)]:(List (Int × Int)))),(s113.2.2++([(s110.1,s113.1)]:(List (Int × Int))))))
      else none
     else
     some (.next (zw (s113.1+1),(s113.2.1++([(s110.1,s113.1)]:(List (Int × Int)))),s113.2.2))
    else
    some (.next (zw (s113.1+1),(s113.2.1++([(s110.1,s113.1)]:(List (Int × Int)))),s113.2.2))
   else none
  else
  if (decide (s110.1 < s113.1))=true then
   (Xa (Qb.mk (Tequal_skeleton.mk x1.n (x1.near.1,x1.near.2.1,x1.near.2.2.1,x1.near.2.2.2.1,x1.near.2.2.2.2.1,x1.near.2.2.2.2.2)) (s54.1,s54.2.1,s54.2.2.1,s54.2.2.2.1,s54.2.2.2.2.1,s54.2.2.2.2.2)) s110.1 s113.1).bind fun x128 =>
   if x128=true then
    if (s113.2.2++([(s110.1,s113.1)]:(List (Int × Int)))).length*16≤140737488355328 then
     some (.next (zw (s113.1+1),s113.2.1,(s113.2.2++([(s110.1,s113.1)]:(List (Int × Int))))))
    else none
   else
   some (.next (zw (s113.1+1),s113.2.1,s113.2.2))
  else
  some (.next (zw (s113.1+1),s113.2.1,s113.2.2))
 else
 some (.done (s113.2.1,s113.2.2))
def Qec (x1:Tequal_skeleton) (s54:(Int × Int × Int × Int × Int × Int)) (s110:(Int × (List (Int × Int)) × (List (Int × Int)))):Option (Qm (Int × (List (Int × Int)) × (List (Int × Int))) ((List (Int × Int)) × (List (Int × Int)))) :=
 if (decide (s110.1 < x1.n))=true then
  (Qe fuel (Qer x1 s54 s110) (0,s110.2.1,s110.2.2)).bind fun x133 =>
  some (.next (zw (s110.1+1),x133.1,x133.2))
 else
 some (.done (s110.2.1,s110.2.2))
def Qeb (x1:Tequal_skeleton) (s54:(Int × Int × Int × Int × Int × Int)):Option (Qm (Int × Int × Int × Int × Int × Int) ((List (Int × Int)) × (List (Int × Int)))) :=
 (Qe fuel (Qen x1 s54) 0).bind fun x107=>match x107 with
 | .inl x108=>(
  some (.next (x108.1,x108.2.1,x108.2.2.1,x108.2.2.2.1,x108.2.2.2.2.1,x108.2.2.2.2.2)))
 | .inr x109=>(
  (Qe fuel (Qec x1 s54) (0,([]:(List (Int × Int))),([]:(List (Int × Int))))).bind fun x135 =>
  some (.done (x135.1,x135.2)))
def Vl (p0:(List Int)):Option Qk :=
 (Zu p0).bind fun x1 =>
 (Zo p0).bind fun x3 =>
 (Qe fuel (Qed x3) (0,0,0,0,0,0,0)).bind fun x53 =>
 (Qe fuel (Qeb x1) (x53.1,x53.2.1,x53.2.2.1,x53.2.2.2.1,x53.2.2.2.2.1,x53.2.2.2.2.2)).bind fun x137 =>
 some (Qk.mk x1.n x137.1 x137.2)
def Qi1 (p0:Int) (s1:(Int × Int × Int × Int × Int × Int × Int)):Option (Qm (Int × Int × Int × Int × Int × Int × Int) (Int × Int × Int × Int × Int × Int)) :=
 if (decide (s1.1 < p0))=true then
  if 0≤p0 then
   if 0≤s1.1 then
    if s1.1=0 then
     some (.next (1,zv (zb (zv ((zv (1*2^min (Int.toNat p0) (IntKind.bits .u64))) - 1)) &&& ~~~ zb (zv (1*2^min (Int.toNat s1.1) (IntKind.bits .u64)))).toNat,s1.2.2.1,s1.2.2.2.1,s1.2.2.2.2.1,s1.2.2.2.2.2.1,s1.2.2.2.2.2.2))
    else
    if s1.1=1 then
     some (.next (2,s1.2.1,zv (zb (zv ((zv (1*2^min (Int.toNat p0) (IntKind.bits .u64))) - 1)) &&& ~~~ zb (zv (1*2^min (Int.toNat s1.1) (IntKind.bits .u64)))).toNat,s1.2.2.2.1,s1.2.2.2.2.1,s1.2.2.2.2.2.1,s1.2.2.2.2.2.2))
    else
    if s1.1=2 then
     some (.next (3,s1.2.1,s1.2.2.1,zv (zb (zv ((zv (1*2^min (Int.toNat p0) (IntKind.bits .u64))) - 1)) &&& ~~~ zb (zv (1*2^min (Int.toNat s1.1) (IntKind.bits .u64)))).toNat,s1.2.2.2.2.1,s1.2.2.2.2.2.1,s1.2.2.2.2.2.2))
    else
    if s1.1=3 then
     some (.next (4,s1.2.1,s1.2.2.1,s1.2.2.2.1,zv (zb (zv ((zv (1*2^min (Int.toNat p0) (IntKind.bits .u64))) - 1)) &&& ~~~ zb (zv (1*2^min (Int.toNat s1.1) (IntKind.bits .u64)))).toNat,s1.2.2.2.2.2.1,s1.2.2.2.2.2.2))
    else
    if s1.1=4 then
     some (.next (5,s1.2.1,s1.2.2.1,s1.2.2.2.1,s1.2.2.2.2.1,zv (zb (zv ((zv (1*2^min (Int.toNat p0) (IntKind.bits .u64))) - 1)) &&& ~~~ zb (zv (1*2^min (Int.toNat s1.1) (IntKind.bits .u64)))).toNat,s1.2.2.2.2.2.2))
    else
    if s1.1=5 then
     some (.next (6,s1.2.1,s1.2.2.1,s1.2.2.2.1,s1.2.2.2.2.1,s1.2.2.2.2.2.1,zv (zb (zv ((zv (1*2^min (Int.toNat p0) (IntKind.bits .u64))) - 1)) &&& ~~~ zb (zv (1*2^min (Int.toNat s1.1) (IntKind.bits .u64)))).toNat))
    else
    none
   else none
  else none
 else
 some (.done (s1.2.1,s1.2.2.1,s1.2.2.2.1,s1.2.2.2.2.1,s1.2.2.2.2.2.1,s1.2.2.2.2.2.2))
def Qih (p1:(List Tapi_Fact)) (s12:(Int × Int × Int × Int × Int × Int × Int × (List ((Int × Int) × Int)))):Option (Qm (Int × Int × Int × Int × Int × Int × Int × (List ((Int × Int) × Int))) (Int × Int × Int × Int × Int × Int × (List ((Int × Int) × Int)))) :=
 if (decide (s12.1 < (p1.length:Int)))=true then
  (lkI p1 s12.1).bind fun a15 =>
  if a15.X=0 then
   if 0≤a15.Y then
    if a15.Y=0 then
     some (.next (zw (s12.1+1),zv (zb (zv (zb s12.2.1 &&& ~~~ zb (zv (1*2^min (Int.toNat a15.Y) (IntKind.bits .u64)))).toNat) &&& ~~~ zb (zv (1*2^min (Int.toNat 0) (IntKind.bits .u64)))).toNat,s12.2.2.1,s12.2.2.2.1,s12.2.2.2.2.1,s12.2.2.2.2.2.1,s12.2.2.2.2.2.2.1,kput (fun a b:(Int × Int)=>(a.1==b.1) && ((a.2==b.2) && true)) s12.2.2.2.2.2.2.2 (0,0) a15.Z))
    else
    if a15.Y=1 then
     some (.next (zw (s12.1+1),zv (zb s12.2.1 &&& ~~~ zb (zv (1*2^min (Int.toNat a15.Y) (IntKind.bits .u64)))).toNat,zv (zb s12.2.2.1 &&& ~~~ zb (zv (1*2^min (Int.toNat 0) (IntKind.bits .u64)))).toNat,s12.2.2.2.1,s12.2.2.2.2.1,s12.2.2.2.2.2.1,s12.2.2.2.2.2.2.1,kput (fun a b:(Int × Int)=>(a.1==b.1) && ((a.2==b.2) && true)) s12.2.2.2.2.2.2.2 (0,1) a15.Z))
    else
    if a15.Y=2 then
     some (.next (zw (s12.1+1),zv (zb s12.2.1 &&& ~~~ zb (zv (1*2^min (Int.toNat a15.Y) (IntKind.bits .u64)))).toNat,s12.2.2.1,zv (zb s12.2.2.2.1 &&& ~~~ zb (zv (1*2^min (Int.toNat 0) (IntKind.bits .u64)))).toNat,s12.2.2.2.2.1,s12.2.2.2.2.2.1,s12.2.2.2.2.2.2.1,kput (fun a b:(Int × Int)=>(a.1==b.1) && ((a.2==b.2) && true)) s12.2.2.2.2.2.2.2 (0,2) a15.Z))
    else
    if a15.Y=3 then
     some (.next (zw (s12.1+1),zv (zb s12.2.1 &&& ~~~ zb (zv (1*2^min (Int.toNat a15.Y) (IntKind.bits .u64)))).toNat,s12.2.2.1,s12.2.2.2.1,zv (zb s12.2.2.2.2.1 &&& ~~~ zb (zv (1*2^min (Int.toNat 0) (IntKind.bits .u64)))).toNat,s12.2.2.2.2.2.1,s12.2.2.2.2.2.2.1,kput (fun a b:(Int × Int)=>(a.1==b.1) && ((a.2==b.2) && true)) s12.2.2.2.2.2.2.2 (0,3) a15.Z))
    else
    if a15.Y=4 then
     some (.next (zw (s12.1+1),zv (zb s12.2.1 &&& ~~~ zb (zv (1*2^min (Int.toNat a15.Y) (IntKind.bits .u64)))).toNat,s12.2.2.1,s12.2.2.2.1,s12.2.2.2.2.1,zv (zb s12.2.2.2.2.2.1 &&& ~~~ zb (zv (1*2^min (Int.toNat 0) (IntKind.bits .u64)))).toNat,s12.2.2.2.2.2.2.1,kput (fun a b:(Int × Int)=>(a.1==b.1) && ((a.2==b.2) && true)) s12.2.2.2.2.2.2.2 (0,4) a15.Z))
    else
    if a15.Y=5 then
     some (.next (zw (s12.1+1),zv (zb s12.2.1 &&& ~~~ zb (zv (1*2^min (Int.toNat a15.Y) (IntKind.bits .u64)))).toNat,s12.2.2.1,s12.2.2.2.1,s12.2.2.2.2.1,s12.2.2.2.2.2.1,zv (zb s12.2.2.2.2.2.2.1 &&& ~~~ zb (zv (1*2^min (Int.toNat 0) (IntKind.bits .u64)))).toNat,kput (fun a b:(Int × Int)=>(a.1==b.1) && ((a.2==b.2) && true)) s12.2.2.2.2.2.2.2 (0,5) a15.Z))
    else
    none
   else none
  else
  if a15.X=1 then
   if 0≤a15.Y then
    if a15.Y=0 then
     some (.next (zw (s12.1+1),zv (zb s12.2.1 &&& ~~~ zb (zv (1*2^min (Int.toNat 1) (IntKind.bits .u64)))).toNat,zv (zb s12.2.2.1 &&& ~~~ zb (zv (1*2^min (Int.toNat a15.Y) (IntKind.bits .u64)))).toNat,s12.2.2.2.1,s12.2.2.2.2.1,s12.2.2.2.2.2.1,s12.2.2.2.2.2.2.1,kput (fun a b:(Int × Int)=>(a.1==b.1) && ((a.2==b.2) && true)) s12.2.2.2.2.2.2.2 (1,0) a15.Z))
    else
    if a15.Y=1 then
     some (.next (zw (s12.1+1),s12.2.1,zv (zb (zv (zb s12.2.2.1 &&& ~~~ zb (zv (1*2^min (Int.toNat a15.Y) (IntKind.bits .u64)))).toNat) &&& ~~~ zb (zv (1*2^min (Int.toNat 1) (IntKind.bits .u64)))).toNat,s12.2.2.2.1,s12.2.2.2.2.1,s12.2.2.2.2.2.1,s12.2.2.2.2.2.2.1,kput (fun a b:(Int × Int)=>(a.1==b.1) && ((a.2==b.2) && true)) s12.2.2.2.2.2.2.2 (1,1) a15.Z))
    else
    if a15.Y=2 then
     some (.next (zw (s12.1+1),s12.2.1,zv (zb s12.2.2.1 &&& ~~~ zb (zv (1*2^min (Int.toNat a15.Y) (IntKind.bits .u64)))).toNat,zv (zb s12.2.2.2.1 &&& ~~~ zb (zv (1*2^min (Int.toNat 1) (IntKind.bits .u64)))).toNat,s12.2.2.2.2.1,s12.2.2.2.2.2.1,s12.2.2.2.2.2.2.1,kput (fun a b:(Int × Int)=>(a.1==b.1) && ((a.2==b.2) && true)) s12.2.2.2.2.2.2.2 (1,2) a15.Z))
    else
    if a15.Y=3 then
     some (.next (zw (s12.1+1),s12.2.1,zv (zb s12.2.2.1 &&& ~~~ zb (zv (1*2^min (Int.toNat a15.Y) (IntKind.bits .u64)))).toNat,s12.2.2.2.1,zv (zb s12.2.2.2.2.1 &&& ~~~ zb (zv (1*2^min (Int.toNat 1) (IntKind.bits .u64)))).toNat,s12.2.2.2.2.2.1,s12.2.2.2.2.2.2.1,kput (fun a b:(Int × Int)=>(a.1==b.1) && ((a.2==b.2) && true)) s12.2.2.2.2.2.2.2 (1,3) a15.Z))
    else
    if a15.Y=4 then
     some (.next (zw (s12.1+1),s12.2.1,zv (zb s12.2.2.1 &&& ~~~ zb (zv (1*2^min (Int.toNat a15.Y) (IntKind.bits .u64)))).toNat,s12.2.2.2.1,s12.2.2.2.2.1,zv (zb s12.2.2.2.2.2.1 &&& ~~~ zb (zv (1*2^min (Int.toNat 1) (IntKind.bits .u64)))).toNat,s12.2.2.2.2.2.2.1,kput (fun a b:(Int × Int)=>(a.1==b.1) && ((a.2==b.2) && true)) s12.2.2.2.2.2.2.2 (1,4) a15.Z))
    else
    if a15.Y=5 then
     some (.next (zw (s12.1+1),s12.2.1,zv (zb s12.2.2.1 &&& ~~~ zb (zv (1*2^min (Int.toNat a15.Y) (IntKind.bits .u64)))).toNat,s12.2.2.2.1,s12.2.2.2.2.1,s12.2.2.2.2.2.1,zv (zb s12.2.2.2.2.2.2.1 &&& ~~~ zb (zv (1*2^min (Int.toNat 1) (IntKind.bits .u64)))).toNat,kput (fun a b:(Int × Int)=>(a.1==b.1) && ((a.2==b.2) && true)) s12.2.2.2.2.2.2.2 (1,5) a15.Z))
    else
    none
   else none
  else
  if a15.X=2 then
   if 0≤a15.Y then
    if a15.Y=0 then
     some (.next (zw (s12.1+1),zv (zb s12.2.1 &&& ~~~ zb (zv (1*2^min (Int.toNat 2) (IntKind.bits .u64)))).toNat,s12.2.2.1,zv (zb s12.2.2.2.1 &&& ~~~ zb (zv (1*2^min (Int.toNat a15.Y) (IntKind.bits .u64)))).toNat,s12.2.2.2.2.1,s12.2.2.2.2.2.1,s12.2.2.2.2.2.2.1,kput (fun a b:(Int × Int)=>(a.1==b.1) && ((a.2==b.2) && true)) s12.2.2.2.2.2.2.2 (2,0) a15.Z))
    else
    if a15.Y=1 then
     some (.next (zw (s12.1+1),s12.2.1,zv (zb s12.2.2.1 &&& ~~~ zb (zv (1*2^min (Int.toNat 2) (IntKind.bits .u64)))).toNat,zv (zb s12.2.2.2.1 &&& ~~~ zb (zv (1*2^min (Int.toNat a15.Y) (IntKind.bits .u64)))).toNat,s12.2.2.2.2.1,s12.2.2.2.2.2.1,s12.2.2.2.2.2.2.1,kput (fun a b:(Int × Int)=>(a.1==b.1) && ((a.2==b.2) && true)) s12.2.2.2.2.2.2.2 (2,1) a15.Z))
    else
    if a15.Y=2 then
     some (.next (zw (s12.1+1),s12.2.1,s12.2.2.1,zv (zb (zv (zb s12.2.2.2.1 &&& ~~~ zb (zv (1*2^min (Int.toNat a15.Y) (IntKind.bits .u64)))).toNat) &&& ~~~ zb (zv (1*2^min (Int.toNat 2) (IntKind.bits .u64)))).toNat,s12.2.2.2.2.1,s12.2.2.2.2.2.1,s12.2.2.2.2.2.2.1,kput (fun a b:(Int × Int)=>(a.1==b.1) && ((a.2==b.2) && true)) s12.2.2.2.2.2.2.2 (2,2) a15.Z))
    else
    if a15.Y=3 then
     some (.next (zw (s12.1+1),s12.2.1,s12.2.2.1,zv (zb s12.2.2.2.1 &&& ~~~ zb (zv (1*2^min (Int.toNat a15.Y) (IntKind.bits .u64)))).toNat,zv (zb s12.2.2.2.2.1 &&& ~~~ zb (zv (1*2^min (Int.toNat 2) (IntKind.bits .u64)))).toNat,s12.2.2.2.2.2.1,s12.2.2.2.2.2.2.1,kput (fun a b:(Int × Int)=>(a.1==b.1) && ((a.2==b.2) && true)) s12.2.2.2.2.2.2.2 (2,3) a15.Z))
    else
    if a15.Y=4 then
     some (.next (zw (s12.1+1),s12.2.1,s12.2.2.1,zv (zb s12.2.2.2.1 &&& ~~~ zb (zv (1*2^min (Int.toNat a15.Y) (IntKind.bits .u64)))).toNat,s12.2.2.2.2.1,zv (zb s12.2.2.2.2.2.1 &&& ~~~ zb (zv (1*2^min (Int.toNat 2) (IntKind.bits .u64)))).toNat,s12.2.2.2.2.2.2.1,kput (fun a b:(Int × Int)=>(a.1==b.1) && ((a.2==b.2) && true)) s12.2.2.2.2.2.2.2 (2,4) a15.Z))
    else
    if a15.Y=5 then
     some (.next (zw (s12.1+1),s12.2.1,s12.2.2.1,zv (zb s12.2.2.2.1 &&& ~~~ zb (zv (1*2^min (Int.toNat a15.Y) (IntKind.bits .u64)))).toNat,s12.2.2.2.2.1,s12.2.2.2.2.2.1,zv (zb s12.2.2.2.2.2.2.1 &&& ~~~ zb (zv (1*2^min (Int.toNat 2) (IntKind.bits .u64)))).toNat,kput (fun a b:(Int × Int)=>(a.1==b.1) && ((a.2==b.2) && true)) s12.2.2.2.2.2.2.2 (2,5) a15.Z))
    else
    none
   else none
  else
  if a15.X=3 then
   if 0≤a15.Y then
    if a15.Y=0 then
     some (.next (zw (s12.1+1),zv (zb s12.2.1 &&& ~~~ zb (zv (1*2^min (Int.toNat 3) (IntKind.bits .u64)))).toNat,s12.2.2.1,s12.2.2.2.1,zv (zb s12.2.2.2.2.1 &&& ~~~ zb (zv (1*2^min (Int.toNat a15.Y) (IntKind.bits .u64)))).toNat,s12.2.2.2.2.2.1,s12.2.2.2.2.2.2.1,kput (fun a b:(Int × Int)=>(a.1==b.1) && ((a.2==b.2) && true)) s12.2.2.2.2.2.2.2 (3,0) a15.Z))
    else
    if a15.Y=1 then
     some (.next (zw (s12.1+1),s12.2.1,zv (zb s12.2.2.1 &&& ~~~ zb (zv (1*2^min (Int.toNat 3) (IntKind.bits .u64)))).toNat,s12.2.2.2.1,zv (zb s12.2.2.2.2.1 &&& ~~~ zb (zv (1*2^min (Int.toNat a15.Y) (IntKind.bits .u64)))).toNat,s12.2.2.2.2.2.1,s12.2.2.2.2.2.2.1,kput (fun a b:(Int × Int)=>(a.1==b.1) && ((a.2==b.2) && true)) s12.2.2.2.2.2.2.2 (3,1) a15.Z))
    else
    if a15.Y=2 then
     some (.next (zw (s12.1+1),s12.2.1,s12.2.2.1,zv (zb s12.2.2.2.1 &&& ~~~ zb (zv (1*2^min (Int.toNat 3) (IntKind.bits .u64)))).toNat,zv (zb s12.2.2.2.2.1 &&& ~~~ zb (zv (1*2^min (Int.toNat a15.Y) (IntKind.bits .u64)))).toNat,s12.2.2.2.2.2.1,s12.2.2.2.2.2.2.1,kput (fun a b:(Int × Int)=>(a.1==b.1) && ((a.2==b.2) && true)) s12.2.2.2.2.2.2.2 (3,2) a15.Z))
    else
    if a15.Y=3 then
     some (.next (zw (s12.1+1),s12.2.1,s12.2.2.1,s12.2.2.2.1,zv (zb (zv (zb s12.2.2.2.2.1 &&& ~~~ zb (zv (1*2^min (Int.toNat a15.Y) (IntKind.bits .u64)))).toNat) &&& ~~~ zb (zv (1*2^min (Int.toNat 3) (IntKind.bits .u64)))).toNat,s12.2.2.2.2.2.1,s12.2.2.2.2.2.2.1,kput (fun a b:(Int × Int)=>(a.1==b.1) && ((a.2==b.2) && true)) s12.2.2.2.2.2.2.2 (3,3) a15.Z))
    else
    if a15.Y=4 then
     some (.next (zw (s12.1+1),s12.2.1,s12.2.2.1,s12.2.2.2.1,zv (zb s12.2.2.2.2.1 &&& ~~~ zb (zv (1*2^min (Int.toNat a15.Y) (IntKind.bits .u64)))).toNat,zv (zb s12.2.2.2.2.2.1 &&& ~~~ zb (zv (1*2^min (Int.toNat 3) (IntKind.bits .u64)))).toNat,s12.2.2.2.2.2.2.1,kput (fun a b:(Int × Int)=>(a.1==b.1) && ((a.2==b.2) && true)) s12.2.2.2.2.2.2.2 (3,4) a15.Z))
    else
    if a15.Y=5 then
     some (.next (zw (s12.1+1),s12.2.1,s12.2.2.1,s12.2.2.2.1,zv (zb s12.2.2.2.2.1 &&& ~~~ zb (zv (1*2^min (Int.toNat a15.Y) (IntKind.bits .u64)))).toNat,s12.2.2.2.2.2.1,zv (zb s12.2.2.2.2.2.2.1 &&& ~~~ zb (zv (1*2^min (Int.toNat 3) (IntKind.bits .u64)))).toNat,kput (fun a b:(Int × Int)=>(a.1==b.1) && ((a.2==b.2) && true)) s12.2.2.2.2.2.2.2 (3,5) a15.Z))
    else
    none
   else none
  else
  if a15.X=4 then
   if 0≤a15.Y then
    if a15.Y=0 then
     some (.next (zw (s12.1+1),zv (zb s12.2.1 &&& ~~~ zb (zv (1*2^min (Int.toNat 4) (IntKind.bits .u64)))).toNat,s12.2.2.1,s12.2.2.2.1,s12.2.2.2.2.1,zv (zb s12.2.2.2.2.2.1 &&& ~~~ zb (zv (1*2^min (Int.toNat a15.Y) (IntKind.bits .u64)))).toNat,s12.2.2.2.2.2.2.1,kput (fun a b:(Int × Int)=>(a.1==b.1) && ((a.2==b.2) && true)) s12.2.2.2.2.2.2.2 (4,0) a15.Z))
    else
    if a15.Y=1 then
     some (.next (zw (s12.1+1),s12.2.1,zv (zb s12.2.2.1 &&& ~~~ zb (zv (1*2^min (Int.toNat 4) (IntKind.bits .u64)))).toNat,s12.2.2.2.1,s12.2.2.2.2.1,zv (zb s12.2.2.2.2.2.1 &&& ~~~ zb (zv (1*2^min (Int.toNat a15.Y) (IntKind.bits .u64)))).toNat,s12.2.2.2.2.2.2.1,kput (fun a b:(Int × Int)=>(a.1==b.1) && ((a.2==b.2) && true)) s12.2.2.2.2.2.2.2 (4,1) a15.Z))
    else
    if a15.Y=2 then
     some (.next (zw (s12.1+1),s12.2.1,s12.2.2.1,zv (zb s12.2.2.2.1 &&& ~~~ zb (zv (1*2^min (Int.toNat 4) (IntKind.bits .u64)))).toNat,s12.2.2.2.2.1,zv (zb s12.2.2.2.2.2.1 &&& ~~~ zb (zv (1*2^min (Int.toNat a15.Y) (IntKind.bits .u64)))).toNat,s12.2.2.2.2.2.2.1,kput (fun a b:(Int × Int)=>(a.1==b.1) && ((a.2==b.2) && true)) s12.2.2.2.2.2.2.2 (4,2) a15.Z))
    else
    if a15.Y=3 then
     some (.next (zw (s12.1+1),s12.2.1,s12.2.2.1,s12.2.2.2.1,zv (zb s12.2.2.2.2.1 &&& ~~~ zb (zv (1*2^min (Int.toNat 4) (IntKind.bits .u64)))).toNat,zv (zb s12.2.2.2.2.2.1 &&& ~~~ zb (zv (1*2^min (Int.toNat a15.Y) (IntKind.bits .u64)))).toNat,s12.2.2.2.2.2.2.1,kput (fun a b:(Int × Int)=>(a.1==b.1) && ((a.2==b.2) && true)) s12.2.2.2.2.2.2.2 (4,3) a15.Z))
    else
    if a15.Y=4 then
     some (.next (zw (s12.1+1),s12.2.1,s12.2.2.1,s12.2.2.2.1,s12.2.2.2.2.1,zv (zb (zv (zb s12.2.2.2.2.2.1 &&& ~~~ zb (zv (1*2^min (Int.toNat a15.Y) (IntKind.bits .u64)))).toNat) &&& ~~~ zb (zv (1*2^min (Int.toNat 4) (IntKind.bits .u64)))).toNat,s12.2.2.2.2.2.2.1,kput (fun a b:(Int × Int)=>(a.1==b.1) && ((a.2==b.2) && true)) s12.2.2.2.2.2.2.2 (4,4) a15.Z))
    else
    if a15.Y=5 then
     some (.next (zw (s12.1+1),s12.2.1,s12.2.2.1,s12.2.2.2.1,s12.2.2.2.2.1,zv (zb s12.2.2.2.2.2.1 &&& ~~~ zb (zv (1*2^min (Int.toNat a15.Y) (IntKind.bits .u64)))).toNat,zv (zb s12.2.2.2.2.2.2.1 &&& ~~~ zb (zv (1*2^min (Int.toNat 4) (IntKind.bits .u64)))).toNat,kput (fun a b:(Int × Int)=>(a.1==b.1) && ((a.2==b.2) && true)) s12.2.2.2.2.2.2.2 (4,5) a15.Z))
    else
    none
   else none
  else
  if a15.X=5 then
   if 0≤a15.Y then
    if a15.Y=0 then
     some (.next (zw (s12.1+1),zv (zb s12.2.1 &&& ~~~ zb (zv (1*2^min (Int.toNat 5) (IntKind.bits .u64)))).toNat,s12.2.2.1,s12.2.2.2.1,s12.2.2.2.2.1,s12.2.2.2.2.2.1,zv (zb s12.2.2.2.2.2.2.1 &&& ~~~ zb (zv (1*2^min (Int.toNat a15.Y) (IntKind.bits .u64)))).toNat,kput (fun a b:(Int × Int)=>(a.1==b.1) && ((a.2==b.2) && true)) s12.2.2.2.2.2.2.2 (5,0) a15.Z))
    else
    if a15.Y=1 then
     some (.next (zw (s12.1+1),s12.2.1,zv (zb s12.2.2.1 &&& ~~~ zb (zv (1*2^min (Int.toNat 5) (IntKind.bits .u64)))).toNat,s12.2.2.2.1,s12.2.2.2.2.1,s12.2.2.2.2.2.1,zv (zb s12.2.2.2.2.2.2.1 &&& ~~~ zb (zv (1*2^min (Int.toNat a15.Y) (IntKind.bits .u64)))).toNat,kput (fun a b:(Int × Int)=>(a.1==b.1) && ((a.2==b.2) && true)) s12.2.2.2.2.2.2.2 (5,1) a15.Z))
    else
    if a15.Y=2 then
     some (.next (zw (s12.1+1),s12.2.1,s12.2.2.1,zv (zb s12.2.2.2.1 &&& ~~~ zb (zv (1*2^min (Int.toNat 5) (IntKind.bits .u64)))).toNat,s12.2.2.2.2.1,s12.2.2.2.2.2.1,zv (zb s12.2.2.2.2.2.2.1 &&& ~~~ zb (zv (1*2^min (Int.toNat a15.Y) (IntKind.bits .u64)))).toNat,kput (fun a b:(Int × Int)=>(a.1==b.1) && ((a.2==b.2) && true)) s12.2.2.2.2.2.2.2 (5,2) a15.Z))
    else
    if a15.Y=3 then
     some (.next (zw (s12.1+1),s12.2.1,s12.2.2.1,s12.2.2.2.1,zv (zb s12.2.2.2.2.1 &&& ~~~ zb (zv (1*2^min (Int.toNat 5) (IntKind.bits .u64)))).toNat,s12.2.2.2.2.2.1,zv (zb s12.2.2.2.2.2.2.1 &&& ~~~ zb (zv (1*2^min (Int.toNat a15.Y) (IntKind.bits .u64)))).toNat,kput (fun a b:(Int × Int)=>(a.1==b.1) && ((a.2==b.2) && true)) s12.2.2.2.2.2.2.2 (5,3) a15.Z))
    else
    if a15.Y=4 then
     some (.next (zw (s12.1+1),s12.2.1,s12.2.2.1,s12.2.2.2.1,s12.2.2.2.2.1,zv (zb s12.2.2.2.2.2.1 &&& ~~~ zb (zv (1*2^min (Int.toNat 5) (IntKind.bits .u64)))).toNat,zv (zb s12.2.2.2.2.2.2.1 &&& ~~~ zb (zv (1*2^min (Int.toNat a15.Y) (IntKind.bits .u64)))).toNat,kput (fun a b:(Int × Int)=>(a.1==b.1) && ((a.2==b.2) && true)) s12.2.2.2.2.2.2.2 (5,4) a15.Z))
    else
    if a15.Y=5 then
     some (.next (zw (s12.1+1),s12.2.1,s12.2.2.1,s12.2.2.2.1,s12.2.2.2.2.1,s12.2.2.2.2.2.1,zv (zb (zv (zb s12.2.2.2.2.2.2.1 &&& ~~~ zb (zv (1*2^min (Int.toNat a15.Y) (IntKind.bits .u64)))).toNat) &&& ~~~ zb (zv (1*2^min (Int.toNat 5) (IntKind.bits .u64)))).toNat,kput (fun a b:(Int × Int)=>(a.1==b.1) && ((a.2==b.2) && true)) s12.2.2.2.2.2.2.2 (5,5) a15.Z))
    else
    none
   else none
  else
  none
 else
 some (.done (s12.2.1,s12.2.2.1,s12.2.2.2.1,s12.2.2.2.2.1,s12.2.2.2.2.2.1,s12.2.2.2.2.2.2.1,s12.2.2.2.2.2.2.2))
def Qi3 (p0:Int) (x60:(Int × Int × Int × Int × Int × Int × (List ((Int × Int) × Int)))) (s61:(Int × (List (Int × Int × Int)))) (s64:(Int × (List (Int × Int × Int)))) (s67:(Int × (List (Int × Int × Int)))):Option (Qm (Int × (List (Int × Int × Int))) (List (Int × Int × Int))) :=
 if (decide (s67.1 < p0))=true then
  if (Xo (fun a b:(Int × Int)=>(a.1==b.1) && ((a.2==b.2) && true)) x60.2.2.2.2.2.2 (s61.1,s67.1)).isSome=true then
   (Q5 (Tequal_skeleton.mk p0 (x60.1,x60.2.1,x60.2.2.1,x60.2.2.2.1,x60.2.2.2.2.1,x60.2.2.2.2.2.1)) s61.1 s64.1).bind fun x72 =>
   if x72=true then
    (Q5 (Tequal_skeleton.mk p0 (x60.1,x60.2.1,x60.2.2.1,x60.2.2.2.1,x60.2.2.2.2.1,x60.2.2.2.2.2.1)) s64.1 s67.1).bind fun x76 =>
    if x76=true then
     if 0≤s64.1 then
      if ((zv (zb (Int.fdiv ((Xo (fun a b:(Int × Int)=>(a.1==b.1) && ((a.2==b.2) && true)) x60.2.2.2.2.2.2 (s61.1,s67.1)).getD 0) (2^min (Int.toNat s64.1) (IntKind.bits .u64))) &&& zb 1).toNat)==0)=true then
       if (s67.2++([(s61.1,s64.1,s67.1)]:(List (Int × Int × Int)))).length*24≤140737488355328 then
        some (.next (zw (s67.1+1),(s67.2++([(s61.1,s64.1,s67.1)]:(List (Int × Int × Int))))))
       else none
      else
      some (.next (zw (s67.1+1),s67.2))
     else none
    else
    some (.next (zw (s67.1+1),s67.2))
   else
   some (.next (zw (s67.1+1),s67.2))
  else
  some (.next (zw (s67.1+1),s67.2))
 else
 some (.done s67.2)
def Qi2 (p0:Int) (x60:(Int × Int × Int × Int × Int × Int × (List ((Int × Int) × Int)))) (s61:(Int × (List (Int × Int × Int)))) (s64:(Int × (List (Int × Int × Int)))):Option (Qm (Int × (List (Int × Int × Int))) (List (Int × Int × Int))) :=
 if (decide (s64.1 < p0))=true then
  (Qe fuel (Qi3 p0 x60 s61 s64) (zw (s61.1+1),s64.2)).bind fun x83 =>
  some (.next (zw (s64.1+1),x83))
 else
 some (.done s64.2)
def Qio (p0:Int) (x60:(Int × Int × Int × Int × Int × Int × (List ((Int × Int) × Int)))) (s61:(Int × (List (Int × Int × Int)))):Option (Qm (Int × (List (Int × Int × Int))) (List (Int × Int × Int))) :=
 if (decide (s61.1 < p0))=true then
  (Qe fuel (Qi2 p0 x60 s61) (0,s61.2)).bind fun x85 =>
  some (.next (zw (s61.1+1),x85))
 else
 some (.done s61.2)
def Qgy (p0:Int) (p1:(List Tapi_Fact)):Option (Tequal_skeleton × (List (Int × Int × Int))) :=
 (Qe fuel (Qi1 p0) (0,0,0,0,0,0,0)).bind fun x11 =>
 (Qe fuel (Qih p1) (0,x11.1,x11.2.1,x11.2.2.1,x11.2.2.2.1,x11.2.2.2.2.1,x11.2.2.2.2.2,[])).bind fun x60 =>
 (Qe fuel (Qio p0 x60) (0,([]:(List (Int × Int × Int))))).bind fun x87 =>
 some ((Tequal_skeleton.mk p0 (x60.1,x60.2.1,x60.2.2.1,x60.2.2.2.1,x60.2.2.2.2.1,x60.2.2.2.2.2.1)),x87)
def J3 (p0:(List (Int × Int × Int))) (p1:(List (Int × Int × Int))) (s3:Int):Option (Qm Int (Unit ⊕ Unit)) :=
 if (decide (s3 < (p0.length:Int)))=true then
  (lkI p0 s3).bind fun a6 =>
  (lkI p1 s3).bind fun a8 =>
  if (!((a6.1==a8.1) && ((a6.2.1==a8.2.1) && ((a6.2.2==a8.2.2) && true))))=true then
   some (.done (Sum.inl ()))
  else
  some (.next (zw (s3+1)))
 else
 some (.done (Sum.inr ()))
def Z2 (p0:(List (Int × Int × Int))) (p1:(List (Int × Int × Int))):Option Bool :=
 if ((p0.length:Int) != (p1.length:Int))=true then
  some false
 else
 (Qe fuel (J3 p0 p1) 0).bind fun x12=>match x12 with
 | .inl x13=>(
  some false)
 | .inr x14=>(
  some true)
def Qaw (p0:Tequal_skeleton) (s1:(Int × (List (Int × Int)))) (s4:(Int × (List (Int × Int)))):Option (Qm (Int × (List (Int × Int))) (List (Int × Int))) :=
 if (decide (s4.1 < p0.n))=true then
  (Q5 (Tequal_skeleton.mk p0.n (p0.near.1,p0.near.2.1,p0.near.2.2.1,p0.near.2.2.2.1,p0.near.2.2.2.2.1,p0.near.2.2.2.2.2)) s1.1 s4.1).bind fun x7 =>
  if x7=true then
   if (s4.2++([(s1.1,s4.1)]:(List (Int × Int)))).length*16≤140737488355328 then
    some (.next (zw (s4.1+1),(s4.2++([(s1.1,s4.1)]:(List (Int × Int))))))
   else none
  else
  some (.next (zw (s4.1+1),s4.2))
 else
 some (.done s4.2)
def Qaf (p0:Tequal_skeleton) (s1:(Int × (List (Int × Int)))):Option (Qm (Int × (List (Int × Int))) (List (Int × Int))) :=
 if (decide (s1.1 < p0.n))=true then
  (Qe fuel (Qaw p0 s1) (zw (s1.1+1),s1.2)).bind fun x12 =>
  some (.next (zw (s1.1+1),x12))
 else
 some (.done s1.2)
def Xj (p0:Tequal_skeleton):Option (List (Int × Int)) :=
 (Qe fuel (Qaf p0) (0,([]:(List (Int × Int))))).bind fun x14 =>
 some x14
def Qh3 (p1:(List Tapi_Fact)) (p0:Int) (s5:(Int × (List (Tapi_Fact × Bool)))):Option (Qm (Int × (List (Tapi_Fact × Bool))) (Unit ⊕ (List (Tapi_Fact × Bool)))) :=
 if (decide (s5.1 < (p1.length:Int)))=true then
  (lkI p1 s5.1).bind fun a8 =>
  if (decide (a8.X < 0))=true then
   some (.done (Sum.inl ()))
  else
  if (decide (a8.X≥a8.Y))=true then
   some (.done (Sum.inl ()))
  else
  if (decide (a8.Y≥p0))=true then
   some (.done (Sum.inl ()))
  else
  if 0≤p0 then
   if ((Int.fdiv a8.Z (2^min (Int.toNat p0) (IntKind.bits .u64))) != 0)=true then
    some (.done (Sum.inl ()))
   else
   if 0≤a8.X then
    if 0≤a8.Y then
     if ((zv (zb (zv (zb (Int.fdiv a8.Z (2^min (Int.toNat a8.X) (IntKind.bits .u64))) ||| zb (Int.fdiv a8.Z (2^min (Int.toNat a8.Y) (IntKind.bits .u64)))).toNat) &&& zb 1).toNat)==1)=true then
      some (.done (Sum.inl ()))
     else
     if (Xo qTapi_Fact s5.2 a8).getD false=true then
      some (.done (Sum.inl ()))
     else
     some (.next (zw (s5.1+1),kput qTapi_Fact s5.2 a8 true))
    else none
   else none
  else none
 else
 some (.done (Sum.inr s5.2))
def Qhz (x27:(List (Int × Int))) (s29:Int) (s32:(Int × (List Int))):Option (Qm (Int × (List Int)) (List Int)) :=
 if (decide (s32.1 < (x27.length:Int)))=true then
  (lkI x27 s32.1).bind fun a35 =>
  if 0≤s32.1 then
   if ((zw (BitVec.ofInt (IntKind.bits .i64) (Int.fdiv s29 (2^min (Int.toNat s32.1) (IntKind.bits .i64))) &&& BitVec.ofInt (IntKind.bits .i64) 1).toNat)==1)=true then
    (lkI s32.2 a35.1).bind fun a39 =>
    if 0≤a35.2 then
     some (.next (zw (s32.1+1),(List.set s32.2 (Int.toNat a35.1) (zv (zb a39 ||| zb (zv (1*2^min (Int.toNat a35.2) (IntKind.bits .u64)))).toNat))))
    else none
   else
   (lkI s32.2 a35.2).bind fun a42 =>
   if 0≤a35.1 then
    some (.next (zw (s32.1+1),(List.set s32.2 (Int.toNat a35.2) (zv (zb a42 ||| zb (zv (1*2^min (Int.toNat a35.1) (IntKind.bits .u64)))).toNat))))
   else none
  else none
 else
 some (.done s32.2)
def Qh2 (x57:((List Tapi_Fact) × Int)) (x24:(List (Tapi_Fact × Bool))) (s63:Int):Option (Qm Int (Unit ⊕ Unit)) :=
 if (decide (s63 < (x57.1.length:Int)))=true then
  (lkI x57.1 s63).bind fun a66 =>
  if (!((Xo qTapi_Fact x24 a66).getD false))=true then
   some (.done (Sum.inl ()))
  else
  some (.next (zw (s63+1)))
 else
 some (.done (Sum.inr ()))
def Qhv (x27:(List (Int × Int))) (x25:(Tequal_skeleton × (List (Int × Int × Int)))) (p1:(List Tapi_Fact)) (x24:(List (Tapi_Fact × Bool))) (s29:Int):Option (Qm Int (Int ⊕ (Unit ⊕ ((Int × (List (Int × Int)) × (List (Int × Int))) ⊕ Unit)))) :=
 if (decide (s29 < (zw (1*2^min (Int.toNat (x27.length:Int)) (IntKind.bits .i64)))))=true then
  if 0≤x25.1.n∧x25.1.n≤x25.1.n∧x25.1.n*8≤140737488355328 then
   (Qe fuel (Qhz x27 s29) (0,(List.replicate (Int.toNat x25.1.n) (0:Int)))).bind fun x46 =>
   (Y6 x46).bind fun x47 =>
   if x47=true then
    (Zo x46).bind fun x51 =>
    (Z2 x51 x25.2).bind fun x53 =>
    if x53=true then
     (Jx x46).bind fun x57 =>
     if (x57.2 != 0)=true then
      some (.done (Sum.inl x57.2))
     else
     if ((x57.1.length:Int) != (p1.length:Int))=true then
      some (.done (Sum.inr (Sum.inl ())))
     else
     (Qe fuel (Qh2 x57 x24) 0).bind fun x70=>match x70 with
     | .inl x71=>(
      some (.done (Sum.inl 4)))
     | .inr x72=>(
      (Vl x46).bind fun x73 =>
      some (.done (Sum.inr (Sum.inr (Sum.inl (x73.N,x73.Arrows,x73.Lines))))))
    else
    some (.next (zw (s29+1)))
   else
   some (.next (zw (s29+1)))
  else none
 else
 some (.done (Sum.inr (Sum.inr (Sum.inr ()))))
def Zw (p0:Int) (p1:(List Tapi_Fact)):Option (Qk × Int) :=
 if (decide (p0 < 1))=true then
  some ((Qk.mk 0 ([]:(List (Int × Int))) ([]:(List (Int × Int)))),2)
 else
 if (decide (p0 > 5))=true then
  some ((Qk.mk 0 ([]:(List (Int × Int))) ([]:(List (Int × Int)))),2)
 else
 (Qe fuel (Qh3 p1 p0) (0,[])).bind fun x22=>match x22 with
 | .inl x23=>(
  some ((Qk.mk 0 ([]:(List (Int × Int))) ([]:(List (Int × Int)))),311))
 | .inr x24=>(
  (Qgy p0 p1).bind fun x25 =>
  (Xj (Tequal_skeleton.mk x25.1.n (x25.1.near.1,x25.1.near.2.1,x25.1.near.2.2.1,x25.1.near.2.2.2.1,x25.1.near.2.2.2.2.1,x25.1.near.2.2.2.2.2))).bind fun x27 =>
  if 0≤(x27.length:Int) then
   (Qe fuel (Qhv x27 x25 p1 x24) 0).bind fun x75=>match x75 with
   | .inl x76=>(
    some ((Qk.mk 0 ([]:(List (Int × Int))) ([]:(List (Int × Int)))),x76))
   | .inr (.inl x77)=>(
    some ((Qk.mk 0 ([]:(List (Int × Int))) ([]:(List (Int × Int)))),4))
   | .inr (.inr (.inl x78))=>(
    some ((Qk.mk x78.1 x78.2.1 x78.2.2),0))
   | .inr (.inr (.inr x79))=>(
    some ((Qk.mk 0 ([]:(List (Int × Int))) ([]:(List (Int × Int)))),4))
  else none)
def Yx (p0:(List Int)) (p1:(List Int)):Option (Bool × Int) :=
 (Q4 p0).bind fun x1 =>
 if (x1 != 0)=true then
  some (false,x1)
 else
 (Q4 p1).bind fun x5 =>
 if (x5 != 0)=true then
  some (false,x5)
 else
 (Zu p0).bind fun x9 =>
 (Zu p1).bind fun x11 =>
 if ((x9.n==x11.n) && ((x9.near.1==x11.near.1) && ((x9.near.2.1==x11.near.2.1) && ((x9.near.2.2.1==x11.near.2.2.1) && ((x9.near.2.2.2.1==x11.near.2.2.2.1) && ((x9.near.2.2.2.2.1==x11.near.2.2.2.2.1) && ((x9.near.2.2.2.2.2==x11.near.2.2.2.2.2) && true)))))))=true then
  (Zo p0).bind fun x15 =>
  (Zo p1).bind fun x17 =>
  (Z2 x15 x17).bind fun x19 =>
  some (x19,0)
 else
 some (false,0)
def Vf (p0:(List Tapi_Fact)) (p1:(List Tapi_Fact)) (s3:Int):Option (Qm Int (Unit ⊕ Unit)) :=
 if (decide (s3 < (p0.length:Int)))=true then
  (lkI p0 s3).bind fun a6 =>
  (lkI p1 s3).bind fun a8 =>
  if (!((a6.X==a8.X) && ((a6.Y==a8.Y) && ((a6.Z==a8.Z) && true))))=true then
   some (.done (Sum.inl ()))
  else
  some (.next (zw (s3+1)))
 else
 some (.done (Sum.inr ()))
def Z4 (p0:(List Tapi_Fact)) (p1:(List Tapi_Fact)):Option Bool :=
 if ((p0.length:Int) != (p1.length:Int))=true then
  some false
 else
 (Qe fuel (Vf p0 p1) 0).bind fun x12=>match x12 with
 | .inl x13=>(
  some false)
 | .inr x14=>(
  some true)
def V4 (p0:(List Int)):Option ((List (Int × Int)) × Int) :=
 (Q4 p0).bind fun x1 =>
 if (x1 != 0)=true then
  some (([]:(List (Int × Int))),x1)
 else
 (Zu p0).bind fun x5 =>
 (Xj (Tequal_skeleton.mk x5.n (x5.near.1,x5.near.2.1,x5.near.2.2.1,x5.near.2.2.2.1,x5.near.2.2.2.2.1,x5.near.2.2.2.2.2))).bind fun x7 =>
 some (x7,0)
def Yu (p0:Int):Option Bool :=
 some (p0 != p0)
def X6 (p0:Int) (p1:Int):Option Int :=
 (Yu p0).bind fun x1 =>
 (Yu p1).bind fun x3 =>
 if x1=true then
  if x3=true then
   some 0
  else
  some (-1)
 else
 if x3=true then
  some 1
 else
 if (decide (p0 < p1))=true then
  some (-1)
 else
 if (decide (p0 > p1))=true then
  some 1
 else
 some 0
def Zd (p0:(List Int)) (p1:(List Int)) (s1:Int):Option (Qm Int (Int ⊕ Unit)) :=
 if (decide (s1 < (p0.length:Int)))=true then
  (lkI p0 s1).bind fun a4 =>
  if (decide (s1≥(p1.length:Int)))=true then
   some (.done (Sum.inl 1))
  else
  (lkI p1 s1).bind fun a8 =>
  (X6 a4 a8).bind fun x10 =>
  if (x10 != 0)=true then
   some (.done (Sum.inl x10))
  else
  some (.next (zw (s1+1)))
 else
 some (.done (Sum.inr ()))
def Z3 (p0:(List Int)) (p1:(List Int)):Option Int :=
 (Qe fuel (Zd p0 p1) 0).bind fun x14=>match x14 with
 | .inl x15=>(
  some x15)
 | .inr x16=>(
  if (decide ((p0.length:Int) < (p1.length:Int)))=true then
   some (-1)
  else
  some 0)
def Qfs (x11:(List (Int × Int))) (s13:(Int × (List (List Int)))) (s16:(Int × (List Int))):Option (Qm (Int × (List Int)) (List Int)) :=
 if (decide (s16.1 < (x11.length:Int)))=true then
  (lkI x11 s16.1).bind fun a19 =>
  if 0≤s16.1 then
   if ((zw (BitVec.ofInt (IntKind.bits .i64) (Int.fdiv s13.1 (2^min (Int.toNat s16.1) (IntKind.bits .i64))) &&& BitVec.ofInt (IntKind.bits .i64) 1).toNat)==1)=true then
    (lkI s16.2 a19.1).bind fun a23 =>
    if 0≤a19.2 then
     some (.next (zw (s16.1+1),(List.set s16.2 (Int.toNat a19.1) (zv (zb a23 ||| zb (zv (1*2^min (Int.toNat a19.2) (IntKind.bits .u64)))).toNat))))
    else none
   else
   (lkI s16.2 a19.2).bind fun a26 =>
   if 0≤a19.1 then
    some (.next (zw (s16.1+1),(List.set s16.2 (Int.toNat a19.2) (zv (zb a26 ||| zb (zv (1*2^min (Int.toNat a19.1) (IntKind.bits .u64)))).toNat))))
   else none
  else none
 else
 some (.done s16.2)
def Qgz (x11:(List (Int × Int))) (x7:Tequal_skeleton) (x9:(List (Int × Int × Int))) (s13:(Int × (List (List Int)))):Option (Qm (Int × (List (List Int))) (List (List Int))) :=
 if (decide (s13.1 < (zw (1*2^min (Int.toNat (x11.length:Int)) (IntKind.bits .i64)))))=true then
  if 0≤x7.n∧x7.n≤x7.n∧x7.n*8≤140737488355328 then
   (Qe fuel (Qfs x11 s13) (0,(List.replicate (Int.toNat x7.n) (0:Int)))).bind fun x30 =>
   (Y6 x30).bind fun x31 =>
   if x31=true then
    (Zo x30).bind fun x35 =>
    (Z2 x35 x9).bind fun x37 =>
    if x37=true then
     if (s13.2++([x30]:(List (List Int)))).length*24≤140737488355328 then
      some (.next (zw (s13.1+1),(s13.2++([x30]:(List (List Int))))))
     else none
    else
    some (.next (zw (s13.1+1),s13.2))
   else
   some (.next (zw (s13.1+1),s13.2))
  else none
 else
 some (.done s13.2)
def Y7 (p0:(List Int)):Option ((List (List Int)) × Int) :=
 (Q4 p0).bind fun x1 =>
 if (x1 != 0)=true then
  some (([]:(List (List Int))),x1)
 else
 if (decide ((p0.length:Int) > 5))=true then
  some (([]:(List (List Int))),6)
 else
 (Zu p0).bind fun x7 =>
 (Zo p0).bind fun x9 =>
 (Xj (Tequal_skeleton.mk x7.n (x7.near.1,x7.near.2.1,x7.near.2.2.1,x7.near.2.2.2.1,x7.near.2.2.2.2.1,x7.near.2.2.2.2.2))).bind fun x11 =>
 if 0≤(x11.length:Int) then
  (Qe fuel (Qgz x11 x7 x9) (0,([]:(List (List Int))))).bind fun x42 =>
  (Qla Qlk leL x42).bind fun x43 =>
  some (x43,0)
 else none
def Vm (p0:(List Int)):Option (Qk × Int) :=
 (Q4 p0).bind fun x1 =>
 if (x1 != 0)=true then
  some ((Qk.mk 0 ([]:(List (Int × Int))) ([]:(List (Int × Int)))),x1)
 else
 (Vl p0).bind fun x5 =>
 some (x5,0)
def Qeg (p0:(List (Int × Int))) (p1:(List (Int × Int))) (s3:Int):Option (Qm Int (Unit ⊕ Unit)) :=
 if (decide (s3 < (p0.length:Int)))=true then
  (lkI p0 s3).bind fun a6 =>
  (lkI p1 s3).bind fun a8 =>
  if (!((a6.1==a8.1) && ((a6.2==a8.2) && true)))=true then
   some (.done (Sum.inl ()))
  else
  some (.next (zw (s3+1)))
 else
 some (.done (Sum.inr ()))
def Xp (p0:(List (Int × Int))) (p1:(List (Int × Int))):Option Bool :=
 if ((p0.length:Int) != (p1.length:Int))=true then
  some false
 else
 (Qe fuel (Qeg p0 p1) 0).bind fun x12=>match x12 with
 | .inl x13=>(
  some false)
 | .inr x14=>(
  some true)
def Yk (p0:Qk) (p1:Qk):Option Bool :=
 if (p0.N==p1.N)=true then
  (Xp p0.Arrows p1.Arrows).bind fun x3 =>
  if x3=true then
   (Xp p0.Lines p1.Lines).bind fun x7 =>
   some x7
  else
  some false
 else
 some false
def Xf (p0:(List Int)) (p1:(List (Int × Int))) (p2:(List (Int × Int))):Option Bool :=
 (Vm p0).bind fun x1 =>
 if (x1.2==0)=true then
  (Yk x1.1 (Qk.mk (p0.length:Int) p1 p2)).bind fun x5 =>
  some x5
 else
 some false
def X7 (p0:Int) (p1:(List Tapi_Fact)) (p2:(List (Int × Int))) (p3:(List (Int × Int))):Option Bool :=
 (Zw p0 p1).bind fun x1 =>
 if (x1.2==0)=true then
  (Yk x1.1 (Qk.mk p0 p2 p3)).bind fun x5 =>
  some x5
 else
 some false
def Vo (p0:(List Int)):Option ((List (Int × Int × Int)) × Int) :=
 (Q4 p0).bind fun x1 =>
 if (x1 != 0)=true then
  some (([]:(List (Int × Int × Int))),x1)
 else
 (Zo p0).bind fun x5 =>
 some (x5,0)
def Qct (p0:(List (Int × Int × Int))) (p1:(List (Int × Int × Int))) (s3:Int):Option (Qm Int (Unit ⊕ Unit)) :=
 if (decide (s3 < (p0.length:Int)))=true then
  (lkI p0 s3).bind fun a6 =>
  (lkI p1 s3).bind fun a8 =>
  if (!((a6.1==a8.1) && ((a6.2.1==a8.2.1) && ((a6.2.2==a8.2.2) && true))))=true then
   some (.done (Sum.inl ()))
  else
  some (.next (zw (s3+1)))
 else
 some (.done (Sum.inr ()))
def J5 (p0:(List (Int × Int × Int))) (p1:(List (Int × Int × Int))):Option Bool :=
 if ((p0.length:Int) != (p1.length:Int))=true then
  some false
 else
 (Qe fuel (Qct p0 p1) 0).bind fun x12=>match x12 with
 | .inl x13=>(
  some false)
 | .inr x14=>(
  some true)
def Kw (p0:(List Int)) (p1:(List Int)) (s3:Int):Option (Qm Int (Unit ⊕ Unit)) :=
 if (decide (s3 < (p0.length:Int)))=true then
  (lkI p0 s3).bind fun a6 =>
  (lkI p1 s3).bind fun a8 =>
  if (a6 != a8)=true then
   some (.done (Sum.inl ()))
  else
  some (.next (zw (s3+1)))
 else
 some (.done (Sum.inr ()))
def Y9 (p0:(List Int)) (p1:(List Int)):Option Bool :=
 if ((p0.length:Int) != (p1.length:Int))=true then
  some false
 else
 (Qe fuel (Kw p0 p1) 0).bind fun x12=>match x12 with
 | .inl x13=>(
  some false)
 | .inr x14=>(
  some true)
def Qcf (p0:(List Int)) (p1:(List Int)):Option Bool :=
 (Y9 p0 p1).bind fun x1 =>
 some x1
def Qh9 (x1:((List (Int × Int)) × Int)) (x3:((List (Int × Int)) × Int)) (x5:((List (Int × Int × Int)) × Int)) (x7:((List (Int × Int × Int)) × Int)) (x9:(Bool × Int)) (x11:(Bool × Int)) (x13:((List (List Int)) × Int)) (x15:((List Tapi_Fact) × Int)) (x17:((List Tapi_Fact) × Int)) (s25:Int):Option (Qm Int (Unit ⊕ Unit)) :=
 if (decide (s25 < 9))=true then
  (lkI ([x1.2,x3.2,x5.2,x7.2,x9.2,x11.2,x13.2,x15.2,x17.2]:(List Int)) s25).bind fun a28 =>
  if (a28 != 0)=true then
   some (.done (Sum.inl ()))
  else
  some (.next (zw (s25+1)))
 else
 some (.done (Sum.inr ()))
def Qia (x13:((List (List Int)) × Int)) (s81:Int):Option (Qm Int (Unit ⊕ Unit)) :=
 if (decide (s81 < (x13.1.length:Int)))=true then
  (lkI x13.1 s81).bind fun a84 =>
  (lkI ([[0,1,2],[2,0,2],[2,4,0]]:(List (List Int))) s81).bind fun a86 =>
  (Qcf a84 a86).bind fun x88 =>
  if (!x88)=true then
   some (.done (Sum.inl ()))
  else
  some (.next (zw (s81+1)))
 else
 some (.done (Sum.inr ()))
def Qfd  : Option Bool :=
 (V4 [0,1,2]).bind fun x1 =>
 (V4 [0,5,0]).bind fun x3 =>
 (Vo [0,1,2]).bind fun x5 =>
 (Vo [0,5,0]).bind fun x7 =>
 (Yx [0,1,2] [0,5,0]).bind fun x9 =>
 (Yx [0,1,2] [2,0,2]).bind fun x11 =>
 (Y7 [0,1,2]).bind fun x13 =>
 (X5 [0,1,2]).bind fun x15 =>
 (X5 [0,5,0]).bind fun x17 =>
 (Zw 3 [(Tapi_Fact.mk 0 2 0),(Tapi_Fact.mk 0 2 2)]).bind fun x19 =>
 (Zw 6 []).bind fun x21 =>
 (Zw 2 [(Tapi_Fact.mk 1 0 0)]).bind fun x23 =>
 (Qe fuel (Qh9 x1 x3 x5 x7 x9 x11 x13 x15 x17) 0).bind fun x32=>match x32 with
 | .inl x33=>(
  some false)
 | .inr x34=>(
  (Xp x1.1 [(0,1),(1,2)]).bind fun x35 =>
  if x35=true then
   (Xp x3.1 [(0,1),(1,2)]).bind fun x39 =>
   if x39=true then
    if ((x5.1.length:Int)==0)=true then
     (J5 x7.1 [(0,1,2)]).bind fun x45 =>
     if x45=true then
      if (!x9.1)=true then
       if x11.1=true then
        if (x19.2==4)=true then
         if (x21.2==2)=true then
          if (x23.2==311)=true then
           (Xf [0,1,2] [] [(0,1),(1,2)]).bind fun x59 =>
           if x59=true then
            (Xf [0,5,0] [(0,1),(2,1)] []).bind fun x63 =>
            if x63=true then
             (Xf [0,5,0,2] [(0,1),(1,3),(2,1)] []).bind fun x67 =>
             if x67=true then
              (X7 3 [(Tapi_Fact.mk 0 2 0)] [(0,1),(2,1)] []).bind fun x71 =>
              if x71=true then
               (X7 3 [] [] [(0,1),(0,2),(1,2)]).bind fun x75 =>
               if x75=true then
                if ((x13.1.length:Int) != 3)=true then
                 some false
                else
                (Qe fuel (Qia x13) 0).bind fun x92=>match x92 with
                | .inl x93=>(
                 some false)
                | .inr x94=>(
                 (Z4 x15.1 [(Tapi_Fact.mk 0 2 2)]).bind fun x95 =>
                 if x95=true then
                  (Z4 x17.1 [(Tapi_Fact.mk 0 2 0)]).bind fun x99 =>
                  if x99=true then
                   (Q4 [2,1]).bind fun x103 =>
                   if (x103==310)=true then
                    (Q4 [1]).bind fun x107 =>
                    if (x107==310)=true then
                     (Q4 []).bind fun x111 =>
                     some (x111==310)
                    else
                    some false
                   else
                   some false
                  else
                  some false
                 else
                 some false)
               else
               some false
              else
              some false
             else
             some false
            else
            some false
           else
           some false
          else
          some false
         else
         some false
        else
        some false
       else
       some false
      else
      some false
     else
     some false
    else
    some false
   else
   some false
  else
  some false)
def Kz  : Option Bool :=
 (Y7 [0,1,3,7,15]).bind fun x1 =>
 (Vm [0,1,3,7,15,31]).bind fun x3 =>
 (Y7 [0,0,0,0,0,0]).bind fun x5 =>
 (X5 [0,0,0,0,0,0]).bind fun x7 =>
 (X5 [0,1,3,7,15]).bind fun x9 =>
 (X5 [0,0,0,0,0]).bind fun x11 =>
 (Yx [0] [1]).bind fun x13 =>
 (Yx [0] [0,0]).bind fun x15 =>
 (Zw 0 [(Tapi_Fact.mk 5 0 0)]).bind fun x17 =>
 (Zw 3 [(Tapi_Fact.mk 0 1 8)]).bind fun x19 =>
 (Zw 3 [(Tapi_Fact.mk 0 1 2)]).bind fun x21 =>
 (Zw 3 [(Tapi_Fact.mk 0 1 0),(Tapi_Fact.mk 0 1 0)]).bind fun x23 =>
 (Zw 3 [(Tapi_Fact.mk (-1) 1 0)]).bind fun x25 =>
 if (x1.2 != 0)=true then
  some false
 else
 if ((x1.1.length:Int) != 120)=true then
  some false
 else
 if (x3.2 != 0)=true then
  some false
 else
 if ((x3.1.Lines.length:Int) != 15)=true then
  some false
 else
 if ((x3.1.Arrows.length:Int) != 0)=true then
  some false
 else
 if (x5.2 != 6)=true then
  some false
 else
 if (x7.2 != 6)=true then
  some false
 else
 if (x9.2 != 0)=true then
  some false
 else
 if ((x9.1.length:Int) != 0)=true then
  some false
 else
 if (x11.2 != 0)=true then
  some false
 else
 if ((x11.1.length:Int) != 80)=true then
  some false
 else
 if (x13.2 != 310)=true then
  some false
 else
 if x15.1=true then
  some false
 else
 if (x15.2 != 0)=true then
  some false
 else
 if (x17.2 != 2)=true then
  some false
 else
 if (x19.2 != 311)=true then
  some false
 else
 if (x21.2 != 311)=true then
  some false
 else
 if (x23.2 != 311)=true then
  some false
 else
 if (x25.2 != 311)=true then
  some false
 else
 (Qfd).bind fun x65 =>
 if x65=true then
  (Xf [0,1,1,7] [(0,3),(1,3),(2,3)] [(0,1),(0,2)]).bind fun x69 =>
  if x69=true then
   (Xf [0] [] []).bind fun x73 =>
   if x73=true then
    (X7 1 [] [] []).bind fun x77 =>
    if x77=true then
     (X7 2 [(Tapi_Fact.mk 0 1 0)] [] []).bind fun x81 =>
     if x81=true then
      (Q4 [4,0]).bind fun x85 =>
      if (x85==310)=true then
       if 0≤(7:Int)∧(7:Int)≤(7:Int)∧(7:Int)*8≤140737488355328 then
        (Q4 (List.replicate (Int.toNat 7) (0:Int))).bind fun x89 =>
        if (x89==310)=true then
         (Q4 [9223372036854775808]).bind fun x93 =>
         if (x93==310)=true then
          (Q4 [2,4,1]).bind fun x97 =>
          some (x97==310)
         else
         some false
        else
        some false
       else none
      else
      some false
     else
     some false
    else
    some false
   else
   some false
  else
  some false
 else
 some false
end Go.Ab
