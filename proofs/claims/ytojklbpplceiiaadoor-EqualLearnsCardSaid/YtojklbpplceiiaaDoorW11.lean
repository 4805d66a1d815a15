/- Functions. No conditions. -/
import Derived.Test.YtojklbpplceiiaaDoorEng10
set_option linter.all false
namespace Go.Ab
open Go
structure Y1 where
 parents:(List Int)
 deriving DecidableEq,Inhabited
structure Qw where
 ancestry:Y1
 children:(List Int)
 deriving DecidableEq,Inhabited
structure Af where
 node:Int
 down:Bool
 deriving DecidableEq,Inhabited
@[reducible] def Ag (x:Af):AV:=.agg [vI x.node,vB x.down]
@[reducible] def Ai (a b:Af):Bool:=(a.node==b.node) && ((a.down==b.down) && true)
structure Ac where
 X:Int
 Y:Int
 Z:Int
 deriving DecidableEq,Inhabited
@[reducible] def eTapi_Fact (x:Ac):AV:=.agg [vI x.X,vI x.Y,.int .u64 x.Z]
@[reducible] def Ah (a b:Ac):Bool:=(a.X==b.X) && ((a.Y==b.Y) && ((a.Z==b.Z) && true))
structure Ad where
 n:Int
 near:(Int × Int × Int × Int × Int × Int)
 deriving DecidableEq,Inhabited
structure Qf where
 skeleton:Ad
 out:(Int × Int × Int × Int × Int × Int)
 deriving DecidableEq,Inhabited
structure Aa where
 N:Int
 Arrows:(List (Int × Int))
 Lines:(List (Int × Int))
 deriving DecidableEq,Inhabited
structure Ae where
 N:Int
 Order:(Int × Int × Int × Int × Int × Int)
 Edges:Int
 deriving DecidableEq,Inhabited
@[reducible] def eTharuspexref31_Draft (x:Ae):AV:=.agg [.int .u8 x.N,.int .u8 x.Order.1,.int .u8 x.Order.2.1,.int .u8 x.Order.2.2.1,.int .u8 x.Order.2.2.2.1,.int .u8 x.Order.2.2.2.2.1,.int .u8 x.Order.2.2.2.2.2,.int .u16 x.Edges]
def Qs6 (x:List Int):Bool:=Nat.ble x.length 63
def leL:List Int->List Int->Bool
 | [],_=>true
 | _::_,[]=>false
 | a::x,b::y=>decide (a < b) || (a==b && leL x y)
def V9 (p0:(List Int)) (s4:(Int × Int)):Option (Qd (Int × Int) Int) :=
 if (decide (s4.2 < (p0.length:Int)))=true then
  (lkI p0 s4.2).bind fun a7 =>
  if ((zv (zb a7 &&& ~~~ zb s4.1).toNat)==0)=true then
   if 0<=s4.2 then
    some (.next (zv (zb s4.1 ||| zb (zv (1*2^min (Int.toNat s4.2) zk))).toNat,zw (s4.2+1)))
   else none
  else
  some (.next (s4.1,zw (s4.2+1)))
 else
 some (.done s4.1)
def Kx (p0:(List Int)) (s1:(Int × Int)):Option (Qd (Int × Int) Int) :=
 if (decide (s1.2 < (p0.length:Int)))=true then
  (Qa fuel (V9 p0) (s1.1,0)).bind fun x12 =>
  some (.next (x12,zw (s1.2+1)))
 else
 some (.done s1.1)
def Jl (p0:(List Int)):Option Bool :=
 (Qa fuel (Kx p0) (0,0)).bind fun x14 =>
 if 0<=(p0.length:Int) then
  some (x14==(zv ((zv (1*2^min (Int.toNat (p0.length:Int)) zk)) - 1)))
 else none
def Xl (p0:(List Int)):Option Int :=
 if (decide ((p0.length:Int) < 1))=true then
  some 310
 else
 if (decide ((p0.length:Int) > 6))=true then
  some 310
 else
 (Jl p0).bind fun x5 =>
 if (!x5)=true then
  some 310
 else
 some 0
def V3 (p0:(List Int)) (s5:(Int × (List Int))) (a8:Int) (s12:(Int × (List Int))):Option (Qd (Int × (List Int)) (List Int)) :=
 if (decide (s12.1 < (p0.length:Int)))=true then
  (lkI s12.2 s12.1).bind fun a15 =>
  if 0<=s12.1 then
   if 0<=s5.1 then
    some (.next (zw (s12.1+1),(List.set s12.2 (Int.toNat s12.1) (zv (zb a15 ||| zb (zv ((zv (zb (Int.fdiv a8 (2^min (Int.toNat s12.1) zk)) &&& zb 1).toNat)*2^min (Int.toNat s5.1) zk))).toNat))))
   else none
  else none
 else
 some (.done s12.2)
def V4 (p0:(List Int)) (s5:(Int × (List Int))):Option (Qd (Int × (List Int)) (Unit ⊕ (List Int))) :=
 if (decide (s5.1 < (p0.length:Int)))=true then
  (lkI p0 s5.1).bind fun a8 =>
  if 0<=(p0.length:Int) then
   if ((Int.fdiv a8 (2^min (Int.toNat (p0.length:Int)) zk)) != 0)=true then
    some (.done (Sum.inl ()))
   else
   (Qa fuel (V3 p0 s5 a8) (0,s5.2)).bind fun x19 =>
   some (.next (zw (s5.1+1),x19))
  else none
 else
 some (.done (Sum.inr s5.2))
def K1 (p0:(List Int)) (s23:(Int × Int)) (s26:Int):Option (Qd Int (Int ⊕ Unit)) :=
 if (decide (s26 < (p0.length:Int)))=true then
  (lkI p0 s26).bind fun a29 =>
  if 0<=s26 then
   if ((zv (zb (Int.fdiv s23.1 (2^min (Int.toNat s26) zk)) &&& zb 1).toNat)==0)=true then
    if ((zv (zb a29 &&& ~~~ zb s23.1).toNat)==0)=true then
     if 0<=s26 then
      some (.done (Sum.inl (zv (zb s23.1 ||| zb (zv (1*2^min (Int.toNat s26) zk))).toNat)))
     else none
    else
    some (.next (zw (s26+1)))
   else
   some (.next (zw (s26+1)))
  else none
 else
 some (.done (Sum.inr ()))
def V7 (p0:(List Int)) (s23:(Int × Int)):Option (Qd (Int × Int) (Unit ⊕ Unit)) :=
 if (decide (s23.2 < (p0.length:Int)))=true then
  (Qa fuel (K1 p0 s23) 0).bind fun x35=>match x35 with
  | .inl x36=>(
   some (.next (x36,zw (s23.2+1))))
  | .inr x37=>(
   some (.done (Sum.inl ())))
 else
 some (.done (Sum.inr ()))
def Qbk (p0:(List Int)):Option (Qw × Int) :=
 if (decide ((p0.length:Int) < 1))=true then
  some ((Qw.mk (Y1.mk []) []),70)
 else
 if (decide ((p0.length:Int) > 8))=true then
  some ((Qw.mk (Y1.mk []) []),70)
 else
 if 0<=(p0.length:Int)/\(p0.length:Int)<=(p0.length:Int)/\(p0.length:Int)*8<=140737488355328 then
  (Qa fuel (V4 p0) (0,(List.replicate (Int.toNat (p0.length:Int)) (0:Int)))).bind fun x20=>match x20 with
  | .inl x21=>(
   some ((Qw.mk (Y1.mk []) []),70))
  | .inr x22=>(
   (Qa fuel (V7 p0) (0,0)).bind fun x38=>match x38 with
   | .inl x39=>(
    some ((Qw.mk (Y1.mk []) []),70))
   | .inr x40=>(
    some ((Qw.mk (Y1.mk p0) x22),0)))
 else none
def Z6 (p1:(List Int)) (p0:Qw) (s1:(Int × Int)):Option (Qd (Int × Int) (Unit ⊕ Unit)) :=
 if (decide (s1.2 < (p1.length:Int)))=true then
  (lkI p1 s1.2).bind fun a4 =>
  if 0<=(p0.ancestry.parents.length:Int) then
   if ((Int.fdiv a4 (2^min (Int.toNat (p0.ancestry.parents.length:Int)) zk)) != 0)=true then
    some (.done (Sum.inl ()))
   else
   if ((zv (zb a4 &&& zb s1.1).toNat) != 0)=true then
    some (.done (Sum.inl ()))
   else
   some (.next (zv (zb s1.1 ||| zb a4).toNat,zw (s1.2+1)))
  else none
 else
 some (.done (Sum.inr ()))
def Y3 (p0:Qw) (p1:(List Int)):Option Bool :=
 (Qa fuel (Z6 p1 p0) (0,0)).bind fun x10=>match x10 with
 | .inl x11=>(
  some false)
 | .inr x12=>(
  some true)
def Qai (p0:Int):Option Int :=
 if (p0==0)=true then
  some 64
 else
 (lkI tab1 (Int.fdiv (zv ((zv (zb p0 &&& zb (zv (0 - p0))).toNat)*285870213051353865)) (2^min (Int.toNat 58) zk))).bind fun a3 =>
 some (zw (a3))
def Qu (p0:Int):Option Int :=
 (Qai p0).bind fun x1 =>
 some x1
def Xt (p0:Qw) (s4:(Int × Int)):Option (Qd (Int × Int) Int) :=
 if (decide (s4.1 < (p0.ancestry.parents.length:Int)))=true then
  (lkI p0.ancestry.parents s4.1).bind fun a7 =>
  if 0<=s4.1 then
   if ((zv (zb (Int.fdiv s4.2 (2^min (Int.toNat s4.1) zk)) &&& zb 1).toNat)==1)=true then
    some (.next (zw (s4.1+1),zv (zb s4.2 ||| zb a7).toNat))
   else
   some (.next (zw (s4.1+1),s4.2))
  else none
 else
 some (.done s4.2)
def Xu (p0:Qw) (s1:(Int × Int)):Option (Qd (Int × Int) Int) :=
 if (decide (s1.1 < (p0.ancestry.parents.length:Int)))=true then
  (Qa fuel (Xt p0) (0,s1.2)).bind fun x12 =>
  some (.next (zw (s1.1+1),x12))
 else
 some (.done s1.2)
def Qbn (r21:((Int × Bool × Int × (List (Af × Bool)))->Option (Int × (List (Af × Bool))))) (s29:(Int × Int × (List (Af × Bool)))):Option (Qd (Int × Int × (List (Af × Bool))) (Int × (List (Af × Bool)))) :=
 if (s29.1 != 0)=true then
  (Qu s29.1).bind fun x32 =>
  (r21 (x32,true,s29.2.1,s29.2.2)).bind fun x34 =>
  some (.next (zv (zb s29.1 &&& zb (zv (s29.1 - 1))).toNat,x34.1,x34.2))
 else
 some (.done (s29.2.1,s29.2.2))
def Qbm (r21:((Int × Bool × Int × (List (Af × Bool)))->Option (Int × (List (Af × Bool))))) (s43:(Int × Int × (List (Af × Bool)))):Option (Qd (Int × Int × (List (Af × Bool))) (Int × (List (Af × Bool)))) :=
 if (s43.1 != 0)=true then
  (Qu s43.1).bind fun x46 =>
  (r21 (x46,false,s43.2.1,s43.2.2)).bind fun x48 =>
  some (.next (zv (zb s43.1 &&& zb (zv (s43.1 - 1))).toNat,x48.1,x48.2))
 else
 some (.done (s43.2.1,s43.2.2))
def Qbe (r21:((Int × Bool × Int × (List (Af × Bool)))->Option (Int × (List (Af × Bool))))) (s55:(Int × Int × (List (Af × Bool)))):Option (Qd (Int × Int × (List (Af × Bool))) (Int × (List (Af × Bool)))) :=
 if (s55.1 != 0)=true then
  (Qu s55.1).bind fun x58 =>
  (r21 (x58,false,s55.2.1,s55.2.2)).bind fun x60 =>
  some (.next (zv (zb s55.1 &&& zb (zv (s55.1 - 1))).toNat,x60.1,x60.2))
 else
 some (.done (s55.2.1,s55.2.2))
def Qbi (r21:((Int × Bool × Int × (List (Af × Bool)))->Option (Int × (List (Af × Bool))))) (s69:(Int × Int × (List (Af × Bool)))):Option (Qd (Int × Int × (List (Af × Bool))) (Int × (List (Af × Bool)))) :=
 if (s69.1 != 0)=true then
  (Qu s69.1).bind fun x72 =>
  (r21 (x72,false,s69.2.1,s69.2.2)).bind fun x74 =>
  some (.next (zv (zb s69.1 &&& zb (zv (s69.1 - 1))).toNat,x74.1,x74.2))
 else
 some (.done (s69.2.1,s69.2.2))
def Qgj (r21:((Int × Bool × Int × (List (Af × Bool)))->Option (Int × (List (Af × Bool))))) (s81:(Int × Int × (List (Af × Bool)))):Option (Qd (Int × Int × (List (Af × Bool))) (Int × (List (Af × Bool)))) :=
 if (s81.1 != 0)=true then
  (Qu s81.1).bind fun x84 =>
  (r21 (x84,false,s81.2.1,s81.2.2)).bind fun x86 =>
  some (.next (zv (zb s81.1 &&& zb (zv (s81.1 - 1))).toNat,x86.1,x86.2))
 else
 some (.done (s81.2.1,s81.2.2))
def Z2 (p2:Int) (p0:Qw) (x14:Int) (r21:((Int × Bool × Int × (List (Af × Bool)))->Option (Int × (List (Af × Bool))))) (s20:(Int × Bool × Int × (List (Af × Bool)))):Option (Int × (List (Af × Bool))) :=
 if (Q6 Ai s20.2.2.2 (Af.mk s20.1 s20.2.1)).getD false=true then
  some (s20.2.2.1,s20.2.2.2)
 else
 if 0<=s20.1 then
  if ((zv (zb (Int.fdiv p2 (2^min (Int.toNat s20.1) zk)) &&& zb 1).toNat)==0)=true then
   if 0<=s20.1 then
    (lkI p0.children s20.1).bind fun a27 =>
    (Qa fuel (Qbn r21) (a27,zv (zb s20.2.2.1 ||| zb (zv (1*2^min (Int.toNat s20.1) zk))).toNat,kput Ai s20.2.2.2 (Af.mk s20.1 s20.2.1) true)).bind fun x36 =>
    if s20.2.1=true then
     if 0<=s20.1 then
      if ((zv (zb (Int.fdiv x14 (2^min (Int.toNat s20.1) zk)) &&& zb 1).toNat)==0)=true then
       some (x36.1,x36.2)
      else
      (lkI p0.ancestry.parents s20.1).bind fun a41 =>
      (Qa fuel (Qbm r21) (a41,x36.1,x36.2)).bind fun x50 =>
      some (x50.1,x50.2)
     else none
    else
    if 0<=s20.1 then
     if ((zv (zb (Int.fdiv p2 (2^min (Int.toNat s20.1) zk)) &&& zb 1).toNat)==1)=true then
      some (x36.1,x36.2)
     else
     (lkI p0.ancestry.parents s20.1).bind fun a53 =>
     (Qa fuel (Qbe r21) (a53,x36.1,x36.2)).bind fun x62 =>
     some (x62.1,x62.2)
    else none
   else none
  else
  if s20.2.1=true then
   if 0<=s20.1 then
    if ((zv (zb (Int.fdiv x14 (2^min (Int.toNat s20.1) zk)) &&& zb 1).toNat)==0)=true then
     some (s20.2.2.1,kput Ai s20.2.2.2 (Af.mk s20.1 s20.2.1) true)
    else
    (lkI p0.ancestry.parents s20.1).bind fun a67 =>
    (Qa fuel (Qbi r21) (a67,s20.2.2.1,kput Ai s20.2.2.2 (Af.mk s20.1 s20.2.1) true)).bind fun x76 =>
    some (x76.1,x76.2)
   else none
  else
  if 0<=s20.1 then
   if ((zv (zb (Int.fdiv p2 (2^min (Int.toNat s20.1) zk)) &&& zb 1).toNat)==1)=true then
    some (s20.2.2.1,kput Ai s20.2.2.2 (Af.mk s20.1 s20.2.1) true)
   else
   (lkI p0.ancestry.parents s20.1).bind fun a79 =>
   (Qa fuel (Qgj r21) (a79,s20.2.2.1,kput Ai s20.2.2.2 (Af.mk s20.1 s20.2.1) true)).bind fun x88 =>
   some (x88.1,x88.2)
  else none
 else none
def Qbq (p2:Int) (p0:Qw) (x14:Int) (s15:(Int × Int × (List (Af × Bool)))):Option (Qd (Int × Int × (List (Af × Bool))) (Int × (List (Af × Bool)))) :=
 if (s15.1 != 0)=true then
  (Qu s15.1).bind fun x18 =>
  (Qj5 (Z2 p2 p0 x14) fuel (x18,false,s15.2.1,s15.2.2)).bind fun x89 =>
  some (.next (zv (zb s15.1 &&& zb (zv (s15.1 - 1))).toNat,x89.1,x89.2))
 else
 some (.done (s15.2.1,s15.2.2))
def V1 (p0:Qw) (p1:Int) (p2:Int):Option Int :=
 (Qa fuel (Xu p0) (0,p2)).bind fun x14 =>
 (Qa fuel (Qbq p2 p0 x14) (p1,0,[])).bind fun x92 =>
 some x92.1
def Qan (p0:(List Int)) (p1:Int) (p2:Int) (p3:Int):Option (Bool × Int) :=
 (Qbk p0).bind fun x1 =>
 if (x1.2 != 0)=true then
  some (false,x1.2)
 else
 (Y3 x1.1 [p1,p2,p3]).bind fun x5 =>
 if (!x5)=true then
  some (false,2)
 else
 (V1 x1.1 p1 p3).bind fun x9 =>
 some (((zv (zb x9 &&& zb p2).toNat)==0),0)
def V8 (p0:(List Int)) (s1:(Int × (List Ac))) (s4:(Int × (List Ac))) (s7:(Int × (List Ac))):Option (Qd (Int × (List Ac)) (Int ⊕ (List Ac))) :=
 if (decide (s7.1 < (zv (1*2^min (Int.toNat (p0.length:Int)) zk))))=true then
  if 0<=s1.1 then
   if 0<=s4.1 then
    if ((zv (zb (zv (zb (Int.fdiv s7.1 (2^min (Int.toNat s1.1) zk)) ||| zb (Int.fdiv s7.1 (2^min (Int.toNat s4.1) zk))).toNat) &&& zb 1).toNat)==1)=true then
     some (.next (zv (s7.1+1),s7.2))
    else
    if 0<=s1.1 then
     if 0<=s4.1 then
      (Qan p0 (zv (1*2^min (Int.toNat s1.1) zk)) (zv (1*2^min (Int.toNat s4.1) zk)) s7.1).bind fun x12 =>
      if (x12.2 != 0)=true then
       some (.done (Sum.inl x12.2))
      else
      if x12.1=true then
       if (s7.2++([(Ac.mk s1.1 s4.1 s7.1)]:(List Ac))).length*24<=140737488355328 then
        some (.next (zv (s7.1+1),(s7.2++([(Ac.mk s1.1 s4.1 s7.1)]:(List Ac)))))
       else none
      else
      some (.next (zv (s7.1+1),s7.2))
     else none
    else none
   else none
  else none
 else
 some (.done (Sum.inr s7.2))
def Ja (p0:(List Int)) (s1:(Int × (List Ac))) (s4:(Int × (List Ac))):Option (Qd (Int × (List Ac)) (Int ⊕ (List Ac))) :=
 if (decide (s4.1 < (p0.length:Int)))=true then
  if 0<=(p0.length:Int) then
   (Qa fuel (V8 p0 s1 s4) (0,s4.2)).bind fun x18=>match x18 with
   | .inl x19=>(
    some (.done (Sum.inl x19)))
   | .inr x20=>(
    some (.next (zw (s4.1+1),x20)))
  else none
 else
 some (.done (Sum.inr s4.2))
def K0 (p0:(List Int)) (s1:(Int × (List Ac))):Option (Qd (Int × (List Ac)) (Int ⊕ (List Ac))) :=
 if (decide (s1.1 < (p0.length:Int)))=true then
  (Qa fuel (Ja p0 s1) (zw (s1.1+1),s1.2)).bind fun x21=>match x21 with
  | .inl x22=>(
   some (.done (Sum.inl x22)))
  | .inr x23=>(
   some (.next (zw (s1.1+1),x23)))
 else
 some (.done (Sum.inr s1.2))
def Kw (p0:(List Int)):Option ((List Ac) × Int) :=
 (Qa fuel (K0 p0) (0,([]:(List Ac)))).bind fun x24=>match x24 with
 | .inl x25=>(
  some (([]:(List Ac)),x25))
 | .inr x26=>(
  some (x26,0))
def Qfv (p0:(List Int)):Option ((List Ac) × Int) :=
 (Xl p0).bind fun x1 =>
 if (x1 != 0)=true then
  some (([]:(List Ac)),x1)
 else
 if (decide ((p0.length:Int) > 5))=true then
  some (([]:(List Ac)),6)
 else
 (Kw p0).bind fun x7 =>
 some (x7.1,x7.2)
def Zr (p0:(List Int)) (a4:Int) (s6:(Int × Int × Int × Int × Int × Int × Int × Int × Int)):Option (Qd (Int × Int × Int × Int × Int × Int × Int × Int × Int) (Int × Int × Int × Int × Int × Int × Int)) :=
 if (decide (s6.2.2.1 < (p0.length:Int)))=true then
  if 0<=s6.2.2.1 then
   if ((zv (zb (Int.fdiv a4 (2^min (Int.toNat s6.2.2.1) zk)) &&& zb 1).toNat)==1)=true then
    if s6.1=0 then
     if 0<=s6.2.2.1 then
      if s6.2.2.1=0 then
       some (.next (0,s6.2.1,1,zv (zb (zv (zb s6.2.2.2.1 ||| zb (zv (1*2^min (Int.toNat s6.2.2.1) zk))).toNat) ||| zb (zv (1*2^min (Int.toNat 0) zk))).toNat,s6.2.2.2.2.1,s6.2.2.2.2.2.1,s6.2.2.2.2.2.2.1,s6.2.2.2.2.2.2.2.1,s6.2.2.2.2.2.2.2.2))
      else
      if s6.2.2.1=1 then
       some (.next (0,s6.2.1,2,zv (zb s6.2.2.2.1 ||| zb (zv (1*2^min (Int.toNat s6.2.2.1) zk))).toNat,zv (zb s6.2.2.2.2.1 ||| zb (zv (1*2^min (Int.toNat 0) zk))).toNat,s6.2.2.2.2.2.1,s6.2.2.2.2.2.2.1,s6.2.2.2.2.2.2.2.1,s6.2.2.2.2.2.2.2.2))
      else
      if s6.2.2.1=2 then
       some (.next (0,s6.2.1,3,zv (zb s6.2.2.2.1 ||| zb (zv (1*2^min (Int.toNat s6.2.2.1) zk))).toNat,s6.2.2.2.2.1,zv (zb s6.2.2.2.2.2.1 ||| zb (zv (1*2^min (Int.toNat 0) zk))).toNat,s6.2.2.2.2.2.2.1,s6.2.2.2.2.2.2.2.1,s6.2.2.2.2.2.2.2.2))
      else
      if s6.2.2.1=3 then
       some (.next (0,s6.2.1,4,zv (zb s6.2.2.2.1 ||| zb (zv (1*2^min (Int.toNat s6.2.2.1) zk))).toNat,s6.2.2.2.2.1,s6.2.2.2.2.2.1,zv (zb s6.2.2.2.2.2.2.1 ||| zb (zv (1*2^min (Int.toNat 0) zk))).toNat,s6.2.2.2.2.2.2.2.1,s6.2.2.2.2.2.2.2.2))
      else
      if s6.2.2.1=4 then
       some (.next (0,s6.2.1,5,zv (zb s6.2.2.2.1 ||| zb (zv (1*2^min (Int.toNat s6.2.2.1) zk))).toNat,s6.2.2.2.2.1,s6.2.2.2.2.2.1,s6.2.2.2.2.2.2.1,zv (zb s6.2.2.2.2.2.2.2.1 ||| zb (zv (1*2^min (Int.toNat 0) zk))).toNat,s6.2.2.2.2.2.2.2.2))
      else
      if s6.2.2.1=5 then
       some (.next (0,s6.2.1,6,zv (zb s6.2.2.2.1 ||| zb (zv (1*2^min (Int.toNat s6.2.2.1) zk))).toNat,s6.2.2.2.2.1,s6.2.2.2.2.2.1,s6.2.2.2.2.2.2.1,s6.2.2.2.2.2.2.2.1,zv (zb s6.2.2.2.2.2.2.2.2 ||| zb (zv (1*2^min (Int.toNat 0) zk))).toNat))
      else
      none
     else none
    else
    if s6.1=1 then
     if 0<=s6.2.2.1 then
      if s6.2.2.1=0 then
       some (.next (1,s6.2.1,1,zv (zb s6.2.2.2.1 ||| zb (zv (1*2^min (Int.toNat 1) zk))).toNat,zv (zb s6.2.2.2.2.1 ||| zb (zv (1*2^min (Int.toNat s6.2.2.1) zk))).toNat,s6.2.2.2.2.2.1,s6.2.2.2.2.2.2.1,s6.2.2.2.2.2.2.2.1,s6.2.2.2.2.2.2.2.2))
      else
      if s6.2.2.1=1 then
       some (.next (1,s6.2.1,2,s6.2.2.2.1,zv (zb (zv (zb s6.2.2.2.2.1 ||| zb (zv (1*2^min (Int.toNat s6.2.2.1) zk))).toNat) ||| zb (zv (1*2^min (Int.toNat 1) zk))).toNat,s6.2.2.2.2.2.1,s6.2.2.2.2.2.2.1,s6.2.2.2.2.2.2.2.1,s6.2.2.2.2.2.2.2.2))
      else
      if s6.2.2.1=2 then
       some (.next (1,s6.2.1,3,s6.2.2.2.1,zv (zb s6.2.2.2.2.1 ||| zb (zv (1*2^min (Int.toNat s6.2.2.1) zk))).toNat,zv (zb s6.2.2.2.2.2.1 ||| zb (zv (1*2^min (Int.toNat 1) zk))).toNat,s6.2.2.2.2.2.2.1,s6.2.2.2.2.2.2.2.1,s6.2.2.2.2.2.2.2.2))
      else
      if s6.2.2.1=3 then
       some (.next (1,s6.2.1,4,s6.2.2.2.1,zv (zb s6.2.2.2.2.1 ||| zb (zv (1*2^min (Int.toNat s6.2.2.1) zk))).toNat,s6.2.2.2.2.2.1,zv (zb s6.2.2.2.2.2.2.1 ||| zb (zv (1*2^min (Int.toNat 1) zk))).toNat,s6.2.2.2.2.2.2.2.1,s6.2.2.2.2.2.2.2.2))
      else
      if s6.2.2.1=4 then
       some (.next (1,s6.2.1,5,s6.2.2.2.1,zv (zb s6.2.2.2.2.1 ||| zb (zv (1*2^min (Int.toNat s6.2.2.1) zk))).toNat,s6.2.2.2.2.2.1,s6.2.2.2.2.2.2.1,zv (zb s6.2.2.2.2.2.2.2.1 ||| zb (zv (1*2^min (Int.toNat 1) zk))).toNat,s6.2.2.2.2.2.2.2.2))
      else
      if s6.2.2.1=5 then
       some (.next (1,s6.2.1,6,s6.2.2.2.1,zv (zb s6.2.2.2.2.1 ||| zb (zv (1*2^min (Int.toNat s6.2.2.1) zk))).toNat,s6.2.2.2.2.2.1,s6.2.2.2.2.2.2.1,s6.2.2.2.2.2.2.2.1,zv (zb s6.2.2.2.2.2.2.2.2 ||| zb (zv (1*2^min (Int.toNat 1) zk))).toNat))
      else
      none
     else none
    else
    if s6.1=2 then
     if 0<=s6.2.2.1 then
      if s6.2.2.1=0 then
       some (.next (2,s6.2.1,1,zv (zb s6.2.2.2.1 ||| zb (zv (1*2^min (Int.toNat 2) zk))).toNat,s6.2.2.2.2.1,zv (zb s6.2.2.2.2.2.1 ||| zb (zv (1*2^min (Int.toNat s6.2.2.1) zk))).toNat,s6.2.2.2.2.2.2.1,s6.2.2.2.2.2.2.2.1,s6.2.2.2.2.2.2.2.2))
      else
      if s6.2.2.1=1 then
       some (.next (2,s6.2.1,2,s6.2.2.2.1,zv (zb s6.2.2.2.2.1 ||| zb (zv (1*2^min (Int.toNat 2) zk))).toNat,zv (zb s6.2.2.2.2.2.1 ||| zb (zv (1*2^min (Int.toNat s6.2.2.1) zk))).toNat,s6.2.2.2.2.2.2.1,s6.2.2.2.2.2.2.2.1,s6.2.2.2.2.2.2.2.2))
      else
      if s6.2.2.1=2 then
       some (.next (2,s6.2.1,3,s6.2.2.2.1,s6.2.2.2.2.1,zv (zb (zv (zb s6.2.2.2.2.2.1 ||| zb (zv (1*2^min (Int.toNat s6.2.2.1) zk))).toNat) ||| zb (zv (1*2^min (Int.toNat 2) zk))).toNat,s6.2.2.2.2.2.2.1,s6.2.2.2.2.2.2.2.1,s6.2.2.2.2.2.2.2.2))
      else
      if s6.2.2.1=3 then
       some (.next (2,s6.2.1,4,s6.2.2.2.1,s6.2.2.2.2.1,zv (zb s6.2.2.2.2.2.1 ||| zb (zv (1*2^min (Int.toNat s6.2.2.1) zk))).toNat,zv (zb s6.2.2.2.2.2.2.1 ||| zb (zv (1*2^min (Int.toNat 2) zk))).toNat,s6.2.2.2.2.2.2.2.1,s6.2.2.2.2.2.2.2.2))
      else
      if s6.2.2.1=4 then
       some (.next (2,s6.2.1,5,s6.2.2.2.1,s6.2.2.2.2.1,zv (zb s6.2.2.2.2.2.1 ||| zb (zv (1*2^min (Int.toNat s6.2.2.1) zk))).toNat,s6.2.2.2.2.2.2.1,zv (zb s6.2.2.2.2.2.2.2.1 ||| zb (zv (1*2^min (Int.toNat 2) zk))).toNat,s6.2.2.2.2.2.2.2.2))
      else
      if s6.2.2.1=5 then
       some (.next (2,s6.2.1,6,s6.2.2.2.1,s6.2.2.2.2.1,zv (zb s6.2.2.2.2.2.1 ||| zb (zv (1*2^min (Int.toNat s6.2.2.1) zk))).toNat,s6.2.2.2.2.2.2.1,s6.2.2.2.2.2.2.2.1,zv (zb s6.2.2.2.2.2.2.2.2 ||| zb (zv (1*2^min (Int.toNat 2) zk))).toNat))
      else
      none
     else none
    else
    if s6.1=3 then
     if 0<=s6.2.2.1 then
      if s6.2.2.1=0 then
       some (.next (3,s6.2.1,1,zv (zb s6.2.2.2.1 ||| zb (zv (1*2^min (Int.toNat 3) zk))).toNat,s6.2.2.2.2.1,s6.2.2.2.2.2.1,zv (zb s6.2.2.2.2.2.2.1 ||| zb (zv (1*2^min (Int.toNat s6.2.2.1) zk))).toNat,s6.2.2.2.2.2.2.2.1,s6.2.2.2.2.2.2.2.2))
      else
      if s6.2.2.1=1 then
       some (.next (3,s6.2.1,2,s6.2.2.2.1,zv (zb s6.2.2.2.2.1 ||| zb (zv (1*2^min (Int.toNat 3) zk))).toNat,s6.2.2.2.2.2.1,zv (zb s6.2.2.2.2.2.2.1 ||| zb (zv (1*2^min (Int.toNat s6.2.2.1) zk))).toNat,s6.2.2.2.2.2.2.2.1,s6.2.2.2.2.2.2.2.2))
      else
      if s6.2.2.1=2 then
       some (.next (3,s6.2.1,3,s6.2.2.2.1,s6.2.2.2.2.1,zv (zb s6.2.2.2.2.2.1 ||| zb (zv (1*2^min (Int.toNat 3) zk))).toNat,zv (zb s6.2.2.2.2.2.2.1 ||| zb (zv (1*2^min (Int.toNat s6.2.2.1) zk))).toNat,s6.2.2.2.2.2.2.2.1,s6.2.2.2.2.2.2.2.2))
      else
      if s6.2.2.1=3 then
       some (.next (3,s6.2.1,4,s6.2.2.2.1,s6.2.2.2.2.1,s6.2.2.2.2.2.1,zv (zb (zv (zb s6.2.2.2.2.2.2.1 ||| zb (zv (1*2^min (Int.toNat s6.2.2.1) zk))).toNat) ||| zb (zv (1*2^min (Int.toNat 3) zk))).toNat,s6.2.2.2.2.2.2.2.1,s6.2.2.2.2.2.2.2.2))
      else
      if s6.2.2.1=4 then
       some (.next (3,s6.2.1,5,s6.2.2.2.1,s6.2.2.2.2.1,s6.2.2.2.2.2.1,zv (zb s6.2.2.2.2.2.2.1 ||| zb (zv (1*2^min (Int.toNat s6.2.2.1) zk))).toNat,zv (zb s6.2.2.2.2.2.2.2.1 ||| zb (zv (1*2^min (Int.toNat 3) zk))).toNat,s6.2.2.2.2.2.2.2.2))
      else
      if s6.2.2.1=5 then
       some (.next (3,s6.2.1,6,s6.2.2.2.1,s6.2.2.2.2.1,s6.2.2.2.2.2.1,zv (zb s6.2.2.2.2.2.2.1 ||| zb (zv (1*2^min (Int.toNat s6.2.2.1) zk))).toNat,s6.2.2.2.2.2.2.2.1,zv (zb s6.2.2.2.2.2.2.2.2 ||| zb (zv (1*2^min (Int.toNat 3) zk))).toNat))
      else
      none
     else none
    else
    if s6.1=4 then
     if 0<=s6.2.2.1 then
      if s6.2.2.1=0 then
       some (.next (4,s6.2.1,1,zv (zb s6.2.2.2.1 ||| zb (zv (1*2^min (Int.toNat 4) zk))).toNat,s6.2.2.2.2.1,s6.2.2.2.2.2.1,s6.2.2.2.2.2.2.1,zv (zb s6.2.2.2.2.2.2.2.1 ||| zb (zv (1*2^min (Int.toNat s6.2.2.1) zk))).toNat,s6.2.2.2.2.2.2.2.2))
      else
      if s6.2.2.1=1 then
       some (.next (4,s6.2.1,2,s6.2.2.2.1,zv (zb s6.2.2.2.2.1 ||| zb (zv (1*2^min (Int.toNat 4) zk))).toNat,s6.2.2.2.2.2.1,s6.2.2.2.2.2.2.1,zv (zb s6.2.2.2.2.2.2.2.1 ||| zb (zv (1*2^min (Int.toNat s6.2.2.1) zk))).toNat,s6.2.2.2.2.2.2.2.2))
      else
      if s6.2.2.1=2 then
       some (.next (4,s6.2.1,3,s6.2.2.2.1,s6.2.2.2.2.1,zv (zb s6.2.2.2.2.2.1 ||| zb (zv (1*2^min (Int.toNat 4) zk))).toNat,s6.2.2.2.2.2.2.1,zv (zb s6.2.2.2.2.2.2.2.1 ||| zb (zv (1*2^min (Int.toNat s6.2.2.1) zk))).toNat,s6.2.2.2.2.2.2.2.2))
      else
      if s6.2.2.1=3 then
       some (.next (4,s6.2.1,4,s6.2.2.2.1,s6.2.2.2.2.1,s6.2.2.2.2.2.1,zv (zb s6.2.2.2.2.2.2.1 ||| zb (zv (1*2^min (Int.toNat 4) zk))).toNat,zv (zb s6.2.2.2.2.2.2.2.1 ||| zb (zv (1*2^min (Int.toNat s6.2.2.1) zk))).toNat,s6.2.2.2.2.2.2.2.2))
      else
      if s6.2.2.1=4 then
       some (.next (4,s6.2.1,5,s6.2.2.2.1,s6.2.2.2.2.1,s6.2.2.2.2.2.1,s6.2.2.2.2.2.2.1,zv (zb (zv (zb s6.2.2.2.2.2.2.2.1 ||| zb (zv (1*2^min (Int.toNat s6.2.2.1) zk))).toNat) ||| zb (zv (1*2^min (Int.toNat 4) zk))).toNat,s6.2.2.2.2.2.2.2.2))
      else
      if s6.2.2.1=5 then
       some (.next (4,s6.2.1,6,s6.2.2.2.1,s6.2.2.2.2.1,s6.2.2.2.2.2.1,s6.2.2.2.2.2.2.1,zv (zb s6.2.2.2.2.2.2.2.1 ||| zb (zv (1*2^min (Int.toNat s6.2.2.1) zk))).toNat,zv (zb s6.2.2.2.2.2.2.2.2 ||| zb (zv (1*2^min (Int.toNat 4) zk))).toNat))
      else
      none
     else none
    else
    if s6.1=5 then
     if 0<=s6.2.2.1 then
      if s6.2.2.1=0 then
       some (.next (5,s6.2.1,1,zv (zb s6.2.2.2.1 ||| zb (zv (1*2^min (Int.toNat 5) zk))).toNat,s6.2.2.2.2.1,s6.2.2.2.2.2.1,s6.2.2.2.2.2.2.1,s6.2.2.2.2.2.2.2.1,zv (zb s6.2.2.2.2.2.2.2.2 ||| zb (zv (1*2^min (Int.toNat s6.2.2.1) zk))).toNat))
      else
      if s6.2.2.1=1 then
       some (.next (5,s6.2.1,2,s6.2.2.2.1,zv (zb s6.2.2.2.2.1 ||| zb (zv (1*2^min (Int.toNat 5) zk))).toNat,s6.2.2.2.2.2.1,s6.2.2.2.2.2.2.1,s6.2.2.2.2.2.2.2.1,zv (zb s6.2.2.2.2.2.2.2.2 ||| zb (zv (1*2^min (Int.toNat s6.2.2.1) zk))).toNat))
      else
      if s6.2.2.1=2 then
       some (.next (5,s6.2.1,3,s6.2.2.2.1,s6.2.2.2.2.1,zv (zb s6.2.2.2.2.2.1 ||| zb (zv (1*2^min (Int.toNat 5) zk))).toNat,s6.2.2.2.2.2.2.1,s6.2.2.2.2.2.2.2.1,zv (zb s6.2.2.2.2.2.2.2.2 ||| zb (zv (1*2^min (Int.toNat s6.2.2.1) zk))).toNat))
      else
      if s6.2.2.1=3 then
       some (.next (5,s6.2.1,4,s6.2.2.2.1,s6.2.2.2.2.1,s6.2.2.2.2.2.1,zv (zb s6.2.2.2.2.2.2.1 ||| zb (zv (1*2^min (Int.toNat 5) zk))).toNat,s6.2.2.2.2.2.2.2.1,zv (zb s6.2.2.2.2.2.2.2.2 ||| zb (zv (1*2^min (Int.toNat s6.2.2.1) zk))).toNat))
      else
      if s6.2.2.1=4 then
       some (.next (5,s6.2.1,5,s6.2.2.2.1,s6.2.2.2.2.1,s6.2.2.2.2.2.1,s6.2.2.2.2.2.2.1,zv (zb s6.2.2.2.2.2.2.2.1 ||| zb (zv (1*2^min (Int.toNat 5) zk))).toNat,zv (zb s6.2.2.2.2.2.2.2.2 ||| zb (zv (1*2^min (Int.toNat s6.2.2.1) zk))).toNat))
      else
      if s6.2.2.1=5 then
       some (.next (5,s6.2.1,6,s6.2.2.2.1,s6.2.2.2.2.1,s6.2.2.2.2.2.1,s6.2.2.2.2.2.2.1,s6.2.2.2.2.2.2.2.1,zv (zb (zv (zb s6.2.2.2.2.2.2.2.2 ||| zb (zv (1*2^min (Int.toNat s6.2.2.1) zk))).toNat) ||| zb (zv (1*2^min (Int.toNat 5) zk))).toNat))
      else
      none
     else none
    else
    none
   else
   some (.next (s6.1,s6.2.1,zw (s6.2.2.1+1),s6.2.2.2.1,s6.2.2.2.2.1,s6.2.2.2.2.2.1,s6.2.2.2.2.2.2.1,s6.2.2.2.2.2.2.2.1,s6.2.2.2.2.2.2.2.2))
  else none
 else
 some (.done (s6.2.1,s6.2.2.2.1,s6.2.2.2.2.1,s6.2.2.2.2.2.1,s6.2.2.2.2.2.2.1,s6.2.2.2.2.2.2.2.1,s6.2.2.2.2.2.2.2.2))
def Jk (p0:(List Int)) (s1:(Int × Int × Int × Int × Int × Int × Int)):Option (Qd (Int × Int × Int × Int × Int × Int × Int) (Int × Int × Int × Int × Int × Int)) :=
 if (decide (s1.1 < (p0.length:Int)))=true then
  (lkI p0 s1.1).bind fun a4 =>
  (Qa fuel (Zr p0 a4) (s1.1,s1.1,0,s1.2.1,s1.2.2.1,s1.2.2.2.1,s1.2.2.2.2.1,s1.2.2.2.2.2.1,s1.2.2.2.2.2.2)).bind fun x54 =>
  some (.next (zw (x54.1+1),x54.2.1,x54.2.2.1,x54.2.2.2.1,x54.2.2.2.2.1,x54.2.2.2.2.2.1,x54.2.2.2.2.2.2))
 else
 some (.done (s1.2.1,s1.2.2.1,s1.2.2.2.1,s1.2.2.2.2.1,s1.2.2.2.2.2.1,s1.2.2.2.2.2.2))
def Zy (p0:(List Int)):Option Ad :=
 (Qa fuel (Jk p0) (0,0,0,0,0,0,0)).bind fun x56 =>
 some (Ad.mk (p0.length:Int) (x56.1,x56.2.1,x56.2.2.1,x56.2.2.2.1,x56.2.2.2.2.1,x56.2.2.2.2.2))
def Qi (p0:Ad) (p1:Int) (p2:Int):Option Bool :=
 if p1=0 then
  if 0<=p2 then
   some ((zv (zb (Int.fdiv p0.near.1 (2^min (Int.toNat p2) zk)) &&& zb 1).toNat)==1)
  else none
 else
 if p1=1 then
  if 0<=p2 then
   some ((zv (zb (Int.fdiv p0.near.2.1 (2^min (Int.toNat p2) zk)) &&& zb 1).toNat)==1)
  else none
 else
 if p1=2 then
  if 0<=p2 then
   some ((zv (zb (Int.fdiv p0.near.2.2.1 (2^min (Int.toNat p2) zk)) &&& zb 1).toNat)==1)
  else none
 else
 if p1=3 then
  if 0<=p2 then
   some ((zv (zb (Int.fdiv p0.near.2.2.2.1 (2^min (Int.toNat p2) zk)) &&& zb 1).toNat)==1)
  else none
 else
 if p1=4 then
  if 0<=p2 then
   some ((zv (zb (Int.fdiv p0.near.2.2.2.2.1 (2^min (Int.toNat p2) zk)) &&& zb 1).toNat)==1)
  else none
 else
 if p1=5 then
  if 0<=p2 then
   some ((zv (zb (Int.fdiv p0.near.2.2.2.2.2 (2^min (Int.toNat p2) zk)) &&& zb 1).toNat)==1)
  else none
 else
 none
def Ve (p0:(List Int)) (s3:(Int × (List (Int × Int × Int)))) (a9:Int) (x1:Ad) (s6:(Int × (List (Int × Int × Int)))) (s11:(Int × (List (Int × Int × Int)))):Option (Qd (Int × (List (Int × Int × Int))) (List (Int × Int × Int))) :=
 if (decide (s11.1 < (p0.length:Int)))=true then
  if 0<=s3.1 then
   if ((zv (zb (Int.fdiv a9 (2^min (Int.toNat s3.1) zk)) &&& zb 1).toNat)==1)=true then
    if 0<=s11.1 then
     if ((zv (zb (Int.fdiv a9 (2^min (Int.toNat s11.1) zk)) &&& zb 1).toNat)==1)=true then
      (Qi (Ad.mk x1.n (x1.near.1,x1.near.2.1,x1.near.2.2.1,x1.near.2.2.2.1,x1.near.2.2.2.2.1,x1.near.2.2.2.2.2)) s3.1 s11.1).bind fun x18 =>
      if (!x18)=true then
       if (s11.2++([(s3.1,s6.1,s11.1)]:(List (Int × Int × Int)))).length*24<=140737488355328 then
        some (.next (zw (s11.1+1),(s11.2++([(s3.1,s6.1,s11.1)]:(List (Int × Int × Int))))))
       else none
      else
      some (.next (zw (s11.1+1),s11.2))
     else
     some (.next (zw (s11.1+1),s11.2))
    else none
   else
   some (.next (zw (s11.1+1),s11.2))
  else none
 else
 some (.done s11.2)
def Vf (p0:(List Int)) (s3:(Int × (List (Int × Int × Int)))) (x1:Ad) (s6:(Int × (List (Int × Int × Int)))):Option (Qd (Int × (List (Int × Int × Int))) (List (Int × Int × Int))) :=
 if (decide (s6.1 < (p0.length:Int)))=true then
  (lkI p0 s6.1).bind fun a9 =>
  (Qa fuel (Ve p0 s3 a9 x1 s6) (zw (s3.1+1),s6.2)).bind fun x23 =>
  some (.next (zw (s6.1+1),x23))
 else
 some (.done s6.2)
def J1 (p0:(List Int)) (x1:Ad) (s3:(Int × (List (Int × Int × Int)))):Option (Qd (Int × (List (Int × Int × Int))) (List (Int × Int × Int))) :=
 if (decide (s3.1 < (p0.length:Int)))=true then
  (Qa fuel (Vf p0 s3 x1) (0,s3.2)).bind fun x25 =>
  some (.next (zw (s3.1+1),x25))
 else
 some (.done s3.2)
def Zv (p0:(List Int)):Option (List (Int × Int × Int)) :=
 (Zy p0).bind fun x1 =>
 (Qa fuel (J1 p0 x1) (0,([]:(List (Int × Int × Int))))).bind fun x27 =>
 some x27
def Qm (p0:Qf) (p1:Int) (p2:Int):Option Bool :=
 if p1=0 then
  if 0<=p2 then
   some ((zv (zb (Int.fdiv p0.out.1 (2^min (Int.toNat p2) zk)) &&& zb 1).toNat)==1)
  else none
 else
 if p1=1 then
  if 0<=p2 then
   some ((zv (zb (Int.fdiv p0.out.2.1 (2^min (Int.toNat p2) zk)) &&& zb 1).toNat)==1)
  else none
 else
 if p1=2 then
  if 0<=p2 then
   some ((zv (zb (Int.fdiv p0.out.2.2.1 (2^min (Int.toNat p2) zk)) &&& zb 1).toNat)==1)
  else none
 else
 if p1=3 then
  if 0<=p2 then
   some ((zv (zb (Int.fdiv p0.out.2.2.2.1 (2^min (Int.toNat p2) zk)) &&& zb 1).toNat)==1)
  else none
 else
 if p1=4 then
  if 0<=p2 then
   some ((zv (zb (Int.fdiv p0.out.2.2.2.2.1 (2^min (Int.toNat p2) zk)) &&& zb 1).toNat)==1)
  else none
 else
 if p1=5 then
  if 0<=p2 then
   some ((zv (zb (Int.fdiv p0.out.2.2.2.2.2 (2^min (Int.toNat p2) zk)) &&& zb 1).toNat)==1)
  else none
 else
 none
def Kq (p0:Qf) (p2:Int) (p1:Int) (s1:Int):Option (Qd Int (Unit ⊕ Unit)) :=
 if (decide (s1 < p0.skeleton.n))=true then
  if (s1 != p2)=true then
   (Qm (Qf.mk (Ad.mk p0.skeleton.n (p0.skeleton.near.1,p0.skeleton.near.2.1,p0.skeleton.near.2.2.1,p0.skeleton.near.2.2.2.1,p0.skeleton.near.2.2.2.2.1,p0.skeleton.near.2.2.2.2.2)) (p0.out.1,p0.out.2.1,p0.out.2.2.1,p0.out.2.2.2.1,p0.out.2.2.2.2.1,p0.out.2.2.2.2.2)) s1 p1).bind fun x6 =>
   if x6=true then
    (Qi (Ad.mk p0.skeleton.n (p0.skeleton.near.1,p0.skeleton.near.2.1,p0.skeleton.near.2.2.1,p0.skeleton.near.2.2.2.1,p0.skeleton.near.2.2.2.2.1,p0.skeleton.near.2.2.2.2.2)) s1 p2).bind fun x10 =>
    if (!x10)=true then
     some (.done (Sum.inl ()))
    else
    some (.next (zw (s1+1)))
   else
   some (.next (zw (s1+1)))
  else
  some (.next (zw (s1+1)))
 else
 some (.done (Sum.inr ()))
def Ye (p0:Qf) (p1:Int) (p2:Int):Option Bool :=
 (Qa fuel (Kq p0 p2 p1) 0).bind fun x14=>match x14 with
 | .inl x15=>(
  some true)
 | .inr x16=>(
  some false)
def Kn (p0:Qf) (p1:Int) (p2:Int) (s1:Int):Option (Qd Int (Unit ⊕ Unit)) :=
 if (decide (s1 < p0.skeleton.n))=true then
  (Qm (Qf.mk (Ad.mk p0.skeleton.n (p0.skeleton.near.1,p0.skeleton.near.2.1,p0.skeleton.near.2.2.1,p0.skeleton.near.2.2.2.1,p0.skeleton.near.2.2.2.2.1,p0.skeleton.near.2.2.2.2.2)) (p0.out.1,p0.out.2.1,p0.out.2.2.1,p0.out.2.2.2.1,p0.out.2.2.2.2.1,p0.out.2.2.2.2.2)) p1 s1).bind fun x4 =>
  if x4=true then
   (Qm (Qf.mk (Ad.mk p0.skeleton.n (p0.skeleton.near.1,p0.skeleton.near.2.1,p0.skeleton.near.2.2.1,p0.skeleton.near.2.2.2.1,p0.skeleton.near.2.2.2.2.1,p0.skeleton.near.2.2.2.2.2)) (p0.out.1,p0.out.2.1,p0.out.2.2.1,p0.out.2.2.2.1,p0.out.2.2.2.2.1,p0.out.2.2.2.2.2)) s1 p2).bind fun x8 =>
   if x8=true then
    some (.done (Sum.inl ()))
   else
   some (.next (zw (s1+1)))
  else
  some (.next (zw (s1+1)))
 else
 some (.done (Sum.inr ()))
def Yd (p0:Qf) (p1:Int) (p2:Int):Option Bool :=
 (Qa fuel (Kn p0 p1 p2) 0).bind fun x12=>match x12 with
 | .inl x13=>(
  some true)
 | .inr x14=>(
  some false)
def Q1 (p0:Qf) (p1:Int) (p2:Int):Option Bool :=
 (Qi (Ad.mk p0.skeleton.n (p0.skeleton.near.1,p0.skeleton.near.2.1,p0.skeleton.near.2.2.1,p0.skeleton.near.2.2.2.1,p0.skeleton.near.2.2.2.2.1,p0.skeleton.near.2.2.2.2.2)) p1 p2).bind fun x1 =>
 if x1=true then
  (Qm (Qf.mk (Ad.mk p0.skeleton.n (p0.skeleton.near.1,p0.skeleton.near.2.1,p0.skeleton.near.2.2.1,p0.skeleton.near.2.2.2.1,p0.skeleton.near.2.2.2.2.1,p0.skeleton.near.2.2.2.2.2)) (p0.out.1,p0.out.2.1,p0.out.2.2.1,p0.out.2.2.2.1,p0.out.2.2.2.2.1,p0.out.2.2.2.2.2)) p1 p2).bind fun x5 =>
  if (!x5)=true then
   (Qm (Qf.mk (Ad.mk p0.skeleton.n (p0.skeleton.near.1,p0.skeleton.near.2.1,p0.skeleton.near.2.2.1,p0.skeleton.near.2.2.2.1,p0.skeleton.near.2.2.2.2.1,p0.skeleton.near.2.2.2.2.2)) (p0.out.1,p0.out.2.1,p0.out.2.2.1,p0.out.2.2.2.1,p0.out.2.2.2.2.1,p0.out.2.2.2.2.2)) p2 p1).bind fun x9 =>
   some (!x9)
  else
  some false
 else
 some false
def Vh (s1:Int) (p0:Qf) (p1:Int) (p2:Int) (s4:Int):Option (Qd Int (Unit ⊕ Unit)) :=
 if (decide (s4 < s1))=true then
  (Q1 (Qf.mk (Ad.mk p0.skeleton.n (p0.skeleton.near.1,p0.skeleton.near.2.1,p0.skeleton.near.2.2.1,p0.skeleton.near.2.2.2.1,p0.skeleton.near.2.2.2.2.1,p0.skeleton.near.2.2.2.2.2)) (p0.out.1,p0.out.2.1,p0.out.2.2.1,p0.out.2.2.2.1,p0.out.2.2.2.2.1,p0.out.2.2.2.2.2)) p1 s1).bind fun x7 =>
  if x7=true then
   (Q1 (Qf.mk (Ad.mk p0.skeleton.n (p0.skeleton.near.1,p0.skeleton.near.2.1,p0.skeleton.near.2.2.1,p0.skeleton.near.2.2.2.1,p0.skeleton.near.2.2.2.2.1,p0.skeleton.near.2.2.2.2.2)) (p0.out.1,p0.out.2.1,p0.out.2.2.1,p0.out.2.2.2.1,p0.out.2.2.2.2.1,p0.out.2.2.2.2.2)) p1 s4).bind fun x11 =>
   if x11=true then
    (Qm (Qf.mk (Ad.mk p0.skeleton.n (p0.skeleton.near.1,p0.skeleton.near.2.1,p0.skeleton.near.2.2.1,p0.skeleton.near.2.2.2.1,p0.skeleton.near.2.2.2.2.1,p0.skeleton.near.2.2.2.2.2)) (p0.out.1,p0.out.2.1,p0.out.2.2.1,p0.out.2.2.2.1,p0.out.2.2.2.2.1,p0.out.2.2.2.2.2)) s1 p2).bind fun x15 =>
    if x15=true then
     (Qm (Qf.mk (Ad.mk p0.skeleton.n (p0.skeleton.near.1,p0.skeleton.near.2.1,p0.skeleton.near.2.2.1,p0.skeleton.near.2.2.2.1,p0.skeleton.near.2.2.2.2.1,p0.skeleton.near.2.2.2.2.2)) (p0.out.1,p0.out.2.1,p0.out.2.2.1,p0.out.2.2.2.1,p0.out.2.2.2.2.1,p0.out.2.2.2.2.2)) s4 p2).bind fun x19 =>
     if x19=true then
      (Qi (Ad.mk p0.skeleton.n (p0.skeleton.near.1,p0.skeleton.near.2.1,p0.skeleton.near.2.2.1,p0.skeleton.near.2.2.2.1,p0.skeleton.near.2.2.2.2.1,p0.skeleton.near.2.2.2.2.2)) s1 s4).bind fun x23 =>
      if (!x23)=true then
       some (.done (Sum.inl ()))
      else
      some (.next (zw (s4+1)))
     else
     some (.next (zw (s4+1)))
    else
    some (.next (zw (s4+1)))
   else
   some (.next (zw (s4+1)))
  else
  some (.next (zw (s4+1)))
 else
 some (.done (Sum.inr ()))
def J6 (p0:Qf) (p1:Int) (p2:Int) (s1:Int):Option (Qd Int (Unit ⊕ Unit)) :=
 if (decide (s1 < p0.skeleton.n))=true then
  (Qa fuel (Vh s1 p0 p1 p2) 0).bind fun x27=>match x27 with
  | .inl x28=>(
   some (.done (Sum.inl ())))
  | .inr x29=>(
   some (.next (zw (s1+1))))
 else
 some (.done (Sum.inr ()))
def Xy (p0:Qf) (p1:Int) (p2:Int):Option Bool :=
 (Qa fuel (J6 p0 p1 p2) 0).bind fun x30=>match x30 with
 | .inl x31=>(
  some true)
 | .inr x32=>(
  some false)
def Yc (x3:(List (Int × Int × Int))) (s5:(Int × Int × Int × Int × Int × Int × Int)):Option (Qd (Int × Int × Int × Int × Int × Int × Int) (Int × Int × Int × Int × Int × Int)) :=
 if (decide (s5.1 < (x3.length:Int)))=true then
  (lkI x3 s5.1).bind fun a8 =>
  if a8.1=0 then
   if 0<=a8.2.1 then
    if a8.2.2=0 then
     if 0<=a8.2.1 then
      some (.next (zw (s5.1+1),zv (zb (zv (zb s5.2.1 ||| zb (zv (1*2^min (Int.toNat a8.2.1) zk))).toNat) ||| zb (zv (1*2^min (Int.toNat a8.2.1) zk))).toNat,s5.2.2.1,s5.2.2.2.1,s5.2.2.2.2.1,s5.2.2.2.2.2.1,s5.2.2.2.2.2.2))
     else none
    else
    if a8.2.2=1 then
     if 0<=a8.2.1 then
      some (.next (zw (s5.1+1),zv (zb s5.2.1 ||| zb (zv (1*2^min (Int.toNat a8.2.1) zk))).toNat,zv (zb s5.2.2.1 ||| zb (zv (1*2^min (Int.toNat a8.2.1) zk))).toNat,s5.2.2.2.1,s5.2.2.2.2.1,s5.2.2.2.2.2.1,s5.2.2.2.2.2.2))
     else none
    else
    if a8.2.2=2 then
     if 0<=a8.2.1 then
      some (.next (zw (s5.1+1),zv (zb s5.2.1 ||| zb (zv (1*2^min (Int.toNat a8.2.1) zk))).toNat,s5.2.2.1,zv (zb s5.2.2.2.1 ||| zb (zv (1*2^min (Int.toNat a8.2.1) zk))).toNat,s5.2.2.2.2.1,s5.2.2.2.2.2.1,s5.2.2.2.2.2.2))
     else none
    else
    if a8.2.2=3 then
     if 0<=a8.2.1 then
      some (.next (zw (s5.1+1),zv (zb s5.2.1 ||| zb (zv (1*2^min (Int.toNat a8.2.1) zk))).toNat,s5.2.2.1,s5.2.2.2.1,zv (zb s5.2.2.2.2.1 ||| zb (zv (1*2^min (Int.toNat a8.2.1) zk))).toNat,s5.2.2.2.2.2.1,s5.2.2.2.2.2.2))
     else none
    else
    if a8.2.2=4 then
     if 0<=a8.2.1 then
      some (.next (zw (s5.1+1),zv (zb s5.2.1 ||| zb (zv (1*2^min (Int.toNat a8.2.1) zk))).toNat,s5.2.2.1,s5.2.2.2.1,s5.2.2.2.2.1,zv (zb s5.2.2.2.2.2.1 ||| zb (zv (1*2^min (Int.toNat a8.2.1) zk))).toNat,s5.2.2.2.2.2.2))
     else none
    else
    if a8.2.2=5 then
     if 0<=a8.2.1 then
      some (.next (zw (s5.1+1),zv (zb s5.2.1 ||| zb (zv (1*2^min (Int.toNat a8.2.1) zk))).toNat,s5.2.2.1,s5.2.2.2.1,s5.2.2.2.2.1,s5.2.2.2.2.2.1,zv (zb s5.2.2.2.2.2.2 ||| zb (zv (1*2^min (Int.toNat a8.2.1) zk))).toNat))
     else none
    else
    none
   else none
  else
  if a8.1=1 then
   if 0<=a8.2.1 then
    if a8.2.2=0 then
     if 0<=a8.2.1 then
      some (.next (zw (s5.1+1),zv (zb s5.2.1 ||| zb (zv (1*2^min (Int.toNat a8.2.1) zk))).toNat,zv (zb s5.2.2.1 ||| zb (zv (1*2^min (Int.toNat a8.2.1) zk))).toNat,s5.2.2.2.1,s5.2.2.2.2.1,s5.2.2.2.2.2.1,s5.2.2.2.2.2.2))
     else none
    else
    if a8.2.2=1 then
     if 0<=a8.2.1 then
      some (.next (zw (s5.1+1),s5.2.1,zv (zb (zv (zb s5.2.2.1 ||| zb (zv (1*2^min (Int.toNat a8.2.1) zk))).toNat) ||| zb (zv (1*2^min (Int.toNat a8.2.1) zk))).toNat,s5.2.2.2.1,s5.2.2.2.2.1,s5.2.2.2.2.2.1,s5.2.2.2.2.2.2))
     else none
    else
    if a8.2.2=2 then
     if 0<=a8.2.1 then
      some (.next (zw (s5.1+1),s5.2.1,zv (zb s5.2.2.1 ||| zb (zv (1*2^min (Int.toNat a8.2.1) zk))).toNat,zv (zb s5.2.2.2.1 ||| zb (zv (1*2^min (Int.toNat a8.2.1) zk))).toNat,s5.2.2.2.2.1,s5.2.2.2.2.2.1,s5.2.2.2.2.2.2))
     else none
    else
    if a8.2.2=3 then
     if 0<=a8.2.1 then
      some (.next (zw (s5.1+1),s5.2.1,zv (zb s5.2.2.1 ||| zb (zv (1*2^min (Int.toNat a8.2.1) zk))).toNat,s5.2.2.2.1,zv (zb s5.2.2.2.2.1 ||| zb (zv (1*2^min (Int.toNat a8.2.1) zk))).toNat,s5.2.2.2.2.2.1,s5.2.2.2.2.2.2))
     else none
    else
    if a8.2.2=4 then
     if 0<=a8.2.1 then
      some (.next (zw (s5.1+1),s5.2.1,zv (zb s5.2.2.1 ||| zb (zv (1*2^min (Int.toNat a8.2.1) zk))).toNat,s5.2.2.2.1,s5.2.2.2.2.1,zv (zb s5.2.2.2.2.2.1 ||| zb (zv (1*2^min (Int.toNat a8.2.1) zk))).toNat,s5.2.2.2.2.2.2))
     else none
    else
    if a8.2.2=5 then
     if 0<=a8.2.1 then
      some (.next (zw (s5.1+1),s5.2.1,zv (zb s5.2.2.1 ||| zb (zv (1*2^min (Int.toNat a8.2.1) zk))).toNat,s5.2.2.2.1,s5.2.2.2.2.1,s5.2.2.2.2.2.1,zv (zb s5.2.2.2.2.2.2 ||| zb (zv (1*2^min (Int.toNat a8.2.1) zk))).toNat))
     else none
    else
    none
   else none
  else
  if a8.1=2 then
   if 0<=a8.2.1 then
    if a8.2.2=0 then
     if 0<=a8.2.1 then
      some (.next (zw (s5.1+1),zv (zb s5.2.1 ||| zb (zv (1*2^min (Int.toNat a8.2.1) zk))).toNat,s5.2.2.1,zv (zb s5.2.2.2.1 ||| zb (zv (1*2^min (Int.toNat a8.2.1) zk))).toNat,s5.2.2.2.2.1,s5.2.2.2.2.2.1,s5.2.2.2.2.2.2))
     else none
    else
    if a8.2.2=1 then
     if 0<=a8.2.1 then
      some (.next (zw (s5.1+1),s5.2.1,zv (zb s5.2.2.1 ||| zb (zv (1*2^min (Int.toNat a8.2.1) zk))).toNat,zv (zb s5.2.2.2.1 ||| zb (zv (1*2^min (Int.toNat a8.2.1) zk))).toNat,s5.2.2.2.2.1,s5.2.2.2.2.2.1,s5.2.2.2.2.2.2))
     else none
    else
    if a8.2.2=2 then
     if 0<=a8.2.1 then
      some (.next (zw (s5.1+1),s5.2.1,s5.2.2.1,zv (zb (zv (zb s5.2.2.2.1 ||| zb (zv (1*2^min (Int.toNat a8.2.1) zk))).toNat) ||| zb (zv (1*2^min (Int.toNat a8.2.1) zk))).toNat,s5.2.2.2.2.1,s5.2.2.2.2.2.1,s5.2.2.2.2.2.2))
     else none
    else
    if a8.2.2=3 then
     if 0<=a8.2.1 then
      some (.next (zw (s5.1+1),s5.2.1,s5.2.2.1,zv (zb s5.2.2.2.1 ||| zb (zv (1*2^min (Int.toNat a8.2.1) zk))).toNat,zv (zb s5.2.2.2.2.1 ||| zb (zv (1*2^min (Int.toNat a8.2.1) zk))).toNat,s5.2.2.2.2.2.1,s5.2.2.2.2.2.2))
     else none
    else
    if a8.2.2=4 then
     if 0<=a8.2.1 then
      some (.next (zw (s5.1+1),s5.2.1,s5.2.2.1,zv (zb s5.2.2.2.1 ||| zb (zv (1*2^min (Int.toNat a8.2.1) zk))).toNat,s5.2.2.2.2.1,zv (zb s5.2.2.2.2.2.1 ||| zb (zv (1*2^min (Int.toNat a8.2.1) zk))).toNat,s5.2.2.2.2.2.2))
     else none
    else
    if a8.2.2=5 then
     if 0<=a8.2.1 then
      some (.next (zw (s5.1+1),s5.2.1,s5.2.2.1,zv (zb s5.2.2.2.1 ||| zb (zv (1*2^min (Int.toNat a8.2.1) zk))).toNat,s5.2.2.2.2.1,s5.2.2.2.2.2.1,zv (zb s5.2.2.2.2.2.2 ||| zb (zv (1*2^min (Int.toNat a8.2.1) zk))).toNat))
     else none
    else
    none
   else none
  else
  if a8.1=3 then
   if 0<=a8.2.1 then
    if a8.2.2=0 then
     if 0<=a8.2.1 then
      some (.next (zw (s5.1+1),zv (zb s5.2.1 ||| zb (zv (1*2^min (Int.toNat a8.2.1) zk))).toNat,s5.2.2.1,s5.2.2.2.1,zv (zb s5.2.2.2.2.1 ||| zb (zv (1*2^min (Int.toNat a8.2.1) zk))).toNat,s5.2.2.2.2.2.1,s5.2.2.2.2.2.2))
     else none
    else
    if a8.2.2=1 then
     if 0<=a8.2.1 then
      some (.next (zw (s5.1+1),s5.2.1,zv (zb s5.2.2.1 ||| zb (zv (1*2^min (Int.toNat a8.2.1) zk))).toNat,s5.2.2.2.1,zv (zb s5.2.2.2.2.1 ||| zb (zv (1*2^min (Int.toNat a8.2.1) zk))).toNat,s5.2.2.2.2.2.1,s5.2.2.2.2.2.2))
     else none
    else
    if a8.2.2=2 then
     if 0<=a8.2.1 then
      some (.next (zw (s5.1+1),s5.2.1,s5.2.2.1,zv (zb s5.2.2.2.1 ||| zb (zv (1*2^min (Int.toNat a8.2.1) zk))).toNat,zv (zb s5.2.2.2.2.1 ||| zb (zv (1*2^min (Int.toNat a8.2.1) zk))).toNat,s5.2.2.2.2.2.1,s5.2.2.2.2.2.2))
     else none
    else
    if a8.2.2=3 then
     if 0<=a8.2.1 then
      some (.next (zw (s5.1+1),s5.2.1,s5.2.2.1,s5.2.2.2.1,zv (zb (zv (zb s5.2.2.2.2.1 ||| zb (zv (1*2^min (Int.toNat a8.2.1) zk))).toNat) ||| zb (zv (1*2^min (Int.toNat a8.2.1) zk))).toNat,s5.2.2.2.2.2.1,s5.2.2.2.2.2.2))
     else none
    else
    if a8.2.2=4 then
     if 0<=a8.2.1 then
      some (.next (zw (s5.1+1),s5.2.1,s5.2.2.1,s5.2.2.2.1,zv (zb s5.2.2.2.2.1 ||| zb (zv (1*2^min (Int.toNat a8.2.1) zk))).toNat,zv (zb s5.2.2.2.2.2.1 ||| zb (zv (1*2^min (Int.toNat a8.2.1) zk))).toNat,s5.2.2.2.2.2.2))
     else none
    else
    if a8.2.2=5 then
     if 0<=a8.2.1 then
      some (.next (zw (s5.1+1),s5.2.1,s5.2.2.1,s5.2.2.2.1,zv (zb s5.2.2.2.2.1 ||| zb (zv (1*2^min (Int.toNat a8.2.1) zk))).toNat,s5.2.2.2.2.2.1,zv (zb s5.2.2.2.2.2.2 ||| zb (zv (1*2^min (Int.toNat a8.2.1) zk))).toNat))
     else none
    else
    none
   else none
  else
  if a8.1=4 then
   if 0<=a8.2.1 then
    if a8.2.2=0 then
     if 0<=a8.2.1 then
      some (.next (zw (s5.1+1),zv (zb s5.2.1 ||| zb (zv (1*2^min (Int.toNat a8.2.1) zk))).toNat,s5.2.2.1,s5.2.2.2.1,s5.2.2.2.2.1,zv (zb s5.2.2.2.2.2.1 ||| zb (zv (1*2^min (Int.toNat a8.2.1) zk))).toNat,s5.2.2.2.2.2.2))
     else none
    else
    if a8.2.2=1 then
     if 0<=a8.2.1 then
      some (.next (zw (s5.1+1),s5.2.1,zv (zb s5.2.2.1 ||| zb (zv (1*2^min (Int.toNat a8.2.1) zk))).toNat,s5.2.2.2.1,s5.2.2.2.2.1,zv (zb s5.2.2.2.2.2.1 ||| zb (zv (1*2^min (Int.toNat a8.2.1) zk))).toNat,s5.2.2.2.2.2.2))
     else none
    else
    if a8.2.2=2 then
     if 0<=a8.2.1 then
      some (.next (zw (s5.1+1),s5.2.1,s5.2.2.1,zv (zb s5.2.2.2.1 ||| zb (zv (1*2^min (Int.toNat a8.2.1) zk))).toNat,s5.2.2.2.2.1,zv (zb s5.2.2.2.2.2.1 ||| zb (zv (1*2^min (Int.toNat a8.2.1) zk))).toNat,s5.2.2.2.2.2.2))
     else none
    else
    if a8.2.2=3 then
     if 0<=a8.2.1 then
      some (.next (zw (s5.1+1),s5.2.1,s5.2.2.1,s5.2.2.2.1,zv (zb s5.2.2.2.2.1 ||| zb (zv (1*2^min (Int.toNat a8.2.1) zk))).toNat,zv (zb s5.2.2.2.2.2.1 ||| zb (zv (1*2^min (Int.toNat a8.2.1) zk))).toNat,s5.2.2.2.2.2.2))
     else none
    else
    if a8.2.2=4 then
     if 0<=a8.2.1 then
      some (.next (zw (s5.1+1),s5.2.1,s5.2.2.1,s5.2.2.2.1,s5.2.2.2.2.1,zv (zb (zv (zb s5.2.2.2.2.2.1 ||| zb (zv (1*2^min (Int.toNat a8.2.1) zk))).toNat) ||| zb (zv (1*2^min (Int.toNat a8.2.1) zk))).toNat,s5.2.2.2.2.2.2))
     else none
    else
    if a8.2.2=5 then
     if 0<=a8.2.1 then
      some (.next (zw (s5.1+1),s5.2.1,s5.2.2.1,s5.2.2.2.1,s5.2.2.2.2.1,zv (zb s5.2.2.2.2.2.1 ||| zb (zv (1*2^min (Int.toNat a8.2.1) zk))).toNat,zv (zb s5.2.2.2.2.2.2 ||| zb (zv (1*2^min (Int.toNat a8.2.1) zk))).toNat))
     else none
    else
    none
   else none
  else
  if a8.1=5 then
   if 0<=a8.2.1 then
    if a8.2.2=0 then
     if 0<=a8.2.1 then
      some (.next (zw (s5.1+1),zv (zb s5.2.1 ||| zb (zv (1*2^min (Int.toNat a8.2.1) zk))).toNat,s5.2.2.1,s5.2.2.2.1,s5.2.2.2.2.1,s5.2.2.2.2.2.1,zv (zb s5.2.2.2.2.2.2 ||| zb (zv (1*2^min (Int.toNat a8.2.1) zk))).toNat))
     else none
    else
    if a8.2.2=1 then
     if 0<=a8.2.1 then
      some (.next (zw (s5.1+1),s5.2.1,zv (zb s5.2.2.1 ||| zb (zv (1*2^min (Int.toNat a8.2.1) zk))).toNat,s5.2.2.2.1,s5.2.2.2.2.1,s5.2.2.2.2.2.1,zv (zb s5.2.2.2.2.2.2 ||| zb (zv (1*2^min (Int.toNat a8.2.1) zk))).toNat))
     else none
    else
    if a8.2.2=2 then
     if 0<=a8.2.1 then
      some (.next (zw (s5.1+1),s5.2.1,s5.2.2.1,zv (zb s5.2.2.2.1 ||| zb (zv (1*2^min (Int.toNat a8.2.1) zk))).toNat,s5.2.2.2.2.1,s5.2.2.2.2.2.1,zv (zb s5.2.2.2.2.2.2 ||| zb (zv (1*2^min (Int.toNat a8.2.1) zk))).toNat))
     else none
    else
    if a8.2.2=3 then
     if 0<=a8.2.1 then
      some (.next (zw (s5.1+1),s5.2.1,s5.2.2.1,s5.2.2.2.1,zv (zb s5.2.2.2.2.1 ||| zb (zv (1*2^min (Int.toNat a8.2.1) zk))).toNat,s5.2.2.2.2.2.1,zv (zb s5.2.2.2.2.2.2 ||| zb (zv (1*2^min (Int.toNat a8.2.1) zk))).toNat))
     else none
    else
    if a8.2.2=4 then
     if 0<=a8.2.1 then
      some (.next (zw (s5.1+1),s5.2.1,s5.2.2.1,s5.2.2.2.1,s5.2.2.2.2.1,zv (zb s5.2.2.2.2.2.1 ||| zb (zv (1*2^min (Int.toNat a8.2.1) zk))).toNat,zv (zb s5.2.2.2.2.2.2 ||| zb (zv (1*2^min (Int.toNat a8.2.1) zk))).toNat))
     else none
    else
    if a8.2.2=5 then
     if 0<=a8.2.1 then
      some (.next (zw (s5.1+1),s5.2.1,s5.2.2.1,s5.2.2.2.1,s5.2.2.2.2.1,s5.2.2.2.2.2.1,zv (zb (zv (zb s5.2.2.2.2.2.2 ||| zb (zv (1*2^min (Int.toNat a8.2.1) zk))).toNat) ||| zb (zv (1*2^min (Int.toNat a8.2.1) zk))).toNat))
     else none
    else
    none
   else none
  else
  none
 else
 some (.done (s5.2.1,s5.2.2.1,s5.2.2.2.1,s5.2.2.2.2.1,s5.2.2.2.2.2.1,s5.2.2.2.2.2.2))
def Zi (x1:Ad) (s54:(Int × Int × Int × Int × Int × Int)) (s55:Int) (s58:Int) (s65:Int):Option (Qd Int ((Int × Int × Int × Int × Int × Int) ⊕ Unit)) :=
 if (decide (s65 < 3))=true then
  if s65=0 then
   (Ye (Qf.mk (Ad.mk x1.n (x1.near.1,x1.near.2.1,x1.near.2.2.1,x1.near.2.2.2.1,x1.near.2.2.2.2.1,x1.near.2.2.2.2.2)) (s54.1,s54.2.1,s54.2.2.1,s54.2.2.2.1,s54.2.2.2.2.1,s54.2.2.2.2.2)) s55 s58).bind fun x69 =>
   if x69=true then
    if s55=0 then
     if 0<=s58 then
      some (.done (Sum.inl (zv (zb s54.1 ||| zb (zv (1*2^min (Int.toNat s58) zk))).toNat,s54.2.1,s54.2.2.1,s54.2.2.2.1,s54.2.2.2.2.1,s54.2.2.2.2.2)))
     else none
    else
    if s55=1 then
     if 0<=s58 then
      some (.done (Sum.inl (s54.1,zv (zb s54.2.1 ||| zb (zv (1*2^min (Int.toNat s58) zk))).toNat,s54.2.2.1,s54.2.2.2.1,s54.2.2.2.2.1,s54.2.2.2.2.2)))
     else none
    else
    if s55=2 then
     if 0<=s58 then
      some (.done (Sum.inl (s54.1,s54.2.1,zv (zb s54.2.2.1 ||| zb (zv (1*2^min (Int.toNat s58) zk))).toNat,s54.2.2.2.1,s54.2.2.2.2.1,s54.2.2.2.2.2)))
     else none
    else
    if s55=3 then
     if 0<=s58 then
      some (.done (Sum.inl (s54.1,s54.2.1,s54.2.2.1,zv (zb s54.2.2.2.1 ||| zb (zv (1*2^min (Int.toNat s58) zk))).toNat,s54.2.2.2.2.1,s54.2.2.2.2.2)))
     else none
    else
    if s55=4 then
     if 0<=s58 then
      some (.done (Sum.inl (s54.1,s54.2.1,s54.2.2.1,s54.2.2.2.1,zv (zb s54.2.2.2.2.1 ||| zb (zv (1*2^min (Int.toNat s58) zk))).toNat,s54.2.2.2.2.2)))
     else none
    else
    if s55=5 then
     if 0<=s58 then
      some (.done (Sum.inl (s54.1,s54.2.1,s54.2.2.1,s54.2.2.2.1,s54.2.2.2.2.1,zv (zb s54.2.2.2.2.2 ||| zb (zv (1*2^min (Int.toNat s58) zk))).toNat)))
     else none
    else
    none
   else
   some (.next 1)
  else
  if s65=1 then
   (Yd (Qf.mk (Ad.mk x1.n (x1.near.1,x1.near.2.1,x1.near.2.2.1,x1.near.2.2.2.1,x1.near.2.2.2.2.1,x1.near.2.2.2.2.2)) (s54.1,s54.2.1,s54.2.2.1,s54.2.2.2.1,s54.2.2.2.2.1,s54.2.2.2.2.2)) s55 s58).bind fun x80 =>
   if x80=true then
    if s55=0 then
     if 0<=s58 then
      some (.done (Sum.inl (zv (zb s54.1 ||| zb (zv (1*2^min (Int.toNat s58) zk))).toNat,s54.2.1,s54.2.2.1,s54.2.2.2.1,s54.2.2.2.2.1,s54.2.2.2.2.2)))
     else none
    else
    if s55=1 then
     if 0<=s58 then
      some (.done (Sum.inl (s54.1,zv (zb s54.2.1 ||| zb (zv (1*2^min (Int.toNat s58) zk))).toNat,s54.2.2.1,s54.2.2.2.1,s54.2.2.2.2.1,s54.2.2.2.2.2)))
     else none
    else
    if s55=2 then
     if 0<=s58 then
      some (.done (Sum.inl (s54.1,s54.2.1,zv (zb s54.2.2.1 ||| zb (zv (1*2^min (Int.toNat s58) zk))).toNat,s54.2.2.2.1,s54.2.2.2.2.1,s54.2.2.2.2.2)))
     else none
    else
    if s55=3 then
     if 0<=s58 then
      some (.done (Sum.inl (s54.1,s54.2.1,s54.2.2.1,zv (zb s54.2.2.2.1 ||| zb (zv (1*2^min (Int.toNat s58) zk))).toNat,s54.2.2.2.2.1,s54.2.2.2.2.2)))
     else none
    else
    if s55=4 then
     if 0<=s58 then
      some (.done (Sum.inl (s54.1,s54.2.1,s54.2.2.1,s54.2.2.2.1,zv (zb s54.2.2.2.2.1 ||| zb (zv (1*2^min (Int.toNat s58) zk))).toNat,s54.2.2.2.2.2)))
     else none
    else
    if s55=5 then
     if 0<=s58 then
      some (.done (Sum.inl (s54.1,s54.2.1,s54.2.2.1,s54.2.2.2.1,s54.2.2.2.2.1,zv (zb s54.2.2.2.2.2 ||| zb (zv (1*2^min (Int.toNat s58) zk))).toNat)))
     else none
    else
    none
   else
   some (.next 2)
  else
  if s65=2 then
   (Xy (Qf.mk (Ad.mk x1.n (x1.near.1,x1.near.2.1,x1.near.2.2.1,x1.near.2.2.2.1,x1.near.2.2.2.2.1,x1.near.2.2.2.2.2)) (s54.1,s54.2.1,s54.2.2.1,s54.2.2.2.1,s54.2.2.2.2.1,s54.2.2.2.2.2)) s55 s58).bind fun x91 =>
   if x91=true then
    if s55=0 then
     if 0<=s58 then
      some (.done (Sum.inl (zv (zb s54.1 ||| zb (zv (1*2^min (Int.toNat s58) zk))).toNat,s54.2.1,s54.2.2.1,s54.2.2.2.1,s54.2.2.2.2.1,s54.2.2.2.2.2)))
     else none
    else
    if s55=1 then
     if 0<=s58 then
      some (.done (Sum.inl (s54.1,zv (zb s54.2.1 ||| zb (zv (1*2^min (Int.toNat s58) zk))).toNat,s54.2.2.1,s54.2.2.2.1,s54.2.2.2.2.1,s54.2.2.2.2.2)))
     else none
    else
    if s55=2 then
     if 0<=s58 then
      some (.done (Sum.inl (s54.1,s54.2.1,zv (zb s54.2.2.1 ||| zb (zv (1*2^min (Int.toNat s58) zk))).toNat,s54.2.2.2.1,s54.2.2.2.2.1,s54.2.2.2.2.2)))
     else none
    else
    if s55=3 then
     if 0<=s58 then
      some (.done (Sum.inl (s54.1,s54.2.1,s54.2.2.1,zv (zb s54.2.2.2.1 ||| zb (zv (1*2^min (Int.toNat s58) zk))).toNat,s54.2.2.2.2.1,s54.2.2.2.2.2)))
     else none
    else
    if s55=4 then
     if 0<=s58 then
      some (.done (Sum.inl (s54.1,s54.2.1,s54.2.2.1,s54.2.2.2.1,zv (zb s54.2.2.2.2.1 ||| zb (zv (1*2^min (Int.toNat s58) zk))).toNat,s54.2.2.2.2.2)))
     else none
    else
    if s55=5 then
     if 0<=s58 then
      some (.done (Sum.inl (s54.1,s54.2.1,s54.2.2.1,s54.2.2.2.1,s54.2.2.2.2.1,zv (zb s54.2.2.2.2.2 ||| zb (zv (1*2^min (Int.toNat s58) zk))).toNat)))
     else none
    else
    none
   else
   some (.next 3)
  else
  none
 else
 some (.done (Sum.inr ()))
def X9 (x1:Ad) (s54:(Int × Int × Int × Int × Int × Int)) (s55:Int) (s58:Int):Option (Qd Int ((Int × Int × Int × Int × Int × Int) ⊕ Unit)) :=
 if (decide (s58 < x1.n))=true then
  (Q1 (Qf.mk (Ad.mk x1.n (x1.near.1,x1.near.2.1,x1.near.2.2.1,x1.near.2.2.2.1,x1.near.2.2.2.2.1,x1.near.2.2.2.2.2)) (s54.1,s54.2.1,s54.2.2.1,s54.2.2.2.1,s54.2.2.2.2.1,s54.2.2.2.2.2)) s55 s58).bind fun x61 =>
  if (!x61)=true then
   some (.next (zw (s58+1)))
  else
  (Qa fuel (Zi x1 s54 s55 s58) 0).bind fun x101=>match x101 with
  | .inl x102=>(
   some (.done (Sum.inl (x102.1,x102.2.1,x102.2.2.1,x102.2.2.2.1,x102.2.2.2.2.1,x102.2.2.2.2.2))))
  | .inr x103=>(
   some (.next (zw (s58+1))))
 else
 some (.done (Sum.inr ()))
def Yb (x1:Ad) (s54:(Int × Int × Int × Int × Int × Int)) (s55:Int):Option (Qd Int ((Int × Int × Int × Int × Int × Int) ⊕ Unit)) :=
 if (decide (s55 < x1.n))=true then
  (Qa fuel (X9 x1 s54 s55) 0).bind fun x104=>match x104 with
  | .inl x105=>(
   some (.done (Sum.inl (x105.1,x105.2.1,x105.2.2.1,x105.2.2.2.1,x105.2.2.2.2.1,x105.2.2.2.2.2))))
  | .inr x106=>(
   some (.next (zw (s55+1))))
 else
 some (.done (Sum.inr ()))
def Y9 (x1:Ad) (s54:(Int × Int × Int × Int × Int × Int)) (s110:(Int × (List (Int × Int)) × (List (Int × Int)))) (s113:(Int × (List (Int × Int)) × (List (Int × Int)))):Option (Qd (Int × (List (Int × Int)) × (List (Int × Int))) ((List (Int × Int)) × (List (Int × Int)))) :=
 if (decide (s113.1 < x1.n))=true then
  (Qm (Qf.mk (Ad.mk x1.n (x1.near.1,x1.near.2.1,x1.near.2.2.1,x1.near.2.2.2.1,x1.near.2.2.2.2.1,x1.near.2.2.2.2.2)) (s54.1,s54.2.1,s54.2.2.1,s54.2.2.2.1,s54.2.2.2.2.1,s54.2.2.2.2.2)) s110.1 s113.1).bind fun x116 =>
  if x116=true then
   if (s113.2.1++([(s110.1,s113.1)]:(List (Int × Int)))).length*16<=140737488355328 then
    if (decide (s110.1 < s113.1))=true then
     (Q1 (Qf.mk (Ad.mk x1.n (x1.near.1,x1.near.2.1,x1.near.2.2.1,x1.near.2.2.2.1,x1.near.2.2.2.2.1,x1.near.2.2.2.2.2)) (s54.1,s54.2.1,s54.2.2.1,s54.2.2.2.1,s54.2.2.2.2.1,s54.2.2.2.2.2)) s110.1 s113.1).bind fun x122 =>
     if x122=true then
      if (s113.2.2++([(s110.1,s113.1)]:(List (Int × Int)))).length*16<=140737488355328 then
       some (.next (zw (s113.1+1),(s113.2.1++([(s110.1,s113.1)]:(List (Int × Int)))),(s113.2.2++([(s110.1,s113.1)]:(List (Int × Int))))))
      else none
     else
     some (.next (zw (s113.1+1),(s113.2.1++([(s110.1,s113.1)]:(List (Int × Int)))),s113.2.2))
    else
    some (.next (zw (s113.1+1),(s113.2.1++([(s110.1,s113.1)]:(List (Int × Int)))),s113.2.2))
   else none
  else
  if (decide (s110.1 < s113.1))=true then
   (Q1 (Qf.mk (Ad.mk x1.n (x1.near.1,x1.near.2.1,x1.near.2.2.1,x1.near.2.2.2.1,x1.near.2.2.2.2.1,x1.near.2.2.2.2.2)) (s54.1,s54.2.1,s54.2.2.1,s54.2.2.2.1,s54.2.2.2.2.1,s54.2.2.2.2.2)) s110.1 s113.1).bind fun x128 =>
   if x128=true then
    if (s113.2.2++([(s110.1,s113.1)]:(List (Int × Int)))).length*16<=140737488355328 then
     some (.next (zw (s113.1+1),s113.2.1,(s113.2.2++([(s110.1,s113.1)]:(List (Int × Int))))))
    else none
   else
   some (.next (zw (s113.1+1),s113.2.1,s113.2.2))
  else
  some (.next (zw (s113.1+1),s113.2.1,s113.2.2))
 else
 some (.done (s113.2.1,s113.2.2))
def Vb (x1:Ad) (s54:(Int × Int × Int × Int × Int × Int)) (s110:(Int × (List (Int × Int)) × (List (Int × Int)))):Option (Qd (Int × (List (Int × Int)) × (List (Int × Int))) ((List (Int × Int)) × (List (Int × Int)))) :=
 if (decide (s110.1 < x1.n))=true then
  (Qa fuel (Y9 x1 s54 s110) (0,s110.2.1,s110.2.2)).bind fun x133 =>
  some (.next (zw (s110.1+1),x133.1,x133.2))
 else
 some (.done (s110.2.1,s110.2.2))
def Xg (x1:Ad) (s54:(Int × Int × Int × Int × Int × Int)):Option (Qd (Int × Int × Int × Int × Int × Int) ((List (Int × Int)) × (List (Int × Int)))) :=
 (Qa fuel (Yb x1 s54) 0).bind fun x107=>match x107 with
 | .inl x108=>(
  some (.next (x108.1,x108.2.1,x108.2.2.1,x108.2.2.2.1,x108.2.2.2.2.1,x108.2.2.2.2.2)))
 | .inr x109=>(
  (Qa fuel (Vb x1 s54) (0,([]:(List (Int × Int))),([]:(List (Int × Int))))).bind fun x135 =>
  some (.done (x135.1,x135.2)))
def Q3 (p0:(List Int)):Option Aa :=
 (Zy p0).bind fun x1 =>
 (Zv p0).bind fun x3 =>
 (Qa fuel (Yc x3) (0,0,0,0,0,0,0)).bind fun x53 =>
 (Qa fuel (Xg x1) (x53.1,x53.2.1,x53.2.2.1,x53.2.2.2.1,x53.2.2.2.2.1,x53.2.2.2.2.2)).bind fun x137 =>
 some (Aa.mk x1.n x137.1 x137.2)
def Jm (p0:Int) (s1:(Int × Int × Int × Int × Int × Int × Int)):Option (Qd (Int × Int × Int × Int × Int × Int × Int) (Int × Int × Int × Int × Int × Int)) :=
 if (decide (s1.1 < p0))=true then
  if 0<=p0 then
   if 0<=s1.1 then
    if s1.1=0 then
     some (.next (1,zv (zb (zv ((zv (1*2^min (Int.toNat p0) zk)) - 1)) &&& ~~~ zb (zv (1*2^min (Int.toNat s1.1) zk))).toNat,s1.2.2.1,s1.2.2.2.1,s1.2.2.2.2.1,s1.2.2.2.2.2.1,s1.2.2.2.2.2.2))
    else
    if s1.1=1 then
     some (.next (2,s1.2.1,zv (zb (zv ((zv (1*2^min (Int.toNat p0) zk)) - 1)) &&& ~~~ zb (zv (1*2^min (Int.toNat s1.1) zk))).toNat,s1.2.2.2.1,s1.2.2.2.2.1,s1.2.2.2.2.2.1,s1.2.2.2.2.2.2))
    else
    if s1.1=2 then
     some (.next (3,s1.2.1,s1.2.2.1,zv (zb (zv ((zv (1*2^min (Int.toNat p0) zk)) - 1)) &&& ~~~ zb (zv (1*2^min (Int.toNat s1.1) zk))).toNat,s1.2.2.2.2.1,s1.2.2.2.2.2.1,s1.2.2.2.2.2.2))
    else
    if s1.1=3 then
     some (.next (4,s1.2.1,s1.2.2.1,s1.2.2.2.1,zv (zb (zv ((zv (1*2^min (Int.toNat p0) zk)) - 1)) &&& ~~~ zb (zv (1*2^min (Int.toNat s1.1) zk))).toNat,s1.2.2.2.2.2.1,s1.2.2.2.2.2.2))
    else
    if s1.1=4 then
     some (.next (5,s1.2.1,s1.2.2.1,s1.2.2.2.1,s1.2.2.2.2.1,zv (zb (zv ((zv (1*2^min (Int.toNat p0) zk)) - 1)) &&& ~~~ zb (zv (1*2^min (Int.toNat s1.1) zk))).toNat,s1.2.2.2.2.2.2))
    else
    if s1.1=5 then
     some (.next (6,s1.2.1,s1.2.2.1,s1.2.2.2.1,s1.2.2.2.2.1,s1.2.2.2.2.2.1,zv (zb (zv ((zv (1*2^min (Int.toNat p0) zk)) - 1)) &&& ~~~ zb (zv (1*2^min (Int.toNat s1.1) zk))).toNat))
    else
    none
   else none
  else none
 else
 some (.done (s1.2.1,s1.2.2.1,s1.2.2.2.1,s1.2.2.2.2.1,s1.2.2.2.2.2.1,s1.2.2.2.2.2.2))
def Va (p1:(List Ac)) (s12:(Int × Int × Int × Int × Int × Int × Int × (List ((Int × Int) × Int)))):Option (Qd (Int × Int × Int × Int × Int × Int × Int × (List ((Int × Int) × Int))) (Int × Int × Int × Int × Int × Int × (List ((Int × Int) × Int)))) :=
 if (decide (s12.1 < (p1.length:Int)))=true then
  (lkI p1 s12.1).bind fun a15 =>
  if a15.X=0 then
   if 0<=a15.Y then
    if a15.Y=0 then
     some (.next (zw (s12.1+1),zv (zb (zv (zb s12.2.1 &&& ~~~ zb (zv (1*2^min (Int.toNat a15.Y) zk))).toNat) &&& ~~~ zb (zv (1*2^min (Int.toNat 0) zk))).toNat,s12.2.2.1,s12.2.2.2.1,s12.2.2.2.2.1,s12.2.2.2.2.2.1,s12.2.2.2.2.2.2.1,kput zq s12.2.2.2.2.2.2.2 (0,0) a15.Z))
    else
    if a15.Y=1 then
     some (.next (zw (s12.1+1),zv (zb s12.2.1 &&& ~~~ zb (zv (1*2^min (Int.toNat a15.Y) zk))).toNat,zv (zb s12.2.2.1 &&& ~~~ zb (zv (1*2^min (Int.toNat 0) zk))).toNat,s12.2.2.2.1,s12.2.2.2.2.1,s12.2.2.2.2.2.1,s12.2.2.2.2.2.2.1,kput zq s12.2.2.2.2.2.2.2 (0,1) a15.Z))
    else
    if a15.Y=2 then
     some (.next (zw (s12.1+1),zv (zb s12.2.1 &&& ~~~ zb (zv (1*2^min (Int.toNat a15.Y) zk))).toNat,s12.2.2.1,zv (zb s12.2.2.2.1 &&& ~~~ zb (zv (1*2^min (Int.toNat 0) zk))).toNat,s12.2.2.2.2.1,s12.2.2.2.2.2.1,s12.2.2.2.2.2.2.1,kput zq s12.2.2.2.2.2.2.2 (0,2) a15.Z))
    else
    if a15.Y=3 then
     some (.next (zw (s12.1+1),zv (zb s12.2.1 &&& ~~~ zb (zv (1*2^min (Int.toNat a15.Y) zk))).toNat,s12.2.2.1,s12.2.2.2.1,zv (zb s12.2.2.2.2.1 &&& ~~~ zb (zv (1*2^min (Int.toNat 0) zk))).toNat,s12.2.2.2.2.2.1,s12.2.2.2.2.2.2.1,kput zq s12.2.2.2.2.2.2.2 (0,3) a15.Z))
    else
    if a15.Y=4 then
     some (.next (zw (s12.1+1),zv (zb s12.2.1 &&& ~~~ zb (zv (1*2^min (Int.toNat a15.Y) zk))).toNat,s12.2.2.1,s12.2.2.2.1,s12.2.2.2.2.1,zv (zb s12.2.2.2.2.2.1 &&& ~~~ zb (zv (1*2^min (Int.toNat 0) zk))).toNat,s12.2.2.2.2.2.2.1,kput zq s12.2.2.2.2.2.2.2 (0,4) a15.Z))
    else
    if a15.Y=5 then
     some (.next (zw (s12.1+1),zv (zb s12.2.1 &&& ~~~ zb (zv (1*2^min (Int.toNat a15.Y) zk))).toNat,s12.2.2.1,s12.2.2.2.1,s12.2.2.2.2.1,s12.2.2.2.2.2.1,zv (zb s12.2.2.2.2.2.2.1 &&& ~~~ zb (zv (1*2^min (Int.toNat 0) zk))).toNat,kput zq s12.2.2.2.2.2.2.2 (0,5) a15.Z))
    else
    none
   else none
  else
  if a15.X=1 then
   if 0<=a15.Y then
    if a15.Y=0 then
     some (.next (zw (s12.1+1),zv (zb s12.2.1 &&& ~~~ zb (zv (1*2^min (Int.toNat 1) zk))).toNat,zv (zb s12.2.2.1 &&& ~~~ zb (zv (1*2^min (Int.toNat a15.Y) zk))).toNat,s12.2.2.2.1,s12.2.2.2.2.1,s12.2.2.2.2.2.1,s12.2.2.2.2.2.2.1,kput zq s12.2.2.2.2.2.2.2 (1,0) a15.Z))
    else
    if a15.Y=1 then
     some (.next (zw (s12.1+1),s12.2.1,zv (zb (zv (zb s12.2.2.1 &&& ~~~ zb (zv (1*2^min (Int.toNat a15.Y) zk))).toNat) &&& ~~~ zb (zv (1*2^min (Int.toNat 1) zk))).toNat,s12.2.2.2.1,s12.2.2.2.2.1,s12.2.2.2.2.2.1,s12.2.2.2.2.2.2.1,kput zq s12.2.2.2.2.2.2.2 (1,1) a15.Z))
    else
    if a15.Y=2 then
     some (.next (zw (s12.1+1),s12.2.1,zv (zb s12.2.2.1 &&& ~~~ zb (zv (1*2^min (Int.toNat a15.Y) zk))).toNat,zv (zb s12.2.2.2.1 &&& ~~~ zb (zv (1*2^min (Int.toNat 1) zk))).toNat,s12.2.2.2.2.1,s12.2.2.2.2.2.1,s12.2.2.2.2.2.2.1,kput zq s12.2.2.2.2.2.2.2 (1,2) a15.Z))
    else
    if a15.Y=3 then
     some (.next (zw (s12.1+1),s12.2.1,zv (zb s12.2.2.1 &&& ~~~ zb (zv (1*2^min (Int.toNat a15.Y) zk))).toNat,s12.2.2.2.1,zv (zb s12.2.2.2.2.1 &&& ~~~ zb (zv (1*2^min (Int.toNat 1) zk))).toNat,s12.2.2.2.2.2.1,s12.2.2.2.2.2.2.1,kput zq s12.2.2.2.2.2.2.2 (1,3) a15.Z))
    else
    if a15.Y=4 then
     some (.next (zw (s12.1+1),s12.2.1,zv (zb s12.2.2.1 &&& ~~~ zb (zv (1*2^min (Int.toNat a15.Y) zk))).toNat,s12.2.2.2.1,s12.2.2.2.2.1,zv (zb s12.2.2.2.2.2.1 &&& ~~~ zb (zv (1*2^min (Int.toNat 1) zk))).toNat,s12.2.2.2.2.2.2.1,kput zq s12.2.2.2.2.2.2.2 (1,4) a15.Z))
    else
    if a15.Y=5 then
     some (.next (zw (s12.1+1),s12.2.1,zv (zb s12.2.2.1 &&& ~~~ zb (zv (1*2^min (Int.toNat a15.Y) zk))).toNat,s12.2.2.2.1,s12.2.2.2.2.1,s12.2.2.2.2.2.1,zv (zb s12.2.2.2.2.2.2.1 &&& ~~~ zb (zv (1*2^min (Int.toNat 1) zk))).toNat,kput zq s12.2.2.2.2.2.2.2 (1,5) a15.Z))
    else
    none
   else none
  else
  if a15.X=2 then
   if 0<=a15.Y then
    if a15.Y=0 then
     some (.next (zw (s12.1+1),zv (zb s12.2.1 &&& ~~~ zb (zv (1*2^min (Int.toNat 2) zk))).toNat,s12.2.2.1,zv (zb s12.2.2.2.1 &&& ~~~ zb (zv (1*2^min (Int.toNat a15.Y) zk))).toNat,s12.2.2.2.2.1,s12.2.2.2.2.2.1,s12.2.2.2.2.2.2.1,kput zq s12.2.2.2.2.2.2.2 (2,0) a15.Z))
    else
    if a15.Y=1 then
     some (.next (zw (s12.1+1),s12.2.1,zv (zb s12.2.2.1 &&& ~~~ zb (zv (1*2^min (Int.toNat 2) zk))).toNat,zv (zb s12.2.2.2.1 &&& ~~~ zb (zv (1*2^min (Int.toNat a15.Y) zk))).toNat,s12.2.2.2.2.1,s12.2.2.2.2.2.1,s12.2.2.2.2.2.2.1,kput zq s12.2.2.2.2.2.2.2 (2,1) a15.Z))
    else
    if a15.Y=2 then
     some (.next (zw (s12.1+1),s12.2.1,s12.2.2.1,zv (zb (zv (zb s12.2.2.2.1 &&& ~~~ zb (zv (1*2^min (Int.toNat a15.Y) zk))).toNat) &&& ~~~ zb (zv (1*2^min (Int.toNat 2) zk))).toNat,s12.2.2.2.2.1,s12.2.2.2.2.2.1,s12.2.2.2.2.2.2.1,kput zq s12.2.2.2.2.2.2.2 (2,2) a15.Z))
    else
    if a15.Y=3 then
     some (.next (zw (s12.1+1),s12.2.1,s12.2.2.1,zv (zb s12.2.2.2.1 &&& ~~~ zb (zv (1*2^min (Int.toNat a15.Y) zk))).toNat,zv (zb s12.2.2.2.2.1 &&& ~~~ zb (zv (1*2^min (Int.toNat 2) zk))).toNat,s12.2.2.2.2.2.1,s12.2.2.2.2.2.2.1,kput zq s12.2.2.2.2.2.2.2 (2,3) a15.Z))
    else
    if a15.Y=4 then
     some (.next (zw (s12.1+1),s12.2.1,s12.2.2.1,zv (zb s12.2.2.2.1 &&& ~~~ zb (zv (1*2^min (Int.toNat a15.Y) zk))).toNat,s12.2.2.2.2.1,zv (zb s12.2.2.2.2.2.1 &&& ~~~ zb (zv (1*2^min (Int.toNat 2) zk))).toNat,s12.2.2.2.2.2.2.1,kput zq s12.2.2.2.2.2.2.2 (2,4) a15.Z))
    else
    if a15.Y=5 then
     some (.next (zw (s12.1+1),s12.2.1,s12.2.2.1,zv (zb s12.2.2.2.1 &&& ~~~ zb (zv (1*2^min (Int.toNat a15.Y) zk))).toNat,s12.2.2.2.2.1,s12.2.2.2.2.2.1,zv (zb s12.2.2.2.2.2.2.1 &&& ~~~ zb (zv (1*2^min (Int.toNat 2) zk))).toNat,kput zq s12.2.2.2.2.2.2.2 (2,5) a15.Z))
    else
    none
   else none
  else
  if a15.X=3 then
   if 0<=a15.Y then
    if a15.Y=0 then
     some (.next (zw (s12.1+1),zv (zb s12.2.1 &&& ~~~ zb (zv (1*2^min (Int.toNat 3) zk))).toNat,s12.2.2.1,s12.2.2.2.1,zv (zb s12.2.2.2.2.1 &&& ~~~ zb (zv (1*2^min (Int.toNat a15.Y) zk))).toNat,s12.2.2.2.2.2.1,s12.2.2.2.2.2.2.1,kput zq s12.2.2.2.2.2.2.2 (3,0) a15.Z))
    else
    if a15.Y=1 then
     some (.next (zw (s12.1+1),s12.2.1,zv (zb s12.2.2.1 &&& ~~~ zb (zv (1*2^min (Int.toNat 3) zk))).toNat,s12.2.2.2.1,zv (zb s12.2.2.2.2.1 &&& ~~~ zb (zv (1*2^min (Int.toNat a15.Y) zk))).toNat,s12.2.2.2.2.2.1,s12.2.2.2.2.2.2.1,kput zq s12.2.2.2.2.2.2.2 (3,1) a15.Z))
    else
    if a15.Y=2 then
     some (.next (zw (s12.1+1),s12.2.1,s12.2.2.1,zv (zb s12.2.2.2.1 &&& ~~~ zb (zv (1*2^min (Int.toNat 3) zk))).toNat,zv (zb s12.2.2.2.2.1 &&& ~~~ zb (zv (1*2^min (Int.toNat a15.Y) zk))).toNat,s12.2.2.2.2.2.1,s12.2.2.2.2.2.2.1,kput zq s12.2.2.2.2.2.2.2 (3,2) a15.Z))
    else
    if a15.Y=3 then
     some (.next (zw (s12.1+1),s12.2.1,s12.2.2.1,s12.2.2.2.1,zv (zb (zv (zb s12.2.2.2.2.1 &&& ~~~ zb (zv (1*2^min (Int.toNat a15.Y) zk))).toNat) &&& ~~~ zb (zv (1*2^min (Int.toNat 3) zk))).toNat,s12.2.2.2.2.2.1,s12.2.2.2.2.2.2.1,kput zq s12.2.2.2.2.2.2.2 (3,3) a15.Z))
    else
    if a15.Y=4 then
     some (.next (zw (s12.1+1),s12.2.1,s12.2.2.1,s12.2.2.2.1,zv (zb s12.2.2.2.2.1 &&& ~~~ zb (zv (1*2^min (Int.toNat a15.Y) zk))).toNat,zv (zb s12.2.2.2.2.2.1 &&& ~~~ zb (zv (1*2^min (Int.toNat 3) zk))).toNat,s12.2.2.2.2.2.2.1,kput zq s12.2.2.2.2.2.2.2 (3,4) a15.Z))
    else
    if a15.Y=5 then
     some (.next (zw (s12.1+1),s12.2.1,s12.2.2.1,s12.2.2.2.1,zv (zb s12.2.2.2.2.1 &&& ~~~ zb (zv (1*2^min (Int.toNat a15.Y) zk))).toNat,s12.2.2.2.2.2.1,zv (zb s12.2.2.2.2.2.2.1 &&& ~~~ zb (zv (1*2^min (Int.toNat 3) zk))).toNat,kput zq s12.2.2.2.2.2.2.2 (3,5) a15.Z))
    else
    none
   else none
  else
  if a15.X=4 then
   if 0<=a15.Y then
    if a15.Y=0 then
     some (.next (zw (s12.1+1),zv (zb s12.2.1 &&& ~~~ zb (zv (1*2^min (Int.toNat 4) zk))).toNat,s12.2.2.1,s12.2.2.2.1,s12.2.2.2.2.1,zv (zb s12.2.2.2.2.2.1 &&& ~~~ zb (zv (1*2^min (Int.toNat a15.Y) zk))).toNat,s12.2.2.2.2.2.2.1,kput zq s12.2.2.2.2.2.2.2 (4,0) a15.Z))
    else
    if a15.Y=1 then
     some (.next (zw (s12.1+1),s12.2.1,zv (zb s12.2.2.1 &&& ~~~ zb (zv (1*2^min (Int.toNat 4) zk))).toNat,s12.2.2.2.1,s12.2.2.2.2.1,zv (zb s12.2.2.2.2.2.1 &&& ~~~ zb (zv (1*2^min (Int.toNat a15.Y) zk))).toNat,s12.2.2.2.2.2.2.1,kput zq s12.2.2.2.2.2.2.2 (4,1) a15.Z))
    else
    if a15.Y=2 then
     some (.next (zw (s12.1+1),s12.2.1,s12.2.2.1,zv (zb s12.2.2.2.1 &&& ~~~ zb (zv (1*2^min (Int.toNat 4) zk))).toNat,s12.2.2.2.2.1,zv (zb s12.2.2.2.2.2.1 &&& ~~~ zb (zv (1*2^min (Int.toNat a15.Y) zk))).toNat,s12.2.2.2.2.2.2.1,kput zq s12.2.2.2.2.2.2.2 (4,2) a15.Z))
    else
    if a15.Y=3 then
     some (.next (zw (s12.1+1),s12.2.1,s12.2.2.1,s12.2.2.2.1,zv (zb s12.2.2.2.2.1 &&& ~~~ zb (zv (1*2^min (Int.toNat 4) zk))).toNat,zv (zb s12.2.2.2.2.2.1 &&& ~~~ zb (zv (1*2^min (Int.toNat a15.Y) zk))).toNat,s12.2.2.2.2.2.2.1,kput zq s12.2.2.2.2.2.2.2 (4,3) a15.Z))
    else
    if a15.Y=4 then
     some (.next (zw (s12.1+1),s12.2.1,s12.2.2.1,s12.2.2.2.1,s12.2.2.2.2.1,zv (zb (zv (zb s12.2.2.2.2.2.1 &&& ~~~ zb (zv (1*2^min (Int.toNat a15.Y) zk))).toNat) &&& ~~~ zb (zv (1*2^min (Int.toNat 4) zk))).toNat,s12.2.2.2.2.2.2.1,kput zq s12.2.2.2.2.2.2.2 (4,4) a15.Z))
    else
    if a15.Y=5 then
     some (.next (zw (s12.1+1),s12.2.1,s12.2.2.1,s12.2.2.2.1,s12.2.2.2.2.1,zv (zb s12.2.2.2.2.2.1 &&& ~~~ zb (zv (1*2^min (Int.toNat a15.Y) zk))).toNat,zv (zb s12.2.2.2.2.2.2.1 &&& ~~~ zb (zv (1*2^min (Int.toNat 4) zk))).toNat,kput zq s12.2.2.2.2.2.2.2 (4,5) a15.Z))
    else
    none
   else none
  else
  if a15.X=5 then
   if 0<=a15.Y then
    if a15.Y=0 then
     some (.next (zw (s12.1+1),zv (zb s12.2.1 &&& ~~~ zb (zv (1*2^min (Int.toNat 5) zk))).toNat,s12.2.2.1,s12.2.2.2.1,s12.2.2.2.2.1,s12.2.2.2.2.2.1,zv (zb s12.2.2.2.2.2.2.1 &&& ~~~ zb (zv (1*2^min (Int.toNat a15.Y) zk))).toNat,kput zq s12.2.2.2.2.2.2.2 (5,0) a15.Z))
    else
    if a15.Y=1 then
     some (.next (zw (s12.1+1),s12.2.1,zv (zb s12.2.2.1 &&& ~~~ zb (zv (1*2^min (Int.toNat 5) zk))).toNat,s12.2.2.2.1,s12.2.2.2.2.1,s12.2.2.2.2.2.1,zv (zb s12.2.2.2.2.2.2.1 &&& ~~~ zb (zv (1*2^min (Int.toNat a15.Y) zk))).toNat,kput zq s12.2.2.2.2.2.2.2 (5,1) a15.Z))
    else
    if a15.Y=2 then
     some (.next (zw (s12.1+1),s12.2.1,s12.2.2.1,zv (zb s12.2.2.2.1 &&& ~~~ zb (zv (1*2^min (Int.toNat 5) zk))).toNat,s12.2.2.2.2.1,s12.2.2.2.2.2.1,zv (zb s12.2.2.2.2.2.2.1 &&& ~~~ zb (zv (1*2^min (Int.toNat a15.Y) zk))).toNat,kput zq s12.2.2.2.2.2.2.2 (5,2) a15.Z))
    else
    if a15.Y=3 then
     some (.next (zw (s12.1+1),s12.2.1,s12.2.2.1,s12.2.2.2.1,zv (zb s12.2.2.2.2.1 &&& ~~~ zb (zv (1*2^min (Int.toNat 5) zk))).toNat,s12.2.2.2.2.2.1,zv (zb s12.2.2.2.2.2.2.1 &&& ~~~ zb (zv (1*2^min (Int.toNat a15.Y) zk))).toNat,kput zq s12.2.2.2.2.2.2.2 (5,3) a15.Z))
    else
    if a15.Y=4 then
     some (.next (zw (s12.1+1),s12.2.1,s12.2.2.1,s12.2.2.2.1,s12.2.2.2.2.1,zv (zb s12.2.2.2.2.2.1 &&& ~~~ zb (zv (1*2^min (Int.toNat 5) zk))).toNat,zv (zb s12.2.2.2.2.2.2.1 &&& ~~~ zb (zv (1*2^min (Int.toNat a15.Y) zk))).toNat,kput zq s12.2.2.2.2.2.2.2 (5,4) a15.Z))
    else
    if a15.Y=5 then
     some (.next (zw (s12.1+1),s12.2.1,s12.2.2.1,s12.2.2.2.1,s12.2.2.2.2.1,s12.2.2.2.2.2.1,zv (zb (zv (zb s12.2.2.2.2.2.2.1 &&& ~~~ zb (zv (1*2^min (Int.toNat a15.Y) zk))).toNat) &&& ~~~ zb (zv (1*2^min (Int.toNat 5) zk))).toNat,kput zq s12.2.2.2.2.2.2.2 (5,5) a15.Z))
    else
    none
   else none
  else
  none
 else
 some (.done (s12.2.1,s12.2.2.1,s12.2.2.2.1,s12.2.2.2.2.1,s12.2.2.2.2.2.1,s12.2.2.2.2.2.2.1,s12.2.2.2.2.2.2.2))
def Ky (p0:Int) (x60:(Int × Int × Int × Int × Int × Int × (List ((Int × Int) × Int)))) (s61:(Int × (List (Int × Int × Int)))) (s64:(Int × (List (Int × Int × Int)))) (s67:(Int × (List (Int × Int × Int)))):Option (Qd (Int × (List (Int × Int × Int))) (List (Int × Int × Int))) :=
 if (decide (s67.1 < p0))=true then
  if (Q6 zq x60.2.2.2.2.2.2 (s61.1,s67.1)).isSome=true then
   (Qi (Ad.mk p0 (x60.1,x60.2.1,x60.2.2.1,x60.2.2.2.1,x60.2.2.2.2.1,x60.2.2.2.2.2.1)) s61.1 s64.1).bind fun x72 =>
   if x72=true then
    (Qi (Ad.mk p0 (x60.1,x60.2.1,x60.2.2.1,x60.2.2.2.1,x60.2.2.2.2.1,x60.2.2.2.2.2.1)) s64.1 s67.1).bind fun x76 =>
    if x76=true then
     if 0<=s64.1 then
      if ((zv (zb (Int.fdiv ((Q6 zq x60.2.2.2.2.2.2 (s61.1,s67.1)).getD 0) (2^min (Int.toNat s64.1) zk)) &&& zb 1).toNat)==0)=true then
       if (s67.2++([(s61.1,s64.1,s67.1)]:(List (Int × Int × Int)))).length*24<=140737488355328 then
        some (.next (zw (s67.1+1),(s67.2++([(s61.1,s64.1,s67.1)]:(List (Int × Int × Int))))))
       else none
      else
      some (.next (zw (s67.1+1),s67.2))
     else none
    else
    some (.next (zw (s67.1+1),s67.2))
   else
   some (.next (zw (s67.1+1),s67.2))
  else
  some (.next (zw (s67.1+1),s67.2))
 else
 some (.done s67.2)
def Kv (p0:Int) (x60:(Int × Int × Int × Int × Int × Int × (List ((Int × Int) × Int)))) (s61:(Int × (List (Int × Int × Int)))) (s64:(Int × (List (Int × Int × Int)))):Option (Qd (Int × (List (Int × Int × Int))) (List (Int × Int × Int))) :=
 if (decide (s64.1 < p0))=true then
  (Qa fuel (Ky p0 x60 s61 s64) (zw (s61.1+1),s64.2)).bind fun x83 =>
  some (.next (zw (s64.1+1),x83))
 else
 some (.done s64.2)
def Qbg (p0:Int) (x60:(Int × Int × Int × Int × Int × Int × (List ((Int × Int) × Int)))) (s61:(Int × (List (Int × Int × Int)))):Option (Qd (Int × (List (Int × Int × Int))) (List (Int × Int × Int))) :=
 if (decide (s61.1 < p0))=true then
  (Qa fuel (Kv p0 x60 s61) (0,s61.2)).bind fun x85 =>
  some (.next (zw (s61.1+1),x85))
 else
 some (.done s61.2)
def Qek (p0:Int) (p1:(List Ac)):Option (Ad × (List (Int × Int × Int))) :=
 (Qa fuel (Jm p0) (0,0,0,0,0,0,0)).bind fun x11 =>
 (Qa fuel (Va p1) (0,x11.1,x11.2.1,x11.2.2.1,x11.2.2.2.1,x11.2.2.2.2.1,x11.2.2.2.2.2,[])).bind fun x60 =>
 (Qa fuel (Qbg p0 x60) (0,([]:(List (Int × Int × Int))))).bind fun x87 =>
 some ((Ad.mk p0 (x60.1,x60.2.1,x60.2.2.1,x60.2.2.2.1,x60.2.2.2.2.1,x60.2.2.2.2.2.1)),x87)
def K8 (p0:(List (Int × Int × Int))) (p1:(List (Int × Int × Int))) (s3:Int):Option (Qd Int (Unit ⊕ Unit)) :=
 if (decide (s3 < (p0.length:Int)))=true then
  (lkI p0 s3).bind fun a6 =>
  (lkI p1 s3).bind fun a8 =>
  if (!((a6.1==a8.1) && ((a6.2.1==a8.2.1) && ((a6.2.2==a8.2.2) && true))))=true then
   some (.done (Sum.inl ()))
  else
  some (.next (zw (s3+1)))
 else
 some (.done (Sum.inr ()))
def Zx (p0:(List (Int × Int × Int))) (p1:(List (Int × Int × Int))):Option Bool :=
 if ((p0.length:Int) != (p1.length:Int))=true then
  some false
 else
 (Qa fuel (K8 p0 p1) 0).bind fun x12=>match x12 with
 | .inl x13=>(
  some false)
 | .inr x14=>(
  some true)
def Xw (p0:Ad) (s1:(Int × (List (Int × Int)))) (s4:(Int × (List (Int × Int)))):Option (Qd (Int × (List (Int × Int))) (List (Int × Int))) :=
 if (decide (s4.1 < p0.n))=true then
  (Qi (Ad.mk p0.n (p0.near.1,p0.near.2.1,p0.near.2.2.1,p0.near.2.2.2.1,p0.near.2.2.2.2.1,p0.near.2.2.2.2.2)) s1.1 s4.1).bind fun x7 =>
  if x7=true then
   if (s4.2++([(s1.1,s4.1)]:(List (Int × Int)))).length*16<=140737488355328 then
    some (.next (zw (s4.1+1),(s4.2++([(s1.1,s4.1)]:(List (Int × Int))))))
   else none
  else
  some (.next (zw (s4.1+1),s4.2))
 else
 some (.done s4.2)
def Y2 (p0:Ad) (s1:(Int × (List (Int × Int)))):Option (Qd (Int × (List (Int × Int))) (List (Int × Int))) :=
 if (decide (s1.1 < p0.n))=true then
  (Qa fuel (Xw p0 s1) (zw (s1.1+1),s1.2)).bind fun x12 =>
  some (.next (zw (s1.1+1),x12))
 else
 some (.done s1.2)
def Z0 (p0:Ad):Option (List (Int × Int)) :=
 (Qa fuel (Y2 p0) (0,([]:(List (Int × Int))))).bind fun x14 =>
 some x14
def Xe (p1:(List Ac)) (p0:Int) (s5:(Int × (List (Ac × Bool)))):Option (Qd (Int × (List (Ac × Bool))) (Unit ⊕ (List (Ac × Bool)))) :=
 if (decide (s5.1 < (p1.length:Int)))=true then
  (lkI p1 s5.1).bind fun a8 =>
  if (decide (a8.X < 0))=true then
   some (.done (Sum.inl ()))
  else
  if (decide (a8.X>=a8.Y))=true then
   some (.done (Sum.inl ()))
  else
  if (decide (a8.Y>=p0))=true then
   some (.done (Sum.inl ()))
  else
  if 0<=p0 then
   if ((Int.fdiv a8.Z (2^min (Int.toNat p0) zk)) != 0)=true then
    some (.done (Sum.inl ()))
   else
   if 0<=a8.X then
    if 0<=a8.Y then
     if ((zv (zb (zv (zb (Int.fdiv a8.Z (2^min (Int.toNat a8.X) zk)) ||| zb (Int.fdiv a8.Z (2^min (Int.toNat a8.Y) zk))).toNat) &&& zb 1).toNat)==1)=true then
      some (.done (Sum.inl ()))
     else
     if (Q6 Ah s5.2 a8).getD false=true then
      some (.done (Sum.inl ()))
     else
     some (.next (zw (s5.1+1),kput Ah s5.2 a8 true))
    else none
   else none
  else none
 else
 some (.done (Sum.inr s5.2))
def Qc6 (x27:(List (Int × Int))) (s29:Int) (s32:(Int × (List Int))):Option (Qd (Int × (List Int)) (List Int)) :=
 if (decide (s32.1 < (x27.length:Int)))=true then
  (lkI x27 s32.1).bind fun a35 =>
  if 0<=s32.1 then
   if ((zw (BitVec.ofInt (IntKind.bits .i64) (Int.fdiv s29 (2^min (Int.toNat s32.1) (IntKind.bits .i64))) &&& BitVec.ofInt (IntKind.bits .i64) 1).toNat)==1)=true then
    (lkI s32.2 a35.1).bind fun a39 =>
    if 0<=a35.2 then
     some (.next (zw (s32.1+1),(List.set s32.2 (Int.toNat a35.1) (zv (zb a39 ||| zb (zv (1*2^min (Int.toNat a35.2) zk))).toNat))))
    else none
   else
   (lkI s32.2 a35.2).bind fun a42 =>
   if 0<=a35.1 then
    some (.next (zw (s32.1+1),(List.set s32.2 (Int.toNat a35.2) (zv (zb a42 ||| zb (zv (1*2^min (Int.toNat a35.1) zk))).toNat))))
   else none
  else none
 else
 some (.done s32.2)
def X7 (x57:((List Ac) × Int)) (x24:(List (Ac × Bool))) (s63:Int):Option (Qd Int (Unit ⊕ Unit)) :=
 if (decide (s63 < (x57.1.length:Int)))=true then
  (lkI x57.1 s63).bind fun a66 =>
  if (!((Q6 Ah x24 a66).getD false))=true then
   some (.done (Sum.inl ()))
  else
  some (.next (zw (s63+1)))
 else
 some (.done (Sum.inr ()))
def Kg (x27:(List (Int × Int))) (x25:(Ad × (List (Int × Int × Int)))) (p1:(List Ac)) (x24:(List (Ac × Bool))) (s29:Int):Option (Qd Int (Int ⊕ (Unit ⊕ ((Int × (List (Int × Int)) × (List (Int × Int))) ⊕ Unit)))) :=
 if (decide (s29 < (zw (1*2^min (Int.toNat (x27.length:Int)) (IntKind.bits .i64)))))=true then
  if 0<=x25.1.n/\x25.1.n<=x25.1.n/\x25.1.n*8<=140737488355328 then
   (Qa fuel (Qc6 x27 s29) (0,(List.replicate (Int.toNat x25.1.n) (0:Int)))).bind fun x46 =>
   (Jl x46).bind fun x47 =>
   if x47=true then
    (Zv x46).bind fun x51 =>
    (Zx x51 x25.2).bind fun x53 =>
    if x53=true then
     (Kw x46).bind fun x57 =>
     if (x57.2 != 0)=true then
      some (.done (Sum.inl x57.2))
     else
     if ((x57.1.length:Int) != (p1.length:Int))=true then
      some (.done (Sum.inr (Sum.inl ())))
     else
     (Qa fuel (X7 x57 x24) 0).bind fun x70=>match x70 with
     | .inl x71=>(
      some (.done (Sum.inl 4)))
     | .inr x72=>(
      (Q3 x46).bind fun x73 =>
      some (.done (Sum.inr (Sum.inr (Sum.inl (x73.N,x73.Arrows,x73.Lines))))))
    else
    some (.next (zw (s29+1)))
   else
   some (.next (zw (s29+1)))
  else none
 else
 some (.done (Sum.inr (Sum.inr (Sum.inr ()))))
def Q9 (p0:Int) (p1:(List Ac)):Option (Aa × Int) :=
 if (decide (p0 < 1))=true then
  some ((Aa.mk 0 ([]:(List (Int × Int))) ([]:(List (Int × Int)))),2)
 else
 if (decide (p0 > 5))=true then
  some ((Aa.mk 0 ([]:(List (Int × Int))) ([]:(List (Int × Int)))),2)
 else
 (Qa fuel (Xe p1 p0) (0,[])).bind fun x22=>match x22 with
 | .inl x23=>(
  some ((Aa.mk 0 ([]:(List (Int × Int))) ([]:(List (Int × Int)))),311))
 | .inr x24=>(
  (Qek p0 p1).bind fun x25 =>
  (Z0 (Ad.mk x25.1.n (x25.1.near.1,x25.1.near.2.1,x25.1.near.2.2.1,x25.1.near.2.2.2.1,x25.1.near.2.2.2.2.1,x25.1.near.2.2.2.2.2))).bind fun x27 =>
  if 0<=(x27.length:Int) then
   (Qa fuel (Kg x27 x25 p1 x24) 0).bind fun x75=>match x75 with
   | .inl x76=>(
    some ((Aa.mk 0 ([]:(List (Int × Int))) ([]:(List (Int × Int)))),x76))
   | .inr (.inl x77)=>(
    some ((Aa.mk 0 ([]:(List (Int × Int))) ([]:(List (Int × Int)))),4))
   | .inr (.inr (.inl x78))=>(
    some ((Aa.mk x78.1 x78.2.1 x78.2.2),0))
   | .inr (.inr (.inr x79))=>(
    some ((Aa.mk 0 ([]:(List (Int × Int))) ([]:(List (Int × Int)))),4))
  else none)
def Qf1 (p0:(List Int)) (p1:(List Int)):Option (Bool × Int) :=
 (Xl p0).bind fun x1 =>
 if (x1 != 0)=true then
  some (false,x1)
 else
 (Xl p1).bind fun x5 =>
 if (x5 != 0)=true then
  some (false,x5)
 else
 (Zy p0).bind fun x9 =>
 (Zy p1).bind fun x11 =>
 if ((x9.n==x11.n) && ((x9.near.1==x11.near.1) && ((x9.near.2.1==x11.near.2.1) && ((x9.near.2.2.1==x11.near.2.2.1) && ((x9.near.2.2.2.1==x11.near.2.2.2.1) && ((x9.near.2.2.2.2.1==x11.near.2.2.2.2.1) && ((x9.near.2.2.2.2.2==x11.near.2.2.2.2.2) && true)))))))=true then
  (Zv p0).bind fun x15 =>
  (Zv p1).bind fun x17 =>
  (Zx x15 x17).bind fun x19 =>
  some (x19,0)
 else
 some (false,0)
def Qce (p0:(List Ac)) (p1:(List Ac)) (s3:Int):Option (Qd Int (Unit ⊕ Unit)) :=
 if (decide (s3 < (p0.length:Int)))=true then
  (lkI p0 s3).bind fun a6 =>
  (lkI p1 s3).bind fun a8 =>
  if (!((a6.X==a8.X) && ((a6.Y==a8.Y) && ((a6.Z==a8.Z) && true))))=true then
   some (.done (Sum.inl ()))
  else
  some (.next (zw (s3+1)))
 else
 some (.done (Sum.inr ()))
def Yw (p0:(List Ac)) (p1:(List Ac)):Option Bool :=
 if ((p0.length:Int) != (p1.length:Int))=true then
  some false
 else
 (Qa fuel (Qce p0 p1) 0).bind fun x12=>match x12 with
 | .inl x13=>(
  some false)
 | .inr x14=>(
  some true)
def Qdd (p0:(List Int)):Option ((List (Int × Int)) × Int) :=
 (Xl p0).bind fun x1 =>
 if (x1 != 0)=true then
  some (([]:(List (Int × Int))),x1)
 else
 (Zy p0).bind fun x5 =>
 (Z0 (Ad.mk x5.n (x5.near.1,x5.near.2.1,x5.near.2.2.1,x5.near.2.2.2.1,x5.near.2.2.2.2.1,x5.near.2.2.2.2.2))).bind fun x7 =>
 some (x7,0)
def Qav (p0:Int):Option Bool :=
 some (p0 != p0)
def Kt (p0:Int) (p1:Int):Option Int :=
 (Qav p0).bind fun x1 =>
 (Qav p1).bind fun x3 =>
 if x1=true then
  if x3=true then
   some 0
  else
  some (-1)
 else
 if x3=true then
  some 1
 else
 if (decide (p0 < p1))=true then
  some (-1)
 else
 if (decide (p0 > p1))=true then
  some 1
 else
 some 0
def Z4 (p0:(List Int)) (p1:(List Int)) (s1:Int):Option (Qd Int (Int ⊕ Unit)) :=
 if (decide (s1 < (p0.length:Int)))=true then
  (lkI p0 s1).bind fun a4 =>
  if (decide (s1>=(p1.length:Int)))=true then
   some (.done (Sum.inl 1))
  else
  (lkI p1 s1).bind fun a8 =>
  (Kt a4 a8).bind fun x10 =>
  if (x10 != 0)=true then
   some (.done (Sum.inl x10))
  else
  some (.next (zw (s1+1)))
 else
 some (.done (Sum.inr ()))
def Yu (p0:(List Int)) (p1:(List Int)):Option Int :=
 (Qa fuel (Z4 p0 p1) 0).bind fun x14=>match x14 with
 | .inl x15=>(
  some x15)
 | .inr x16=>(
  if (decide ((p0.length:Int) < (p1.length:Int)))=true then
   some (-1)
  else
  some 0)
def Qmq (x11:(List (Int × Int))) (s13:(Int × (List (List Int)))) (s16:(Int × (List Int))):Option (Qd (Int × (List Int)) (List Int)) :=
 if (decide (s16.1 < (x11.length:Int)))=true then
  (lkI x11 s16.1).bind fun a19 =>
  if 0<=s16.1 then
   if ((zw (BitVec.ofInt (IntKind.bits .i64) (Int.fdiv s13.1 (2^min (Int.toNat s16.1) (IntKind.bits .i64))) &&& BitVec.ofInt (IntKind.bits .i64) 1).toNat)==1)=true then
    (lkI s16.2 a19.1).bind fun a23 =>
    if 0<=a19.2 then
     some (.next (zw (s16.1+1),(List.set s16.2 (Int.toNat a19.1) (zv (zb a23 ||| zb (zv (1*2^min (Int.toNat a19.2) zk))).toNat))))
    else none
   else
   (lkI s16.2 a19.2).bind fun a26 =>
   if 0<=a19.1 then
    some (.next (zw (s16.1+1),(List.set s16.2 (Int.toNat a19.2) (zv (zb a26 ||| zb (zv (1*2^min (Int.toNat a19.1) zk))).toNat))))
   else none
  else none
 else
 some (.done s16.2)
def Ql3 (x11:(List (Int × Int))) (x7:Ad) (x9:(List (Int × Int × Int))) (s13:(Int × (List (List Int)))):Option (Qd (Int × (List (List Int))) (List (List Int))) :=
 if (decide (s13.1 < (zw (1*2^min (Int.toNat (x11.length:Int)) (IntKind.bits .i64)))))=true then
  if 0<=x7.n/\x7.n<=x7.n/\x7.n*8<=140737488355328 then
   (Qa fuel (Qmq x11 s13) (0,(List.replicate (Int.toNat x7.n) (0:Int)))).bind fun x30 =>
   (Jl x30).bind fun x31 =>
   if x31=true then
    (Zv x30).bind fun x35 =>
    (Zx x35 x9).bind fun x37 =>
    if x37=true then
     if (s13.2++([x30]:(List (List Int)))).length*24<=140737488355328 then
      some (.next (zw (s13.1+1),(s13.2++([x30]:(List (List Int))))))
     else none
    else
    some (.next (zw (s13.1+1),s13.2))
   else
   some (.next (zw (s13.1+1),s13.2))
  else none
 else
 some (.done s13.2)
def Qh3 (p0:(List Int)):Option ((List (List Int)) × Int) :=
 (Xl p0).bind fun x1 =>
 if (x1 != 0)=true then
  some (([]:(List (List Int))),x1)
 else
 if (decide ((p0.length:Int) > 5))=true then
  some (([]:(List (List Int))),6)
 else
 (Zy p0).bind fun x7 =>
 (Zv p0).bind fun x9 =>
 (Z0 (Ad.mk x7.n (x7.near.1,x7.near.2.1,x7.near.2.2.1,x7.near.2.2.2.1,x7.near.2.2.2.2.1,x7.near.2.2.2.2.2))).bind fun x11 =>
 if 0<=(x11.length:Int) then
  (Qa fuel (Ql3 x11 x7 x9) (0,([]:(List (List Int))))).bind fun x42 =>
  (Qsx Qs6 leL x42).bind fun x43 =>
  some (x43,0)
 else none
def Qf5 (p0:(List Int)):Option (Aa × Int) :=
 (Xl p0).bind fun x1 =>
 if (x1 != 0)=true then
  some ((Aa.mk 0 ([]:(List (Int × Int))) ([]:(List (Int × Int)))),x1)
 else
 (Q3 p0).bind fun x5 =>
 some (x5,0)
def Qd4 (p0:(List (Int × Int))) (p1:(List (Int × Int))) (s3:Int):Option (Qd Int (Unit ⊕ Unit)) :=
 if (decide (s3 < (p0.length:Int)))=true then
  (lkI p0 s3).bind fun a6 =>
  (lkI p1 s3).bind fun a8 =>
  if (!((a6.1==a8.1) && ((a6.2==a8.2) && true)))=true then
   some (.done (Sum.inl ()))
  else
  some (.next (zw (s3+1)))
 else
 some (.done (Sum.inr ()))
def Yj (p0:(List (Int × Int))) (p1:(List (Int × Int))):Option Bool :=
 if ((p0.length:Int) != (p1.length:Int))=true then
  some false
 else
 (Qa fuel (Qd4 p0 p1) 0).bind fun x12=>match x12 with
 | .inl x13=>(
  some false)
 | .inr x14=>(
  some true)
def Qz (p0:Aa) (p1:Aa):Option Bool :=
 if (p0.N==p1.N)=true then
  (Yj p0.Arrows p1.Arrows).bind fun x3 =>
  if x3=true then
   (Yj p0.Lines p1.Lines).bind fun x7 =>
   some x7
  else
  some false
 else
 some false
def Qad (p0:(List Int)) (p1:(List (Int × Int))) (p2:(List (Int × Int))):Option Bool :=
 (Qf5 p0).bind fun x1 =>
 if (x1.2==0)=true then
  (Qz x1.1 (Aa.mk (p0.length:Int) p1 p2)).bind fun x5 =>
  some x5
 else
 some false
def Qd9 (p0:Int) (p1:(List Ac)) (p2:(List (Int × Int))) (p3:(List (Int × Int))):Option Bool :=
 (Q9 p0 p1).bind fun x1 =>
 if (x1.2==0)=true then
  (Qz x1.1 (Aa.mk p0 p2 p3)).bind fun x5 =>
  some x5
 else
 some false
def Qcg (p0:(List Int)):Option ((List (Int × Int × Int)) × Int) :=
 (Xl p0).bind fun x1 =>
 if (x1 != 0)=true then
  some (([]:(List (Int × Int × Int))),x1)
 else
 (Zv p0).bind fun x5 =>
 some (x5,0)
def Qcw (p0:(List (Int × Int × Int))) (p1:(List (Int × Int × Int))) (s3:Int):Option (Qd Int (Unit ⊕ Unit)) :=
 if (decide (s3 < (p0.length:Int)))=true then
  (lkI p0 s3).bind fun a6 =>
  (lkI p1 s3).bind fun a8 =>
  if (!((a6.1==a8.1) && ((a6.2.1==a8.2.1) && ((a6.2.2==a8.2.2) && true))))=true then
   some (.done (Sum.inl ()))
  else
  some (.next (zw (s3+1)))
 else
 some (.done (Sum.inr ()))
def Vo (p0:(List (Int × Int × Int))) (p1:(List (Int × Int × Int))):Option Bool :=
 if ((p0.length:Int) != (p1.length:Int))=true then
  some false
 else
 (Qa fuel (Qcw p0 p1) 0).bind fun x12=>match x12 with
 | .inl x13=>(
  some false)
 | .inr x14=>(
  some true)
def Qfg (p0:(List Int)) (p1:(List Int)) (s3:Int):Option (Qd Int (Unit ⊕ Unit)) :=
 if (decide (s3 < (p0.length:Int)))=true then
  (lkI p0 s3).bind fun a6 =>
  (lkI p1 s3).bind fun a8 =>
  if (a6 != a8)=true then
   some (.done (Sum.inl ()))
  else
  some (.next (zw (s3+1)))
 else
 some (.done (Sum.inr ()))
def Qbv (p0:(List Int)) (p1:(List Int)):Option Bool :=
 if ((p0.length:Int) != (p1.length:Int))=true then
  some false
 else
 (Qa fuel (Qfg p0 p1) 0).bind fun x12=>match x12 with
 | .inl x13=>(
  some false)
 | .inr x14=>(
  some true)
def Qh1 (p0:(List Int)) (p1:(List Int)):Option Bool :=
 (Qbv p0 p1).bind fun x1 =>
 some x1
def Qn7 (x1:((List (Int × Int)) × Int)) (x3:((List (Int × Int)) × Int)) (x5:((List (Int × Int × Int)) × Int)) (x7:((List (Int × Int × Int)) × Int)) (x9:(Bool × Int)) (x11:(Bool × Int)) (x13:((List (List Int)) × Int)) (x15:((List Ac) × Int)) (x17:((List Ac) × Int)) (s25:Int):Option (Qd Int (Unit ⊕ Unit)) :=
 if (decide (s25 < 9))=true then
  (lkI ([x1.2,x3.2,x5.2,x7.2,x9.2,x11.2,x13.2,x15.2,x17.2]:(List Int)) s25).bind fun a28 =>
  if (a28 != 0)=true then
   some (.done (Sum.inl ()))
  else
  some (.next (zw (s25+1)))
 else
 some (.done (Sum.inr ()))
def Qoj (x13:((List (List Int)) × Int)) (s81:Int):Option (Qd Int (Unit ⊕ Unit)) :=
 if (decide (s81 < (x13.1.length:Int)))=true then
  (lkI x13.1 s81).bind fun a84 =>
  (lkI ([[0,1,2],[2,0,2],[2,4,0]]:(List (List Int))) s81).bind fun a86 =>
  (Qh1 a84 a86).bind fun x88 =>
  if (!x88)=true then
   some (.done (Sum.inl ()))
  else
  some (.next (zw (s81+1)))
 else
 some (.done (Sum.inr ()))
def Qc2  : Option Bool :=
 (Qdd [0,1,2]).bind fun x1 =>
 (Qdd [0,5,0]).bind fun x3 =>
 (Qcg [0,1,2]).bind fun x5 =>
 (Qcg [0,5,0]).bind fun x7 =>
 (Qf1 [0,1,2] [0,5,0]).bind fun x9 =>
 (Qf1 [0,1,2] [2,0,2]).bind fun x11 =>
 (Qh3 [0,1,2]).bind fun x13 =>
 (Qfv [0,1,2]).bind fun x15 =>
 (Qfv [0,5,0]).bind fun x17 =>
 (Q9 3 [(Ac.mk 0 2 0),(Ac.mk 0 2 2)]).bind fun x19 =>
 (Q9 6 []).bind fun x21 =>
 (Q9 2 [(Ac.mk 1 0 0)]).bind fun x23 =>
 (Qa fuel (Qn7 x1 x3 x5 x7 x9 x11 x13 x15 x17) 0).bind fun x32=>match x32 with
 | .inl x33=>(
  some false)
 | .inr x34=>(
  (Yj x1.1 [(0,1),(1,2)]).bind fun x35 =>
  if x35=true then
   (Yj x3.1 [(0,1),(1,2)]).bind fun x39 =>
   if x39=true then
    if ((x5.1.length:Int)==0)=true then
     (Vo x7.1 [(0,1,2)]).bind fun x45 =>
     if x45=true then
      if (!x9.1)=true then
       if x11.1=true then
        if (x19.2==4)=true then
         if (x21.2==2)=true then
          if (x23.2==311)=true then
           (Qad [0,1,2] [] [(0,1),(1,2)]).bind fun x59 =>
           if x59=true then
            (Qad [0,5,0] [(0,1),(2,1)] []).bind fun x63 =>
            if x63=true then
             (Qad [0,5,0,2] [(0,1),(1,3),(2,1)] []).bind fun x67 =>
             if x67=true then
              (Qd9 3 [(Ac.mk 0 2 0)] [(0,1),(2,1)] []).bind fun x71 =>
              if x71=true then
               (Qd9 3 [] [] [(0,1),(0,2),(1,2)]).bind fun x75 =>
               if x75=true then
                if ((x13.1.length:Int) != 3)=true then
                 some false
                else
                (Qa fuel (Qoj x13) 0).bind fun x92=>match x92 with
                | .inl x93=>(
                 some false)
                | .inr x94=>(
                 (Yw x15.1 [(Ac.mk 0 2 2)]).bind fun x95 =>
                 if x95=true then
                  (Yw x17.1 [(Ac.mk 0 2 0)]).bind fun x99 =>
                  if x99=true then
                   (Xl [2,1]).bind fun x103 =>
                   if (x103==310)=true then
                    (Xl [1]).bind fun x107 =>
                    if (x107==310)=true then
                     (Xl []).bind fun x111 =>
                     some (x111==310)
                    else
                    some false
                   else
                   some false
                  else
                  some false
                 else
                 some false)
               else
               some false
              else
              some false
             else
             some false
            else
            some false
           else
           some false
          else
          some false
         else
         some false
        else
        some false
       else
       some false
      else
      some false
     else
     some false
    else
    some false
   else
   some false
  else
  some false)
def Qcu (p0:Ae) (s5:(Int × (List Int))):Option (Qd (Int × (List Int)) (List Int)) :=
 if (decide (s5.1 > (Int.tmod (zw (p0.Order.1)) 1)))=true then
  (lkI s5.2 (zw (s5.1 - 1))).bind fun a8 =>
  (lkI s5.2 s5.1).bind fun a10 =>
  some (.next (zw (s5.1 - 1),(List.set s5.2 (Int.toNat s5.1) a8)))
 else
 some (.done s5.2)
def Qcs (p0:Ae) (s21:(Int × (List Int))):Option (Qd (Int × (List Int)) (List Int)) :=
 if (decide (s21.1 > (Int.tmod (zw (p0.Order.2.1)) 2)))=true then
  (lkI s21.2 (zw (s21.1 - 1))).bind fun a24 =>
  (lkI s21.2 s21.1).bind fun a26 =>
  some (.next (zw (s21.1 - 1),(List.set s21.2 (Int.toNat s21.1) a24)))
 else
 some (.done s21.2)
def Qcl (p0:Ae) (s37:(Int × (List Int))):Option (Qd (Int × (List Int)) (List Int)) :=
 if (decide (s37.1 > (Int.tmod (zw (p0.Order.2.2.1)) 3)))=true then
  (lkI s37.2 (zw (s37.1 - 1))).bind fun a40 =>
  (lkI s37.2 s37.1).bind fun a42 =>
  some (.next (zw (s37.1 - 1),(List.set s37.2 (Int.toNat s37.1) a40)))
 else
 some (.done s37.2)
def Qcr (p0:Ae) (s53:(Int × (List Int))):Option (Qd (Int × (List Int)) (List Int)) :=
 if (decide (s53.1 > (Int.tmod (zw (p0.Order.2.2.2.1)) 4)))=true then
  (lkI s53.2 (zw (s53.1 - 1))).bind fun a56 =>
  (lkI s53.2 s53.1).bind fun a58 =>
  some (.next (zw (s53.1 - 1),(List.set s53.2 (Int.toNat s53.1) a56)))
 else
 some (.done s53.2)
def Qcm (p0:Ae) (s69:(Int × (List Int))):Option (Qd (Int × (List Int)) (List Int)) :=
 if (decide (s69.1 > (Int.tmod (zw (p0.Order.2.2.2.2.1)) 5)))=true then
  (lkI s69.2 (zw (s69.1 - 1))).bind fun a72 =>
  (lkI s69.2 s69.1).bind fun a74 =>
  some (.next (zw (s69.1 - 1),(List.set s69.2 (Int.toNat s69.1) a72)))
 else
 some (.done s69.2)
def Qcv (p0:Ae) (s85:(Int × (List Int))):Option (Qd (Int × (List Int)) (List Int)) :=
 if (decide (s85.1 > (Int.tmod (zw (p0.Order.2.2.2.2.2)) 6)))=true then
  (lkI s85.2 (zw (s85.1 - 1))).bind fun a88 =>
  (lkI s85.2 s85.1).bind fun a90 =>
  some (.next (zw (s85.1 - 1),(List.set s85.2 (Int.toNat s85.1) a88)))
 else
 some (.done s85.2)
def Xr (p0:Ae) (p1:Int) (s1:(Int × (List Int))):Option (Qd (Int × (List Int)) (List Int)) :=
 if (decide (s1.1 < (zw (1+(Int.tmod (zw (p0.N)) p1)))))=true then
  if s1.1=0 then
   if (s1.2++([0]:(List Int))).length*8<=140737488355328 then
    (Qa fuel (Qcu p0) (0,(s1.2++([0]:(List Int))))).bind fun x14 =>
    (lkI x14 (Int.tmod (zw (p0.Order.1)) 1)).bind fun a15 =>
    (lkI x14 (Int.tmod (zw (p0.Order.1)) 1)).bind fun a17 =>
    some (.next (1,(List.set x14 (Int.toNat (Int.tmod (zw (p0.Order.1)) 1)) 0)))
   else none
  else
  if s1.1=1 then
   if (s1.2++([0]:(List Int))).length*8<=140737488355328 then
    (Qa fuel (Qcs p0) (1,(s1.2++([0]:(List Int))))).bind fun x30 =>
    (lkI x30 (Int.tmod (zw (p0.Order.2.1)) 2)).bind fun a31 =>
    (lkI x30 (Int.tmod (zw (p0.Order.2.1)) 2)).bind fun a33 =>
    some (.next (2,(List.set x30 (Int.toNat (Int.tmod (zw (p0.Order.2.1)) 2)) 1)))
   else none
  else
  if s1.1=2 then
   if (s1.2++([0]:(List Int))).length*8<=140737488355328 then
    (Qa fuel (Qcl p0) (2,(s1.2++([0]:(List Int))))).bind fun x46 =>
    (lkI x46 (Int.tmod (zw (p0.Order.2.2.1)) 3)).bind fun a47 =>
    (lkI x46 (Int.tmod (zw (p0.Order.2.2.1)) 3)).bind fun a49 =>
    some (.next (3,(List.set x46 (Int.toNat (Int.tmod (zw (p0.Order.2.2.1)) 3)) 2)))
   else none
  else
  if s1.1=3 then
   if (s1.2++([0]:(List Int))).length*8<=140737488355328 then
    (Qa fuel (Qcr p0) (3,(s1.2++([0]:(List Int))))).bind fun x62 =>
    (lkI x62 (Int.tmod (zw (p0.Order.2.2.2.1)) 4)).bind fun a63 =>
    (lkI x62 (Int.tmod (zw (p0.Order.2.2.2.1)) 4)).bind fun a65 =>
    some (.next (4,(List.set x62 (Int.toNat (Int.tmod (zw (p0.Order.2.2.2.1)) 4)) 3)))
   else none
  else
  if s1.1=4 then
   if (s1.2++([0]:(List Int))).length*8<=140737488355328 then
    (Qa fuel (Qcm p0) (4,(s1.2++([0]:(List Int))))).bind fun x78 =>
    (lkI x78 (Int.tmod (zw (p0.Order.2.2.2.2.1)) 5)).bind fun a79 =>
    (lkI x78 (Int.tmod (zw (p0.Order.2.2.2.2.1)) 5)).bind fun a81 =>
    some (.next (5,(List.set x78 (Int.toNat (Int.tmod (zw (p0.Order.2.2.2.2.1)) 5)) 4)))
   else none
  else
  if s1.1=5 then
   if (s1.2++([0]:(List Int))).length*8<=140737488355328 then
    (Qa fuel (Qcv p0) (5,(s1.2++([0]:(List Int))))).bind fun x94 =>
    (lkI x94 (Int.tmod (zw (p0.Order.2.2.2.2.2)) 6)).bind fun a95 =>
    (lkI x94 (Int.tmod (zw (p0.Order.2.2.2.2.2)) 6)).bind fun a97 =>
    some (.next (6,(List.set x94 (Int.toNat (Int.tmod (zw (p0.Order.2.2.2.2.2)) 6)) 5)))
   else none
  else
  none
 else
 some (.done s1.2)
def Yq (s102:(Int × Int × (List Int))) (p0:Ae) (x101:(List Int)) (s105:(Int × Int × (List Int))):Option (Qd (Int × Int × (List Int)) (Int × (List Int))) :=
 if (decide (s105.2.1 < s102.2.1))=true then
  if 0<=s105.1 then
   if ((IntKind.u16.wrap (BitVec.ofInt (IntKind.bits .u16) (Int.fdiv p0.Edges (2^min (Int.toNat s105.1) (IntKind.bits .u16))) &&& BitVec.ofInt (IntKind.bits .u16) 1).toNat)==1)=true then
    (lkI x101 s102.2.1).bind fun a110 =>
    (lkI s105.2.2 a110).bind fun a112 =>
    (lkI x101 s105.2.1).bind fun a114 =>
    if 0<=a114 then
     some (.next (zw (s105.1+1),zw (s105.2.1+1),(List.set s105.2.2 (Int.toNat a110) (zv (zb a112 ||| zb (zv (1*2^min (Int.toNat a114) zk))).toNat))))
    else none
   else
   some (.next (zw (s105.1+1),zw (s105.2.1+1),s105.2.2))
  else none
 else
 some (.done (s105.1,s105.2.2))
def Ys (p0:Ae) (p1:Int) (x101:(List Int)) (s102:(Int × Int × (List Int))):Option (Qd (Int × Int × (List Int)) (List Int)) :=
 if (decide (s102.2.1 < (zw (1+(Int.tmod (zw (p0.N)) p1)))))=true then
  (Qa fuel (Yq s102 p0 x101) (s102.1,0,s102.2.2)).bind fun x118 =>
  some (.next (x118.1,zw (s102.2.1+1),x118.2))
 else
 some (.done s102.2.2)
def Vt (p0:Ae) (p1:Int):Option (List Int) :=
 if p1≠0 then
  (Qa fuel (Xr p0 p1) (0,([]:(List Int)))).bind fun x101 =>
  if 0<=(zw (1+(Int.tmod (zw (p0.N)) p1)))/\(zw (1+(Int.tmod (zw (p0.N)) p1)))<=(zw (1+(Int.tmod (zw (p0.N)) p1)))/\(zw (1+(Int.tmod (zw (p0.N)) p1)))*8<=140737488355328 then
   (Qa fuel (Ys p0 p1 x101) (0,1,(List.replicate (Int.toNat (zw (1+(Int.tmod (zw (p0.N)) p1)))) (0:Int)))).bind fun x120 =>
   some x120
  else none
 else none
def Q7 (p0:Int) (p1:Int):Option Bool :=
 if 0<=p1 then
  some ((zv (zb (Int.fdiv p0 (2^min (Int.toNat p1) zk)) &&& zb 1).toNat)==1)
 else none
def Qaf (p0:(List Int)) (p1:Int) (p2:Int):Option Bool :=
 (lkI p0 p1).bind fun a1 =>
 (Q7 a1 p2).bind fun x3 =>
 if x3=true then
  some true
 else
 (lkI p0 p2).bind fun a7 =>
 (Q7 a7 p1).bind fun x9 =>
 some x9
def Vq (p0:(List Int)) (s1:(Int × (List (Int × Int)))) (s4:(Int × (List (Int × Int)))):Option (Qd (Int × (List (Int × Int))) (List (Int × Int))) :=
 if (decide (s4.1 < (p0.length:Int)))=true then
  (Qaf p0 s1.1 s4.1).bind fun x7 =>
  if x7=true then
   if (s4.2++([(s1.1,s4.1)]:(List (Int × Int)))).length*16<=140737488355328 then
    some (.next (zw (s4.1+1),(s4.2++([(s1.1,s4.1)]:(List (Int × Int))))))
   else none
  else
  some (.next (zw (s4.1+1),s4.2))
 else
 some (.done s4.2)
def Km (p0:(List Int)) (s1:(Int × (List (Int × Int)))):Option (Qd (Int × (List (Int × Int))) (List (Int × Int))) :=
 if (decide (s1.1 < (p0.length:Int)))=true then
  (Qa fuel (Vq p0 s1) (zw (s1.1+1),s1.2)).bind fun x12 =>
  some (.next (zw (s1.1+1),x12))
 else
 some (.done s1.2)
def Qap (p0:(List Int)):Option (List (Int × Int)) :=
 (Qa fuel (Km p0) (0,([]:(List (Int × Int))))).bind fun x14 =>
 some x14
def J5 (p0:(List Int)) (s4:(Int × Int)):Option (Qd (Int × Int) Int) :=
 if (decide (s4.2 < (p0.length:Int)))=true then
  (Q7 s4.1 s4.2).bind fun x7 =>
  if x7=true then
   (lkI p0 s4.2).bind fun a11 =>
   some (.next (zv (zb s4.1 ||| zb a11).toNat,zw (s4.2+1)))
  else
  some (.next (s4.1,zw (s4.2+1)))
 else
 some (.done s4.1)
def Qat (p0:(List Int)) (s1:(Int × Int)):Option (Qd (Int × Int) Int) :=
 if (decide (s1.2 < (p0.length:Int)))=true then
  (Qa fuel (J5 p0) (s1.1,0)).bind fun x14 =>
  some (.next (x14,zw (s1.2+1)))
 else
 some (.done s1.1)
def Qaw (p0:(List Int)) (p1:Int):Option Int :=
 (Qa fuel (Qat p0) (p1,0)).bind fun x16 =>
 some x16
def Ka (p0:(List Int)) (s5:Int):Option (Qd Int (Unit ⊕ Unit)) :=
 if (decide (s5 < (p0.length:Int)))=true then
  (lkI p0 s5).bind fun a8 =>
  if 0<=(p0.length:Int) then
   if ((Int.fdiv a8 (2^min (Int.toNat (p0.length:Int)) zk)) != 0)=true then
    some (.done (Sum.inl ()))
   else
   some (.next (zw (s5+1)))
  else none
 else
 some (.done (Sum.inr ()))
def Kf (p0:(List Int)) (s15:Int):Option (Qd Int (Unit ⊕ Unit)) :=
 if (decide (s15 < (p0.length:Int)))=true then
  (lkI p0 s15).bind fun a18 =>
  (Qaw p0 a18).bind fun x20 =>
  (Q7 x20 s15).bind fun x22 =>
  if x22=true then
   some (.done (Sum.inl ()))
  else
  some (.next (zw (s15+1)))
 else
 some (.done (Sum.inr ()))
def Qcx (p0:(List Int)) (p1:Int):Option Bool :=
 if (decide ((p0.length:Int) < 1))=true then
  some false
 else
 if (decide ((p0.length:Int) > p1))=true then
  some false
 else
 (Qa fuel (Ka p0) 0).bind fun x12=>match x12 with
 | .inl x13=>(
  some false)
 | .inr x14=>(
  (Qa fuel (Kf p0) 0).bind fun x26=>match x26 with
  | .inl x27=>(
   some false)
  | .inr x28=>(
   some true))
def Vd (p0:(List Int)) (s4:(Int × (List (Int × Int × Int)))) (s1:(Int × (List (Int × Int × Int)))) (s7:(Int × (List (Int × Int × Int)))):Option (Qd (Int × (List (Int × Int × Int))) (List (Int × Int × Int))) :=
 if (decide (s7.1 < (p0.length:Int)))=true then
  (lkI p0 s4.1).bind fun a10 =>
  (Q7 a10 s1.1).bind fun x12 =>
  if x12=true then
   (Q7 a10 s7.1).bind fun x16 =>
   if x16=true then
    (Qaf p0 s1.1 s7.1).bind fun x20 =>
    if (!x20)=true then
     if (s7.2++([(s1.1,s4.1,s7.1)]:(List (Int × Int × Int)))).length*24<=140737488355328 then
      some (.next (zw (s7.1+1),(s7.2++([(s1.1,s4.1,s7.1)]:(List (Int × Int × Int))))))
     else none
    else
    some (.next (zw (s7.1+1),s7.2))
   else
   some (.next (zw (s7.1+1),s7.2))
  else
  some (.next (zw (s7.1+1),s7.2))
 else
 some (.done s7.2)
def Vg (p0:(List Int)) (s1:(Int × (List (Int × Int × Int)))) (s4:(Int × (List (Int × Int × Int)))):Option (Qd (Int × (List (Int × Int × Int))) (List (Int × Int × Int))) :=
 if (decide (s4.1 < (p0.length:Int)))=true then
  (Qa fuel (Vd p0 s4 s1) (zw (s1.1+1),s4.2)).bind fun x25 =>
  some (.next (zw (s4.1+1),x25))
 else
 some (.done s4.2)
def J3 (p0:(List Int)) (s1:(Int × (List (Int × Int × Int)))):Option (Qd (Int × (List (Int × Int × Int))) (List (Int × Int × Int))) :=
 if (decide (s1.1 < (p0.length:Int)))=true then
  (Qa fuel (Vg p0 s1) (0,s1.2)).bind fun x27 =>
  some (.next (zw (s1.1+1),x27))
 else
 some (.done s1.2)
def Jx (p0:(List Int)):Option (List (Int × Int × Int)) :=
 (Qa fuel (J3 p0) (0,([]:(List (Int × Int × Int))))).bind fun x29 =>
 some x29
def Vr (p1:(List (Int × Int))) (s1:(Int × (List (List Int)))) (s4:(Int × (List Int))):Option (Qd (Int × (List Int)) (List Int)) :=
 if (decide (s4.1 < (p1.length:Int)))=true then
  (lkI p1 s4.1).bind fun a7 =>
  if 0<=s4.1 then
   if ((zw (BitVec.ofInt (IntKind.bits .i64) (Int.fdiv s1.1 (2^min (Int.toNat s4.1) (IntKind.bits .i64))) &&& BitVec.ofInt (IntKind.bits .i64) 1).toNat)==1)=true then
    (lkI s4.2 a7.1).bind fun a11 =>
    if 0<=a7.2 then
     some (.next (zw (s4.1+1),(List.set s4.2 (Int.toNat a7.1) (zv (zb a11 ||| zb (zv (1*2^min (Int.toNat a7.2) zk))).toNat))))
    else none
   else
   (lkI s4.2 a7.2).bind fun a14 =>
   if 0<=a7.1 then
    some (.next (zw (s4.1+1),(List.set s4.2 (Int.toNat a7.2) (zv (zb a14 ||| zb (zv (1*2^min (Int.toNat a7.1) zk))).toNat))))
   else none
  else none
 else
 some (.done s4.2)
def Xs (p1:(List (Int × Int))) (p0:Int) (s1:(Int × (List (List Int)))):Option (Qd (Int × (List (List Int))) (List (List Int))) :=
 if 0<=(p1.length:Int) then
  if (decide (s1.1 < (zw (1*2^min (Int.toNat (p1.length:Int)) (IntKind.bits .i64)))))=true then
   if 0<=p0/\p0<=p0/\p0*8<=140737488355328 then
    (Qa fuel (Vr p1 s1) (0,(List.replicate (Int.toNat p0) (0:Int)))).bind fun x18 =>
    (Qcx x18 p0).bind fun x19 =>
    if x19=true then
     if (s1.2++([x18]:(List (List Int)))).length*24<=140737488355328 then
      some (.next (zw (s1.1+1),(s1.2++([x18]:(List (List Int))))))
     else none
    else
    some (.next (zw (s1.1+1),s1.2))
   else none
  else
  some (.done s1.2)
 else none
def Yx (p0:Int) (p1:(List (Int × Int))):Option (List (List Int)) :=
 (Qa fuel (Xs p1 p0) (0,([]:(List (List Int))))).bind fun x24 =>
 some x24
def Qaa (p0:(List Int)) (p1:(List Int)) (s1:Int):Option (Qd Int (Bool ⊕ Unit)) :=
 if (decide (s1 < (p0.length:Int)))=true then
  (lkI p0 s1).bind fun a4 =>
  (lkI p1 s1).bind fun a6 =>
  if (a4 != a6)=true then
   some (.done (Sum.inl (decide (a4 < a6))))
  else
  some (.next (zw (s1+1)))
 else
 some (.done (Sum.inr ()))
def Qcc (p0:(List Int)) (p1:(List Int)):Option Bool :=
 (Qa fuel (Qaa p0 p1) 0).bind fun x10=>match x10 with
 | .inl x11=>(
  some x11)
 | .inr x12=>(
  some false)
def X4 (s7:(Int × (List (List Int)))) (a10:(List Int)) (s18:Int):Option (Qd Int Int) :=
 if (decide (s18 > 0))=true then
  (lkI s7.2 (zw (s18 - 1))).bind fun a21 =>
  (Qcc a10 a21).bind fun x23 =>
  if x23=true then
   some (.next (zw (s18 - 1)))
  else
  some (.done s18)
 else
 some (.done s18)
def Qfe (x28:Int) (s29:(Int × (List (List Int)))):Option (Qd (Int × (List (List Int))) (List (List Int))) :=
 if (decide (s29.1 > x28))=true then
  (lkI s29.2 (zw (s29.1 - 1))).bind fun a32 =>
  (lkI s29.2 s29.1).bind fun a34 =>
  some (.next (zw (s29.1 - 1),(List.set s29.2 (Int.toNat s29.1) a32)))
 else
 some (.done s29.2)
def X1 (x5:(List (List Int))) (x1:(List (Int × Int × Int))) (s7:(Int × (List (List Int)))):Option (Qd (Int × (List (List Int))) (List (List Int))) :=
 if (decide (s7.1 < (x5.length:Int)))=true then
  (lkI x5 s7.1).bind fun a10 =>
  (Jx a10).bind fun x12 =>
  (Vo x12 x1).bind fun x14 =>
  if (!x14)=true then
   some (.next (zw (s7.1+1),s7.2))
  else
  (Qa fuel (X4 s7 a10) (s7.2.length:Int)).bind fun x28 =>
  if (s7.2++([[]]:(List (List Int)))).length*24<=140737488355328 then
   (Qa fuel (Qfe x28) (zw ((((s7.2++([[]]:(List (List Int)))).length):Int) - 1),(s7.2++([[]]:(List (List Int)))))).bind fun x38 =>
   (lkI x38 x28).bind fun a39 =>
   some (.next (zw (s7.1+1),(List.set x38 (Int.toNat x28) a10)))
  else none
 else
 some (.done s7.2)
def Qbf (p0:(List Int)):Option (List (List Int)) :=
 (Jx p0).bind fun x1 =>
 (Qap p0).bind fun x3 =>
 (Yx (p0.length:Int) x3).bind fun x5 =>
 (Qa fuel (X1 x5 x1) (0,([]:(List (List Int))))).bind fun x43 =>
 some x43
def Y7 (x1:(List (List Int))) (s6:(Int × (List (Int × Int)) × (List (Int × Int)))) (s3:(Int × (List (Int × Int)) × (List (Int × Int)))) (s13:(Bool × Bool × Int)):Option (Qd (Bool × Bool × Int) (Bool × Bool)) :=
 if (decide (s13.2.2 < (x1.length:Int)))=true then
  if s13.1=true then
   (lkI x1 s13.2.2).bind fun a18 =>
   (lkI a18 s6.1).bind fun a20 =>
   (Q7 a20 s3.1).bind fun x22 =>
   if s13.2.1=true then
    (lkI a18 s3.1).bind fun a26 =>
    (Q7 a26 s6.1).bind fun x28 =>
    some (.next (x22,x28,zw (s13.2.2+1)))
   else
   some (.next (x22,false,zw (s13.2.2+1)))
  else
  if s13.2.1=true then
   (lkI x1 s13.2.2).bind fun a32 =>
   (lkI a32 s3.1).bind fun a34 =>
   (Q7 a34 s6.1).bind fun x36 =>
   some (.next (false,x36,zw (s13.2.2+1)))
  else
  some (.next (false,false,zw (s13.2.2+1)))
 else
 some (.done (s13.1,s13.2.1))
def Y5 (p0:(List Int)) (s3:(Int × (List (Int × Int)) × (List (Int × Int)))) (x1:(List (List Int))) (s6:(Int × (List (Int × Int)) × (List (Int × Int)))):Option (Qd (Int × (List (Int × Int)) × (List (Int × Int))) ((List (Int × Int)) × (List (Int × Int)))) :=
 if (decide (s6.1 < (p0.length:Int)))=true then
  (Qaf p0 s3.1 s6.1).bind fun x9 =>
  if (!x9)=true then
   some (.next (zw (s6.1+1),s6.2.1,s6.2.2))
  else
  (Qa fuel (Y7 x1 s6 s3) (true,true,0)).bind fun x39 =>
  if x39.1=true then
   if (s6.2.1++([(s3.1,s6.1)]:(List (Int × Int)))).length*16<=140737488355328 then
    some (.next (zw (s6.1+1),(s6.2.1++([(s3.1,s6.1)]:(List (Int × Int)))),s6.2.2))
   else none
  else
  if (!x39.2)=true then
   if (decide (s3.1 < s6.1))=true then
    if (s6.2.2++([(s3.1,s6.1)]:(List (Int × Int)))).length*16<=140737488355328 then
     some (.next (zw (s6.1+1),s6.2.1,(s6.2.2++([(s3.1,s6.1)]:(List (Int × Int))))))
    else none
   else
   some (.next (zw (s6.1+1),s6.2.1,s6.2.2))
  else
  some (.next (zw (s6.1+1),s6.2.1,s6.2.2))
 else
 some (.done (s6.2.1,s6.2.2))
def X8 (p0:(List Int)) (x1:(List (List Int))) (s3:(Int × (List (Int × Int)) × (List (Int × Int)))):Option (Qd (Int × (List (Int × Int)) × (List (Int × Int))) ((List (Int × Int)) × (List (Int × Int)))) :=
 if (decide (s3.1 < (p0.length:Int)))=true then
  (Qa fuel (Y5 p0 s3 x1) (0,s3.2.1,s3.2.2)).bind fun x47 =>
  some (.next (zw (s3.1+1),x47.1,x47.2))
 else
 some (.done (s3.2.1,s3.2.2))
def Jw (p0:(List Int)):Option Aa :=
 (Qbf p0).bind fun x1 =>
 (Qa fuel (X8 p0 x1) (0,([]:(List (Int × Int))),([]:(List (Int × Int))))).bind fun x49 =>
 some (Aa.mk (p0.length:Int) x49.1 x49.2)
def Ki (p0:(List Int)) (x1:Int) (s3:(Int × (List Int))) (a6:Int) (s8:(Int × (List Int))):Option (Qd (Int × (List Int)) (List Int)) :=
 if (decide (s8.1 < (p0.length:Int)))=true then
  (Q7 x1 s3.1).bind fun x11 =>
  if x11=true then
   (Q7 (zv (zb a6 ||| zb (zv (1*2^min (Int.toNat s3.1) zk))).toNat) s8.1).bind fun x15 =>
   if x15=true then
    (lkI s8.2 s8.1).bind fun a19 =>
    some (.next (zw (s8.1+1),(List.set s8.2 (Int.toNat s8.1) (zv (zb a19 ||| zb (zv (zb a6 ||| zb (zv (1*2^min (Int.toNat s3.1) zk))).toNat)).toNat))))
   else
   some (.next (zw (s8.1+1),s8.2))
  else
  some (.next (zw (s8.1+1),s8.2))
 else
 some (.done s8.2)
def Vw (p0:(List Int)) (x1:Int) (s3:(Int × (List Int))):Option (Qd (Int × (List Int)) (List Int)) :=
 if (decide (s3.1 < (p0.length:Int)))=true then
  (lkI p0 s3.1).bind fun a6 =>
  if 0<=s3.1 then
   (Qa fuel (Ki p0 x1 s3 a6) (0,s3.2)).bind fun x23 =>
   some (.next (zw (s3.1+1),x23))
  else none
 else
 some (.done s3.2)
def J8 (p0:(List Int)) (x25:(List Int)) (x1:Int) (p3:Int) (s29:(Int × Int)):Option (Qd (Int × Int) Int) :=
 if (decide (s29.2 < (p0.length:Int)))=true then
  (Q7 s29.1 s29.2).bind fun x32 =>
  if x32=true then
   (lkI x25 s29.2).bind fun a36 =>
   some (.next (zv (zb s29.1 ||| zb (zv (zb (zv (zb a36 &&& zb x1).toNat) &&& ~~~ zb p3).toNat)).toNat,zw (s29.2+1)))
  else
  some (.next (s29.1,zw (s29.2+1)))
 else
 some (.done s29.1)
def Vz (p0:(List Int)) (x25:(List Int)) (x1:Int) (p3:Int) (s26:(Int × Int)):Option (Qd (Int × Int) Int) :=
 if (decide (s26.2 < (p0.length:Int)))=true then
  (Qa fuel (J8 p0 x25 x1 p3) (s26.1,0)).bind fun x39 =>
  some (.next (x39,zw (s26.2+1)))
 else
 some (.done s26.1)
def Qa2 (p0:(List Int)) (p1:Int) (p2:Int) (p3:Int):Option Bool :=
 if 0<=p1 then
  if 0<=p2 then
   (Qaw p0 (zv (zb (zv (zb (zv (1*2^min (Int.toNat p1) zk)) ||| zb (zv (1*2^min (Int.toNat p2) zk))).toNat) ||| zb p3).toNat)).bind fun x1 =>
   if 0<=(p0.length:Int)/\(p0.length:Int)<=(p0.length:Int)/\(p0.length:Int)*8<=140737488355328 then
    (Qa fuel (Vw p0 x1) (0,(List.replicate (Int.toNat (p0.length:Int)) (0:Int)))).bind fun x25 =>
    if 0<=p1 then
     (Qa fuel (Vz p0 x25 x1 p3) (zv (1*2^min (Int.toNat p1) zk),0)).bind fun x41 =>
     (Q7 x41 p2).bind fun x42 =>
     some (!x42)
    else none
   else none
  else none
 else none
def Kh (p0:(List Int)) (s1:(Int × (List Ac))) (s4:(Int × (List Ac))) (s7:(Int × (List Ac))):Option (Qd (Int × (List Ac)) (List Ac)) :=
 if 0<=(p0.length:Int) then
  if (decide (s7.1 < (zv (1*2^min (Int.toNat (p0.length:Int)) zk))))=true then
   (Q7 s7.1 s1.1).bind fun x10 =>
   if (!x10)=true then
    (Q7 s7.1 s4.1).bind fun x14 =>
    if (!x14)=true then
     (Qa2 p0 s1.1 s4.1 s7.1).bind fun x18 =>
     if x18=true then
      if (s7.2++([(Ac.mk s1.1 s4.1 s7.1)]:(List Ac))).length*24<=140737488355328 then
       some (.next (zv (s7.1+1),(s7.2++([(Ac.mk s1.1 s4.1 s7.1)]:(List Ac)))))
      else none
     else
     some (.next (zv (s7.1+1),s7.2))
    else
    some (.next (zv (s7.1+1),s7.2))
   else
   some (.next (zv (s7.1+1),s7.2))
  else
  some (.done s7.2)
 else none
def Kj (p0:(List Int)) (s1:(Int × (List Ac))) (s4:(Int × (List Ac))):Option (Qd (Int × (List Ac)) (List Ac)) :=
 if (decide (s4.1 < (p0.length:Int)))=true then
  (Qa fuel (Kh p0 s1 s4) (0,s4.2)).bind fun x23 =>
  some (.next (zw (s4.1+1),x23))
 else
 some (.done s4.2)
def Qaq (p0:(List Int)) (s1:(Int × (List Ac))):Option (Qd (Int × (List Ac)) (List Ac)) :=
 if (decide (s1.1 < (p0.length:Int)))=true then
  (Qa fuel (Kj p0 s1) (zw (s1.1+1),s1.2)).bind fun x25 =>
  some (.next (zw (s1.1+1),x25))
 else
 some (.done s1.2)
def Qc3 (p0:(List Int)):Option (List Ac) :=
 (Qa fuel (Qaq p0) (0,([]:(List Ac)))).bind fun x27 =>
 some x27
def Yh (c0:Ac) (d0:(List Ac)):Option (List Ac) :=
 if (c0::d0).length*24<=140737488355328 then
  some (c0::d0)
 else none
def Ym  : Option (List Ac) :=
 some ([]:(List Ac))
def Yg  : Option (List Ac) :=
 some ([]:(List Ac))
def Qh (p0:(List Ac)):Option (List Ac) :=
 match p0 with
 | []=>(Yg).bind fun x=>(Ym).bind fun y=>if x=y then some x else none
 | c0::d0=>Yh c0 d0
def Ze (p0:(List (List Ac))) (s1:(Int × Int)):Option (Qd (Int × Int) Int) :=
 if (decide (s1.2 < (p0.length:Int)))=true then
  (lkI p0 s1.2).bind fun a4 =>
  if (decide ((zw (s1.1+(a4.length:Int))) < 0))=true then
   none
  else
  some (.next (zw (s1.1+(a4.length:Int)),zw (s1.2+1)))
 else
 some (.done s1.1)
def Jb (p0:(List (List Ac))) (s15:(Int × (List Ac))):Option (Qd (Int × (List Ac)) (List Ac)) :=
 if (decide (s15.1 < (p0.length:Int)))=true then
  (lkI p0 s15.1).bind fun a18 =>
  if (s15.2++a18).length*24<=140737488355328 then
   some (.next (zw (s15.1+1),(s15.2++a18)))
  else none
 else
 some (.done s15.2)
def Je (p0:(List (List Ac))) (s22:(Int × (List Ac))):Option (Qd (Int × (List Ac)) (List Ac)) :=
 if (decide (s22.1 < (p0.length:Int)))=true then
  (lkI p0 s22.1).bind fun a25 =>
  if (s22.2++a25).length*24<=140737488355328 then
   some (.next (zw (s22.1+1),(s22.2++a25)))
  else none
 else
 some (.done s22.2)
def Xb (p0:(List (List Ac))):Option (List Ac) :=
 (Qa fuel (Ze p0) (0,0)).bind fun x9 =>
 if (decide (x9 < 0))=true then
  none
 else
 if (decide ((zw (x9 - 0)) > 0))=true then
  if 0<=(zw (x9 - 0))/\(zw (x9 - 0))*24<=140737488355328 then
   if 0<=(0:Int)/\(0:Int)<=(0:Int)/\(0:Int)<=((List.replicate (Int.toNat (zw (x9 - 0))) ((Ac.mk 0 0 0):Ac)).length:Int) then
    (Qa fuel (Jb p0) (0,([]:(List Ac)))).bind fun x21 =>
    some x21
   else none
  else none
 else
 (Qa fuel (Je p0) (0,([]:(List Ac)))).bind fun x28 =>
 some x28
def Jj (s1:Int) (p1:(List Ac)) (a4:Ac) (s22:Int):Option (Qd Int (Unit ⊕ Unit)) :=
 if (decide (s22 < s1))=true then
  (lkI p1 s22).bind fun a25 =>
  if ((a25.X==a4.X) && ((a25.Y==a4.Y) && ((a25.Z==a4.Z) && true)))=true then
   some (.done (Sum.inl ()))
  else
  some (.next (zw (s22+1)))
 else
 some (.done (Sum.inr ()))
def Qbl (p1:(List Ac)) (p0:Int) (s1:Int):Option (Qd Int (Unit ⊕ Unit)) :=
 if (decide (s1 < (p1.length:Int)))=true then
  (lkI p1 s1).bind fun a4 =>
  if (decide (a4.X < 0))=true then
   some (.done (Sum.inl ()))
  else
  if (decide (a4.Y<=a4.X))=true then
   some (.done (Sum.inl ()))
  else
  if (decide (a4.Y>=p0))=true then
   some (.done (Sum.inl ()))
  else
  if 0<=p0 then
   if ((Int.fdiv a4.Z (2^min (Int.toNat p0) zk)) != 0)=true then
    some (.done (Sum.inl ()))
   else
   (Q7 a4.Z a4.X).bind fun x14 =>
   if x14=true then
    some (.done (Sum.inl ()))
   else
   (Q7 a4.Z a4.Y).bind fun x18 =>
   if x18=true then
    some (.done (Sum.inl ()))
   else
   (Qa fuel (Jj s1 p1 a4) 0).bind fun x29=>match x29 with
   | .inl x30=>(
    some (.done (Sum.inl ())))
   | .inr x31=>(
    some (.next (zw (s1+1))))
  else none
 else
 some (.done (Sum.inr ()))
def Jg (p0:Int) (p1:(List Ac)):Option Bool :=
 (Qa fuel (Qbl p1 p0) 0).bind fun x32=>match x32 with
 | .inl x33=>(
  some false)
 | .inr x34=>(
  some true)
def Qb9 (p0:(List Ac)) (p1:Ac) (s1:Int):Option (Qd Int (Unit ⊕ Unit)) :=
 if (decide (s1 < (p0.length:Int)))=true then
  (lkI p0 s1).bind fun a4 =>
  if ((a4.X==p1.X) && ((a4.Y==p1.Y) && ((a4.Z==p1.Z) && true)))=true then
   some (.done (Sum.inl ()))
  else
  some (.next (zw (s1+1)))
 else
 some (.done (Sum.inr ()))
def Qe5 (p0:(List Ac)) (p1:Ac):Option Bool :=
 (Qa fuel (Qb9 p0 p1) 0).bind fun x8=>match x8 with
 | .inl x9=>(
  some true)
 | .inr x10=>(
  some false)
def Xc (p0:(List Int)) (s1:Int) (s4:Int) (p1:(List Ac)) (s7:Int):Option (Qd Int (Unit ⊕ Unit)) :=
 if 0<=(p0.length:Int) then
  if (decide (s7 < (zv (1*2^min (Int.toNat (p0.length:Int)) zk))))=true then
   (Q7 s7 s1).bind fun x10 =>
   if (!x10)=true then
    (Q7 s7 s4).bind fun x14 =>
    if (!x14)=true then
     (Qa2 p0 s1 s4 s7).bind fun x18 =>
     (Qe5 p1 (Ac.mk s1 s4 s7)).bind fun x20 =>
     if (!(x18==x20))=true then
      some (.done (Sum.inl ()))
     else
     some (.next (zv (s7+1)))
    else
    some (.next (zv (s7+1)))
   else
   some (.next (zv (s7+1)))
  else
  some (.done (Sum.inr ()))
 else none
def Jn (p0:(List Int)) (s1:Int) (p1:(List Ac)) (s4:Int):Option (Qd Int (Unit ⊕ Unit)) :=
 if (decide (s4 < (p0.length:Int)))=true then
  (Qa fuel (Xc p0 s1 s4 p1) 0).bind fun x24=>match x24 with
  | .inl x25=>(
   some (.done (Sum.inl ())))
  | .inr x26=>(
   some (.next (zw (s4+1))))
 else
 some (.done (Sum.inr ()))
def Qbh (p0:(List Int)) (p1:(List Ac)) (s1:Int):Option (Qd Int (Unit ⊕ Unit)) :=
 if (decide (s1 < (p0.length:Int)))=true then
  (Qa fuel (Jn p0 s1 p1) (zw (s1+1))).bind fun x27=>match x27 with
  | .inl x28=>(
   some (.done (Sum.inl ())))
  | .inr x29=>(
   some (.next (zw (s1+1))))
 else
 some (.done (Sum.inr ()))
def Qd8 (p0:(List Int)) (p1:(List Ac)):Option Bool :=
 (Qa fuel (Qbh p0 p1) 0).bind fun x30=>match x30 with
 | .inl x31=>(
  some false)
 | .inr x32=>(
  some true)
def Kk (p1:(List Ac)) (s9:(Int × (List (Int × Int)))) (s12:(Int × (List (Int × Int)))) (s15:(Bool × Int)):Option (Qd (Bool × Int) Bool) :=
 if (decide (s15.2 < (p1.length:Int)))=true then
  if s15.1=true then
   some (.next (true,zw (s15.2+1)))
  else
  (lkI p1 s15.2).bind fun a20 =>
  if (a20.X==s9.1)=true then
   some (.next ((a20.Y==s12.1),zw (s15.2+1)))
  else
  some (.next (false,zw (s15.2+1)))
 else
 some (.done s15.1)
def Ke (p0:Int) (p1:(List Ac)) (s9:(Int × (List (Int × Int)))) (s12:(Int × (List (Int × Int)))):Option (Qd (Int × (List (Int × Int))) (List (Int × Int))) :=
 if (decide (s12.1 < p0))=true then
  (Qa fuel (Kk p1 s9 s12) (false,0)).bind fun x25 =>
  if (!x25)=true then
   if (s12.2++([(s9.1,s12.1)]:(List (Int × Int)))).length*16<=140737488355328 then
    some (.next (zw (s12.1+1),(s12.2++([(s9.1,s12.1)]:(List (Int × Int))))))
   else none
  else
  some (.next (zw (s12.1+1),s12.2))
 else
 some (.done s12.2)
def Kb (p0:Int) (p1:(List Ac)) (s9:(Int × (List (Int × Int)))):Option (Qd (Int × (List (Int × Int))) (List (Int × Int))) :=
 if (decide (s9.1 < p0))=true then
  (Qa fuel (Ke p0 p1 s9) (zw (s9.1+1),s9.2)).bind fun x29 =>
  some (.next (zw (s9.1+1),x29))
 else
 some (.done s9.2)
def Qar (x32:(List (List Int))) (p1:(List Ac)) (s34:Int):Option (Qd Int ((Int × (List (Int × Int)) × (List (Int × Int))) ⊕ Unit)) :=
 if (decide (s34 < (x32.length:Int)))=true then
  (lkI x32 s34).bind fun a37 =>
  (Qd8 a37 p1).bind fun x39 =>
  if x39=true then
   (Jw a37).bind fun x43 =>
   some (.done (Sum.inl (x43.N,x43.Arrows,x43.Lines)))
  else
  some (.next (zw (s34+1)))
 else
 some (.done (Sum.inr ()))
def Zp (p0:Int) (p1:(List Ac)):Option (Aa × Int) :=
 if (decide (p0 < 1))=true then
  some ((Aa.mk 0 ([]:(List (Int × Int))) ([]:(List (Int × Int)))),2)
 else
 if (decide (p0 > 5))=true then
  some ((Aa.mk 0 ([]:(List (Int × Int))) ([]:(List (Int × Int)))),2)
 else
 (Jg p0 p1).bind fun x5 =>
 if (!x5)=true then
  some ((Aa.mk 0 ([]:(List (Int × Int))) ([]:(List (Int × Int)))),311)
 else
 (Qa fuel (Kb p0 p1) (0,([]:(List (Int × Int))))).bind fun x31 =>
 (Yx p0 x31).bind fun x32 =>
 (Qa fuel (Qar x32 p1) 0).bind fun x45=>match x45 with
 | .inl x46=>(
  some ((Aa.mk x46.1 x46.2.1 x46.2.2),0))
 | .inr x47=>(
  some ((Aa.mk 0 ([]:(List (Int × Int))) ([]:(List (Int × Int)))),4))
def Yt  (s7:(Int × Int × (List Ac))):Option (Qd (Int × Int × (List Ac)) (List Ac)) :=
 if (decide (s7.1 < s7.2.1))=true then
  (lkI s7.2.2 s7.2.1).bind fun a10 =>
  (lkI s7.2.2 s7.1).bind fun a12 =>
  (lkI (List.set s7.2.2 (Int.toNat s7.1) a10) s7.2.1).bind fun a14 =>
  some (.next (zw (s7.1+1),zw (s7.2.1 - 1),(List.set (List.set s7.2.2 (Int.toNat s7.1) a10) (Int.toNat s7.2.1) a12)))
 else
 some (.done s7.2.2)
def K5 (x3:(List Ac)) (x19:(List Ac)) (p1:Int) (x20:(List Ac)) (x22:(List Ac)) (p2:Ac) (x24:(List Ac)) (p4:(List Ac)) (x40:(List Ac)) (p3:Int) (x1:(List Int)) (s44:Int):Option (Qd Int (Unit ⊕ Unit)) :=
 if (decide (s44 < 7))=true then
  (lkI ([x3,x19,(List.take ((Int.toNat (Int.tmod (zw (p1)) (x3.length:Int)) - Int.toNat (0:Int))+(sub x20 (zw ((Int.tmod (zw (p1)) (x3.length:Int))+1)) (x20.length:Int)).length) (ovr (ovr x20 (Int.toNat (Int.tmod (zw (p1)) (x3.length:Int)) - Int.toNat (0:Int)) (sub x20 (zw ((Int.tmod (zw (p1)) (x3.length:Int))+1)) (x20.length:Int))) (Int.toNat ((((Int.toNat (Int.tmod (zw (p1)) (x3.length:Int)) - Int.toNat (0:Int))+(sub x20 (zw ((Int.tmod (zw (p1)) (x3.length:Int))+1)) (x20.length:Int)).length):Nat):Int)) (List.replicate (Int.toNat (x20.length:Int) - Int.toNat ((((Int.toNat (Int.tmod (zw (p1)) (x3.length:Int)) - Int.toNat (0:Int))+(sub x20 (zw ((Int.tmod (zw (p1)) (x3.length:Int))+1)) (x20.length:Int)).length):Nat):Int)) ((Ac.mk 0 0 0):Ac)))),(List.set x22 (Int.toNat (Int.tmod (zw (p1)) (x3.length:Int))) p2),x24,(sub p4 0 (if 12 < (p4.length:Int) then 12 else (p4.length:Int))),(x40++([p2]:(List Ac)))]:(List (List Ac))) s44).bind fun a47 =>
  if (s44==5)=true then
   (Q9 p3 a47).bind fun x51 =>
   (Zp p3 a47).bind fun x53 =>
   if (x51.2 != x53.2)=true then
    some (.done (Sum.inl ()))
   else
   (Qz x51.1 x53.1).bind fun x57 =>
   if (!x57)=true then
    some (.done (Sum.inl ()))
   else
   some (.next (zw (s44+1)))
  else
  (Q9 (x1.length:Int) a47).bind fun x61 =>
  (Zp (x1.length:Int) a47).bind fun x63 =>
  if (x61.2 != x63.2)=true then
   some (.done (Sum.inl ()))
  else
  (Qz x61.1 x63.1).bind fun x67 =>
  if (!x67)=true then
   some (.done (Sum.inl ()))
  else
  some (.next (zw (s44+1)))
 else
 some (.done (Sum.inr ()))
def Qck (x3:(List Ac)) (x19:(List Ac)) (x20:(List Ac)) (x22:(List Ac)) (x24:(List Ac)) (p4:(List Ac)) (x78:(List Ac)) (p2:Ac) (p3:Int) (x1:(List Int)) (s81:Int):Option (Qd Int (Unit ⊕ Unit)) :=
 if (decide (s81 < 7))=true then
  (lkI ([x3,x19,x20,x22,x24,(sub p4 0 (if 12 < (p4.length:Int) then 12 else (p4.length:Int))),(x78++([p2]:(List Ac)))]:(List (List Ac))) s81).bind fun a84 =>
  if (s81==5)=true then
   (Q9 p3 a84).bind fun x88 =>
   (Zp p3 a84).bind fun x90 =>
   if (x88.2 != x90.2)=true then
    some (.done (Sum.inl ()))
   else
   (Qz x88.1 x90.1).bind fun x94 =>
   if (!x94)=true then
    some (.done (Sum.inl ()))
   else
   some (.next (zw (s81+1)))
  else
  (Q9 (x1.length:Int) a84).bind fun x98 =>
  (Zp (x1.length:Int) a84).bind fun x100 =>
  if (x98.2 != x100.2)=true then
   some (.done (Sum.inl ()))
  else
  (Qz x98.1 x100.1).bind fun x104 =>
  if (!x104)=true then
   some (.done (Sum.inl ()))
  else
  some (.next (zw (s81+1)))
 else
 some (.done (Sum.inr ()))
def Qbd (p0:Ae) (p1:Int) (p2:Ac) (p3:Int) (p4:(List Ac)):Option Bool :=
 (Vt (Ae.mk p0.N (p0.Order.1,p0.Order.2.1,p0.Order.2.2.1,p0.Order.2.2.2.1,p0.Order.2.2.2.2.1,p0.Order.2.2.2.2.2) p0.Edges) 5).bind fun x1 =>
 (Qc3 x1).bind fun x3 =>
 (Qh x3).bind fun x5 =>
 (Qa fuel (Yt) (0,zw ((x5.length:Int) - 1),x5)).bind fun x19 =>
 (Qh x3).bind fun x20 =>
 (Qh x3).bind fun x22 =>
 (Xb [x3,x3]).bind fun x24 =>
 if (decide ((x3.length:Int) > 0))=true then
  if (x3.length:Int)≠0 then
   if 0<=(Int.tmod (zw (p1)) (x3.length:Int))/\(Int.tmod (zw (p1)) (x3.length:Int))<=(zw ((Int.tmod (zw (p1)) (x3.length:Int))+1))/\(zw ((Int.tmod (zw (p1)) (x3.length:Int))+1))<=(x20.length:Int)/\(x20.length:Int)<=(x20.length:Int) then
    if ((Int.tmod (zw (p1)) (x3.length:Int))==(zw ((Int.tmod (zw (p1)) (x3.length:Int))+1)))=true then
     none
    else
    if 0<=(0:Int)/\(0:Int)<=(Int.tmod (zw (p1)) (x3.length:Int))/\(Int.tmod (zw (p1)) (x3.length:Int))<=(x20.length:Int) then
     if 0<=(zw ((Int.tmod (zw (p1)) (x3.length:Int))+1))/\(zw ((Int.tmod (zw (p1)) (x3.length:Int))+1))<=(x20.length:Int)/\(x20.length:Int)<=(x20.length:Int) then
      if (Int.toNat (Int.tmod (zw (p1)) (x3.length:Int)) - Int.toNat (0:Int)) < x20.length/\((Int.toNat (Int.tmod (zw (p1)) (x3.length:Int)) - Int.toNat (0:Int))+(sub x20 (zw ((Int.tmod (zw (p1)) (x3.length:Int))+1)) (x20.length:Int)).length)<=x20.length then
       if 0<=((((Int.toNat (Int.tmod (zw (p1)) (x3.length:Int)) - Int.toNat (0:Int))+(sub x20 (zw ((Int.tmod (zw (p1)) (x3.length:Int))+1)) (x20.length:Int)).length):Nat):Int)/\((((Int.toNat (Int.tmod (zw (p1)) (x3.length:Int)) - Int.toNat (0:Int))+(sub x20 (zw ((Int.tmod (zw (p1)) (x3.length:Int))+1)) (x20.length:Int)).length):Nat):Int)<=(x20.length:Int)/\(x20.length:Int)<=((ovr x20 (Int.toNat (Int.tmod (zw (p1)) (x3.length:Int)) - Int.toNat (0:Int)) (sub x20 (zw ((Int.tmod (zw (p1)) (x3.length:Int))+1)) (x20.length:Int))).length:Int) then
        if (Int.toNat ((((Int.toNat (Int.tmod (zw (p1)) (x3.length:Int)) - Int.toNat (0:Int))+(sub x20 (zw ((Int.tmod (zw (p1)) (x3.length:Int))+1)) (x20.length:Int)).length):Nat):Int))+(Int.toNat (x20.length:Int) - Int.toNat ((((Int.toNat (Int.tmod (zw (p1)) (x3.length:Int)) - Int.toNat (0:Int))+(sub x20 (zw ((Int.tmod (zw (p1)) (x3.length:Int))+1)) (x20.length:Int)).length):Nat):Int))<=(ovr x20 (Int.toNat (Int.tmod (zw (p1)) (x3.length:Int)) - Int.toNat (0:Int)) (sub x20 (zw ((Int.tmod (zw (p1)) (x3.length:Int))+1)) (x20.length:Int))).length then
         (lkI x22 (Int.tmod (zw (p1)) (x3.length:Int))).bind fun a36 =>
         (lkI x22 (Int.tmod (zw (p1)) (x3.length:Int))).bind fun a38 =>
         if 0<=(0:Int)/\(0:Int)<=(if 12 < (p4.length:Int) then 12 else (p4.length:Int))/\(if 12 < (p4.length:Int) then 12 else (p4.length:Int))<=(p4.length:Int) then
          (Qh x3).bind fun x40 =>
          if (x40++([p2]:(List Ac))).length*24<=140737488355328 then
           if x5.length=x19.length then
            (Qa fuel (K5 x3 x19 p1 x20 x22 p2 x24 p4 x40 p3 x1) 0).bind fun x71=>match x71 with
            | .inl x72=>(
             some false)
            | .inr x73=>(
             (Qc2).bind fun x74 =>
             some x74)
           else none
          else none
         else none
        else none
       else none
      else none
     else none
    else none
   else none
  else none
 else
 if 0<=(0:Int)/\(0:Int)<=(if 12 < (p4.length:Int) then 12 else (p4.length:Int))/\(if 12 < (p4.length:Int) then 12 else (p4.length:Int))<=(p4.length:Int) then
  (Qh x3).bind fun x78 =>
  if (x78++([p2]:(List Ac))).length*24<=140737488355328 then
   if x5.length=x19.length then
    (Qa fuel (Qck x3 x19 x20 x22 x24 p4 x78 p2 p3 x1) 0).bind fun x108=>match x108 with
    | .inl x109=>(
     some false)
    | .inr x110=>(
     (Qc2).bind fun x111 =>
     some x111)
   else none
  else none
 else none
end Go.Ab
