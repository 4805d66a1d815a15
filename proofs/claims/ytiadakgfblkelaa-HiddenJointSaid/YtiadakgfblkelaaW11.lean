/- Functions. No conditions. -/
import Derived.Test.YtiadakgfblkelaaEng10
set_option linter.all false
namespace Go.Ab
open Go
structure Qb where
 Grain:Int
 First:(List Int)
 Step:(List (List Int))
 Show:(List (List Int))
 deriving DecidableEq,Inhabited
structure Qc where
 Hidden:Qb
 seen:(List Int)
 deriving DecidableEq,Inhabited
structure Qe where
 N:Int
 D:Int
 deriving DecidableEq,Inhabited
@[reducible] def eTapi_Q (x:Qe):AV:=.agg [vI x.N,vI x.D]
structure Qn where
 Grain:Int
 States:Int
 Shows:Int
 L:(List Int)
 Seen:(List Int)
 deriving DecidableEq,Inhabited
@[reducible] def eTharuspexref17_Draft (x:Qn):AV:=.agg [.int .u8 x.Grain,.int .u8 x.States,.int .u8 x.Shows,eL true (AV.int .u8) x.L,eL true (AV.int .u8) x.Seen]
structure Qm where
 Card:Int
 Parents:(List Int)
 Rows:(List (List Int))
 deriving DecidableEq,Inhabited
@[reducible] def eTapi_Node (x:Qm):AV:=.agg [vI x.Card,eL true eI x.Parents,eL false (eL true eI) x.Rows]
structure Qp where
 Grain:Int
 Nodes:(List Qm)
 deriving DecidableEq,Inhabited
structure Qw where
 Net:Qp
 cards:(List Int)
 sets:(List Int)
 order:(List Int)
 deriving DecidableEq,Inhabited
structure Qv where
 Vars:(List Int)
 Cards:(List Int)
 W:(List Int)
 deriving DecidableEq,Inhabited
@[reducible] def Q7 (x:Qv):AV:=.agg [eL true eI x.Vars,eL true eI x.Cards,eL true eI x.W]
structure Qt where
 Net:Qp
 factors:(List Qv)
 steps:(List (List Int))
 deriving DecidableEq,Inhabited
structure Tjoint_place where
 node:Int
 value:Int
 deriving DecidableEq,Inhabited
@[reducible] def eTjoint_place (x:Tjoint_place):AV:=.agg [vI x.node,vI x.value]
@[reducible] def qTjoint_place (a b:Tjoint_place):Bool:=(a.node==b.node) && ((a.value==b.value) && true)
def Qa8 (p1:(List Int)) (s1:(Int × Int)):Option (Step (Int × Int) (Unit ⊕ Int)) :=
 if (decide (s1.2 < (p1.length:Int)))=true then
  (lkI p1 s1.2).bind fun a4 =>
  if (decide (a4 < 0))=true then
   some (.done (Sum.inl ()))
  else
  if (decide (a4 > s1.1))=true then
   some (.done (Sum.inl ()))
  else
  some (.next (zw (s1.1 - a4),zw (s1.2+1)))
 else
 some (.done (Sum.inr s1.1))
def Kc (p0:Int) (p1:(List Int)):Option Bool :=
 (Qd fuel (Qa8 p1) (p0,0)).bind fun x10=>match x10 with
 | .inl x11=>(
  some false)
 | .inr x12=>(
  some (x12==0))
def K3 (p3:(List (List Int))) (p2:Int) (p0:Int) (s3:Int):Option (Step Int (Unit ⊕ Unit)) :=
 if (decide (s3 < (p3.length:Int)))=true then
  (lkI p3 s3).bind fun a6 =>
  if ((a6.length:Int) != p2)=true then
   some (.done (Sum.inl ()))
  else
  (Kc p0 a6).bind fun x10 =>
  if (!x10)=true then
   some (.done (Sum.inl ()))
  else
  some (.next (zw (s3+1)))
 else
 some (.done (Sum.inr ()))
def V5 (p0:Int) (p1:Int) (p2:Int) (p3:(List (List Int))):Option Bool :=
 if ((p3.length:Int) != p1)=true then
  some false
 else
 (Qd fuel (K3 p3 p2 p0) 0).bind fun x14=>match x14 with
 | .inl x15=>(
  some false)
 | .inr x16=>(
  some true)
def Y8 (p0:Qb):Option Int :=
 if (decide (p0.Grain < 1))=true then
  some 170
 else
 if (decide (p0.Grain > 12))=true then
  some 170
 else
 if (decide ((p0.First.length:Int) < 1))=true then
  some 170
 else
 if (decide ((p0.First.length:Int) > 4))=true then
  some 170
 else
 if ((p0.Show.length:Int) != (p0.First.length:Int))=true then
  some 170
 else
 (lkI p0.Show 0).bind fun a11 =>
 if (decide ((a11.length:Int) < 1))=true then
  some 170
 else
 if (decide ((a11.length:Int) > 4))=true then
  some 170
 else
 (Kc p0.Grain p0.First).bind fun x17 =>
 if (!x17)=true then
  some 170
 else
 (V5 p0.Grain (p0.First.length:Int) (p0.First.length:Int) p0.Step).bind fun x21 =>
 if (!x21)=true then
  some 170
 else
 (V5 p0.Grain (p0.First.length:Int) (a11.length:Int) p0.Show).bind fun x25 =>
 if (!x25)=true then
  some 170
 else
 some 0
def J2 (p1:(List Int)) (p0:Qb) (s9:Int):Option (Step Int (Unit ⊕ Unit)) :=
 if (decide (s9 < (p1.length:Int)))=true then
  (lkI p1 s9).bind fun a12 =>
  if (decide (a12 < (-1)))=true then
   some (.done (Sum.inl ()))
  else
  (lkI p0.Show 0).bind fun a16 =>
  if (decide (a12≥(a16.length:Int)))=true then
   some (.done (Sum.inl ()))
  else
  some (.next (zw (s9+1)))
 else
 some (.done (Sum.inr ()))
def Zm (p0:Qb) (p1:(List Int)):Option (Qc × Int) :=
 (Y8 p0).bind fun x1 =>
 if (x1 != 0)=true then
  some ((Qc.mk (Qb.mk 0 [] [] []) []),x1)
 else
 if (decide ((p1.length:Int) < 1))=true then
  some ((Qc.mk (Qb.mk 0 [] [] []) []),2)
 else
 if (decide ((p1.length:Int) > 8))=true then
  some ((Qc.mk (Qb.mk 0 [] [] []) []),2)
 else
 (Qd fuel (J2 p1 p0) 0).bind fun x20=>match x20 with
 | .inl x21=>(
  some ((Qc.mk (Qb.mk 0 [] [] []) []),2))
 | .inr x22=>(
  some ((Qc.mk p0 p1),0))
def Z2 (p0:Qc) (p1:Int) (p2:Int):Option Int :=
 (lkI p0.seen p1).bind fun a1 =>
 if (decide (a1 < 0))=true then
  some p0.Hidden.Grain
 else
 (lkI p0.Hidden.Show p2).bind fun a5 =>
 (lkI a5 a1).bind fun a7 =>
 some a7
def X4 (p0:Qc) (s1:(Int × (List (List Int)))):Option (Step (Int × (List (List Int))) (List (List Int))) :=
 if (decide (s1.1 < (((List.replicate (Int.toNat (p0.seen.length:Int)) ([]:(List Int))).length):Int)))=true then
  if 0≤(p0.Hidden.First.length:Int)∧(p0.Hidden.First.length:Int)≤(p0.Hidden.First.length:Int)∧(p0.Hidden.First.length:Int)*8≤140737488355328 then
   (lkI s1.2 s1.1).bind fun a4 =>
   some (.next (zw (s1.1+1),(List.set s1.2 (Int.toNat s1.1) (List.replicate (Int.toNat (p0.Hidden.First.length:Int)) (0:Int)))))
  else none
 else
 some (.done s1.2)
def X5 (a19:(List Int)) (p0:Qc) (s12:(Int × (List (List Int)))) (s21:(Int × Int)):Option (Step (Int × Int) Int) :=
 if (decide (s21.2 < (a19.length:Int)))=true then
  (lkI a19 s21.2).bind fun a24 =>
  (lkI p0.Hidden.Step s21.2).bind fun a26 =>
  (lkI a26 s12.1).bind fun a28 =>
  some (.next (zw (s21.1+(zw (a24*a28))),zw (s21.2+1)))
 else
 some (.done s21.1)
def X3 (p0:Qc) (s9:(Int × (List (List Int)))) (s12:(Int × (List (List Int)))):Option (Step (Int × (List (List Int))) (List (List Int))) :=
 if (decide (s12.1 < (p0.Hidden.First.length:Int)))=true then
  (lkI p0.Hidden.First s12.1).bind fun a15 =>
  if (decide (s9.1 > 0))=true then
   (lkI s12.2 (zw (s9.1 - 1))).bind fun a19 =>
   (Qd fuel (X5 a19 p0 s12) (0,0)).bind fun x31 =>
   (lkI s12.2 s9.1).bind fun a32 =>
   (Z2 p0 s9.1 s12.1).bind fun x34 =>
   (lkI a32 s12.1).bind fun a36 =>
   some (.next (zw (s12.1+1),(List.set s12.2 (Int.toNat s9.1) (List.set a32 (Int.toNat s12.1) (zw (x31*x34))))))
  else
  (lkI s12.2 s9.1).bind fun a39 =>
  (Z2 p0 s9.1 s12.1).bind fun x41 =>
  (lkI a39 s12.1).bind fun a43 =>
  some (.next (zw (s12.1+1),(List.set s12.2 (Int.toNat s9.1) (List.set a39 (Int.toNat s12.1) (zw (a15*x41))))))
 else
 some (.done s12.2)
def Vc (p0:Qc) (s9:(Int × (List (List Int)))):Option (Step (Int × (List (List Int))) (List (List Int))) :=
 if (decide (s9.1 < (p0.seen.length:Int)))=true then
  (Qd fuel (X3 p0 s9) (0,s9.2)).bind fun x47 =>
  some (.next (zw (s9.1+1),x47))
 else
 some (.done s9.2)
def Z8 (p0:Qc):Option (List (List Int)) :=
 if 0≤(p0.seen.length:Int)∧(p0.seen.length:Int)≤(p0.seen.length:Int)∧(p0.seen.length:Int)*24≤140737488355328 then
  (Qd fuel (X4 p0) (0,(List.replicate (Int.toNat (p0.seen.length:Int)) ([]:(List Int))))).bind fun x8 =>
  (Qd fuel (Vc p0) (0,x8)).bind fun x49 =>
  some x49
 else none
def Qf2 (p0:Qb) (p1:(List Int)):Option ((List (List Int)) × Int) :=
 (Zm p0 p1).bind fun x1 =>
 if (x1.2 != 0)=true then
  some (([]:(List (List Int))),x1.2)
 else
 (Z8 x1.1).bind fun x5 =>
 some (x5,0)
def Z9 (p0:Qc) (s1:(Int × (List (List Int)))):Option (Step (Int × (List (List Int))) (List (List Int))) :=
 if (decide (s1.1 < (((List.replicate (Int.toNat (p0.seen.length:Int)) ([]:(List Int))).length):Int)))=true then
  if 0≤(p0.Hidden.First.length:Int)∧(p0.Hidden.First.length:Int)≤(p0.Hidden.First.length:Int)∧(p0.Hidden.First.length:Int)*8≤140737488355328 then
   (lkI s1.2 s1.1).bind fun a4 =>
   some (.next (zw (s1.1+1),(List.set s1.2 (Int.toNat s1.1) (List.replicate (Int.toNat (p0.Hidden.First.length:Int)) (0:Int)))))
  else none
 else
 some (.done s1.2)
def Zs (a22:(List Int)) (s9:(Int × (List (List Int)))) (s12:(Int × (List (List Int)))) (p0:Qc) (s24:(Int × (List (List Int)))):Option (Step (Int × (List (List Int))) (List (List Int))) :=
 if (decide (s24.1 < (a22.length:Int)))=true then
  (lkI s24.2 (zw (s9.1+1))).bind fun a27 =>
  (lkI a27 s24.1).bind fun a29 =>
  if s24.1 < (a22.length:Int) then
   (lkI s24.2 s9.1).bind fun a31 =>
   (lkI a31 s12.1).bind fun a33 =>
   (lkI p0.Hidden.Step s12.1).bind fun a35 =>
   (lkI a35 s24.1).bind fun a37 =>
   (Z2 p0 (zw (s9.1+1)) s24.1).bind fun x39 =>
   some (.next (zw (s24.1+1),(List.set s24.2 (Int.toNat s9.1) (List.set a31 (Int.toNat s12.1) (zw (a33+(zw ((zw (a37*x39))*a29))))))))
  else none
 else
 some (.done s24.2)
def Zi (p0:Qc) (s9:(Int × (List (List Int)))) (s12:(Int × (List (List Int)))):Option (Step (Int × (List (List Int))) (List (List Int))) :=
 if (decide (s12.1 < (p0.Hidden.First.length:Int)))=true then
  if (s9.1==(zw ((p0.seen.length:Int) - 1)))=true then
   (lkI s12.2 s9.1).bind fun a17 =>
   (lkI a17 s12.1).bind fun a19 =>
   some (.next (zw (s12.1+1),(List.set s12.2 (Int.toNat s9.1) (List.set a17 (Int.toNat s12.1) 1))))
  else
  (lkI s12.2 (zw (s9.1+1))).bind fun a22 =>
  (Qd fuel (Zs a22 s9 s12 p0) (0,s12.2)).bind fun x43 =>
  some (.next (zw (s12.1+1),x43))
 else
 some (.done s12.2)
def Zh (p0:Qc) (s9:(Int × (List (List Int)))):Option (Step (Int × (List (List Int))) (List (List Int))) :=
 if (decide (s9.1≥0))=true then
  (Qd fuel (Zi p0 s9) (0,s9.2)).bind fun x45 =>
  some (.next (zw (s9.1 - 1),x45))
 else
 some (.done s9.2)
def Z3 (p0:Qc):Option (List (List Int)) :=
 if 0≤(p0.seen.length:Int)∧(p0.seen.length:Int)≤(p0.seen.length:Int)∧(p0.seen.length:Int)*24≤140737488355328 then
  (Qd fuel (Z9 p0) (0,(List.replicate (Int.toNat (p0.seen.length:Int)) ([]:(List Int))))).bind fun x8 =>
  (Qd fuel (Zh p0) (zw ((p0.seen.length:Int) - 1),x8)).bind fun x47 =>
  some x47
 else none
def Qe9 (p0:Qb) (p1:(List Int)):Option ((List (List Int)) × Int) :=
 (Zm p0 p1).bind fun x1 =>
 if (x1.2 != 0)=true then
  some (([]:(List (List Int))),x1.2)
 else
 (Z3 x1.1).bind fun x5 =>
 some (x5,0)
def Qn6 (p0:(List Int)) (p1:(List Int)) (s3:Int):Option (Step Int (Unit ⊕ Unit)) :=
 if (decide (s3 < (p0.length:Int)))=true then
  (lkI p0 s3).bind fun a6 =>
  (lkI p1 s3).bind fun a8 =>
  if (a6 != a8)=true then
   some (.done (Sum.inl ()))
  else
  some (.next (zw (s3+1)))
 else
 some (.done (Sum.inr ()))
def Qj9 (p0:(List Int)) (p1:(List Int)):Option Bool :=
 if ((p0.length:Int) != (p1.length:Int))=true then
  some false
 else
 (Qd fuel (Qn6 p0 p1) 0).bind fun x12=>match x12 with
 | .inl x13=>(
  some false)
 | .inr x14=>(
  some true)
def Qin (p0:(List (List Int))) (p1:(List (List Int))) (s3:Int):Option (Step Int (Unit ⊕ Unit)) :=
 if (decide (s3 < (p0.length:Int)))=true then
  (lkI p0 s3).bind fun a6 =>
  (lkI p1 s3).bind fun a8 =>
  (Qj9 a6 a8).bind fun x10 =>
  if (!x10)=true then
   some (.done (Sum.inl ()))
  else
  some (.next (zw (s3+1)))
 else
 some (.done (Sum.inr ()))
def Qa6 (p0:(List (List Int))) (p1:(List (List Int))):Option Bool :=
 if ((p0.length:Int) != (p1.length:Int))=true then
  some false
 else
 (Qd fuel (Qin p0 p1) 0).bind fun x14=>match x14 with
 | .inl x15=>(
  some false)
 | .inr x16=>(
  some true)
def Qez (p0:(List (List Int))) (s1:(Int × Int)):Option (Step (Int × Int) Int) :=
 if (decide (s1.2 < (p0.length:Int)))=true then
  (lkI p0 s1.2).bind fun a4 =>
  if (decide ((zw (s1.1+(a4.length:Int))) < 0))=true then
   none
  else
  some (.next (zw (s1.1+(a4.length:Int)),zw (s1.2+1)))
 else
 some (.done s1.1)
def Qe3 (p0:(List (List Int))) (s15:(Int × (List Int))):Option (Step (Int × (List Int)) (List Int)) :=
 if (decide (s15.1 < (p0.length:Int)))=true then
  (lkI p0 s15.1).bind fun a18 =>
  if (s15.2++a18).length*8≤140737488355328 then
   some (.next (zw (s15.1+1),(s15.2++a18)))
  else none
 else
 some (.done s15.2)
def Qes (p0:(List (List Int))) (s22:(Int × (List Int))):Option (Step (Int × (List Int)) (List Int)) :=
 if (decide (s22.1 < (p0.length:Int)))=true then
  (lkI p0 s22.1).bind fun a25 =>
  if (s22.2++a25).length*8≤140737488355328 then
   some (.next (zw (s22.1+1),(s22.2++a25)))
  else none
 else
 some (.done s22.2)
def Qa5 (p0:(List (List Int))):Option (List Int) :=
 (Qd fuel (Qez p0) (0,0)).bind fun x9 =>
 if (decide (x9 < 0))=true then
  none
 else
 if (decide ((zw (x9 - 0)) > 0))=true then
  if 0≤(zw (x9 - 0))∧(zw (x9 - 0))*8≤140737488355328 then
   if 0≤(0:Int)∧(0:Int)≤(0:Int)∧(0:Int)≤((List.replicate (Int.toNat (zw (x9 - 0))) (0:Int)).length:Int) then
    (Qd fuel (Qe3 p0) (0,([]:(List Int)))).bind fun x21 =>
    some x21
   else none
  else none
 else
 (Qd fuel (Qes p0) (0,([]:(List Int)))).bind fun x28 =>
 some x28
def Qe7 (p0:Int) (p1:Int):Option (Int × Int) :=
 some (zv ((zv ((zv ((Int.fdiv p0 (2^min (Int.toNat 32) (IntKind.bits .u64)))*(Int.fdiv p1 (2^min (Int.toNat 32) (IntKind.bits .u64)))))+(Int.fdiv (zv ((zv ((Int.fdiv p0 (2^min (Int.toNat 32) (IntKind.bits .u64)))*(zv (zb p1 &&& zb 4294967295).toNat)))+(Int.fdiv (zv ((zv (zb p0 &&& zb 4294967295).toNat)*(zv (zb p1 &&& zb 4294967295).toNat))) (2^min (Int.toNat 32) (IntKind.bits .u64))))) (2^min (Int.toNat 32) (IntKind.bits .u64)))))+(Int.fdiv (zv ((zv (zb (zv ((zv ((Int.fdiv p0 (2^min (Int.toNat 32) (IntKind.bits .u64)))*(zv (zb p1 &&& zb 4294967295).toNat)))+(Int.fdiv (zv ((zv (zb p0 &&& zb 4294967295).toNat)*(zv (zb p1 &&& zb 4294967295).toNat))) (2^min (Int.toNat 32) (IntKind.bits .u64))))) &&& zb 4294967295).toNat)+(zv ((zv (zb p0 &&& zb 4294967295).toNat)*(Int.fdiv p1 (2^min (Int.toNat 32) (IntKind.bits .u64))))))) (2^min (Int.toNat 32) (IntKind.bits .u64)))),zv (p0*p1))
def Qgs (p0:Int) (p1:Int):Option (Int × Int) :=
 (Qe7 p0 p1).bind fun x1 =>
 some (x1.1,x1.2)
def Qe4  (s9:(Int × (List Int))):Option (Step (Int × (List Int)) (List Int)) :=
 if (decide (s9.1 < (s9.2.length:Int)))=true then
  if 0≤s9.1∧s9.1≤(s9.2.length:Int)∧(s9.2.length:Int)≤(s9.2.length:Int) then
   if 0≤(0:Int)∧(0:Int)≤s9.1∧s9.1≤(s9.2.length:Int) then
    some (.next (zw (s9.1+((min (sub s9.2 0 s9.1).length (Int.toNat (s9.2.length:Int) - Int.toNat s9.1):Nat):Int)),(ovr s9.2 (Int.toNat s9.1) (List.take (Int.toNat (s9.2.length:Int) - Int.toNat s9.1) (sub s9.2 0 s9.1)))))
   else none
  else none
 else
 some (.done s9.2)
def Qa4 (p0:(List Int)) (p1:Int):Option (List Int) :=
 if (decide (p1 < 0))=true then
  none
 else
 (Qgs (zv ((p0.length:Int))) (zv (p1))).bind fun x3 =>
 if (decide (x3.1 > 0))=true then
  none
 else
 if (decide (x3.2 > 9223372036854775807))=true then
  none
 else
 if 0≤(zw (x3.2))∧(zw (x3.2))≤(zw (x3.2))∧(zw (x3.2))*8≤140737488355328 then
  (Qd fuel (Qe4) (((min p0.length ((List.replicate (Int.toNat (zw (x3.2))) (0:Int)).length):Nat):Int),(ovr (List.replicate (Int.toNat (zw (x3.2))) (0:Int)) 0 (List.take ((List.replicate (Int.toNat (zw (x3.2))) (0:Int)).length) p0)))).bind fun x16 =>
  some x16
 else none
def K2 (p0:(List Int)) (s1:(Int × Int)):Option (Step (Int × Int) Int) :=
 if (decide (s1.2 < (p0.length:Int)))=true then
  (lkI p0 s1.2).bind fun a4 =>
  some (.next (zw (s1.1+a4),zw (s1.2+1)))
 else
 some (.done s1.1)
def Y7 (p0:(List Int)):Option Int :=
 (Qd fuel (K2 p0) (0,0)).bind fun x7 =>
 some x7
def Z4 (p0:Qc):Option ((List (List Int)) × Int) :=
 (Z8 p0).bind fun x1 =>
 (lkI x1 (zw ((x1.length:Int) - 1))).bind fun a3 =>
 (Y7 a3).bind fun x5 =>
 if (x5==0)=true then
  some (([]:(List (List Int))),7)
 else
 some (x1,0)
def Qfy  (s1:(Int × Int)):Option (Step (Int × Int) Int) :=
 if (s1.2 != 0)=true then
  if s1.2≠0 then
   some (.next (s1.2,Int.tmod s1.1 s1.2))
  else none
 else
 some (.done s1.1)
def Kr (p0:Int) (p1:Int):Option Qe :=
 (Qd fuel (Qfy) ((if (zw (0 - p0)) > p0 then (zw (0 - p0)) else p0),p1)).bind fun x5 =>
 if x5≠0 then
  if x5≠0 then
   some (Qe.mk (zw (Int.tdiv p0 x5)) (zw (Int.tdiv p1 x5)))
  else none
 else none
def J6 (p0:(List Int)) (x1:Int) (s3:(Int × (List Qe))):Option (Step (Int × (List Qe)) (List Qe)) :=
 if (decide (s3.1 < (p0.length:Int)))=true then
  (lkI p0 s3.1).bind fun a6 =>
  (Kr a6 x1).bind fun x8 =>
  (lkI s3.2 s3.1).bind fun a10 =>
  some (.next (zw (s3.1+1),(List.set s3.2 (Int.toNat s3.1) x8)))
 else
 some (.done s3.2)
def X9 (p0:(List Int)):Option (List Qe) :=
 (Y7 p0).bind fun x1 =>
 if 0≤(p0.length:Int)∧(p0.length:Int)≤(p0.length:Int)∧(p0.length:Int)*16≤140737488355328 then
  (Qd fuel (J6 p0 x1) (0,(List.replicate (Int.toNat (p0.length:Int)) ((Qe.mk 0 0):Qe)))).bind fun x14 =>
  some x14
 else none
def Qgg (p0:Qb) (p1:(List Int)) (p2:Int):Option ((List Qe) × Int) :=
 (Zm p0 p1).bind fun x1 =>
 if (x1.2 != 0)=true then
  some (([]:(List Qe)),x1.2)
 else
 if (decide (p2 < 0))=true then
  some (([]:(List Qe)),2)
 else
 if (decide (p2 > (zw (8 - (p1.length:Int)))))=true then
  some (([]:(List Qe)),2)
 else
 (Qa4 [-1] p2).bind fun x9 =>
 (Qa5 [p1,x9]).bind fun x11 =>
 (Z4 (Qc.mk x1.1.Hidden x11)).bind fun x13 =>
 if (x13.2 != 0)=true then
  some (([]:(List Qe)),x13.2)
 else
 (lkI x13.1 (zw ((x13.1.length:Int) - 1))).bind fun a17 =>
 (X9 a17).bind fun x19 =>
 some (x19,0)
def Vy (p1:Int) (p0:Int) (s1:(Int × Int)):Option (Step (Int × Int) Int) :=
 if (decide (s1.2 < p1))=true then
  some (.next (zw (s1.1*p0),zw (s1.2+1)))
 else
 some (.done s1.1)
def Kw (p0:Int) (p1:Int):Option Int :=
 (Qd fuel (Vy p1 p0) (1,0)).bind fun x5 =>
 some x5
def Kv (p0:Qb) (p1:(List Int)):Option (Qe × Int) :=
 (Zm p0 p1).bind fun x1 =>
 if (x1.2 != 0)=true then
  some ((Qe.mk 0 0),x1.2)
 else
 (Z8 x1.1).bind fun x5 =>
 (lkI x5 (zw ((p1.length:Int) - 1))).bind fun a7 =>
 (Y7 a7).bind fun x9 =>
 (Kw x1.1.Hidden.Grain (zw (2*(p1.length:Int)))).bind fun x11 =>
 (Kr x9 x11).bind fun x13 =>
 some (x13,0)
def Qo8  (s1:(List Int)):Option (Step (List Int) (List Int)) :=
 if (decide ((s1.length:Int) > 0))=true then
  (lkI s1 (zw ((s1.length:Int) - 1))).bind fun a4 =>
  if (a4==0)=true then
   if 0≤(0:Int)∧(0:Int)≤(zw ((s1.length:Int) - 1))∧(zw ((s1.length:Int) - 1))≤(s1.length:Int) then
    some (.next (sub s1 0 (zw ((s1.length:Int) - 1))))
   else none
  else
  some (.done s1)
 else
 some (.done s1)
def Ky (p0:(List Int)):Option (List Int) :=
 (Qd fuel (Qo8) p0).bind fun x9 =>
 some x9
def Qk6 (p0:(List Int)) (p1:(List Int)) (s5:Int):Option (Step Int (Int ⊕ Unit)) :=
 if (decide (s5≥0))=true then
  (lkI p0 s5).bind fun a8 =>
  (lkI p1 s5).bind fun a10 =>
  if (a8 != a10)=true then
   if (decide (a8 < a10))=true then
    some (.done (Sum.inl (-1)))
   else
   some (.done (Sum.inl 1))
  else
  some (.next (zw (s5 - 1)))
 else
 some (.done (Sum.inr ()))
def Qcs (p0:(List Int)) (p1:(List Int)):Option Int :=
 if ((p0.length:Int) != (p1.length:Int))=true then
  if (decide ((p0.length:Int) < (p1.length:Int)))=true then
   some (-1)
  else
  some 1
 else
 (Qd fuel (Qk6 p0 p1) (zw ((p0.length:Int) - 1))).bind fun x16=>match x16 with
 | .inl x17=>(
  some x17)
 | .inr x18=>(
  some 0)
def Qnh (p1:(List Int)) (s1:(Int × (List Int))) (p0:(List Int)) (s4:(Int × Int × (List Int))):Option (Step (Int × Int × (List Int)) (List Int)) :=
 if (decide (s4.2.1 < (p1.length:Int)))=true then
  (lkI s4.2.2 (zw (s1.1+s4.2.1))).bind fun a7 =>
  (lkI p0 s1.1).bind fun a10 =>
  (lkI p1 s4.2.1).bind fun a12 =>
  (lkI s4.2.2 (zw (s1.1+s4.2.1))).bind fun a14 =>
  some (.next (zw (Int.tdiv (zw ((zw (s4.1+a7))+(zw (a10*a12)))) 10000),zw (s4.2.1+1),(List.set s4.2.2 (Int.toNat (zw (s1.1+s4.2.1))) (Int.tmod (zw ((zw (s4.1+a7))+(zw (a10*a12)))) 10000))))
 else
 if (decide (s4.1 > 0))=true then
  (lkI s4.2.2 (zw (s1.1+s4.2.1))).bind fun a19 =>
  (lkI s4.2.2 (zw (s1.1+s4.2.1))).bind fun a22 =>
  some (.next (zw (Int.tdiv (zw (s4.1+a19)) 10000),zw (s4.2.1+1),(List.set s4.2.2 (Int.toNat (zw (s1.1+s4.2.1))) (Int.tmod (zw (s4.1+a19)) 10000))))
 else
 some (.done s4.2.2)
def Qnf (p0:(List Int)) (p1:(List Int)) (s1:(Int × (List Int))):Option (Step (Int × (List Int)) (List Int)) :=
 if (decide (s1.1 < (p0.length:Int)))=true then
  (Qd fuel (Qnh p1 s1 p0) (0,0,s1.2)).bind fun x26 =>
  some (.next (zw (s1.1+1),x26))
 else
 some (.done s1.2)
def Qev (p0:(List Int)) (p1:(List Int)):Option (List Int) :=
 if 0≤(zw ((p0.length:Int)+(p1.length:Int)))∧(zw ((p0.length:Int)+(p1.length:Int)))≤(zw ((p0.length:Int)+(p1.length:Int)))∧(zw ((p0.length:Int)+(p1.length:Int)))*8≤140737488355328 then
  (Qd fuel (Qnf p0 p1) (0,(List.replicate (Int.toNat (zw ((p0.length:Int)+(p1.length:Int)))) (0:Int)))).bind fun x28 =>
  (Ky x28).bind fun x29 =>
  some x29
 else none
def Qmy (p0:(List Int)) (p1:(List Int)) (s1:(Int × Int × (List Int))):Option (Step (Int × Int × (List Int)) (List Int)) :=
 if (decide (s1.2.1 < (p0.length:Int)))=true then
  (lkI p0 s1.2.1).bind fun a4 =>
  if (decide (s1.2.1 < (p1.length:Int)))=true then
   (lkI p1 s1.2.1).bind fun a8 =>
   if (decide ((zw ((zw (a4 - s1.1)) - a8)) < 0))=true then
    if (s1.2.2++([zw ((zw ((zw (a4 - s1.1)) - a8))+10000)]:(List Int))).length*8≤140737488355328 then
     some (.next (1,zw (s1.2.1+1),(s1.2.2++([zw ((zw ((zw (a4 - s1.1)) - a8))+10000)]:(List Int)))))
    else none
   else
   if (s1.2.2++([zw ((zw (a4 - s1.1)) - a8)]:(List Int))).length*8≤140737488355328 then
    some (.next (0,zw (s1.2.1+1),(s1.2.2++([zw ((zw (a4 - s1.1)) - a8)]:(List Int)))))
   else none
  else
  if (decide ((zw (a4 - s1.1)) < 0))=true then
   if (s1.2.2++([zw ((zw (a4 - s1.1))+10000)]:(List Int))).length*8≤140737488355328 then
    some (.next (1,zw (s1.2.1+1),(s1.2.2++([zw ((zw (a4 - s1.1))+10000)]:(List Int)))))
   else none
  else
  if (s1.2.2++([zw (a4 - s1.1)]:(List Int))).length*8≤140737488355328 then
   some (.next (0,zw (s1.2.1+1),(s1.2.2++([zw (a4 - s1.1)]:(List Int)))))
  else none
 else
 some (.done s1.2.2)
def Qjr (p0:(List Int)) (p1:(List Int)):Option (List Int) :=
 (Qd fuel (Qmy p0 p1) (0,0,([]:(List Int)))).bind fun x15 =>
 (Ky x15).bind fun x16 =>
 some x16
def Ql8 (p1:(List Int)) (x8:(List Int)) (s10:(Int × Int × Int)):Option (Step (Int × Int × Int) (Int × Int)) :=
 if (decide (s10.2.2≥(if (zw ((zw ((p1.length:Int) - 1)) - 1)) > 0 then (zw ((zw ((p1.length:Int) - 1)) - 1)) else 0)))=true then
  if (decide (s10.2.2 < (x8.length:Int)))=true then
   (lkI x8 s10.2.2).bind fun a15 =>
   if (decide (s10.2.2≤(zw ((p1.length:Int) - 1))))=true then
    (lkI p1 s10.2.2).bind fun a19 =>
    some (.next (zw ((zw (s10.1*10000))+a19),zw ((zw (s10.2.1*10000))+a15),zw (s10.2.2 - 1)))
   else
   some (.next (s10.1,zw ((zw (s10.2.1*10000))+a15),zw (s10.2.2 - 1)))
  else
  if (decide (s10.2.2≤(zw ((p1.length:Int) - 1))))=true then
   (lkI p1 s10.2.2).bind fun a23 =>
   some (.next (zw ((zw (s10.1*10000))+a23),zw (s10.2.1*10000),zw (s10.2.2 - 1)))
  else
  some (.next (s10.1,zw (s10.2.1*10000),zw (s10.2.2 - 1)))
 else
 some (.done (s10.1,s10.2.1))
def Qmb (p1:(List Int)) (x8:(List Int)) (s27:(Int × Int)):Option (Step (Int × Int) Int) :=
 if (decide (s27.1 < s27.2))=true then
  (Qev p1 [zw (Int.tdiv (zw ((zw (s27.1+s27.2))+1)) 2)]).bind fun x30 =>
  (Qcs x30 x8).bind fun x32 =>
  if (decide (x32≤0))=true then
   some (.next (zw (Int.tdiv (zw ((zw (s27.1+s27.2))+1)) 2),s27.2))
  else
  some (.next (s27.1,zw ((zw (Int.tdiv (zw ((zw (s27.1+s27.2))+1)) 2)) - 1)))
 else
 some (.done s27.1)
def Ql9 (p0:(List Int)) (p1:(List Int)) (s3:((List Int) × Int × (List Int))):Option (Step ((List Int) × Int × (List Int)) ((List Int) × (List Int))) :=
 if (decide (s3.2.1≥0))=true then
  (lkI p0 s3.2.1).bind fun a6 =>
  if (([a6]:(List Int))++s3.1).length*8≤140737488355328 then
   (Ky (([a6]:(List Int))++s3.1)).bind fun x8 =>
   (Qd fuel (Ql8 p1 x8) (0,0,zw ((zw ((p1.length:Int) - 1))+1))).bind fun x26 =>
   if (zw (x26.1+1))≠0 then
    if x26.1≠0 then
     (Qd fuel (Qmb p1 x8) (zw (Int.tdiv x26.2 (zw (x26.1+1))),zw (Int.tdiv x26.2 x26.1))).bind fun x37 =>
     (lkI s3.2.2 s3.2.1).bind fun a38 =>
     (Ky [x37]).bind fun x40 =>
     (Qev p1 x40).bind fun x42 =>
     (Qjr x8 x42).bind fun x44 =>
     some (.next (x44,zw (s3.2.1 - 1),(List.set s3.2.2 (Int.toNat s3.2.1) x37)))
    else none
   else none
  else none
 else
 some (.done (s3.1,s3.2.2))
def Qaq (p0:(List Int)) (p1:(List Int)):Option ((List Int) × (List Int)) :=
 if (decide ((p0.length:Int)≤(zw ((p1.length:Int) - 1))))=true then
  if p0.length*8≤140737488355328 then
   some ([],p0)
  else none
 else
 if 0≤(zw ((p0.length:Int) - (zw ((p1.length:Int) - 1))))∧(zw ((p0.length:Int) - (zw ((p1.length:Int) - 1))))≤(zw ((p0.length:Int) - (zw ((p1.length:Int) - 1))))∧(zw ((p0.length:Int) - (zw ((p1.length:Int) - 1))))*8≤140737488355328 then
  if 0≤(zw ((p0.length:Int) - (zw ((p1.length:Int) - 1))))∧(zw ((p0.length:Int) - (zw ((p1.length:Int) - 1))))≤(p0.length:Int)∧(p0.length:Int)≤(p0.length:Int) then
   if (sub p0 (zw ((p0.length:Int) - (zw ((p1.length:Int) - 1)))) (p0.length:Int)).length*8≤140737488355328 then
    (Qd fuel (Ql9 p0 p1) ((sub p0 (zw ((p0.length:Int) - (zw ((p1.length:Int) - 1)))) (p0.length:Int)),zw ((((List.replicate (Int.toNat (zw ((p0.length:Int) - (zw ((p1.length:Int) - 1))))) (0:Int)).length):Int) - 1),(List.replicate (Int.toNat (zw ((p0.length:Int) - (zw ((p1.length:Int) - 1))))) (0:Int)))).bind fun x48 =>
    (Ky x48.2).bind fun x49 =>
    some (x49,x48.1)
   else none
  else none
 else none
def Qpa  (s1:((List Int) × (List Int))):Option (Step ((List Int) × (List Int)) (List Int)) :=
 if (decide ((s1.2.length:Int) > 0))=true then
  (Qaq s1.1 s1.2).bind fun x4 =>
  some (.next (s1.2,x4.2))
 else
 some (.done s1.1)
def Qmm (p0:(List Int)) (p1:(List Int)):Option (List Int) :=
 (Qd fuel (Qpa) (p0,p1)).bind fun x7 =>
 some x7
def Qma  (s1:(Int × (List Int))):Option (Step (Int × (List Int)) (List Int)) :=
 if (s1.1 != 0)=true then
  if (s1.2++([(if (zw (0 - (Int.tmod s1.1 10000))) > (Int.tmod s1.1 10000) then (zw (0 - (Int.tmod s1.1 10000))) else (Int.tmod s1.1 10000))]:(List Int))).length*8≤140737488355328 then
   some (.next (zw (Int.tdiv s1.1 10000),(s1.2++([(if (zw (0 - (Int.tmod s1.1 10000))) > (Int.tmod s1.1 10000) then (zw (0 - (Int.tmod s1.1 10000))) else (Int.tmod s1.1 10000))]:(List Int)))))
  else none
 else
 some (.done s1.2)
def Qao (p0:Int):Option (List Int) :=
 (Qd fuel (Qma) (p0,([]:(List Int)))).bind fun x5 =>
 some x5
def Qnj (p0:(List Int)) (s7:(Int × Int)):Option (Step (Int × Int) Int) :=
 if (decide (s7.2≥0))=true then
  (lkI p0 s7.2).bind fun a10 =>
  some (.next (zw ((zw (10000*s7.1))+a10),zw (s7.2 - 1)))
 else
 some (.done s7.1)
def Qe1 (p0:(List Int)):Option (Int × Bool) :=
 (Qao 4611686018427387903).bind fun x1 =>
 (Qcs p0 x1).bind fun x3 =>
 if (decide (x3 > 0))=true then
  some (0,false)
 else
 (Qd fuel (Qnj p0) (0,zw ((p0.length:Int) - 1))).bind fun x13 =>
 some (x13,true)
def Qkd (p0:Bool) (p1:(List Int)) (p2:(List Int)):Option (Qe × Bool) :=
 (Qmm p1 p2).bind fun x1 =>
 (Qaq p1 x1).bind fun x3 =>
 (Qaq p2 x1).bind fun x5 =>
 (Qe1 x3.1).bind fun x7 =>
 (Qe1 x5.1).bind fun x9 =>
 if (!x7.2)=true then
  some ((Qe.mk 0 0),false)
 else
 if (!x9.2)=true then
  some ((Qe.mk 0 0),false)
 else
 if p0=true then
  some ((Qe.mk (zw (0 - x7.1)) x9.1),true)
 else
 some ((Qe.mk x7.1 x9.1),true)
def Qlg (p0:Int) (p1:Int):Option (Qe × Bool) :=
 (Qao p0).bind fun x1 =>
 (Qao p1).bind fun x3 =>
 (Qkd (!((decide (p0 < 0))==(decide (p1 < 0)))) x1 x3).bind fun x5 =>
 some (x5.1,x5.2)
def Qow (p0:Int) (p1:Int):Option Qe :=
 (Qlg p0 p1).bind fun x1 =>
 some x1.1
def Kg (p0:Int) (p1:Int):Option Qe :=
 (Qow p0 p1).bind fun x1 =>
 some x1
def Qal (x1:(Qc × Int)) (s9:(Int × (List (List Int)))):Option (Step (Int × (List (List Int))) (List (List Int))) :=
 if (decide (s9.1 < (((List.replicate (Int.toNat (x1.1.seen.length:Int)) ([]:(List Int))).length):Int)))=true then
  if 0≤(x1.1.Hidden.First.length:Int)∧(x1.1.Hidden.First.length:Int)≤(x1.1.Hidden.First.length:Int)∧(x1.1.Hidden.First.length:Int)*8≤140737488355328 then
   (lkI s9.2 s9.1).bind fun a12 =>
   some (.next (zw (s9.1+1),(List.set s9.2 (Int.toNat s9.1) (List.replicate (Int.toNat (x1.1.Hidden.First.length:Int)) (0:Int)))))
  else none
 else
 some (.done s9.2)
def Qak (a30:(List Int)) (s17:(Int × (List (List Int)))) (s20:(Int × (List (List Int)))) (x1:(Qc × Int)) (s32:(Int × (List (List Int)))):Option (Step (Int × (List (List Int))) (List (List Int))) :=
 if (decide (s32.1 < (a30.length:Int)))=true then
  (lkI s32.2 (zw (s17.1+1))).bind fun a35 =>
  (lkI a35 s32.1).bind fun a37 =>
  if s32.1 < (a30.length:Int) then
   (lkI s32.2 s17.1).bind fun a39 =>
   (lkI a39 s20.1).bind fun a41 =>
   (lkI x1.1.Hidden.Step s20.1).bind fun a43 =>
   (lkI a43 s32.1).bind fun a45 =>
   (Z2 x1.1 (zw (s17.1+1)) s32.1).bind fun x47 =>
   some (.next (zw (s32.1+1),(List.set s32.2 (Int.toNat s17.1) (List.set a39 (Int.toNat s20.1) (zw (a41+(zw ((zw (a45*x47))*a37))))))))
  else none
 else
 some (.done s32.2)
def Jq (x1:(Qc × Int)) (s17:(Int × (List (List Int)))) (s20:(Int × (List (List Int)))):Option (Step (Int × (List (List Int))) (List (List Int))) :=
 if (decide (s20.1 < (x1.1.Hidden.First.length:Int)))=true then
  if (s17.1==(zw ((x1.1.seen.length:Int) - 1)))=true then
   (lkI s20.2 s17.1).bind fun a25 =>
   (lkI a25 s20.1).bind fun a27 =>
   some (.next (zw (s20.1+1),(List.set s20.2 (Int.toNat s17.1) (List.set a25 (Int.toNat s20.1) 1))))
  else
  (lkI s20.2 (zw (s17.1+1))).bind fun a30 =>
  (Qd fuel (Qak a30 s17 s20 x1) (0,s20.2)).bind fun x51 =>
  some (.next (zw (s20.1+1),x51))
 else
 some (.done s20.2)
def Jt (x1:(Qc × Int)) (s17:(Int × (List (List Int)))):Option (Step (Int × (List (List Int))) (List (List Int))) :=
 if (decide (s17.1≥0))=true then
  (Qd fuel (Jq x1 s17) (0,s17.2)).bind fun x53 =>
  some (.next (zw (s17.1 - 1),x53))
 else
 some (.done s17.2)
def Jr (a59:(List Int)) (s56:(Int × (List (List Qe)) × (List (List Int)))) (x5:((List (List Int)) × Int)) (s61:(Int × (List (List Int)))):Option (Step (Int × (List (List Int))) (List (List Int))) :=
 if (decide (s61.1 < (a59.length:Int)))=true then
  (lkI s61.2 s56.1).bind fun a64 =>
  (lkI a64 s61.1).bind fun a66 =>
  if s61.1 < (a59.length:Int) then
   (lkI x5.1 s56.1).bind fun a68 =>
   (lkI a68 s61.1).bind fun a70 =>
   if s61.1 < (a59.length:Int) then
    some (.next (zw (s61.1+1),(List.set s61.2 (Int.toNat s56.1) (List.set a64 (Int.toNat s61.1) (zw (a66*a70))))))
   else none
  else none
 else
 some (.done s61.2)
def Jn (x55:(List (List Int))) (x5:((List (List Int)) × Int)) (s56:(Int × (List (List Qe)) × (List (List Int)))):Option (Step (Int × (List (List Qe)) × (List (List Int))) (List (List Qe))) :=
 if (decide (s56.1 < (x55.length:Int)))=true then
  (lkI s56.2.2 s56.1).bind fun a59 =>
  (Qd fuel (Jr a59 s56 x5) (0,s56.2.2)).bind fun x74 =>
  (lkI x74 s56.1).bind fun a75 =>
  if a59.length=a75.length then
   (X9 a75).bind fun x77 =>
   if (s56.2.1++([x77]:(List (List Qe)))).length*24≤140737488355328 then
    some (.next (zw (s56.1+1),(s56.2.1++([x77]:(List (List Qe)))),x74))
   else none
  else none
 else
 some (.done s56.2.1)
def Vh (p0:Qb) (p1:(List Int)):Option ((List (List Qe)) × Int) :=
 (Zm p0 p1).bind fun x1 =>
 if (x1.2 != 0)=true then
  some (([]:(List (List Qe))),x1.2)
 else
 (Z4 x1.1).bind fun x5 =>
 if (x5.2 != 0)=true then
  some (([]:(List (List Qe))),x5.2)
 else
 if 0≤(x1.1.seen.length:Int)∧(x1.1.seen.length:Int)≤(x1.1.seen.length:Int)∧(x1.1.seen.length:Int)*24≤140737488355328 then
  (Qd fuel (Qal x1) (0,(List.replicate (Int.toNat (x1.1.seen.length:Int)) ([]:(List Int))))).bind fun x16 =>
  (Qd fuel (Jt x1) (zw ((x1.1.seen.length:Int) - 1),x16)).bind fun x55 =>
  (Qd fuel (Jn x55 x5) (0,([]:(List (List Qe))),x55)).bind fun x81 =>
  some (x81,0)
 else none
def Qb2 (p0:(List Qe)) (p1:(List Qe)) (s3:Int):Option (Step Int (Unit ⊕ Unit)) :=
 if (decide (s3 < (p0.length:Int)))=true then
  (lkI p0 s3).bind fun a6 =>
  (lkI p1 s3).bind fun a8 =>
  if (!((a6.N==a8.N) && ((a6.D==a8.D) && true)))=true then
   some (.done (Sum.inl ()))
  else
  some (.next (zw (s3+1)))
 else
 some (.done (Sum.inr ()))
def Qbp (p0:(List Qe)) (p1:(List Qe)):Option Bool :=
 if ((p0.length:Int) != (p1.length:Int))=true then
  some false
 else
 (Qd fuel (Qb2 p0 p1) 0).bind fun x12=>match x12 with
 | .inl x13=>(
  some false)
 | .inr x14=>(
  some true)
def Qmc (p0:(List (List Qe))) (p1:(List (List Qe))) (s3:Int):Option (Step Int (Unit ⊕ Unit)) :=
 if (decide (s3 < (p0.length:Int)))=true then
  (lkI p0 s3).bind fun a6 =>
  (lkI p1 s3).bind fun a8 =>
  (Qbp a6 a8).bind fun x10 =>
  if (!x10)=true then
   some (.done (Sum.inl ()))
  else
  some (.next (zw (s3+1)))
 else
 some (.done (Sum.inr ()))
def Qhp (p0:(List (List Qe))) (p1:(List (List Qe))):Option Bool :=
 if ((p0.length:Int) != (p1.length:Int))=true then
  some false
 else
 (Qd fuel (Qmc p0 p1) 0).bind fun x14=>match x14 with
 | .inl x15=>(
  some false)
 | .inr x16=>(
  some true)
def Qdk (p0:(List Qe)) (p1:(List Qe)) (s3:Int):Option (Step Int (Unit ⊕ Unit)) :=
 if (decide (s3 < (p0.length:Int)))=true then
  (lkI p0 s3).bind fun a6 =>
  (lkI p1 s3).bind fun a8 =>
  if (!((a6.N==a8.N) && ((a6.D==a8.D) && true)))=true then
   some (.done (Sum.inl ()))
  else
  some (.next (zw (s3+1)))
 else
 some (.done (Sum.inr ()))
def Zo (p0:(List Qe)) (p1:(List Qe)):Option Bool :=
 if ((p0.length:Int) != (p1.length:Int))=true then
  some false
 else
 (Qd fuel (Qdk p0 p1) 0).bind fun x12=>match x12 with
 | .inl x13=>(
  some false)
 | .inr x14=>(
  some true)
def Qib  : Option Qb :=
 some (Qb.mk 4 ([1,3]:(List Int)) ([[2,2],[0,4]]:(List (List Int))) ([[4,0],[1,3]]:(List (List Int))))
def Qex  : Option Bool :=
 (Qib).bind fun x1 =>
 (Qf2 x1 [0,1]).bind fun x3 =>
 (Qe9 x1 [0,1]).bind fun x5 =>
 (Kv x1 [0,1]).bind fun x7 =>
 (Vh x1 [0,1]).bind fun x9 =>
 (Qgg x1 [0] 1).bind fun x11 =>
 if (x3.2==0)=true then
  if (x5.2==0)=true then
   if (x7.2==0)=true then
    if (x9.2==0)=true then
     if (x11.2==0)=true then
      (Qa6 x3.1 [[4,3],[0,60]]).bind fun x23 =>
      if x23=true then
       (Qa6 x5.1 [[6,12],[1,1]]).bind fun x27 =>
       if x27=true then
        (Kg 15 64).bind fun x31 =>
        if ((x7.1.N==x31.N) && ((x7.1.D==x31.D) && true))=true then
         (Kg 2 5).bind fun x35 =>
         (Kg 3 5).bind fun x37 =>
         (Kg 0 1).bind fun x39 =>
         (Kg 1 1).bind fun x41 =>
         (Qhp x9.1 [[x35,x37],[x39,x41]]).bind fun x43 =>
         if x43=true then
          (Kg 2 7).bind fun x47 =>
          (Kg 5 7).bind fun x49 =>
          (Zo x11.1 [x47,x49]).bind fun x51 =>
          if x51=true then
           (Y8 x1).bind fun x55 =>
           if (x55==0)=true then
            (Y8 (Qb.mk 0 [] [] [])).bind fun x59 =>
            some (x59==170)
           else
           some false
          else
          some false
         else
         some false
        else
        some false
       else
       some false
      else
      some false
     else
     some false
    else
    some false
   else
   some false
  else
  some false
 else
 some false
def J9 (p0:Qn) (s1:(Int × (List Int))):Option (Step (Int × (List Int)) (List Int)) :=
 if (decide (s1.1 < (p0.Seen.length:Int)))=true then
  if (decide (s1.1 < 8))=true then
   (lkI p0.Seen s1.1).bind fun a6 =>
   if (zw (2+(zw (Int.tmod p0.Shows 4))))≠0 then
    if (s1.2++([zw ((Int.tmod (zw (a6)) (zw (2+(zw (Int.tmod p0.Shows 4))))) - 1)]:(List Int))).length*8≤140737488355328 then
     some (.next (zw (s1.1+1),(s1.2++([zw ((Int.tmod (zw (a6)) (zw (2+(zw (Int.tmod p0.Shows 4))))) - 1)]:(List Int)))))
    else none
   else none
  else
  some (.done s1.2)
 else
 some (.done s1.2)
def Ve (p0:Qn):Option (List Int) :=
 (Qd fuel (J9 p0) (0,([]:(List Int)))).bind fun x9 =>
 if ((x9.length:Int)==0)=true then
  some ([-1]:(List Int))
 else
 some x9
def Qbv (p0:Int) (p2:(List Int)) (s1:(Int × Int × (List Int))):Option (Step (Int × Int × (List Int)) (List Int)) :=
 if (decide (s1.2.1 < p0))=true then
  if (decide (s1.2.1 < (zw (p0 - 1))))=true then
   if (decide (s1.2.1 < (p2.length:Int)))=true then
    (lkI p2 s1.2.1).bind fun a8 =>
    if (zw (s1.1+1))≠0 then
     if (s1.2.2++([Int.tmod (zw (a8)) (zw (s1.1+1))]:(List Int))).length*8≤140737488355328 then
      some (.next (zw (s1.1 - (Int.tmod (zw (a8)) (zw (s1.1+1)))),zw (s1.2.1+1),(s1.2.2++([Int.tmod (zw (a8)) (zw (s1.1+1))]:(List Int)))))
     else none
    else none
   else
   if (s1.2.2++([0]:(List Int))).length*8≤140737488355328 then
    some (.next (zw (s1.1 - 0),zw (s1.2.1+1),(s1.2.2++([0]:(List Int)))))
   else none
  else
  if (s1.2.2++([s1.1]:(List Int))).length*8≤140737488355328 then
   some (.next (zw (s1.1 - s1.1),zw (s1.2.1+1),(s1.2.2++([s1.1]:(List Int)))))
  else none
 else
 some (.done s1.2.2)
def Jk (p0:Int) (p1:Int) (p2:(List Int)):Option (List Int) :=
 (Qd fuel (Qbv p0 p2) (p1,0,([]:(List Int)))).bind fun x11 =>
 some x11
def Kd (p0:Qn) (p1:Int) (s3:(Int × (List Int))):Option (Step (Int × (List Int)) (List Int)) :=
 if (decide (s3.1 < 4))=true then
  if (p0.L.length:Int)≠0 then
   (lkI p0.L (Int.tmod (zw (p1+s3.1)) (p0.L.length:Int))).bind fun a6 =>
   if (s3.2++([a6]:(List Int))).length*1≤140737488355328 then
    some (.next (zw (s3.1+1),(s3.2++([a6]:(List Int)))))
   else none
  else none
 else
 some (.done s3.2)
def Ym (p0:Qn) (p1:Int):Option (List Int) :=
 if ((p0.L.length:Int)==0)=true then
  some ([]:(List Int))
 else
 (Qd fuel (Kd p0 p1) (0,([]:(List Int)))).bind fun x9 =>
 some x9
def Jc (p0:Qn) (s5:(Int × (List (List Int)) × (List (List Int)))):Option (Step (Int × (List (List Int)) × (List (List Int))) ((List (List Int)) × (List (List Int)))) :=
 if (decide (s5.1 < (zw (1+(zw (Int.tmod p0.States 4))))))=true then
  (Ym p0 (zw (4+(zw (8*s5.1))))).bind fun x8 =>
  (Jk (zw (1+(zw (Int.tmod p0.States 4)))) (zw (1+(zw (Int.tmod p0.Grain 12)))) x8).bind fun x10 =>
  if (s5.2.1++([x10]:(List (List Int)))).length*24≤140737488355328 then
   (Ym p0 (zw (8+(zw (8*s5.1))))).bind fun x12 =>
   (Jk (zw (1+(zw (Int.tmod p0.Shows 4)))) (zw (1+(zw (Int.tmod p0.Grain 12)))) x12).bind fun x14 =>
   if (s5.2.2++([x14]:(List (List Int)))).length*24≤140737488355328 then
    some (.next (zw (s5.1+1),(s5.2.1++([x10]:(List (List Int)))),(s5.2.2++([x14]:(List (List Int))))))
   else none
  else none
 else
 some (.done (s5.2.1,s5.2.2))
def Yr (p0:Qn):Option Qb :=
 (Ym p0 0).bind fun x1 =>
 (Jk (zw (1+(zw (Int.tmod p0.States 4)))) (zw (1+(zw (Int.tmod p0.Grain 12)))) x1).bind fun x3 =>
 (Qd fuel (Jc p0) (0,([]:(List (List Int))),([]:(List (List Int))))).bind fun x17 =>
 some (Qb.mk (zw (1+(zw (Int.tmod p0.Grain 12)))) x3 x17.1 x17.2)
def Qag (x5:((List (List Int)) × Int)) (s9:(Int × (List (List Qe)))):Option (Step (Int × (List (List Qe))) (List (List Qe))) :=
 if (decide (s9.1 < (x5.1.length:Int)))=true then
  (lkI x5.1 s9.1).bind fun a12 =>
  (X9 a12).bind fun x14 =>
  if (s9.2++([x14]:(List (List Qe)))).length*24≤140737488355328 then
   some (.next (zw (s9.1+1),(s9.2++([x14]:(List (List Qe))))))
  else none
 else
 some (.done s9.2)
def Jp (p0:Qb) (p1:(List Int)):Option ((List (List Qe)) × Int) :=
 (Zm p0 p1).bind fun x1 =>
 if (x1.2 != 0)=true then
  some (([]:(List (List Qe))),x1.2)
 else
 (Z4 x1.1).bind fun x5 =>
 if (x5.2 != 0)=true then
  some (([]:(List (List Qe))),x5.2)
 else
 (Qd fuel (Qag x5) (0,([]:(List (List Qe))))).bind fun x17 =>
 some (x17,0)
def Xr (c0:Int) (d0:(List Int)):Option (List Int) :=
 if (c0::d0).length*8≤140737488355328 then
  some (c0::d0)
 else none
def Vz  : Option (List Int) :=
 some ([]:(List Int))
def V1  : Option (List Int) :=
 some ([]:(List Int))
def Qy (p0:(List Int)):Option (List Int) :=
 match p0 with
 | []=>(V1).bind fun x=>(Vz).bind fun y=>if x=y then some x else none
 | c0::d0=>Xr c0 d0
def K9 (p0:(List (List Int))) (s1:(Int × (List (List Int)))):Option (Step (Int × (List (List Int))) (List (List Int))) :=
 if (decide (s1.1 < (p0.length:Int)))=true then
  (lkI p0 s1.1).bind fun a4 =>
  (Qy a4).bind fun x6 =>
  if (s1.2++([x6]:(List (List Int)))).length*24≤140737488355328 then
   some (.next (zw (s1.1+1),(s1.2++([x6]:(List (List Int))))))
  else none
 else
 some (.done s1.2)
def X7 (p0:(List (List Int))):Option (List (List Int)) :=
 (Qd fuel (K9 p0) (0,([]:(List (List Int))))).bind fun x9 =>
 some x9
def K6 (p1:Int) (p0:Qb) (a7:(List Int)) (s15:(Int × (List Qm))):Option (Step (Int × (List Qm)) (List Qm)) :=
 if (decide (s15.1 < p1))=true then
  (X7 [p0.First]).bind fun x18 =>
  if (decide (s15.1 > 0))=true then
   (X7 p0.Step).bind fun x22 =>
   (X7 p0.Show).bind fun x24 =>
   if (s15.2++([(Qm.mk (p0.First.length:Int) [zw ((zw (2*s15.1)) - 2)] x22),(Qm.mk (a7.length:Int) [zw (2*s15.1)] x24)]:(List Qm))).length*56≤140737488355328 then
    some (.next (zw (s15.1+1),(s15.2++([(Qm.mk (p0.First.length:Int) [zw ((zw (2*s15.1)) - 2)] x22),(Qm.mk (a7.length:Int) [zw (2*s15.1)] x24)]:(List Qm)))))
   else none
  else
  (X7 p0.Show).bind fun x26 =>
  if (s15.2++([(Qm.mk (p0.First.length:Int) [] x18),(Qm.mk (a7.length:Int) [zw (2*s15.1)] x26)]:(List Qm))).length*56≤140737488355328 then
   some (.next (zw (s15.1+1),(s15.2++([(Qm.mk (p0.First.length:Int) [] x18),(Qm.mk (a7.length:Int) [zw (2*s15.1)] x26)]:(List Qm)))))
  else none
 else
 some (.done s15.2)
def Qct (p0:Qb) (p1:Int):Option (Qp × Int) :=
 (Y8 p0).bind fun x1 =>
 if (x1 != 0)=true then
  some ((Qp.mk 0 ([]:(List Qm))),x1)
 else
 if (decide (p1 < 1))=true then
  some ((Qp.mk 0 ([]:(List Qm))),2)
 else
 (lkI p0.Show 0).bind fun a7 =>
 if (decide (p1 > 4))=true then
  some ((Qp.mk 0 ([]:(List Qm))),6)
 else
 (Kw (zw ((p0.First.length:Int)*(a7.length:Int))) p1).bind fun x11 =>
 if (decide (x11 > 1024))=true then
  some ((Qp.mk 0 ([]:(List Qm))),6)
 else
 (Qd fuel (K6 p1 p0 a7) (0,([]:(List Qm)))).bind fun x29 =>
 some ((Qp.mk p0.Grain x29),0)
def Je (p1:Qm) (p0:Qw) (s1:(Int × Int)):Option (Step (Int × Int) Int) :=
 if (decide (s1.2 < (p1.Parents.length:Int)))=true then
  (lkI p1.Parents s1.2).bind fun a4 =>
  (lkI p0.cards a4).bind fun a6 =>
  some (.next (zw (s1.1*a6),zw (s1.2+1)))
 else
 some (.done s1.1)
def Yx (a15:(List Int)) (s17:(Int × Int)):Option (Step (Int × Int) (Unit ⊕ Int)) :=
 if (decide (s17.2 < (a15.length:Int)))=true then
  (lkI a15 s17.2).bind fun a20 =>
  if (decide (a20 < 0))=true then
   some (.done (Sum.inl ()))
  else
  if (decide (a20 > s17.1))=true then
   some (.done (Sum.inl ()))
  else
  some (.next (zw (s17.1 - a20),zw (s17.2+1)))
 else
 some (.done (Sum.inr s17.1))
def Jd (p1:Qm) (p0:Qw) (s12:Int):Option (Step Int (Unit ⊕ Unit)) :=
 if (decide (s12 < (p1.Rows.length:Int)))=true then
  (lkI p1.Rows s12).bind fun a15 =>
  (Qd fuel (Yx a15) (p0.Net.Grain,0)).bind fun x26=>match x26 with
  | .inl x27=>(
   some (.done (Sum.inl ())))
  | .inr x28=>(
   if ((a15.length:Int) != p1.Card)=true then
    some (.done (Sum.inl ()))
   else
   if (x28 != 0)=true then
    some (.done (Sum.inl ()))
   else
   some (.next (zw (s12+1))))
 else
 some (.done (Sum.inr ()))
def Vl (p0:Qw) (p1:Qm):Option Bool :=
 (Qd fuel (Je p1 p0) (1,0)).bind fun x9 =>
 if ((p1.Rows.length:Int) != x9)=true then
  some false
 else
 (Qd fuel (Jd p1 p0) 0).bind fun x33=>match x33 with
 | .inl x34=>(
  some false)
 | .inr x35=>(
  some true)
def Qc5 (p0:(List Int)) (s1:(Int × (List Int))) (s4:Int):Option (Step Int ((Int × (List Int)) ⊕ Unit)) :=
 if (decide (s4 < (p0.length:Int)))=true then
  (lkI p0 s4).bind fun a7 =>
  if 0≤s4 then
   if ((zv (zb (Int.fdiv s1.1 (2^min (Int.toNat s4) (IntKind.bits .u64))) &&& zb 1).toNat)==0)=true then
    if ((zv (zb a7 &&& ~~~ zb s1.1).toNat)==0)=true then
     if (s1.2++([s4]:(List Int))).length*8≤140737488355328 then
      if 0≤s4 then
       some (.done (Sum.inl (zv (zb s1.1 ||| zb (zv (1*2^min (Int.toNat s4) (IntKind.bits .u64)))).toNat,(s1.2++([s4]:(List Int))))))
      else none
     else none
    else
    some (.next (zw (s4+1)))
   else
   some (.next (zw (s4+1)))
  else none
 else
 some (.done (Sum.inr ()))
def K5 (p0:(List Int)) (s1:(Int × (List Int))):Option (Step (Int × (List Int)) (Unit ⊕ (List Int))) :=
 if (decide ((s1.2.length:Int) < (p0.length:Int)))=true then
  (Qd fuel (Qc5 p0 s1) 0).bind fun x13=>match x13 with
  | .inl x14=>(
   some (.next (x14.1,x14.2)))
  | .inr x15=>(
   some (.done (Sum.inl ())))
 else
 some (.done (Sum.inr s1.2))
def Qc6 (p0:(List Int)):Option ((List Int) × Bool) :=
 if 0≤(0:Int)∧(0:Int)≤(p0.length:Int)∧(p0.length:Int)*8≤140737488355328 then
  (Qd fuel (K5 p0) (0,(List.replicate (Int.toNat 0) (0:Int)))).bind fun x16=>match x16 with
  | .inl x17=>(
   some (([]:(List Int)),false))
  | .inr x18=>(
   some (x18,true))
 else none
def Qbl (p0:Qp) (s9:(Int × Int × (List Int))):Option (Step (Int × Int × (List Int)) (Unit ⊕ (Int × (List Int)))) :=
 if (decide (s9.2.1 < (p0.Nodes.length:Int)))=true then
  (lkI p0.Nodes s9.2.1).bind fun a12 =>
  if (decide (a12.Card < 1))=true then
   some (.done (Sum.inl ()))
  else
  if (decide (a12.Card > 4))=true then
   some (.done (Sum.inl ()))
  else
  (lkI s9.2.2 s9.2.1).bind fun a18 =>
  some (.next (zw (s9.1*a12.Card),zw (s9.2.1+1),(List.set s9.2.2 (Int.toNat s9.2.1) a12.Card)))
 else
 some (.done (Sum.inr (s9.1,s9.2.2)))
def Qbr (a29:Qm) (p0:Qp) (s26:(Int × (List Int))) (s31:(Int × Int × (List Int))):Option (Step (Int × Int × (List Int)) (Unit ⊕ (List Int))) :=
 if (decide (s31.2.1 < (a29.Parents.length:Int)))=true then
  (lkI a29.Parents s31.2.1).bind fun a34 =>
  if (decide (a34≤s31.1))=true then
   some (.done (Sum.inl ()))
  else
  if (decide (a34≥(p0.Nodes.length:Int)))=true then
   some (.done (Sum.inl ()))
  else
  if (a34==s26.1)=true then
   some (.done (Sum.inl ()))
  else
  (lkI s31.2.2 s26.1).bind fun a42 =>
  if 0≤a34 then
   some (.next (a34,zw (s31.2.1+1),(List.set s31.2.2 (Int.toNat s26.1) (zv (zb a42 ||| zb (zv (1*2^min (Int.toNat a34) (IntKind.bits .u64)))).toNat))))
  else none
 else
 some (.done (Sum.inr s31.2.2))
def Qbi (p0:Qp) (x23:(Int × (List Int))) (s26:(Int × (List Int))):Option (Step (Int × (List Int)) (Unit ⊕ (List Int))) :=
 if (decide (s26.1 < (p0.Nodes.length:Int)))=true then
  (lkI p0.Nodes s26.1).bind fun a29 =>
  (Qd fuel (Qbr a29 p0 s26) (-1,0,s26.2)).bind fun x45=>match x45 with
  | .inl x46=>(
   some (.done (Sum.inl ())))
  | .inr x47=>(
   (Vl (Qw.mk p0 x23.2 x47 []) a29).bind fun x48 =>
   if (!x48)=true then
    some (.done (Sum.inl ()))
   else
   some (.next (zw (s26.1+1),x47)))
 else
 some (.done (Sum.inr s26.2))
def Qa0 (p0:Qp):Option (Qw × Int) :=
 if (decide (p0.Grain < 1))=true then
  some ((Qw.mk (Qp.mk 0 []) [] [] []),50)
 else
 if (decide (p0.Grain > 60))=true then
  some ((Qw.mk (Qp.mk 0 []) [] [] []),50)
 else
 if (decide ((p0.Nodes.length:Int) < 1))=true then
  some ((Qw.mk (Qp.mk 0 []) [] [] []),50)
 else
 if (decide ((p0.Nodes.length:Int) > 8))=true then
  some ((Qw.mk (Qp.mk 0 []) [] [] []),50)
 else
 if 0≤(p0.Nodes.length:Int)∧(p0.Nodes.length:Int)≤(p0.Nodes.length:Int)∧(p0.Nodes.length:Int)*8≤140737488355328 then
  if 0≤(p0.Nodes.length:Int)∧(p0.Nodes.length:Int)≤(p0.Nodes.length:Int)∧(p0.Nodes.length:Int)*8≤140737488355328 then
   (Qd fuel (Qbl p0) (1,0,(List.replicate (Int.toNat (p0.Nodes.length:Int)) (0:Int)))).bind fun x21=>match x21 with
   | .inl x22=>(
    some ((Qw.mk (Qp.mk 0 []) [] [] []),50))
   | .inr x23=>(
    if (decide (x23.1 > 1024))=true then
     some ((Qw.mk (Qp.mk 0 []) [] [] []),50)
    else
    (Qd fuel (Qbi p0 x23) (0,(List.replicate (Int.toNat (p0.Nodes.length:Int)) (0:Int)))).bind fun x52=>match x52 with
    | .inl x53=>(
     some ((Qw.mk (Qp.mk 0 []) [] [] []),50))
    | .inr x54=>(
     (Qc6 x54).bind fun x55 =>
     if (!x55.2)=true then
      some ((Qw.mk (Qp.mk 0 []) [] [] []),50)
     else
     some ((Qw.mk p0 x23.2 x54 x55.1),0)))
  else none
 else none
def K7 (p0:Int):Option Bool :=
 some (p0 != p0)
def Qaz (p0:Int) (p1:Int):Option Bool :=
 (K7 p0).bind fun x1 =>
 if x1=true then
  (K7 p1).bind fun x5 =>
  if (!x5)=true then
   some true
  else
  some (decide (p0 < p1))
 else
 some (decide (p0 < p1))
def Ju (p0:Int):Option Bool :=
 some (p0 != p0)
def Yf (p0:(List Int)) (p1:Int) (s1:(Int × Int)):Option (Step (Int × Int) Int) :=
 if (decide (s1.1 < s1.2))=true then
  (lkI p0 (zw (Int.fdiv (zv (zw (s1.1+s1.2))) (2^min (Int.toNat 1) (IntKind.bits .u64))))).bind fun a4 =>
  (Qaz a4 p1).bind fun x6 =>
  if x6=true then
   some (.next (zw ((zw (Int.fdiv (zv (zw (s1.1+s1.2))) (2^min (Int.toNat 1) (IntKind.bits .u64))))+1),s1.2))
  else
  some (.next (s1.1,zw (Int.fdiv (zv (zw (s1.1+s1.2))) (2^min (Int.toNat 1) (IntKind.bits .u64)))))
 else
 some (.done s1.1)
def Xq (p0:(List Int)) (p1:Int):Option (Int × Bool) :=
 (Qd fuel (Yf p0 p1) (0,(p0.length:Int))).bind fun x11 =>
 if (decide (x11 < (p0.length:Int)))=true then
  (lkI p0 x11).bind fun a14 =>
  if (a14==p1)=true then
   some (x11,true)
  else
  (Ju a14).bind fun x18 =>
  if x18=true then
   (Ju p1).bind fun x22 =>
   some (x11,x22)
  else
  some (x11,false)
 else
 some (x11,false)
def Xy (x7:(List Int)) (p0:Qw) (x3:(Int × Bool)) (s8:(Int × Int × (List Int))):Option (Step (Int × Int × (List Int)) (Int × (List Int))) :=
 if (decide (s8.1 < (x7.length:Int)))=true then
  (lkI x7 s8.1).bind fun a11 =>
  (lkI p0.cards a11).bind fun a13 =>
  if (s8.2.2++([a13]:(List Int))).length*8≤140737488355328 then
   if (decide (s8.1 > x3.1))=true then
    some (.next (zw (s8.1+1),zw (s8.2.1*a13),(s8.2.2++([a13]:(List Int)))))
   else
   some (.next (zw (s8.1+1),s8.2.1,(s8.2.2++([a13]:(List Int)))))
  else none
 else
 some (.done (s8.2.1,s8.2.2))
def Xx (a22:(List Int)) (x18:(Int × (List Int))) (s19:(Int × (List Int))) (a1:Qm) (s24:(Int × (List Int))):Option (Step (Int × (List Int)) (List Int)) :=
 if (decide (s24.1 < (a22.length:Int)))=true then
  (lkI a22 s24.1).bind fun a27 =>
  if x18.1≠0 then
   if x18.1≠0 then
    (lkI s24.2 (zw ((zw ((zw ((zw ((zw (Int.tdiv s19.1 x18.1))*a1.Card))+s24.1))*x18.1))+(Int.tmod s19.1 x18.1)))).bind fun a29 =>
    (lkI s24.2 (zw ((zw ((zw ((zw ((zw (Int.tdiv s19.1 x18.1))*a1.Card))+s24.1))*x18.1))+(Int.tmod s19.1 x18.1)))).bind fun a31 =>
    some (.next (zw (s24.1+1),(List.set s24.2 (Int.toNat (zw ((zw ((zw ((zw ((zw (Int.tdiv s19.1 x18.1))*a1.Card))+s24.1))*x18.1))+(Int.tmod s19.1 x18.1)))) a27)))
   else none
  else none
 else
 some (.done s24.2)
def Xz (a1:Qm) (x18:(Int × (List Int))) (s19:(Int × (List Int))):Option (Step (Int × (List Int)) (List Int)) :=
 if (decide (s19.1 < (a1.Rows.length:Int)))=true then
  (lkI a1.Rows s19.1).bind fun a22 =>
  (Qd fuel (Xx a22 x18 s19 a1) (0,s19.2)).bind fun x35 =>
  some (.next (zw (s19.1+1),x35))
 else
 some (.done s19.2)
def Yt (p0:Qw) (p1:Int):Option Qv :=
 (lkI p0.Net.Nodes p1).bind fun a1 =>
 (Xq a1.Parents p1).bind fun x3 =>
 (Qy a1.Parents).bind fun x5 =>
 (Qqe x5 x3.1 p1).bind fun x7 =>
 (Qd fuel (Xy x7 p0 x3) (0,1,([]:(List Int)))).bind fun x18 =>
 if 0≤(zw ((a1.Rows.length:Int)*a1.Card))∧(zw ((a1.Rows.length:Int)*a1.Card))≤(zw ((a1.Rows.length:Int)*a1.Card))∧(zw ((a1.Rows.length:Int)*a1.Card))*8≤140737488355328 then
  (Qd fuel (Xz a1 x18) (0,(List.replicate (Int.toNat (zw ((a1.Rows.length:Int)*a1.Card))) (0:Int)))).bind fun x37 =>
  some (Qv.mk x7 x18.2 x37)
 else none
def Kj (x1:(Qw × Int)) (s5:(Int × (List Qv))):Option (Step (Int × (List Qv)) (List Qv)) :=
 if (decide (s5.1 < (((List.replicate (Int.toNat (x1.1.Net.Nodes.length:Int)) ((Qv.mk [] [] []):Qv)).length):Int)))=true then
  (Yt x1.1 s5.1).bind fun x8 =>
  (lkI s5.2 s5.1).bind fun a10 =>
  some (.next (zw (s5.1+1),(List.set s5.2 (Int.toNat s5.1) x8)))
 else
 some (.done s5.2)
def Qbj (p0:Qp):Option ((List Qv) × Int) :=
 (Qa0 p0).bind fun x1 =>
 if (x1.2 != 0)=true then
  some (([]:(List Qv)),x1.2)
 else
 if 0≤(x1.1.Net.Nodes.length:Int)∧(x1.1.Net.Nodes.length:Int)≤(x1.1.Net.Nodes.length:Int)∧(x1.1.Net.Nodes.length:Int)*72≤140737488355328 then
  (Qd fuel (Kj x1) (0,(List.replicate (Int.toNat (x1.1.Net.Nodes.length:Int)) ((Qv.mk [] [] []):Qv)))).bind fun x14 =>
  some (x14,0)
 else none
def Z1 (p1:(List Int)) (x1:(Qw × Int)) (s7:Int):Option (Step Int (Unit ⊕ Unit)) :=
 if (decide (s7 < (p1.length:Int)))=true then
  (lkI p1 s7).bind fun a10 =>
  if (decide (a10 < (-1)))=true then
   some (.done (Sum.inl ()))
  else
  (lkI x1.1.cards s7).bind fun a14 =>
  if (decide (a10≥a14))=true then
   some (.done (Sum.inl ()))
  else
  some (.next (zw (s7+1)))
 else
 some (.done (Sum.inr ()))
def Yb (p0:Qp) (p1:(List Int)):Option Int :=
 (Qa0 p0).bind fun x1 =>
 if (x1.2 != 0)=true then
  some x1.2
 else
 if ((p1.length:Int) != (x1.1.Net.Nodes.length:Int))=true then
  some 2
 else
 (Qd fuel (Z1 p1 x1) 0).bind fun x18=>match x18 with
 | .inl x19=>(
  some 2)
 | .inr x20=>(
  some 0)
def Qap (p1:(List (List Int))) (p0:Qp) (s5:Int):Option (Step Int (Int ⊕ Unit)) :=
 if (decide (s5 < (p1.length:Int)))=true then
  (lkI p1 s5).bind fun a8 =>
  (Yb p0 a8).bind fun x10 =>
  if (x10 != 0)=true then
   some (.done (Sum.inl x10))
  else
  some (.next (zw (s5+1)))
 else
 some (.done (Sum.inr ()))
def Qa3 (s17:(Int × (List (List Int)))) (a20:Qv) (s25:(Int × Int × (List (List Int)))):Option (Step (Int × Int × (List (List Int))) (List (List Int))) :=
 if (decide (s25.2.1≥0))=true then
  (lkI s25.2.2 s17.1).bind fun a28 =>
  (lkI a20.Vars s25.2.1).bind fun a30 =>
  (lkI a28 a30).bind fun a32 =>
  (lkI a20.Cards s25.2.1).bind fun a34 =>
  some (.next (zw (s25.1*a34),zw (s25.2.1 - 1),(List.set s25.2.2 (Int.toNat s17.1) (List.set a28 (Int.toNat a30) s25.1))))
 else
 some (.done s25.2.2)
def Ke (x1:((List Qv) × Int)) (p0:Qp) (s17:(Int × (List (List Int)))):Option (Step (Int × (List (List Int))) (List (List Int))) :=
 if (decide (s17.1 < (x1.1.length:Int)))=true then
  (lkI x1.1 s17.1).bind fun a20 =>
  if 0≤(p0.Nodes.length:Int)∧(p0.Nodes.length:Int)≤(p0.Nodes.length:Int)∧(p0.Nodes.length:Int)*8≤140737488355328 then
   (lkI s17.2 s17.1).bind fun a22 =>
   (Qd fuel (Qa3 s17 a20) (1,zw ((a20.Vars.length:Int) - 1),(List.set s17.2 (Int.toNat s17.1) (List.replicate (Int.toNat (p0.Nodes.length:Int)) (0:Int))))).bind fun x38 =>
   some (.next (zw (s17.1+1),x38))
  else none
 else
 some (.done s17.2)
def Qbb (p0:Qp) (p1:(List (List Int))):Option (Qt × Int) :=
 (Qbj p0).bind fun x1 =>
 if (x1.2 != 0)=true then
  some ((Qt.mk (Qp.mk 0 []) [] []),x1.2)
 else
 (Qd fuel (Qap p1 p0) 0).bind fun x14=>match x14 with
 | .inl x15=>(
  some ((Qt.mk (Qp.mk 0 []) [] []),x15))
 | .inr x16=>(
  if 0≤(x1.1.length:Int)∧(x1.1.length:Int)≤(x1.1.length:Int)∧(x1.1.length:Int)*24≤140737488355328 then
   (Qd fuel (Ke x1 p0) (0,(List.replicate (Int.toNat (x1.1.length:Int)) ([]:(List Int))))).bind fun x40 =>
   some ((Qt.mk p0 x1.1 x40),0)
  else none)
def Qar (x1:(Qw × Int)) (s5:(Int × Int)):Option (Step (Int × Int) Int) :=
 if (decide (s5.2 < (x1.1.Net.Nodes.length:Int)))=true then
  some (.next (zw (s5.1*x1.1.Net.Grain),zw (s5.2+1)))
 else
 some (.done s5.1)
def Qd3 (p0:Qp):Option (Int × Int) :=
 (Qa0 p0).bind fun x1 =>
 if (x1.2 != 0)=true then
  some (0,x1.2)
 else
 (Qd fuel (Qar x1) (1,0)).bind fun x9 =>
 some (x9,0)
def Qge  (s1:(Int × Int)):Option (Step (Int × Int) Int) :=
 if (s1.2 != 0)=true then
  if s1.2≠0 then
   some (.next (s1.2,Int.tmod s1.1 s1.2))
  else none
 else
 some (.done s1.1)
def Qbh (p0:Int) (p1:Int):Option Int :=
 (Qd fuel (Qge) (p0,p1)).bind fun x5 =>
 some x5
def J1 (p0:Int):Option Int :=
 if (decide (p0 < 0))=true then
  some (zv (0 - (zv (p0))))
 else
 some (zv (p0))
def Qil (p0:Bool) (p1:(Int × Int)) (p2:(Int × Int)):Option Qe :=
 if (p1.1 != 0)=true then
  none
 else
 if (decide (p1.2 > 4611686018427387903))=true then
  none
 else
 if (p2.1 != 0)=true then
  none
 else
 if (decide (p2.2 > 4611686018427387903))=true then
  none
 else
 if p0=true then
  some (Qe.mk (zw (0 - (zw (p1.2)))) (zw (p2.2)))
 else
 some (Qe.mk (zw (p1.2)) (zw (p2.2)))
def Qb0 (c0:Int) (c1:Int):Option Qe :=
 (J1 c0).bind fun x1 =>
 (J1 c1).bind fun x3 =>
 (Qbh x1 x3).bind fun x5 =>
 (J1 c0).bind fun x7 =>
 if x5≠0 then
  (J1 c1).bind fun x9 =>
  if x5≠0 then
   (Qil (!((decide (c0 < 0))==(decide (c1 < 0)))) (0,zv (Int.tdiv x7 x5)) (0,zv (Int.tdiv x9 x5))).bind fun x11 =>
   some x11
  else none
 else none
def Qba (p0:Int) (p1:Int):Option (Qe × Int) :=
 if (p1==0)=true then
  some ((Qe.mk 0 0),2)
 else
 (Qb0 p0 p1).bind fun x3 =>
 some (x3,0)
def Xc (p1:(List Int)) (p0:(List Int)) (s1:Int):Option (Step Int Bool) :=
 if (decide (s1 < (p1.length:Int)))=true then
  (lkI p1 s1).bind fun a4 =>
  if (a4==(-1))=true then
   some (.next (zw (s1+1)))
  else
  (lkI p0 s1).bind fun a8 =>
  if (a4==a8)=true then
   some (.next (zw (s1+1)))
  else
  some (.done false)
 else
 some (.done true)
def Vi (p0:(List Int)) (p1:(List Int)):Option Bool :=
 (Qd fuel (Xc p1 p0) 0).bind fun x13 =>
 some x13
def Xf (a4:Qv) (p1:(List Int)) (p0:Qt) (s1:(Int × Int)) (s6:(Int × Int)):Option (Step (Int × Int) Int) :=
 if (decide (s6.2 < (a4.Vars.length:Int)))=true then
  (lkI a4.Vars s6.2).bind fun a9 =>
  (lkI p1 a9).bind fun a11 =>
  (lkI p0.steps s1.2).bind fun a13 =>
  (lkI a13 a9).bind fun a15 =>
  some (.next (zw (s6.1+(zw (a11*a15))),zw (s6.2+1)))
 else
 some (.done s6.1)
def Ye (p0:Qt) (p1:(List Int)) (s1:(Int × Int)):Option (Step (Int × Int) Int) :=
 if (decide (s1.2 < (p0.factors.length:Int)))=true then
  (lkI p0.factors s1.2).bind fun a4 =>
  (Qd fuel (Xf a4 p1 p0 s1) (0,0)).bind fun x18 =>
  (lkI a4.W x18).bind fun a19 =>
  some (.next (zw (s1.1*a19),zw (s1.2+1)))
 else
 some (.done s1.1)
def X0 (p0:Qt) (p1:(List Int)):Option Int :=
 (Qd fuel (Ye p0 p1) (1,0)).bind fun x22 =>
 some x22
def Qan (p0:Qt) (s8:(Int × (List Int))):Option (Step (Int × (List Int)) (Int × (List Int))) :=
 if (decide (s8.1≥0))=true then
  (lkI s8.2 s8.1).bind fun a11 =>
  (lkI p0.Net.Nodes s8.1).bind fun a13 =>
  if (a11==(zw (a13.Card - 1)))=true then
   some (.next (zw (s8.1 - 1),(List.set s8.2 (Int.toNat s8.1) 0)))
  else
  some (.done (s8.1,s8.2))
 else
 some (.done (s8.1,s8.2))
def Qai (p0:Qt) (s25:(Int × (List Int))):Option (Step (Int × (List Int)) (Int × (List Int))) :=
 if (decide (s25.1≥0))=true then
  (lkI s25.2 s25.1).bind fun a28 =>
  (lkI p0.Net.Nodes s25.1).bind fun a30 =>
  if (a28==(zw (a30.Card - 1)))=true then
   some (.next (zw (s25.1 - 1),(List.set s25.2 (Int.toNat s25.1) 0)))
  else
  some (.done (s25.1,s25.2))
 else
 some (.done (s25.1,s25.2))
def V8 (p1:(List Int)) (p0:Qt) (s1:(Int × Int × (List Int))):Option (Step (Int × Int × (List Int)) Int) :=
 (Vi s1.2.2 p1).bind fun x2 =>
 if x2=true then
  (X0 p0 s1.2.2).bind fun x6 =>
  (Qd fuel (Qan p0) (zw ((s1.2.2.length:Int) - 1),s1.2.2)).bind fun x19 =>
  if (decide (x19.1 < 0))=true then
   some (.done (zw (s1.2.1+x6)))
  else
  (lkI x19.2 x19.1).bind fun a22 =>
  some (.next (zw (s1.1+1),zw (s1.2.1+x6),(List.set x19.2 (Int.toNat x19.1) (zw (a22+1)))))
 else
 (Qd fuel (Qai p0) (zw ((s1.2.2.length:Int) - 1),s1.2.2)).bind fun x36 =>
 if (decide (x36.1 < 0))=true then
  some (.done s1.2.1)
 else
 (lkI x36.2 x36.1).bind fun a39 =>
 some (.next (zw (s1.1+1),s1.2.1,(List.set x36.2 (Int.toNat x36.1) (zw (a39+1)))))
def Vg (p0:Qt) (p1:(List Int)):Option Int :=
 if 0≤(p0.Net.Nodes.length:Int)∧(p0.Net.Nodes.length:Int)≤(p0.Net.Nodes.length:Int)∧(p0.Net.Nodes.length:Int)*8≤140737488355328 then
  (Qd fuel (V8 p1 p0) (0,0,(List.replicate (Int.toNat (p0.Net.Nodes.length:Int)) (0:Int)))).bind fun x43 =>
  some x43
 else none
def Qah (p0:Qp) (p1:(List Int)):Option (Qe × Int) :=
 (Qbb p0 [p1]).bind fun x1 =>
 if (x1.2 != 0)=true then
  some ((Qe.mk 0 0),x1.2)
 else
 (Qd3 p0).bind fun x5 =>
 if (x5.2 != 0)=true then
  some ((Qe.mk 0 0),x5.2)
 else
 (Vg x1.1 p1).bind fun x9 =>
 (Qba x9 x5.1).bind fun x11 =>
 some (x11.1,x11.2)
def Yq (s9:(Int × Int × (List (Tjoint_place × Int)) × (List Int))) (x14:Int) (s16:(Int × (List (Tjoint_place × Int)))):Option (Step (Int × (List (Tjoint_place × Int))) (List (Tjoint_place × Int))) :=
 if (decide (s16.1 < (s9.2.2.2.length:Int)))=true then
  (lkI s9.2.2.2 s16.1).bind fun a19 =>
  some (.next (zw (s16.1+1),kput qTjoint_place s16.2 (Tjoint_place.mk s16.1 a19) (zw (((kget qTjoint_place s16.2 (Tjoint_place.mk s16.1 a19)).getD 0)+x14))))
 else
 some (.done s16.2)
def Qcz (x1:(Qt × Int)) (s23:(Int × (List Int))):Option (Step (Int × (List Int)) (Int × (List Int))) :=
 if (decide (s23.1≥0))=true then
  (lkI s23.2 s23.1).bind fun a26 =>
  (lkI x1.1.Net.Nodes s23.1).bind fun a28 =>
  if (a26==(zw (a28.Card - 1)))=true then
   some (.next (zw (s23.1 - 1),(List.set s23.2 (Int.toNat s23.1) 0)))
  else
  some (.done (s23.1,s23.2))
 else
 some (.done (s23.1,s23.2))
def Qcq (x1:(Qt × Int)) (s40:(Int × (List Int))):Option (Step (Int × (List Int)) (Int × (List Int))) :=
 if (decide (s40.1≥0))=true then
  (lkI s40.2 s40.1).bind fun a43 =>
  (lkI x1.1.Net.Nodes s40.1).bind fun a45 =>
  if (a43==(zw (a45.Card - 1)))=true then
   some (.next (zw (s40.1 - 1),(List.set s40.2 (Int.toNat s40.1) 0)))
  else
  some (.done (s40.1,s40.2))
 else
 some (.done (s40.1,s40.2))
def Vk (p1:(List Int)) (x1:(Qt × Int)) (s9:(Int × Int × (List (Tjoint_place × Int)) × (List Int))):Option (Step (Int × Int × (List (Tjoint_place × Int)) × (List Int)) (Int × (List (Tjoint_place × Int)))) :=
 (Vi s9.2.2.2 p1).bind fun x10 =>
 if x10=true then
  (X0 x1.1 s9.2.2.2).bind fun x14 =>
  (Qd fuel (Yq s9 x14) (0,s9.2.2.1)).bind fun x22 =>
  (Qd fuel (Qcz x1) (zw ((s9.2.2.2.length:Int) - 1),s9.2.2.2)).bind fun x34 =>
  if (decide (x34.1 < 0))=true then
   some (.done (zw (s9.2.1+x14),x22))
  else
  (lkI x34.2 x34.1).bind fun a37 =>
  some (.next (zw (s9.1+1),zw (s9.2.1+x14),x22,(List.set x34.2 (Int.toNat x34.1) (zw (a37+1)))))
 else
 (Qd fuel (Qcq x1) (zw ((s9.2.2.2.length:Int) - 1),s9.2.2.2)).bind fun x51 =>
 if (decide (x51.1 < 0))=true then
  some (.done (s9.2.1,s9.2.2.1))
 else
 (lkI x51.2 x51.1).bind fun a54 =>
 some (.next (zw (s9.1+1),s9.2.1,s9.2.2.1,(List.set x51.2 (Int.toNat x51.1) (zw (a54+1)))))
def Vo (a61:Qm) (x58:(Int × (List (Tjoint_place × Int)))) (p2:Int) (s63:(Int × (List Qe))):Option (Step (Int × (List Qe)) (Int ⊕ (List Qe))) :=
 if (decide (s63.1 < (((List.replicate (Int.toNat a61.Card) ((Qe.mk 0 0):Qe)).length):Int)))=true then
  (Qba ((kget qTjoint_place x58.2 (Tjoint_place.mk p2 s63.1)).getD 0) x58.1).bind fun x66 =>
  if (x66.2 != 0)=true then
   some (.done (Sum.inl x66.2))
  else
  (lkI s63.2 s63.1).bind fun a70 =>
  some (.next (zw (s63.1+1),(List.set s63.2 (Int.toNat s63.1) x66.1)))
 else
 some (.done (Sum.inr s63.2))
def Z6 (p0:Qp) (p1:(List Int)) (p2:Int):Option ((List Qe) × Int) :=
 (Qbb p0 [p1]).bind fun x1 =>
 if (x1.2 != 0)=true then
  some (([]:(List Qe)),x1.2)
 else
 if (decide (p2 < 0))=true then
  some (([]:(List Qe)),2)
 else
 if (decide (p2≥(x1.1.Net.Nodes.length:Int)))=true then
  some (([]:(List Qe)),2)
 else
 if 0≤(x1.1.Net.Nodes.length:Int)∧(x1.1.Net.Nodes.length:Int)≤(x1.1.Net.Nodes.length:Int)∧(x1.1.Net.Nodes.length:Int)*8≤140737488355328 then
  (Qd fuel (Vk p1 x1) (0,0,[],(List.replicate (Int.toNat (x1.1.Net.Nodes.length:Int)) (0:Int)))).bind fun x58 =>
  if (x58.1==0)=true then
   some (([]:(List Qe)),7)
  else
  (lkI x1.1.Net.Nodes p2).bind fun a61 =>
  if 0≤a61.Card∧a61.Card≤a61.Card∧a61.Card*16≤140737488355328 then
   (Qd fuel (Vo a61 x58 p2) (0,(List.replicate (Int.toNat a61.Card) ((Qe.mk 0 0):Qe)))).bind fun x73=>match x73 with
   | .inl x74=>(
    some (([]:(List Qe)),x74))
   | .inr x75=>(
    some (x75,0))
  else none
 else none
def Vb (x7:(List Int)) (s17:(Int × (List Int))):Option (Step (Int × (List Int)) (List Int)) :=
 if (decide (s17.1 < (((Int.toNat (if 4 < (x7.length:Int) then 4 else (x7.length:Int)) - Int.toNat (0:Int)):Nat):Int)))=true then
  (lkI (List.take (Int.toNat (if 4 < (x7.length:Int) then 4 else (x7.length:Int))) x7) s17.1).bind fun a20 =>
  if (s17.2++([-1,a20]:(List Int))).length*8≤140737488355328 then
   some (.next (zw (s17.1+1),(s17.2++([-1,a20]:(List Int)))))
  else none
 else
 some (.done s17.2)
def Xi  (s47:(Int × (List Int))):Option (Step (Int × (List Int)) (List Int)) :=
 if (decide (s47.1 < (s47.2.length:Int)))=true then
  (lkI s47.2 s47.1).bind fun a50 =>
  some (.next (zw (s47.1+1),(List.set s47.2 (Int.toNat s47.1) (-1))))
 else
 some (.done s47.2)
def Qa9  (s82:(Int × (List Int))):Option (Step (Int × (List Int)) (List Int)) :=
 if (decide (s82.1 < (s82.2.length:Int)))=true then
  (lkI s82.2 s82.1).bind fun a85 =>
  some (.next (zw (s82.1+1),(List.set s82.2 (Int.toNat s82.1) (-1))))
 else
 some (.done s82.2)
def K0 (p0:Qn) (p1:Int):Option Bool :=
 (Qex).bind fun x1 =>
 if (!x1)=true then
  some false
 else
 (Yr p0).bind fun x5 =>
 (Ve p0).bind fun x7 =>
 if 0≤(0:Int)∧(0:Int)≤(if 4 < (x7.length:Int) then 4 else (x7.length:Int))∧(if 4 < (x7.length:Int) then 4 else (x7.length:Int))≤(x7.length:Int) then
  (Qct x5 (((Int.toNat (if 4 < (x7.length:Int) then 4 else (x7.length:Int)) - Int.toNat (0:Int)):Nat):Int)).bind fun x10 =>
  if (x10.2 != 0)=true then
   some (x10.2==6)
  else
  if ((x10.1.Nodes.length:Int) != (zw (2*(((Int.toNat (if 4 < (x7.length:Int) then 4 else (x7.length:Int)) - Int.toNat (0:Int)):Nat):Int))))=true then
   some false
  else
  (Qd fuel (Vb x7) (0,([]:(List Int)))).bind fun x23 =>
  (Kv x5 (List.take (Int.toNat (if 4 < (x7.length:Int) then 4 else (x7.length:Int))) x7)).bind fun x24 =>
  (Qah x10.1 x23).bind fun x26 =>
  if (x24.2 != 0)=true then
   some false
  else
  if (x26.2 != 0)=true then
   some false
  else
  if (!((x24.1.N==x26.1.N) && ((x24.1.D==x26.1.D) && true)))=true then
   some false
  else
  if (((List.take (Int.toNat (if 4 < (x7.length:Int) then 4 else (x7.length:Int))) x7).length):Int)≠0 then
   (Vh x5 (List.take (Int.toNat (if 4 < (x7.length:Int) then 4 else (x7.length:Int))) x7)).bind fun x34 =>
   (Z6 x10.1 x23 (zw (2*(Int.tmod (zw (p1)) (((List.take (Int.toNat (if 4 < (x7.length:Int) then 4 else (x7.length:Int))) x7).length):Int))))).bind fun x36 =>
   if (x34.2 != x36.2)=true then
    some false
   else
   if (x34.2 != 0)=true then
    if (x34.2 != 7)=true then
     some false
    else
    (Qy x23).bind fun x45 =>
    (Qd fuel (Xi) (zw ((zw (2*(Int.tmod (zw (p1)) (((List.take (Int.toNat (if 4 < (x7.length:Int) then 4 else (x7.length:Int))) x7).length):Int))))+2),x45)).bind fun x54 =>
    (Jp x5 (List.take (Int.toNat (if 4 < (x7.length:Int) then 4 else (x7.length:Int))) x7)).bind fun x55 =>
    (Z6 x10.1 x54 (zw (2*(Int.tmod (zw (p1)) (((List.take (Int.toNat (if 4 < (x7.length:Int) then 4 else (x7.length:Int))) x7).length):Int))))).bind fun x57 =>
    if (x55.2==x34.2)=true then
     if (x55.2 != 0)=true then
      some true
     else
     if (x57.2==0)=true then
      if ((x55.1.length:Int)==(((List.take (Int.toNat (if 4 < (x7.length:Int) then 4 else (x7.length:Int))) x7).length):Int))=true then
       (lkI x55.1 (Int.tmod (zw (p1)) (((List.take (Int.toNat (if 4 < (x7.length:Int) then 4 else (x7.length:Int))) x7).length):Int))).bind fun a67 =>
       (Zo a67 x57.1).bind fun x69 =>
       some x69
      else
      some false
     else
     some false
    else
    some false
   else
   if ((x34.1.length:Int) != (((List.take (Int.toNat (if 4 < (x7.length:Int) then 4 else (x7.length:Int))) x7).length):Int))=true then
    some false
   else
   (lkI x34.1 (Int.tmod (zw (p1)) (((List.take (Int.toNat (if 4 < (x7.length:Int) then 4 else (x7.length:Int))) x7).length):Int))).bind fun a74 =>
   (Zo a74 x36.1).bind fun x76 =>
   if (!x76)=true then
    some false
   else
   (Qy x23).bind fun x80 =>
   (Qd fuel (Qa9) (zw ((zw (2*(Int.tmod (zw (p1)) (((List.take (Int.toNat (if 4 < (x7.length:Int) then 4 else (x7.length:Int))) x7).length):Int))))+2),x80)).bind fun x89 =>
   (Jp x5 (List.take (Int.toNat (if 4 < (x7.length:Int) then 4 else (x7.length:Int))) x7)).bind fun x90 =>
   (Z6 x10.1 x89 (zw (2*(Int.tmod (zw (p1)) (((List.take (Int.toNat (if 4 < (x7.length:Int) then 4 else (x7.length:Int))) x7).length):Int))))).bind fun x92 =>
   if (x90.2==x34.2)=true then
    if (x90.2 != 0)=true then
     some true
    else
    if (x92.2==0)=true then
     if ((x90.1.length:Int)==(((List.take (Int.toNat (if 4 < (x7.length:Int) then 4 else (x7.length:Int))) x7).length):Int))=true then
      (lkI x90.1 (Int.tmod (zw (p1)) (((List.take (Int.toNat (if 4 < (x7.length:Int) then 4 else (x7.length:Int))) x7).length):Int))).bind fun a102 =>
      (Zo a102 x92.1).bind fun x104 =>
      some x104
     else
     some false
    else
    some false
   else
   some false
  else none
 else none
end Go.Ab
