/- Functions. No conditions. -/
import Derived.Test.YtapoljjoedcknaaEng9
set_option linter.all false
namespace Go.Ab
open Go
structure Qd where
 Grain:Int
 Count:Int
 One:Int
 Rows:(List (List Int))
 deriving DecidableEq,Inhabited
structure Qi where
 Card:Int
 Parents:(List Int)
 Rows:(List (List Int))
 deriving DecidableEq,Inhabited
@[reducible] def eTapi_Node (x:Qi):AV:=.agg [vI x.Card,eL true eI x.Parents,eL false (eL true eI) x.Rows]
structure Qm where
 Grain:Int
 Nodes:(List Qi)
 deriving DecidableEq,Inhabited
structure Tlift_counter where
 Lift:Qd
 zeros:Int
 ones:Int
 child:Int
 deriving DecidableEq,Inhabited
structure Qb where
 N:Int
 D:Int
 deriving DecidableEq,Inhabited
@[reducible] def eTapi_Q (x:Qb):AV:=.agg [vI x.N,vI x.D]
structure Q0 where
 Zeros:Int
 Ones:Int
 Child:Int
 deriving DecidableEq,Inhabited
@[reducible] def eTharuspexlaw14_Known (x:Q0):AV:=.agg [vI x.Zeros,vI x.Ones,vI x.Child]
structure Qq where
 Grain:Int
 Count:Int
 One:Int
 Card:Int
 L:(List Int)
 deriving DecidableEq,Inhabited
@[reducible] def eTharuspexref14_Draft (x:Qq):AV:=.agg [.int .u8 x.Grain,.int .u8 x.Count,.int .u8 x.One,.int .u8 x.Card,eL true (AV.int .u8) x.L]
structure Qw where
 Net:Qm
 cards:(List Int)
 sets:(List Int)
 order:(List Int)
 deriving DecidableEq,Inhabited
structure Qs where
 Vars:(List Int)
 Cards:(List Int)
 W:(List Int)
 deriving DecidableEq,Inhabited
@[reducible] def Q2 (x:Qs):AV:=.agg [eL true eI x.Vars,eL true eI x.Cards,eL true eI x.W]
structure Qo where
 Net:Qm
 factors:(List Qs)
 steps:(List (List Int))
 deriving DecidableEq,Inhabited
structure Tjoint_place where
 node:Int
 value:Int
 deriving DecidableEq,Inhabited
@[reducible] def eTjoint_place (x:Tjoint_place):AV:=.agg [vI x.node,vI x.value]
@[reducible] def qTjoint_place (a b:Tjoint_place):Bool:=(a.node==b.node) && ((a.value==b.value) && true)
def Qbr (a24:(List Int)) (s28:(Int × Int)):Option (Qk (Int × Int) (Unit ⊕ Int)) :=
 if (decide (s28.2 < (a24.length:Int)))=true then
  (lkI a24 s28.2).bind fun a31 =>
  if (decide (a31 < 0))=true then
   some (.done (Sum.inl ()))
  else
  if (decide (a31 > s28.1))=true then
   some (.done (Sum.inl ()))
  else
  some (.next (zw (s28.1 - a31),zw (s28.2+1)))
 else
 some (.done (Sum.inr s28.1))
def Qbl (p0:Qd) (a15:(List Int)) (s21:Int):Option (Qk Int (Unit ⊕ Unit)) :=
 if (decide (s21 < (p0.Rows.length:Int)))=true then
  (lkI p0.Rows s21).bind fun a24 =>
  if ((a24.length:Int) != (a15.length:Int))=true then
   some (.done (Sum.inl ()))
  else
  (Qc fuel (Qbr a24) (p0.Grain,0)).bind fun x37=>match x37 with
  | .inl x38=>(
   some (.done (Sum.inl ())))
  | .inr x39=>(
   if (x39 != 0)=true then
    some (.done (Sum.inl ()))
   else
   some (.next (zw (s21+1))))
 else
 some (.done (Sum.inr ()))
def Xo (p0:Qd):Option Int :=
 if (decide (p0.Grain < 1))=true then
  some 140
 else
 if (decide (p0.Grain > 20))=true then
  some 140
 else
 if (decide (p0.Count < 1))=true then
  some 140
 else
 if (decide (p0.Count > 10))=true then
  some 140
 else
 if (decide (p0.One < 0))=true then
  some 140
 else
 if (decide (p0.One > p0.Grain))=true then
  some 140
 else
 if ((p0.Rows.length:Int) != (zw (p0.Count+1)))=true then
  some 140
 else
 (lkI p0.Rows 0).bind fun a15 =>
 if (decide ((a15.length:Int) < 2))=true then
  some 140
 else
 if (decide ((a15.length:Int) > 4))=true then
  some 140
 else
 (Qc fuel (Qbl p0 a15) 0).bind fun x42=>match x42 with
 | .inl x43=>(
  some 140)
 | .inr x44=>(
  some 0)
def Qal (p0:Qd) (s9:(Int × (List Int) × (List Qi) × (List Int))):Option (Qk (Int × (List Int) × (List Qi) × (List Int)) ((List Int) × (List Qi) × (List Int))) :=
 if (decide (s9.1 < p0.Count))=true then
  if (s9.2.2.1++([(Qi.mk 2 [] [[zw (p0.Grain - p0.One),p0.One]])]:(List Qi))).length*56≤140737488355328 then
   if (s9.2.2.2++([s9.1]:(List Int))).length*8≤140737488355328 then
    (lkI s9.2.1 s9.1).bind fun a12 =>
    some (.next (zw (s9.1+1),(List.set s9.2.1 (Int.toNat s9.1) 2),(s9.2.2.1++([(Qi.mk 2 [] [[zw (p0.Grain - p0.One),p0.One]])]:(List Qi))),(s9.2.2.2++([s9.1]:(List Int)))))
   else none
  else none
 else
 some (.done (s9.2.1,s9.2.2.1,s9.2.2.2))
def Jg (s17:(Int × (List (List Int)) × (List Int))) (s18:(Int × Int)):Option (Qk (Int × Int) Int) :=
 if (decide (s18.2 < (s17.2.2.length:Int)))=true then
  (lkI s17.2.2 s18.2).bind fun a21 =>
  some (.next (zw (s18.1+a21),zw (s18.2+1)))
 else
 some (.done s18.1)
def Jj (x16:((List Int) × (List Qi) × (List Int))) (s27:(Int × (List Int))):Option (Qk (Int × (List Int)) (Int × (List Int))) :=
 if (decide (s27.1≥0))=true then
  (lkI s27.2 s27.1).bind fun a30 =>
  (lkI x16.1 s27.1).bind fun a32 =>
  if (a30==(zw (a32 - 1)))=true then
   some (.next (zw (s27.1 - 1),(List.set s27.2 (Int.toNat s27.1) 0)))
  else
  some (.done (s27.1,s27.2))
 else
 some (.done (s27.1,s27.2))
def Qad (p0:Qd) (x16:((List Int) × (List Qi) × (List Int))) (s17:(Int × (List (List Int)) × (List Int))):Option (Qk (Int × (List (List Int)) × (List Int)) (List (List Int))) :=
 (Qc fuel (Jg s17) (0,0)).bind fun x24 =>
 (lkI p0.Rows x24).bind fun a25 =>
 if a25.length*8≤140737488355328 then
  if (s17.2.1++([a25]:(List (List Int)))).length*24≤140737488355328 then
   (Qc fuel (Jj x16) (zw ((x16.1.length:Int) - 1),s17.2.2)).bind fun x38 =>
   if (decide (x38.1 < 0))=true then
    some (.done (s17.2.1++([a25]:(List (List Int)))))
   else
   (lkI x38.2 x38.1).bind fun a41 =>
   some (.next (zw (s17.1+1),(s17.2.1++([a25]:(List (List Int)))),(List.set x38.2 (Int.toNat x38.1) (zw (a41+1)))))
  else none
 else none
def Vg (p0:Qd):Option (Qm × Int) :=
 (Xo p0).bind fun x1 =>
 if (x1 != 0)=true then
  some ((Qm.mk 0 ([]:(List Qi))),x1)
 else
 if (decide (p0.Count > 7))=true then
  some ((Qm.mk 0 ([]:(List Qi))),6)
 else
 (lkI p0.Rows 0).bind fun a7 =>
 if 0≤p0.Count∧p0.Count≤p0.Count∧p0.Count*8≤140737488355328 then
  (Qc fuel (Qal p0) (0,(List.replicate (Int.toNat p0.Count) (0:Int)),([]:(List Qi)),([]:(List Int)))).bind fun x16 =>
  if 0≤(x16.1.length:Int)∧(x16.1.length:Int)≤(x16.1.length:Int)∧(x16.1.length:Int)*8≤140737488355328 then
   (Qc fuel (Qad p0 x16) (0,([]:(List (List Int))),(List.replicate (Int.toNat (x16.1.length:Int)) (0:Int)))).bind fun x45 =>
   if (x16.2.1++([(Qi.mk (a7.length:Int) x16.2.2 x45)]:(List Qi))).length*56≤140737488355328 then
    some ((Qm.mk p0.Grain (x16.2.1++([(Qi.mk (a7.length:Int) x16.2.2 x45)]:(List Qi)))),0)
   else none
  else none
 else none
def Qd4  (s1:(Int × Int)):Option (Qk (Int × Int) Int) :=
 if (s1.2 != 0)=true then
  if s1.2≠0 then
   some (.next (s1.2,Int.tmod s1.1 s1.2))
  else none
 else
 some (.done s1.1)
def Ys (p0:Int) (p1:Int):Option Qb :=
 (Qc fuel (Qd4) ((if (zw (0 - p0)) > p0 then (zw (0 - p0)) else p0),p1)).bind fun x5 =>
 if x5≠0 then
  if x5≠0 then
   some (Qb.mk (zw (Int.tdiv p0 x5)) (zw (Int.tdiv p1 x5)))
  else none
 else none
def Y1 (p0:Tlift_counter) (s1:(Int × (List Int))):Option (Qk (Int × (List Int)) (List Int)) :=
 if (decide (s1.1 < (zw (p0.Lift.Count+1))))=true then
  if (s1.2++([s1.1]:(List Int))).length*8≤140737488355328 then
   some (.next (zw (s1.1+1),(s1.2++([s1.1]:(List Int)))))
  else none
 else
 some (.done s1.2)
def Xn (p0:Tlift_counter):Option (List Int) :=
 (Qc fuel (Y1 p0) (0,([]:(List Int)))).bind fun x5 =>
 some x5
def Zy (p0:Tlift_counter):Option Int :=
 some (zw ((zw (p0.Lift.Count - p0.zeros)) - p0.ones))
def Qiz (s1:(Int × (List Int) × (List Int))) (s4:(Int × (List Int))):Option (Qk (Int × (List Int)) (List Int)) :=
 if (decide (s4.1 < (s1.2.2.length:Int)))=true then
  (lkI s1.2.2 s4.1).bind fun a7 =>
  (lkI s4.2 s4.1).bind fun a9 =>
  (lkI (List.set s4.2 (Int.toNat s4.1) (zw (a9+a7))) (zw (s4.1+1))).bind fun a11 =>
  (lkI (List.set s4.2 (Int.toNat s4.1) (zw (a9+a7))) (zw (s4.1+1))).bind fun a13 =>
  some (.next (zw (s4.1+1),(List.set (List.set s4.2 (Int.toNat s4.1) (zw (a9+a7))) (Int.toNat (zw (s4.1+1))) (zw (a11+a7)))))
 else
 some (.done s4.2)
def Qhx (p0:Int) (s1:(Int × (List Int) × (List Int))):Option (Qk (Int × (List Int) × (List Int)) ((List Int) × (List Int))) :=
 if (decide (s1.1 < p0))=true then
  if 0≤(zw ((s1.2.2.length:Int)+1))∧(zw ((s1.2.2.length:Int)+1))≤(zw ((s1.2.2.length:Int)+1))∧(zw ((s1.2.2.length:Int)+1))*8≤140737488355328 then
   (Qc fuel (Qiz s1) (0,(List.replicate (Int.toNat (zw ((s1.2.2.length:Int)+1))) (0:Int)))).bind fun x18 =>
   some (.next (zw (s1.1+1),s1.2.2,x18))
  else none
 else
 some (.done (s1.2.1,s1.2.2))
def Q6 (p0:Int):Option (List Int) :=
 (Qc fuel (Qhx p0) (0,([]:(List Int)),([1]:(List Int)))).bind fun x20 =>
 some x20.2
def Qah (p1:Int) (p0:Int) (s1:(Int × Int)):Option (Qk (Int × Int) Int) :=
 if (decide (s1.2 < p1))=true then
  some (.next (zw (s1.1*p0),zw (s1.2+1)))
 else
 some (.done s1.1)
def Yt (p0:Int) (p1:Int):Option Int :=
 (Qc fuel (Qah p1 p0) (1,0)).bind fun x5 =>
 some x5
def Xp (p0:Tlift_counter) (p1:Int) (p2:Int):Option Int :=
 (Yt p0.Lift.One p1).bind fun x1 =>
 (Yt (zw (p0.Lift.Grain - p0.Lift.One)) p2).bind fun x3 =>
 some (zw (x1*x3))
def X3 (p0:Tlift_counter) (p1:Int):Option Int :=
 if (decide (p0.child < 0))=true then
  some p0.Lift.Grain
 else
 (lkI p0.Lift.Rows p1).bind fun a3 =>
 (lkI a3 p0.child).bind fun a5 =>
 some a5
def Vw (x5:(List Int)) (p0:Tlift_counter) (x3:(List Int)) (s7:(Int × Int)):Option (Qk (Int × Int) Int) :=
 if (decide (s7.2 < (x5.length:Int)))=true then
  (lkI x5 s7.2).bind fun a10 =>
  if (decide (a10 < p0.ones))=true then
   some (.next (zw (s7.1+0),zw (s7.2+1)))
  else
  if (decide (a10 > (zw (p0.Lift.Count - p0.zeros))))=true then
   some (.next (zw (s7.1+0),zw (s7.2+1)))
  else
  (lkI x3 (zw (a10 - p0.ones))).bind fun a16 =>
  (Xp p0 a10 (zw (p0.Lift.Count - a10))).bind fun x18 =>
  (X3 p0 a10).bind fun x20 =>
  some (.next (zw (s7.1+(zw ((zw (a16*x18))*x20))),zw (s7.2+1)))
 else
 some (.done s7.1)
def Za (p0:Tlift_counter):Option Int :=
 (Zy p0).bind fun x1 =>
 (Q6 x1).bind fun x3 =>
 (Xn p0).bind fun x5 =>
 (Qc fuel (Vw x5 p0 x3) (0,0)).bind fun x23 =>
 some x23
def Kx (p0:Qd) (p1:Int) (p2:Int) (p3:Int):Option (Qb × Int) :=
 (Xo p0).bind fun x1 =>
 if (x1 != 0)=true then
  some ((Qb.mk 0 0),x1)
 else
 if (decide (p1 < 0))=true then
  some ((Qb.mk 0 0),2)
 else
 if (decide (p1 > p0.Count))=true then
  some ((Qb.mk 0 0),2)
 else
 if (decide (p2 < 0))=true then
  some ((Qb.mk 0 0),2)
 else
 if (decide (p2 > (zw (p0.Count - p1))))=true then
  some ((Qb.mk 0 0),2)
 else
 if (decide (p3 < (-1)))=true then
  some ((Qb.mk 0 0),2)
 else
 (lkI p0.Rows 0).bind fun a16 =>
 if (decide (p3≥(a16.length:Int)))=true then
  some ((Qb.mk 0 0),2)
 else
 (Za (Tlift_counter.mk p0 p1 p2 p3)).bind fun x20 =>
 (Yt p0.Grain (zw (p0.Count+1))).bind fun x22 =>
 (Ys x20 x22).bind fun x24 =>
 some (x24,0)
def Km (p1:(List Int)) (p0:Int) (s1:(Int × (List Qb))):Option (Qk (Int × (List Qb)) (List Qb)) :=
 if (decide (s1.1 < (p1.length:Int)))=true then
  (lkI p1 s1.1).bind fun a4 =>
  (Ys a4 p0).bind fun x6 =>
  (lkI s1.2 s1.1).bind fun a8 =>
  some (.next (zw (s1.1+1),(List.set s1.2 (Int.toNat s1.1) x6)))
 else
 some (.done s1.2)
def V2 (p0:Int) (p1:(List Int)):Option (List Qb) :=
 if 0≤(p1.length:Int)∧(p1.length:Int)≤(p1.length:Int)∧(p1.length:Int)*16≤140737488355328 then
  (Qc fuel (Km p1 p0) (0,(List.replicate (Int.toNat (p1.length:Int)) ((Qb.mk 0 0):Qb)))).bind fun x12 =>
  some x12
 else none
def Ql0 (x24:(List Int)) (p2:Int) (p0:Qd) (p1:Int) (x28:(List Int)) (p3:Int) (s30:(Int × (List Int))):Option (Qk (Int × (List Int)) (List Int)) :=
 if (decide (s30.1 < (x24.length:Int)))=true then
  (lkI s30.2 s30.1).bind fun a33 =>
  if (decide (a33 < p2))=true then
   some (.next (zw (s30.1+1),(List.set s30.2 (Int.toNat s30.1) 0)))
  else
  if (decide (a33 > (zw (p0.Count - p1))))=true then
   some (.next (zw (s30.1+1),(List.set s30.2 (Int.toNat s30.1) 0)))
  else
  (lkI x28 (zw (a33 - p2))).bind fun a41 =>
  (Xp (Tlift_counter.mk p0 p1 p2 p3) a33 (zw (p0.Count - a33))).bind fun x43 =>
  (X3 (Tlift_counter.mk p0 p1 p2 p3) a33).bind fun x45 =>
  some (.next (zw (s30.1+1),(List.set s30.2 (Int.toNat s30.1) (zw ((zw (a41*x43))*x45)))))
 else
 some (.done s30.2)
def Qjp (p0:Qd) (p1:Int) (p2:Int) (p3:Int):Option ((List Qb) × Int) :=
 (Xo p0).bind fun x1 =>
 if (x1 != 0)=true then
  some (([]:(List Qb)),x1)
 else
 if (decide (p1 < 0))=true then
  some (([]:(List Qb)),2)
 else
 if (decide (p1 > p0.Count))=true then
  some (([]:(List Qb)),2)
 else
 if (decide (p2 < 0))=true then
  some (([]:(List Qb)),2)
 else
 if (decide (p2 > (zw (p0.Count - p1))))=true then
  some (([]:(List Qb)),2)
 else
 if (decide (p3 < (-1)))=true then
  some (([]:(List Qb)),2)
 else
 (lkI p0.Rows 0).bind fun a16 =>
 if (decide (p3≥(a16.length:Int)))=true then
  some (([]:(List Qb)),2)
 else
 (Za (Tlift_counter.mk p0 p1 p2 p3)).bind fun x20 =>
 if (x20==0)=true then
  some (([]:(List Qb)),7)
 else
 (Xn (Tlift_counter.mk p0 p1 p2 p3)).bind fun x24 =>
 (Zy (Tlift_counter.mk p0 p1 p2 p3)).bind fun x26 =>
 (Q6 x26).bind fun x28 =>
 (Qc fuel (Ql0 x24 p2 p0 p1 x28 p3) (0,x24)).bind fun x49 =>
 (V2 x20 x49).bind fun x50 =>
 some (x50,0)
def Ya (p0:(List Qb)) (p1:(List Qb)) (s3:Int):Option (Qk Int (Unit ⊕ Unit)) :=
 if (decide (s3 < (p0.length:Int)))=true then
  (lkI p0 s3).bind fun a6 =>
  (lkI p1 s3).bind fun a8 =>
  if (!((a6.N==a8.N) && ((a6.D==a8.D) && true)))=true then
   some (.done (Sum.inl ()))
  else
  some (.next (zw (s3+1)))
 else
 some (.done (Sum.inr ()))
def Qr (p0:(List Qb)) (p1:(List Qb)):Option Bool :=
 if ((p0.length:Int) != (p1.length:Int))=true then
  some false
 else
 (Qc fuel (Ya p0 p1) 0).bind fun x12=>match x12 with
 | .inl x13=>(
  some false)
 | .inr x14=>(
  some true)
def Ks (p0:Qd) (p1:Int) (p2:Int) (p3:Int):Option (Qb × Int) :=
 (Xo p0).bind fun x1 =>
 if (x1 != 0)=true then
  some ((Qb.mk 0 0),x1)
 else
 if (decide (p1 < 0))=true then
  some ((Qb.mk 0 0),2)
 else
 if (decide (p1 > p0.Count))=true then
  some ((Qb.mk 0 0),2)
 else
 if (decide (p2 < 0))=true then
  some ((Qb.mk 0 0),2)
 else
 if (decide (p2 > (zw (p0.Count - p1))))=true then
  some ((Qb.mk 0 0),2)
 else
 if (decide (p3 < (-1)))=true then
  some ((Qb.mk 0 0),2)
 else
 (lkI p0.Rows 0).bind fun a16 =>
 if (decide (p3≥(a16.length:Int)))=true then
  some ((Qb.mk 0 0),2)
 else
 (Zy (Tlift_counter.mk p0 p1 p2 p3)).bind fun x20 =>
 if (x20==0)=true then
  some ((Qb.mk 0 0),4)
 else
 (Za (Tlift_counter.mk p0 p1 p2 p3)).bind fun x24 =>
 if (x24==0)=true then
  some ((Qb.mk 0 0),7)
 else
 (Za (Tlift_counter.mk p0 p1 (zw (p2+1)) p3)).bind fun x28 =>
 (Ys x28 x24).bind fun x30 =>
 some (x30,0)
def Qa7 (a14:(List Int)) (p0:Qd) (p1:Int) (p2:Int) (s22:(Int × (List Int))):Option (Qk (Int × (List Int)) (List Int)) :=
 if (decide (s22.1 < (((List.replicate (Int.toNat (a14.length:Int)) (0:Int)).length):Int)))=true then
  (Za (Tlift_counter.mk p0 p1 p2 s22.1)).bind fun x25 =>
  (lkI s22.2 s22.1).bind fun a27 =>
  some (.next (zw (s22.1+1),(List.set s22.2 (Int.toNat s22.1) x25)))
 else
 some (.done s22.2)
def X7 (p0:Qd) (p1:Int) (p2:Int):Option ((List Qb) × Int) :=
 (Xo p0).bind fun x1 =>
 if (x1 != 0)=true then
  some (([]:(List Qb)),x1)
 else
 if (decide (p1 < 0))=true then
  some (([]:(List Qb)),2)
 else
 if (decide (p1 > p0.Count))=true then
  some (([]:(List Qb)),2)
 else
 if (decide (p2 < 0))=true then
  some (([]:(List Qb)),2)
 else
 if (decide (p2 > (zw (p0.Count - p1))))=true then
  some (([]:(List Qb)),2)
 else
 (lkI p0.Rows 0).bind fun a14 =>
 if (decide ((-1)≥(a14.length:Int)))=true then
  some (([]:(List Qb)),2)
 else
 (Za (Tlift_counter.mk p0 p1 p2 (-1))).bind fun x18 =>
 if (x18==0)=true then
  some (([]:(List Qb)),7)
 else
 if 0≤(a14.length:Int)∧(a14.length:Int)≤(a14.length:Int)∧(a14.length:Int)*8≤140737488355328 then
  (Qc fuel (Qa7 a14 p0 p1 p2) (0,(List.replicate (Int.toNat (a14.length:Int)) (0:Int)))).bind fun x31 =>
  (V2 x18 x31).bind fun x32 =>
  some (x32,0)
 else none
def Qjk  (s1:(Int × (List Int))):Option (Qk (Int × (List Int)) (List Int)) :=
 if (s1.1 != 0)=true then
  if (s1.2++([(if (zw (0 - (Int.tmod s1.1 10000))) > (Int.tmod s1.1 10000) then (zw (0 - (Int.tmod s1.1 10000))) else (Int.tmod s1.1 10000))]:(List Int))).length*8≤140737488355328 then
   some (.next (zw (Int.tdiv s1.1 10000),(s1.2++([(if (zw (0 - (Int.tmod s1.1 10000))) > (Int.tmod s1.1 10000) then (zw (0 - (Int.tmod s1.1 10000))) else (Int.tmod s1.1 10000))]:(List Int)))))
  else none
 else
 some (.done s1.2)
def Kj (p0:Int):Option (List Int) :=
 (Qc fuel (Qjk) (p0,([]:(List Int)))).bind fun x5 =>
 some x5
def Qik (p0:(List Int)) (p1:(List Int)) (s5:Int):Option (Qk Int (Int ⊕ Unit)) :=
 if (decide (s5≥0))=true then
  (lkI p0 s5).bind fun a8 =>
  (lkI p1 s5).bind fun a10 =>
  if (a8 != a10)=true then
   if (decide (a8 < a10))=true then
    some (.done (Sum.inl (-1)))
   else
   some (.done (Sum.inl 1))
  else
  some (.next (zw (s5 - 1)))
 else
 some (.done (Sum.inr ()))
def Qbm (p0:(List Int)) (p1:(List Int)):Option Int :=
 if ((p0.length:Int) != (p1.length:Int))=true then
  if (decide ((p0.length:Int) < (p1.length:Int)))=true then
   some (-1)
  else
  some 1
 else
 (Qc fuel (Qik p0 p1) (zw ((p0.length:Int) - 1))).bind fun x16=>match x16 with
 | .inl x17=>(
  some x17)
 | .inr x18=>(
  some 0)
def Qmj  (s1:(List Int)):Option (Qk (List Int) (List Int)) :=
 if (decide ((s1.length:Int) > 0))=true then
  (lkI s1 (zw ((s1.length:Int) - 1))).bind fun a4 =>
  if (a4==0)=true then
   if 0≤(0:Int)∧(0:Int)≤(zw ((s1.length:Int) - 1))∧(zw ((s1.length:Int) - 1))≤(s1.length:Int) then
    some (.next (sub s1 0 (zw ((s1.length:Int) - 1))))
   else none
  else
  some (.done s1)
 else
 some (.done s1)
def Jr (p0:(List Int)):Option (List Int) :=
 (Qc fuel (Qmj) p0).bind fun x9 =>
 some x9
def Qkg (p1:(List Int)) (s1:(Int × (List Int))) (p0:(List Int)) (s4:(Int × Int × (List Int))):Option (Qk (Int × Int × (List Int)) (List Int)) :=
 if (decide (s4.2.1 < (p1.length:Int)))=true then
  (lkI s4.2.2 (zw (s1.1+s4.2.1))).bind fun a7 =>
  (lkI p0 s1.1).bind fun a10 =>
  (lkI p1 s4.2.1).bind fun a12 =>
  (lkI s4.2.2 (zw (s1.1+s4.2.1))).bind fun a14 =>
  some (.next (zw (Int.tdiv (zw ((zw (s4.1+a7))+(zw (a10*a12)))) 10000),zw (s4.2.1+1),(List.set s4.2.2 (Int.toNat (zw (s1.1+s4.2.1))) (Int.tmod (zw ((zw (s4.1+a7))+(zw (a10*a12)))) 10000))))
 else
 if (decide (s4.1 > 0))=true then
  (lkI s4.2.2 (zw (s1.1+s4.2.1))).bind fun a19 =>
  (lkI s4.2.2 (zw (s1.1+s4.2.1))).bind fun a22 =>
  some (.next (zw (Int.tdiv (zw (s4.1+a19)) 10000),zw (s4.2.1+1),(List.set s4.2.2 (Int.toNat (zw (s1.1+s4.2.1))) (Int.tmod (zw (s4.1+a19)) 10000))))
 else
 some (.done s4.2.2)
def Qkj (p0:(List Int)) (p1:(List Int)) (s1:(Int × (List Int))):Option (Qk (Int × (List Int)) (List Int)) :=
 if (decide (s1.1 < (p0.length:Int)))=true then
  (Qc fuel (Qkg p1 s1 p0) (0,0,s1.2)).bind fun x26 =>
  some (.next (zw (s1.1+1),x26))
 else
 some (.done s1.2)
def Qc5 (p0:(List Int)) (p1:(List Int)):Option (List Int) :=
 if 0≤(zw ((p0.length:Int)+(p1.length:Int)))∧(zw ((p0.length:Int)+(p1.length:Int)))≤(zw ((p0.length:Int)+(p1.length:Int)))∧(zw ((p0.length:Int)+(p1.length:Int)))*8≤140737488355328 then
  (Qc fuel (Qkj p0 p1) (0,(List.replicate (Int.toNat (zw ((p0.length:Int)+(p1.length:Int)))) (0:Int)))).bind fun x28 =>
  (Jr x28).bind fun x29 =>
  some x29
 else none
def Qj6 (p0:(List Int)) (p1:(List Int)) (s1:(Int × Int × (List Int))):Option (Qk (Int × Int × (List Int)) (List Int)) :=
 if (decide (s1.2.1 < (p0.length:Int)))=true then
  (lkI p0 s1.2.1).bind fun a4 =>
  if (decide (s1.2.1 < (p1.length:Int)))=true then
   (lkI p1 s1.2.1).bind fun a8 =>
   if (decide ((zw ((zw (a4 - s1.1)) - a8)) < 0))=true then
    if (s1.2.2++([zw ((zw ((zw (a4 - s1.1)) - a8))+10000)]:(List Int))).length*8≤140737488355328 then
     some (.next (1,zw (s1.2.1+1),(s1.2.2++([zw ((zw ((zw (a4 - s1.1)) - a8))+10000)]:(List Int)))))
    else none
   else
   if (s1.2.2++([zw ((zw (a4 - s1.1)) - a8)]:(List Int))).length*8≤140737488355328 then
    some (.next (0,zw (s1.2.1+1),(s1.2.2++([zw ((zw (a4 - s1.1)) - a8)]:(List Int)))))
   else none
  else
  if (decide ((zw (a4 - s1.1)) < 0))=true then
   if (s1.2.2++([zw ((zw (a4 - s1.1))+10000)]:(List Int))).length*8≤140737488355328 then
    some (.next (1,zw (s1.2.1+1),(s1.2.2++([zw ((zw (a4 - s1.1))+10000)]:(List Int)))))
   else none
  else
  if (s1.2.2++([zw (a4 - s1.1)]:(List Int))).length*8≤140737488355328 then
   some (.next (0,zw (s1.2.1+1),(s1.2.2++([zw (a4 - s1.1)]:(List Int)))))
  else none
 else
 some (.done s1.2.2)
def Qhf (p0:(List Int)) (p1:(List Int)):Option (List Int) :=
 (Qc fuel (Qj6 p0 p1) (0,0,([]:(List Int)))).bind fun x15 =>
 (Jr x15).bind fun x16 =>
 some x16
def Qjl (p1:(List Int)) (x8:(List Int)) (s10:(Int × Int × Int)):Option (Qk (Int × Int × Int) (Int × Int)) :=
 if (decide (s10.2.2≥(if (zw ((zw ((p1.length:Int) - 1)) - 1)) > 0 then (zw ((zw ((p1.length:Int) - 1)) - 1)) else 0)))=true then
  if (decide (s10.2.2 < (x8.length:Int)))=true then
   (lkI x8 s10.2.2).bind fun a15 =>
   if (decide (s10.2.2≤(zw ((p1.length:Int) - 1))))=true then
    (lkI p1 s10.2.2).bind fun a19 =>
    some (.next (zw ((zw (s10.1*10000))+a19),zw ((zw (s10.2.1*10000))+a15),zw (s10.2.2 - 1)))
   else
   some (.next (s10.1,zw ((zw (s10.2.1*10000))+a15),zw (s10.2.2 - 1)))
  else
  if (decide (s10.2.2≤(zw ((p1.length:Int) - 1))))=true then
   (lkI p1 s10.2.2).bind fun a23 =>
   some (.next (zw ((zw (s10.1*10000))+a23),zw (s10.2.1*10000),zw (s10.2.2 - 1)))
  else
  some (.next (s10.1,zw (s10.2.1*10000),zw (s10.2.2 - 1)))
 else
 some (.done (s10.1,s10.2.1))
def Qjn (p1:(List Int)) (x8:(List Int)) (s27:(Int × Int)):Option (Qk (Int × Int) Int) :=
 if (decide (s27.1 < s27.2))=true then
  (Qc5 p1 [zw (Int.tdiv (zw ((zw (s27.1+s27.2))+1)) 2)]).bind fun x30 =>
  (Qbm x30 x8).bind fun x32 =>
  if (decide (x32≤0))=true then
   some (.next (zw (Int.tdiv (zw ((zw (s27.1+s27.2))+1)) 2),s27.2))
  else
  some (.next (s27.1,zw ((zw (Int.tdiv (zw ((zw (s27.1+s27.2))+1)) 2)) - 1)))
 else
 some (.done s27.1)
def Qjm (p0:(List Int)) (p1:(List Int)) (s3:((List Int) × Int × (List Int))):Option (Qk ((List Int) × Int × (List Int)) ((List Int) × (List Int))) :=
 if (decide (s3.2.1≥0))=true then
  (lkI p0 s3.2.1).bind fun a6 =>
  if (([a6]:(List Int))++s3.1).length*8≤140737488355328 then
   (Jr (([a6]:(List Int))++s3.1)).bind fun x8 =>
   (Qc fuel (Qjl p1 x8) (0,0,zw ((zw ((p1.length:Int) - 1))+1))).bind fun x26 =>
   if (zw (x26.1+1))≠0 then
    if x26.1≠0 then
     (Qc fuel (Qjn p1 x8) (zw (Int.tdiv x26.2 (zw (x26.1+1))),zw (Int.tdiv x26.2 x26.1))).bind fun x37 =>
     (lkI s3.2.2 s3.2.1).bind fun a38 =>
     (Jr [x37]).bind fun x40 =>
     (Qc5 p1 x40).bind fun x42 =>
     (Qhf x8 x42).bind fun x44 =>
     some (.next (x44,zw (s3.2.1 - 1),(List.set s3.2.2 (Int.toNat s3.2.1) x37)))
    else none
   else none
  else none
 else
 some (.done (s3.1,s3.2.2))
def Kf (p0:(List Int)) (p1:(List Int)):Option ((List Int) × (List Int)) :=
 if (decide ((p0.length:Int)≤(zw ((p1.length:Int) - 1))))=true then
  if p0.length*8≤140737488355328 then
   some ([],p0)
  else none
 else
 if 0≤(zw ((p0.length:Int) - (zw ((p1.length:Int) - 1))))∧(zw ((p0.length:Int) - (zw ((p1.length:Int) - 1))))≤(zw ((p0.length:Int) - (zw ((p1.length:Int) - 1))))∧(zw ((p0.length:Int) - (zw ((p1.length:Int) - 1))))*8≤140737488355328 then
  if 0≤(zw ((p0.length:Int) - (zw ((p1.length:Int) - 1))))∧(zw ((p0.length:Int) - (zw ((p1.length:Int) - 1))))≤(p0.length:Int)∧(p0.length:Int)≤(p0.length:Int) then
   if (sub p0 (zw ((p0.length:Int) - (zw ((p1.length:Int) - 1)))) (p0.length:Int)).length*8≤140737488355328 then
    (Qc fuel (Qjm p0 p1) ((sub p0 (zw ((p0.length:Int) - (zw ((p1.length:Int) - 1)))) (p0.length:Int)),zw ((((List.replicate (Int.toNat (zw ((p0.length:Int) - (zw ((p1.length:Int) - 1))))) (0:Int)).length):Int) - 1),(List.replicate (Int.toNat (zw ((p0.length:Int) - (zw ((p1.length:Int) - 1))))) (0:Int)))).bind fun x48 =>
    (Jr x48.2).bind fun x49 =>
    some (x49,x48.1)
   else none
  else none
 else none
def Qmx  (s1:((List Int) × (List Int))):Option (Qk ((List Int) × (List Int)) (List Int)) :=
 if (decide ((s1.2.length:Int) > 0))=true then
  (Kf s1.1 s1.2).bind fun x4 =>
  some (.next (s1.2,x4.2))
 else
 some (.done s1.1)
def Qjw (p0:(List Int)) (p1:(List Int)):Option (List Int) :=
 (Qc fuel (Qmx) (p0,p1)).bind fun x7 =>
 some x7
def Qj3 (p0:(List Int)) (s7:(Int × Int)):Option (Qk (Int × Int) Int) :=
 if (decide (s7.2≥0))=true then
  (lkI p0 s7.2).bind fun a10 =>
  some (.next (zw ((zw (10000*s7.1))+a10),zw (s7.2 - 1)))
 else
 some (.done s7.1)
def Qcu (p0:(List Int)):Option (Int × Bool) :=
 (Kj 4611686018427387903).bind fun x1 =>
 (Qbm p0 x1).bind fun x3 =>
 if (decide (x3 > 0))=true then
  some (0,false)
 else
 (Qc fuel (Qj3 p0) (0,zw ((p0.length:Int) - 1))).bind fun x13 =>
 some (x13,true)
def Qh4 (p0:Bool) (p1:(List Int)) (p2:(List Int)):Option (Qb × Bool) :=
 (Qjw p1 p2).bind fun x1 =>
 (Kf p1 x1).bind fun x3 =>
 (Kf p2 x1).bind fun x5 =>
 (Qcu x3.1).bind fun x7 =>
 (Qcu x5.1).bind fun x9 =>
 if (!x7.2)=true then
  some ((Qb.mk 0 0),false)
 else
 if (!x9.2)=true then
  some ((Qb.mk 0 0),false)
 else
 if p0=true then
  some ((Qb.mk (zw (0 - x7.1)) x9.1),true)
 else
 some ((Qb.mk x7.1 x9.1),true)
def Qht (p0:Int) (p1:Int):Option (Qb × Bool) :=
 (Kj p0).bind fun x1 =>
 (Kj p1).bind fun x3 =>
 (Qh4 (!((decide (p0 < 0))==(decide (p1 < 0)))) x1 x3).bind fun x5 =>
 some (x5.1,x5.2)
def Qdg (p0:Int) (p1:Int):Option Qb :=
 (Qht p0 p1).bind fun x1 =>
 some x1.1
def Qk4 (p1:(List Int)) (p0:Int) (s1:(Int × (List Qb))):Option (Qk (Int × (List Qb)) (List Qb)) :=
 if (decide (s1.1 < (p1.length:Int)))=true then
  (lkI p1 s1.1).bind fun a4 =>
  (Qdg a4 p0).bind fun x6 =>
  if (s1.2++([x6]:(List Qb))).length*16≤140737488355328 then
   some (.next (zw (s1.1+1),(s1.2++([x6]:(List Qb)))))
  else none
 else
 some (.done s1.2)
def Qdt (p0:Int) (p1:(List Int)):Option (List Qb) :=
 (Qc fuel (Qk4 p1 p0) (0,([]:(List Qb)))).bind fun x9 =>
 some x9
def Qfr  : Option Qd :=
 some (Qd.mk 4 2 1 ([[4,0],[2,2],[0,4]]:(List (List Int))))
def Qc3  : Option Bool :=
 (Qfr).bind fun x1 =>
 (Qjp x1 0 0 (-1)).bind fun x3 =>
 (X7 x1 0 1).bind fun x5 =>
 (Ks x1 0 0 1).bind fun x7 =>
 (Kx x1 1 0 1).bind fun x9 =>
 (Vg x1).bind fun x11 =>
 if (x3.2==0)=true then
  (Qdt 16 [9,6,1]).bind fun x15 =>
  (Qr x3.1 x15).bind fun x17 =>
  if x17=true then
   if (x5.2==0)=true then
    (Qdt 8 [3,5]).bind fun x23 =>
    (Qr x5.1 x23).bind fun x25 =>
    if x25=true then
     if (x7.2==0)=true then
      (Qdg 5 8).bind fun x31 =>
      if ((x7.1.N==x31.N) && ((x7.1.D==x31.D) && true))=true then
       if (x9.2==0)=true then
        (Qdg 3 32).bind fun x37 =>
        if ((x9.1.N==x37.N) && ((x9.1.D==x37.D) && true))=true then
         if (x11.2==0)=true then
          if ((x11.1.Nodes.length:Int)==3)=true then
           (Xo x1).bind fun x45 =>
           if (x45==0)=true then
            (Xo (Qd.mk 0 0 0 [])).bind fun x49 =>
            some (x49==140)
           else
           some false
          else
          some false
         else
         some false
        else
        some false
       else
       some false
      else
      some false
     else
     some false
    else
    some false
   else
   some false
  else
  some false
 else
 some false
def V9 (p0:Q0) (p1:Qd):Option Q0 :=
 if (zv (zw (p1.Count+1)))≠0 then
  if (zv (zw ((zw (p1.Count - (zw (Int.tmod (zv (p0.Zeros)) (zv (zw (p1.Count+1)))))))+1)))≠0 then
   (lkI p1.Rows 0).bind fun a1 =>
   if (zv (zw ((a1.length:Int)+1)))≠0 then
    some (Q0.mk (zw (Int.tmod (zv (p0.Zeros)) (zv (zw (p1.Count+1))))) (zw (Int.tmod (zv (p0.Ones)) (zv (zw ((zw (p1.Count - (zw (Int.tmod (zv (p0.Zeros)) (zv (zw (p1.Count+1)))))))+1))))) (zw ((zw (Int.tmod (zv (p0.Child)) (zv (zw ((a1.length:Int)+1))))) - 1)))
   else none
  else none
 else none
def Qao (p0:Int) (p2:(List Int)) (s1:(Int × Int × (List Int))):Option (Qk (Int × Int × (List Int)) (List Int)) :=
 if (decide (s1.2.1 < p0))=true then
  if (decide (s1.2.1 < (zw (p0 - 1))))=true then
   if (decide (s1.2.1 < (p2.length:Int)))=true then
    (lkI p2 s1.2.1).bind fun a8 =>
    if (zw (s1.1+1))≠0 then
     if (s1.2.2++([Int.tmod (zw (a8)) (zw (s1.1+1))]:(List Int))).length*8≤140737488355328 then
      some (.next (zw (s1.1 - (Int.tmod (zw (a8)) (zw (s1.1+1)))),zw (s1.2.1+1),(s1.2.2++([Int.tmod (zw (a8)) (zw (s1.1+1))]:(List Int)))))
     else none
    else none
   else
   if (s1.2.2++([0]:(List Int))).length*8≤140737488355328 then
    some (.next (zw (s1.1 - 0),zw (s1.2.1+1),(s1.2.2++([0]:(List Int)))))
   else none
  else
  if (s1.2.2++([s1.1]:(List Int))).length*8≤140737488355328 then
   some (.next (zw (s1.1 - s1.1),zw (s1.2.1+1),(s1.2.2++([s1.1]:(List Int)))))
  else none
 else
 some (.done s1.2.2)
def Ky (p0:Int) (p1:Int) (p2:(List Int)):Option (List Int) :=
 (Qc fuel (Qao p0 p2) (p1,0,([]:(List Int)))).bind fun x11 =>
 some x11
def V5 (p0:Qq) (s1:(Int × (List (List Int)))) (s4:(Int × (List Int))):Option (Qk (Int × (List Int)) (List Int)) :=
 if (decide (s4.1 < 4))=true then
  if (decide ((p0.L.length:Int) > 0))=true then
   if (p0.L.length:Int)≠0 then
    (lkI p0.L (Int.tmod (zw ((zw (3*s1.1))+s4.1)) (p0.L.length:Int))).bind fun a9 =>
    if (s4.2++([a9]:(List Int))).length*1≤140737488355328 then
     some (.next (zw (s4.1+1),(s4.2++([a9]:(List Int)))))
    else none
   else none
  else
  some (.done s4.2)
 else
 some (.done s4.2)
def V4 (p0:Qq) (s1:(Int × (List (List Int)))):Option (Qk (Int × (List (List Int))) (List (List Int))) :=
 if (decide (s1.1≤(zw (1+(zw (Int.tmod p0.Count 10))))))=true then
  (Qc fuel (V5 p0 s1) (0,([]:(List Int)))).bind fun x12 =>
  (Ky (zw (2+(zw (Int.tmod p0.Card 3)))) (zw (1+(zw (Int.tmod p0.Grain 20)))) x12).bind fun x13 =>
  if (s1.2++([x13]:(List (List Int)))).length*24≤140737488355328 then
   some (.next (zw (s1.1+1),(s1.2++([x13]:(List (List Int))))))
  else none
 else
 some (.done s1.2)
def Vq (p0:Qq):Option Qd :=
 if (zw ((zw (1+(zw (Int.tmod p0.Grain 20))))+1))≠0 then
  (Qc fuel (V4 p0) (0,([]:(List (List Int))))).bind fun x16 =>
  some (Qd.mk (zw (1+(zw (Int.tmod p0.Grain 20)))) (zw (1+(zw (Int.tmod p0.Count 10)))) (Int.tmod (zw (p0.One)) (zw ((zw (1+(zw (Int.tmod p0.Grain 20))))+1))) x16)
 else none
def Vf (p1:Qi) (p0:Qw) (s1:(Int × Int)):Option (Qk (Int × Int) Int) :=
 if (decide (s1.2 < (p1.Parents.length:Int)))=true then
  (lkI p1.Parents s1.2).bind fun a4 =>
  (lkI p0.cards a4).bind fun a6 =>
  some (.next (zw (s1.1*a6),zw (s1.2+1)))
 else
 some (.done s1.1)
def Yb (a15:(List Int)) (s17:(Int × Int)):Option (Qk (Int × Int) (Unit ⊕ Int)) :=
 if (decide (s17.2 < (a15.length:Int)))=true then
  (lkI a15 s17.2).bind fun a20 =>
  if (decide (a20 < 0))=true then
   some (.done (Sum.inl ()))
  else
  if (decide (a20 > s17.1))=true then
   some (.done (Sum.inl ()))
  else
  some (.next (zw (s17.1 - a20),zw (s17.2+1)))
 else
 some (.done (Sum.inr s17.1))
def Ve (p1:Qi) (p0:Qw) (s12:Int):Option (Qk Int (Unit ⊕ Unit)) :=
 if (decide (s12 < (p1.Rows.length:Int)))=true then
  (lkI p1.Rows s12).bind fun a15 =>
  (Qc fuel (Yb a15) (p0.Net.Grain,0)).bind fun x26=>match x26 with
  | .inl x27=>(
   some (.done (Sum.inl ())))
  | .inr x28=>(
   if ((a15.length:Int) != p1.Card)=true then
    some (.done (Sum.inl ()))
   else
   if (x28 != 0)=true then
    some (.done (Sum.inl ()))
   else
   some (.next (zw (s12+1))))
 else
 some (.done (Sum.inr ()))
def Yx (p0:Qw) (p1:Qi):Option Bool :=
 (Qc fuel (Vf p1 p0) (1,0)).bind fun x9 =>
 if ((p1.Rows.length:Int) != x9)=true then
  some false
 else
 (Qc fuel (Ve p1 p0) 0).bind fun x33=>match x33 with
 | .inl x34=>(
  some false)
 | .inr x35=>(
  some true)
def Qa1 (p0:(List Int)) (s1:(Int × (List Int))) (s4:Int):Option (Qk Int ((Int × (List Int)) ⊕ Unit)) :=
 if (decide (s4 < (p0.length:Int)))=true then
  (lkI p0 s4).bind fun a7 =>
  if 0≤s4 then
   if ((zv (zb (Int.fdiv s1.1 (2^min (Int.toNat s4) (IntKind.bits .u64))) &&& zb 1).toNat)==0)=true then
    if ((zv (zb a7 &&& ~~~ zb s1.1).toNat)==0)=true then
     if (s1.2++([s4]:(List Int))).length*8≤140737488355328 then
      if 0≤s4 then
       some (.done (Sum.inl (zv (zb s1.1 ||| zb (zv (1*2^min (Int.toNat s4) (IntKind.bits .u64)))).toNat,(s1.2++([s4]:(List Int))))))
      else none
     else none
    else
    some (.next (zw (s4+1)))
   else
   some (.next (zw (s4+1)))
  else none
 else
 some (.done (Sum.inr ()))
def Jw (p0:(List Int)) (s1:(Int × (List Int))):Option (Qk (Int × (List Int)) (Unit ⊕ (List Int))) :=
 if (decide ((s1.2.length:Int) < (p0.length:Int)))=true then
  (Qc fuel (Qa1 p0 s1) 0).bind fun x13=>match x13 with
  | .inl x14=>(
   some (.next (x14.1,x14.2)))
  | .inr x15=>(
   some (.done (Sum.inl ())))
 else
 some (.done (Sum.inr s1.2))
def Qbs (p0:(List Int)):Option ((List Int) × Bool) :=
 if 0≤(0:Int)∧(0:Int)≤(p0.length:Int)∧(p0.length:Int)*8≤140737488355328 then
  (Qc fuel (Jw p0) (0,(List.replicate (Int.toNat 0) (0:Int)))).bind fun x16=>match x16 with
  | .inl x17=>(
   some (([]:(List Int)),false))
  | .inr x18=>(
   some (x18,true))
 else none
def Kz (p0:Qm) (s9:(Int × Int × (List Int))):Option (Qk (Int × Int × (List Int)) (Unit ⊕ (Int × (List Int)))) :=
 if (decide (s9.2.1 < (p0.Nodes.length:Int)))=true then
  (lkI p0.Nodes s9.2.1).bind fun a12 =>
  if (decide (a12.Card < 1))=true then
   some (.done (Sum.inl ()))
  else
  if (decide (a12.Card > 4))=true then
   some (.done (Sum.inl ()))
  else
  (lkI s9.2.2 s9.2.1).bind fun a18 =>
  some (.next (zw (s9.1*a12.Card),zw (s9.2.1+1),(List.set s9.2.2 (Int.toNat s9.2.1) a12.Card)))
 else
 some (.done (Sum.inr (s9.1,s9.2.2)))
def K8 (a29:Qi) (p0:Qm) (s26:(Int × (List Int))) (s31:(Int × Int × (List Int))):Option (Qk (Int × Int × (List Int)) (Unit ⊕ (List Int))) :=
 if (decide (s31.2.1 < (a29.Parents.length:Int)))=true then
  (lkI a29.Parents s31.2.1).bind fun a34 =>
  if (decide (a34≤s31.1))=true then
   some (.done (Sum.inl ()))
  else
  if (decide (a34≥(p0.Nodes.length:Int)))=true then
   some (.done (Sum.inl ()))
  else
  if (a34==s26.1)=true then
   some (.done (Sum.inl ()))
  else
  (lkI s31.2.2 s26.1).bind fun a42 =>
  if 0≤a34 then
   some (.next (a34,zw (s31.2.1+1),(List.set s31.2.2 (Int.toNat s26.1) (zv (zb a42 ||| zb (zv (1*2^min (Int.toNat a34) (IntKind.bits .u64)))).toNat))))
  else none
 else
 some (.done (Sum.inr s31.2.2))
def K3 (p0:Qm) (x23:(Int × (List Int))) (s26:(Int × (List Int))):Option (Qk (Int × (List Int)) (Unit ⊕ (List Int))) :=
 if (decide (s26.1 < (p0.Nodes.length:Int)))=true then
  (lkI p0.Nodes s26.1).bind fun a29 =>
  (Qc fuel (K8 a29 p0 s26) (-1,0,s26.2)).bind fun x45=>match x45 with
  | .inl x46=>(
   some (.done (Sum.inl ())))
  | .inr x47=>(
   (Yx (Qw.mk p0 x23.2 x47 []) a29).bind fun x48 =>
   if (!x48)=true then
    some (.done (Sum.inl ()))
   else
   some (.next (zw (s26.1+1),x47)))
 else
 some (.done (Sum.inr s26.2))
def Ke (p0:Qm):Option (Qw × Int) :=
 if (decide (p0.Grain < 1))=true then
  some ((Qw.mk (Qm.mk 0 []) [] [] []),50)
 else
 if (decide (p0.Grain > 60))=true then
  some ((Qw.mk (Qm.mk 0 []) [] [] []),50)
 else
 if (decide ((p0.Nodes.length:Int) < 1))=true then
  some ((Qw.mk (Qm.mk 0 []) [] [] []),50)
 else
 if (decide ((p0.Nodes.length:Int) > 8))=true then
  some ((Qw.mk (Qm.mk 0 []) [] [] []),50)
 else
 if 0≤(p0.Nodes.length:Int)∧(p0.Nodes.length:Int)≤(p0.Nodes.length:Int)∧(p0.Nodes.length:Int)*8≤140737488355328 then
  if 0≤(p0.Nodes.length:Int)∧(p0.Nodes.length:Int)≤(p0.Nodes.length:Int)∧(p0.Nodes.length:Int)*8≤140737488355328 then
   (Qc fuel (Kz p0) (1,0,(List.replicate (Int.toNat (p0.Nodes.length:Int)) (0:Int)))).bind fun x21=>match x21 with
   | .inl x22=>(
    some ((Qw.mk (Qm.mk 0 []) [] [] []),50))
   | .inr x23=>(
    if (decide (x23.1 > 1024))=true then
     some ((Qw.mk (Qm.mk 0 []) [] [] []),50)
    else
    (Qc fuel (K3 p0 x23) (0,(List.replicate (Int.toNat (p0.Nodes.length:Int)) (0:Int)))).bind fun x52=>match x52 with
    | .inl x53=>(
     some ((Qw.mk (Qm.mk 0 []) [] [] []),50))
    | .inr x54=>(
     (Qbs x54).bind fun x55 =>
     if (!x55.2)=true then
      some ((Qw.mk (Qm.mk 0 []) [] [] []),50)
     else
     some ((Qw.mk p0 x23.2 x54 x55.1),0)))
  else none
 else none
def Jv (p0:Int):Option Bool :=
 some (p0 != p0)
def J8 (p0:Int) (p1:Int):Option Bool :=
 (Jv p0).bind fun x1 =>
 if x1=true then
  (Jv p1).bind fun x5 =>
  if (!x5)=true then
   some true
  else
  some (decide (p0 < p1))
 else
 some (decide (p0 < p1))
def Vm (p0:Int):Option Bool :=
 some (p0 != p0)
def Xt (p0:(List Int)) (p1:Int) (s1:(Int × Int)):Option (Qk (Int × Int) Int) :=
 if (decide (s1.1 < s1.2))=true then
  (lkI p0 (zw (Int.fdiv (zv (zw (s1.1+s1.2))) (2^min (Int.toNat 1) (IntKind.bits .u64))))).bind fun a4 =>
  (J8 a4 p1).bind fun x6 =>
  if x6=true then
   some (.next (zw ((zw (Int.fdiv (zv (zw (s1.1+s1.2))) (2^min (Int.toNat 1) (IntKind.bits .u64))))+1),s1.2))
  else
  some (.next (s1.1,zw (Int.fdiv (zv (zw (s1.1+s1.2))) (2^min (Int.toNat 1) (IntKind.bits .u64)))))
 else
 some (.done s1.1)
def Z4 (p0:(List Int)) (p1:Int):Option (Int × Bool) :=
 (Qc fuel (Xt p0 p1) (0,(p0.length:Int))).bind fun x11 =>
 if (decide (x11 < (p0.length:Int)))=true then
  (lkI p0 x11).bind fun a14 =>
  if (a14==p1)=true then
   some (x11,true)
  else
  (Vm a14).bind fun x18 =>
  if x18=true then
   (Vm p1).bind fun x22 =>
   some (x11,x22)
  else
  some (x11,false)
 else
 some (x11,false)
def X8 (c0:Int) (d0:(List Int)):Option (List Int) :=
 if (c0::d0).length*8≤140737488355328 then
  some (c0::d0)
 else none
def Vc  : Option (List Int) :=
 some ([]:(List Int))
def Y7  : Option (List Int) :=
 some ([]:(List Int))
def Zm (p0:(List Int)):Option (List Int) :=
 match p0 with
 | []=>(Y7).bind fun x=>(Vc).bind fun y=>if x=y then some x else none
 | c0::d0=>X8 c0 d0
def Xd (x7:(List Int)) (p0:Qw) (x3:(Int × Bool)) (s8:(Int × Int × (List Int))):Option (Qk (Int × Int × (List Int)) (Int × (List Int))) :=
 if (decide (s8.1 < (x7.length:Int)))=true then
  (lkI x7 s8.1).bind fun a11 =>
  (lkI p0.cards a11).bind fun a13 =>
  if (s8.2.2++([a13]:(List Int))).length*8≤140737488355328 then
   if (decide (s8.1 > x3.1))=true then
    some (.next (zw (s8.1+1),zw (s8.2.1*a13),(s8.2.2++([a13]:(List Int)))))
   else
   some (.next (zw (s8.1+1),s8.2.1,(s8.2.2++([a13]:(List Int)))))
  else none
 else
 some (.done (s8.2.1,s8.2.2))
def Xf (a22:(List Int)) (x18:(Int × (List Int))) (s19:(Int × (List Int))) (a1:Qi) (s24:(Int × (List Int))):Option (Qk (Int × (List Int)) (List Int)) :=
 if (decide (s24.1 < (a22.length:Int)))=true then
  (lkI a22 s24.1).bind fun a27 =>
  if x18.1≠0 then
   if x18.1≠0 then
    (lkI s24.2 (zw ((zw ((zw ((zw ((zw (Int.tdiv s19.1 x18.1))*a1.Card))+s24.1))*x18.1))+(Int.tmod s19.1 x18.1)))).bind fun a29 =>
    (lkI s24.2 (zw ((zw ((zw ((zw ((zw (Int.tdiv s19.1 x18.1))*a1.Card))+s24.1))*x18.1))+(Int.tmod s19.1 x18.1)))).bind fun a31 =>
    some (.next (zw (s24.1+1),(List.set s24.2 (Int.toNat (zw ((zw ((zw ((zw ((zw (Int.tdiv s19.1 x18.1))*a1.Card))+s24.1))*x18.1))+(Int.tmod s19.1 x18.1)))) a27)))
   else none
  else none
 else
 some (.done s24.2)
def Xe (a1:Qi) (x18:(Int × (List Int))) (s19:(Int × (List Int))):Option (Qk (Int × (List Int)) (List Int)) :=
 if (decide (s19.1 < (a1.Rows.length:Int)))=true then
  (lkI a1.Rows s19.1).bind fun a22 =>
  (Qc fuel (Xf a22 x18 s19 a1) (0,s19.2)).bind fun x35 =>
  some (.next (zw (s19.1+1),x35))
 else
 some (.done s19.2)
def X5 (p0:Qw) (p1:Int):Option Qs :=
 (lkI p0.Net.Nodes p1).bind fun a1 =>
 (Z4 a1.Parents p1).bind fun x3 =>
 (Zm a1.Parents).bind fun x5 =>
 (Qm1 x5 x3.1 p1).bind fun x7 =>
 (Qc fuel (Xd x7 p0 x3) (0,1,([]:(List Int)))).bind fun x18 =>
 if 0≤(zw ((a1.Rows.length:Int)*a1.Card))∧(zw ((a1.Rows.length:Int)*a1.Card))≤(zw ((a1.Rows.length:Int)*a1.Card))∧(zw ((a1.Rows.length:Int)*a1.Card))*8≤140737488355328 then
  (Qc fuel (Xe a1 x18) (0,(List.replicate (Int.toNat (zw ((a1.Rows.length:Int)*a1.Card))) (0:Int)))).bind fun x37 =>
  some (Qs.mk x7 x18.2 x37)
 else none
def Ji (x1:(Qw × Int)) (s5:(Int × (List Qs))):Option (Qk (Int × (List Qs)) (List Qs)) :=
 if (decide (s5.1 < (((List.replicate (Int.toNat (x1.1.Net.Nodes.length:Int)) ((Qs.mk [] [] []):Qs)).length):Int)))=true then
  (X5 x1.1 s5.1).bind fun x8 =>
  (lkI s5.2 s5.1).bind fun a10 =>
  some (.next (zw (s5.1+1),(List.set s5.2 (Int.toNat s5.1) x8)))
 else
 some (.done s5.2)
def Qaa (p0:Qm):Option ((List Qs) × Int) :=
 (Ke p0).bind fun x1 =>
 if (x1.2 != 0)=true then
  some (([]:(List Qs)),x1.2)
 else
 if 0≤(x1.1.Net.Nodes.length:Int)∧(x1.1.Net.Nodes.length:Int)≤(x1.1.Net.Nodes.length:Int)∧(x1.1.Net.Nodes.length:Int)*72≤140737488355328 then
  (Qc fuel (Ji x1) (0,(List.replicate (Int.toNat (x1.1.Net.Nodes.length:Int)) ((Qs.mk [] [] []):Qs)))).bind fun x14 =>
  some (x14,0)
 else none
def Zl (p1:(List Int)) (x1:(Qw × Int)) (s7:Int):Option (Qk Int (Unit ⊕ Unit)) :=
 if (decide (s7 < (p1.length:Int)))=true then
  (lkI p1 s7).bind fun a10 =>
  if (decide (a10 < (-1)))=true then
   some (.done (Sum.inl ()))
  else
  (lkI x1.1.cards s7).bind fun a14 =>
  if (decide (a10≥a14))=true then
   some (.done (Sum.inl ()))
  else
  some (.next (zw (s7+1)))
 else
 some (.done (Sum.inr ()))
def Xm (p0:Qm) (p1:(List Int)):Option Int :=
 (Ke p0).bind fun x1 =>
 if (x1.2 != 0)=true then
  some x1.2
 else
 if ((p1.length:Int) != (x1.1.Net.Nodes.length:Int))=true then
  some 2
 else
 (Qc fuel (Zl p1 x1) 0).bind fun x18=>match x18 with
 | .inl x19=>(
  some 2)
 | .inr x20=>(
  some 0)
def Ka (p1:(List (List Int))) (p0:Qm) (s5:Int):Option (Qk Int (Int ⊕ Unit)) :=
 if (decide (s5 < (p1.length:Int)))=true then
  (lkI p1 s5).bind fun a8 =>
  (Xm p0 a8).bind fun x10 =>
  if (x10 != 0)=true then
   some (.done (Sum.inl x10))
  else
  some (.next (zw (s5+1)))
 else
 some (.done (Sum.inr ()))
def Kh (s17:(Int × (List (List Int)))) (a20:Qs) (s25:(Int × Int × (List (List Int)))):Option (Qk (Int × Int × (List (List Int))) (List (List Int))) :=
 if (decide (s25.2.1≥0))=true then
  (lkI s25.2.2 s17.1).bind fun a28 =>
  (lkI a20.Vars s25.2.1).bind fun a30 =>
  (lkI a28 a30).bind fun a32 =>
  (lkI a20.Cards s25.2.1).bind fun a34 =>
  some (.next (zw (s25.1*a34),zw (s25.2.1 - 1),(List.set s25.2.2 (Int.toNat s17.1) (List.set a28 (Int.toNat a30) s25.1))))
 else
 some (.done s25.2.2)
def V1 (x1:((List Qs) × Int)) (p0:Qm) (s17:(Int × (List (List Int)))):Option (Qk (Int × (List (List Int))) (List (List Int))) :=
 if (decide (s17.1 < (x1.1.length:Int)))=true then
  (lkI x1.1 s17.1).bind fun a20 =>
  if 0≤(p0.Nodes.length:Int)∧(p0.Nodes.length:Int)≤(p0.Nodes.length:Int)∧(p0.Nodes.length:Int)*8≤140737488355328 then
   (lkI s17.2 s17.1).bind fun a22 =>
   (Qc fuel (Kh s17 a20) (1,zw ((a20.Vars.length:Int) - 1),(List.set s17.2 (Int.toNat s17.1) (List.replicate (Int.toNat (p0.Nodes.length:Int)) (0:Int))))).bind fun x38 =>
   some (.next (zw (s17.1+1),x38))
  else none
 else
 some (.done s17.2)
def Ku (p0:Qm) (p1:(List (List Int))):Option (Qo × Int) :=
 (Qaa p0).bind fun x1 =>
 if (x1.2 != 0)=true then
  some ((Qo.mk (Qm.mk 0 []) [] []),x1.2)
 else
 (Qc fuel (Ka p1 p0) 0).bind fun x14=>match x14 with
 | .inl x15=>(
  some ((Qo.mk (Qm.mk 0 []) [] []),x15))
 | .inr x16=>(
  if 0≤(x1.1.length:Int)∧(x1.1.length:Int)≤(x1.1.length:Int)∧(x1.1.length:Int)*24≤140737488355328 then
   (Qc fuel (V1 x1 p0) (0,(List.replicate (Int.toNat (x1.1.length:Int)) ([]:(List Int))))).bind fun x40 =>
   some ((Qo.mk p0 x1.1 x40),0)
  else none)
def Kd (x1:(Qw × Int)) (s5:(Int × Int)):Option (Qk (Int × Int) Int) :=
 if (decide (s5.2 < (x1.1.Net.Nodes.length:Int)))=true then
  some (.next (zw (s5.1*x1.1.Net.Grain),zw (s5.2+1)))
 else
 some (.done s5.1)
def Qb9 (p0:Qm):Option (Int × Int) :=
 (Ke p0).bind fun x1 =>
 if (x1.2 != 0)=true then
  some (0,x1.2)
 else
 (Qc fuel (Kd x1) (1,0)).bind fun x9 =>
 some (x9,0)
def Qed  (s1:(Int × Int)):Option (Qk (Int × Int) Int) :=
 if (s1.2 != 0)=true then
  if s1.2≠0 then
   some (.next (s1.2,Int.tmod s1.1 s1.2))
  else none
 else
 some (.done s1.1)
def K5 (p0:Int) (p1:Int):Option Int :=
 (Qc fuel (Qed) (p0,p1)).bind fun x5 =>
 some x5
def Vx (p0:Int):Option Int :=
 if (decide (p0 < 0))=true then
  some (zv (0 - (zv (p0))))
 else
 some (zv (p0))
def Qgf (p0:Bool) (p1:(Int × Int)) (p2:(Int × Int)):Option Qb :=
 if (p1.1 != 0)=true then
  none
 else
 if (decide (p1.2 > 4611686018427387903))=true then
  none
 else
 if (p2.1 != 0)=true then
  none
 else
 if (decide (p2.2 > 4611686018427387903))=true then
  none
 else
 if p0=true then
  some (Qb.mk (zw (0 - (zw (p1.2)))) (zw (p2.2)))
 else
 some (Qb.mk (zw (p1.2)) (zw (p2.2)))
def Qam (c0:Int) (c1:Int):Option Qb :=
 (Vx c0).bind fun x1 =>
 (Vx c1).bind fun x3 =>
 (K5 x1 x3).bind fun x5 =>
 (Vx c0).bind fun x7 =>
 if x5≠0 then
  (Vx c1).bind fun x9 =>
  if x5≠0 then
   (Qgf (!((decide (c0 < 0))==(decide (c1 < 0)))) (0,zv (Int.tdiv x7 x5)) (0,zv (Int.tdiv x9 x5))).bind fun x11 =>
   some x11
  else none
 else none
def Kr (p0:Int) (p1:Int):Option (Qb × Int) :=
 if (p1==0)=true then
  some ((Qb.mk 0 0),2)
 else
 (Qam p0 p1).bind fun x3 =>
 some (x3,0)
def Zu (p1:(List Int)) (p0:(List Int)) (s1:Int):Option (Qk Int Bool) :=
 if (decide (s1 < (p1.length:Int)))=true then
  (lkI p1 s1).bind fun a4 =>
  if (a4==(-1))=true then
   some (.next (zw (s1+1)))
  else
  (lkI p0 s1).bind fun a8 =>
  if (a4==a8)=true then
   some (.next (zw (s1+1)))
  else
  some (.done false)
 else
 some (.done true)
def Yo (p0:(List Int)) (p1:(List Int)):Option Bool :=
 (Qc fuel (Zu p1 p0) 0).bind fun x13 =>
 some x13
def Zw (a4:Qs) (p1:(List Int)) (p0:Qo) (s1:(Int × Int)) (s6:(Int × Int)):Option (Qk (Int × Int) Int) :=
 if (decide (s6.2 < (a4.Vars.length:Int)))=true then
  (lkI a4.Vars s6.2).bind fun a9 =>
  (lkI p1 a9).bind fun a11 =>
  (lkI p0.steps s1.2).bind fun a13 =>
  (lkI a13 a9).bind fun a15 =>
  some (.next (zw (s6.1+(zw (a11*a15))),zw (s6.2+1)))
 else
 some (.done s6.1)
def Xr (p0:Qo) (p1:(List Int)) (s1:(Int × Int)):Option (Qk (Int × Int) Int) :=
 if (decide (s1.2 < (p0.factors.length:Int)))=true then
  (lkI p0.factors s1.2).bind fun a4 =>
  (Qc fuel (Zw a4 p1 p0 s1) (0,0)).bind fun x18 =>
  (lkI a4.W x18).bind fun a19 =>
  some (.next (zw (s1.1*a19),zw (s1.2+1)))
 else
 some (.done s1.1)
def Xc (p0:Qo) (p1:(List Int)):Option Int :=
 (Qc fuel (Xr p0 p1) (1,0)).bind fun x22 =>
 some x22
def J3 (p0:Qo) (s8:(Int × (List Int))):Option (Qk (Int × (List Int)) (Int × (List Int))) :=
 if (decide (s8.1≥0))=true then
  (lkI s8.2 s8.1).bind fun a11 =>
  (lkI p0.Net.Nodes s8.1).bind fun a13 =>
  if (a11==(zw (a13.Card - 1)))=true then
   some (.next (zw (s8.1 - 1),(List.set s8.2 (Int.toNat s8.1) 0)))
  else
  some (.done (s8.1,s8.2))
 else
 some (.done (s8.1,s8.2))
def Jx (p0:Qo) (s25:(Int × (List Int))):Option (Qk (Int × (List Int)) (Int × (List Int))) :=
 if (decide (s25.1≥0))=true then
  (lkI s25.2 s25.1).bind fun a28 =>
  (lkI p0.Net.Nodes s25.1).bind fun a30 =>
  if (a28==(zw (a30.Card - 1)))=true then
   some (.next (zw (s25.1 - 1),(List.set s25.2 (Int.toNat s25.1) 0)))
  else
  some (.done (s25.1,s25.2))
 else
 some (.done (s25.1,s25.2))
def Y6 (p1:(List Int)) (p0:Qo) (s1:(Int × Int × (List Int))):Option (Qk (Int × Int × (List Int)) Int) :=
 (Yo s1.2.2 p1).bind fun x2 =>
 if x2=true then
  (Xc p0 s1.2.2).bind fun x6 =>
  (Qc fuel (J3 p0) (zw ((s1.2.2.length:Int) - 1),s1.2.2)).bind fun x19 =>
  if (decide (x19.1 < 0))=true then
   some (.done (zw (s1.2.1+x6)))
  else
  (lkI x19.2 x19.1).bind fun a22 =>
  some (.next (zw (s1.1+1),zw (s1.2.1+x6),(List.set x19.2 (Int.toNat x19.1) (zw (a22+1)))))
 else
 (Qc fuel (Jx p0) (zw ((s1.2.2.length:Int) - 1),s1.2.2)).bind fun x36 =>
 if (decide (x36.1 < 0))=true then
  some (.done s1.2.1)
 else
 (lkI x36.2 x36.1).bind fun a39 =>
 some (.next (zw (s1.1+1),s1.2.1,(List.set x36.2 (Int.toNat x36.1) (zw (a39+1)))))
def Yp (p0:Qo) (p1:(List Int)):Option Int :=
 if 0≤(p0.Net.Nodes.length:Int)∧(p0.Net.Nodes.length:Int)≤(p0.Net.Nodes.length:Int)∧(p0.Net.Nodes.length:Int)*8≤140737488355328 then
  (Qc fuel (Y6 p1 p0) (0,0,(List.replicate (Int.toNat (p0.Net.Nodes.length:Int)) (0:Int)))).bind fun x43 =>
  some x43
 else none
def Qba (p0:Qm) (p1:(List Int)):Option (Qb × Int) :=
 (Ku p0 [p1]).bind fun x1 =>
 if (x1.2 != 0)=true then
  some ((Qb.mk 0 0),x1.2)
 else
 (Qb9 p0).bind fun x5 =>
 if (x5.2 != 0)=true then
  some ((Qb.mk 0 0),x5.2)
 else
 (Yp x1.1 p1).bind fun x9 =>
 (Kr x9 x5.1).bind fun x11 =>
 some (x11.1,x11.2)
def X6 (s9:(Int × Int × (List (Tjoint_place × Int)) × (List Int))) (x14:Int) (s16:(Int × (List (Tjoint_place × Int)))):Option (Qk (Int × (List (Tjoint_place × Int))) (List (Tjoint_place × Int))) :=
 if (decide (s16.1 < (s9.2.2.2.length:Int)))=true then
  (lkI s9.2.2.2 s16.1).bind fun a19 =>
  some (.next (zw (s16.1+1),kput qTjoint_place s16.2 (Tjoint_place.mk s16.1 a19) (zw (((kget qTjoint_place s16.2 (Tjoint_place.mk s16.1 a19)).getD 0)+x14))))
 else
 some (.done s16.2)
def Qa0 (x1:(Qo × Int)) (s23:(Int × (List Int))):Option (Qk (Int × (List Int)) (Int × (List Int))) :=
 if (decide (s23.1≥0))=true then
  (lkI s23.2 s23.1).bind fun a26 =>
  (lkI x1.1.Net.Nodes s23.1).bind fun a28 =>
  if (a26==(zw (a28.Card - 1)))=true then
   some (.next (zw (s23.1 - 1),(List.set s23.2 (Int.toNat s23.1) 0)))
  else
  some (.done (s23.1,s23.2))
 else
 some (.done (s23.1,s23.2))
def Qbn (x1:(Qo × Int)) (s40:(Int × (List Int))):Option (Qk (Int × (List Int)) (Int × (List Int))) :=
 if (decide (s40.1≥0))=true then
  (lkI s40.2 s40.1).bind fun a43 =>
  (lkI x1.1.Net.Nodes s40.1).bind fun a45 =>
  if (a43==(zw (a45.Card - 1)))=true then
   some (.next (zw (s40.1 - 1),(List.set s40.2 (Int.toNat s40.1) 0)))
  else
  some (.done (s40.1,s40.2))
 else
 some (.done (s40.1,s40.2))
def Yv (p1:(List Int)) (x1:(Qo × Int)) (s9:(Int × Int × (List (Tjoint_place × Int)) × (List Int))):Option (Qk (Int × Int × (List (Tjoint_place × Int)) × (List Int)) (Int × (List (Tjoint_place × Int)))) :=
 (Yo s9.2.2.2 p1).bind fun x10 =>
 if x10=true then
  (Xc x1.1 s9.2.2.2).bind fun x14 =>
  (Qc fuel (X6 s9 x14) (0,s9.2.2.1)).bind fun x22 =>
  (Qc fuel (Qa0 x1) (zw ((s9.2.2.2.length:Int) - 1),s9.2.2.2)).bind fun x34 =>
  if (decide (x34.1 < 0))=true then
   some (.done (zw (s9.2.1+x14),x22))
  else
  (lkI x34.2 x34.1).bind fun a37 =>
  some (.next (zw (s9.1+1),zw (s9.2.1+x14),x22,(List.set x34.2 (Int.toNat x34.1) (zw (a37+1)))))
 else
 (Qc fuel (Qbn x1) (zw ((s9.2.2.2.length:Int) - 1),s9.2.2.2)).bind fun x51 =>
 if (decide (x51.1 < 0))=true then
  some (.done (s9.2.1,s9.2.2.1))
 else
 (lkI x51.2 x51.1).bind fun a54 =>
 some (.next (zw (s9.1+1),s9.2.1,s9.2.2.1,(List.set x51.2 (Int.toNat x51.1) (zw (a54+1)))))
def Yy (a61:Qi) (x58:(Int × (List (Tjoint_place × Int)))) (p2:Int) (s63:(Int × (List Qb))):Option (Qk (Int × (List Qb)) (Int ⊕ (List Qb))) :=
 if (decide (s63.1 < (((List.replicate (Int.toNat a61.Card) ((Qb.mk 0 0):Qb)).length):Int)))=true then
  (Kr ((kget qTjoint_place x58.2 (Tjoint_place.mk p2 s63.1)).getD 0) x58.1).bind fun x66 =>
  if (x66.2 != 0)=true then
   some (.done (Sum.inl x66.2))
  else
  (lkI s63.2 s63.1).bind fun a70 =>
  some (.next (zw (s63.1+1),(List.set s63.2 (Int.toNat s63.1) x66.1)))
 else
 some (.done (Sum.inr s63.2))
def Xi (p0:Qm) (p1:(List Int)) (p2:Int):Option ((List Qb) × Int) :=
 (Ku p0 [p1]).bind fun x1 =>
 if (x1.2 != 0)=true then
  some (([]:(List Qb)),x1.2)
 else
 if (decide (p2 < 0))=true then
  some (([]:(List Qb)),2)
 else
 if (decide (p2≥(x1.1.Net.Nodes.length:Int)))=true then
  some (([]:(List Qb)),2)
 else
 if 0≤(x1.1.Net.Nodes.length:Int)∧(x1.1.Net.Nodes.length:Int)≤(x1.1.Net.Nodes.length:Int)∧(x1.1.Net.Nodes.length:Int)*8≤140737488355328 then
  (Qc fuel (Yv p1 x1) (0,0,[],(List.replicate (Int.toNat (x1.1.Net.Nodes.length:Int)) (0:Int)))).bind fun x58 =>
  if (x58.1==0)=true then
   some (([]:(List Qb)),7)
  else
  (lkI x1.1.Net.Nodes p2).bind fun a61 =>
  if 0≤a61.Card∧a61.Card≤a61.Card∧a61.Card*16≤140737488355328 then
   (Qc fuel (Yy a61 x58 p2) (0,(List.replicate (Int.toNat a61.Card) ((Qb.mk 0 0):Qb)))).bind fun x73=>match x73 with
   | .inl x74=>(
    some (([]:(List Qb)),x74))
   | .inr x75=>(
    some (x75,0))
  else none
 else none
def Xu (x5:Qd) (x7:Q0) (p2:Int) (s15:(Int × (List Int))):Option (Qk (Int × (List Int)) (List Int)) :=
 if (decide (s15.1 < x5.Count))=true then
  if x5.Count≠0 then
   if (decide (s15.1 < x7.Zeros))=true then
    (lkI s15.2 (Int.tmod (zw (s15.1+(zw (p2)))) x5.Count)).bind fun a20 =>
    (lkI s15.2 (Int.tmod (zw (s15.1+(zw (p2)))) x5.Count)).bind fun a22 =>
    some (.next (zw (s15.1+1),(List.set s15.2 (Int.toNat (Int.tmod (zw (s15.1+(zw (p2)))) x5.Count)) 0)))
   else
   if (decide (s15.1 < (zw (x7.Zeros+x7.Ones))))=true then
    (lkI s15.2 (Int.tmod (zw (s15.1+(zw (p2)))) x5.Count)).bind fun a27 =>
    (lkI s15.2 (Int.tmod (zw (s15.1+(zw (p2)))) x5.Count)).bind fun a29 =>
    some (.next (zw (s15.1+1),(List.set s15.2 (Int.toNat (Int.tmod (zw (s15.1+(zw (p2)))) x5.Count)) 1)))
   else
   (lkI s15.2 (Int.tmod (zw (s15.1+(zw (p2)))) x5.Count)).bind fun a32 =>
   (lkI s15.2 (Int.tmod (zw (s15.1+(zw (p2)))) x5.Count)).bind fun a34 =>
   some (.next (zw (s15.1+1),(List.set s15.2 (Int.toNat (Int.tmod (zw (s15.1+(zw (p2)))) x5.Count)) (-1))))
  else none
 else
 some (.done s15.2)
def J0 (p0:Qq) (p1:Q0) (p2:Int):Option Bool :=
 (Qc3).bind fun x1 =>
 if (!x1)=true then
  some false
 else
 (Vq (Qq.mk p0.Grain (Int.tmod p0.Count 5) p0.One p0.Card p0.L)).bind fun x5 =>
 (V9 p1 x5).bind fun x7 =>
 (Vg x5).bind fun x9 =>
 if (x9.2 != 0)=true then
  some false
 else
 if ((x9.1.Nodes.length:Int) != (zw (x5.Count+1)))=true then
  some false
 else
 if 0≤(zw (x5.Count+1))∧(zw (x5.Count+1))≤(zw (x5.Count+1))∧(zw (x5.Count+1))*8≤140737488355328 then
  (Qc fuel (Xu x5 x7 p2) (0,(List.replicate (Int.toNat (zw (x5.Count+1))) (0:Int)))).bind fun x38 =>
  (lkI x38 x5.Count).bind fun a39 =>
  (Kx x5 x7.Zeros x7.Ones x7.Child).bind fun x41 =>
  (Qba x9.1 (List.set x38 (Int.toNat x5.Count) x7.Child)).bind fun x43 =>
  if (x41.2 != 0)=true then
   some false
  else
  if (x43.2 != 0)=true then
   some false
  else
  if (!((x41.1.N==x43.1.N) && ((x41.1.D==x43.1.D) && true)))=true then
   some false
  else
  (Ks x5 x7.Zeros x7.Ones x7.Child).bind fun x51 =>
  if ((zw (x7.Zeros+x7.Ones))==x5.Count)=true then
   some (x51.2==4)
  else
  if x5.Count≠0 then
   (Xi x9.1 (List.set x38 (Int.toNat x5.Count) x7.Child) (Int.tmod (zw ((zw (x7.Zeros+x7.Ones))+(zw (p2)))) x5.Count)).bind fun x55 =>
   if (x51.2 != x55.2)=true then
    some false
   else
   if (x51.2==0)=true then
    if ((x55.1.length:Int) != 2)=true then
     some false
    else
    (lkI x55.1 1).bind fun a63 =>
    if (!((x51.1.N==a63.N) && ((x51.1.D==a63.D) && true)))=true then
     some false
    else
    (X7 x5 x7.Zeros x7.Ones).bind fun x67 =>
    (Xi x9.1 (List.set (List.set x38 (Int.toNat x5.Count) x7.Child) (Int.toNat x5.Count) (-1)) x5.Count).bind fun x69 =>
    if (x67.2==x69.2)=true then
     if (x67.2 != 0)=true then
      (Qr x67.1 x69.1).bind fun x75 =>
      some x75
     else
     (lkI x9.1.Nodes x5.Count).bind fun a77 =>
     if ((x69.1.length:Int)==a77.Card)=true then
      (Qr x67.1 x69.1).bind fun x81 =>
      some x81
     else
     some false
    else
    some false
   else
   (X7 x5 x7.Zeros x7.Ones).bind fun x84 =>
   (Xi x9.1 (List.set (List.set x38 (Int.toNat x5.Count) x7.Child) (Int.toNat x5.Count) (-1)) x5.Count).bind fun x86 =>
   if (x84.2==x86.2)=true then
    if (x84.2 != 0)=true then
     (Qr x84.1 x86.1).bind fun x92 =>
     some x92
    else
    (lkI x9.1.Nodes x5.Count).bind fun a94 =>
    if ((x86.1.length:Int)==a94.Card)=true then
     (Qr x84.1 x86.1).bind fun x98 =>
     some x98
    else
    some false
   else
   some false
  else none
 else none
end Go.Ab
