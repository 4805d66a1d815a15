/- What the functions of this program compute, as plain functions, and that the program computes them. No conditions. -/
import Derived.Test.YtapoljjoedcknaaEng7
import Derived.Test.YtapoljjoedcknaaProg
import Derived.KernelRfl
set_option linter.all false
namespace Go.Ab
open Go
set_option linter.unusedVariables false
set_option linter.unusedSimpArgs false
structure Tapi_Lift where
  Grain : Int
  Count : Int
  One : Int
  Rows : (List (List Int))
  deriving DecidableEq, Inhabited
@[reducible] def eTapi_Lift (x : Tapi_Lift) : AV := .agg [vI x.Grain, vI x.Count, vI x.One, eL false (eL true eI) x.Rows]
structure Tapi_Node where
  Card : Int
  Parents : (List Int)
  Rows : (List (List Int))
  deriving DecidableEq, Inhabited
@[reducible] def eTapi_Node (x : Tapi_Node) : AV := .agg [vI x.Card, eL true eI x.Parents, eL false (eL true eI) x.Rows]
structure Tapi_Net where
  Grain : Int
  Nodes : (List Tapi_Node)
  deriving DecidableEq, Inhabited
@[reducible] def eTapi_Net (x : Tapi_Net) : AV := .agg [vI x.Grain, eL false eTapi_Node x.Nodes]
structure Tlift_counter where
  Lift : Tapi_Lift
  zeros : Int
  ones : Int
  child : Int
  deriving DecidableEq, Inhabited
@[reducible] def eTlift_counter (x : Tlift_counter) : AV := .agg [vI x.Lift.Grain, vI x.Lift.Count, vI x.Lift.One, eL false (eL true eI) x.Lift.Rows, vI x.zeros, vI x.ones, vI x.child]
structure Tapi_Q where
  N : Int
  D : Int
  deriving DecidableEq, Inhabited
@[reducible] def eTapi_Q (x : Tapi_Q) : AV := .agg [vI x.N, vI x.D]
structure Tharuspexref14_Bend where
  What : Int
  J : Int
  At : Int
  N : Int
  deriving DecidableEq, Inhabited
@[reducible] def eTharuspexref14_Bend (x : Tharuspexref14_Bend) : AV := .agg [.int .u8 x.What, .int .u8 x.J, .int .u8 x.At, vI x.N]
def D14_b0 (a24 : (List Int)) (s28 : (Int × Int)) : Option (Step (Int × Int) (Unit ⊕ Int)) :=
  if (decide (s28.2 < (a24.length : Int))) = true then
    (lkI a24 s28.2).bind fun a31 =>
    if (decide (a31 < 0)) = true then
      some (.done (Sum.inl ()))
    else
    if (decide (a31 > s28.1)) = true then
      some (.done (Sum.inl ()))
    else
    some (.next (IntKind.i64.wrap (s28.1 - a31), IntKind.i64.wrap (s28.2 + 1)))
  else
  some (.done (Sum.inr s28.1))
def D14_b1 (p0 : Tapi_Lift) (a15 : (List Int)) (s21 : Int) : Option (Step Int (Unit ⊕ Unit)) :=
  if (decide (s21 < (p0.Rows.length : Int))) = true then
    (lkI p0.Rows s21).bind fun a24 =>
    if ((a24.length : Int) != (a15.length : Int)) = true then
      some (.done (Sum.inl ()))
    else
    (whileN fuel (D14_b0 a24) (p0.Grain, 0)).bind fun x37 => match x37 with
    | .inl x38 => (
      some (.done (Sum.inl ())))
    | .inr x39 => (
      if (x39 != 0) = true then
        some (.done (Sum.inl ()))
      else
      some (.next (IntKind.i64.wrap (s21 + 1))))
  else
  some (.done (Sum.inr ()))
def D14 (p0 : Tapi_Lift) : Option Int :=
  if (decide (p0.Grain < 1)) = true then
    some 140
  else
  if (decide (p0.Grain > 20)) = true then
    some 140
  else
  if (decide (p0.Count < 1)) = true then
    some 140
  else
  if (decide (p0.Count > 10)) = true then
    some 140
  else
  if (decide (p0.One < 0)) = true then
    some 140
  else
  if (decide (p0.One > p0.Grain)) = true then
    some 140
  else
  if ((p0.Rows.length : Int) != (IntKind.i64.wrap (p0.Count + 1))) = true then
    some 140
  else
  (lkI p0.Rows 0).bind fun a15 =>
  if (decide ((a15.length : Int) < 2)) = true then
    some 140
  else
  if (decide ((a15.length : Int) > 4)) = true then
    some 140
  else
  (whileN fuel (D14_b1 p0 a15) 0).bind fun x42 => match x42 with
  | .inl x43 => (
    some 140)
  | .inr x44 => (
    some 0)
def D13_b0 (p0 : Tapi_Lift) (s9 : (Int × (List Int) × (List Tapi_Node) × (List Int))) : Option (Step (Int × (List Int) × (List Tapi_Node) × (List Int)) ((List Int) × (List Tapi_Node) × (List Int))) :=
  if (decide (s9.1 < p0.Count)) = true then
    if (s9.2.2.1 ++ ([(Tapi_Node.mk 2 [] [[IntKind.i64.wrap (p0.Grain - p0.One), p0.One]])] : (List Tapi_Node))).length * 56 ≤ 140737488355328 then
      if (s9.2.2.2 ++ ([s9.1] : (List Int))).length * 8 ≤ 140737488355328 then
        (lkI s9.2.1 s9.1).bind fun a12 =>
        some (.next (IntKind.i64.wrap (s9.1 + 1), (List.set s9.2.1 (Int.toNat s9.1) 2), (s9.2.2.1 ++ ([(Tapi_Node.mk 2 [] [[IntKind.i64.wrap (p0.Grain - p0.One), p0.One]])] : (List Tapi_Node))), (s9.2.2.2 ++ ([s9.1] : (List Int)))))
      else none
    else none
  else
  some (.done (s9.2.1, s9.2.2.1, s9.2.2.2))
def D13_b1 (s17 : (Int × (List (List Int)) × (List Int))) (s18 : (Int × Int)) : Option (Step (Int × Int) Int) :=
  if (decide (s18.2 < (s17.2.2.length : Int))) = true then
    (lkI s17.2.2 s18.2).bind fun a21 =>
    some (.next (IntKind.i64.wrap (s18.1 + a21), IntKind.i64.wrap (s18.2 + 1)))
  else
  some (.done s18.1)
def D13_b2 (x16 : ((List Int) × (List Tapi_Node) × (List Int))) (s27 : (Int × (List Int))) : Option (Step (Int × (List Int)) (Int × (List Int))) :=
  if (decide (s27.1 ≥ 0)) = true then
    (lkI s27.2 s27.1).bind fun a30 =>
    (lkI x16.1 s27.1).bind fun a32 =>
    if (a30 == (IntKind.i64.wrap (a32 - 1))) = true then
      some (.next (IntKind.i64.wrap (s27.1 - 1), (List.set s27.2 (Int.toNat s27.1) 0)))
    else
    some (.done (s27.1, s27.2))
  else
  some (.done (s27.1, s27.2))
def D13_b3 (p0 : Tapi_Lift) (x16 : ((List Int) × (List Tapi_Node) × (List Int))) (s17 : (Int × (List (List Int)) × (List Int))) : Option (Step (Int × (List (List Int)) × (List Int)) (List (List Int))) :=
  (whileN fuel (D13_b1 s17) (0, 0)).bind fun x24 =>
  (lkI p0.Rows x24).bind fun a25 =>
  if a25.length * 8 ≤ 140737488355328 then
    if (s17.2.1 ++ ([a25] : (List (List Int)))).length * 24 ≤ 140737488355328 then
      (whileN fuel (D13_b2 x16) (IntKind.i64.wrap ((x16.1.length : Int) - 1), s17.2.2)).bind fun x38 =>
      if (decide (x38.1 < 0)) = true then
        some (.done (s17.2.1 ++ ([a25] : (List (List Int)))))
      else
      (lkI x38.2 x38.1).bind fun a41 =>
      some (.next (IntKind.i64.wrap (s17.1 + 1), (s17.2.1 ++ ([a25] : (List (List Int)))), (List.set x38.2 (Int.toNat x38.1) (IntKind.i64.wrap (a41 + 1)))))
    else none
  else none
def D13 (p0 : Tapi_Lift) : Option (Tapi_Net × Int) :=
  (D14 p0).bind fun x1 =>
  if (x1 != 0) = true then
    some ((Tapi_Net.mk 0 ([] : (List Tapi_Node))), x1)
  else
  if (decide (p0.Count > 7)) = true then
    some ((Tapi_Net.mk 0 ([] : (List Tapi_Node))), 6)
  else
  (lkI p0.Rows 0).bind fun a7 =>
  if 0 ≤ p0.Count ∧ p0.Count ≤ p0.Count ∧ p0.Count * 8 ≤ 140737488355328 then
    (whileN fuel (D13_b0 p0) (0, (List.replicate (Int.toNat p0.Count) (0 : Int)), ([] : (List Tapi_Node)), ([] : (List Int)))).bind fun x16 =>
    if 0 ≤ (x16.1.length : Int) ∧ (x16.1.length : Int) ≤ (x16.1.length : Int) ∧ (x16.1.length : Int) * 8 ≤ 140737488355328 then
      (whileN fuel (D13_b3 p0 x16) (0, ([] : (List (List Int))), (List.replicate (Int.toNat (x16.1.length : Int)) (0 : Int)))).bind fun x45 =>
      if (x16.2.1 ++ ([(Tapi_Node.mk (a7.length : Int) x16.2.2 x45)] : (List Tapi_Node))).length * 56 ≤ 140737488355328 then
        some ((Tapi_Net.mk p0.Grain (x16.2.1 ++ ([(Tapi_Node.mk (a7.length : Int) x16.2.2 x45)] : (List Tapi_Node)))), 0)
      else none
    else none
  else none
def D43_b0  (s1 : (Int × Int)) : Option (Step (Int × Int) Int) :=
  if (s1.2 != 0) = true then
    if s1.2 ≠ 0 then
      some (.next (s1.2, Int.tmod s1.1 s1.2))
    else none
  else
  some (.done s1.1)
def D43 (p0 : Int) (p1 : Int) : Option Tapi_Q :=
  (whileN fuel (D43_b0) ((if (IntKind.i64.wrap (0 - p0)) > p0 then (IntKind.i64.wrap (0 - p0)) else p0), p1)).bind fun x5 =>
  if x5 ≠ 0 then
    if x5 ≠ 0 then
      some (Tapi_Q.mk (IntKind.i64.wrap (Int.tdiv p0 x5)) (IntKind.i64.wrap (Int.tdiv p1 x5)))
    else none
  else none
def D50_b0 (p0 : Tlift_counter) (s1 : (Int × (List Int))) : Option (Step (Int × (List Int)) (List Int)) :=
  if (decide (s1.1 < (IntKind.i64.wrap (p0.Lift.Count + 1)))) = true then
    if (s1.2 ++ ([s1.1] : (List Int))).length * 8 ≤ 140737488355328 then
      some (.next (IntKind.i64.wrap (s1.1 + 1), (s1.2 ++ ([s1.1] : (List Int)))))
    else none
  else
  some (.done s1.2)
def D50 (p0 : Tlift_counter) : Option (List Int) :=
  (whileN fuel (D50_b0 p0) (0, ([] : (List Int)))).bind fun x5 =>
  some x5
def D54 (p0 : Tlift_counter) : Option Int :=
  some (IntKind.i64.wrap ((IntKind.i64.wrap (p0.Lift.Count - p0.zeros)) - p0.ones))
def D70_b0 (s1 : (Int × (List Int) × (List Int))) (s4 : (Int × (List Int))) : Option (Step (Int × (List Int)) (List Int)) :=
  if (decide (s4.1 < (s1.2.2.length : Int))) = true then
    (lkI s1.2.2 s4.1).bind fun a7 =>
    (lkI s4.2 s4.1).bind fun a9 =>
    (lkI (List.set s4.2 (Int.toNat s4.1) (IntKind.i64.wrap (a9 + a7))) (IntKind.i64.wrap (s4.1 + 1))).bind fun a11 =>
    (lkI (List.set s4.2 (Int.toNat s4.1) (IntKind.i64.wrap (a9 + a7))) (IntKind.i64.wrap (s4.1 + 1))).bind fun a13 =>
    some (.next (IntKind.i64.wrap (s4.1 + 1), (List.set (List.set s4.2 (Int.toNat s4.1) (IntKind.i64.wrap (a9 + a7))) (Int.toNat (IntKind.i64.wrap (s4.1 + 1))) (IntKind.i64.wrap (a11 + a7)))))
  else
  some (.done s4.2)
def D70_b1 (p0 : Int) (s1 : (Int × (List Int) × (List Int))) : Option (Step (Int × (List Int) × (List Int)) ((List Int) × (List Int))) :=
  if (decide (s1.1 < p0)) = true then
    if 0 ≤ (IntKind.i64.wrap ((s1.2.2.length : Int) + 1)) ∧ (IntKind.i64.wrap ((s1.2.2.length : Int) + 1)) ≤ (IntKind.i64.wrap ((s1.2.2.length : Int) + 1)) ∧ (IntKind.i64.wrap ((s1.2.2.length : Int) + 1)) * 8 ≤ 140737488355328 then
      (whileN fuel (D70_b0 s1) (0, (List.replicate (Int.toNat (IntKind.i64.wrap ((s1.2.2.length : Int) + 1))) (0 : Int)))).bind fun x18 =>
      some (.next (IntKind.i64.wrap (s1.1 + 1), s1.2.2, x18))
    else none
  else
  some (.done (s1.2.1, s1.2.2))
def D70 (p0 : Int) : Option (List Int) :=
  (whileN fuel (D70_b1 p0) (0, ([] : (List Int)), ([1] : (List Int)))).bind fun x20 =>
  some x20.2
def D45_b0 (p1 : Int) (p0 : Int) (s1 : (Int × Int)) : Option (Step (Int × Int) Int) :=
  if (decide (s1.2 < p1)) = true then
    some (.next (IntKind.i64.wrap (s1.1 * p0), IntKind.i64.wrap (s1.2 + 1)))
  else
  some (.done s1.1)
def D45 (p0 : Int) (p1 : Int) : Option Int :=
  (whileN fuel (D45_b0 p1 p0) (1, 0)).bind fun x5 =>
  some x5
def D72 (p0 : Tlift_counter) (p1 : Int) (p2 : Int) : Option Int :=
  (D45 p0.Lift.One p1).bind fun x1 =>
  (D45 (IntKind.i64.wrap (p0.Lift.Grain - p0.Lift.One)) p2).bind fun x3 =>
  some (IntKind.i64.wrap (x1 * x3))
def D73 (p0 : Tlift_counter) (p1 : Int) : Option Int :=
  if (decide (p0.child < 0)) = true then
    some p0.Lift.Grain
  else
  (lkI p0.Lift.Rows p1).bind fun a3 =>
  (lkI a3 p0.child).bind fun a5 =>
  some a5
def D44_b0 (x5 : (List Int)) (p0 : Tlift_counter) (x3 : (List Int)) (s7 : (Int × Int)) : Option (Step (Int × Int) Int) :=
  if (decide (s7.2 < (x5.length : Int))) = true then
    (lkI x5 s7.2).bind fun a10 =>
    if (decide (a10 < p0.ones)) = true then
      some (.next (IntKind.i64.wrap (s7.1 + 0), IntKind.i64.wrap (s7.2 + 1)))
    else
    if (decide (a10 > (IntKind.i64.wrap (p0.Lift.Count - p0.zeros)))) = true then
      some (.next (IntKind.i64.wrap (s7.1 + 0), IntKind.i64.wrap (s7.2 + 1)))
    else
    (lkI x3 (IntKind.i64.wrap (a10 - p0.ones))).bind fun a16 =>
    (D72 p0 a10 (IntKind.i64.wrap (p0.Lift.Count - a10))).bind fun x18 =>
    (D73 p0 a10).bind fun x20 =>
    some (.next (IntKind.i64.wrap (s7.1 + (IntKind.i64.wrap ((IntKind.i64.wrap (a16 * x18)) * x20))), IntKind.i64.wrap (s7.2 + 1)))
  else
  some (.done s7.1)
def D44 (p0 : Tlift_counter) : Option Int :=
  (D54 p0).bind fun x1 =>
  (D70 x1).bind fun x3 =>
  (D50 p0).bind fun x5 =>
  (whileN fuel (D44_b0 x5 p0 x3) (0, 0)).bind fun x23 =>
  some x23
def D19 (p0 : Tapi_Lift) (p1 : Int) (p2 : Int) (p3 : Int) : Option (Tapi_Q × Int) :=
  (D14 p0).bind fun x1 =>
  if (x1 != 0) = true then
    some ((Tapi_Q.mk 0 0), x1)
  else
  if (decide (p1 < 0)) = true then
    some ((Tapi_Q.mk 0 0), 2)
  else
  if (decide (p1 > p0.Count)) = true then
    some ((Tapi_Q.mk 0 0), 2)
  else
  if (decide (p2 < 0)) = true then
    some ((Tapi_Q.mk 0 0), 2)
  else
  if (decide (p2 > (IntKind.i64.wrap (p0.Count - p1)))) = true then
    some ((Tapi_Q.mk 0 0), 2)
  else
  if (decide (p3 < (-1))) = true then
    some ((Tapi_Q.mk 0 0), 2)
  else
  (lkI p0.Rows 0).bind fun a16 =>
  if (decide (p3 ≥ (a16.length : Int))) = true then
    some ((Tapi_Q.mk 0 0), 2)
  else
  (D44 (Tlift_counter.mk p0 p1 p2 p3)).bind fun x20 =>
  (D45 p0.Grain (IntKind.i64.wrap (p0.Count + 1))).bind fun x22 =>
  (D43 x20 x22).bind fun x24 =>
  some (x24, 0)
def D52_b0 (p1 : (List Int)) (p0 : Int) (s1 : (Int × (List Tapi_Q))) : Option (Step (Int × (List Tapi_Q)) (List Tapi_Q)) :=
  if (decide (s1.1 < (p1.length : Int))) = true then
    (lkI p1 s1.1).bind fun a4 =>
    (D43 a4 p0).bind fun x6 =>
    (lkI s1.2 s1.1).bind fun a8 =>
    some (.next (IntKind.i64.wrap (s1.1 + 1), (List.set s1.2 (Int.toNat s1.1) x6)))
  else
  some (.done s1.2)
def D52 (p0 : Int) (p1 : (List Int)) : Option (List Tapi_Q) :=
  if 0 ≤ (p1.length : Int) ∧ (p1.length : Int) ≤ (p1.length : Int) ∧ (p1.length : Int) * 16 ≤ 140737488355328 then
    (whileN fuel (D52_b0 p1 p0) (0, (List.replicate (Int.toNat (p1.length : Int)) ((Tapi_Q.mk 0 0) : Tapi_Q)))).bind fun x12 =>
    some x12
  else none
def D21_b0 (x24 : (List Int)) (p2 : Int) (p0 : Tapi_Lift) (p1 : Int) (x28 : (List Int)) (p3 : Int) (s30 : (Int × (List Int))) : Option (Step (Int × (List Int)) (List Int)) :=
  if (decide (s30.1 < (x24.length : Int))) = true then
    (lkI s30.2 s30.1).bind fun a33 =>
    if (decide (a33 < p2)) = true then
      some (.next (IntKind.i64.wrap (s30.1 + 1), (List.set s30.2 (Int.toNat s30.1) 0)))
    else
    if (decide (a33 > (IntKind.i64.wrap (p0.Count - p1)))) = true then
      some (.next (IntKind.i64.wrap (s30.1 + 1), (List.set s30.2 (Int.toNat s30.1) 0)))
    else
    (lkI x28 (IntKind.i64.wrap (a33 - p2))).bind fun a41 =>
    (D72 (Tlift_counter.mk p0 p1 p2 p3) a33 (IntKind.i64.wrap (p0.Count - a33))).bind fun x43 =>
    (D73 (Tlift_counter.mk p0 p1 p2 p3) a33).bind fun x45 =>
    some (.next (IntKind.i64.wrap (s30.1 + 1), (List.set s30.2 (Int.toNat s30.1) (IntKind.i64.wrap ((IntKind.i64.wrap (a41 * x43)) * x45)))))
  else
  some (.done s30.2)
def D21 (p0 : Tapi_Lift) (p1 : Int) (p2 : Int) (p3 : Int) : Option ((List Tapi_Q) × Int) :=
  (D14 p0).bind fun x1 =>
  if (x1 != 0) = true then
    some (([] : (List Tapi_Q)), x1)
  else
  if (decide (p1 < 0)) = true then
    some (([] : (List Tapi_Q)), 2)
  else
  if (decide (p1 > p0.Count)) = true then
    some (([] : (List Tapi_Q)), 2)
  else
  if (decide (p2 < 0)) = true then
    some (([] : (List Tapi_Q)), 2)
  else
  if (decide (p2 > (IntKind.i64.wrap (p0.Count - p1)))) = true then
    some (([] : (List Tapi_Q)), 2)
  else
  if (decide (p3 < (-1))) = true then
    some (([] : (List Tapi_Q)), 2)
  else
  (lkI p0.Rows 0).bind fun a16 =>
  if (decide (p3 ≥ (a16.length : Int))) = true then
    some (([] : (List Tapi_Q)), 2)
  else
  (D44 (Tlift_counter.mk p0 p1 p2 p3)).bind fun x20 =>
  if (x20 == 0) = true then
    some (([] : (List Tapi_Q)), 7)
  else
  (D50 (Tlift_counter.mk p0 p1 p2 p3)).bind fun x24 =>
  (D54 (Tlift_counter.mk p0 p1 p2 p3)).bind fun x26 =>
  (D70 x26).bind fun x28 =>
  (whileN fuel (D21_b0 x24 p2 p0 p1 x28 p3) (0, x24)).bind fun x49 =>
  (D52 x20 x49).bind fun x50 =>
  some (x50, 0)
def D23_b0 (p0 : (List Tapi_Q)) (p1 : (List Tapi_Q)) (s3 : Int) : Option (Step Int (Unit ⊕ Unit)) :=
  if (decide (s3 < (p0.length : Int))) = true then
    (lkI p0 s3).bind fun a6 =>
    (lkI p1 s3).bind fun a8 =>
    if (!((a6.N == a8.N) && ((a6.D == a8.D) && true))) = true then
      some (.done (Sum.inl ()))
    else
    some (.next (IntKind.i64.wrap (s3 + 1)))
  else
  some (.done (Sum.inr ()))
def D23 (p0 : (List Tapi_Q)) (p1 : (List Tapi_Q)) : Option Bool :=
  if ((p0.length : Int) != (p1.length : Int)) = true then
    some false
  else
  (whileN fuel (D23_b0 p0 p1) 0).bind fun x12 => match x12 with
  | .inl x13 => (
    some false)
  | .inr x14 => (
    some true)
def D24 (p0 : Tapi_Lift) (p1 : Int) (p2 : Int) (p3 : Int) : Option (Tapi_Q × Int) :=
  (D14 p0).bind fun x1 =>
  if (x1 != 0) = true then
    some ((Tapi_Q.mk 0 0), x1)
  else
  if (decide (p1 < 0)) = true then
    some ((Tapi_Q.mk 0 0), 2)
  else
  if (decide (p1 > p0.Count)) = true then
    some ((Tapi_Q.mk 0 0), 2)
  else
  if (decide (p2 < 0)) = true then
    some ((Tapi_Q.mk 0 0), 2)
  else
  if (decide (p2 > (IntKind.i64.wrap (p0.Count - p1)))) = true then
    some ((Tapi_Q.mk 0 0), 2)
  else
  if (decide (p3 < (-1))) = true then
    some ((Tapi_Q.mk 0 0), 2)
  else
  (lkI p0.Rows 0).bind fun a16 =>
  if (decide (p3 ≥ (a16.length : Int))) = true then
    some ((Tapi_Q.mk 0 0), 2)
  else
  (D54 (Tlift_counter.mk p0 p1 p2 p3)).bind fun x20 =>
  if (x20 == 0) = true then
    some ((Tapi_Q.mk 0 0), 4)
  else
  (D44 (Tlift_counter.mk p0 p1 p2 p3)).bind fun x24 =>
  if (x24 == 0) = true then
    some ((Tapi_Q.mk 0 0), 7)
  else
  (D44 (Tlift_counter.mk p0 p1 (IntKind.i64.wrap (p2 + 1)) p3)).bind fun x28 =>
  (D43 x28 x24).bind fun x30 =>
  some (x30, 0)
def D26_b0 (a14 : (List Int)) (p0 : Tapi_Lift) (p1 : Int) (p2 : Int) (s22 : (Int × (List Int))) : Option (Step (Int × (List Int)) (List Int)) :=
  if (decide (s22.1 < (((List.replicate (Int.toNat (a14.length : Int)) (0 : Int)).length) : Int))) = true then
    (D44 (Tlift_counter.mk p0 p1 p2 s22.1)).bind fun x25 =>
    (lkI s22.2 s22.1).bind fun a27 =>
    some (.next (IntKind.i64.wrap (s22.1 + 1), (List.set s22.2 (Int.toNat s22.1) x25)))
  else
  some (.done s22.2)
def D26 (p0 : Tapi_Lift) (p1 : Int) (p2 : Int) : Option ((List Tapi_Q) × Int) :=
  (D14 p0).bind fun x1 =>
  if (x1 != 0) = true then
    some (([] : (List Tapi_Q)), x1)
  else
  if (decide (p1 < 0)) = true then
    some (([] : (List Tapi_Q)), 2)
  else
  if (decide (p1 > p0.Count)) = true then
    some (([] : (List Tapi_Q)), 2)
  else
  if (decide (p2 < 0)) = true then
    some (([] : (List Tapi_Q)), 2)
  else
  if (decide (p2 > (IntKind.i64.wrap (p0.Count - p1)))) = true then
    some (([] : (List Tapi_Q)), 2)
  else
  (lkI p0.Rows 0).bind fun a14 =>
  if (decide ((-1) ≥ (a14.length : Int))) = true then
    some (([] : (List Tapi_Q)), 2)
  else
  (D44 (Tlift_counter.mk p0 p1 p2 (-1))).bind fun x18 =>
  if (x18 == 0) = true then
    some (([] : (List Tapi_Q)), 7)
  else
  if 0 ≤ (a14.length : Int) ∧ (a14.length : Int) ≤ (a14.length : Int) ∧ (a14.length : Int) * 8 ≤ 140737488355328 then
    (whileN fuel (D26_b0 a14 p0 p1 p2) (0, (List.replicate (Int.toNat (a14.length : Int)) (0 : Int)))).bind fun x31 =>
    (D52 x18 x31).bind fun x32 =>
    some (x32, 0)
  else none
def D58_b0  (s1 : (Int × (List Int))) : Option (Step (Int × (List Int)) (List Int)) :=
  if (s1.1 != 0) = true then
    if (s1.2 ++ ([(if (IntKind.i64.wrap (0 - (Int.tmod s1.1 10000))) > (Int.tmod s1.1 10000) then (IntKind.i64.wrap (0 - (Int.tmod s1.1 10000))) else (Int.tmod s1.1 10000))] : (List Int))).length * 8 ≤ 140737488355328 then
      some (.next (IntKind.i64.wrap (Int.tdiv s1.1 10000), (s1.2 ++ ([(if (IntKind.i64.wrap (0 - (Int.tmod s1.1 10000))) > (Int.tmod s1.1 10000) then (IntKind.i64.wrap (0 - (Int.tmod s1.1 10000))) else (Int.tmod s1.1 10000))] : (List Int)))))
    else none
  else
  some (.done s1.2)
def D58 (p0 : Int) : Option (List Int) :=
  (whileN fuel (D58_b0) (p0, ([] : (List Int)))).bind fun x5 =>
  some x5
def D56_b0 (p0 : (List Int)) (p1 : (List Int)) (s5 : Int) : Option (Step Int (Int ⊕ Unit)) :=
  if (decide (s5 ≥ 0)) = true then
    (lkI p0 s5).bind fun a8 =>
    (lkI p1 s5).bind fun a10 =>
    if (a8 != a10) = true then
      if (decide (a8 < a10)) = true then
        some (.done (Sum.inl (-1)))
      else
      some (.done (Sum.inl 1))
    else
    some (.next (IntKind.i64.wrap (s5 - 1)))
  else
  some (.done (Sum.inr ()))
def D56 (p0 : (List Int)) (p1 : (List Int)) : Option Int :=
  if ((p0.length : Int) != (p1.length : Int)) = true then
    if (decide ((p0.length : Int) < (p1.length : Int))) = true then
      some (-1)
    else
    some 1
  else
  (whileN fuel (D56_b0 p0 p1) (IntKind.i64.wrap ((p0.length : Int) - 1))).bind fun x16 => match x16 with
  | .inl x17 => (
    some x17)
  | .inr x18 => (
    some 0)
def D76_b0  (s1 : (List Int)) : Option (Step (List Int) (List Int)) :=
  if (decide ((s1.length : Int) > 0)) = true then
    (lkI s1 (IntKind.i64.wrap ((s1.length : Int) - 1))).bind fun a4 =>
    if (a4 == 0) = true then
      if 0 ≤ (0 : Int) ∧ (0 : Int) ≤ (IntKind.i64.wrap ((s1.length : Int) - 1)) ∧ (IntKind.i64.wrap ((s1.length : Int) - 1)) ≤ (s1.length : Int) then
        some (.next (sub s1 0 (IntKind.i64.wrap ((s1.length : Int) - 1))))
      else none
    else
    some (.done s1)
  else
  some (.done s1)
def D76 (p0 : (List Int)) : Option (List Int) :=
  (whileN fuel (D76_b0) p0).bind fun x9 =>
  some x9
def D60_b0 (p1 : (List Int)) (s1 : (Int × (List Int))) (p0 : (List Int)) (s4 : (Int × Int × (List Int))) : Option (Step (Int × Int × (List Int)) (List Int)) :=
  if (decide (s4.2.1 < (p1.length : Int))) = true then
    (lkI s4.2.2 (IntKind.i64.wrap (s1.1 + s4.2.1))).bind fun a7 =>
    (lkI p0 s1.1).bind fun a10 =>
    (lkI p1 s4.2.1).bind fun a12 =>
    (lkI s4.2.2 (IntKind.i64.wrap (s1.1 + s4.2.1))).bind fun a14 =>
    some (.next (IntKind.i64.wrap (Int.tdiv (IntKind.i64.wrap ((IntKind.i64.wrap (s4.1 + a7)) + (IntKind.i64.wrap (a10 * a12)))) 10000), IntKind.i64.wrap (s4.2.1 + 1), (List.set s4.2.2 (Int.toNat (IntKind.i64.wrap (s1.1 + s4.2.1))) (Int.tmod (IntKind.i64.wrap ((IntKind.i64.wrap (s4.1 + a7)) + (IntKind.i64.wrap (a10 * a12)))) 10000))))
  else
  if (decide (s4.1 > 0)) = true then
    (lkI s4.2.2 (IntKind.i64.wrap (s1.1 + s4.2.1))).bind fun a19 =>
    (lkI s4.2.2 (IntKind.i64.wrap (s1.1 + s4.2.1))).bind fun a22 =>
    some (.next (IntKind.i64.wrap (Int.tdiv (IntKind.i64.wrap (s4.1 + a19)) 10000), IntKind.i64.wrap (s4.2.1 + 1), (List.set s4.2.2 (Int.toNat (IntKind.i64.wrap (s1.1 + s4.2.1))) (Int.tmod (IntKind.i64.wrap (s4.1 + a19)) 10000))))
  else
  some (.done s4.2.2)
def D60_b1 (p0 : (List Int)) (p1 : (List Int)) (s1 : (Int × (List Int))) : Option (Step (Int × (List Int)) (List Int)) :=
  if (decide (s1.1 < (p0.length : Int))) = true then
    (whileN fuel (D60_b0 p1 s1 p0) (0, 0, s1.2)).bind fun x26 =>
    some (.next (IntKind.i64.wrap (s1.1 + 1), x26))
  else
  some (.done s1.2)
def D60 (p0 : (List Int)) (p1 : (List Int)) : Option (List Int) :=
  if 0 ≤ (IntKind.i64.wrap ((p0.length : Int) + (p1.length : Int))) ∧ (IntKind.i64.wrap ((p0.length : Int) + (p1.length : Int))) ≤ (IntKind.i64.wrap ((p0.length : Int) + (p1.length : Int))) ∧ (IntKind.i64.wrap ((p0.length : Int) + (p1.length : Int))) * 8 ≤ 140737488355328 then
    (whileN fuel (D60_b1 p0 p1) (0, (List.replicate (Int.toNat (IntKind.i64.wrap ((p0.length : Int) + (p1.length : Int)))) (0 : Int)))).bind fun x28 =>
    (D76 x28).bind fun x29 =>
    some x29
  else none
def D62_b0 (p0 : (List Int)) (p1 : (List Int)) (s1 : (Int × Int × (List Int))) : Option (Step (Int × Int × (List Int)) (List Int)) :=
  if (decide (s1.2.1 < (p0.length : Int))) = true then
    (lkI p0 s1.2.1).bind fun a4 =>
    if (decide (s1.2.1 < (p1.length : Int))) = true then
      (lkI p1 s1.2.1).bind fun a8 =>
      if (decide ((IntKind.i64.wrap ((IntKind.i64.wrap (a4 - s1.1)) - a8)) < 0)) = true then
        if (s1.2.2 ++ ([IntKind.i64.wrap ((IntKind.i64.wrap ((IntKind.i64.wrap (a4 - s1.1)) - a8)) + 10000)] : (List Int))).length * 8 ≤ 140737488355328 then
          some (.next (1, IntKind.i64.wrap (s1.2.1 + 1), (s1.2.2 ++ ([IntKind.i64.wrap ((IntKind.i64.wrap ((IntKind.i64.wrap (a4 - s1.1)) - a8)) + 10000)] : (List Int)))))
        else none
      else
      if (s1.2.2 ++ ([IntKind.i64.wrap ((IntKind.i64.wrap (a4 - s1.1)) - a8)] : (List Int))).length * 8 ≤ 140737488355328 then
        some (.next (0, IntKind.i64.wrap (s1.2.1 + 1), (s1.2.2 ++ ([IntKind.i64.wrap ((IntKind.i64.wrap (a4 - s1.1)) - a8)] : (List Int)))))
      else none
    else
    if (decide ((IntKind.i64.wrap (a4 - s1.1)) < 0)) = true then
      if (s1.2.2 ++ ([IntKind.i64.wrap ((IntKind.i64.wrap (a4 - s1.1)) + 10000)] : (List Int))).length * 8 ≤ 140737488355328 then
        some (.next (1, IntKind.i64.wrap (s1.2.1 + 1), (s1.2.2 ++ ([IntKind.i64.wrap ((IntKind.i64.wrap (a4 - s1.1)) + 10000)] : (List Int)))))
      else none
    else
    if (s1.2.2 ++ ([IntKind.i64.wrap (a4 - s1.1)] : (List Int))).length * 8 ≤ 140737488355328 then
      some (.next (0, IntKind.i64.wrap (s1.2.1 + 1), (s1.2.2 ++ ([IntKind.i64.wrap (a4 - s1.1)] : (List Int)))))
    else none
  else
  some (.done s1.2.2)
def D62 (p0 : (List Int)) (p1 : (List Int)) : Option (List Int) :=
  (whileN fuel (D62_b0 p0 p1) (0, 0, ([] : (List Int)))).bind fun x15 =>
  (D76 x15).bind fun x16 =>
  some x16
def D74_b0 (p1 : (List Int)) (x8 : (List Int)) (s10 : (Int × Int × Int)) : Option (Step (Int × Int × Int) (Int × Int)) :=
  if (decide (s10.2.2 ≥ (if (IntKind.i64.wrap ((IntKind.i64.wrap ((p1.length : Int) - 1)) - 1)) > 0 then (IntKind.i64.wrap ((IntKind.i64.wrap ((p1.length : Int) - 1)) - 1)) else 0))) = true then
    if (decide (s10.2.2 < (x8.length : Int))) = true then
      (lkI x8 s10.2.2).bind fun a15 =>
      if (decide (s10.2.2 ≤ (IntKind.i64.wrap ((p1.length : Int) - 1)))) = true then
        (lkI p1 s10.2.2).bind fun a19 =>
        some (.next (IntKind.i64.wrap ((IntKind.i64.wrap (s10.1 * 10000)) + a19), IntKind.i64.wrap ((IntKind.i64.wrap (s10.2.1 * 10000)) + a15), IntKind.i64.wrap (s10.2.2 - 1)))
      else
      some (.next (s10.1, IntKind.i64.wrap ((IntKind.i64.wrap (s10.2.1 * 10000)) + a15), IntKind.i64.wrap (s10.2.2 - 1)))
    else
    if (decide (s10.2.2 ≤ (IntKind.i64.wrap ((p1.length : Int) - 1)))) = true then
      (lkI p1 s10.2.2).bind fun a23 =>
      some (.next (IntKind.i64.wrap ((IntKind.i64.wrap (s10.1 * 10000)) + a23), IntKind.i64.wrap (s10.2.1 * 10000), IntKind.i64.wrap (s10.2.2 - 1)))
    else
    some (.next (s10.1, IntKind.i64.wrap (s10.2.1 * 10000), IntKind.i64.wrap (s10.2.2 - 1)))
  else
  some (.done (s10.1, s10.2.1))
def D74_b1 (p1 : (List Int)) (x8 : (List Int)) (s27 : (Int × Int)) : Option (Step (Int × Int) Int) :=
  if (decide (s27.1 < s27.2)) = true then
    (D60 p1 [IntKind.i64.wrap (Int.tdiv (IntKind.i64.wrap ((IntKind.i64.wrap (s27.1 + s27.2)) + 1)) 2)]).bind fun x30 =>
    (D56 x30 x8).bind fun x32 =>
    if (decide (x32 ≤ 0)) = true then
      some (.next (IntKind.i64.wrap (Int.tdiv (IntKind.i64.wrap ((IntKind.i64.wrap (s27.1 + s27.2)) + 1)) 2), s27.2))
    else
    some (.next (s27.1, IntKind.i64.wrap ((IntKind.i64.wrap (Int.tdiv (IntKind.i64.wrap ((IntKind.i64.wrap (s27.1 + s27.2)) + 1)) 2)) - 1)))
  else
  some (.done s27.1)
def D74_b2 (p0 : (List Int)) (p1 : (List Int)) (s3 : ((List Int) × Int × (List Int))) : Option (Step ((List Int) × Int × (List Int)) ((List Int) × (List Int))) :=
  if (decide (s3.2.1 ≥ 0)) = true then
    (lkI p0 s3.2.1).bind fun a6 =>
    if (([a6] : (List Int)) ++ s3.1).length * 8 ≤ 140737488355328 then
      (D76 (([a6] : (List Int)) ++ s3.1)).bind fun x8 =>
      (whileN fuel (D74_b0 p1 x8) (0, 0, IntKind.i64.wrap ((IntKind.i64.wrap ((p1.length : Int) - 1)) + 1))).bind fun x26 =>
      if (IntKind.i64.wrap (x26.1 + 1)) ≠ 0 then
        if x26.1 ≠ 0 then
          (whileN fuel (D74_b1 p1 x8) (IntKind.i64.wrap (Int.tdiv x26.2 (IntKind.i64.wrap (x26.1 + 1))), IntKind.i64.wrap (Int.tdiv x26.2 x26.1))).bind fun x37 =>
          (lkI s3.2.2 s3.2.1).bind fun a38 =>
          (D76 [x37]).bind fun x40 =>
          (D60 p1 x40).bind fun x42 =>
          (D62 x8 x42).bind fun x44 =>
          some (.next (x44, IntKind.i64.wrap (s3.2.1 - 1), (List.set s3.2.2 (Int.toNat s3.2.1) x37)))
        else none
      else none
    else none
  else
  some (.done (s3.1, s3.2.2))
def D74 (p0 : (List Int)) (p1 : (List Int)) : Option ((List Int) × (List Int)) :=
  if (decide ((p0.length : Int) ≤ (IntKind.i64.wrap ((p1.length : Int) - 1)))) = true then
    if p0.length * 8 ≤ 140737488355328 then
      some ([], p0)
    else none
  else
  if 0 ≤ (IntKind.i64.wrap ((p0.length : Int) - (IntKind.i64.wrap ((p1.length : Int) - 1)))) ∧ (IntKind.i64.wrap ((p0.length : Int) - (IntKind.i64.wrap ((p1.length : Int) - 1)))) ≤ (IntKind.i64.wrap ((p0.length : Int) - (IntKind.i64.wrap ((p1.length : Int) - 1)))) ∧ (IntKind.i64.wrap ((p0.length : Int) - (IntKind.i64.wrap ((p1.length : Int) - 1)))) * 8 ≤ 140737488355328 then
    if 0 ≤ (IntKind.i64.wrap ((p0.length : Int) - (IntKind.i64.wrap ((p1.length : Int) - 1)))) ∧ (IntKind.i64.wrap ((p0.length : Int) - (IntKind.i64.wrap ((p1.length : Int) - 1)))) ≤ (p0.length : Int) ∧ (p0.length : Int) ≤ (p0.length : Int) then
      if (sub p0 (IntKind.i64.wrap ((p0.length : Int) - (IntKind.i64.wrap ((p1.length : Int) - 1)))) (p0.length : Int)).length * 8 ≤ 140737488355328 then
        (whileN fuel (D74_b2 p0 p1) ((sub p0 (IntKind.i64.wrap ((p0.length : Int) - (IntKind.i64.wrap ((p1.length : Int) - 1)))) (p0.length : Int)), IntKind.i64.wrap ((((List.replicate (Int.toNat (IntKind.i64.wrap ((p0.length : Int) - (IntKind.i64.wrap ((p1.length : Int) - 1))))) (0 : Int)).length) : Int) - 1), (List.replicate (Int.toNat (IntKind.i64.wrap ((p0.length : Int) - (IntKind.i64.wrap ((p1.length : Int) - 1))))) (0 : Int)))).bind fun x48 =>
        (D76 x48.2).bind fun x49 =>
        some (x49, x48.1)
      else none
    else none
  else none
def D57_b0  (s1 : ((List Int) × (List Int))) : Option (Step ((List Int) × (List Int)) (List Int)) :=
  if (decide ((s1.2.length : Int) > 0)) = true then
    (D74 s1.1 s1.2).bind fun x4 =>
    some (.next (s1.2, x4.2))
  else
  some (.done s1.1)
def D57 (p0 : (List Int)) (p1 : (List Int)) : Option (List Int) :=
  (whileN fuel (D57_b0) (p0, p1)).bind fun x7 =>
  some x7
def D75_b0 (p0 : (List Int)) (s7 : (Int × Int)) : Option (Step (Int × Int) Int) :=
  if (decide (s7.2 ≥ 0)) = true then
    (lkI p0 s7.2).bind fun a10 =>
    some (.next (IntKind.i64.wrap ((IntKind.i64.wrap (10000 * s7.1)) + a10), IntKind.i64.wrap (s7.2 - 1)))
  else
  some (.done s7.1)
def D75 (p0 : (List Int)) : Option (Int × Bool) :=
  (D58 4611686018427387903).bind fun x1 =>
  (D56 p0 x1).bind fun x3 =>
  if (decide (x3 > 0)) = true then
    some (0, false)
  else
  (whileN fuel (D75_b0 p0) (0, IntKind.i64.wrap ((p0.length : Int) - 1))).bind fun x13 =>
  some (x13, true)
def D59 (p0 : Bool) (p1 : (List Int)) (p2 : (List Int)) : Option (Tapi_Q × Bool) :=
  (D57 p1 p2).bind fun x1 =>
  (D74 p1 x1).bind fun x3 =>
  (D74 p2 x1).bind fun x5 =>
  (D75 x3.1).bind fun x7 =>
  (D75 x5.1).bind fun x9 =>
  if (!x7.2) = true then
    some ((Tapi_Q.mk 0 0), false)
  else
  if (!x9.2) = true then
    some ((Tapi_Q.mk 0 0), false)
  else
  if p0 = true then
    some ((Tapi_Q.mk (IntKind.i64.wrap (0 - x7.1)) x9.1), true)
  else
  some ((Tapi_Q.mk x7.1 x9.1), true)
def D55 (p0 : Int) (p1 : Int) : Option (Tapi_Q × Bool) :=
  (D58 p0).bind fun x1 =>
  (D58 p1).bind fun x3 =>
  (D59 (!((decide (p0 < 0)) == (decide (p1 < 0)))) x1 x3).bind fun x5 =>
  some (x5.1, x5.2)
def D28 (p0 : Int) (p1 : Int) : Option Tapi_Q :=
  (D55 p0 p1).bind fun x1 =>
  some x1.1
def D32_b0 (p1 : (List Int)) (p0 : Int) (s1 : (Int × (List Tapi_Q))) : Option (Step (Int × (List Tapi_Q)) (List Tapi_Q)) :=
  if (decide (s1.1 < (p1.length : Int))) = true then
    (lkI p1 s1.1).bind fun a4 =>
    (D28 a4 p0).bind fun x6 =>
    if (s1.2 ++ ([x6] : (List Tapi_Q))).length * 16 ≤ 140737488355328 then
      some (.next (IntKind.i64.wrap (s1.1 + 1), (s1.2 ++ ([x6] : (List Tapi_Q)))))
    else none
  else
  some (.done s1.2)
def D32 (p0 : Int) (p1 : (List Int)) : Option (List Tapi_Q) :=
  (whileN fuel (D32_b0 p1 p0) (0, ([] : (List Tapi_Q)))).bind fun x9 =>
  some x9
def D33  : Option Tapi_Lift :=
  some (Tapi_Lift.mk 4 2 1 ([[4, 0], [2, 2], [0, 4]] : (List (List Int))))
def D10  : Option Bool :=
  (D33).bind fun x1 =>
  (D21 x1 0 0 (-1)).bind fun x3 =>
  (D26 x1 0 1).bind fun x5 =>
  (D24 x1 0 0 1).bind fun x7 =>
  (D19 x1 1 0 1).bind fun x9 =>
  (D13 x1).bind fun x11 =>
  if (x3.2 == 0) = true then
    (D32 16 [9, 6, 1]).bind fun x15 =>
    (D23 x3.1 x15).bind fun x17 =>
    if x17 = true then
      if (x5.2 == 0) = true then
        (D32 8 [3, 5]).bind fun x23 =>
        (D23 x5.1 x23).bind fun x25 =>
        if x25 = true then
          if (x7.2 == 0) = true then
            (D28 5 8).bind fun x31 =>
            if ((x7.1.N == x31.N) && ((x7.1.D == x31.D) && true)) = true then
              if (x9.2 == 0) = true then
                (D28 3 32).bind fun x37 =>
                if ((x9.1.N == x37.N) && ((x9.1.D == x37.D) && true)) = true then
                  if (x11.2 == 0) = true then
                    if ((x11.1.Nodes.length : Int) == 3) = true then
                      (D14 x1).bind fun x45 =>
                      if (x45 == 0) = true then
                        (D14 (Tapi_Lift.mk 0 0 0 [])).bind fun x49 =>
                        some (x49 == 140)
                      else
                      some false
                    else
                    some false
                  else
                  some false
                else
                some false
              else
              some false
            else
            some false
          else
          some false
        else
        some false
      else
      some false
    else
    some false
  else
  some false
def D34_b0 (p1 : Tapi_Lift) (s1 : (Int × (List (List Int)))) : Option (Step (Int × (List (List Int))) (List (List Int))) :=
  if (decide (s1.1 < (p1.Rows.length : Int))) = true then
    (lkI p1.Rows s1.1).bind fun a4 =>
    if a4.length * 8 ≤ 140737488355328 then
      if (s1.2 ++ [a4]).length * 24 ≤ 140737488355328 then
        some (.next (IntKind.i64.wrap (s1.1 + 1), (s1.2 ++ [a4])))
      else none
    else none
  else
  some (.done s1.2)
def D34 (p0 : Tharuspexref14_Bend) (p1 : Tapi_Lift) : Option Tapi_Lift :=
  (whileN fuel (D34_b0 p1) (0, ([] : List (List Int)))).bind fun x7 =>
  if (x7.length : Int) ≠ 0 then
    if ((Int.tmod p0.What 7) == 0) = true then
      some (Tapi_Lift.mk p0.N p1.Count p1.One x7)
    else
    if ((Int.tmod p0.What 7) == 1) = true then
      some (Tapi_Lift.mk p1.Grain p0.N p1.One x7)
    else
    if ((Int.tmod p0.What 7) == 2) = true then
      some (Tapi_Lift.mk p1.Grain p1.Count p0.N x7)
    else
    if ((Int.tmod p0.What 7) == 3) = true then
      (lkI x7 (Int.tmod (IntKind.i64.wrap (p0.J)) (x7.length : Int))).bind fun a16 =>
      if (a16.length : Int) ≠ 0 then
        (lkI a16 (Int.tmod (IntKind.i64.wrap (p0.At)) (a16.length : Int))).bind fun a18 =>
        some (Tapi_Lift.mk p1.Grain p1.Count p1.One (List.set x7 (Int.toNat (Int.tmod (IntKind.i64.wrap (p0.J)) (x7.length : Int))) (List.set a16 (Int.toNat (Int.tmod (IntKind.i64.wrap (p0.At)) (a16.length : Int))) p0.N)))
      else none
    else
    if ((Int.tmod p0.What 7) == 4) = true then
      if 0 ≤ (1 : Int) ∧ (1 : Int) ≤ (x7.length : Int) ∧ (x7.length : Int) ≤ (x7.length : Int) then
        some (Tapi_Lift.mk p1.Grain p1.Count p1.One (sub x7 1 (x7.length : Int)))
      else none
    else
    if ((Int.tmod p0.What 7) == 5) = true then
      (lkI x7 (Int.tmod (IntKind.i64.wrap (p0.J)) (x7.length : Int))).bind fun a26 =>
      if (a26 ++ ([0] : (List Int))).length * 8 ≤ 140737488355328 then
        some (Tapi_Lift.mk p1.Grain p1.Count p1.One (List.set (List.set x7 (Int.toNat (Int.tmod (IntKind.i64.wrap (p0.J)) (x7.length : Int))) ([] : List Int)) (Int.toNat (Int.tmod (IntKind.i64.wrap (p0.J)) (x7.length : Int))) (a26 ++ ([0] : (List Int)))))
      else none
    else
    (lkI x7 (Int.tmod (IntKind.i64.wrap (p0.J)) (x7.length : Int))).bind fun a30 =>
    if 0 ≤ (0 : Int) ∧ (0 : Int) ≤ (1 : Int) ∧ (1 : Int) ≤ (a30.length : Int) then
      some (Tapi_Lift.mk p1.Grain p1.Count p1.One (List.set (List.set x7 (Int.toNat (Int.tmod (IntKind.i64.wrap (p0.J)) (x7.length : Int))) ([] : List Int)) (Int.toNat (Int.tmod (IntKind.i64.wrap (p0.J)) (x7.length : Int))) (List.take (Int.toNat 1) a30)))
    else none
  else none
def D35_b0 (p0 : (List Int)) (p1 : (List Int)) (s3 : Int) : Option (Step Int (Unit ⊕ Unit)) :=
  if (decide (s3 < (p0.length : Int))) = true then
    (lkI p0 s3).bind fun a6 =>
    (lkI p1 s3).bind fun a8 =>
    if (a6 != a8) = true then
      some (.done (Sum.inl ()))
    else
    some (.next (IntKind.i64.wrap (s3 + 1)))
  else
  some (.done (Sum.inr ()))
def D35 (p0 : (List Int)) (p1 : (List Int)) : Option Bool :=
  if ((p0.length : Int) != (p1.length : Int)) = true then
    some false
  else
  (whileN fuel (D35_b0 p0 p1) 0).bind fun x12 => match x12 with
  | .inl x13 => (
    some false)
  | .inr x14 => (
    some true)
def D8_b0 (x5 : Tapi_Lift) (s31 : Int) : Option (Step Int (Unit ⊕ Unit)) :=
  if (decide (s31 < 12)) = true then
    (lkI ([(Tharuspexref14_Bend.mk 0 0 0 21), (Tharuspexref14_Bend.mk 0 0 0 0), (Tharuspexref14_Bend.mk 1 0 0 3), (Tharuspexref14_Bend.mk 1 0 0 (-1)), (Tharuspexref14_Bend.mk 2 0 0 5), (Tharuspexref14_Bend.mk 2 0 0 (-1)), (Tharuspexref14_Bend.mk 3 0 0 (-4)), (Tharuspexref14_Bend.mk 3 0 0 3), (Tharuspexref14_Bend.mk 4 0 0 0), (Tharuspexref14_Bend.mk 5 0 0 0), (Tharuspexref14_Bend.mk 6 0 0 0), (Tharuspexref14_Bend.mk 3 1 0 4611686018427387904)] : (List Tharuspexref14_Bend)) s31).bind fun a34 =>
    (D34 a34 x5).bind fun x36 =>
    (D14 x36).bind fun x38 =>
    if (x38 != 140) = true then
      some (.done (Sum.inl ()))
    else
    some (.next (IntKind.i64.wrap (s31 + 1)))
  else
  some (.done (Sum.inr ()))
def D8_b1  (s45 : (Int × (List (List Int)))) : Option (Step (Int × (List (List Int))) (List (List Int))) :=
  if (decide (s45.1 < 11)) = true then
    if (s45.2 ++ ([[5, 15]] : (List (List Int)))).length * 24 ≤ 140737488355328 then
      some (.next (IntKind.i64.wrap (s45.1 + 1), (s45.2 ++ ([[5, 15]] : (List (List Int))))))
    else none
  else
  some (.done s45.2)
def D8  : Option Bool :=
  (D10).bind fun x1 =>
  if (!x1) = true then
    some false
  else
  (D33).bind fun x5 =>
  (D26 x5 0 0).bind fun x7 =>
  (D21 x5 0 0 1).bind fun x9 =>
  (D24 x5 0 1 1).bind fun x11 =>
  (D24 x5 1 1 (-1)).bind fun x13 =>
  (D21 x5 2 0 1).bind fun x15 =>
  (D19 x5 2 1 (-1)).bind fun x17 =>
  (D19 x5 (-1) 1 (-1)).bind fun x19 =>
  (D19 x5 0 0 2).bind fun x21 =>
  (D19 x5 0 0 (-2)).bind fun x23 =>
  (D26 x5 4611686018427387904 4611686018427387904).bind fun x25 =>
  (D13 x5).bind fun x27 =>
  (D19 x5 2 0 1).bind fun x29 =>
  (whileN fuel (D8_b0 x5) 0).bind fun x42 => match x42 with
  | .inl x43 => (
    some false)
  | .inr x44 => (
    (whileN fuel (D8_b1) (0, ([] : (List (List Int))))).bind fun x49 =>
    (D13 (Tapi_Lift.mk 20 10 10 x49)).bind fun x50 =>
    (D19 (Tapi_Lift.mk 20 10 10 x49) 10 0 0).bind fun x52 =>
    (D21 (Tapi_Lift.mk 20 10 10 x49) 0 0 1).bind fun x54 =>
    if (x13.2 == 4) = true then
      if (x15.2 == 7) = true then
        if (x17.2 == 2) = true then
          if (x19.2 == 2) = true then
            if (x21.2 == 2) = true then
              if (x23.2 == 2) = true then
                if (x25.2 == 2) = true then
                  if (x50.2 == 6) = true then
                    if (x7.2 == 0) = true then
                      (D32 4 [3, 1]).bind fun x74 =>
                      (D23 x7.1 x74).bind fun x76 =>
                      if x76 = true then
                        if (x9.2 == 0) = true then
                          (D32 4 [0, 3, 1]).bind fun x82 =>
                          (D23 x9.1 x82).bind fun x84 =>
                          if x84 = true then
                            if (x11.2 == 0) = true then
                              (D28 2 5).bind fun x90 =>
                              if ((x11.1.N == x90.N) && ((x11.1.D == x90.D) && true)) = true then
                                if (x27.2 == 0) = true then
                                  if ((x27.1.Nodes.length : Int) == 3) = true then
                                    (lkI x27.1.Nodes 2).bind fun a98 =>
                                    if ((a98.Rows.length : Int) == 4) = true then
                                      (lkI a98.Rows 2).bind fun a102 =>
                                      (D35 a102 [2, 2]).bind fun x104 =>
                                      if x104 = true then
                                        (D35 a98.Parents [0, 1]).bind fun x108 =>
                                        if x108 = true then
                                          if (x29.2 == 0) = true then
                                            (D28 0 1).bind fun x114 =>
                                            if ((x29.1.N == x114.N) && ((x29.1.D == x114.D) && true)) = true then
                                              if (x52.2 == 0) = true then
                                                (D28 1 4096).bind fun x120 =>
                                                if ((x52.1.N == x120.N) && ((x52.1.D == x120.D) && true)) = true then
                                                  if (x54.2 == 0) = true then
                                                    (D32 1024 [1, 10, 45, 120, 210, 252, 210, 120, 45, 10, 1]).bind fun x126 =>
                                                    (D23 x54.1 x126).bind fun x128 =>
                                                    some x128
                                                  else
                                                  some false
                                                else
                                                some false
                                              else
                                              some false
                                            else
                                            some false
                                          else
                                          some false
                                        else
                                        some false
                                      else
                                      some false
                                    else
                                    some false
                                  else
                                  some false
                                else
                                some false
                              else
                              some false
                            else
                            some false
                          else
                          some false
                        else
                        some false
                      else
                      some false
                    else
                    some false
                  else
                  some false
                else
                some false
              else
              some false
            else
            some false
          else
          some false
        else
        some false
      else
      some false
    else
    some false)
end Go.Ab
namespace Go.Ab
open Go Go.Proofs
set_option linter.unusedVariables false
set_option linter.unusedSimpArgs false
set_option maxRecDepth 100000
set_option maxHeartbeats 4000000
theorem hfol : (Try.prog.follows .mixedOrders) = true := by kernel_rfl
theorem bodyB_10 : bodyB Try.prog 10 = true := by kernel_rfl
theorem bodyB_13 : bodyB Try.prog 13 = true := by kernel_rfl
theorem bodyB_14 : bodyB Try.prog 14 = true := by kernel_rfl
theorem bodyB_19 : bodyB Try.prog 19 = true := by kernel_rfl
theorem bodyB_21 : bodyB Try.prog 21 = true := by kernel_rfl
theorem bodyB_23 : bodyB Try.prog 23 = true := by kernel_rfl
theorem bodyB_24 : bodyB Try.prog 24 = true := by kernel_rfl
theorem bodyB_26 : bodyB Try.prog 26 = true := by kernel_rfl
theorem bodyB_28 : bodyB Try.prog 28 = true := by kernel_rfl
theorem bodyB_32 : bodyB Try.prog 32 = true := by kernel_rfl
theorem bodyB_33 : bodyB Try.prog 33 = true := by kernel_rfl
theorem bodyB_34 : bodyB Try.prog 34 = true := by kernel_rfl
theorem bodyB_35 : bodyB Try.prog 35 = true := by kernel_rfl
theorem bodyB_43 : bodyB Try.prog 43 = true := by kernel_rfl
theorem bodyB_44 : bodyB Try.prog 44 = true := by kernel_rfl
theorem bodyB_45 : bodyB Try.prog 45 = true := by kernel_rfl
theorem bodyB_50 : bodyB Try.prog 50 = true := by kernel_rfl
theorem bodyB_52 : bodyB Try.prog 52 = true := by kernel_rfl
theorem bodyB_54 : bodyB Try.prog 54 = true := by kernel_rfl
theorem bodyB_55 : bodyB Try.prog 55 = true := by kernel_rfl
theorem bodyB_56 : bodyB Try.prog 56 = true := by kernel_rfl
theorem bodyB_57 : bodyB Try.prog 57 = true := by kernel_rfl
theorem bodyB_58 : bodyB Try.prog 58 = true := by kernel_rfl
theorem bodyB_59 : bodyB Try.prog 59 = true := by kernel_rfl
theorem bodyB_60 : bodyB Try.prog 60 = true := by kernel_rfl
theorem bodyB_62 : bodyB Try.prog 62 = true := by kernel_rfl
theorem bodyB_70 : bodyB Try.prog 70 = true := by kernel_rfl
theorem bodyB_72 : bodyB Try.prog 72 = true := by kernel_rfl
theorem bodyB_73 : bodyB Try.prog 73 = true := by kernel_rfl
theorem bodyB_74 : bodyB Try.prog 74 = true := by kernel_rfl
theorem bodyB_75 : bodyB Try.prog 75 = true := by kernel_rfl
theorem bodyB_76 : bodyB Try.prog 76 = true := by kernel_rfl
@[reducible] noncomputable def D14_s2 (p0 : Tapi_Lift) : List AObj := [oX true false 4 (.agg [vI p0.Grain, vI p0.Count, vI p0.One, eL false (eL true eI) p0.Rows])]
@[reducible] noncomputable def D14_s23 (a15 : (List Int)) (s28 : (Int × Int)) (p0 : Tapi_Lift) (s21 : Int) (a24 : (List Int)) (a31 : Int) : List (Nat × AV) := [(1, .ptr 0 0 0), (3, vI (a15.length : Int)), (6, vI s28.1), (60, eL false (eL true eI) p0.Rows), (61, vI (p0.Rows.length : Int)), (62, vI s21), (72, eL true eI a24), (73, vI (a24.length : Int)), (74, vI s28.2), (8, vI a31)]
@[reducible] noncomputable def D14_s25 (a15 : (List Int)) (s28 : (Int × Int)) (p0 : Tapi_Lift) (s21 : Int) (a24 : (List Int)) : List (Nat × AV) := [(1, .ptr 0 0 0), (3, vI (a15.length : Int)), (6, vI s28.1), (60, eL false (eL true eI) p0.Rows), (61, vI (p0.Rows.length : Int)), (62, vI s21), (72, eL true eI a24), (73, vI (a24.length : Int)), (74, vI s28.2)]
@[reducible] noncomputable def D14_s27 (a15 : (List Int)) (p0 : Tapi_Lift) (s21 : Int) : List (Nat × AV) := [(1, .ptr 0 0 0), (3, vI (a15.length : Int)), (60, eL false (eL true eI) p0.Rows), (61, vI (p0.Rows.length : Int)), (62, vI s21)]
theorem D14_ok (p0 : Tapi_Lift) (x : Int) (h : D14 p0 = some x) : CallOk Try.prog 14 [.agg [vI p0.Grain, vI p0.Count, vI p0.One, eL false (eL true eI) p0.Rows]] (.ret (vI x) []) := by
  refine fn_ok [] Try.func14 rfl (by decide +kernel) rfl ?_
  unfold D14 at h
  refine wp_eqB (base' := 0) (st' := ⟨[(0, .agg [vI p0.Grain, vI p0.Count, vI p0.One, eL false (eL true eI) p0.Rows])], [], 92⟩) rfl (by as_aux_lemma => kernel_rfl) ?_
  refine wp_seq ?_
  refine reg_in ?_
  refine sl false [] [] false rfl ?_
  refine sz 1 2 ?_
  refine reg_end rfl ?_
  refine wp_seq ?_
  refine wp_seq ?_
  refine reg_in ?_
  refine sz 4 4 ?_
  refine rw_wk (wk_gc (live := [1, 12]) (keep := [0]) (st' := ⟨[(1, .ptr 0 0 0), (12, vB (decide (p0.Grain < 1)))], (D14_s2 p0), 92⟩) (by as_aux_lemma => kernel_rfl)) ?_
  refine rbr (S := fun b1 => ⟨[(1, .ptr 0 0 0), (12, vB b1)], (D14_s2 p0), 92⟩) h (fun q2 h => ?_) (fun q2 h => ?_)
  · refine sgz 35 39 (S := ⟨[(1, .ptr 0 0 0), (12, vB true), (13, .tup []), (14, .tup []), (15, .tup []), (16, vB true), (17, vB true), (18, .tup []), (19, .tup []), (20, .tup []), (21, vB true), (22, vB true), (23, .tup []), (24, .tup []), (25, .tup []), (26, vB true), (27, vB true), (28, .tup []), (29, .tup []), (30, .tup []), (31, vB true), (32, vB true), (33, .tup []), (34, .tup []), (35, .tup []), (36, .tup []), (37, .tup []), (38, vB true), (39, vB true), (40, .tup []), (41, .tup []), (42, .tup []), (43, .tup []), (44, .tup []), (45, .tup []), (46, .tup []), (47, vB true)], (D14_s2 p0), 92⟩) ?_
    refine reg_end rfl ?_
    refine wp_condT rfl ?_
    refine wp_seq ?_
    refine wg [] [] ?_
    refine rn ?_
    refine wg [2] [] ?_
    refine wp_ret ?_
    cases h
    show fnOut _ _ _ _ = _
    kernel_rfl
  refine sz 5 9 ?_
  refine rw_wk (wk_gc (live := [1, 17]) (keep := [0]) (st' := ⟨[(1, .ptr 0 0 0), (17, vB (decide (p0.Grain > 20)))], (D14_s2 p0), 92⟩) (by as_aux_lemma => kernel_rfl)) ?_
  refine rbr (S := fun b3 => ⟨[(1, .ptr 0 0 0), (17, vB b3)], (D14_s2 p0), 92⟩) h (fun q4 h => ?_) (fun q4 h => ?_)
  · refine sgz 30 39 (S := ⟨[(1, .ptr 0 0 0), (17, vB true), (18, .tup []), (19, .tup []), (20, .tup []), (21, vB true), (22, vB true), (23, .tup []), (24, .tup []), (25, .tup []), (26, vB true), (27, vB true), (28, .tup []), (29, .tup []), (30, .tup []), (31, vB true), (32, vB true), (33, .tup []), (34, .tup []), (35, .tup []), (36, .tup []), (37, .tup []), (38, vB true), (39, vB true), (40, .tup []), (41, .tup []), (42, .tup []), (43, .tup []), (44, .tup []), (45, .tup []), (46, .tup []), (47, vB true)], (D14_s2 p0), 92⟩) ?_
    refine reg_end rfl ?_
    refine wp_condT rfl ?_
    refine wp_seq ?_
    refine wg [] [] ?_
    refine rn ?_
    refine wg [2] [] ?_
    refine wp_ret ?_
    cases h
    show fnOut _ _ _ _ = _
    kernel_rfl
  refine sz 5 14 ?_
  refine rw_wk (wk_gc (live := [1, 22]) (keep := [0]) (st' := ⟨[(1, .ptr 0 0 0), (22, vB (decide (p0.Count < 1)))], (D14_s2 p0), 92⟩) (by as_aux_lemma => kernel_rfl)) ?_
  refine rbr (S := fun b5 => ⟨[(1, .ptr 0 0 0), (22, vB b5)], (D14_s2 p0), 92⟩) h (fun q6 h => ?_) (fun q6 h => ?_)
  · refine sgz 25 39 (S := ⟨[(1, .ptr 0 0 0), (22, vB true), (23, .tup []), (24, .tup []), (25, .tup []), (26, vB true), (27, vB true), (28, .tup []), (29, .tup []), (30, .tup []), (31, vB true), (32, vB true), (33, .tup []), (34, .tup []), (35, .tup []), (36, .tup []), (37, .tup []), (38, vB true), (39, vB true), (40, .tup []), (41, .tup []), (42, .tup []), (43, .tup []), (44, .tup []), (45, .tup []), (46, .tup []), (47, vB true)], (D14_s2 p0), 92⟩) ?_
    refine reg_end rfl ?_
    refine wp_condT rfl ?_
    refine wp_seq ?_
    refine wg [] [] ?_
    refine rn ?_
    refine wg [2] [] ?_
    refine wp_ret ?_
    cases h
    show fnOut _ _ _ _ = _
    kernel_rfl
  refine sz 5 19 ?_
  refine rw_wk (wk_gc (live := [1, 27]) (keep := [0]) (st' := ⟨[(1, .ptr 0 0 0), (27, vB (decide (p0.Count > 10)))], (D14_s2 p0), 92⟩) (by as_aux_lemma => kernel_rfl)) ?_
  refine rbr (S := fun b7 => ⟨[(1, .ptr 0 0 0), (27, vB b7)], (D14_s2 p0), 92⟩) h (fun q8 h => ?_) (fun q8 h => ?_)
  · refine sgz 20 39 (S := ⟨[(1, .ptr 0 0 0), (27, vB true), (28, .tup []), (29, .tup []), (30, .tup []), (31, vB true), (32, vB true), (33, .tup []), (34, .tup []), (35, .tup []), (36, .tup []), (37, .tup []), (38, vB true), (39, vB true), (40, .tup []), (41, .tup []), (42, .tup []), (43, .tup []), (44, .tup []), (45, .tup []), (46, .tup []), (47, vB true)], (D14_s2 p0), 92⟩) ?_
    refine reg_end rfl ?_
    refine wp_condT rfl ?_
    refine wp_seq ?_
    refine wg [] [] ?_
    refine rn ?_
    refine wg [2] [] ?_
    refine wp_ret ?_
    cases h
    show fnOut _ _ _ _ = _
    kernel_rfl
  refine sz 5 24 ?_
  refine rw_wk (wk_gc (live := [1, 32]) (keep := [0]) (st' := ⟨[(1, .ptr 0 0 0), (32, vB (decide (p0.One < 0)))], (D14_s2 p0), 92⟩) (by as_aux_lemma => kernel_rfl)) ?_
  refine rbr (S := fun b9 => ⟨[(1, .ptr 0 0 0), (32, vB b9)], (D14_s2 p0), 92⟩) h (fun q10 h => ?_) (fun q10 h => ?_)
  · refine sgz 15 39 (S := ⟨[(1, .ptr 0 0 0), (32, vB true), (33, .tup []), (34, .tup []), (35, .tup []), (36, .tup []), (37, .tup []), (38, vB true), (39, vB true), (40, .tup []), (41, .tup []), (42, .tup []), (43, .tup []), (44, .tup []), (45, .tup []), (46, .tup []), (47, vB true)], (D14_s2 p0), 92⟩) ?_
    refine reg_end rfl ?_
    refine wp_condT rfl ?_
    refine wp_seq ?_
    refine wg [] [] ?_
    refine rn ?_
    refine wg [2] [] ?_
    refine wp_ret ?_
    cases h
    show fnOut _ _ _ _ = _
    kernel_rfl
  refine sz 7 31 ?_
  refine rw_wk (wk_gc (live := [1, 39]) (keep := [0]) (st' := ⟨[(1, .ptr 0 0 0), (39, vB (decide (p0.One > p0.Grain)))], (D14_s2 p0), 92⟩) (by as_aux_lemma => kernel_rfl)) ?_
  refine rbr (S := fun b11 => ⟨[(1, .ptr 0 0 0), (39, vB b11)], (D14_s2 p0), 92⟩) h (fun q12 h => ?_) (fun q12 h => ?_)
  · refine sgz 8 39 (S := ⟨[(1, .ptr 0 0 0), (39, vB true), (40, .tup []), (41, .tup []), (42, .tup []), (43, .tup []), (44, .tup []), (45, .tup []), (46, .tup []), (47, vB true)], (D14_s2 p0), 92⟩) ?_
    refine reg_end rfl ?_
    refine wp_condT rfl ?_
    refine wp_seq ?_
    refine wg [] [] ?_
    refine rn ?_
    refine wg [2] [] ?_
    refine wp_ret ?_
    cases h
    show fnOut _ _ _ _ = _
    kernel_rfl
  refine sz 2 33 ?_
  refine lenZ (enc := (eL true eI)) (l := p0.Rows) (fl := false) (by as_aux_lemma => kernel_rfl) ?_
  refine sz 5 39 ?_
  refine reg_end rfl ?_
  refine wbr (S := fun b13 => ⟨[(1, .ptr 0 0 0), (39, vB false), (40, .ptr 0 0 3), (41, eL false (eL true eI) p0.Rows), (42, vI (p0.Rows.length : Int)), (43, .ptr 0 0 1), (44, vI p0.Count), (45, vI (IntKind.i64.wrap (p0.Count + 1))), (46, vB b13), (47, vB b13)], (D14_s2 p0), 92⟩) h (fun q14 h => ?_) (fun q14 h => ?_)
  · refine wp_condT rfl ?_
    refine wp_seq ?_
    refine wg [] [] ?_
    refine rn ?_
    refine wg [2] [] ?_
    refine wp_ret ?_
    cases h
    show fnOut _ _ _ _ = _
    kernel_rfl
  refine wp_condF rfl ?_
  refine wp_skip ?_
  refine wp_seq ?_
  refine wg [1] [0] ?_
  refine reg_in ?_
  refine sgz 2 2 (S := ⟨[(1, .ptr 0 0 0), (48, .ptr 0 0 3), (49, eL false (eL true eI) p0.Rows)], (D14_s2 p0), 92⟩) ?_
  refine bind_elim h (fun a15 q16 h => ?_)
  refine idxZ (enc := (eL true eI)) (l := p0.Rows) (n := 0) (fl := false) (w := 1) (a := a15) (by as_aux_lemma => kernel_rfl) q16 ?_
  refine sz 1 4 ?_
  refine lenZ (enc := eI) (l := a15) (fl := true) (by as_aux_lemma => kernel_rfl) ?_
  refine sz 1 6 ?_
  refine reg_end rfl ?_
  refine wp_seq ?_
  refine wp_seq ?_
  refine wg [1, 3] [0] ?_
  refine reg_in ?_
  refine sz 3 3 ?_
  refine rbr (S := fun b17 => ⟨[(1, .ptr 0 0 0), (3, vI (a15.length : Int)), (53, vI (a15.length : Int)), (54, vB b17), (55, vB b17)], (D14_s2 p0), 92⟩) h (fun q18 h => ?_) (fun q18 h => ?_)
  · refine sgz 3 6 (S := ⟨[(1, .ptr 0 0 0), (3, vI (a15.length : Int)), (53, vI (a15.length : Int)), (54, vB true), (55, vB true), (56, .tup []), (57, .tup []), (58, vB true)], (D14_s2 p0), 92⟩) ?_
    refine reg_end rfl ?_
    refine wp_condT rfl ?_
    refine wp_seq ?_
    refine wg [] [] ?_
    refine rn ?_
    refine wg [2] [] ?_
    refine wp_ret ?_
    cases h
    show fnOut _ _ _ _ = _
    kernel_rfl
  refine sz 3 6 ?_
  refine reg_end rfl ?_
  refine wbr (S := fun b19 => ⟨[(1, .ptr 0 0 0), (3, vI (a15.length : Int)), (53, vI (a15.length : Int)), (54, vB false), (55, vB false), (56, vI (a15.length : Int)), (57, vB b19), (58, vB b19)], (D14_s2 p0), 92⟩) h (fun q20 h => ?_) (fun q20 h => ?_)
  · refine wp_condT rfl ?_
    refine wp_seq ?_
    refine wg [] [] ?_
    refine rn ?_
    refine wg [2] [] ?_
    refine wp_ret ?_
    cases h
    show fnOut _ _ _ _ = _
    kernel_rfl
  refine wp_condF rfl ?_
  refine wp_skip ?_
  refine wp_seq ?_
  refine wp_seq ?_
  refine wg [1, 3] [0] ?_
  refine reg_in ?_
  refine sz 2 2 ?_
  refine lenZ (enc := (eL true eI)) (l := p0.Rows) (fl := false) (by as_aux_lemma => kernel_rfl) ?_
  refine sgz 1 4 (S := ⟨[(1, .ptr 0 0 0), (3, vI (a15.length : Int)), (59, .ptr 0 0 3), (60, eL false (eL true eI) p0.Rows), (61, vI (p0.Rows.length : Int)), (62, vI 0)], (D14_s2 p0), 92⟩) ?_
  refine reg_end rfl ?_
  refine wp_block ?_
  refine wp_while (σ := Int) (ρ := (Unit ⊕ Unit)) (n := fuel) (body := D14_b1 p0 a15) (I := fun s21 => ⟨(D14_s27 a15 p0 s21), (D14_s2 p0), 92⟩) (Ex := fun x out => out = match x with | .inl v => .go (.ret) ⟨[(2, vI 140)], [], 92⟩ | .inr v => .go (.exit 0) ⟨[], [], 92⟩) 0 (wk_gc (live := [1, 3, 60, 61, 62]) (keep := [0]) (st' := ⟨[(1, .ptr 0 0 0), (3, vI (a15.length : Int)), (60, eL false (eL true eI) p0.Rows), (61, vI (p0.Rows.length : Int)), (62, vI 0)], (D14_s2 p0), 92⟩) (by as_aux_lemma => kernel_rfl)) h ?_ ?_
  · intro s21 o h
    unfold D14_b1 at h
    refine sq ?_
    refine wp_seq ?_
    refine wbr (S := fun b22 => ⟨(D14_s27 a15 p0 s21) ++ [(63, vB b22)], (D14_s2 p0), 92⟩) h (fun q23 h => ?_) (fun q23 h => ?_)
    · refine wp_condT rfl ?_
      refine wp_skip ?_
      refine wp_seq ?_
      refine wp_block ?_
      refine wp_seq ?_
      refine reg_in ?_
      refine bind_elim h (fun a24 q25 h => ?_)
      refine idxZ (enc := (eL true eI)) (l := p0.Rows) (n := s21) (fl := false) (w := 1) (a := a24) (by as_aux_lemma => kernel_rfl) q25 ?_
      refine sz 2 3 ?_
      refine reg_end rfl ?_
      refine wp_seq ?_
      refine wp_seq ?_
      refine reg_in ?_
      refine sz 1 1 ?_
      refine lenZ (enc := eI) (l := a24) (fl := true) (by as_aux_lemma => kernel_rfl) ?_
      refine sz 2 4 ?_
      refine reg_end rfl ?_
      refine wbr (S := fun b26 => ⟨(D14_s27 a15 p0 s21) ++ [(63, vB true), (64, .fz [eL true eI a24]), (65, eL true eI a24), (5, eL true eI a24), (66, eL true eI a24), (67, vI (a24.length : Int)), (68, vI (a15.length : Int)), (69, vB b26)], (D14_s2 p0), 92⟩) h (fun q27 h => ?_) (fun q27 h => ?_)
      · refine wp_condT rfl ?_
        refine wp_seq ?_
        refine wg [] [] ?_
        refine rn ?_
        refine wgc [2] [] ⟨[(2, vI 140)], [], 92⟩ ?_
        refine wp_ret ?_
        cases h
        exact ⟨rfl, rfl⟩
      refine wp_condF rfl ?_
      refine wp_skip ?_
      refine wp_seq ?_
      refine wg [1, 3, 60, 61, 62, 5] [0] ?_
      refine rn ?_
      refine wp_seq ?_
      refine wp_seq ?_
      refine reg_in ?_
      refine sz 1 1 ?_
      refine lenZ (enc := eI) (l := a24) (fl := true) (by as_aux_lemma => kernel_rfl) ?_
      refine sgz 1 3 (S := ⟨[(1, .ptr 0 0 0), (3, vI (a15.length : Int)), (60, eL false (eL true eI) p0.Rows), (61, vI (p0.Rows.length : Int)), (62, vI s21), (5, eL true eI a24)] ++ [(70, .ptr 0 0 0), (71, vI p0.Grain), (6, vI p0.Grain), (72, eL true eI a24), (73, vI (a24.length : Int)), (74, vI 0)], (D14_s2 p0), 92⟩) ?_
      refine reg_end rfl ?_
      refine wp_block ?_
      refine wp_while (σ := (Int × Int)) (ρ := (Unit ⊕ Int)) (n := fuel) (body := D14_b0 a24) (I := fun s28 => ⟨(D14_s25 a15 s28 p0 s21 a24), (D14_s2 p0), 92⟩) (Ex := fun x out => out = match x with | .inl v => .go (.ret) ⟨[(2, vI 140)], [], 92⟩ | .inr v => .go (.exit 2) ⟨[(1, .ptr 0 0 0), (3, vI (a15.length : Int)), (6, vI v), (60, eL false (eL true eI) p0.Rows), (61, vI (p0.Rows.length : Int)), (62, vI s21)], (D14_s2 p0), 92⟩) (p0.Grain, 0) (wk_gc (live := [1, 3, 6, 60, 61, 62, 72, 73, 74]) (keep := [0]) (st' := ⟨[(1, .ptr 0 0 0), (3, vI (a15.length : Int)), (6, vI p0.Grain), (60, eL false (eL true eI) p0.Rows), (61, vI (p0.Rows.length : Int)), (62, vI s21)] ++ [(72, eL true eI a24), (73, vI (a24.length : Int)), (74, vI 0)], (D14_s2 p0), 92⟩) (by as_aux_lemma => kernel_rfl)) h ?_ ?_
      · intro s28 o h
        unfold D14_b0 at h
        refine sq ?_
        refine wp_seq ?_
        refine wbr (S := fun b29 => ⟨(D14_s25 a15 s28 p0 s21 a24) ++ [(75, vB b29)], (D14_s2 p0), 92⟩) h (fun q30 h => ?_) (fun q30 h => ?_)
        · refine wp_condT rfl ?_
          refine wp_skip ?_
          refine wp_seq ?_
          refine wp_block ?_
          refine wp_seq ?_
          refine reg_in ?_
          refine bind_elim h (fun a31 q32 h => ?_)
          refine idxZ (enc := eI) (l := a24) (n := s28.2) (fl := true) (w := 1) (a := a31) (by as_aux_lemma => kernel_rfl) q32 ?_
          refine sz 2 3 ?_
          refine reg_end rfl ?_
          refine wp_seq ?_
          refine wp_seq ?_
          refine reg_in ?_
          refine sz 3 3 ?_
          refine rw_wk (wk_gc (live := [1, 3, 6, 60, 61, 62, 72, 73, 74, 8, 80]) (keep := [0]) (st' := ⟨[(1, .ptr 0 0 0), (3, vI (a15.length : Int)), (6, vI s28.1), (60, eL false (eL true eI) p0.Rows), (61, vI (p0.Rows.length : Int)), (62, vI s21), (72, eL true eI a24), (73, vI (a24.length : Int)), (74, vI s28.2), (8, vI a31), (80, vB (decide (a31 < 0)))], (D14_s2 p0), 92⟩) (by as_aux_lemma => kernel_rfl)) ?_
          refine rbr (S := fun b33 => ⟨(D14_s23 a15 s28 p0 s21 a24 a31) ++ [(80, vB b33)], (D14_s2 p0), 92⟩) h (fun q34 h => ?_) (fun q34 h => ?_)
          · refine sgz 4 7 (S := ⟨(D14_s23 a15 s28 p0 s21 a24 a31) ++ [(80, vB true), (81, .tup []), (82, .tup []), (83, .tup []), (84, vB true)], (D14_s2 p0), 92⟩) ?_
            refine reg_end rfl ?_
            refine wp_condT rfl ?_
            refine wp_seq ?_
            refine wg [] [] ?_
            refine rn ?_
            refine wgc [2] [] ⟨[(2, vI 140)], [], 92⟩ ?_
            refine wp_ret ?_
            cases h
            exact ⟨rfl, rfl⟩
          refine sz 4 7 ?_
          refine reg_end rfl ?_
          refine wbr (S := fun b35 => ⟨(D14_s23 a15 s28 p0 s21 a24 a31) ++ [(80, vB false), (81, vI a31), (82, vI s28.1), (83, vB b35), (84, vB b35)], (D14_s2 p0), 92⟩) h (fun q36 h => ?_) (fun q36 h => ?_)
          · refine wp_condT rfl ?_
            refine wp_seq ?_
            refine wg [] [] ?_
            refine rn ?_
            refine wgc [2] [] ⟨[(2, vI 140)], [], 92⟩ ?_
            refine wp_ret ?_
            cases h
            exact ⟨rfl, rfl⟩
          refine wp_condF rfl ?_
          refine wp_skip ?_
          refine wg [1, 3, 6, 60, 61, 62, 72, 73, 74, 8] [0] ?_
          refine rn ?_
          refine rgN (S := ⟨[(1, .ptr 0 0 0), (3, vI (a15.length : Int)), (6, vI (IntKind.i64.wrap (s28.1 - a31))), (60, eL false (eL true eI) p0.Rows), (61, vI (p0.Rows.length : Int)), (62, vI s21), (72, eL true eI a24), (73, vI (a24.length : Int)), (74, vI (IntKind.i64.wrap (s28.2 + 1)))] ++ [(8, vI a31), (85, vI s28.1), (86, vI a31), (87, vI (IntKind.i64.wrap (s28.1 - a31))), (88, vI (IntKind.i64.wrap (s28.2 + 1)))], (D14_s2 p0), 92⟩) ?_
          cases h
          exact ⟨_, rfl, (wk_gc (live := [1, 3, 6, 60, 61, 62, 72, 73, 74]) (keep := [0]) (st' := ⟨[(1, .ptr 0 0 0), (3, vI (a15.length : Int)), (6, vI (IntKind.i64.wrap (s28.1 - a31))), (60, eL false (eL true eI) p0.Rows), (61, vI (p0.Rows.length : Int)), (62, vI s21), (72, eL true eI a24), (73, vI (a24.length : Int)), (74, vI (IntKind.i64.wrap (s28.2 + 1)))], (D14_s2 p0), 92⟩) (by as_aux_lemma => kernel_rfl))⟩
        refine wp_condF rfl ?_
        refine wgc [1, 3, 6, 60, 61, 62] [0] ⟨[(1, .ptr 0 0 0), (3, vI (a15.length : Int)), (6, vI s28.1), (60, eL false (eL true eI) p0.Rows), (61, vI (p0.Rows.length : Int)), (62, vI s21)], (D14_s2 p0), 92⟩ ?_
        refine wp_exit ?_
        cases h
        exact ⟨rfl, rfl⟩
      intro x37 h out hx
      subst hx
      rcases x37 with x38 | x39
      · dsimp only at h ⊢
        cases h
        exact ⟨rfl, rfl⟩
      · dsimp only at h ⊢
        refine sq ?_
        refine wbr (S := fun b40 => ⟨[(1, .ptr 0 0 0), (3, vI (a15.length : Int)), (6, vI x39), (60, eL false (eL true eI) p0.Rows), (61, vI (p0.Rows.length : Int)), (62, vI s21)] ++ [(89, vI x39), (90, vB b40)], (D14_s2 p0), 92⟩) h (fun q41 h => ?_) (fun q41 h => ?_)
        · refine wp_condT rfl ?_
          refine wp_seq ?_
          refine wg [] [] ?_
          refine rn ?_
          refine wgc [2] [] ⟨[(2, vI 140)], [], 92⟩ ?_
          refine wp_ret ?_
          cases h
          exact ⟨rfl, rfl⟩
        refine wp_condF rfl ?_
        refine wp_skip ?_
        refine rgN (S := ⟨[(1, .ptr 0 0 0), (3, vI (a15.length : Int)), (6, vI x39), (60, eL false (eL true eI) p0.Rows), (61, vI (p0.Rows.length : Int)), (62, vI (IntKind.i64.wrap (s21 + 1))), (89, vI x39), (90, vB false), (91, vI (IntKind.i64.wrap (s21 + 1)))], (D14_s2 p0), 92⟩) ?_
        cases h
        exact ⟨_, rfl, (wk_gc (live := [1, 3, 60, 61, 62]) (keep := [0]) (st' := ⟨[(1, .ptr 0 0 0), (3, vI (a15.length : Int)), (60, eL false (eL true eI) p0.Rows), (61, vI (p0.Rows.length : Int)), (62, vI (IntKind.i64.wrap (s21 + 1)))], (D14_s2 p0), 92⟩) (by as_aux_lemma => kernel_rfl))⟩
    refine wp_condF rfl ?_
    refine wgc [] [] ⟨[], [], 92⟩ ?_
    refine wp_exit ?_
    cases h
    exact ⟨rfl, rfl⟩
  intro x42 h out hx
  subst hx
  rcases x42 with x43 | x44
  · dsimp only at h ⊢
    cases h
    show fnOut _ _ _ _ = _
    kernel_rfl
  · dsimp only at h ⊢
    refine sq ?_
    refine wg [2] [] ?_
    refine wp_ret ?_
    cases h
    show fnOut _ _ _ _ = _
    kernel_rfl
end Go.Ab
