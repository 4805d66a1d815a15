/- What functions compute. No conditions. -/
import Derived.Test.YtapoljjoedcknaaEng7
import Derived.Test.YtapoljjoedcknaaProg
import Derived.KernelRfl
set_option linter.all false
namespace Go.Ab
open Go
structure Tapi_Lift where
  Grain : Int
  Count : Int
  One : Int
  Rows : (List (List Int))
  deriving DecidableEq, Inhabited
@[reducible] def eTapi_Lift (x : Tapi_Lift) : AV := .agg [vI x.Grain, vI x.Count, vI x.One, eL false (eL true eI) x.Rows]
structure Tapi_Node where
  Card : Int
  Parents : (List Int)
  Rows : (List (List Int))
  deriving DecidableEq, Inhabited
@[reducible] def eTapi_Node (x : Tapi_Node) : AV := .agg [vI x.Card, eL true eI x.Parents, eL false (eL true eI) x.Rows]
structure Tapi_Net where
  Grain : Int
  Nodes : (List Tapi_Node)
  deriving DecidableEq, Inhabited
structure Tlift_counter where
  Lift : Tapi_Lift
  zeros : Int
  ones : Int
  child : Int
  deriving DecidableEq, Inhabited
structure Tapi_Q where
  N : Int
  D : Int
  deriving DecidableEq, Inhabited
@[reducible] def eTapi_Q (x : Tapi_Q) : AV := .agg [vI x.N, vI x.D]
structure Tharuspexlaw14_Known where
  Zeros : Int
  Ones : Int
  Child : Int
  deriving DecidableEq, Inhabited
@[reducible] def eTharuspexlaw14_Known (x : Tharuspexlaw14_Known) : AV := .agg [vI x.Zeros, vI x.Ones, vI x.Child]
structure Tharuspexref14_Draft where
  Grain : Int
  Count : Int
  One : Int
  Card : Int
  L : (List Int)
  deriving DecidableEq, Inhabited
@[reducible] def eTharuspexref14_Draft (x : Tharuspexref14_Draft) : AV := .agg [.int .u8 x.Grain, .int .u8 x.Count, .int .u8 x.One, .int .u8 x.Card, eL true (AV.int .u8) x.L]
structure Tharuspexref14_Bend where
  What : Int
  J : Int
  At : Int
  N : Int
  deriving DecidableEq, Inhabited
@[reducible] def eTharuspexref14_Bend (x : Tharuspexref14_Bend) : AV := .agg [.int .u8 x.What, .int .u8 x.J, .int .u8 x.At, vI x.N]
def g_lift_Check_b0 (a24 : (List Int)) (s28 : (Int × Int)) : Option (Step (Int × Int) (Unit ⊕ Int)) :=
  if (decide (s28.2 < (a24.length : Int))) = true then
    (lkI a24 s28.2).bind fun a31 =>
    if (decide (a31 < 0)) = true then
      some (.done (Sum.inl ()))
    else
    if (decide (a31 > s28.1)) = true then
      some (.done (Sum.inl ()))
    else
    some (.next (IntKind.i64.wrap (s28.1 - a31), IntKind.i64.wrap (s28.2 + 1)))
  else
  some (.done (Sum.inr s28.1))
def g_lift_Check_b1 (p0 : Tapi_Lift) (a15 : (List Int)) (s21 : Int) : Option (Step Int (Unit ⊕ Unit)) :=
  if (decide (s21 < (p0.Rows.length : Int))) = true then
    (lkI p0.Rows s21).bind fun a24 =>
    if ((a24.length : Int) != (a15.length : Int)) = true then
      some (.done (Sum.inl ()))
    else
    (whileN fuel (g_lift_Check_b0 a24) (p0.Grain, 0)).bind fun x37 => match x37 with
    | .inl x38 => (
      some (.done (Sum.inl ())))
    | .inr x39 => (
      if (x39 != 0) = true then
        some (.done (Sum.inl ()))
      else
      some (.next (IntKind.i64.wrap (s21 + 1))))
  else
  some (.done (Sum.inr ()))
def g_lift_Check (p0 : Tapi_Lift) : Option Int :=
  if (decide (p0.Grain < 1)) = true then
    some 140
  else
  if (decide (p0.Grain > 20)) = true then
    some 140
  else
  if (decide (p0.Count < 1)) = true then
    some 140
  else
  if (decide (p0.Count > 10)) = true then
    some 140
  else
  if (decide (p0.One < 0)) = true then
    some 140
  else
  if (decide (p0.One > p0.Grain)) = true then
    some 140
  else
  if ((p0.Rows.length : Int) != (IntKind.i64.wrap (p0.Count + 1))) = true then
    some 140
  else
  (lkI p0.Rows 0).bind fun a15 =>
  if (decide ((a15.length : Int) < 2)) = true then
    some 140
  else
  if (decide ((a15.length : Int) > 4)) = true then
    some 140
  else
  (whileN fuel (g_lift_Check_b1 p0 a15) 0).bind fun x42 => match x42 with
  | .inl x43 => (
    some 140)
  | .inr x44 => (
    some 0)
def g_lift_Ground_b0 (p0 : Tapi_Lift) (s9 : (Int × (List Int) × (List Tapi_Node) × (List Int))) : Option (Step (Int × (List Int) × (List Tapi_Node) × (List Int)) ((List Int) × (List Tapi_Node) × (List Int))) :=
  if (decide (s9.1 < p0.Count)) = true then
    if (s9.2.2.1 ++ ([(Tapi_Node.mk 2 [] [[IntKind.i64.wrap (p0.Grain - p0.One), p0.One]])] : (List Tapi_Node))).length * 56 ≤ 140737488355328 then
      if (s9.2.2.2 ++ ([s9.1] : (List Int))).length * 8 ≤ 140737488355328 then
        (lkI s9.2.1 s9.1).bind fun a12 =>
        some (.next (IntKind.i64.wrap (s9.1 + 1), (List.set s9.2.1 (Int.toNat s9.1) 2), (s9.2.2.1 ++ ([(Tapi_Node.mk 2 [] [[IntKind.i64.wrap (p0.Grain - p0.One), p0.One]])] : (List Tapi_Node))), (s9.2.2.2 ++ ([s9.1] : (List Int)))))
      else none
    else none
  else
  some (.done (s9.2.1, s9.2.2.1, s9.2.2.2))
def g_lift_Ground_b1 (s17 : (Int × (List (List Int)) × (List Int))) (s18 : (Int × Int)) : Option (Step (Int × Int) Int) :=
  if (decide (s18.2 < (s17.2.2.length : Int))) = true then
    (lkI s17.2.2 s18.2).bind fun a21 =>
    some (.next (IntKind.i64.wrap (s18.1 + a21), IntKind.i64.wrap (s18.2 + 1)))
  else
  some (.done s18.1)
def g_lift_Ground_b2 (x16 : ((List Int) × (List Tapi_Node) × (List Int))) (s27 : (Int × (List Int))) : Option (Step (Int × (List Int)) (Int × (List Int))) :=
  if (decide (s27.1 ≥ 0)) = true then
    (lkI s27.2 s27.1).bind fun a30 =>
    (lkI x16.1 s27.1).bind fun a32 =>
    if (a30 == (IntKind.i64.wrap (a32 - 1))) = true then
      some (.next (IntKind.i64.wrap (s27.1 - 1), (List.set s27.2 (Int.toNat s27.1) 0)))
    else
    some (.done (s27.1, s27.2))
  else
  some (.done (s27.1, s27.2))
def g_lift_Ground_b3 (p0 : Tapi_Lift) (x16 : ((List Int) × (List Tapi_Node) × (List Int))) (s17 : (Int × (List (List Int)) × (List Int))) : Option (Step (Int × (List (List Int)) × (List Int)) (List (List Int))) :=
  (whileN fuel (g_lift_Ground_b1 s17) (0, 0)).bind fun x24 =>
  (lkI p0.Rows x24).bind fun a25 =>
  if a25.length * 8 ≤ 140737488355328 then
    if (s17.2.1 ++ ([a25] : (List (List Int)))).length * 24 ≤ 140737488355328 then
      (whileN fuel (g_lift_Ground_b2 x16) (IntKind.i64.wrap ((x16.1.length : Int) - 1), s17.2.2)).bind fun x38 =>
      if (decide (x38.1 < 0)) = true then
        some (.done (s17.2.1 ++ ([a25] : (List (List Int)))))
      else
      (lkI x38.2 x38.1).bind fun a41 =>
      some (.next (IntKind.i64.wrap (s17.1 + 1), (s17.2.1 ++ ([a25] : (List (List Int)))), (List.set x38.2 (Int.toNat x38.1) (IntKind.i64.wrap (a41 + 1)))))
    else none
  else none
def g_lift_Ground (p0 : Tapi_Lift) : Option (Tapi_Net × Int) :=
  (g_lift_Check p0).bind fun x1 =>
  if (x1 != 0) = true then
    some ((Tapi_Net.mk 0 ([] : (List Tapi_Node))), x1)
  else
  if (decide (p0.Count > 7)) = true then
    some ((Tapi_Net.mk 0 ([] : (List Tapi_Node))), 6)
  else
  (lkI p0.Rows 0).bind fun a7 =>
  if 0 ≤ p0.Count ∧ p0.Count ≤ p0.Count ∧ p0.Count * 8 ≤ 140737488355328 then
    (whileN fuel (g_lift_Ground_b0 p0) (0, (List.replicate (Int.toNat p0.Count) (0 : Int)), ([] : (List Tapi_Node)), ([] : (List Int)))).bind fun x16 =>
    if 0 ≤ (x16.1.length : Int) ∧ (x16.1.length : Int) ≤ (x16.1.length : Int) ∧ (x16.1.length : Int) * 8 ≤ 140737488355328 then
      (whileN fuel (g_lift_Ground_b3 p0 x16) (0, ([] : (List (List Int))), (List.replicate (Int.toNat (x16.1.length : Int)) (0 : Int)))).bind fun x45 =>
      if (x16.2.1 ++ ([(Tapi_Node.mk (a7.length : Int) x16.2.2 x45)] : (List Tapi_Node))).length * 56 ≤ 140737488355328 then
        some ((Tapi_Net.mk p0.Grain (x16.2.1 ++ ([(Tapi_Node.mk (a7.length : Int) x16.2.2 x45)] : (List Tapi_Node)))), 0)
      else none
    else none
  else none
def g_weigh_Ratio_b0  (s1 : (Int × Int)) : Option (Step (Int × Int) Int) :=
  if (s1.2 != 0) = true then
    if s1.2 ≠ 0 then
      some (.next (s1.2, Int.tmod s1.1 s1.2))
    else none
  else
  some (.done s1.1)
def g_weigh_Ratio (p0 : Int) (p1 : Int) : Option Tapi_Q :=
  (whileN fuel (g_weigh_Ratio_b0) ((if (IntKind.i64.wrap (0 - p0)) > p0 then (IntKind.i64.wrap (0 - p0)) else p0), p1)).bind fun x5 =>
  if x5 ≠ 0 then
    if x5 ≠ 0 then
      some (Tapi_Q.mk (IntKind.i64.wrap (Int.tdiv p0 x5)) (IntKind.i64.wrap (Int.tdiv p1 x5)))
    else none
  else none
def g_lift_counter_numbers_b0 (p0 : Tlift_counter) (s1 : (Int × (List Int))) : Option (Step (Int × (List Int)) (List Int)) :=
  if (decide (s1.1 < (IntKind.i64.wrap (p0.Lift.Count + 1)))) = true then
    if (s1.2 ++ ([s1.1] : (List Int))).length * 8 ≤ 140737488355328 then
      some (.next (IntKind.i64.wrap (s1.1 + 1), (s1.2 ++ ([s1.1] : (List Int)))))
    else none
  else
  some (.done s1.2)
def g_lift_counter_numbers (p0 : Tlift_counter) : Option (List Int) :=
  (whileN fuel (g_lift_counter_numbers_b0 p0) (0, ([] : (List Int)))).bind fun x5 =>
  some x5
def g_lift_counter_unknown (p0 : Tlift_counter) : Option Int :=
  some (IntKind.i64.wrap ((IntKind.i64.wrap (p0.Lift.Count - p0.zeros)) - p0.ones))
def g_lift_binomial_b0 (s1 : (Int × (List Int) × (List Int))) (s4 : (Int × (List Int))) : Option (Step (Int × (List Int)) (List Int)) :=
  if (decide (s4.1 < (s1.2.2.length : Int))) = true then
    (lkI s1.2.2 s4.1).bind fun a7 =>
    (lkI s4.2 s4.1).bind fun a9 =>
    (lkI (List.set s4.2 (Int.toNat s4.1) (IntKind.i64.wrap (a9 + a7))) (IntKind.i64.wrap (s4.1 + 1))).bind fun a11 =>
    (lkI (List.set s4.2 (Int.toNat s4.1) (IntKind.i64.wrap (a9 + a7))) (IntKind.i64.wrap (s4.1 + 1))).bind fun a13 =>
    some (.next (IntKind.i64.wrap (s4.1 + 1), (List.set (List.set s4.2 (Int.toNat s4.1) (IntKind.i64.wrap (a9 + a7))) (Int.toNat (IntKind.i64.wrap (s4.1 + 1))) (IntKind.i64.wrap (a11 + a7)))))
  else
  some (.done s4.2)
def g_lift_binomial_b1 (p0 : Int) (s1 : (Int × (List Int) × (List Int))) : Option (Step (Int × (List Int) × (List Int)) ((List Int) × (List Int))) :=
  if (decide (s1.1 < p0)) = true then
    if 0 ≤ (IntKind.i64.wrap ((s1.2.2.length : Int) + 1)) ∧ (IntKind.i64.wrap ((s1.2.2.length : Int) + 1)) ≤ (IntKind.i64.wrap ((s1.2.2.length : Int) + 1)) ∧ (IntKind.i64.wrap ((s1.2.2.length : Int) + 1)) * 8 ≤ 140737488355328 then
      (whileN fuel (g_lift_binomial_b0 s1) (0, (List.replicate (Int.toNat (IntKind.i64.wrap ((s1.2.2.length : Int) + 1))) (0 : Int)))).bind fun x18 =>
      some (.next (IntKind.i64.wrap (s1.1 + 1), s1.2.2, x18))
    else none
  else
  some (.done (s1.2.1, s1.2.2))
def g_lift_binomial (p0 : Int) : Option (List Int) :=
  (whileN fuel (g_lift_binomial_b1 p0) (0, ([] : (List Int)), ([1] : (List Int)))).bind fun x20 =>
  some x20.2
def g_weigh_Whole_b0 (p1 : Int) (p0 : Int) (s1 : (Int × Int)) : Option (Step (Int × Int) Int) :=
  if (decide (s1.2 < p1)) = true then
    some (.next (IntKind.i64.wrap (s1.1 * p0), IntKind.i64.wrap (s1.2 + 1)))
  else
  some (.done s1.1)
def g_weigh_Whole (p0 : Int) (p1 : Int) : Option Int :=
  (whileN fuel (g_weigh_Whole_b0 p1 p0) (1, 0)).bind fun x5 =>
  some x5
def g_lift_counter_members (p0 : Tlift_counter) (p1 : Int) (p2 : Int) : Option Int :=
  (g_weigh_Whole p0.Lift.One p1).bind fun x1 =>
  (g_weigh_Whole (IntKind.i64.wrap (p0.Lift.Grain - p0.Lift.One)) p2).bind fun x3 =>
  some (IntKind.i64.wrap (x1 * x3))
def g_lift_counter_shown (p0 : Tlift_counter) (p1 : Int) : Option Int :=
  if (decide (p0.child < 0)) = true then
    some p0.Lift.Grain
  else
  (lkI p0.Lift.Rows p1).bind fun a3 =>
  (lkI a3 p0.child).bind fun a5 =>
  some a5
def g_lift_counter_mass_b0 (x5 : (List Int)) (p0 : Tlift_counter) (x3 : (List Int)) (s7 : (Int × Int)) : Option (Step (Int × Int) Int) :=
  if (decide (s7.2 < (x5.length : Int))) = true then
    (lkI x5 s7.2).bind fun a10 =>
    if (decide (a10 < p0.ones)) = true then
      some (.next (IntKind.i64.wrap (s7.1 + 0), IntKind.i64.wrap (s7.2 + 1)))
    else
    if (decide (a10 > (IntKind.i64.wrap (p0.Lift.Count - p0.zeros)))) = true then
      some (.next (IntKind.i64.wrap (s7.1 + 0), IntKind.i64.wrap (s7.2 + 1)))
    else
    (lkI x3 (IntKind.i64.wrap (a10 - p0.ones))).bind fun a16 =>
    (g_lift_counter_members p0 a10 (IntKind.i64.wrap (p0.Lift.Count - a10))).bind fun x18 =>
    (g_lift_counter_shown p0 a10).bind fun x20 =>
    some (.next (IntKind.i64.wrap (s7.1 + (IntKind.i64.wrap ((IntKind.i64.wrap (a16 * x18)) * x20))), IntKind.i64.wrap (s7.2 + 1)))
  else
  some (.done s7.1)
def g_lift_counter_mass (p0 : Tlift_counter) : Option Int :=
  (g_lift_counter_unknown p0).bind fun x1 =>
  (g_lift_binomial x1).bind fun x3 =>
  (g_lift_counter_numbers p0).bind fun x5 =>
  (whileN fuel (g_lift_counter_mass_b0 x5 p0 x3) (0, 0)).bind fun x23 =>
  some x23
def g_lift_Prob (p0 : Tapi_Lift) (p1 : Int) (p2 : Int) (p3 : Int) : Option (Tapi_Q × Int) :=
  (g_lift_Check p0).bind fun x1 =>
  if (x1 != 0) = true then
    some ((Tapi_Q.mk 0 0), x1)
  else
  if (decide (p1 < 0)) = true then
    some ((Tapi_Q.mk 0 0), 2)
  else
  if (decide (p1 > p0.Count)) = true then
    some ((Tapi_Q.mk 0 0), 2)
  else
  if (decide (p2 < 0)) = true then
    some ((Tapi_Q.mk 0 0), 2)
  else
  if (decide (p2 > (IntKind.i64.wrap (p0.Count - p1)))) = true then
    some ((Tapi_Q.mk 0 0), 2)
  else
  if (decide (p3 < (-1))) = true then
    some ((Tapi_Q.mk 0 0), 2)
  else
  (lkI p0.Rows 0).bind fun a16 =>
  if (decide (p3 ≥ (a16.length : Int))) = true then
    some ((Tapi_Q.mk 0 0), 2)
  else
  (g_lift_counter_mass (Tlift_counter.mk p0 p1 p2 p3)).bind fun x20 =>
  (g_weigh_Whole p0.Grain (IntKind.i64.wrap (p0.Count + 1))).bind fun x22 =>
  (g_weigh_Ratio x20 x22).bind fun x24 =>
  some (x24, 0)
def g_lift_divided_b0 (p1 : (List Int)) (p0 : Int) (s1 : (Int × (List Tapi_Q))) : Option (Step (Int × (List Tapi_Q)) (List Tapi_Q)) :=
  if (decide (s1.1 < (p1.length : Int))) = true then
    (lkI p1 s1.1).bind fun a4 =>
    (g_weigh_Ratio a4 p0).bind fun x6 =>
    (lkI s1.2 s1.1).bind fun a8 =>
    some (.next (IntKind.i64.wrap (s1.1 + 1), (List.set s1.2 (Int.toNat s1.1) x6)))
  else
  some (.done s1.2)
def g_lift_divided (p0 : Int) (p1 : (List Int)) : Option (List Tapi_Q) :=
  if 0 ≤ (p1.length : Int) ∧ (p1.length : Int) ≤ (p1.length : Int) ∧ (p1.length : Int) * 16 ≤ 140737488355328 then
    (whileN fuel (g_lift_divided_b0 p1 p0) (0, (List.replicate (Int.toNat (p1.length : Int)) ((Tapi_Q.mk 0 0) : Tapi_Q)))).bind fun x12 =>
    some x12
  else none
def g_lift_Ones_b0 (x24 : (List Int)) (p2 : Int) (p0 : Tapi_Lift) (p1 : Int) (x28 : (List Int)) (p3 : Int) (s30 : (Int × (List Int))) : Option (Step (Int × (List Int)) (List Int)) :=
  if (decide (s30.1 < (x24.length : Int))) = true then
    (lkI s30.2 s30.1).bind fun a33 =>
    if (decide (a33 < p2)) = true then
      some (.next (IntKind.i64.wrap (s30.1 + 1), (List.set s30.2 (Int.toNat s30.1) 0)))
    else
    if (decide (a33 > (IntKind.i64.wrap (p0.Count - p1)))) = true then
      some (.next (IntKind.i64.wrap (s30.1 + 1), (List.set s30.2 (Int.toNat s30.1) 0)))
    else
    (lkI x28 (IntKind.i64.wrap (a33 - p2))).bind fun a41 =>
    (g_lift_counter_members (Tlift_counter.mk p0 p1 p2 p3) a33 (IntKind.i64.wrap (p0.Count - a33))).bind fun x43 =>
    (g_lift_counter_shown (Tlift_counter.mk p0 p1 p2 p3) a33).bind fun x45 =>
    some (.next (IntKind.i64.wrap (s30.1 + 1), (List.set s30.2 (Int.toNat s30.1) (IntKind.i64.wrap ((IntKind.i64.wrap (a41 * x43)) * x45)))))
  else
  some (.done s30.2)
def g_lift_Ones (p0 : Tapi_Lift) (p1 : Int) (p2 : Int) (p3 : Int) : Option ((List Tapi_Q) × Int) :=
  (g_lift_Check p0).bind fun x1 =>
  if (x1 != 0) = true then
    some (([] : (List Tapi_Q)), x1)
  else
  if (decide (p1 < 0)) = true then
    some (([] : (List Tapi_Q)), 2)
  else
  if (decide (p1 > p0.Count)) = true then
    some (([] : (List Tapi_Q)), 2)
  else
  if (decide (p2 < 0)) = true then
    some (([] : (List Tapi_Q)), 2)
  else
  if (decide (p2 > (IntKind.i64.wrap (p0.Count - p1)))) = true then
    some (([] : (List Tapi_Q)), 2)
  else
  if (decide (p3 < (-1))) = true then
    some (([] : (List Tapi_Q)), 2)
  else
  (lkI p0.Rows 0).bind fun a16 =>
  if (decide (p3 ≥ (a16.length : Int))) = true then
    some (([] : (List Tapi_Q)), 2)
  else
  (g_lift_counter_mass (Tlift_counter.mk p0 p1 p2 p3)).bind fun x20 =>
  if (x20 == 0) = true then
    some (([] : (List Tapi_Q)), 7)
  else
  (g_lift_counter_numbers (Tlift_counter.mk p0 p1 p2 p3)).bind fun x24 =>
  (g_lift_counter_unknown (Tlift_counter.mk p0 p1 p2 p3)).bind fun x26 =>
  (g_lift_binomial x26).bind fun x28 =>
  (whileN fuel (g_lift_Ones_b0 x24 p2 p0 p1 x28 p3) (0, x24)).bind fun x49 =>
  (g_lift_divided x20 x49).bind fun x50 =>
  some (x50, 0)
def g_slices_Equal_api_Q_api_Q_b0 (p0 : (List Tapi_Q)) (p1 : (List Tapi_Q)) (s3 : Int) : Option (Step Int (Unit ⊕ Unit)) :=
  if (decide (s3 < (p0.length : Int))) = true then
    (lkI p0 s3).bind fun a6 =>
    (lkI p1 s3).bind fun a8 =>
    if (!((a6.N == a8.N) && ((a6.D == a8.D) && true))) = true then
      some (.done (Sum.inl ()))
    else
    some (.next (IntKind.i64.wrap (s3 + 1)))
  else
  some (.done (Sum.inr ()))
def g_slices_Equal_api_Q_api_Q (p0 : (List Tapi_Q)) (p1 : (List Tapi_Q)) : Option Bool :=
  if ((p0.length : Int) != (p1.length : Int)) = true then
    some false
  else
  (whileN fuel (g_slices_Equal_api_Q_api_Q_b0 p0 p1) 0).bind fun x12 => match x12 with
  | .inl x13 => (
    some false)
  | .inr x14 => (
    some true)
def g_lift_Next (p0 : Tapi_Lift) (p1 : Int) (p2 : Int) (p3 : Int) : Option (Tapi_Q × Int) :=
  (g_lift_Check p0).bind fun x1 =>
  if (x1 != 0) = true then
    some ((Tapi_Q.mk 0 0), x1)
  else
  if (decide (p1 < 0)) = true then
    some ((Tapi_Q.mk 0 0), 2)
  else
  if (decide (p1 > p0.Count)) = true then
    some ((Tapi_Q.mk 0 0), 2)
  else
  if (decide (p2 < 0)) = true then
    some ((Tapi_Q.mk 0 0), 2)
  else
  if (decide (p2 > (IntKind.i64.wrap (p0.Count - p1)))) = true then
    some ((Tapi_Q.mk 0 0), 2)
  else
  if (decide (p3 < (-1))) = true then
    some ((Tapi_Q.mk 0 0), 2)
  else
  (lkI p0.Rows 0).bind fun a16 =>
  if (decide (p3 ≥ (a16.length : Int))) = true then
    some ((Tapi_Q.mk 0 0), 2)
  else
  (g_lift_counter_unknown (Tlift_counter.mk p0 p1 p2 p3)).bind fun x20 =>
  if (x20 == 0) = true then
    some ((Tapi_Q.mk 0 0), 4)
  else
  (g_lift_counter_mass (Tlift_counter.mk p0 p1 p2 p3)).bind fun x24 =>
  if (x24 == 0) = true then
    some ((Tapi_Q.mk 0 0), 7)
  else
  (g_lift_counter_mass (Tlift_counter.mk p0 p1 (IntKind.i64.wrap (p2 + 1)) p3)).bind fun x28 =>
  (g_weigh_Ratio x28 x24).bind fun x30 =>
  some (x30, 0)
def g_lift_Child_b0 (a14 : (List Int)) (p0 : Tapi_Lift) (p1 : Int) (p2 : Int) (s22 : (Int × (List Int))) : Option (Step (Int × (List Int)) (List Int)) :=
  if (decide (s22.1 < (((List.replicate (Int.toNat (a14.length : Int)) (0 : Int)).length) : Int))) = true then
    (g_lift_counter_mass (Tlift_counter.mk p0 p1 p2 s22.1)).bind fun x25 =>
    (lkI s22.2 s22.1).bind fun a27 =>
    some (.next (IntKind.i64.wrap (s22.1 + 1), (List.set s22.2 (Int.toNat s22.1) x25)))
  else
  some (.done s22.2)
def g_lift_Child (p0 : Tapi_Lift) (p1 : Int) (p2 : Int) : Option ((List Tapi_Q) × Int) :=
  (g_lift_Check p0).bind fun x1 =>
  if (x1 != 0) = true then
    some (([] : (List Tapi_Q)), x1)
  else
  if (decide (p1 < 0)) = true then
    some (([] : (List Tapi_Q)), 2)
  else
  if (decide (p1 > p0.Count)) = true then
    some (([] : (List Tapi_Q)), 2)
  else
  if (decide (p2 < 0)) = true then
    some (([] : (List Tapi_Q)), 2)
  else
  if (decide (p2 > (IntKind.i64.wrap (p0.Count - p1)))) = true then
    some (([] : (List Tapi_Q)), 2)
  else
  (lkI p0.Rows 0).bind fun a14 =>
  if (decide ((-1) ≥ (a14.length : Int))) = true then
    some (([] : (List Tapi_Q)), 2)
  else
  (g_lift_counter_mass (Tlift_counter.mk p0 p1 p2 (-1))).bind fun x18 =>
  if (x18 == 0) = true then
    some (([] : (List Tapi_Q)), 7)
  else
  if 0 ≤ (a14.length : Int) ∧ (a14.length : Int) ≤ (a14.length : Int) ∧ (a14.length : Int) * 8 ≤ 140737488355328 then
    (whileN fuel (g_lift_Child_b0 a14 p0 p1 p2) (0, (List.replicate (Int.toNat (a14.length : Int)) (0 : Int)))).bind fun x31 =>
    (g_lift_divided x18 x31).bind fun x32 =>
    some (x32, 0)
  else none
def g_ref01_digits_b0  (s1 : (Int × (List Int))) : Option (Step (Int × (List Int)) (List Int)) :=
  if (s1.1 != 0) = true then
    if (s1.2 ++ ([(if (IntKind.i64.wrap (0 - (Int.tmod s1.1 10000))) > (Int.tmod s1.1 10000) then (IntKind.i64.wrap (0 - (Int.tmod s1.1 10000))) else (Int.tmod s1.1 10000))] : (List Int))).length * 8 ≤ 140737488355328 then
      some (.next (IntKind.i64.wrap (Int.tdiv s1.1 10000), (s1.2 ++ ([(if (IntKind.i64.wrap (0 - (Int.tmod s1.1 10000))) > (Int.tmod s1.1 10000) then (IntKind.i64.wrap (0 - (Int.tmod s1.1 10000))) else (Int.tmod s1.1 10000))] : (List Int)))))
    else none
  else
  some (.done s1.2)
def g_ref01_digits (p0 : Int) : Option (List Int) :=
  (whileN fuel (g_ref01_digits_b0) (p0, ([] : (List Int)))).bind fun x5 =>
  some x5
def g_ref01_compare_b0 (p0 : (List Int)) (p1 : (List Int)) (s5 : Int) : Option (Step Int (Int ⊕ Unit)) :=
  if (decide (s5 ≥ 0)) = true then
    (lkI p0 s5).bind fun a8 =>
    (lkI p1 s5).bind fun a10 =>
    if (a8 != a10) = true then
      if (decide (a8 < a10)) = true then
        some (.done (Sum.inl (-1)))
      else
      some (.done (Sum.inl 1))
    else
    some (.next (IntKind.i64.wrap (s5 - 1)))
  else
  some (.done (Sum.inr ()))
def g_ref01_compare (p0 : (List Int)) (p1 : (List Int)) : Option Int :=
  if ((p0.length : Int) != (p1.length : Int)) = true then
    if (decide ((p0.length : Int) < (p1.length : Int))) = true then
      some (-1)
    else
    some 1
  else
  (whileN fuel (g_ref01_compare_b0 p0 p1) (IntKind.i64.wrap ((p0.length : Int) - 1))).bind fun x16 => match x16 with
  | .inl x17 => (
    some x17)
  | .inr x18 => (
    some 0)
def g_ref01_cut_b0  (s1 : (List Int)) : Option (Step (List Int) (List Int)) :=
  if (decide ((s1.length : Int) > 0)) = true then
    (lkI s1 (IntKind.i64.wrap ((s1.length : Int) - 1))).bind fun a4 =>
    if (a4 == 0) = true then
      if 0 ≤ (0 : Int) ∧ (0 : Int) ≤ (IntKind.i64.wrap ((s1.length : Int) - 1)) ∧ (IntKind.i64.wrap ((s1.length : Int) - 1)) ≤ (s1.length : Int) then
        some (.next (sub s1 0 (IntKind.i64.wrap ((s1.length : Int) - 1))))
      else none
    else
    some (.done s1)
  else
  some (.done s1)
def g_ref01_cut (p0 : (List Int)) : Option (List Int) :=
  (whileN fuel (g_ref01_cut_b0) p0).bind fun x9 =>
  some x9
def g_ref01_times_b0 (p1 : (List Int)) (s1 : (Int × (List Int))) (p0 : (List Int)) (s4 : (Int × Int × (List Int))) : Option (Step (Int × Int × (List Int)) (List Int)) :=
  if (decide (s4.2.1 < (p1.length : Int))) = true then
    (lkI s4.2.2 (IntKind.i64.wrap (s1.1 + s4.2.1))).bind fun a7 =>
    (lkI p0 s1.1).bind fun a10 =>
    (lkI p1 s4.2.1).bind fun a12 =>
    (lkI s4.2.2 (IntKind.i64.wrap (s1.1 + s4.2.1))).bind fun a14 =>
    some (.next (IntKind.i64.wrap (Int.tdiv (IntKind.i64.wrap ((IntKind.i64.wrap (s4.1 + a7)) + (IntKind.i64.wrap (a10 * a12)))) 10000), IntKind.i64.wrap (s4.2.1 + 1), (List.set s4.2.2 (Int.toNat (IntKind.i64.wrap (s1.1 + s4.2.1))) (Int.tmod (IntKind.i64.wrap ((IntKind.i64.wrap (s4.1 + a7)) + (IntKind.i64.wrap (a10 * a12)))) 10000))))
  else
  if (decide (s4.1 > 0)) = true then
    (lkI s4.2.2 (IntKind.i64.wrap (s1.1 + s4.2.1))).bind fun a19 =>
    (lkI s4.2.2 (IntKind.i64.wrap (s1.1 + s4.2.1))).bind fun a22 =>
    some (.next (IntKind.i64.wrap (Int.tdiv (IntKind.i64.wrap (s4.1 + a19)) 10000), IntKind.i64.wrap (s4.2.1 + 1), (List.set s4.2.2 (Int.toNat (IntKind.i64.wrap (s1.1 + s4.2.1))) (Int.tmod (IntKind.i64.wrap (s4.1 + a19)) 10000))))
  else
  some (.done s4.2.2)
def g_ref01_times_b1 (p0 : (List Int)) (p1 : (List Int)) (s1 : (Int × (List Int))) : Option (Step (Int × (List Int)) (List Int)) :=
  if (decide (s1.1 < (p0.length : Int))) = true then
    (whileN fuel (g_ref01_times_b0 p1 s1 p0) (0, 0, s1.2)).bind fun x26 =>
    some (.next (IntKind.i64.wrap (s1.1 + 1), x26))
  else
  some (.done s1.2)
def g_ref01_times (p0 : (List Int)) (p1 : (List Int)) : Option (List Int) :=
  if 0 ≤ (IntKind.i64.wrap ((p0.length : Int) + (p1.length : Int))) ∧ (IntKind.i64.wrap ((p0.length : Int) + (p1.length : Int))) ≤ (IntKind.i64.wrap ((p0.length : Int) + (p1.length : Int))) ∧ (IntKind.i64.wrap ((p0.length : Int) + (p1.length : Int))) * 8 ≤ 140737488355328 then
    (whileN fuel (g_ref01_times_b1 p0 p1) (0, (List.replicate (Int.toNat (IntKind.i64.wrap ((p0.length : Int) + (p1.length : Int)))) (0 : Int)))).bind fun x28 =>
    (g_ref01_cut x28).bind fun x29 =>
    some x29
  else none
def g_ref01_minus_b0 (p0 : (List Int)) (p1 : (List Int)) (s1 : (Int × Int × (List Int))) : Option (Step (Int × Int × (List Int)) (List Int)) :=
  if (decide (s1.2.1 < (p0.length : Int))) = true then
    (lkI p0 s1.2.1).bind fun a4 =>
    if (decide (s1.2.1 < (p1.length : Int))) = true then
      (lkI p1 s1.2.1).bind fun a8 =>
      if (decide ((IntKind.i64.wrap ((IntKind.i64.wrap (a4 - s1.1)) - a8)) < 0)) = true then
        if (s1.2.2 ++ ([IntKind.i64.wrap ((IntKind.i64.wrap ((IntKind.i64.wrap (a4 - s1.1)) - a8)) + 10000)] : (List Int))).length * 8 ≤ 140737488355328 then
          some (.next (1, IntKind.i64.wrap (s1.2.1 + 1), (s1.2.2 ++ ([IntKind.i64.wrap ((IntKind.i64.wrap ((IntKind.i64.wrap (a4 - s1.1)) - a8)) + 10000)] : (List Int)))))
        else none
      else
      if (s1.2.2 ++ ([IntKind.i64.wrap ((IntKind.i64.wrap (a4 - s1.1)) - a8)] : (List Int))).length * 8 ≤ 140737488355328 then
        some (.next (0, IntKind.i64.wrap (s1.2.1 + 1), (s1.2.2 ++ ([IntKind.i64.wrap ((IntKind.i64.wrap (a4 - s1.1)) - a8)] : (List Int)))))
      else none
    else
    if (decide ((IntKind.i64.wrap (a4 - s1.1)) < 0)) = true then
      if (s1.2.2 ++ ([IntKind.i64.wrap ((IntKind.i64.wrap (a4 - s1.1)) + 10000)] : (List Int))).length * 8 ≤ 140737488355328 then
        some (.next (1, IntKind.i64.wrap (s1.2.1 + 1), (s1.2.2 ++ ([IntKind.i64.wrap ((IntKind.i64.wrap (a4 - s1.1)) + 10000)] : (List Int)))))
      else none
    else
    if (s1.2.2 ++ ([IntKind.i64.wrap (a4 - s1.1)] : (List Int))).length * 8 ≤ 140737488355328 then
      some (.next (0, IntKind.i64.wrap (s1.2.1 + 1), (s1.2.2 ++ ([IntKind.i64.wrap (a4 - s1.1)] : (List Int)))))
    else none
  else
  some (.done s1.2.2)
def g_ref01_minus (p0 : (List Int)) (p1 : (List Int)) : Option (List Int) :=
  (whileN fuel (g_ref01_minus_b0 p0 p1) (0, 0, ([] : (List Int)))).bind fun x15 =>
  (g_ref01_cut x15).bind fun x16 =>
  some x16
def g_ref01_divide_b0 (p1 : (List Int)) (x8 : (List Int)) (s10 : (Int × Int × Int)) : Option (Step (Int × Int × Int) (Int × Int)) :=
  if (decide (s10.2.2 ≥ (if (IntKind.i64.wrap ((IntKind.i64.wrap ((p1.length : Int) - 1)) - 1)) > 0 then (IntKind.i64.wrap ((IntKind.i64.wrap ((p1.length : Int) - 1)) - 1)) else 0))) = true then
    if (decide (s10.2.2 < (x8.length : Int))) = true then
      (lkI x8 s10.2.2).bind fun a15 =>
      if (decide (s10.2.2 ≤ (IntKind.i64.wrap ((p1.length : Int) - 1)))) = true then
        (lkI p1 s10.2.2).bind fun a19 =>
        some (.next (IntKind.i64.wrap ((IntKind.i64.wrap (s10.1 * 10000)) + a19), IntKind.i64.wrap ((IntKind.i64.wrap (s10.2.1 * 10000)) + a15), IntKind.i64.wrap (s10.2.2 - 1)))
      else
      some (.next (s10.1, IntKind.i64.wrap ((IntKind.i64.wrap (s10.2.1 * 10000)) + a15), IntKind.i64.wrap (s10.2.2 - 1)))
    else
    if (decide (s10.2.2 ≤ (IntKind.i64.wrap ((p1.length : Int) - 1)))) = true then
      (lkI p1 s10.2.2).bind fun a23 =>
      some (.next (IntKind.i64.wrap ((IntKind.i64.wrap (s10.1 * 10000)) + a23), IntKind.i64.wrap (s10.2.1 * 10000), IntKind.i64.wrap (s10.2.2 - 1)))
    else
    some (.next (s10.1, IntKind.i64.wrap (s10.2.1 * 10000), IntKind.i64.wrap (s10.2.2 - 1)))
  else
  some (.done (s10.1, s10.2.1))
def g_ref01_divide_b1 (p1 : (List Int)) (x8 : (List Int)) (s27 : (Int × Int)) : Option (Step (Int × Int) Int) :=
  if (decide (s27.1 < s27.2)) = true then
    (g_ref01_times p1 [IntKind.i64.wrap (Int.tdiv (IntKind.i64.wrap ((IntKind.i64.wrap (s27.1 + s27.2)) + 1)) 2)]).bind fun x30 =>
    (g_ref01_compare x30 x8).bind fun x32 =>
    if (decide (x32 ≤ 0)) = true then
      some (.next (IntKind.i64.wrap (Int.tdiv (IntKind.i64.wrap ((IntKind.i64.wrap (s27.1 + s27.2)) + 1)) 2), s27.2))
    else
    some (.next (s27.1, IntKind.i64.wrap ((IntKind.i64.wrap (Int.tdiv (IntKind.i64.wrap ((IntKind.i64.wrap (s27.1 + s27.2)) + 1)) 2)) - 1)))
  else
  some (.done s27.1)
def g_ref01_divide_b2 (p0 : (List Int)) (p1 : (List Int)) (s3 : ((List Int) × Int × (List Int))) : Option (Step ((List Int) × Int × (List Int)) ((List Int) × (List Int))) :=
  if (decide (s3.2.1 ≥ 0)) = true then
    (lkI p0 s3.2.1).bind fun a6 =>
    if (([a6] : (List Int)) ++ s3.1).length * 8 ≤ 140737488355328 then
      (g_ref01_cut (([a6] : (List Int)) ++ s3.1)).bind fun x8 =>
      (whileN fuel (g_ref01_divide_b0 p1 x8) (0, 0, IntKind.i64.wrap ((IntKind.i64.wrap ((p1.length : Int) - 1)) + 1))).bind fun x26 =>
      if (IntKind.i64.wrap (x26.1 + 1)) ≠ 0 then
        if x26.1 ≠ 0 then
          (whileN fuel (g_ref01_divide_b1 p1 x8) (IntKind.i64.wrap (Int.tdiv x26.2 (IntKind.i64.wrap (x26.1 + 1))), IntKind.i64.wrap (Int.tdiv x26.2 x26.1))).bind fun x37 =>
          (lkI s3.2.2 s3.2.1).bind fun a38 =>
          (g_ref01_cut [x37]).bind fun x40 =>
          (g_ref01_times p1 x40).bind fun x42 =>
          (g_ref01_minus x8 x42).bind fun x44 =>
          some (.next (x44, IntKind.i64.wrap (s3.2.1 - 1), (List.set s3.2.2 (Int.toNat s3.2.1) x37)))
        else none
      else none
    else none
  else
  some (.done (s3.1, s3.2.2))
def g_ref01_divide (p0 : (List Int)) (p1 : (List Int)) : Option ((List Int) × (List Int)) :=
  if (decide ((p0.length : Int) ≤ (IntKind.i64.wrap ((p1.length : Int) - 1)))) = true then
    if p0.length * 8 ≤ 140737488355328 then
      some ([], p0)
    else none
  else
  if 0 ≤ (IntKind.i64.wrap ((p0.length : Int) - (IntKind.i64.wrap ((p1.length : Int) - 1)))) ∧ (IntKind.i64.wrap ((p0.length : Int) - (IntKind.i64.wrap ((p1.length : Int) - 1)))) ≤ (IntKind.i64.wrap ((p0.length : Int) - (IntKind.i64.wrap ((p1.length : Int) - 1)))) ∧ (IntKind.i64.wrap ((p0.length : Int) - (IntKind.i64.wrap ((p1.length : Int) - 1)))) * 8 ≤ 140737488355328 then
    if 0 ≤ (IntKind.i64.wrap ((p0.length : Int) - (IntKind.i64.wrap ((p1.length : Int) - 1)))) ∧ (IntKind.i64.wrap ((p0.length : Int) - (IntKind.i64.wrap ((p1.length : Int) - 1)))) ≤ (p0.length : Int) ∧ (p0.length : Int) ≤ (p0.length : Int) then
      if (sub p0 (IntKind.i64.wrap ((p0.length : Int) - (IntKind.i64.wrap ((p1.length : Int) - 1)))) (p0.length : Int)).length * 8 ≤ 140737488355328 then
        (whileN fuel (g_ref01_divide_b2 p0 p1) ((sub p0 (IntKind.i64.wrap ((p0.length : Int) - (IntKind.i64.wrap ((p1.length : Int) - 1)))) (p0.length : Int)), IntKind.i64.wrap ((((List.replicate (Int.toNat (IntKind.i64.wrap ((p0.length : Int) - (IntKind.i64.wrap ((p1.length : Int) - 1))))) (0 : Int)).length) : Int) - 1), (List.replicate (Int.toNat (IntKind.i64.wrap ((p0.length : Int) - (IntKind.i64.wrap ((p1.length : Int) - 1))))) (0 : Int)))).bind fun x48 =>
        (g_ref01_cut x48.2).bind fun x49 =>
        some (x49, x48.1)
      else none
    else none
  else none
def g_ref01_gcd_b0  (s1 : ((List Int) × (List Int))) : Option (Step ((List Int) × (List Int)) (List Int)) :=
  if (decide ((s1.2.length : Int) > 0)) = true then
    (g_ref01_divide s1.1 s1.2).bind fun x4 =>
    some (.next (s1.2, x4.2))
  else
  some (.done s1.1)
def g_ref01_gcd (p0 : (List Int)) (p1 : (List Int)) : Option (List Int) :=
  (whileN fuel (g_ref01_gcd_b0) (p0, p1)).bind fun x7 =>
  some x7
def g_ref01_value_b0 (p0 : (List Int)) (s7 : (Int × Int)) : Option (Step (Int × Int) Int) :=
  if (decide (s7.2 ≥ 0)) = true then
    (lkI p0 s7.2).bind fun a10 =>
    some (.next (IntKind.i64.wrap ((IntKind.i64.wrap (10000 * s7.1)) + a10), IntKind.i64.wrap (s7.2 - 1)))
  else
  some (.done s7.1)
def g_ref01_value (p0 : (List Int)) : Option (Int × Bool) :=
  (g_ref01_digits 4611686018427387903).bind fun x1 =>
  (g_ref01_compare p0 x1).bind fun x3 =>
  if (decide (x3 > 0)) = true then
    some (0, false)
  else
  (whileN fuel (g_ref01_value_b0 p0) (0, IntKind.i64.wrap ((p0.length : Int) - 1))).bind fun x13 =>
  some (x13, true)
def g_ref01_made (p0 : Bool) (p1 : (List Int)) (p2 : (List Int)) : Option (Tapi_Q × Bool) :=
  (g_ref01_gcd p1 p2).bind fun x1 =>
  (g_ref01_divide p1 x1).bind fun x3 =>
  (g_ref01_divide p2 x1).bind fun x5 =>
  (g_ref01_value x3.1).bind fun x7 =>
  (g_ref01_value x5.1).bind fun x9 =>
  if (!x7.2) = true then
    some ((Tapi_Q.mk 0 0), false)
  else
  if (!x9.2) = true then
    some ((Tapi_Q.mk 0 0), false)
  else
  if p0 = true then
    some ((Tapi_Q.mk (IntKind.i64.wrap (0 - x7.1)) x9.1), true)
  else
  some ((Tapi_Q.mk x7.1 x9.1), true)
def g_ref01_Make (p0 : Int) (p1 : Int) : Option (Tapi_Q × Bool) :=
  (g_ref01_digits p0).bind fun x1 =>
  (g_ref01_digits p1).bind fun x3 =>
  (g_ref01_made (!((decide (p0 < 0)) == (decide (p1 < 0)))) x1 x3).bind fun x5 =>
  some (x5.1, x5.2)
def g_ref01_Of (p0 : Int) (p1 : Int) : Option Tapi_Q :=
  (g_ref01_Make p0 p1).bind fun x1 =>
  some x1.1
def g_law14_over_b0 (p1 : (List Int)) (p0 : Int) (s1 : (Int × (List Tapi_Q))) : Option (Step (Int × (List Tapi_Q)) (List Tapi_Q)) :=
  if (decide (s1.1 < (p1.length : Int))) = true then
    (lkI p1 s1.1).bind fun a4 =>
    (g_ref01_Of a4 p0).bind fun x6 =>
    if (s1.2 ++ ([x6] : (List Tapi_Q))).length * 16 ≤ 140737488355328 then
      some (.next (IntKind.i64.wrap (s1.1 + 1), (s1.2 ++ ([x6] : (List Tapi_Q)))))
    else none
  else
  some (.done s1.2)
def g_law14_over (p0 : Int) (p1 : (List Int)) : Option (List Tapi_Q) :=
  (whileN fuel (g_law14_over_b0 p1 p0) (0, ([] : (List Tapi_Q)))).bind fun x9 =>
  some x9
def g_law14_sample  : Option Tapi_Lift :=
  some (Tapi_Lift.mk 4 2 1 ([[4, 0], [2, 2], [0, 4]] : (List (List Int))))
def g_law14_wakes  : Option Bool :=
  (g_law14_sample).bind fun x1 =>
  (g_lift_Ones x1 0 0 (-1)).bind fun x3 =>
  (g_lift_Child x1 0 1).bind fun x5 =>
  (g_lift_Next x1 0 0 1).bind fun x7 =>
  (g_lift_Prob x1 1 0 1).bind fun x9 =>
  (g_lift_Ground x1).bind fun x11 =>
  if (x3.2 == 0) = true then
    (g_law14_over 16 [9, 6, 1]).bind fun x15 =>
    (g_slices_Equal_api_Q_api_Q x3.1 x15).bind fun x17 =>
    if x17 = true then
      if (x5.2 == 0) = true then
        (g_law14_over 8 [3, 5]).bind fun x23 =>
        (g_slices_Equal_api_Q_api_Q x5.1 x23).bind fun x25 =>
        if x25 = true then
          if (x7.2 == 0) = true then
            (g_ref01_Of 5 8).bind fun x31 =>
            if ((x7.1.N == x31.N) && ((x7.1.D == x31.D) && true)) = true then
              if (x9.2 == 0) = true then
                (g_ref01_Of 3 32).bind fun x37 =>
                if ((x9.1.N == x37.N) && ((x9.1.D == x37.D) && true)) = true then
                  if (x11.2 == 0) = true then
                    if ((x11.1.Nodes.length : Int) == 3) = true then
                      (g_lift_Check x1).bind fun x45 =>
                      if (x45 == 0) = true then
                        (g_lift_Check (Tapi_Lift.mk 0 0 0 [])).bind fun x49 =>
                        some (x49 == 140)
                      else
                      some false
                    else
                    some false
                  else
                  some false
                else
                some false
              else
              some false
            else
            some false
          else
          some false
        else
        some false
      else
      some false
    else
    some false
  else
  some false
def g_law14_Known_Of (p0 : Tharuspexlaw14_Known) (p1 : Tapi_Lift) : Option Tharuspexlaw14_Known :=
  if (IntKind.u64.wrap (IntKind.i64.wrap (p1.Count + 1))) ≠ 0 then
    if (IntKind.u64.wrap (IntKind.i64.wrap ((IntKind.i64.wrap (p1.Count - (IntKind.i64.wrap (Int.tmod (IntKind.u64.wrap (p0.Zeros)) (IntKind.u64.wrap (IntKind.i64.wrap (p1.Count + 1))))))) + 1))) ≠ 0 then
      (lkI p1.Rows 0).bind fun a1 =>
      if (IntKind.u64.wrap (IntKind.i64.wrap ((a1.length : Int) + 1))) ≠ 0 then
        some (Tharuspexlaw14_Known.mk (IntKind.i64.wrap (Int.tmod (IntKind.u64.wrap (p0.Zeros)) (IntKind.u64.wrap (IntKind.i64.wrap (p1.Count + 1))))) (IntKind.i64.wrap (Int.tmod (IntKind.u64.wrap (p0.Ones)) (IntKind.u64.wrap (IntKind.i64.wrap ((IntKind.i64.wrap (p1.Count - (IntKind.i64.wrap (Int.tmod (IntKind.u64.wrap (p0.Zeros)) (IntKind.u64.wrap (IntKind.i64.wrap (p1.Count + 1))))))) + 1))))) (IntKind.i64.wrap ((IntKind.i64.wrap (Int.tmod (IntKind.u64.wrap (p0.Child)) (IntKind.u64.wrap (IntKind.i64.wrap ((a1.length : Int) + 1))))) - 1)))
      else none
    else none
  else none
def g_ref14_Split_b0 (p0 : Int) (p2 : (List Int)) (s1 : (Int × Int × (List Int))) : Option (Step (Int × Int × (List Int)) (List Int)) :=
  if (decide (s1.2.1 < p0)) = true then
    if (decide (s1.2.1 < (IntKind.i64.wrap (p0 - 1)))) = true then
      if (decide (s1.2.1 < (p2.length : Int))) = true then
        (lkI p2 s1.2.1).bind fun a8 =>
        if (IntKind.i64.wrap (s1.1 + 1)) ≠ 0 then
          if (s1.2.2 ++ ([Int.tmod (IntKind.i64.wrap (a8)) (IntKind.i64.wrap (s1.1 + 1))] : (List Int))).length * 8 ≤ 140737488355328 then
            some (.next (IntKind.i64.wrap (s1.1 - (Int.tmod (IntKind.i64.wrap (a8)) (IntKind.i64.wrap (s1.1 + 1)))), IntKind.i64.wrap (s1.2.1 + 1), (s1.2.2 ++ ([Int.tmod (IntKind.i64.wrap (a8)) (IntKind.i64.wrap (s1.1 + 1))] : (List Int)))))
          else none
        else none
      else
      if (s1.2.2 ++ ([0] : (List Int))).length * 8 ≤ 140737488355328 then
        some (.next (IntKind.i64.wrap (s1.1 - 0), IntKind.i64.wrap (s1.2.1 + 1), (s1.2.2 ++ ([0] : (List Int)))))
      else none
    else
    if (s1.2.2 ++ ([s1.1] : (List Int))).length * 8 ≤ 140737488355328 then
      some (.next (IntKind.i64.wrap (s1.1 - s1.1), IntKind.i64.wrap (s1.2.1 + 1), (s1.2.2 ++ ([s1.1] : (List Int)))))
    else none
  else
  some (.done s1.2.2)
def g_ref14_Split (p0 : Int) (p1 : Int) (p2 : (List Int)) : Option (List Int) :=
  (whileN fuel (g_ref14_Split_b0 p0 p2) (p1, 0, ([] : (List Int)))).bind fun x11 =>
  some x11
def g_ref14_Draft_Lift_b0 (p0 : Tharuspexref14_Draft) (s1 : (Int × (List (List Int)))) (s4 : (Int × (List Int))) : Option (Step (Int × (List Int)) (List Int)) :=
  if (decide (s4.1 < 4)) = true then
    if (decide ((p0.L.length : Int) > 0)) = true then
      if (p0.L.length : Int) ≠ 0 then
        (lkI p0.L (Int.tmod (IntKind.i64.wrap ((IntKind.i64.wrap (3 * s1.1)) + s4.1)) (p0.L.length : Int))).bind fun a9 =>
        if (s4.2 ++ ([a9] : (List Int))).length * 1 ≤ 140737488355328 then
          some (.next (IntKind.i64.wrap (s4.1 + 1), (s4.2 ++ ([a9] : (List Int)))))
        else none
      else none
    else
    some (.done s4.2)
  else
  some (.done s4.2)
def g_ref14_Draft_Lift_b1 (p0 : Tharuspexref14_Draft) (s1 : (Int × (List (List Int)))) : Option (Step (Int × (List (List Int))) (List (List Int))) :=
  if (decide (s1.1 ≤ (IntKind.i64.wrap (1 + (IntKind.i64.wrap (Int.tmod p0.Count 10)))))) = true then
    (whileN fuel (g_ref14_Draft_Lift_b0 p0 s1) (0, ([] : (List Int)))).bind fun x12 =>
    (g_ref14_Split (IntKind.i64.wrap (2 + (IntKind.i64.wrap (Int.tmod p0.Card 3)))) (IntKind.i64.wrap (1 + (IntKind.i64.wrap (Int.tmod p0.Grain 20)))) x12).bind fun x13 =>
    if (s1.2 ++ ([x13] : (List (List Int)))).length * 24 ≤ 140737488355328 then
      some (.next (IntKind.i64.wrap (s1.1 + 1), (s1.2 ++ ([x13] : (List (List Int))))))
    else none
  else
  some (.done s1.2)
def g_ref14_Draft_Lift (p0 : Tharuspexref14_Draft) : Option Tapi_Lift :=
  if (IntKind.i64.wrap ((IntKind.i64.wrap (1 + (IntKind.i64.wrap (Int.tmod p0.Grain 20)))) + 1)) ≠ 0 then
    (whileN fuel (g_ref14_Draft_Lift_b1 p0) (0, ([] : (List (List Int))))).bind fun x16 =>
    some (Tapi_Lift.mk (IntKind.i64.wrap (1 + (IntKind.i64.wrap (Int.tmod p0.Grain 20)))) (IntKind.i64.wrap (1 + (IntKind.i64.wrap (Int.tmod p0.Count 10)))) (Int.tmod (IntKind.i64.wrap (p0.One)) (IntKind.i64.wrap ((IntKind.i64.wrap (1 + (IntKind.i64.wrap (Int.tmod p0.Grain 20)))) + 1))) x16)
  else none
def g_ref14_Bend_Of_b0 (p1 : Tapi_Lift) (s1 : (Int × (List (List Int)))) : Option (Step (Int × (List (List Int))) (List (List Int))) :=
  if (decide (s1.1 < (p1.Rows.length : Int))) = true then
    (lkI p1.Rows s1.1).bind fun a4 =>
    if a4.length * 8 ≤ 140737488355328 then
      if (s1.2 ++ [a4]).length * 24 ≤ 140737488355328 then
        some (.next (IntKind.i64.wrap (s1.1 + 1), (s1.2 ++ [a4])))
      else none
    else none
  else
  some (.done s1.2)
def g_ref14_Bend_Of (p0 : Tharuspexref14_Bend) (p1 : Tapi_Lift) : Option Tapi_Lift :=
  (whileN fuel (g_ref14_Bend_Of_b0 p1) (0, ([] : List (List Int)))).bind fun x7 =>
  if (x7.length : Int) ≠ 0 then
    if ((Int.tmod p0.What 7) == 0) = true then
      some (Tapi_Lift.mk p0.N p1.Count p1.One x7)
    else
    if ((Int.tmod p0.What 7) == 1) = true then
      some (Tapi_Lift.mk p1.Grain p0.N p1.One x7)
    else
    if ((Int.tmod p0.What 7) == 2) = true then
      some (Tapi_Lift.mk p1.Grain p1.Count p0.N x7)
    else
    if ((Int.tmod p0.What 7) == 3) = true then
      (lkI x7 (Int.tmod (IntKind.i64.wrap (p0.J)) (x7.length : Int))).bind fun a16 =>
      if (a16.length : Int) ≠ 0 then
        (lkI a16 (Int.tmod (IntKind.i64.wrap (p0.At)) (a16.length : Int))).bind fun a18 =>
        some (Tapi_Lift.mk p1.Grain p1.Count p1.One (List.set x7 (Int.toNat (Int.tmod (IntKind.i64.wrap (p0.J)) (x7.length : Int))) (List.set a16 (Int.toNat (Int.tmod (IntKind.i64.wrap (p0.At)) (a16.length : Int))) p0.N)))
      else none
    else
    if ((Int.tmod p0.What 7) == 4) = true then
      if 0 ≤ (1 : Int) ∧ (1 : Int) ≤ (x7.length : Int) ∧ (x7.length : Int) ≤ (x7.length : Int) then
        some (Tapi_Lift.mk p1.Grain p1.Count p1.One (sub x7 1 (x7.length : Int)))
      else none
    else
    if ((Int.tmod p0.What 7) == 5) = true then
      (lkI x7 (Int.tmod (IntKind.i64.wrap (p0.J)) (x7.length : Int))).bind fun a26 =>
      if (a26 ++ ([0] : (List Int))).length * 8 ≤ 140737488355328 then
        some (Tapi_Lift.mk p1.Grain p1.Count p1.One (List.set (List.set x7 (Int.toNat (Int.tmod (IntKind.i64.wrap (p0.J)) (x7.length : Int))) ([] : List Int)) (Int.toNat (Int.tmod (IntKind.i64.wrap (p0.J)) (x7.length : Int))) (a26 ++ ([0] : (List Int)))))
      else none
    else
    (lkI x7 (Int.tmod (IntKind.i64.wrap (p0.J)) (x7.length : Int))).bind fun a30 =>
    if 0 ≤ (0 : Int) ∧ (0 : Int) ≤ (1 : Int) ∧ (1 : Int) ≤ (a30.length : Int) then
      some (Tapi_Lift.mk p1.Grain p1.Count p1.One (List.set (List.set x7 (Int.toNat (Int.tmod (IntKind.i64.wrap (p0.J)) (x7.length : Int))) ([] : List Int)) (Int.toNat (Int.tmod (IntKind.i64.wrap (p0.J)) (x7.length : Int))) (List.take (Int.toNat 1) a30)))
    else none
  else none
def g_law14_few_b0 (p0 : Tapi_Lift) (s1 : (Int × (List (List Int)))) : Option (Step (Int × (List (List Int))) (List (List Int))) :=
  if (decide (s1.1 < ((sub p0.Rows 0 (if 12 < (p0.Rows.length : Int) then 12 else (p0.Rows.length : Int))).length : Int))) = true then
    (lkI (sub p0.Rows 0 (if 12 < (p0.Rows.length : Int) then 12 else (p0.Rows.length : Int))) s1.1).bind fun a4 =>
    if 0 ≤ (0 : Int) ∧ (0 : Int) ≤ (if 6 < (a4.length : Int) then 6 else (a4.length : Int)) ∧ (if 6 < (a4.length : Int) then 6 else (a4.length : Int)) ≤ (a4.length : Int) then
      if (s1.2 ++ ([(sub a4 0 (if 6 < (a4.length : Int) then 6 else (a4.length : Int)))] : (List (List Int)))).length * 24 ≤ 140737488355328 then
        some (.next (IntKind.i64.wrap (s1.1 + 1), (s1.2 ++ ([(sub a4 0 (if 6 < (a4.length : Int) then 6 else (a4.length : Int)))] : (List (List Int))))))
      else none
    else none
  else
  some (.done s1.2)
def g_law14_few (p0 : Tapi_Lift) : Option Tapi_Lift :=
  if 0 ≤ (0 : Int) ∧ (0 : Int) ≤ (if 12 < (p0.Rows.length : Int) then 12 else (p0.Rows.length : Int)) ∧ (if 12 < (p0.Rows.length : Int) then 12 else (p0.Rows.length : Int)) ≤ (p0.Rows.length : Int) then
    (whileN fuel (g_law14_few_b0 p0) (0, ([] : (List (List Int))))).bind fun x7 =>
    some (Tapi_Lift.mk p0.Grain p0.Count p0.One x7)
  else none
def g_law14_models (p0 : Tharuspexref14_Draft) (p1 : Tharuspexref14_Bend) (p2 : Tapi_Lift) : Option (Tapi_Lift × Tapi_Lift × Tapi_Lift) :=
  (g_ref14_Draft_Lift p0).bind fun x1 =>
  (g_ref14_Bend_Of p1 x1).bind fun x3 =>
  (g_law14_few p2).bind fun x5 =>
  some (x1, x3, x5)
def g_ref14_Right_b0 (a18 : (List Int)) (s28 : (Int × Int)) : Option (Step (Int × Int) (Unit ⊕ Int)) :=
  if (decide (s28.2 < (a18.length : Int))) = true then
    (lkI a18 s28.2).bind fun a31 =>
    if (decide (a31 < 0)) = true then
      some (.done (Sum.inl ()))
    else
    if (decide (a31 > s28.1)) = true then
      some (.done (Sum.inl ()))
    else
    some (.next (IntKind.i64.wrap (s28.1 - a31), IntKind.i64.wrap (s28.2 + 1)))
  else
  some (.done (Sum.inr s28.1))
def g_ref14_Right_b1 (p0 : Tapi_Lift) (s15 : Int) : Option (Step Int (Unit ⊕ Unit)) :=
  if (decide (s15 < (p0.Rows.length : Int))) = true then
    (lkI p0.Rows s15).bind fun a18 =>
    if (decide ((a18.length : Int) < 2)) = true then
      some (.done (Sum.inl ()))
    else
    if (decide ((a18.length : Int) > 4)) = true then
      some (.done (Sum.inl ()))
    else
    (lkI p0.Rows 0).bind fun a24 =>
    if ((a18.length : Int) != (a24.length : Int)) = true then
      some (.done (Sum.inl ()))
    else
    (whileN fuel (g_ref14_Right_b0 a18) (p0.Grain, 0)).bind fun x37 => match x37 with
    | .inl x38 => (
      some (.done (Sum.inl ())))
    | .inr x39 => (
      if (x39 != 0) = true then
        some (.done (Sum.inl ()))
      else
      some (.next (IntKind.i64.wrap (s15 + 1))))
  else
  some (.done (Sum.inr ()))
def g_ref14_Right (p0 : Tapi_Lift) : Option Bool :=
  if (decide (p0.Grain < 1)) = true then
    some false
  else
  if (decide (p0.Grain > 20)) = true then
    some false
  else
  if (decide (p0.Count < 1)) = true then
    some false
  else
  if (decide (p0.Count > 10)) = true then
    some false
  else
  if (decide (p0.One < 0)) = true then
    some false
  else
  if (decide (p0.One > p0.Grain)) = true then
    some false
  else
  if ((p0.Rows.length : Int) != (IntKind.i64.wrap (p0.Count + 1))) = true then
    some false
  else
  (whileN fuel (g_ref14_Right_b1 p0) 0).bind fun x42 => match x42 with
  | .inl x43 => (
    some false)
  | .inr x44 => (
    some true)
def g_ref14_Errors (p0 : Tapi_Lift) (p1 : Int) (p2 : Int) (p3 : Int) : Option Int :=
  (g_ref14_Right p0).bind fun x1 =>
  if (!x1) = true then
    some 140
  else
  if (decide (p1 < 0)) = true then
    some 2
  else
  if (decide (p1 > p0.Count)) = true then
    some 2
  else
  if (decide (p2 < 0)) = true then
    some 2
  else
  if (decide (p2 > (IntKind.i64.wrap (p0.Count - p1)))) = true then
    some 2
  else
  if (decide (p3 < (-1))) = true then
    some 2
  else
  (lkI p0.Rows 0).bind fun a15 =>
  if (decide (p3 ≥ (a15.length : Int))) = true then
    some 2
  else
  some 0
def g_ref14_Total_b0 (p0 : (List Int)) (s1 : (Int × Int)) : Option (Step (Int × Int) Int) :=
  if (decide (s1.2 < (p0.length : Int))) = true then
    (lkI p0 s1.2).bind fun a4 =>
    some (.next (IntKind.i64.wrap (s1.1 + a4), IntKind.i64.wrap (s1.2 + 1)))
  else
  some (.done s1.1)
def g_ref14_Total (p0 : (List Int)) : Option Int :=
  (whileN fuel (g_ref14_Total_b0 p0) (0, 0)).bind fun x7 =>
  some x7
def g_ref14_Weights_b0 (p0 : Tapi_Lift) (s1 : (Int × (List Int))) (p1 : Int) (p2 : Int) (s4 : (Int × Int × Bool × Int)) : Option (Step (Int × Int × Bool × Int) (Int × Int × Bool)) :=
  if (decide (s4.2.2.2 < p0.Count)) = true then
    if 0 ≤ (IntKind.u64.wrap (s4.2.2.2)) then
      if ((Int.tmod (Int.fdiv s1.1 (2 ^ min (Int.toNat (IntKind.u64.wrap (s4.2.2.2))) (IntKind.bits .i64))) 2) == 1) = true then
        if s4.2.2.1 = true then
          some (.next (IntKind.i64.wrap (s4.1 + 1), IntKind.i64.wrap (s4.2.1 * p0.One), (decide (s4.2.2.2 ≥ p1)), IntKind.i64.wrap (s4.2.2.2 + 1)))
        else
        some (.next (IntKind.i64.wrap (s4.1 + 1), IntKind.i64.wrap (s4.2.1 * p0.One), false, IntKind.i64.wrap (s4.2.2.2 + 1)))
      else
      if s4.2.2.1 = true then
        if (decide (s4.2.2.2 < p1)) = true then
          some (.next (s4.1, IntKind.i64.wrap (s4.2.1 * (IntKind.i64.wrap (p0.Grain - p0.One))), true, IntKind.i64.wrap (s4.2.2.2 + 1)))
        else
        some (.next (s4.1, IntKind.i64.wrap (s4.2.1 * (IntKind.i64.wrap (p0.Grain - p0.One))), (decide (s4.2.2.2 ≥ (IntKind.i64.wrap (p1 + p2)))), IntKind.i64.wrap (s4.2.2.2 + 1)))
      else
      some (.next (s4.1, IntKind.i64.wrap (s4.2.1 * (IntKind.i64.wrap (p0.Grain - p0.One))), false, IntKind.i64.wrap (s4.2.2.2 + 1)))
    else none
  else
  some (.done (s4.1, s4.2.1, s4.2.2.1))
def g_ref14_Weights_b1 (p0 : Tapi_Lift) (p1 : Int) (p2 : Int) (p3 : Int) (s1 : (Int × (List Int))) : Option (Step (Int × (List Int)) (List Int)) :=
  if 0 ≤ (IntKind.u64.wrap (p0.Count)) then
    if (decide (s1.1 < (IntKind.i64.wrap (1 * 2 ^ min (Int.toNat (IntKind.u64.wrap (p0.Count))) (IntKind.bits .i64))))) = true then
      (whileN fuel (g_ref14_Weights_b0 p0 s1 p1 p2) (0, 1, true, 0)).bind fun x16 =>
      if (!x16.2.2) = true then
        some (.next (IntKind.i64.wrap (s1.1 + 1), s1.2))
      else
      if (p3 == (-1)) = true then
        (lkI s1.2 x16.1).bind fun a21 =>
        some (.next (IntKind.i64.wrap (s1.1 + 1), (List.set s1.2 (Int.toNat x16.1) (IntKind.i64.wrap (a21 + (IntKind.i64.wrap (x16.2.1 * p0.Grain)))))))
      else
      (lkI p0.Rows x16.1).bind fun a24 =>
      (lkI a24 p3).bind fun a26 =>
      (lkI s1.2 x16.1).bind fun a28 =>
      some (.next (IntKind.i64.wrap (s1.1 + 1), (List.set s1.2 (Int.toNat x16.1) (IntKind.i64.wrap (a28 + (IntKind.i64.wrap (x16.2.1 * a26)))))))
    else
    some (.done s1.2)
  else none
def g_ref14_Weights (p0 : Tapi_Lift) (p1 : Int) (p2 : Int) (p3 : Int) : Option (List Int) :=
  if 0 ≤ (IntKind.i64.wrap (p0.Count + 1)) ∧ (IntKind.i64.wrap (p0.Count + 1)) ≤ (IntKind.i64.wrap (p0.Count + 1)) ∧ (IntKind.i64.wrap (p0.Count + 1)) * 8 ≤ 140737488355328 then
    (whileN fuel (g_ref14_Weights_b1 p0 p1 p2 p3) (0, (List.replicate (Int.toNat (IntKind.i64.wrap (p0.Count + 1))) (0 : Int)))).bind fun x32 =>
    some x32
  else none
def g_ref14_Next (p0 : Tapi_Lift) (p1 : Int) (p2 : Int) (p3 : Int) : Option (Tapi_Q × Int) :=
  (g_ref14_Errors p0 p1 p2 p3).bind fun x1 =>
  if (x1 != 0) = true then
    some ((Tapi_Q.mk 0 0), x1)
  else
  if ((IntKind.i64.wrap (p1 + p2)) == p0.Count) = true then
    some ((Tapi_Q.mk 0 0), 4)
  else
  (g_ref14_Weights p0 p1 p2 p3).bind fun x7 =>
  (g_ref14_Total x7).bind fun x9 =>
  if (x9 == 0) = true then
    some ((Tapi_Q.mk 0 0), 7)
  else
  (g_ref14_Weights p0 p1 (IntKind.i64.wrap (p2 + 1)) p3).bind fun x13 =>
  (g_ref14_Total x13).bind fun x15 =>
  (g_ref01_Of x15 x9).bind fun x17 =>
  some (x17, 0)
def g_ref14_Shared_b0 (p0 : (List Int)) (s1 : (Int × (List Tapi_Q))) : Option (Step (Int × (List Tapi_Q)) (List Tapi_Q)) :=
  if (decide (s1.1 < (p0.length : Int))) = true then
    (lkI p0 s1.1).bind fun a4 =>
    (g_ref14_Total p0).bind fun x6 =>
    (g_ref01_Of a4 x6).bind fun x8 =>
    if (s1.2 ++ ([x8] : (List Tapi_Q))).length * 16 ≤ 140737488355328 then
      some (.next (IntKind.i64.wrap (s1.1 + 1), (s1.2 ++ ([x8] : (List Tapi_Q)))))
    else none
  else
  some (.done s1.2)
def g_ref14_Shared (p0 : (List Int)) : Option (List Tapi_Q) :=
  (whileN fuel (g_ref14_Shared_b0 p0) (0, ([] : (List Tapi_Q)))).bind fun x11 =>
  some x11
def g_ref14_Child_b0 (p0 : Tapi_Lift) (p1 : Int) (p2 : Int) (s5 : (Int × (List Int))) : Option (Step (Int × (List Int)) (List Int)) :=
  (lkI p0.Rows 0).bind fun a6 =>
  if (decide (s5.1 < (a6.length : Int))) = true then
    (g_ref14_Weights p0 p1 p2 s5.1).bind fun x10 =>
    (g_ref14_Total x10).bind fun x12 =>
    if (s5.2 ++ ([x12] : (List Int))).length * 8 ≤ 140737488355328 then
      some (.next (IntKind.i64.wrap (s5.1 + 1), (s5.2 ++ ([x12] : (List Int)))))
    else none
  else
  some (.done s5.2)
def g_ref14_Child (p0 : Tapi_Lift) (p1 : Int) (p2 : Int) : Option ((List Tapi_Q) × Int) :=
  (g_ref14_Errors p0 p1 p2 (-1)).bind fun x1 =>
  if (x1 != 0) = true then
    some (([] : (List Tapi_Q)), x1)
  else
  (whileN fuel (g_ref14_Child_b0 p0 p1 p2) (0, ([] : (List Int)))).bind fun x15 =>
  (g_ref14_Total x15).bind fun x16 =>
  if (x16 == 0) = true then
    some (([] : (List Tapi_Q)), 7)
  else
  (g_ref14_Shared x15).bind fun x20 =>
  some (x20, 0)
def g_law14_LiftNext_b0 (x5 : (Tapi_Lift × Tapi_Lift × Tapi_Lift)) (p3 : Tharuspexlaw14_Known) (x13 : Tharuspexlaw14_Known) (s15 : Int) : Option (Step Int (Unit ⊕ Unit)) :=
  if (decide (s15 < 2)) = true then
    if s15 = 0 then
      (g_lift_Next x5.1 p3.Zeros p3.Ones p3.Child).bind fun x19 =>
      (g_ref14_Next x5.1 p3.Zeros p3.Ones p3.Child).bind fun x21 =>
      (g_lift_Child x5.1 p3.Zeros p3.Ones).bind fun x23 =>
      (g_ref14_Child x5.1 p3.Zeros p3.Ones).bind fun x25 =>
      if (!((x19.1.N == x21.1.N) && ((x19.1.D == x21.1.D) && true))) = true then
        some (.done (Sum.inl ()))
      else
      if (x19.2 != x21.2) = true then
        some (.done (Sum.inl ()))
      else
      if (x23.2 != x25.2) = true then
        some (.done (Sum.inl ()))
      else
      (g_slices_Equal_api_Q_api_Q x23.1 x25.1).bind fun x33 =>
      if (!x33) = true then
        some (.done (Sum.inl ()))
      else
      some (.next 1)
    else
    if s15 = 1 then
      (g_lift_Next x5.1 x13.Zeros x13.Ones x13.Child).bind fun x38 =>
      (g_ref14_Next x5.1 x13.Zeros x13.Ones x13.Child).bind fun x40 =>
      (g_lift_Child x5.1 x13.Zeros x13.Ones).bind fun x42 =>
      (g_ref14_Child x5.1 x13.Zeros x13.Ones).bind fun x44 =>
      if (!((x38.1.N == x40.1.N) && ((x38.1.D == x40.1.D) && true))) = true then
        some (.done (Sum.inl ()))
      else
      if (x38.2 != x40.2) = true then
        some (.done (Sum.inl ()))
      else
      if (x42.2 != x44.2) = true then
        some (.done (Sum.inl ()))
      else
      (g_slices_Equal_api_Q_api_Q x42.1 x44.1).bind fun x52 =>
      if (!x52) = true then
        some (.done (Sum.inl ()))
      else
      some (.next 2)
    else
    none
  else
  some (.done (Sum.inr ()))
def g_law14_LiftNext_b1 (x5 : (Tapi_Lift × Tapi_Lift × Tapi_Lift)) (p3 : Tharuspexlaw14_Known) (x62 : Tharuspexlaw14_Known) (s64 : Int) : Option (Step Int (Unit ⊕ Unit)) :=
  if (decide (s64 < 2)) = true then
    if s64 = 0 then
      (g_lift_Next x5.2.1 p3.Zeros p3.Ones p3.Child).bind fun x68 =>
      (g_ref14_Next x5.2.1 p3.Zeros p3.Ones p3.Child).bind fun x70 =>
      (g_lift_Child x5.2.1 p3.Zeros p3.Ones).bind fun x72 =>
      (g_ref14_Child x5.2.1 p3.Zeros p3.Ones).bind fun x74 =>
      if (!((x68.1.N == x70.1.N) && ((x68.1.D == x70.1.D) && true))) = true then
        some (.done (Sum.inl ()))
      else
      if (x68.2 != x70.2) = true then
        some (.done (Sum.inl ()))
      else
      if (x72.2 != x74.2) = true then
        some (.done (Sum.inl ()))
      else
      (g_slices_Equal_api_Q_api_Q x72.1 x74.1).bind fun x82 =>
      if (!x82) = true then
        some (.done (Sum.inl ()))
      else
      some (.next 1)
    else
    if s64 = 1 then
      (g_lift_Next x5.2.1 x62.Zeros x62.Ones x62.Child).bind fun x87 =>
      (g_ref14_Next x5.2.1 x62.Zeros x62.Ones x62.Child).bind fun x89 =>
      (g_lift_Child x5.2.1 x62.Zeros x62.Ones).bind fun x91 =>
      (g_ref14_Child x5.2.1 x62.Zeros x62.Ones).bind fun x93 =>
      if (!((x87.1.N == x89.1.N) && ((x87.1.D == x89.1.D) && true))) = true then
        some (.done (Sum.inl ()))
      else
      if (x87.2 != x89.2) = true then
        some (.done (Sum.inl ()))
      else
      if (x91.2 != x93.2) = true then
        some (.done (Sum.inl ()))
      else
      (g_slices_Equal_api_Q_api_Q x91.1 x93.1).bind fun x101 =>
      if (!x101) = true then
        some (.done (Sum.inl ()))
      else
      some (.next 2)
    else
    none
  else
  some (.done (Sum.inr ()))
def g_law14_LiftNext_b2 (x5 : (Tapi_Lift × Tapi_Lift × Tapi_Lift)) (p3 : Tharuspexlaw14_Known) (x111 : Tharuspexlaw14_Known) (s113 : Int) : Option (Step Int (Unit ⊕ Unit)) :=
  if (decide (s113 < 2)) = true then
    if s113 = 0 then
      (g_lift_Next x5.2.2 p3.Zeros p3.Ones p3.Child).bind fun x117 =>
      (g_ref14_Next x5.2.2 p3.Zeros p3.Ones p3.Child).bind fun x119 =>
      (g_lift_Child x5.2.2 p3.Zeros p3.Ones).bind fun x121 =>
      (g_ref14_Child x5.2.2 p3.Zeros p3.Ones).bind fun x123 =>
      if (!((x117.1.N == x119.1.N) && ((x117.1.D == x119.1.D) && true))) = true then
        some (.done (Sum.inl ()))
      else
      if (x117.2 != x119.2) = true then
        some (.done (Sum.inl ()))
      else
      if (x121.2 != x123.2) = true then
        some (.done (Sum.inl ()))
      else
      (g_slices_Equal_api_Q_api_Q x121.1 x123.1).bind fun x131 =>
      if (!x131) = true then
        some (.done (Sum.inl ()))
      else
      some (.next 1)
    else
    if s113 = 1 then
      (g_lift_Next x5.2.2 x111.Zeros x111.Ones x111.Child).bind fun x136 =>
      (g_ref14_Next x5.2.2 x111.Zeros x111.Ones x111.Child).bind fun x138 =>
      (g_lift_Child x5.2.2 x111.Zeros x111.Ones).bind fun x140 =>
      (g_ref14_Child x5.2.2 x111.Zeros x111.Ones).bind fun x142 =>
      if (!((x136.1.N == x138.1.N) && ((x136.1.D == x138.1.D) && true))) = true then
        some (.done (Sum.inl ()))
      else
      if (x136.2 != x138.2) = true then
        some (.done (Sum.inl ()))
      else
      if (x140.2 != x142.2) = true then
        some (.done (Sum.inl ()))
      else
      (g_slices_Equal_api_Q_api_Q x140.1 x142.1).bind fun x150 =>
      if (!x150) = true then
        some (.done (Sum.inl ()))
      else
      some (.next 2)
    else
    none
  else
  some (.done (Sum.inr ()))
def g_law14_LiftNext_b3 (p0 : Tharuspexref14_Draft) (p3 : Tharuspexlaw14_Known) (x5 : (Tapi_Lift × Tapi_Lift × Tapi_Lift)) (s7 : Int) : Option (Step Int (Unit ⊕ Unit)) :=
  if (decide (s7 < 3)) = true then
    if s7 = 0 then
      (g_ref14_Draft_Lift p0).bind fun x11 =>
      (g_law14_Known_Of p3 x11).bind fun x13 =>
      (whileN fuel (g_law14_LiftNext_b0 x5 p3 x13) 0).bind fun x56 => match x56 with
      | .inl x57 => (
        some (.done (Sum.inl ())))
      | .inr x58 => (
        some (.next 1))
    else
    if s7 = 1 then
      (g_ref14_Draft_Lift p0).bind fun x60 =>
      (g_law14_Known_Of p3 x60).bind fun x62 =>
      (whileN fuel (g_law14_LiftNext_b1 x5 p3 x62) 0).bind fun x105 => match x105 with
      | .inl x106 => (
        some (.done (Sum.inl ())))
      | .inr x107 => (
        some (.next 2))
    else
    if s7 = 2 then
      (g_ref14_Draft_Lift p0).bind fun x109 =>
      (g_law14_Known_Of p3 x109).bind fun x111 =>
      (whileN fuel (g_law14_LiftNext_b2 x5 p3 x111) 0).bind fun x154 => match x154 with
      | .inl x155 => (
        some (.done (Sum.inl ())))
      | .inr x156 => (
        some (.next 3))
    else
    none
  else
  some (.done (Sum.inr ()))
def g_law14_LiftNext (p0 : Tharuspexref14_Draft) (p1 : Tharuspexref14_Bend) (p2 : Tapi_Lift) (p3 : Tharuspexlaw14_Known) : Option Bool :=
  (g_law14_wakes).bind fun x1 =>
  if (!x1) = true then
    some false
  else
  (g_law14_models p0 p1 p2).bind fun x5 =>
  (whileN fuel (g_law14_LiftNext_b3 p0 p3 x5) 0).bind fun x157 => match x157 with
  | .inl x158 => (
    some false)
  | .inr x159 => (
    some true)
def g_ref14_Whole_b0 (p0 : Tapi_Lift) (s1 : (Int × Int)) : Option (Step (Int × Int) Int) :=
  if (decide (s1.2 < p0.Count)) = true then
    some (.next (IntKind.i64.wrap (s1.1 * p0.Grain), IntKind.i64.wrap (s1.2 + 1)))
  else
  some (.done s1.1)
def g_ref14_Whole (p0 : Tapi_Lift) : Option Int :=
  (whileN fuel (g_ref14_Whole_b0 p0) (p0.Grain, 0)).bind fun x5 =>
  some x5
def g_ref14_Prob (p0 : Tapi_Lift) (p1 : Int) (p2 : Int) (p3 : Int) : Option (Tapi_Q × Int) :=
  (g_ref14_Errors p0 p1 p2 p3).bind fun x1 =>
  if (x1 != 0) = true then
    some ((Tapi_Q.mk 0 0), x1)
  else
  (g_ref14_Weights p0 p1 p2 p3).bind fun x5 =>
  (g_ref14_Total x5).bind fun x7 =>
  (g_ref14_Whole p0).bind fun x9 =>
  (g_ref01_Of x7 x9).bind fun x11 =>
  some (x11, 0)
def g_ref14_Ones (p0 : Tapi_Lift) (p1 : Int) (p2 : Int) (p3 : Int) : Option ((List Tapi_Q) × Int) :=
  (g_ref14_Errors p0 p1 p2 p3).bind fun x1 =>
  if (x1 != 0) = true then
    some (([] : (List Tapi_Q)), x1)
  else
  (g_ref14_Weights p0 p1 p2 p3).bind fun x5 =>
  (g_ref14_Total x5).bind fun x7 =>
  if (x7 == 0) = true then
    some (([] : (List Tapi_Q)), 7)
  else
  (g_ref14_Shared x5).bind fun x11 =>
  some (x11, 0)
def g_law14_LiftCounts_b0 (x5 : (Tapi_Lift × Tapi_Lift × Tapi_Lift)) (p3 : Tharuspexlaw14_Known) (x13 : Tharuspexlaw14_Known) (s15 : Int) : Option (Step Int (Unit ⊕ Unit)) :=
  if (decide (s15 < 2)) = true then
    if s15 = 0 then
      (g_lift_Prob x5.1 p3.Zeros p3.Ones p3.Child).bind fun x19 =>
      (g_ref14_Prob x5.1 p3.Zeros p3.Ones p3.Child).bind fun x21 =>
      (g_lift_Ones x5.1 p3.Zeros p3.Ones p3.Child).bind fun x23 =>
      (g_ref14_Ones x5.1 p3.Zeros p3.Ones p3.Child).bind fun x25 =>
      if (!((x19.1.N == x21.1.N) && ((x19.1.D == x21.1.D) && true))) = true then
        some (.done (Sum.inl ()))
      else
      if (x19.2 != x21.2) = true then
        some (.done (Sum.inl ()))
      else
      if (x23.2 != x25.2) = true then
        some (.done (Sum.inl ()))
      else
      (g_slices_Equal_api_Q_api_Q x23.1 x25.1).bind fun x33 =>
      if (!x33) = true then
        some (.done (Sum.inl ()))
      else
      some (.next 1)
    else
    if s15 = 1 then
      (g_lift_Prob x5.1 x13.Zeros x13.Ones x13.Child).bind fun x38 =>
      (g_ref14_Prob x5.1 x13.Zeros x13.Ones x13.Child).bind fun x40 =>
      (g_lift_Ones x5.1 x13.Zeros x13.Ones x13.Child).bind fun x42 =>
      (g_ref14_Ones x5.1 x13.Zeros x13.Ones x13.Child).bind fun x44 =>
      if (!((x38.1.N == x40.1.N) && ((x38.1.D == x40.1.D) && true))) = true then
        some (.done (Sum.inl ()))
      else
      if (x38.2 != x40.2) = true then
        some (.done (Sum.inl ()))
      else
      if (x42.2 != x44.2) = true then
        some (.done (Sum.inl ()))
      else
      (g_slices_Equal_api_Q_api_Q x42.1 x44.1).bind fun x52 =>
      if (!x52) = true then
        some (.done (Sum.inl ()))
      else
      some (.next 2)
    else
    none
  else
  some (.done (Sum.inr ()))
def g_law14_LiftCounts_b1 (x5 : (Tapi_Lift × Tapi_Lift × Tapi_Lift)) (p3 : Tharuspexlaw14_Known) (x62 : Tharuspexlaw14_Known) (s64 : Int) : Option (Step Int (Unit ⊕ Unit)) :=
  if (decide (s64 < 2)) = true then
    if s64 = 0 then
      (g_lift_Prob x5.2.1 p3.Zeros p3.Ones p3.Child).bind fun x68 =>
      (g_ref14_Prob x5.2.1 p3.Zeros p3.Ones p3.Child).bind fun x70 =>
      (g_lift_Ones x5.2.1 p3.Zeros p3.Ones p3.Child).bind fun x72 =>
      (g_ref14_Ones x5.2.1 p3.Zeros p3.Ones p3.Child).bind fun x74 =>
      if (!((x68.1.N == x70.1.N) && ((x68.1.D == x70.1.D) && true))) = true then
        some (.done (Sum.inl ()))
      else
      if (x68.2 != x70.2) = true then
        some (.done (Sum.inl ()))
      else
      if (x72.2 != x74.2) = true then
        some (.done (Sum.inl ()))
      else
      (g_slices_Equal_api_Q_api_Q x72.1 x74.1).bind fun x82 =>
      if (!x82) = true then
        some (.done (Sum.inl ()))
      else
      some (.next 1)
    else
    if s64 = 1 then
      (g_lift_Prob x5.2.1 x62.Zeros x62.Ones x62.Child).bind fun x87 =>
      (g_ref14_Prob x5.2.1 x62.Zeros x62.Ones x62.Child).bind fun x89 =>
      (g_lift_Ones x5.2.1 x62.Zeros x62.Ones x62.Child).bind fun x91 =>
      (g_ref14_Ones x5.2.1 x62.Zeros x62.Ones x62.Child).bind fun x93 =>
      if (!((x87.1.N == x89.1.N) && ((x87.1.D == x89.1.D) && true))) = true then
        some (.done (Sum.inl ()))
      else
      if (x87.2 != x89.2) = true then
        some (.done (Sum.inl ()))
      else
      if (x91.2 != x93.2) = true then
        some (.done (Sum.inl ()))
      else
      (g_slices_Equal_api_Q_api_Q x91.1 x93.1).bind fun x101 =>
      if (!x101) = true then
        some (.done (Sum.inl ()))
      else
      some (.next 2)
    else
    none
  else
  some (.done (Sum.inr ()))
def g_law14_LiftCounts_b2 (x5 : (Tapi_Lift × Tapi_Lift × Tapi_Lift)) (p3 : Tharuspexlaw14_Known) (x111 : Tharuspexlaw14_Known) (s113 : Int) : Option (Step Int (Unit ⊕ Unit)) :=
  if (decide (s113 < 2)) = true then
    if s113 = 0 then
      (g_lift_Prob x5.2.2 p3.Zeros p3.Ones p3.Child).bind fun x117 =>
      (g_ref14_Prob x5.2.2 p3.Zeros p3.Ones p3.Child).bind fun x119 =>
      (g_lift_Ones x5.2.2 p3.Zeros p3.Ones p3.Child).bind fun x121 =>
      (g_ref14_Ones x5.2.2 p3.Zeros p3.Ones p3.Child).bind fun x123 =>
      if (!((x117.1.N == x119.1.N) && ((x117.1.D == x119.1.D) && true))) = true then
        some (.done (Sum.inl ()))
      else
      if (x117.2 != x119.2) = true then
        some (.done (Sum.inl ()))
      else
      if (x121.2 != x123.2) = true then
        some (.done (Sum.inl ()))
      else
      (g_slices_Equal_api_Q_api_Q x121.1 x123.1).bind fun x131 =>
      if (!x131) = true then
        some (.done (Sum.inl ()))
      else
      some (.next 1)
    else
    if s113 = 1 then
      (g_lift_Prob x5.2.2 x111.Zeros x111.Ones x111.Child).bind fun x136 =>
      (g_ref14_Prob x5.2.2 x111.Zeros x111.Ones x111.Child).bind fun x138 =>
      (g_lift_Ones x5.2.2 x111.Zeros x111.Ones x111.Child).bind fun x140 =>
      (g_ref14_Ones x5.2.2 x111.Zeros x111.Ones x111.Child).bind fun x142 =>
      if (!((x136.1.N == x138.1.N) && ((x136.1.D == x138.1.D) && true))) = true then
        some (.done (Sum.inl ()))
      else
      if (x136.2 != x138.2) = true then
        some (.done (Sum.inl ()))
      else
      if (x140.2 != x142.2) = true then
        some (.done (Sum.inl ()))
      else
      (g_slices_Equal_api_Q_api_Q x140.1 x142.1).bind fun x150 =>
      if (!x150) = true then
        some (.done (Sum.inl ()))
      else
      some (.next 2)
    else
    none
  else
  some (.done (Sum.inr ()))
def g_law14_LiftCounts_b3 (p0 : Tharuspexref14_Draft) (p3 : Tharuspexlaw14_Known) (x5 : (Tapi_Lift × Tapi_Lift × Tapi_Lift)) (s7 : Int) : Option (Step Int (Unit ⊕ Unit)) :=
  if (decide (s7 < 3)) = true then
    if s7 = 0 then
      (g_ref14_Draft_Lift p0).bind fun x11 =>
      (g_law14_Known_Of p3 x11).bind fun x13 =>
      (whileN fuel (g_law14_LiftCounts_b0 x5 p3 x13) 0).bind fun x56 => match x56 with
      | .inl x57 => (
        some (.done (Sum.inl ())))
      | .inr x58 => (
        some (.next 1))
    else
    if s7 = 1 then
      (g_ref14_Draft_Lift p0).bind fun x60 =>
      (g_law14_Known_Of p3 x60).bind fun x62 =>
      (whileN fuel (g_law14_LiftCounts_b1 x5 p3 x62) 0).bind fun x105 => match x105 with
      | .inl x106 => (
        some (.done (Sum.inl ())))
      | .inr x107 => (
        some (.next 2))
    else
    if s7 = 2 then
      (g_ref14_Draft_Lift p0).bind fun x109 =>
      (g_law14_Known_Of p3 x109).bind fun x111 =>
      (whileN fuel (g_law14_LiftCounts_b2 x5 p3 x111) 0).bind fun x154 => match x154 with
      | .inl x155 => (
        some (.done (Sum.inl ())))
      | .inr x156 => (
        some (.next 3))
    else
    none
  else
  some (.done (Sum.inr ()))
def g_law14_LiftCounts (p0 : Tharuspexref14_Draft) (p1 : Tharuspexref14_Bend) (p2 : Tapi_Lift) (p3 : Tharuspexlaw14_Known) : Option Bool :=
  (g_law14_wakes).bind fun x1 =>
  if (!x1) = true then
    some false
  else
  (g_law14_models p0 p1 p2).bind fun x5 =>
  (whileN fuel (g_law14_LiftCounts_b3 p0 p3 x5) 0).bind fun x157 => match x157 with
  | .inl x158 => (
    some false)
  | .inr x159 => (
    some true)
def g_ref01_plus_b0 (p0 : (List Int)) (p1 : (List Int)) (s1 : (Int × Int × (List Int))) : Option (Step (Int × Int × (List Int)) (List Int)) :=
  if (decide (s1.2.1 < (p0.length : Int))) = true then
    (lkI p0 s1.2.1).bind fun a5 =>
    if (decide (s1.2.1 < (p1.length : Int))) = true then
      (lkI p1 s1.2.1).bind fun a9 =>
      if (s1.2.2 ++ ([Int.tmod (IntKind.i64.wrap ((IntKind.i64.wrap (s1.1 + a5)) + a9)) 10000] : (List Int))).length * 8 ≤ 140737488355328 then
        some (.next (IntKind.i64.wrap (Int.tdiv (IntKind.i64.wrap ((IntKind.i64.wrap (s1.1 + a5)) + a9)) 10000), IntKind.i64.wrap (s1.2.1 + 1), (s1.2.2 ++ ([Int.tmod (IntKind.i64.wrap ((IntKind.i64.wrap (s1.1 + a5)) + a9)) 10000] : (List Int)))))
      else none
    else
    if (s1.2.2 ++ ([Int.tmod (IntKind.i64.wrap (s1.1 + a5)) 10000] : (List Int))).length * 8 ≤ 140737488355328 then
      some (.next (IntKind.i64.wrap (Int.tdiv (IntKind.i64.wrap (s1.1 + a5)) 10000), IntKind.i64.wrap (s1.2.1 + 1), (s1.2.2 ++ ([Int.tmod (IntKind.i64.wrap (s1.1 + a5)) 10000] : (List Int)))))
    else none
  else
  if (decide (s1.2.1 < (p1.length : Int))) = true then
    (lkI p1 s1.2.1).bind fun a15 =>
    if (s1.2.2 ++ ([Int.tmod (IntKind.i64.wrap (s1.1 + a15)) 10000] : (List Int))).length * 8 ≤ 140737488355328 then
      some (.next (IntKind.i64.wrap (Int.tdiv (IntKind.i64.wrap (s1.1 + a15)) 10000), IntKind.i64.wrap (s1.2.1 + 1), (s1.2.2 ++ ([Int.tmod (IntKind.i64.wrap (s1.1 + a15)) 10000] : (List Int)))))
    else none
  else
  if (decide (s1.1 > 0)) = true then
    if (s1.2.2 ++ ([Int.tmod s1.1 10000] : (List Int))).length * 8 ≤ 140737488355328 then
      some (.next (IntKind.i64.wrap (Int.tdiv s1.1 10000), IntKind.i64.wrap (s1.2.1 + 1), (s1.2.2 ++ ([Int.tmod s1.1 10000] : (List Int)))))
    else none
  else
  some (.done s1.2.2)
def g_ref01_plus (p0 : (List Int)) (p1 : (List Int)) : Option (List Int) :=
  (whileN fuel (g_ref01_plus_b0 p0 p1) (0, 0, ([] : (List Int)))).bind fun x22 =>
  some x22
end Go.Ab
namespace Go.Ab
open Go Go.Proofs
set_option maxRecDepth 100000
set_option maxHeartbeats 4000000
theorem hfol : (Try.prog.follows .mixedOrders) = true := by kernel_rfl
theorem bodyB_10 : bodyB Try.prog 10 = true := by kernel_rfl
theorem bodyB_11 : bodyB Try.prog 11 = true := by kernel_rfl
theorem bodyB_12 : bodyB Try.prog 12 = true := by kernel_rfl
theorem bodyB_13 : bodyB Try.prog 13 = true := by kernel_rfl
theorem bodyB_14 : bodyB Try.prog 14 = true := by kernel_rfl
theorem bodyB_17 : bodyB Try.prog 17 = true := by kernel_rfl
theorem bodyB_18 : bodyB Try.prog 18 = true := by kernel_rfl
theorem bodyB_19 : bodyB Try.prog 19 = true := by kernel_rfl
theorem bodyB_20 : bodyB Try.prog 20 = true := by kernel_rfl
theorem bodyB_21 : bodyB Try.prog 21 = true := by kernel_rfl
theorem bodyB_22 : bodyB Try.prog 22 = true := by kernel_rfl
theorem bodyB_23 : bodyB Try.prog 23 = true := by kernel_rfl
theorem bodyB_24 : bodyB Try.prog 24 = true := by kernel_rfl
theorem bodyB_26 : bodyB Try.prog 26 = true := by kernel_rfl
theorem bodyB_28 : bodyB Try.prog 28 = true := by kernel_rfl
theorem bodyB_32 : bodyB Try.prog 32 = true := by kernel_rfl
theorem bodyB_33 : bodyB Try.prog 33 = true := by kernel_rfl
theorem bodyB_34 : bodyB Try.prog 34 = true := by kernel_rfl
theorem bodyB_38 : bodyB Try.prog 38 = true := by kernel_rfl
theorem bodyB_41 : bodyB Try.prog 41 = true := by kernel_rfl
theorem bodyB_43 : bodyB Try.prog 43 = true := by kernel_rfl
theorem bodyB_44 : bodyB Try.prog 44 = true := by kernel_rfl
theorem bodyB_45 : bodyB Try.prog 45 = true := by kernel_rfl
theorem bodyB_46 : bodyB Try.prog 46 = true := by kernel_rfl
theorem bodyB_47 : bodyB Try.prog 47 = true := by kernel_rfl
theorem bodyB_48 : bodyB Try.prog 48 = true := by kernel_rfl
theorem bodyB_49 : bodyB Try.prog 49 = true := by kernel_rfl
theorem bodyB_50 : bodyB Try.prog 50 = true := by kernel_rfl
theorem bodyB_52 : bodyB Try.prog 52 = true := by kernel_rfl
theorem bodyB_53 : bodyB Try.prog 53 = true := by kernel_rfl
theorem bodyB_54 : bodyB Try.prog 54 = true := by kernel_rfl
theorem bodyB_55 : bodyB Try.prog 55 = true := by kernel_rfl
theorem bodyB_56 : bodyB Try.prog 56 = true := by kernel_rfl
theorem bodyB_57 : bodyB Try.prog 57 = true := by kernel_rfl
theorem bodyB_58 : bodyB Try.prog 58 = true := by kernel_rfl
theorem bodyB_59 : bodyB Try.prog 59 = true := by kernel_rfl
theorem bodyB_60 : bodyB Try.prog 60 = true := by kernel_rfl
theorem bodyB_62 : bodyB Try.prog 62 = true := by kernel_rfl
theorem bodyB_70 : bodyB Try.prog 70 = true := by kernel_rfl
theorem bodyB_72 : bodyB Try.prog 72 = true := by kernel_rfl
theorem bodyB_73 : bodyB Try.prog 73 = true := by kernel_rfl
theorem bodyB_74 : bodyB Try.prog 74 = true := by kernel_rfl
theorem bodyB_75 : bodyB Try.prog 75 = true := by kernel_rfl
theorem bodyB_76 : bodyB Try.prog 76 = true := by kernel_rfl
noncomputable abbrev s14_2 (p0 : Tapi_Lift) : List AObj := [oX true false 4 (.agg [vI p0.Grain, vI p0.Count, vI p0.One, eL false (eL true eI) p0.Rows])]
noncomputable abbrev s14_25 (a15 : (List Int)) (s28 : (Int × Int)) (p0 : Tapi_Lift) (s21 : Int) (a24 : (List Int)) : List (Nat × AV) := [(1, .ptr 0 0 0), (3, vI (a15.length : Int)), (6, vI s28.1), (60, eL false (eL true eI) p0.Rows), (61, vI (p0.Rows.length : Int)), (62, vI s21), (72, eL true eI a24), (73, vI (a24.length : Int)), (74, vI s28.2)]
theorem g_lift_Check_ok (p0 : Tapi_Lift) (x : Int) (h : g_lift_Check p0 = some x) : CallOk Try.prog 14 [.agg [vI p0.Grain, vI p0.Count, vI p0.One, eL false (eL true eI) p0.Rows]] (.ret (vI x) []) := by
  refine fn_ok [] Try.func14 rfl (by decide +kernel) rfl ?_
  unfold g_lift_Check at h
  refine wp_eqB (base' := 0) (st' := ⟨[(0, .agg [vI p0.Grain, vI p0.Count, vI p0.One, eL false (eL true eI) p0.Rows])], [], 92⟩) rfl (by kernel_rfl) ?_
  refine wp_seq (reg_in ?_)
  refine sl false [] [] false rfl ?_
  refine sz 1 2 (reg_end rfl (wp_seq (wp_seq (reg_in (sz 4 4 (rwg [1, 12] [0] ?_))))))
  refine rbr (S := fun b1 => ⟨[(1, .ptr 0 0 0), (12, vB b1)], (s14_2 p0), 92⟩) h (fun q2 h => ?_) (fun q2 h => ?_)
  · refine sz 35 39 (reg_end rfl (wcT (wp_seq (wg [] [] (rn (wg [2] [] ?_))))))
    cases h
    exact wp_ret (show fnOut _ _ _ _ = _ from by kernel_rfl)
  refine sz 5 9 (rwg [1, 17] [0] ?_)
  refine rbr (S := fun b3 => ⟨[(1, .ptr 0 0 0), (17, vB b3)], (s14_2 p0), 92⟩) h (fun q4 h => ?_) (fun q4 h => ?_)
  · refine sz 30 39 (reg_end rfl (wcT (wp_seq (wg [] [] (rn (wg [2] [] ?_))))))
    cases h
    exact wp_ret (show fnOut _ _ _ _ = _ from by kernel_rfl)
  refine sz 5 14 (rwg [1, 22] [0] ?_)
  refine rbr (S := fun b5 => ⟨[(1, .ptr 0 0 0), (22, vB b5)], (s14_2 p0), 92⟩) h (fun q6 h => ?_) (fun q6 h => ?_)
  · refine sz 25 39 (reg_end rfl (wcT (wp_seq (wg [] [] (rn (wg [2] [] ?_))))))
    cases h
    exact wp_ret (show fnOut _ _ _ _ = _ from by kernel_rfl)
  refine sz 5 19 (rwg [1, 27] [0] ?_)
  refine rbr (S := fun b7 => ⟨[(1, .ptr 0 0 0), (27, vB b7)], (s14_2 p0), 92⟩) h (fun q8 h => ?_) (fun q8 h => ?_)
  · refine sz 20 39 (reg_end rfl (wcT (wp_seq (wg [] [] (rn (wg [2] [] ?_))))))
    cases h
    exact wp_ret (show fnOut _ _ _ _ = _ from by kernel_rfl)
  refine sz 5 24 (rwg [1, 32] [0] ?_)
  refine rbr (S := fun b9 => ⟨[(1, .ptr 0 0 0), (32, vB b9)], (s14_2 p0), 92⟩) h (fun q10 h => ?_) (fun q10 h => ?_)
  · refine sz 15 39 (reg_end rfl (wcT (wp_seq (wg [] [] (rn (wg [2] [] ?_))))))
    cases h
    exact wp_ret (show fnOut _ _ _ _ = _ from by kernel_rfl)
  refine sz 7 31 (rwg [1, 39] [0] ?_)
  refine rbr (S := fun b11 => ⟨[(1, .ptr 0 0 0), (39, vB b11)], (s14_2 p0), 92⟩) h (fun q12 h => ?_) (fun q12 h => ?_)
  · refine sz 8 39 (reg_end rfl (wcT (wp_seq (wg [] [] (rn (wg [2] [] ?_))))))
    cases h
    exact wp_ret (show fnOut _ _ _ _ = _ from by kernel_rfl)
  refine sz 2 33 ?_
  refine lenZ (enc := (eL true eI)) (l := p0.Rows) (fl := false) (by kernel_rfl) ?_
  refine sz 5 39 (reg_end rfl ?_)
  refine wbz h (fun q14 h => ?_) (fun q14 h => ?_)
  · refine wp_seq (wg [] [] (rn (wg [2] [] ?_)))
    cases h
    exact wp_ret (show fnOut _ _ _ _ = _ from by kernel_rfl)
  refine wp_skip (wp_seq (wg [1] [0] (reg_in (sz 2 2 ?_))))
  refine bind_elim h (fun a15 q16 h => ?_)
  refine idxZ (enc := (eL true eI)) (l := p0.Rows) (n := 0) (fl := false) (w := 1) (a := a15) (by kernel_rfl) q16 ?_
  refine sz 1 4 ?_
  refine lenZ (enc := eI) (l := a15) (fl := true) (by kernel_rfl) ?_
  refine sz 1 6 (reg_end rfl (wp_seq (wp_seq ?_)))
  refine wgc [1, 3] [0] ⟨[(1, .ptr 0 0 0), (3, vI (a15.length : Int))], (s14_2 p0), 92⟩ ?_
  refine reg_in (sz 3 3 ?_)
  refine rbr (S := fun b17 => ⟨[(1, .ptr 0 0 0), (3, vI (a15.length : Int)), (53, vI (a15.length : Int)), (54, vB b17), (55, vB b17)], (s14_2 p0), 92⟩) h (fun q18 h => ?_) (fun q18 h => ?_)
  · refine sz 3 6 (reg_end rfl (wcT (wp_seq (wg [] [] (rn (wg [2] [] ?_))))))
    cases h
    exact wp_ret (show fnOut _ _ _ _ = _ from by kernel_rfl)
  refine sz 3 6 (reg_end rfl ?_)
  refine wbz h (fun q20 h => ?_) (fun q20 h => ?_)
  · refine wp_seq (wg [] [] (rn (wg [2] [] ?_)))
    cases h
    exact wp_ret (show fnOut _ _ _ _ = _ from by kernel_rfl)
  refine wp_skip (wp_seq (wp_seq (wg [1, 3] [0] (reg_in (sz 2 2 ?_)))))
  refine lenZ (enc := (eL true eI)) (l := p0.Rows) (fl := false) (by kernel_rfl) ?_
  refine sz 1 4 (reg_end rfl (wp_block ?_))
  refine wwh h (fun s21 => ⟨[(1, .ptr 0 0 0), (3, vI (a15.length : Int)), (60, eL false (eL true eI) p0.Rows), (61, vI (p0.Rows.length : Int)), (62, vI s21)], (s14_2 p0), 92⟩) (fun x out => out = match x with | .inl v => .go (.ret) ⟨[(2, vI 140)], [], 92⟩ | .inr v => .go (.exit 0) ⟨[], [], 92⟩) (wk_gc (live := [1, 3, 60, 61, 62]) (keep := [0]) (by kernel_rfl)) ?_ ?_
  · intro s21 o h
    unfold g_lift_Check_b1 at h
    refine sq (wp_seq ?_)
    refine wbr (S := fun b22 => ⟨[(1, .ptr 0 0 0), (3, vI (a15.length : Int)), (60, eL false (eL true eI) p0.Rows), (61, vI (p0.Rows.length : Int)), (62, vI s21)] ++ [(63, vB b22)], (s14_2 p0), 92⟩) h (fun q23 h => ?_) (fun q23 h => ?_)
    · refine wcT (wp_skip (wp_seq (wp_block (wp_seq (reg_in ?_)))))
      refine bind_elim h (fun a24 q25 h => ?_)
      refine idxZ (enc := (eL true eI)) (l := p0.Rows) (n := s21) (fl := false) (w := 1) (a := a24) (by kernel_rfl) q25 ?_
      refine sz 2 3 (reg_end rfl (wp_seq (wp_seq (reg_in (sz 1 1 ?_)))))
      refine lenZ (enc := eI) (l := a24) (fl := true) (by kernel_rfl) ?_
      refine sz 2 4 (reg_end rfl ?_)
      refine wbz h (fun q27 h => ?_) (fun q27 h => ?_)
      · refine wp_seq (wg [] [] (rn ?_))
        refine wgc [2] [] ⟨[(2, vI 140)], [], 92⟩ ?_
        refine wp_ret ?_
        cases h
        exact ⟨rfl, rfl⟩
      refine wp_skip (wp_seq (wg [1, 3, 60, 61, 62, 5] [0] (rn (wp_seq (wp_seq (reg_in (sz 1 1 ?_)))))))
      refine lenZ (enc := eI) (l := a24) (fl := true) (by kernel_rfl) ?_
      refine sz 1 3 (reg_end rfl (wp_block ?_))
      refine wwh h (fun s28 => ⟨(s14_25 a15 s28 p0 s21 a24), (s14_2 p0), 92⟩) (fun x out => out = match x with | .inl v => .go (.ret) ⟨[(2, vI 140)], [], 92⟩ | .inr v => .go (.exit 2) ⟨[(1, .ptr 0 0 0), (3, vI (a15.length : Int)), (6, vI v), (60, eL false (eL true eI) p0.Rows), (61, vI (p0.Rows.length : Int)), (62, vI s21)], (s14_2 p0), 92⟩) (wk_gc (live := [1, 3, 6, 60, 61, 62, 72, 73, 74]) (keep := [0]) (by kernel_rfl)) ?_ ?_
      · intro s28 o h
        unfold g_lift_Check_b0 at h
        refine sq (wp_seq ?_)
        refine wbr (S := fun b29 => ⟨(s14_25 a15 s28 p0 s21 a24) ++ [(75, vB b29)], (s14_2 p0), 92⟩) h (fun q30 h => ?_) (fun q30 h => ?_)
        · refine wcT (wp_skip (wp_seq (wp_block (wp_seq (reg_in ?_)))))
          refine bind_elim h (fun a31 q32 h => ?_)
          refine idxZ (enc := eI) (l := a24) (n := s28.2) (fl := true) (w := 1) (a := a31) (by kernel_rfl) q32 ?_
          refine sz 2 3 (reg_end rfl (wp_seq (wp_seq (reg_in (sz 3 3 (rwg [1, 3, 6, 60, 61, 62, 72, 73, 74, 8, 80] [0] ?_))))))
          refine rbr (S := fun b33 => ⟨[(1, .ptr 0 0 0), (3, vI (a15.length : Int)), (6, vI s28.1), (60, eL false (eL true eI) p0.Rows), (61, vI (p0.Rows.length : Int)), (62, vI s21), (72, eL true eI a24), (73, vI (a24.length : Int)), (74, vI s28.2), (8, vI a31)] ++ [(80, vB b33)], (s14_2 p0), 92⟩) h (fun q34 h => ?_) (fun q34 h => ?_)
          · refine sz 4 7 (reg_end rfl (wcT (wp_seq (wg [] [] (rn ?_)))))
            refine wgc [2] [] ⟨[(2, vI 140)], [], 92⟩ ?_
            refine wp_ret ?_
            cases h
            exact ⟨rfl, rfl⟩
          refine sz 4 7 (reg_end rfl ?_)
          refine wbz h (fun q36 h => ?_) (fun q36 h => ?_)
          · refine wp_seq (wg [] [] (rn ?_))
            refine wgc [2] [] ⟨[(2, vI 140)], [], 92⟩ ?_
            refine wp_ret ?_
            cases h
            exact ⟨rfl, rfl⟩
          refine wp_skip (wg [1, 3, 6, 60, 61, 62, 72, 73, 74, 8] [0] (rn (rn ?_)))
          cases h
          exact ⟨_, rfl, (wk_gc (live := [1, 3, 6, 60, 61, 62, 72, 73, 74]) (keep := [0]) (by kernel_rfl))⟩
        refine wcF ?_
        refine wgc [1, 3, 6, 60, 61, 62] [0] ⟨[(1, .ptr 0 0 0), (3, vI (a15.length : Int)), (6, vI s28.1), (60, eL false (eL true eI) p0.Rows), (61, vI (p0.Rows.length : Int)), (62, vI s21)], (s14_2 p0), 92⟩ ?_
        refine wp_exit ?_
        cases h
        exact ⟨rfl, rfl⟩
      intro x37 h out hx
      subst hx
      rcases x37 with x38 | x39
      · dsimp only at h ⊢
        cases h
        exact ⟨rfl, rfl⟩
      · dsimp only at h ⊢
        refine sq ?_
        refine wbr (S := fun b40 => ⟨[(1, .ptr 0 0 0), (3, vI (a15.length : Int)), (6, vI x39), (60, eL false (eL true eI) p0.Rows), (61, vI (p0.Rows.length : Int)), (62, vI s21)] ++ [(89, vI x39), (90, vB b40)], (s14_2 p0), 92⟩) h (fun q41 h => ?_) (fun q41 h => ?_)
        · refine wcT (wp_seq (wg [] [] (rn ?_)))
          refine wgc [2] [] ⟨[(2, vI 140)], [], 92⟩ ?_
          refine wp_ret ?_
          cases h
          exact ⟨rfl, rfl⟩
        refine wcF (wp_skip (rn ?_))
        cases h
        exact ⟨_, rfl, (wk_gc (live := [1, 3, 60, 61, 62]) (keep := [0]) (by kernel_rfl))⟩
    refine wcF ?_
    refine wgc [] [] ⟨[], [], 92⟩ ?_
    refine wp_exit ?_
    cases h
    exact ⟨rfl, rfl⟩
  intro x42 h out hx
  subst hx
  rcases x42 with x43 | x44
  · dsimp only at h ⊢
    cases h
    show fnOut _ _ _ _ = _
    kernel_rfl
  · dsimp only at h ⊢
    refine sq (wg [2] [] ?_)
    cases h
    exact wp_ret (show fnOut _ _ _ _ = _ from by kernel_rfl)
noncomputable abbrev s13_2 (p0 : Tapi_Lift) : List AObj := [oX true false 4 (.agg [vI p0.Grain, vI p0.Count, vI p0.One, eL false (eL true eI) p0.Rows]), oX true false 2 (.agg [vI 0, .nils])]
noncomputable abbrev s13_6 (p0 : Tapi_Lift) (a7 : (List Int)) : List AObj := [oX true false 4 (.agg [vI p0.Grain, vI p0.Count, vI p0.One, eL false (eL true eI) p0.Rows]), oX true false 2 (.agg [vI 0, .nils]), oX true false 2 (.agg [vI p0.Grain, .nils]), oX true false 3 (.agg [vI (a7.length : Int), .nils, .nils]), oR true 1 eI (List.replicate (Int.toNat p0.Count) (0 : Int))]
noncomputable abbrev s13_10 (p0 : Tapi_Lift) : List (Nat × AV) := [(1, .ptr 0 0 0), (2, .ptr 1 0 0), (5, .ptr 2 0 0), (6, .ptr 3 0 0), (7, .ref 4 0 ((List.replicate (Int.toNat p0.Count) (0 : Int)).length))]
noncomputable abbrev s13_20 (s9 : (Int × (List Int) × (List Tapi_Node) × (List Int))) (p0 : Tapi_Lift) : List (Nat × AV) := [(1, .ptr 0 0 0), (2, .ptr 1 0 0), (5, .ptr 2 0 0), (6, .ptr 3 0 0), (7, .ref 4 0 s9.2.1.length), (37, vI p0.Count), (38, vI s9.1), (8, vI s9.1)]
noncomputable abbrev s13_24 (p0 : Tapi_Lift) (s9 : (Int × (List Int) × (List Tapi_Node) × (List Int))) (a7 : (List Int)) : List AObj := [oX true false 4 (.agg [vI p0.Grain, vI p0.Count, vI p0.One, eL false (eL true eI) p0.Rows]), oX true false 2 (.agg [vI 0, .nils]), oX false false 2 (.agg [vI p0.Grain, .ref 5 0 s9.2.2.1.length]), oX false false 3 (.agg [vI (a7.length : Int), .ref 6 0 s9.2.2.2.length, .nils]), oR true 1 eI s9.2.1, oR false 3 eTapi_Node s9.2.2.1, oR true 1 eI s9.2.2.2]
noncomputable abbrev s13_27 (s9 : (Int × (List Int) × (List Tapi_Node) × (List Int))) (p0 : Tapi_Lift) : List (Nat × AV) := [(1, .ptr 0 0 0), (2, .ptr 1 0 0), (5, .ptr 2 0 0), (6, .ptr 3 0 0), (7, .ref 4 0 s9.2.1.length), (37, vI p0.Count), (38, vI s9.1)]
noncomputable abbrev s13_43 (p0 : Tapi_Lift) (x16 : ((List Int) × (List Tapi_Node) × (List Int))) (a7 : (List Int)) : List AObj := [oX true false 4 (.agg [vI p0.Grain, vI p0.Count, vI p0.One, eL false (eL true eI) p0.Rows]), oX true false 2 (.agg [vI 0, .nils]), oX false false 2 (.agg [vI p0.Grain, .ref 5 0 x16.2.1.length]), oX false false 3 (.agg [vI (a7.length : Int), .ref 6 0 x16.2.2.length, .nils]), oR true 1 eI x16.1, oR false 3 eTapi_Node x16.2.1, oR true 1 eI x16.2.2]
noncomputable abbrev s13_45  : List (Nat × AV) := [(1, .ptr 0 0 0), (2, .ptr 1 0 0), (5, .ptr 2 0 0), (6, .ptr 3 0 0), (67, .fn (.func 68) [] [.ptr 4 0 0])]
noncomputable abbrev s13_88 (x24 : Int) (s17 : (Int × (List (List Int)) × (List Int))) (p0 : Tapi_Lift) (a25 : (List Int)) : List (Nat × AV) := [(1, .ptr 0 0 0), (6, .ptr 3 0 0), (11, vI x24), (80, .ptr 3 0 2), (81, .ref 9 0 s17.2.1.length), (82, .ptr 0 0 3), (83, eL false (eL true eI) p0.Rows), (84, vI x24), (85, .fz [eL true eI a25]), (86, eL true eI a25)]
noncomputable abbrev s13_114 (p0 : Tapi_Lift) (x16 : ((List Int) × (List Tapi_Node) × (List Int))) (a7 : (List Int)) (x45 : (List (List Int))) : List AObj := [oX true false 4 (.agg [vI p0.Grain, vI p0.Count, vI p0.One, eL false (eL true eI) p0.Rows]), oX true false 2 (.agg [vI 0, .nils]), oX false false 2 (.agg [vI p0.Grain, .ref 5 0 x16.2.1.length]), oX false false 3 (.agg [vI (a7.length : Int), .ref 6 0 x16.2.2.length, .ref 9 0 x45.length]), oX false false 1 (.ref 7 0 x16.1.length), oR false 3 eTapi_Node x16.2.1, oR true 1 eI x16.2.2, oR true 1 eI x16.1, .dead, oR false 1 (eL true eI) x45]
theorem g_lift_Ground_ok (p0 : Tapi_Lift) (x : (Tapi_Net × Int)) (h : g_lift_Ground p0 = some x) : CallOk Try.prog 13 [.agg [vI p0.Grain, vI p0.Count, vI p0.One, eL false (eL true eI) p0.Rows]] (.ret (.tup [.agg [vI x.1.Grain, .ref 0 0 x.1.Nodes.length], vI x.2]) [oR false 3 eTapi_Node x.1.Nodes]) := by
  refine fn_ok [] Try.func13 rfl (by decide +kernel) rfl ?_
  unfold g_lift_Ground at h
  refine wp_eqB (base' := 0) (st' := ⟨[(0, .agg [vI p0.Grain, vI p0.Count, vI p0.One, eL false (eL true eI) p0.Rows])], [], 98⟩) rfl (by kernel_rfl) ?_
  refine wp_seq (reg_in ?_)
  refine sl false [] [] false rfl ?_
  refine sl false [] [] false rfl ?_
  refine sz 1 3 (reg_end rfl (wp_seq (wp_seq (reg_in (sz 1 1 ?_)))))
  refine callZ (as0 := [.agg [vI p0.Grain, vI p0.Count, vI p0.One, eL false (eL true eI) p0.Rows]]) (ids := []) (by kernel_rfl) bodyB_14 (msnap_cons (snap_agg (msnap_cons rfl (msnap_cons rfl (msnap_cons rfl (msnap_cons rfl msnap_nil))))) msnap_nil) (fun x1 q2 => g_lift_Check_ok p0 x1 q2) h (fun x1 q2 h => ?_)
  refine sz 1 3 (reg_end rfl ?_)
  refine sqN (S := ⟨[(0, .agg [vI p0.Grain, vI p0.Count, vI p0.One, eL false (eL true eI) p0.Rows]), (1, .ptr 0 0 0), (2, .ptr 1 0 0), (3, vI 0), (14, .agg [vI p0.Grain, vI p0.Count, vI p0.One, eL false (eL true eI) p0.Rows])] ++ [(15, vI x1), (4, vI x1), (16, vI x1), (17, vB (x1 != 0))], (s13_2 p0), 98⟩) ?_
  refine wbz h (fun q4 h => ?_) (fun q4 h => ?_)
  · refine wp_seq (wg [2, 4] [1] (rn ?_))
    refine wgc [2, 3] [0] ⟨[(2, .ptr 0 0 0), (3, vI x1)], [oX true false 2 (.agg [vI 0, .nils])], 98⟩ ?_
    refine wp_wk (wk_nilO 0 0 1 3 true false (st' := ⟨[(2, .ptr 0 0 0), (3, vI x1)], [oX false false 2 (.agg [vI 0, .ref 1 0 0]), .row false false true false 3 []], 98⟩) (by kernel_rfl)) ?_
    cases h
    exact wp_ret (show fnOut _ _ _ _ = _ from by kernel_rfl)
  refine wp_skip (wp_seq (wp_seq (wg [1, 2] [0, 1] (rn ?_))))
  refine wbr (S := fun b5 => ⟨[(1, .ptr 0 0 0), (2, .ptr 1 0 0), (20, .ptr 0 0 1), (21, vI p0.Count), (22, vB b5)], (s13_2 p0), 98⟩) h (fun q6 h => ?_) (fun q6 h => ?_)
  · refine wcT (sq ?_)
    refine wgc [2, 3] [1] ⟨[(2, .ptr 0 0 0), (3, vI 6)], [oX true false 2 (.agg [vI 0, .nils])], 98⟩ ?_
    refine wp_wk (wk_nilO 0 0 1 3 true false (st' := ⟨[(2, .ptr 0 0 0), (3, vI 6)], [oX false false 2 (.agg [vI 0, .ref 1 0 0]), .row false false true false 3 []], 98⟩) (by kernel_rfl)) ?_
    cases h
    exact wp_ret (show fnOut _ _ _ _ = _ from by kernel_rfl)
  refine wcF (wp_skip (wp_seq (reg_in (sz 3 3 ?_))))
  refine sl false [] [] false rfl ?_
  refine sz 1 5 (reg_end rfl (wp_seq (wg [1, 2, 5] [0, 1, 2] (reg_in (sz 2 2 ?_)))))
  refine bind_elim h (fun a7 q8 h => ?_)
  refine idxZ (enc := (eL true eI)) (l := p0.Rows) (n := 0) (fl := false) (w := 1) (a := a7) (by kernel_rfl) q8 ?_
  refine sgz 1 4 (S := ⟨[(1, .ptr 0 0 0), (2, .ptr 1 0 0), (5, .ptr 2 0 0), (27, .ptr 0 0 3), (28, eL false (eL true eI) p0.Rows), (29, .fz [eL true eI a7]), (30, eL true eI a7)], [oX true false 4 (.agg [vI p0.Grain, vI p0.Count, vI p0.One, eL false (eL true eI) p0.Rows]), oX true false 2 (.agg [vI 0, .nils]), oX true false 2 (.agg [vI p0.Grain, .nils])], 98⟩) ?_
  refine lenZ (enc := eI) (l := a7) (fl := true) (by kernel_rfl) ?_
  refine sz 1 6 ?_
  refine sl false [] [] false rfl ?_
  refine sz 1 8 (reg_end rfl (wp_seq (wg [1, 2, 5, 6] [0, 1, 2, 3] (reg_in ?_))))
  refine sgz 2 2 (S := ⟨[(1, .ptr 0 0 0), (2, .ptr 1 0 0), (5, .ptr 2 0 0), (6, .ptr 3 0 0), (33, .ptr 0 0 1), (34, vI p0.Count)], [oX true false 4 (.agg [vI p0.Grain, vI p0.Count, vI p0.One, eL false (eL true eI) p0.Rows]), oX true false 2 (.agg [vI 0, .nils]), oX true false 2 (.agg [vI p0.Grain, .nils]), oX true false 3 (.agg [vI (a7.length : Int), .nils, .nils])], 98⟩) ?_
  refine mkL (enc := eI) (z := (0 : Int)) (z0 := vI 0) (n := p0.Count) (m := p0.Count) (w := 1) (bytes := 8) (S := ⟨[(1, .ptr 0 0 0), (2, .ptr 1 0 0), (5, .ptr 2 0 0), (6, .ptr 3 0 0), (33, .ptr 0 0 1), (34, vI p0.Count), (35, .ref 4 0 ((List.replicate (Int.toNat p0.Count) (0 : Int)).length))], (s13_6 p0 a7), 98⟩) [] true (by kernel_rfl) rfl (by kernel_rfl) (by kernel_rfl) h (fun h => ?_)
  refine sz 1 4 (reg_end rfl (wp_seq (sq (wp_block ?_))))
  refine wwh h (fun s9 => ⟨(s13_27 s9 p0), (s13_24 p0 s9 a7), 98⟩) (fun v out => out = .go (.exit 0) ⟨[(1, .ptr 0 0 0), (2, .ptr 1 0 0), (5, .ptr 2 0 0), (6, .ptr 3 0 0), (7, .ref 4 0 v.1.length)], [oX true false 4 (.agg [vI p0.Grain, vI p0.Count, vI p0.One, eL false (eL true eI) p0.Rows]), oX true false 2 (.agg [vI 0, .nils]), oX false false 2 (.agg [vI p0.Grain, .ref 5 0 v.2.1.length]), oX false false 3 (.agg [vI (a7.length : Int), .ref 6 0 v.2.2.length, .nils]), oR true 1 eI v.1, oR false 3 eTapi_Node v.2.1, oR true 1 eI v.2.2], 98⟩) (wk_trans (wk_gc (live := [1, 2, 5, 6, 7, 37, 38]) (keep := [0, 1, 2, 3, 4]) (st' := ⟨(s13_10 p0) ++ [(37, vI p0.Count), (38, vI 0)], (s13_6 p0 a7), 98⟩) (by kernel_rfl)) (wk_trans (wk_nilO 2 0 1 3 true false (st' := ⟨(s13_10 p0) ++ [(37, vI p0.Count), (38, vI 0)], [oX true false 4 (.agg [vI p0.Grain, vI p0.Count, vI p0.One, eL false (eL true eI) p0.Rows]), oX true false 2 (.agg [vI 0, .nils]), oX false false 2 (.agg [vI p0.Grain, .ref 5 0 0]), oX true false 3 (.agg [vI (a7.length : Int), .nils, .nils]), oR true 1 eI (List.replicate (Int.toNat p0.Count) (0 : Int)), .row false false true false 3 []], 98⟩) (by kernel_rfl)) (wk_trans (wk_nilO 3 0 1 1 true true (st' := ⟨(s13_10 p0) ++ [(37, vI p0.Count), (38, vI 0)], [oX true false 4 (.agg [vI p0.Grain, vI p0.Count, vI p0.One, eL false (eL true eI) p0.Rows]), oX true false 2 (.agg [vI 0, .nils]), oX false false 2 (.agg [vI p0.Grain, .ref 5 0 0]), oX false false 3 (.agg [vI (a7.length : Int), .ref 6 0 0, .nils]), oR true 1 eI (List.replicate (Int.toNat p0.Count) (0 : Int)), .row false false true false 3 [], .row false false true true 1 []], 98⟩) (by kernel_rfl)) (wk_gc (live := [1, 2, 5, 6, 7, 37, 38]) (keep := [0, 1, 2, 3, 4, 5, 6]) (by kernel_rfl))))) ?_ ?_
  · intro s9 o h
    unfold g_lift_Ground_b0 at h
    refine sq (wp_seq ?_)
    refine wbr (S := fun b10 => ⟨(s13_27 s9 p0) ++ [(39, vB b10)], (s13_24 p0 s9 a7), 98⟩) h (fun q11 h => ?_) (fun q11 h => ?_)
    · refine wcT (wp_skip (wp_seq (wp_block (sq (wp_seq (reg_in (sz 9 9 ?_)))))))
      refine sgL false [] [] true (S := ⟨(s13_27 s9 p0) ++ [(39, vB true), (40, vI s9.1), (8, vI s9.1), (41, .ptr 2 0 1), (42, .ref 5 0 s9.2.2.1.length), (43, .ptr 0 0 0), (44, vI p0.Grain), (45, .ptr 0 0 2), (46, vI p0.One), (47, vI (IntKind.i64.wrap (p0.Grain - p0.One))), (48, .ptr 0 0 2), (49, vI p0.One)] ++ [(50, .ref 7 0 2)], [oX true false 4 (.agg [vI p0.Grain, vI p0.Count, vI p0.One, eL false (eL true eI) p0.Rows]), oX true false 2 (.agg [vI 0, .nils]), oX false false 2 (.agg [vI p0.Grain, .ref 5 0 s9.2.2.1.length]), oX false false 3 (.agg [vI (a7.length : Int), .ref 6 0 s9.2.2.2.length, .nils]), oR true 1 eI s9.2.1, oR false 3 eTapi_Node s9.2.2.1, oR true 1 eI s9.2.2.2, .row false false true true 1 [vI (IntKind.i64.wrap (p0.Grain - p0.One)), vI p0.One]], 98⟩) (by kernel_rfl) ?_
      refine bsR (parts := [(0, .lst true [vI (IntKind.i64.wrap (p0.Grain - p0.One)), vI p0.One])]) (ids := [7]) (es := [(7, .row false true true true 1 [vI (IntKind.i64.wrap (p0.Grain - p0.One)), vI p0.One]), (8, .row false false true (List.all [.lst true [vI (IntKind.i64.wrap (p0.Grain - p0.One)), vI p0.One]] AV.scs) 1 [.lst true [vI (IntKind.i64.wrap (p0.Grain - p0.One)), vI p0.One]])]) (S := ⟨(s13_27 s9 p0) ++ [(39, vB true), (40, vI s9.1), (8, vI s9.1), (41, .ptr 2 0 1), (42, .ref 5 0 s9.2.2.1.length), (43, .ptr 0 0 0), (44, vI p0.Grain), (45, .ptr 0 0 2), (46, vI p0.One), (47, vI (IntKind.i64.wrap (p0.Grain - p0.One))), (48, .ptr 0 0 2), (49, vI p0.One)] ++ [(50, .ref 7 0 2), (51, .ref 8 0 1)], [oX true false 4 (.agg [vI p0.Grain, vI p0.Count, vI p0.One, eL false (eL true eI) p0.Rows]), oX true false 2 (.agg [vI 0, .nils]), oX false false 2 (.agg [vI p0.Grain, .ref 5 0 s9.2.2.1.length]), oX false false 3 (.agg [vI (a7.length : Int), .ref 6 0 s9.2.2.2.length, .nils]), oR true 1 eI s9.2.1, oR false 3 eTapi_Node s9.2.2.1, oR true 1 eI s9.2.2.2, .row false true true true 1 [vI (IntKind.i64.wrap (p0.Grain - p0.One)), vI p0.One], .row false false true false 1 [.lst true [vI (IntKind.i64.wrap (p0.Grain - p0.One)), vI p0.One]]], 98⟩) [.lst true] false rfl (sparts_snap rfl rfl sparts_nil (by rfl)) (by kernel_rfl) ?_
      refine sgz 1 12 (S := ⟨(s13_27 s9 p0) ++ [(39, vB true), (40, vI s9.1), (8, vI s9.1), (41, .ptr 2 0 1), (42, .ref 5 0 s9.2.2.1.length), (43, .ptr 0 0 0), (44, vI p0.Grain), (45, .ptr 0 0 2), (46, vI p0.One), (47, vI (IntKind.i64.wrap (p0.Grain - p0.One))), (48, .ptr 0 0 2), (49, vI p0.One)] ++ [(50, .ref 7 0 2), (51, .ref 8 0 1), (52, .agg [vI 2, .nils, .ref 8 0 1])], [oX true false 4 (.agg [vI p0.Grain, vI p0.Count, vI p0.One, eL false (eL true eI) p0.Rows]), oX true false 2 (.agg [vI 0, .nils]), oX false false 2 (.agg [vI p0.Grain, .ref 5 0 s9.2.2.1.length]), oX false false 3 (.agg [vI (a7.length : Int), .ref 6 0 s9.2.2.2.length, .nils]), oR true 1 eI s9.2.1, oR false 3 eTapi_Node s9.2.2.1, oR true 1 eI s9.2.2.2, .row false true true true 1 [vI (IntKind.i64.wrap (p0.Grain - p0.One)), vI p0.One], .row false false true false 1 [.lst true [vI (IntKind.i64.wrap (p0.Grain - p0.One)), vI p0.One]]], 98⟩) ?_
      refine bsR (parts := [(0, .agg [vI 2, .nils, .lst false [.lst true [vI (IntKind.i64.wrap (p0.Grain - p0.One)), vI p0.One]]])]) (ids := [8]) (es := [(8, .row false true true false 1 [.lst true [vI (IntKind.i64.wrap (p0.Grain - p0.One)), vI p0.One]]), (9, .row false false true (List.all [.agg [vI 2, .nils, .lst false [.lst true [vI (IntKind.i64.wrap (p0.Grain - p0.One)), vI p0.One]]]] AV.scs) 3 [.agg [vI 2, .nils, .lst false [.lst true [vI (IntKind.i64.wrap (p0.Grain - p0.One)), vI p0.One]]]])]) (S := ⟨(s13_27 s9 p0) ++ [(39, vB true), (40, vI s9.1), (8, vI s9.1), (41, .ptr 2 0 1), (42, .ref 5 0 s9.2.2.1.length), (43, .ptr 0 0 0), (44, vI p0.Grain), (45, .ptr 0 0 2), (46, vI p0.One), (47, vI (IntKind.i64.wrap (p0.Grain - p0.One))), (48, .ptr 0 0 2), (49, vI p0.One)] ++ [(50, .ref 7 0 2), (51, .ref 8 0 1), (52, .agg [vI 2, .nils, .ref 8 0 1]), (53, .ref 9 0 1)], [oX true false 4 (.agg [vI p0.Grain, vI p0.Count, vI p0.One, eL false (eL true eI) p0.Rows]), oX true false 2 (.agg [vI 0, .nils]), oX false false 2 (.agg [vI p0.Grain, .ref 5 0 s9.2.2.1.length]), oX false false 3 (.agg [vI (a7.length : Int), .ref 6 0 s9.2.2.2.length, .nils]), oR true 1 eI s9.2.1, oR false 3 eTapi_Node s9.2.2.1, oR true 1 eI s9.2.2.2, .row false true true true 1 [vI (IntKind.i64.wrap (p0.Grain - p0.One)), vI p0.One], .row false true true false 1 [.lst true [vI (IntKind.i64.wrap (p0.Grain - p0.One)), vI p0.One]], .row false false true false 3 [.agg [vI 2, .lst true [], .lst false [.lst true [vI (IntKind.i64.wrap (p0.Grain - p0.One)), vI p0.One]]]]], 98⟩) [.keep, .lst true, .lst false] false rfl (sparts_snap rfl (snap_agg (msnap_cons rfl (msnap_cons rfl (msnap_cons rfl msnap_nil (by rfl)) (by rfl)) (by rfl))) sparts_nil (by rfl)) (by kernel_rfl) ?_
      refine appR (enc := eTapi_Node) (l := s9.2.2.1) (m := ([(Tapi_Node.mk 2 [] [[IntKind.i64.wrap (p0.Grain - p0.One), p0.One]])] : (List Tapi_Node))) (w := 3) (bytes := 56) (ob := 5) (nr := true) (fl := false) (nr' := true) (fl' := false) (b := .ref 9 0 1) (rds := [9]) (S := ⟨(s13_27 s9 p0) ++ [(39, vB true), (40, vI s9.1), (8, vI s9.1), (41, .ptr 2 0 1), (42, .ref 5 0 s9.2.2.1.length), (43, .ptr 0 0 0), (44, vI p0.Grain), (45, .ptr 0 0 2), (46, vI p0.One), (47, vI (IntKind.i64.wrap (p0.Grain - p0.One))), (48, .ptr 0 0 2), (49, vI p0.One)] ++ [(50, .ref 7 0 2), (51, .ref 8 0 1), (52, .agg [vI 2, .nils, .ref 8 0 1]), (53, .ref 9 0 1), (54, .ref 10 0 ((s9.2.2.1 ++ ([(Tapi_Node.mk 2 [] [[IntKind.i64.wrap (p0.Grain - p0.One), p0.One]])] : (List Tapi_Node))).length))], [oX true false 4 (.agg [vI p0.Grain, vI p0.Count, vI p0.One, eL false (eL true eI) p0.Rows]), oX true false 2 (.agg [vI 0, .nils]), oX false false 2 (.agg [vI p0.Grain, .ref 5 0 s9.2.2.1.length]), oX false false 3 (.agg [vI (a7.length : Int), .ref 6 0 s9.2.2.2.length, .nils]), oR true 1 eI s9.2.1, .dead, oR true 1 eI s9.2.2.2, .row false true true true 1 [vI (IntKind.i64.wrap (p0.Grain - p0.One)), vI p0.One], .row false true true false 1 [.lst true [vI (IntKind.i64.wrap (p0.Grain - p0.One)), vI p0.One]], .row false false true false 3 [.agg [vI 2, .lst true [], .lst false [.lst true [vI (IntKind.i64.wrap (p0.Grain - p0.One)), vI p0.One]]]], oR false 3 eTapi_Node (s9.2.2.1 ++ ([(Tapi_Node.mk 2 [] [[IntKind.i64.wrap (p0.Grain - p0.One), p0.One]])] : (List Tapi_Node)))], 98⟩) false (by kernel_rfl) rfl (by kernel_rfl) rfl (by kernel_rfl) (by kernel_rfl) h (fun h => ?_)
      refine sz 2 16 (reg_end rfl (wp_seq (wg [1, 2, 5, 6, 7, 37, 38, 8] [0, 1, 2, 3, 4, 10, 6] (reg_in (sz 3 3 ?_)))))
      refine sgL false [] [] true (S := ⟨(s13_20 s9 p0) ++ [(56, .ptr 3 0 1), (57, .ref 6 0 s9.2.2.2.length), (58, vI s9.1), (59, .ref 7 0 1)], [oX true false 4 (.agg [vI p0.Grain, vI p0.Count, vI p0.One, eL false (eL true eI) p0.Rows]), oX true false 2 (.agg [vI 0, .nils]), oX false false 2 (.agg [vI p0.Grain, .ref 5 0 ((s9.2.2.1 ++ ([(Tapi_Node.mk 2 [] [[IntKind.i64.wrap (p0.Grain - p0.One), p0.One]])] : (List Tapi_Node))).length)]), oX false false 3 (.agg [vI (a7.length : Int), .ref 6 0 s9.2.2.2.length, .nils]), oR true 1 eI s9.2.1, oR false 3 eTapi_Node (s9.2.2.1 ++ ([(Tapi_Node.mk 2 [] [[IntKind.i64.wrap (p0.Grain - p0.One), p0.One]])] : (List Tapi_Node))), oR true 1 eI s9.2.2.2, .row false false true true 1 [vI s9.1]], 98⟩) (by kernel_rfl) ?_
      refine appR (enc := eI) (l := s9.2.2.2) (m := ([s9.1] : (List Int))) (w := 1) (bytes := 8) (ob := 6) (nr := true) (fl := true) (nr' := true) (fl' := true) (b := .ref 7 0 1) (rds := [7]) (S := ⟨(s13_20 s9 p0) ++ [(56, .ptr 3 0 1), (57, .ref 6 0 s9.2.2.2.length), (58, vI s9.1), (59, .ref 7 0 1), (60, .ref 8 0 ((s9.2.2.2 ++ ([s9.1] : (List Int))).length))], [oX true false 4 (.agg [vI p0.Grain, vI p0.Count, vI p0.One, eL false (eL true eI) p0.Rows]), oX true false 2 (.agg [vI 0, .nils]), oX false false 2 (.agg [vI p0.Grain, .ref 5 0 ((s9.2.2.1 ++ ([(Tapi_Node.mk 2 [] [[IntKind.i64.wrap (p0.Grain - p0.One), p0.One]])] : (List Tapi_Node))).length)]), oX false false 3 (.agg [vI (a7.length : Int), .ref 6 0 s9.2.2.2.length, .nils]), oR true 1 eI s9.2.1, oR false 3 eTapi_Node (s9.2.2.1 ++ ([(Tapi_Node.mk 2 [] [[IntKind.i64.wrap (p0.Grain - p0.One), p0.One]])] : (List Tapi_Node))), .dead, .row false false true true 1 [vI s9.1], oR true 1 eI (s9.2.2.2 ++ ([s9.1] : (List Int)))], 98⟩) false (by kernel_rfl) rfl (by kernel_rfl) rfl (by kernel_rfl) (by kernel_rfl) h (fun h => ?_)
      refine sz 2 7 (reg_end rfl (wg [1, 2, 5, 6, 7, 37, 38, 8] [0, 1, 2, 3, 4, 5, 8] (reg_in (sz 2 2 ?_))))
      refine bind_elim h (fun a12 q13 h => ?_)
      refine idxR' (enc := eI) (l := s9.2.1) (n := s9.1) (w := 1) (ob := 4) (ro := false) (nr := true) (fl := true) (a := a12) (S := ⟨(s13_20 s9 p0) ++ [(62, .ref 4 0 s9.2.1.length), (63, vI s9.1), (64, .ptr 4 (Int.toNat s9.1) 0)], [oX true false 4 (.agg [vI p0.Grain, vI p0.Count, vI p0.One, eL false (eL true eI) p0.Rows]), oX true false 2 (.agg [vI 0, .nils]), oX false false 2 (.agg [vI p0.Grain, .ref 5 0 ((s9.2.2.1 ++ ([(Tapi_Node.mk 2 [] [[IntKind.i64.wrap (p0.Grain - p0.One), p0.One]])] : (List Tapi_Node))).length)]), oX false false 3 (.agg [vI (a7.length : Int), .ref 6 0 ((s9.2.2.2 ++ ([s9.1] : (List Int))).length), .nils]), oR true 1 eI s9.2.1, oR false 3 eTapi_Node (s9.2.2.1 ++ ([(Tapi_Node.mk 2 [] [[IntKind.i64.wrap (p0.Grain - p0.One), p0.One]])] : (List Tapi_Node))), oR true 1 eI (s9.2.2.2 ++ ([s9.1] : (List Int)))], 98⟩) (by kernel_rfl) (by kernel_rfl) (by kernel_rfl) q13 ?_
      refine storeR (enc := eI) (l := s9.2.1) (n := s9.1) (ob := 4) (c := 0) (a := a12) (a' := 2) (v := vI 2) (S := ⟨(s13_20 s9 p0) ++ [(62, .ref 4 0 s9.2.1.length), (63, vI s9.1), (64, .ptr 4 (Int.toNat s9.1) 0)], [oX true false 4 (.agg [vI p0.Grain, vI p0.Count, vI p0.One, eL false (eL true eI) p0.Rows]), oX true false 2 (.agg [vI 0, .nils]), oX false false 2 (.agg [vI p0.Grain, .ref 5 0 ((s9.2.2.1 ++ ([(Tapi_Node.mk 2 [] [[IntKind.i64.wrap (p0.Grain - p0.One), p0.One]])] : (List Tapi_Node))).length)]), oX false false 3 (.agg [vI (a7.length : Int), .ref 6 0 ((s9.2.2.2 ++ ([s9.1] : (List Int))).length), .nils]), oR true 1 eI (List.set s9.2.1 (Int.toNat s9.1) 2), oR false 3 eTapi_Node (s9.2.2.1 ++ ([(Tapi_Node.mk 2 [] [[IntKind.i64.wrap (p0.Grain - p0.One), p0.One]])] : (List Tapi_Node))), oR true 1 eI (s9.2.2.2 ++ ([s9.1] : (List Int)))], 98⟩) false (by kernel_rfl) rfl q13 (by kernel_rfl) rfl (by kernel_rfl) (by kernel_rfl) (by kernel_rfl) ?_
      refine rw_knN (n := s9.2.1.length) (m := (List.set s9.2.1 (Int.toNat s9.1) 2).length) (S := fun n14 => ⟨[(1, .ptr 0 0 0), (2, .ptr 1 0 0), (5, .ptr 2 0 0), (6, .ptr 3 0 0), (7, .ref 4 0 n14), (37, vI p0.Count), (38, vI s9.1), (8, vI s9.1), (62, .ref 4 0 n14), (63, vI s9.1), (64, .ptr 4 (Int.toNat s9.1) 0)], [oX true false 4 (.agg [vI p0.Grain, vI p0.Count, vI p0.One, eL false (eL true eI) p0.Rows]), oX true false 2 (.agg [vI 0, .nils]), oX false false 2 (.agg [vI p0.Grain, .ref 5 0 ((s9.2.2.1 ++ ([(Tapi_Node.mk 2 [] [[IntKind.i64.wrap (p0.Grain - p0.One), p0.One]])] : (List Tapi_Node))).length)]), oX false false 3 (.agg [vI (a7.length : Int), .ref 6 0 ((s9.2.2.2 ++ ([s9.1] : (List Int))).length), .nils]), oR true 1 eI (List.set s9.2.1 (Int.toNat s9.1) 2), oR false 3 eTapi_Node (s9.2.2.1 ++ ([(Tapi_Node.mk 2 [] [[IntKind.i64.wrap (p0.Grain - p0.One), p0.One]])] : (List Tapi_Node))), oR true 1 eI (s9.2.2.2 ++ ([s9.1] : (List Int)))], 98⟩) (by simp only [List.length_set]) ?_
      refine reg_end rfl (rn ?_)
      cases h
      exact ⟨_, rfl, (wk_gc (live := [1, 2, 5, 6, 7, 37, 38]) (keep := [0, 1, 2, 3, 4, 5, 6]) (by kernel_rfl))⟩
    refine wcF ?_
    refine wgc [1, 2, 5, 6, 7] [0, 1, 2, 3, 4, 5, 6] ⟨[(1, .ptr 0 0 0), (2, .ptr 1 0 0), (5, .ptr 2 0 0), (6, .ptr 3 0 0), (7, .ref 4 0 s9.2.1.length)], (s13_24 p0 s9 a7), 98⟩ ?_
    refine wp_exit ?_
    cases h
    exact ⟨rfl, rfl⟩
  intro x16 h out hx
  subst hx
  refine wp_seq (wp_seq (reg_in ?_))
  refine sgz 1 1 (S := ⟨[(1, .ptr 0 0 0), (2, .ptr 1 0 0), (5, .ptr 2 0 0), (6, .ptr 3 0 0), (7, .ref 4 0 x16.1.length)] ++ [(66, .ref 4 0 x16.1.length)], (s13_43 p0 x16 a7), 98⟩) ?_
  refine inlR (f := 39) (fn := Try.f39) (as0 := [.ref 4 0 x16.1.length]) (by kernel_rfl) Try.func39 rfl (by decide +kernel) rfl ?_
  refine wp_eqB (base' := 7) (st' := ⟨[(0, .ref 4 0 x16.1.length)], (s13_43 p0 x16 a7), 4⟩) rfl (by kernel_rfl) ?_
  refine wp_seq (reg_in ?_)
  refine sl false [] [] false rfl ?_
  refine sz 1 2 (reg_end rfl (sq (wg [2] [7] ?_)))
  refine wp_ret ?_
  refine ez ?_
  refine reg_end rfl (wp_block ?_)
  refine wgc [1, 2, 5, 6, 67] [0, 1, 2, 3, 7, 5, 6, 4] ⟨s13_45, [oX true false 4 (.agg [vI p0.Grain, vI p0.Count, vI p0.One, eL false (eL true eI) p0.Rows]), oX true false 2 (.agg [vI 0, .nils]), oX false false 2 (.agg [vI p0.Grain, .ref 5 0 x16.2.1.length]), oX false false 3 (.agg [vI (a7.length : Int), .ref 6 0 x16.2.2.length, .nils]), oX false false 1 (.ref 7 0 x16.1.length), oR false 3 eTapi_Node x16.2.1, oR true 1 eI x16.2.2, oR true 1 eI x16.1], 98⟩ ?_
  refine wp_range (f := 68) (fn := Try.f68) (first := []) (caps := [.ptr 4 0 0]) rfl Try.func68 rfl (by decide +kernel) rfl rfl ?_
  refine wp_eqB (base' := 9) (st' := ⟨[(0, .yld 8), (1, .ptr 4 0 0)], [oX true false 4 (.agg [vI p0.Grain, vI p0.Count, vI p0.One, eL false (eL true eI) p0.Rows]), oX true false 2 (.agg [vI 0, .nils]), oX false false 2 (.agg [vI p0.Grain, .ref 5 0 x16.2.1.length]), oX false false 3 (.agg [vI (a7.length : Int), .ref 6 0 x16.2.2.length, .nils]), oX false false 1 (.ref 7 0 x16.1.length), oR false 3 eTapi_Node x16.2.1, oR true 1 eI x16.2.2, oR true 1 eI x16.1, .loop 98 [(1, .ptr 0 0 0), (2, .ptr 1 0 0), (5, .ptr 2 0 0), (6, .ptr 3 0 0), (67, .fn (.func 68) [] [.ptr 4 0 0])] [68, 69] (cA Try.f13 [true, true, true, true, true, true, true, false, true, true]) (cB Try.f13 [true, true, true, true, true, true, true, false, true, true]) .ready none], 45⟩) rfl (by kernel_rfl) ?_
  refine wp_seq (reg_in ?_)
  refine sgz 2 2 (S := ⟨[(0, .yld 8), (1, .ptr 4 0 0), (6, .ref 7 0 x16.1.length), (7, vI (x16.1.length : Int))], [oX true false 4 (.agg [vI p0.Grain, vI p0.Count, vI p0.One, eL false (eL true eI) p0.Rows]), oX true false 2 (.agg [vI 0, .nils]), oX false false 2 (.agg [vI p0.Grain, .ref 5 0 x16.2.1.length]), oX false false 3 (.agg [vI (a7.length : Int), .ref 6 0 x16.2.2.length, .nils]), oX false false 1 (.ref 7 0 x16.1.length), oR false 3 eTapi_Node x16.2.1, oR true 1 eI x16.2.2, oR true 1 eI x16.1, .loop 98 [(1, .ptr 0 0 0), (2, .ptr 1 0 0), (5, .ptr 2 0 0), (6, .ptr 3 0 0), (67, .fn (.func 68) [] [.ptr 4 0 0])] [68, 69] (cA Try.f13 [true, true, true, true, true, true, true, false, true, true]) (cB Try.f13 [true, true, true, true, true, true, true, false, true, true]) .ready none], 45⟩) ?_
  refine mkL (enc := eI) (z := (0 : Int)) (z0 := vI 0) (n := (x16.1.length : Int)) (m := (x16.1.length : Int)) (w := 1) (bytes := 8) (S := ⟨[(0, .yld 8), (1, .ptr 4 0 0), (6, .ref 7 0 x16.1.length), (7, vI (x16.1.length : Int)), (8, .ref 9 0 ((List.replicate (Int.toNat (x16.1.length : Int)) (0 : Int)).length))], [oX true false 4 (.agg [vI p0.Grain, vI p0.Count, vI p0.One, eL false (eL true eI) p0.Rows]), oX true false 2 (.agg [vI 0, .nils]), oX false false 2 (.agg [vI p0.Grain, .ref 5 0 x16.2.1.length]), oX false false 3 (.agg [vI (a7.length : Int), .ref 6 0 x16.2.2.length, .nils]), oX false false 1 (.ref 7 0 x16.1.length), oR false 3 eTapi_Node x16.2.1, oR true 1 eI x16.2.2, oR true 1 eI x16.1, .loop 98 [(1, .ptr 0 0 0), (2, .ptr 1 0 0), (5, .ptr 2 0 0), (6, .ptr 3 0 0), (67, .fn (.func 68) [] [.ptr 4 0 0])] [68, 69] (cA Try.f13 [true, true, true, true, true, true, true, false, true, true]) (cB Try.f13 [true, true, true, true, true, true, true, false, true, true]) .ready none, oR true 1 eI (List.replicate (Int.toNat (x16.1.length : Int)) (0 : Int))], 45⟩) [] true (by kernel_rfl) rfl (by kernel_rfl) (by kernel_rfl) h (fun h => ?_)
  refine sz 1 4 (reg_end rfl (sq (wp_block ?_)))
  refine wwh h (fun s17 => ⟨[(0, .yld 8), (1, .ptr 4 0 0), (3, .ref 10 0 s17.2.2.length), (4, vI s17.1)], [oX true false 4 (.agg [vI p0.Grain, vI p0.Count, vI p0.One, eL false (eL true eI) p0.Rows]), oX true false 2 (.agg [vI 0, .nils]), oX false false 2 (.agg [vI p0.Grain, .ref 5 0 x16.2.1.length]), oX false false 3 (.agg [vI (a7.length : Int), .ref 6 0 x16.2.2.length, .ref 9 0 s17.2.1.length]), oX false false 1 (.ref 7 0 x16.1.length), oR false 3 eTapi_Node x16.2.1, oR true 1 eI x16.2.2, oR true 1 eI x16.1, .loop 98 [(1, .ptr 0 0 0), (2, .ptr 1 0 0), (5, .ptr 2 0 0), (6, .ptr 3 0 0), (67, .fn (.func 68) [] [.ptr 4 0 0])] [68, 69] (cA Try.f13 [true, true, true, true, true, true, true, false, true, true]) (cB Try.f13 [true, true, true, true, true, true, true, false, true, true]) .ready none, oR false 1 (eL true eI) s17.2.1, oR true 1 eI s17.2.2], 45⟩) (fun v out => out = .go (.ret) ⟨[], [oX true false 4 (.agg [vI p0.Grain, vI p0.Count, vI p0.One, eL false (eL true eI) p0.Rows]), oX true false 2 (.agg [vI 0, .nils]), oX false false 2 (.agg [vI p0.Grain, .ref 5 0 x16.2.1.length]), oX false false 3 (.agg [vI (a7.length : Int), .ref 6 0 x16.2.2.length, .ref 9 0 v.length]), oX false false 1 (.ref 7 0 x16.1.length), oR false 3 eTapi_Node x16.2.1, oR true 1 eI x16.2.2, oR true 1 eI x16.1, .loop 98 [(1, .ptr 0 0 0), (2, .ptr 1 0 0), (5, .ptr 2 0 0), (6, .ptr 3 0 0), (67, .fn (.func 68) [] [.ptr 4 0 0])] [68, 69] (cA Try.f13 [true, true, true, true, true, true, true, false, true, true]) (cB Try.f13 [true, true, true, true, true, true, true, false, true, true]) .ready none, oR false 1 (eL true eI) v], 45⟩) (wk_trans (wk_gc (live := [0, 1, 3, 4]) (keep := [9]) (st' := ⟨[(0, .yld 8), (1, .ptr 4 0 0), (3, .ref 9 0 ((List.replicate (Int.toNat (x16.1.length : Int)) (0 : Int)).length)), (4, vI 0)], [oX true false 4 (.agg [vI p0.Grain, vI p0.Count, vI p0.One, eL false (eL true eI) p0.Rows]), oX true false 2 (.agg [vI 0, .nils]), oX false false 2 (.agg [vI p0.Grain, .ref 5 0 x16.2.1.length]), oX false false 3 (.agg [vI (a7.length : Int), .ref 6 0 x16.2.2.length, .nils]), oX false false 1 (.ref 7 0 x16.1.length), oR false 3 eTapi_Node x16.2.1, oR true 1 eI x16.2.2, oR true 1 eI x16.1, .loop 98 [(1, .ptr 0 0 0), (2, .ptr 1 0 0), (5, .ptr 2 0 0), (6, .ptr 3 0 0), (67, .fn (.func 68) [] [.ptr 4 0 0])] [68, 69] (cA Try.f13 [true, true, true, true, true, true, true, false, true, true]) (cB Try.f13 [true, true, true, true, true, true, true, false, true, true]) .ready none, oR true 1 eI (List.replicate (Int.toNat (x16.1.length : Int)) (0 : Int))], 45⟩) (by kernel_rfl)) (wk_trans (wk_nilO 3 0 2 1 true false (st' := ⟨[(0, .yld 8), (1, .ptr 4 0 0), (3, .ref 9 0 ((List.replicate (Int.toNat (x16.1.length : Int)) (0 : Int)).length)), (4, vI 0)], [oX true false 4 (.agg [vI p0.Grain, vI p0.Count, vI p0.One, eL false (eL true eI) p0.Rows]), oX true false 2 (.agg [vI 0, .nils]), oX false false 2 (.agg [vI p0.Grain, .ref 5 0 x16.2.1.length]), oX false false 3 (.agg [vI (a7.length : Int), .ref 6 0 x16.2.2.length, .ref 10 0 0]), oX false false 1 (.ref 7 0 x16.1.length), oR false 3 eTapi_Node x16.2.1, oR true 1 eI x16.2.2, oR true 1 eI x16.1, .loop 98 [(1, .ptr 0 0 0), (2, .ptr 1 0 0), (5, .ptr 2 0 0), (6, .ptr 3 0 0), (67, .fn (.func 68) [] [.ptr 4 0 0])] [68, 69] (cA Try.f13 [true, true, true, true, true, true, true, false, true, true]) (cB Try.f13 [true, true, true, true, true, true, true, false, true, true]) .ready none, oR true 1 eI (List.replicate (Int.toNat (x16.1.length : Int)) (0 : Int)), .row false false true false 1 []], 45⟩) (by kernel_rfl)) (wk_gc (live := [0, 1, 3, 4]) (keep := [10, 9]) (by kernel_rfl)))) ?_ ?_
  · intro s17 o h
    unfold g_lift_Ground_b3 at h
    refine wp_seq (wp_seq (reg_in ?_))
    refine sgz 3 3 (S := ⟨[(0, .yld 8), (1, .ptr 4 0 0), (3, .ref 10 0 s17.2.2.length), (4, vI s17.1), (9, .yld 8), (10, vI s17.1), (11, .ref 10 0 s17.2.2.length)], [oX true false 4 (.agg [vI p0.Grain, vI p0.Count, vI p0.One, eL false (eL true eI) p0.Rows]), oX true false 2 (.agg [vI 0, .nils]), oX false false 2 (.agg [vI p0.Grain, .ref 5 0 x16.2.1.length]), oX false false 3 (.agg [vI (a7.length : Int), .ref 6 0 x16.2.2.length, .ref 9 0 s17.2.1.length]), oX false false 1 (.ref 7 0 x16.1.length), oR false 3 eTapi_Node x16.2.1, oR true 1 eI x16.2.2, oR true 1 eI x16.1, .loop 98 [(1, .ptr 0 0 0), (2, .ptr 1 0 0), (5, .ptr 2 0 0), (6, .ptr 3 0 0), (67, .fn (.func 68) [] [.ptr 4 0 0])] [68, 69] (cA Try.f13 [true, true, true, true, true, true, true, false, true, true]) (cB Try.f13 [true, true, true, true, true, true, true, false, true, true]) .ready none, oR false 1 (eL true eI) s17.2.1, oR true 1 eI s17.2.2], 45⟩) ?_
    refine yldR (l := 8) (nt := 98) (us := [vI s17.1, .ref 10 0 s17.2.2.length]) (sl := [(1, .ptr 0 0 0), (2, .ptr 1 0 0), (5, .ptr 2 0 0), (6, .ptr 3 0 0), (67, .fn (.func 68) [] [.ptr 4 0 0])]) (ps := [68, 69]) (assign := cA Try.f13 [true, true, true, true, true, true, true, false, true, true]) (body := cB Try.f13 [true, true, true, true, true, true, true, false, true, true]) (pe := none) (by kernel_rfl) rfl rfl ?_
    refine wp_eqB (base' := 11) (st' := ⟨s13_45 ++ [(68, vI s17.1), (69, .ref 10 0 s17.2.2.length)], [oX true false 4 (.agg [vI p0.Grain, vI p0.Count, vI p0.One, eL false (eL true eI) p0.Rows]), oX true false 2 (.agg [vI 0, .nils]), oX false false 2 (.agg [vI p0.Grain, .ref 5 0 x16.2.1.length]), oX false false 3 (.agg [vI (a7.length : Int), .ref 6 0 x16.2.2.length, .ref 9 0 s17.2.1.length]), oX false false 1 (.ref 7 0 x16.1.length), oR false 3 eTapi_Node x16.2.1, oR true 1 eI x16.2.2, oR true 1 eI x16.1, .loop 98 [(1, .ptr 0 0 0), (2, .ptr 1 0 0), (5, .ptr 2 0 0), (6, .ptr 3 0 0), (67, .fn (.func 68) [] [.ptr 4 0 0])] [68, 69] (cA Try.f13 [true, true, true, true, true, true, true, false, true, true]) (cB Try.f13 [true, true, true, true, true, true, true, false, true, true]) .ready none, oR false 1 (eL true eI) s17.2.1, oR true 1 eI s17.2.2], 98⟩) rfl (by kernel_rfl) ?_
    refine rn ?_
    refine ez ?_
    refine wp_block (wp_seq (wg [1, 6, 10] [] (rn (wp_seq (sq (wp_block ?_))))))
    refine wwh h (fun s18 => ⟨[(1, .ptr 0 0 0), (6, .ptr 3 0 0), (11, vI s18.1), (70, .ref 10 0 s17.2.2.length), (71, vI (s17.2.2.length : Int)), (72, vI s18.2)], [oX true false 4 (.agg [vI p0.Grain, vI p0.Count, vI p0.One, eL false (eL true eI) p0.Rows]), oX true false 2 (.agg [vI 0, .nils]), oX false false 2 (.agg [vI p0.Grain, .ref 5 0 x16.2.1.length]), oX false false 3 (.agg [vI (a7.length : Int), .ref 6 0 x16.2.2.length, .ref 9 0 s17.2.1.length]), oX false false 1 (.ref 7 0 x16.1.length), oR false 3 eTapi_Node x16.2.1, oR true 1 eI x16.2.2, oR true 1 eI x16.1, .loop 98 [(1, .ptr 0 0 0), (2, .ptr 1 0 0), (5, .ptr 2 0 0), (6, .ptr 3 0 0), (67, .fn (.func 68) [] [.ptr 4 0 0])] [68, 69] (cA Try.f13 [true, true, true, true, true, true, true, false, true, true]) (cB Try.f13 [true, true, true, true, true, true, true, false, true, true]) .busy none, oR false 1 (eL true eI) s17.2.1, oR true 1 eI s17.2.2], 98⟩) (fun v out => out = .go (.exit 4) ⟨[(1, .ptr 0 0 0), (6, .ptr 3 0 0), (11, vI v)], [oX true false 4 (.agg [vI p0.Grain, vI p0.Count, vI p0.One, eL false (eL true eI) p0.Rows]), oX true false 2 (.agg [vI 0, .nils]), oX false false 2 (.agg [vI p0.Grain, .ref 5 0 x16.2.1.length]), oX false false 3 (.agg [vI (a7.length : Int), .ref 6 0 x16.2.2.length, .ref 9 0 s17.2.1.length]), oX false false 1 (.ref 7 0 x16.1.length), oR false 3 eTapi_Node x16.2.1, oR true 1 eI x16.2.2, oR true 1 eI x16.1, .loop 98 [(1, .ptr 0 0 0), (2, .ptr 1 0 0), (5, .ptr 2 0 0), (6, .ptr 3 0 0), (67, .fn (.func 68) [] [.ptr 4 0 0])] [68, 69] (cA Try.f13 [true, true, true, true, true, true, true, false, true, true]) (cB Try.f13 [true, true, true, true, true, true, true, false, true, true]) .busy none, oR false 1 (eL true eI) s17.2.1, oR true 1 eI s17.2.2], 98⟩) (wk_gc (live := [1, 6, 11, 70, 71, 72]) (keep := []) (by kernel_rfl)) ?_ ?_
    · intro s18 o h
      unfold g_lift_Ground_b1 at h
      refine sq (wp_seq ?_)
      refine wbr (S := fun b19 => ⟨[(1, .ptr 0 0 0), (6, .ptr 3 0 0), (11, vI s18.1), (70, .ref 10 0 s17.2.2.length), (71, vI (s17.2.2.length : Int)), (72, vI s18.2)] ++ [(73, vB b19)], [oX true false 4 (.agg [vI p0.Grain, vI p0.Count, vI p0.One, eL false (eL true eI) p0.Rows]), oX true false 2 (.agg [vI 0, .nils]), oX false false 2 (.agg [vI p0.Grain, .ref 5 0 x16.2.1.length]), oX false false 3 (.agg [vI (a7.length : Int), .ref 6 0 x16.2.2.length, .ref 9 0 s17.2.1.length]), oX false false 1 (.ref 7 0 x16.1.length), oR false 3 eTapi_Node x16.2.1, oR true 1 eI x16.2.2, oR true 1 eI x16.1, .loop 98 [(1, .ptr 0 0 0), (2, .ptr 1 0 0), (5, .ptr 2 0 0), (6, .ptr 3 0 0), (67, .fn (.func 68) [] [.ptr 4 0 0])] [68, 69] (cA Try.f13 [true, true, true, true, true, true, true, false, true, true]) (cB Try.f13 [true, true, true, true, true, true, true, false, true, true]) .busy none, oR false 1 (eL true eI) s17.2.1, oR true 1 eI s17.2.2], 98⟩) h (fun q20 h => ?_) (fun q20 h => ?_)
      · refine wcT (wp_skip (wp_seq (wp_block (wp_seq (reg_in ?_)))))
        refine bind_elim h (fun a21 q22 h => ?_)
        refine idxY (enc := eI) (l := s17.2.2) (n := s18.2) (w := 1) (ob := 10) (ro := false) (nr := true) (fl := true) q22 ?_
        refine loadY (enc := eI) (l := s17.2.2) (n := s18.2) (w := 1) (ob := 10) (c := 0) (bx := false) (ro := false) (nr := true) (fl := true) q22 ?_
        refine sz 1 3 (reg_end rfl (rn (wg [1, 6, 11, 70, 71, 72] [] (rn ?_))))
        cases h
        exact ⟨_, rfl, (wk_gc (live := [1, 6, 11, 70, 71, 72]) (keep := []) (by kernel_rfl))⟩
      refine wcF ?_
      refine wgc [1, 6, 11] [] ⟨[(1, .ptr 0 0 0), (6, .ptr 3 0 0), (11, vI s18.1)], [oX true false 4 (.agg [vI p0.Grain, vI p0.Count, vI p0.One, eL false (eL true eI) p0.Rows]), oX true false 2 (.agg [vI 0, .nils]), oX false false 2 (.agg [vI p0.Grain, .ref 5 0 x16.2.1.length]), oX false false 3 (.agg [vI (a7.length : Int), .ref 6 0 x16.2.2.length, .ref 9 0 s17.2.1.length]), oX false false 1 (.ref 7 0 x16.1.length), oR false 3 eTapi_Node x16.2.1, oR true 1 eI x16.2.2, oR true 1 eI x16.1, .loop 98 [(1, .ptr 0 0 0), (2, .ptr 1 0 0), (5, .ptr 2 0 0), (6, .ptr 3 0 0), (67, .fn (.func 68) [] [.ptr 4 0 0])] [68, 69] (cA Try.f13 [true, true, true, true, true, true, true, false, true, true]) (cB Try.f13 [true, true, true, true, true, true, true, false, true, true]) .busy none, oR false 1 (eL true eI) s17.2.1, oR true 1 eI s17.2.2], 98⟩ ?_
      refine wp_exit ?_
      cases h
      exact ⟨rfl, rfl⟩
    intro x24 h out hx
    subst hx
    refine rga hfol (sy 5 5 ?_)
    refine bind_elim h (fun a25 q26 h => ?_)
    refine idxZ (enc := (eL true eI)) (l := p0.Rows) (n := x24) (fl := false) (w := 1) (a := a25) (by kernel_rfl) q26 ?_
    refine sgy 1 7 (S := ⟨(s13_88 x24 s17 p0 a25), [oX true false 4 (.agg [vI p0.Grain, vI p0.Count, vI p0.One, eL false (eL true eI) p0.Rows]), oX true false 2 (.agg [vI 0, .nils]), oX false false 2 (.agg [vI p0.Grain, .ref 5 0 x16.2.1.length]), oX false false 3 (.agg [vI (a7.length : Int), .ref 6 0 x16.2.2.length, .ref 9 0 s17.2.1.length]), oX false false 1 (.ref 7 0 x16.1.length), oR false 3 eTapi_Node x16.2.1, oR true 1 eI x16.2.2, oR true 1 eI x16.1, .loop 98 [(1, .ptr 0 0 0), (2, .ptr 1 0 0), (5, .ptr 2 0 0), (6, .ptr 3 0 0), (67, .fn (.func 68) [] [.ptr 4 0 0])] [68, 69] (cA Try.f13 [true, true, true, true, true, true, true, false, true, true]) (cB Try.f13 [true, true, true, true, true, true, true, false, true, true]) .busy none, oR false 1 (eL true eI) s17.2.1, oR true 1 eI s17.2.2], 98⟩) ?_
    refine appN (enc := eI) (m := a25) (w := 1) (bytes := 8) (nr' := true) (fl' := true) (a := .nils) (b := eL true eI a25) (rds := []) (S := ⟨(s13_88 x24 s17 p0 a25) ++ [(87, .ref 11 0 a25.length)], [oX true false 4 (.agg [vI p0.Grain, vI p0.Count, vI p0.One, eL false (eL true eI) p0.Rows]), oX true false 2 (.agg [vI 0, .nils]), oX false false 2 (.agg [vI p0.Grain, .ref 5 0 x16.2.1.length]), oX false false 3 (.agg [vI (a7.length : Int), .ref 6 0 x16.2.2.length, .ref 9 0 s17.2.1.length]), oX false false 1 (.ref 7 0 x16.1.length), oR false 3 eTapi_Node x16.2.1, oR true 1 eI x16.2.2, oR true 1 eI x16.1, .loop 98 [(1, .ptr 0 0 0), (2, .ptr 1 0 0), (5, .ptr 2 0 0), (6, .ptr 3 0 0), (67, .fn (.func 68) [] [.ptr 4 0 0])] [68, 69] (cA Try.f13 [true, true, true, true, true, true, true, false, true, true]) (cB Try.f13 [true, true, true, true, true, true, true, false, true, true]) .busy none, oR false 1 (eL true eI) s17.2.1, oR true 1 eI s17.2.2, oR true 1 eI a25], 98⟩) false (by kernel_rfl) (.inl rfl) (elems_lst (fun _ => rfl)) rfl (by kernel_rfl) (by kernel_rfl) h (fun h => ?_)
    refine bsR (parts := [(0, eL true eI a25)]) (ids := [11]) (es := [(11, .row false true true true 1 (List.map eI a25)), (12, .row false false true (List.all [eL true eI a25] AV.scs) 1 [eL true eI a25])]) (S := ⟨(s13_88 x24 s17 p0 a25) ++ [(87, .ref 11 0 a25.length), (88, .ref 12 0 1)], [oX true false 4 (.agg [vI p0.Grain, vI p0.Count, vI p0.One, eL false (eL true eI) p0.Rows]), oX true false 2 (.agg [vI 0, .nils]), oX false false 2 (.agg [vI p0.Grain, .ref 5 0 x16.2.1.length]), oX false false 3 (.agg [vI (a7.length : Int), .ref 6 0 x16.2.2.length, .ref 9 0 s17.2.1.length]), oX false false 1 (.ref 7 0 x16.1.length), oR false 3 eTapi_Node x16.2.1, oR true 1 eI x16.2.2, oR true 1 eI x16.1, .loop 98 [(1, .ptr 0 0 0), (2, .ptr 1 0 0), (5, .ptr 2 0 0), (6, .ptr 3 0 0), (67, .fn (.func 68) [] [.ptr 4 0 0])] [68, 69] (cA Try.f13 [true, true, true, true, true, true, true, false, true, true]) (cB Try.f13 [true, true, true, true, true, true, true, false, true, true]) .busy none, oR false 1 (eL true eI) s17.2.1, oR true 1 eI s17.2.2, .row false true true true 1 (List.map eI a25), .row false false true false 1 [eL true eI a25]], 98⟩) [.lst true] false rfl (sparts_snap rfl (snap_full rfl) sparts_nil (by rfl)) (by kernel_rfl) ?_
    refine appR (enc := (eL true eI)) (l := s17.2.1) (m := ([a25] : (List (List Int)))) (w := 1) (bytes := 24) (ob := 9) (nr := true) (fl := false) (nr' := true) (fl' := false) (b := .ref 12 0 1) (rds := [12]) (S := ⟨(s13_88 x24 s17 p0 a25) ++ [(87, .ref 11 0 a25.length), (88, .ref 12 0 1), (89, .ref 13 0 ((s17.2.1 ++ ([a25] : (List (List Int)))).length))], [oX true false 4 (.agg [vI p0.Grain, vI p0.Count, vI p0.One, eL false (eL true eI) p0.Rows]), oX true false 2 (.agg [vI 0, .nils]), oX false false 2 (.agg [vI p0.Grain, .ref 5 0 x16.2.1.length]), oX false false 3 (.agg [vI (a7.length : Int), .ref 6 0 x16.2.2.length, .ref 9 0 s17.2.1.length]), oX false false 1 (.ref 7 0 x16.1.length), oR false 3 eTapi_Node x16.2.1, oR true 1 eI x16.2.2, oR true 1 eI x16.1, .loop 98 [(1, .ptr 0 0 0), (2, .ptr 1 0 0), (5, .ptr 2 0 0), (6, .ptr 3 0 0), (67, .fn (.func 68) [] [.ptr 4 0 0])] [68, 69] (cA Try.f13 [true, true, true, true, true, true, true, false, true, true]) (cB Try.f13 [true, true, true, true, true, true, true, false, true, true]) .busy none, .dead, oR true 1 eI s17.2.2, .row false true true true 1 (List.map eI a25), .row false false true false 1 [eL true eI a25], oR false 1 (eL true eI) (s17.2.1 ++ ([a25] : (List (List Int))))], 98⟩) false (by kernel_rfl) rfl (by kernel_rfl) rfl (by kernel_rfl) (by kernel_rfl) h (fun h => ?_)
    refine sy 2 12 (rgd ?_)
    refine ez ?_
    refine reg_end rfl (wcT (wp_skip (wp_seq (wp_block (sq (wp_seq (wp_block ?_)))))))
    refine wwh h (fun s27 => ⟨[(0, .yld 8), (1, .ptr 4 0 0), (3, .ref 10 0 s27.2.length), (4, vI s17.1), (5, vI s27.1)], [oX true false 4 (.agg [vI p0.Grain, vI p0.Count, vI p0.One, eL false (eL true eI) p0.Rows]), oX true false 2 (.agg [vI 0, .nils]), oX false false 2 (.agg [vI p0.Grain, .ref 5 0 x16.2.1.length]), oX false false 3 (.agg [vI (a7.length : Int), .ref 6 0 x16.2.2.length, .ref 9 0 ((s17.2.1 ++ ([a25] : (List (List Int)))).length)]), oX false false 1 (.ref 7 0 x16.1.length), oR false 3 eTapi_Node x16.2.1, oR true 1 eI x16.2.2, oR true 1 eI x16.1, .loop 98 [(1, .ptr 0 0 0), (2, .ptr 1 0 0), (5, .ptr 2 0 0), (6, .ptr 3 0 0), (67, .fn (.func 68) [] [.ptr 4 0 0])] [68, 69] (cA Try.f13 [true, true, true, true, true, true, true, false, true, true]) (cB Try.f13 [true, true, true, true, true, true, true, false, true, true]) .ready none, oR false 1 (eL true eI) (s17.2.1 ++ ([a25] : (List (List Int)))), oR true 1 eI s27.2], 45⟩) (fun v out => out = .go (.exit 2) ⟨[(0, .yld 8), (1, .ptr 4 0 0), (3, .ref 10 0 v.2.length), (4, vI s17.1), (5, vI v.1)], [oX true false 4 (.agg [vI p0.Grain, vI p0.Count, vI p0.One, eL false (eL true eI) p0.Rows]), oX true false 2 (.agg [vI 0, .nils]), oX false false 2 (.agg [vI p0.Grain, .ref 5 0 x16.2.1.length]), oX false false 3 (.agg [vI (a7.length : Int), .ref 6 0 x16.2.2.length, .ref 9 0 ((s17.2.1 ++ ([a25] : (List (List Int)))).length)]), oX false false 1 (.ref 7 0 x16.1.length), oR false 3 eTapi_Node x16.2.1, oR true 1 eI x16.2.2, oR true 1 eI x16.1, .loop 98 [(1, .ptr 0 0 0), (2, .ptr 1 0 0), (5, .ptr 2 0 0), (6, .ptr 3 0 0), (67, .fn (.func 68) [] [.ptr 4 0 0])] [68, 69] (cA Try.f13 [true, true, true, true, true, true, true, false, true, true]) (cB Try.f13 [true, true, true, true, true, true, true, false, true, true]) .ready none, oR false 1 (eL true eI) (s17.2.1 ++ ([a25] : (List (List Int)))), oR true 1 eI v.2], 45⟩) (wk_gc (live := [0, 1, 3, 4, 5]) (keep := [13, 10]) (by kernel_rfl)) ?_ ?_
    · intro s27 o h
      unfold g_lift_Ground_b2 at h
      refine wp_seq (wp_seq (rga hfol (sy 3 3 ?_)))
      refine rbr (S := fun b28 => ⟨[(0, .yld 8), (1, .ptr 4 0 0), (3, .ref 10 0 s27.2.length), (4, vI s17.1), (5, vI s27.1), (18, vI s27.1), (19, vB b28), (20, vB b28)], [oX true false 4 (.agg [vI p0.Grain, vI p0.Count, vI p0.One, eL false (eL true eI) p0.Rows]), oX true false 2 (.agg [vI 0, .nils]), oX false false 2 (.agg [vI p0.Grain, .ref 5 0 x16.2.1.length]), oX false false 3 (.agg [vI (a7.length : Int), .ref 6 0 x16.2.2.length, .ref 9 0 ((s17.2.1 ++ ([a25] : (List (List Int)))).length)]), oX false false 1 (.ref 7 0 x16.1.length), oR false 3 eTapi_Node x16.2.1, oR true 1 eI x16.2.2, oR true 1 eI x16.1, .loop 98 [(1, .ptr 0 0 0), (2, .ptr 1 0 0), (5, .ptr 2 0 0), (6, .ptr 3 0 0), (67, .fn (.func 68) [] [.ptr 4 0 0])] [68, 69] (cA Try.f13 [true, true, true, true, true, true, true, false, true, true]) (cB Try.f13 [true, true, true, true, true, true, true, false, true, true]) .ready none, oR false 1 (eL true eI) (s17.2.1 ++ ([a25] : (List (List Int)))), oR true 1 eI s27.2], 45⟩) h (fun q29 h => ?_) (fun q29 h => ?_)
      · refine sy 2 5 ?_
        refine bind_elim h (fun a30 q31 h => ?_)
        refine idxY (enc := eI) (l := s27.2) (n := s27.1) (w := 1) (ob := 10) (ro := false) (nr := true) (fl := true) q31 ?_
        refine loadY (enc := eI) (l := s27.2) (n := s27.1) (w := 1) (ob := 10) (c := 0) (bx := false) (ro := false) (nr := true) (fl := true) q31 ?_
        refine sy 2 9 ?_
        refine bind_elim h (fun a32 q33 h => ?_)
        refine idxY (enc := eI) (l := x16.1) (n := s27.1) (w := 1) (ob := 7) (ro := false) (nr := true) (fl := true) q33 ?_
        refine loadY (enc := eI) (l := x16.1) (n := s27.1) (w := 1) (ob := 7) (c := 0) (bx := false) (ro := false) (nr := true) (fl := true) q33 ?_
        refine sgy 3 14 (S := ⟨[(0, .yld 8), (1, .ptr 4 0 0), (3, .ref 10 0 s27.2.length), (4, vI s17.1), (5, vI s27.1), (18, vI s27.1), (19, vB true), (20, vB true), (21, .ref 10 0 s27.2.length), (22, vI s27.1)] ++ [(23, .ptr 10 (Int.toNat s27.1) 0), (24, vI a30), (25, .ref 7 0 x16.1.length), (26, vI s27.1), (27, .ptr 7 (Int.toNat s27.1) 0), (28, vI a32), (29, vI (IntKind.i64.wrap (a32 - 1))), (30, vB (a30 == (IntKind.i64.wrap (a32 - 1)))), (31, vB (a30 == (IntKind.i64.wrap (a32 - 1))))], [oX true false 4 (.agg [vI p0.Grain, vI p0.Count, vI p0.One, eL false (eL true eI) p0.Rows]), oX true false 2 (.agg [vI 0, .nils]), oX false false 2 (.agg [vI p0.Grain, .ref 5 0 x16.2.1.length]), oX false false 3 (.agg [vI (a7.length : Int), .ref 6 0 x16.2.2.length, .ref 9 0 ((s17.2.1 ++ ([a25] : (List (List Int)))).length)]), oX false false 1 (.ref 7 0 x16.1.length), oR false 3 eTapi_Node x16.2.1, oR true 1 eI x16.2.2, oR true 1 eI x16.1, .loop 98 [(1, .ptr 0 0 0), (2, .ptr 1 0 0), (5, .ptr 2 0 0), (6, .ptr 3 0 0), (67, .fn (.func 68) [] [.ptr 4 0 0])] [68, 69] (cA Try.f13 [true, true, true, true, true, true, true, false, true, true]) (cB Try.f13 [true, true, true, true, true, true, true, false, true, true]) .ready none, oR false 1 (eL true eI) (s17.2.1 ++ ([a25] : (List (List Int)))), oR true 1 eI s27.2], 45⟩) ?_
        refine rgd ?_
        refine wbz h (fun q35 h => ?_) (fun q35 h => ?_)
        · refine wp_skip (wp_block (wp_seq (wg [0, 1, 3, 4, 5] [9, 10] (reg_in (sz 2 2 ?_)))))
          refine idxR' (enc := eI) (l := s27.2) (n := s27.1) (w := 1) (ob := 10) (ro := false) (nr := true) (fl := true) (a := a30) (S := ⟨[(0, .yld 8), (1, .ptr 4 0 0), (3, .ref 10 0 s27.2.length), (4, vI s17.1), (5, vI s27.1), (32, .ref 10 0 s27.2.length), (33, vI s27.1), (34, .ptr 10 (Int.toNat s27.1) 0)], [oX true false 4 (.agg [vI p0.Grain, vI p0.Count, vI p0.One, eL false (eL true eI) p0.Rows]), oX true false 2 (.agg [vI 0, .nils]), oX false false 2 (.agg [vI p0.Grain, .ref 5 0 x16.2.1.length]), oX false false 3 (.agg [vI (a7.length : Int), .ref 6 0 x16.2.2.length, .ref 9 0 ((s17.2.1 ++ ([a25] : (List (List Int)))).length)]), oX false false 1 (.ref 7 0 x16.1.length), oR false 3 eTapi_Node x16.2.1, oR true 1 eI x16.2.2, oR true 1 eI x16.1, .loop 98 [(1, .ptr 0 0 0), (2, .ptr 1 0 0), (5, .ptr 2 0 0), (6, .ptr 3 0 0), (67, .fn (.func 68) [] [.ptr 4 0 0])] [68, 69] (cA Try.f13 [true, true, true, true, true, true, true, false, true, true]) (cB Try.f13 [true, true, true, true, true, true, true, false, true, true]) .ready none, oR false 1 (eL true eI) (s17.2.1 ++ ([a25] : (List (List Int)))), oR true 1 eI s27.2], 45⟩) (by kernel_rfl) (by kernel_rfl) (by kernel_rfl) q31 ?_
          refine storeR (enc := eI) (l := s27.2) (n := s27.1) (ob := 10) (c := 0) (a := a30) (a' := 0) (v := vI 0) (S := ⟨[(0, .yld 8), (1, .ptr 4 0 0), (3, .ref 10 0 s27.2.length), (4, vI s17.1), (5, vI s27.1), (32, .ref 10 0 s27.2.length), (33, vI s27.1), (34, .ptr 10 (Int.toNat s27.1) 0)], [oX true false 4 (.agg [vI p0.Grain, vI p0.Count, vI p0.One, eL false (eL true eI) p0.Rows]), oX true false 2 (.agg [vI 0, .nils]), oX false false 2 (.agg [vI p0.Grain, .ref 5 0 x16.2.1.length]), oX false false 3 (.agg [vI (a7.length : Int), .ref 6 0 x16.2.2.length, .ref 9 0 ((s17.2.1 ++ ([a25] : (List (List Int)))).length)]), oX false false 1 (.ref 7 0 x16.1.length), oR false 3 eTapi_Node x16.2.1, oR true 1 eI x16.2.2, oR true 1 eI x16.1, .loop 98 [(1, .ptr 0 0 0), (2, .ptr 1 0 0), (5, .ptr 2 0 0), (6, .ptr 3 0 0), (67, .fn (.func 68) [] [.ptr 4 0 0])] [68, 69] (cA Try.f13 [true, true, true, true, true, true, true, false, true, true]) (cB Try.f13 [true, true, true, true, true, true, true, false, true, true]) .ready none, oR false 1 (eL true eI) (s17.2.1 ++ ([a25] : (List (List Int)))), oR true 1 eI (List.set s27.2 (Int.toNat s27.1) 0)], 45⟩) false (by kernel_rfl) rfl q31 (by kernel_rfl) rfl (by kernel_rfl) (by kernel_rfl) (by kernel_rfl) ?_
          refine rw_knN (n := s27.2.length) (m := (List.set s27.2 (Int.toNat s27.1) 0).length) (S := fun n36 => ⟨[(0, .yld 8), (1, .ptr 4 0 0), (3, .ref 10 0 n36), (4, vI s17.1), (5, vI s27.1), (32, .ref 10 0 n36), (33, vI s27.1), (34, .ptr 10 (Int.toNat s27.1) 0)], [oX true false 4 (.agg [vI p0.Grain, vI p0.Count, vI p0.One, eL false (eL true eI) p0.Rows]), oX true false 2 (.agg [vI 0, .nils]), oX false false 2 (.agg [vI p0.Grain, .ref 5 0 x16.2.1.length]), oX false false 3 (.agg [vI (a7.length : Int), .ref 6 0 x16.2.2.length, .ref 9 0 ((s17.2.1 ++ ([a25] : (List (List Int)))).length)]), oX false false 1 (.ref 7 0 x16.1.length), oR false 3 eTapi_Node x16.2.1, oR true 1 eI x16.2.2, oR true 1 eI x16.1, .loop 98 [(1, .ptr 0 0 0), (2, .ptr 1 0 0), (5, .ptr 2 0 0), (6, .ptr 3 0 0), (67, .fn (.func 68) [] [.ptr 4 0 0])] [68, 69] (cA Try.f13 [true, true, true, true, true, true, true, false, true, true]) (cB Try.f13 [true, true, true, true, true, true, true, false, true, true]) .ready none, oR false 1 (eL true eI) (s17.2.1 ++ ([a25] : (List (List Int)))), oR true 1 eI (List.set s27.2 (Int.toNat s27.1) 0)], 45⟩) (by simp only [List.length_set]) ?_
          refine reg_end rfl (rn ?_)
          cases h
          exact ⟨_, rfl, (wk_gc (live := [0, 1, 3, 4, 5]) (keep := [9, 10]) (by kernel_rfl))⟩
        refine wgc [0, 1, 3, 4, 5] [9, 10] ⟨[(0, .yld 8), (1, .ptr 4 0 0), (3, .ref 10 0 s27.2.length), (4, vI s17.1), (5, vI s27.1)], [oX true false 4 (.agg [vI p0.Grain, vI p0.Count, vI p0.One, eL false (eL true eI) p0.Rows]), oX true false 2 (.agg [vI 0, .nils]), oX false false 2 (.agg [vI p0.Grain, .ref 5 0 x16.2.1.length]), oX false false 3 (.agg [vI (a7.length : Int), .ref 6 0 x16.2.2.length, .ref 9 0 ((s17.2.1 ++ ([a25] : (List (List Int)))).length)]), oX false false 1 (.ref 7 0 x16.1.length), oR false 3 eTapi_Node x16.2.1, oR true 1 eI x16.2.2, oR true 1 eI x16.1, .loop 98 [(1, .ptr 0 0 0), (2, .ptr 1 0 0), (5, .ptr 2 0 0), (6, .ptr 3 0 0), (67, .fn (.func 68) [] [.ptr 4 0 0])] [68, 69] (cA Try.f13 [true, true, true, true, true, true, true, false, true, true]) (cB Try.f13 [true, true, true, true, true, true, true, false, true, true]) .ready none, oR false 1 (eL true eI) (s17.2.1 ++ ([a25] : (List (List Int)))), oR true 1 eI s27.2], 45⟩ ?_
        refine wp_exit ?_
        cases h
        exact ⟨rfl, rfl⟩
      refine sy 11 14 (rgd (wcF ?_))
      refine wgc [0, 1, 3, 4, 5] [9, 10] ⟨[(0, .yld 8), (1, .ptr 4 0 0), (3, .ref 10 0 s27.2.length), (4, vI s17.1), (5, vI s27.1)], [oX true false 4 (.agg [vI p0.Grain, vI p0.Count, vI p0.One, eL false (eL true eI) p0.Rows]), oX true false 2 (.agg [vI 0, .nils]), oX false false 2 (.agg [vI p0.Grain, .ref 5 0 x16.2.1.length]), oX false false 3 (.agg [vI (a7.length : Int), .ref 6 0 x16.2.2.length, .ref 9 0 ((s17.2.1 ++ ([a25] : (List (List Int)))).length)]), oX false false 1 (.ref 7 0 x16.1.length), oR false 3 eTapi_Node x16.2.1, oR true 1 eI x16.2.2, oR true 1 eI x16.1, .loop 98 [(1, .ptr 0 0 0), (2, .ptr 1 0 0), (5, .ptr 2 0 0), (6, .ptr 3 0 0), (67, .fn (.func 68) [] [.ptr 4 0 0])] [68, 69] (cA Try.f13 [true, true, true, true, true, true, true, false, true, true]) (cB Try.f13 [true, true, true, true, true, true, true, false, true, true]) .ready none, oR false 1 (eL true eI) (s17.2.1 ++ ([a25] : (List (List Int)))), oR true 1 eI s27.2], 45⟩ ?_
      refine wp_exit ?_
      cases h
      exact ⟨rfl, rfl⟩
    intro x38 h out hx
    subst hx
    refine wp_seq (sq ?_)
    refine wbr (S := fun b39 => ⟨[(0, .yld 8), (1, .ptr 4 0 0), (3, .ref 10 0 x38.2.length), (4, vI s17.1), (5, vI x38.1), (37, vI x38.1), (38, vB b39)], [oX true false 4 (.agg [vI p0.Grain, vI p0.Count, vI p0.One, eL false (eL true eI) p0.Rows]), oX true false 2 (.agg [vI 0, .nils]), oX false false 2 (.agg [vI p0.Grain, .ref 5 0 x16.2.1.length]), oX false false 3 (.agg [vI (a7.length : Int), .ref 6 0 x16.2.2.length, .ref 9 0 ((s17.2.1 ++ ([a25] : (List (List Int)))).length)]), oX false false 1 (.ref 7 0 x16.1.length), oR false 3 eTapi_Node x16.2.1, oR true 1 eI x16.2.2, oR true 1 eI x16.1, .loop 98 [(1, .ptr 0 0 0), (2, .ptr 1 0 0), (5, .ptr 2 0 0), (6, .ptr 3 0 0), (67, .fn (.func 68) [] [.ptr 4 0 0])] [68, 69] (cA Try.f13 [true, true, true, true, true, true, true, false, true, true]) (cB Try.f13 [true, true, true, true, true, true, true, false, true, true]) .ready none, oR false 1 (eL true eI) (s17.2.1 ++ ([a25] : (List (List Int)))), oR true 1 eI x38.2], 45⟩) h (fun q40 h => ?_) (fun q40 h => ?_)
    · refine wcT ?_
      refine wgc [] [9] ⟨[], [oX true false 4 (.agg [vI p0.Grain, vI p0.Count, vI p0.One, eL false (eL true eI) p0.Rows]), oX true false 2 (.agg [vI 0, .nils]), oX false false 2 (.agg [vI p0.Grain, .ref 5 0 x16.2.1.length]), oX false false 3 (.agg [vI (a7.length : Int), .ref 6 0 x16.2.2.length, .ref 9 0 ((s17.2.1 ++ ([a25] : (List (List Int)))).length)]), oX false false 1 (.ref 7 0 x16.1.length), oR false 3 eTapi_Node x16.2.1, oR true 1 eI x16.2.2, oR true 1 eI x16.1, .loop 98 [(1, .ptr 0 0 0), (2, .ptr 1 0 0), (5, .ptr 2 0 0), (6, .ptr 3 0 0), (67, .fn (.func 68) [] [.ptr 4 0 0])] [68, 69] (cA Try.f13 [true, true, true, true, true, true, true, false, true, true]) (cB Try.f13 [true, true, true, true, true, true, true, false, true, true]) .ready none, oR false 1 (eL true eI) (s17.2.1 ++ ([a25] : (List (List Int))))], 45⟩ ?_
      refine wp_ret ?_
      cases h
      exact ⟨rfl, rfl⟩
    refine wcF (wp_skip (reg_in (sz 2 2 ?_)))
    refine bind_elim h (fun a41 q42 h => ?_)
    refine idxY (enc := eI) (l := x38.2) (n := x38.1) (w := 1) (ob := 10) (ro := false) (nr := true) (fl := true) q42 ?_
    refine loadY (enc := eI) (l := x38.2) (n := x38.1) (w := 1) (ob := 10) (c := 0) (bx := false) (ro := false) (nr := true) (fl := true) q42 ?_
    refine sz 1 5 ?_
    refine idxR' (enc := eI) (l := x38.2) (n := x38.1) (w := 1) (ob := 10) (ro := false) (nr := true) (fl := true) (a := a41) (S := ⟨[(0, .yld 8), (1, .ptr 4 0 0), (3, .ref 10 0 x38.2.length), (4, vI s17.1), (5, vI x38.1), (37, vI x38.1), (38, vB false), (39, .ref 10 0 x38.2.length), (40, vI x38.1), (41, .ptr 10 (Int.toNat x38.1) 0), (42, vI a41), (43, vI (IntKind.i64.wrap (a41 + 1)))] ++ [(44, .ptr 10 (Int.toNat x38.1) 0)], [oX true false 4 (.agg [vI p0.Grain, vI p0.Count, vI p0.One, eL false (eL true eI) p0.Rows]), oX true false 2 (.agg [vI 0, .nils]), oX false false 2 (.agg [vI p0.Grain, .ref 5 0 x16.2.1.length]), oX false false 3 (.agg [vI (a7.length : Int), .ref 6 0 x16.2.2.length, .ref 9 0 ((s17.2.1 ++ ([a25] : (List (List Int)))).length)]), oX false false 1 (.ref 7 0 x16.1.length), oR false 3 eTapi_Node x16.2.1, oR true 1 eI x16.2.2, oR true 1 eI x16.1, .loop 98 [(1, .ptr 0 0 0), (2, .ptr 1 0 0), (5, .ptr 2 0 0), (6, .ptr 3 0 0), (67, .fn (.func 68) [] [.ptr 4 0 0])] [68, 69] (cA Try.f13 [true, true, true, true, true, true, true, false, true, true]) (cB Try.f13 [true, true, true, true, true, true, true, false, true, true]) .ready none, oR false 1 (eL true eI) (s17.2.1 ++ ([a25] : (List (List Int)))), oR true 1 eI x38.2], 45⟩) (by kernel_rfl) (by kernel_rfl) (by kernel_rfl) q42 ?_
    refine storeR (enc := eI) (l := x38.2) (n := x38.1) (ob := 10) (c := 0) (a := a41) (a' := IntKind.i64.wrap (a41 + 1)) (v := vI (IntKind.i64.wrap (a41 + 1))) (S := ⟨[(0, .yld 8), (1, .ptr 4 0 0), (3, .ref 10 0 x38.2.length), (4, vI s17.1), (5, vI x38.1), (37, vI x38.1), (38, vB false), (39, .ref 10 0 x38.2.length), (40, vI x38.1), (41, .ptr 10 (Int.toNat x38.1) 0), (42, vI a41), (43, vI (IntKind.i64.wrap (a41 + 1)))] ++ [(44, .ptr 10 (Int.toNat x38.1) 0)], [oX true false 4 (.agg [vI p0.Grain, vI p0.Count, vI p0.One, eL false (eL true eI) p0.Rows]), oX true false 2 (.agg [vI 0, .nils]), oX false false 2 (.agg [vI p0.Grain, .ref 5 0 x16.2.1.length]), oX false false 3 (.agg [vI (a7.length : Int), .ref 6 0 x16.2.2.length, .ref 9 0 ((s17.2.1 ++ ([a25] : (List (List Int)))).length)]), oX false false 1 (.ref 7 0 x16.1.length), oR false 3 eTapi_Node x16.2.1, oR true 1 eI x16.2.2, oR true 1 eI x16.1, .loop 98 [(1, .ptr 0 0 0), (2, .ptr 1 0 0), (5, .ptr 2 0 0), (6, .ptr 3 0 0), (67, .fn (.func 68) [] [.ptr 4 0 0])] [68, 69] (cA Try.f13 [true, true, true, true, true, true, true, false, true, true]) (cB Try.f13 [true, true, true, true, true, true, true, false, true, true]) .ready none, oR false 1 (eL true eI) (s17.2.1 ++ ([a25] : (List (List Int)))), oR true 1 eI (List.set x38.2 (Int.toNat x38.1) (IntKind.i64.wrap (a41 + 1)))], 45⟩) false (by kernel_rfl) rfl q42 (by kernel_rfl) rfl (by kernel_rfl) (by kernel_rfl) (by kernel_rfl) ?_
    refine rw_knN (n := x38.2.length) (m := (List.set x38.2 (Int.toNat x38.1) (IntKind.i64.wrap (a41 + 1))).length) (S := fun n43 => ⟨[(0, .yld 8), (1, .ptr 4 0 0), (3, .ref 10 0 n43), (4, vI s17.1), (5, vI x38.1), (37, vI x38.1), (38, vB false), (39, .ref 10 0 n43), (40, vI x38.1), (41, .ptr 10 (Int.toNat x38.1) 0), (42, vI a41), (43, vI (IntKind.i64.wrap (a41 + 1))), (44, .ptr 10 (Int.toNat x38.1) 0)], [oX true false 4 (.agg [vI p0.Grain, vI p0.Count, vI p0.One, eL false (eL true eI) p0.Rows]), oX true false 2 (.agg [vI 0, .nils]), oX false false 2 (.agg [vI p0.Grain, .ref 5 0 x16.2.1.length]), oX false false 3 (.agg [vI (a7.length : Int), .ref 6 0 x16.2.2.length, .ref 9 0 ((s17.2.1 ++ ([a25] : (List (List Int)))).length)]), oX false false 1 (.ref 7 0 x16.1.length), oR false 3 eTapi_Node x16.2.1, oR true 1 eI x16.2.2, oR true 1 eI x16.1, .loop 98 [(1, .ptr 0 0 0), (2, .ptr 1 0 0), (5, .ptr 2 0 0), (6, .ptr 3 0 0), (67, .fn (.func 68) [] [.ptr 4 0 0])] [68, 69] (cA Try.f13 [true, true, true, true, true, true, true, false, true, true]) (cB Try.f13 [true, true, true, true, true, true, true, false, true, true]) .ready none, oR false 1 (eL true eI) (s17.2.1 ++ ([a25] : (List (List Int)))), oR true 1 eI (List.set x38.2 (Int.toNat x38.1) (IntKind.i64.wrap (a41 + 1)))], 45⟩) (by simp only [List.length_set]) ?_
    refine reg_end rfl (wg [0, 1, 3, 4] [9, 10] (rn ?_))
    cases h
    exact ⟨_, rfl, (wk_gc (live := [0, 1, 3, 4]) (keep := [9, 10]) (by kernel_rfl))⟩
  intro x45 h out hx
  subst hx
  refine ⟨.go .normal ⟨s13_45, (s13_114 p0 x16 a7 x45), 98⟩, by as_aux_lemma => kernel_rfl, ?_⟩
  refine wp_seq (reg_in ?_)
  refine sgz 3 3 (S := ⟨s13_45 ++ [(91, .ptr 2 0 1), (92, .ref 5 0 x16.2.1.length), (93, .agg [vI (a7.length : Int), .ref 6 0 x16.2.2.length, .ref 9 0 x45.length])], (s13_114 p0 x16 a7 x45), 98⟩) ?_
  refine bsR (parts := [(0, .agg [vI (a7.length : Int), eL true eI x16.2.2, eL false (eL true eI) x45])]) (ids := [6, 9]) (es := [(6, .row false true true true 1 (List.map eI x16.2.2)), (9, .row false true true false 1 (List.map (eL true eI) x45)), (10, .row false false true (List.all [.agg [vI (a7.length : Int), eL true eI x16.2.2, eL false (eL true eI) x45]] AV.scs) 3 [.agg [vI (a7.length : Int), eL true eI x16.2.2, eL false (eL true eI) x45]])]) (S := ⟨s13_45 ++ [(91, .ptr 2 0 1), (92, .ref 5 0 x16.2.1.length), (93, .agg [vI (a7.length : Int), .ref 6 0 x16.2.2.length, .ref 9 0 x45.length]), (94, .ref 10 0 1)], [oX true false 4 (.agg [vI p0.Grain, vI p0.Count, vI p0.One, eL false (eL true eI) p0.Rows]), oX true false 2 (.agg [vI 0, .nils]), oX false false 2 (.agg [vI p0.Grain, .ref 5 0 x16.2.1.length]), oX false false 3 (.agg [vI (a7.length : Int), .ref 6 0 x16.2.2.length, .ref 9 0 x45.length]), oX false false 1 (.ref 7 0 x16.1.length), oR false 3 eTapi_Node x16.2.1, .row false true true true 1 (List.map eI x16.2.2), oR true 1 eI x16.1, .dead, .row false true true false 1 (List.map (eL true eI) x45), .row false false true false 3 [.agg [vI (a7.length : Int), eL true eI x16.2.2, eL false (eL true eI) x45]]], 98⟩) [.keep, .lst true, .lst false] false rfl (sparts_snap rfl (snap_agg (msnap_cons rfl (msnap_cons (snap_full rfl) (msnap_cons (snap_full rfl) msnap_nil (by rfl)) (by rfl)) (by rfl))) sparts_nil (by rfl)) (by kernel_rfl) ?_
  refine appR (enc := eTapi_Node) (l := x16.2.1) (m := ([(Tapi_Node.mk (a7.length : Int) x16.2.2 x45)] : (List Tapi_Node))) (w := 3) (bytes := 56) (ob := 5) (nr := true) (fl := false) (nr' := true) (fl' := false) (b := .ref 10 0 1) (rds := [10]) (S := ⟨s13_45 ++ [(91, .ptr 2 0 1), (92, .ref 5 0 x16.2.1.length), (93, .agg [vI (a7.length : Int), .ref 6 0 x16.2.2.length, .ref 9 0 x45.length]), (94, .ref 10 0 1), (95, .ref 11 0 ((x16.2.1 ++ ([(Tapi_Node.mk (a7.length : Int) x16.2.2 x45)] : (List Tapi_Node))).length))], [oX true false 4 (.agg [vI p0.Grain, vI p0.Count, vI p0.One, eL false (eL true eI) p0.Rows]), oX true false 2 (.agg [vI 0, .nils]), oX false false 2 (.agg [vI p0.Grain, .ref 5 0 x16.2.1.length]), oX false false 3 (.agg [vI (a7.length : Int), .ref 6 0 x16.2.2.length, .ref 9 0 x45.length]), oX false false 1 (.ref 7 0 x16.1.length), .dead, .row false true true true 1 (List.map eI x16.2.2), oR true 1 eI x16.1, .dead, .row false true true false 1 (List.map (eL true eI) x45), .row false false true false 3 [.agg [vI (a7.length : Int), eL true eI x16.2.2, eL false (eL true eI) x45]], oR false 3 eTapi_Node (x16.2.1 ++ ([(Tapi_Node.mk (a7.length : Int) x16.2.2 x45)] : (List Tapi_Node)))], 98⟩) false (by kernel_rfl) rfl (by kernel_rfl) rfl (by kernel_rfl) (by kernel_rfl) h (fun h => ?_)
  refine sz 2 7 (reg_end rfl (wp_seq (wg [2, 5] [1, 2, 11] (rn (wg [2, 3] [0, 2] ?_)))))
  cases h
  exact wp_ret (show fnOut _ _ _ _ = _ from by kernel_rfl)
end Go.Ab
