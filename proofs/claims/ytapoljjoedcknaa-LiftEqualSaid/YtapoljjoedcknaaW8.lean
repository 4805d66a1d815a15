/- What the functions of this program compute, as plain functions, and that the program computes them. No conditions. -/
import Derived.Test.YtapoljjoedcknaaEng7
import Derived.Test.YtapoljjoedcknaaProg
import Derived.KernelRfl
set_option linter.all false
namespace Go.Ab
open Go
set_option linter.unusedVariables false
set_option linter.unusedSimpArgs false
structure Tapi_Lift where
  Grain : Int
  Count : Int
  One : Int
  Rows : (List (List Int))
  deriving DecidableEq, Inhabited
@[reducible] def eTapi_Lift (x : Tapi_Lift) : AV := .agg [vI x.Grain, vI x.Count, vI x.One, eL false (eL true eI) x.Rows]
structure Tapi_Node where
  Card : Int
  Parents : (List Int)
  Rows : (List (List Int))
  deriving DecidableEq, Inhabited
@[reducible] def eTapi_Node (x : Tapi_Node) : AV := .agg [vI x.Card, eL true eI x.Parents, eL false (eL true eI) x.Rows]
structure Tapi_Net where
  Grain : Int
  Nodes : (List Tapi_Node)
  deriving DecidableEq, Inhabited
@[reducible] def eTapi_Net (x : Tapi_Net) : AV := .agg [vI x.Grain, eL false eTapi_Node x.Nodes]
structure Tlift_counter where
  Lift : Tapi_Lift
  zeros : Int
  ones : Int
  child : Int
  deriving DecidableEq, Inhabited
@[reducible] def eTlift_counter (x : Tlift_counter) : AV := .agg [vI x.Lift.Grain, vI x.Lift.Count, vI x.Lift.One, eL false (eL true eI) x.Lift.Rows, vI x.zeros, vI x.ones, vI x.child]
structure Tapi_Q where
  N : Int
  D : Int
  deriving DecidableEq, Inhabited
@[reducible] def eTapi_Q (x : Tapi_Q) : AV := .agg [vI x.N, vI x.D]
structure Tharuspexlaw14_Known where
  Zeros : Int
  Ones : Int
  Child : Int
  deriving DecidableEq, Inhabited
@[reducible] def eTharuspexlaw14_Known (x : Tharuspexlaw14_Known) : AV := .agg [vI x.Zeros, vI x.Ones, vI x.Child]
structure Tharuspexref14_Draft where
  Grain : Int
  Count : Int
  One : Int
  Card : Int
  L : (List Int)
  deriving DecidableEq, Inhabited
@[reducible] def eTharuspexref14_Draft (x : Tharuspexref14_Draft) : AV := .agg [.int .u8 x.Grain, .int .u8 x.Count, .int .u8 x.One, .int .u8 x.Card, eL true (AV.int .u8) x.L]
structure Tharuspexref14_Bend where
  What : Int
  J : Int
  At : Int
  N : Int
  deriving DecidableEq, Inhabited
@[reducible] def eTharuspexref14_Bend (x : Tharuspexref14_Bend) : AV := .agg [.int .u8 x.What, .int .u8 x.J, .int .u8 x.At, vI x.N]
structure Tnet_network where
  Net : Tapi_Net
  cards : (List Int)
  sets : (List Int)
  order : (List Int)
  deriving DecidableEq, Inhabited
@[reducible] def eTnet_network (x : Tnet_network) : AV := .agg [vI x.Net.Grain, eL false eTapi_Node x.Net.Nodes, eL true eI x.cards, eL true (AV.int .u64) x.sets, eL true eI x.order]
structure Tapi_Factor where
  Vars : (List Int)
  Cards : (List Int)
  W : (List Int)
  deriving DecidableEq, Inhabited
@[reducible] def eTapi_Factor (x : Tapi_Factor) : AV := .agg [eL true eI x.Vars, eL true eI x.Cards, eL true eI x.W]
structure Tjoint_question where
  Net : Tapi_Net
  factors : (List Tapi_Factor)
  steps : (List (List Int))
  deriving DecidableEq, Inhabited
@[reducible] def eTjoint_question (x : Tjoint_question) : AV := .agg [vI x.Net.Grain, eL false eTapi_Node x.Net.Nodes, eL false eTapi_Factor x.factors, eL false (eL true eI) x.steps]
structure Tjoint_weighted where
  number : Int
  weight : Int
  vals : (List Int)
  deriving DecidableEq, Inhabited
@[reducible] def eTjoint_weighted (x : Tjoint_weighted) : AV := .agg [vI x.number, vI x.weight, eL true eI x.vals]
def g_lift_Check_b0 (a24 : (List Int)) (s28 : (Int × Int)) : Option (Step (Int × Int) (Unit ⊕ Int)) :=
  if (decide (s28.2 < (a24.length : Int))) = true then
    (lkI a24 s28.2).bind fun a31 =>
    if (decide (a31 < 0)) = true then
      some (.done (Sum.inl ()))
    else
    if (decide (a31 > s28.1)) = true then
      some (.done (Sum.inl ()))
    else
    some (.next (IntKind.i64.wrap (s28.1 - a31), IntKind.i64.wrap (s28.2 + 1)))
  else
  some (.done (Sum.inr s28.1))
def g_lift_Check_b1 (p0 : Tapi_Lift) (a15 : (List Int)) (s21 : Int) : Option (Step Int (Unit ⊕ Unit)) :=
  if (decide (s21 < (p0.Rows.length : Int))) = true then
    (lkI p0.Rows s21).bind fun a24 =>
    if ((a24.length : Int) != (a15.length : Int)) = true then
      some (.done (Sum.inl ()))
    else
    (whileN fuel (g_lift_Check_b0 a24) (p0.Grain, 0)).bind fun x37 => match x37 with
    | .inl x38 => (
      some (.done (Sum.inl ())))
    | .inr x39 => (
      if (x39 != 0) = true then
        some (.done (Sum.inl ()))
      else
      some (.next (IntKind.i64.wrap (s21 + 1))))
  else
  some (.done (Sum.inr ()))
def g_lift_Check (p0 : Tapi_Lift) : Option Int :=
  if (decide (p0.Grain < 1)) = true then
    some 140
  else
  if (decide (p0.Grain > 20)) = true then
    some 140
  else
  if (decide (p0.Count < 1)) = true then
    some 140
  else
  if (decide (p0.Count > 10)) = true then
    some 140
  else
  if (decide (p0.One < 0)) = true then
    some 140
  else
  if (decide (p0.One > p0.Grain)) = true then
    some 140
  else
  if ((p0.Rows.length : Int) != (IntKind.i64.wrap (p0.Count + 1))) = true then
    some 140
  else
  (lkI p0.Rows 0).bind fun a15 =>
  if (decide ((a15.length : Int) < 2)) = true then
    some 140
  else
  if (decide ((a15.length : Int) > 4)) = true then
    some 140
  else
  (whileN fuel (g_lift_Check_b1 p0 a15) 0).bind fun x42 => match x42 with
  | .inl x43 => (
    some 140)
  | .inr x44 => (
    some 0)
def g_lift_Ground_b0 (p0 : Tapi_Lift) (s9 : (Int × (List Int) × (List Tapi_Node) × (List Int))) : Option (Step (Int × (List Int) × (List Tapi_Node) × (List Int)) ((List Int) × (List Tapi_Node) × (List Int))) :=
  if (decide (s9.1 < p0.Count)) = true then
    if (s9.2.2.1 ++ ([(Tapi_Node.mk 2 [] [[IntKind.i64.wrap (p0.Grain - p0.One), p0.One]])] : (List Tapi_Node))).length * 56 ≤ 140737488355328 then
      if (s9.2.2.2 ++ ([s9.1] : (List Int))).length * 8 ≤ 140737488355328 then
        (lkI s9.2.1 s9.1).bind fun a12 =>
        some (.next (IntKind.i64.wrap (s9.1 + 1), (List.set s9.2.1 (Int.toNat s9.1) 2), (s9.2.2.1 ++ ([(Tapi_Node.mk 2 [] [[IntKind.i64.wrap (p0.Grain - p0.One), p0.One]])] : (List Tapi_Node))), (s9.2.2.2 ++ ([s9.1] : (List Int)))))
      else none
    else none
  else
  some (.done (s9.2.1, s9.2.2.1, s9.2.2.2))
def g_lift_Ground_b1 (s17 : (Int × (List (List Int)) × (List Int))) (s18 : (Int × Int)) : Option (Step (Int × Int) Int) :=
  if (decide (s18.2 < (s17.2.2.length : Int))) = true then
    (lkI s17.2.2 s18.2).bind fun a21 =>
    some (.next (IntKind.i64.wrap (s18.1 + a21), IntKind.i64.wrap (s18.2 + 1)))
  else
  some (.done s18.1)
def g_lift_Ground_b2 (x16 : ((List Int) × (List Tapi_Node) × (List Int))) (s27 : (Int × (List Int))) : Option (Step (Int × (List Int)) (Int × (List Int))) :=
  if (decide (s27.1 ≥ 0)) = true then
    (lkI s27.2 s27.1).bind fun a30 =>
    (lkI x16.1 s27.1).bind fun a32 =>
    if (a30 == (IntKind.i64.wrap (a32 - 1))) = true then
      some (.next (IntKind.i64.wrap (s27.1 - 1), (List.set s27.2 (Int.toNat s27.1) 0)))
    else
    some (.done (s27.1, s27.2))
  else
  some (.done (s27.1, s27.2))
def g_lift_Ground_b3 (p0 : Tapi_Lift) (x16 : ((List Int) × (List Tapi_Node) × (List Int))) (s17 : (Int × (List (List Int)) × (List Int))) : Option (Step (Int × (List (List Int)) × (List Int)) (List (List Int))) :=
  (whileN fuel (g_lift_Ground_b1 s17) (0, 0)).bind fun x24 =>
  (lkI p0.Rows x24).bind fun a25 =>
  if a25.length * 8 ≤ 140737488355328 then
    if (s17.2.1 ++ ([a25] : (List (List Int)))).length * 24 ≤ 140737488355328 then
      (whileN fuel (g_lift_Ground_b2 x16) (IntKind.i64.wrap ((x16.1.length : Int) - 1), s17.2.2)).bind fun x38 =>
      if (decide (x38.1 < 0)) = true then
        some (.done (s17.2.1 ++ ([a25] : (List (List Int)))))
      else
      (lkI x38.2 x38.1).bind fun a41 =>
      some (.next (IntKind.i64.wrap (s17.1 + 1), (s17.2.1 ++ ([a25] : (List (List Int)))), (List.set x38.2 (Int.toNat x38.1) (IntKind.i64.wrap (a41 + 1)))))
    else none
  else none
def g_lift_Ground (p0 : Tapi_Lift) : Option (Tapi_Net × Int) :=
  (g_lift_Check p0).bind fun x1 =>
  if (x1 != 0) = true then
    some ((Tapi_Net.mk 0 ([] : (List Tapi_Node))), x1)
  else
  if (decide (p0.Count > 7)) = true then
    some ((Tapi_Net.mk 0 ([] : (List Tapi_Node))), 6)
  else
  (lkI p0.Rows 0).bind fun a7 =>
  if 0 ≤ p0.Count ∧ p0.Count ≤ p0.Count ∧ p0.Count * 8 ≤ 140737488355328 then
    (whileN fuel (g_lift_Ground_b0 p0) (0, (List.replicate (Int.toNat p0.Count) (0 : Int)), ([] : (List Tapi_Node)), ([] : (List Int)))).bind fun x16 =>
    if 0 ≤ (x16.1.length : Int) ∧ (x16.1.length : Int) ≤ (x16.1.length : Int) ∧ (x16.1.length : Int) * 8 ≤ 140737488355328 then
      (whileN fuel (g_lift_Ground_b3 p0 x16) (0, ([] : (List (List Int))), (List.replicate (Int.toNat (x16.1.length : Int)) (0 : Int)))).bind fun x45 =>
      if (x16.2.1 ++ ([(Tapi_Node.mk (a7.length : Int) x16.2.2 x45)] : (List Tapi_Node))).length * 56 ≤ 140737488355328 then
        some ((Tapi_Net.mk p0.Grain (x16.2.1 ++ ([(Tapi_Node.mk (a7.length : Int) x16.2.2 x45)] : (List Tapi_Node)))), 0)
      else none
    else none
  else none
def g_weigh_Ratio_b0  (s1 : (Int × Int)) : Option (Step (Int × Int) Int) :=
  if (s1.2 != 0) = true then
    if s1.2 ≠ 0 then
      some (.next (s1.2, Int.tmod s1.1 s1.2))
    else none
  else
  some (.done s1.1)
def g_weigh_Ratio (p0 : Int) (p1 : Int) : Option Tapi_Q :=
  (whileN fuel (g_weigh_Ratio_b0) ((if (IntKind.i64.wrap (0 - p0)) > p0 then (IntKind.i64.wrap (0 - p0)) else p0), p1)).bind fun x5 =>
  if x5 ≠ 0 then
    if x5 ≠ 0 then
      some (Tapi_Q.mk (IntKind.i64.wrap (Int.tdiv p0 x5)) (IntKind.i64.wrap (Int.tdiv p1 x5)))
    else none
  else none
def g_lift_counter_numbers_b0 (p0 : Tlift_counter) (s1 : (Int × (List Int))) : Option (Step (Int × (List Int)) (List Int)) :=
  if (decide (s1.1 < (IntKind.i64.wrap (p0.Lift.Count + 1)))) = true then
    if (s1.2 ++ ([s1.1] : (List Int))).length * 8 ≤ 140737488355328 then
      some (.next (IntKind.i64.wrap (s1.1 + 1), (s1.2 ++ ([s1.1] : (List Int)))))
    else none
  else
  some (.done s1.2)
def g_lift_counter_numbers (p0 : Tlift_counter) : Option (List Int) :=
  (whileN fuel (g_lift_counter_numbers_b0 p0) (0, ([] : (List Int)))).bind fun x5 =>
  some x5
def g_lift_counter_unknown (p0 : Tlift_counter) : Option Int :=
  some (IntKind.i64.wrap ((IntKind.i64.wrap (p0.Lift.Count - p0.zeros)) - p0.ones))
def g_lift_binomial_b0 (s1 : (Int × (List Int) × (List Int))) (s4 : (Int × (List Int))) : Option (Step (Int × (List Int)) (List Int)) :=
  if (decide (s4.1 < (s1.2.2.length : Int))) = true then
    (lkI s1.2.2 s4.1).bind fun a7 =>
    (lkI s4.2 s4.1).bind fun a9 =>
    (lkI (List.set s4.2 (Int.toNat s4.1) (IntKind.i64.wrap (a9 + a7))) (IntKind.i64.wrap (s4.1 + 1))).bind fun a11 =>
    (lkI (List.set s4.2 (Int.toNat s4.1) (IntKind.i64.wrap (a9 + a7))) (IntKind.i64.wrap (s4.1 + 1))).bind fun a13 =>
    some (.next (IntKind.i64.wrap (s4.1 + 1), (List.set (List.set s4.2 (Int.toNat s4.1) (IntKind.i64.wrap (a9 + a7))) (Int.toNat (IntKind.i64.wrap (s4.1 + 1))) (IntKind.i64.wrap (a11 + a7)))))
  else
  some (.done s4.2)
def g_lift_binomial_b1 (p0 : Int) (s1 : (Int × (List Int) × (List Int))) : Option (Step (Int × (List Int) × (List Int)) ((List Int) × (List Int))) :=
  if (decide (s1.1 < p0)) = true then
    if 0 ≤ (IntKind.i64.wrap ((s1.2.2.length : Int) + 1)) ∧ (IntKind.i64.wrap ((s1.2.2.length : Int) + 1)) ≤ (IntKind.i64.wrap ((s1.2.2.length : Int) + 1)) ∧ (IntKind.i64.wrap ((s1.2.2.length : Int) + 1)) * 8 ≤ 140737488355328 then
      (whileN fuel (g_lift_binomial_b0 s1) (0, (List.replicate (Int.toNat (IntKind.i64.wrap ((s1.2.2.length : Int) + 1))) (0 : Int)))).bind fun x18 =>
      some (.next (IntKind.i64.wrap (s1.1 + 1), s1.2.2, x18))
    else none
  else
  some (.done (s1.2.1, s1.2.2))
def g_lift_binomial (p0 : Int) : Option (List Int) :=
  (whileN fuel (g_lift_binomial_b1 p0) (0, ([] : (List Int)), ([1] : (List Int)))).bind fun x20 =>
  some x20.2
def g_weigh_Whole_b0 (p1 : Int) (p0 : Int) (s1 : (Int × Int)) : Option (Step (Int × Int) Int) :=
  if (decide (s1.2 < p1)) = true then
    some (.next (IntKind.i64.wrap (s1.1 * p0), IntKind.i64.wrap (s1.2 + 1)))
  else
  some (.done s1.1)
def g_weigh_Whole (p0 : Int) (p1 : Int) : Option Int :=
  (whileN fuel (g_weigh_Whole_b0 p1 p0) (1, 0)).bind fun x5 =>
  some x5
def g_lift_counter_members (p0 : Tlift_counter) (p1 : Int) (p2 : Int) : Option Int :=
  (g_weigh_Whole p0.Lift.One p1).bind fun x1 =>
  (g_weigh_Whole (IntKind.i64.wrap (p0.Lift.Grain - p0.Lift.One)) p2).bind fun x3 =>
  some (IntKind.i64.wrap (x1 * x3))
def g_lift_counter_shown (p0 : Tlift_counter) (p1 : Int) : Option Int :=
  if (decide (p0.child < 0)) = true then
    some p0.Lift.Grain
  else
  (lkI p0.Lift.Rows p1).bind fun a3 =>
  (lkI a3 p0.child).bind fun a5 =>
  some a5
def g_lift_counter_mass_b0 (x5 : (List Int)) (p0 : Tlift_counter) (x3 : (List Int)) (s7 : (Int × Int)) : Option (Step (Int × Int) Int) :=
  if (decide (s7.2 < (x5.length : Int))) = true then
    (lkI x5 s7.2).bind fun a10 =>
    if (decide (a10 < p0.ones)) = true then
      some (.next (IntKind.i64.wrap (s7.1 + 0), IntKind.i64.wrap (s7.2 + 1)))
    else
    if (decide (a10 > (IntKind.i64.wrap (p0.Lift.Count - p0.zeros)))) = true then
      some (.next (IntKind.i64.wrap (s7.1 + 0), IntKind.i64.wrap (s7.2 + 1)))
    else
    (lkI x3 (IntKind.i64.wrap (a10 - p0.ones))).bind fun a16 =>
    (g_lift_counter_members p0 a10 (IntKind.i64.wrap (p0.Lift.Count - a10))).bind fun x18 =>
    (g_lift_counter_shown p0 a10).bind fun x20 =>
    some (.next (IntKind.i64.wrap (s7.1 + (IntKind.i64.wrap ((IntKind.i64.wrap (a16 * x18)) * x20))), IntKind.i64.wrap (s7.2 + 1)))
  else
  some (.done s7.1)
def g_lift_counter_mass (p0 : Tlift_counter) : Option Int :=
  (g_lift_counter_unknown p0).bind fun x1 =>
  (g_lift_binomial x1).bind fun x3 =>
  (g_lift_counter_numbers p0).bind fun x5 =>
  (whileN fuel (g_lift_counter_mass_b0 x5 p0 x3) (0, 0)).bind fun x23 =>
  some x23
def g_lift_Prob (p0 : Tapi_Lift) (p1 : Int) (p2 : Int) (p3 : Int) : Option (Tapi_Q × Int) :=
  (g_lift_Check p0).bind fun x1 =>
  if (x1 != 0) = true then
    some ((Tapi_Q.mk 0 0), x1)
  else
  if (decide (p1 < 0)) = true then
    some ((Tapi_Q.mk 0 0), 2)
  else
  if (decide (p1 > p0.Count)) = true then
    some ((Tapi_Q.mk 0 0), 2)
  else
  if (decide (p2 < 0)) = true then
    some ((Tapi_Q.mk 0 0), 2)
  else
  if (decide (p2 > (IntKind.i64.wrap (p0.Count - p1)))) = true then
    some ((Tapi_Q.mk 0 0), 2)
  else
  if (decide (p3 < (-1))) = true then
    some ((Tapi_Q.mk 0 0), 2)
  else
  (lkI p0.Rows 0).bind fun a16 =>
  if (decide (p3 ≥ (a16.length : Int))) = true then
    some ((Tapi_Q.mk 0 0), 2)
  else
  (g_lift_counter_mass (Tlift_counter.mk p0 p1 p2 p3)).bind fun x20 =>
  (g_weigh_Whole p0.Grain (IntKind.i64.wrap (p0.Count + 1))).bind fun x22 =>
  (g_weigh_Ratio x20 x22).bind fun x24 =>
  some (x24, 0)
def g_lift_divided_b0 (p1 : (List Int)) (p0 : Int) (s1 : (Int × (List Tapi_Q))) : Option (Step (Int × (List Tapi_Q)) (List Tapi_Q)) :=
  if (decide (s1.1 < (p1.length : Int))) = true then
    (lkI p1 s1.1).bind fun a4 =>
    (g_weigh_Ratio a4 p0).bind fun x6 =>
    (lkI s1.2 s1.1).bind fun a8 =>
    some (.next (IntKind.i64.wrap (s1.1 + 1), (List.set s1.2 (Int.toNat s1.1) x6)))
  else
  some (.done s1.2)
def g_lift_divided (p0 : Int) (p1 : (List Int)) : Option (List Tapi_Q) :=
  if 0 ≤ (p1.length : Int) ∧ (p1.length : Int) ≤ (p1.length : Int) ∧ (p1.length : Int) * 16 ≤ 140737488355328 then
    (whileN fuel (g_lift_divided_b0 p1 p0) (0, (List.replicate (Int.toNat (p1.length : Int)) ((Tapi_Q.mk 0 0) : Tapi_Q)))).bind fun x12 =>
    some x12
  else none
def g_lift_Ones_b0 (x24 : (List Int)) (p2 : Int) (p0 : Tapi_Lift) (p1 : Int) (x28 : (List Int)) (p3 : Int) (s30 : (Int × (List Int))) : Option (Step (Int × (List Int)) (List Int)) :=
  if (decide (s30.1 < (x24.length : Int))) = true then
    (lkI s30.2 s30.1).bind fun a33 =>
    if (decide (a33 < p2)) = true then
      some (.next (IntKind.i64.wrap (s30.1 + 1), (List.set s30.2 (Int.toNat s30.1) 0)))
    else
    if (decide (a33 > (IntKind.i64.wrap (p0.Count - p1)))) = true then
      some (.next (IntKind.i64.wrap (s30.1 + 1), (List.set s30.2 (Int.toNat s30.1) 0)))
    else
    (lkI x28 (IntKind.i64.wrap (a33 - p2))).bind fun a41 =>
    (g_lift_counter_members (Tlift_counter.mk p0 p1 p2 p3) a33 (IntKind.i64.wrap (p0.Count - a33))).bind fun x43 =>
    (g_lift_counter_shown (Tlift_counter.mk p0 p1 p2 p3) a33).bind fun x45 =>
    some (.next (IntKind.i64.wrap (s30.1 + 1), (List.set s30.2 (Int.toNat s30.1) (IntKind.i64.wrap ((IntKind.i64.wrap (a41 * x43)) * x45)))))
  else
  some (.done s30.2)
def g_lift_Ones (p0 : Tapi_Lift) (p1 : Int) (p2 : Int) (p3 : Int) : Option ((List Tapi_Q) × Int) :=
  (g_lift_Check p0).bind fun x1 =>
  if (x1 != 0) = true then
    some (([] : (List Tapi_Q)), x1)
  else
  if (decide (p1 < 0)) = true then
    some (([] : (List Tapi_Q)), 2)
  else
  if (decide (p1 > p0.Count)) = true then
    some (([] : (List Tapi_Q)), 2)
  else
  if (decide (p2 < 0)) = true then
    some (([] : (List Tapi_Q)), 2)
  else
  if (decide (p2 > (IntKind.i64.wrap (p0.Count - p1)))) = true then
    some (([] : (List Tapi_Q)), 2)
  else
  if (decide (p3 < (-1))) = true then
    some (([] : (List Tapi_Q)), 2)
  else
  (lkI p0.Rows 0).bind fun a16 =>
  if (decide (p3 ≥ (a16.length : Int))) = true then
    some (([] : (List Tapi_Q)), 2)
  else
  (g_lift_counter_mass (Tlift_counter.mk p0 p1 p2 p3)).bind fun x20 =>
  if (x20 == 0) = true then
    some (([] : (List Tapi_Q)), 7)
  else
  (g_lift_counter_numbers (Tlift_counter.mk p0 p1 p2 p3)).bind fun x24 =>
  (g_lift_counter_unknown (Tlift_counter.mk p0 p1 p2 p3)).bind fun x26 =>
  (g_lift_binomial x26).bind fun x28 =>
  (whileN fuel (g_lift_Ones_b0 x24 p2 p0 p1 x28 p3) (0, x24)).bind fun x49 =>
  (g_lift_divided x20 x49).bind fun x50 =>
  some (x50, 0)
def g_slices_Equal_api_Q_api_Q_b0 (p0 : (List Tapi_Q)) (p1 : (List Tapi_Q)) (s3 : Int) : Option (Step Int (Unit ⊕ Unit)) :=
  if (decide (s3 < (p0.length : Int))) = true then
    (lkI p0 s3).bind fun a6 =>
    (lkI p1 s3).bind fun a8 =>
    if (!((a6.N == a8.N) && ((a6.D == a8.D) && true))) = true then
      some (.done (Sum.inl ()))
    else
    some (.next (IntKind.i64.wrap (s3 + 1)))
  else
  some (.done (Sum.inr ()))
def g_slices_Equal_api_Q_api_Q (p0 : (List Tapi_Q)) (p1 : (List Tapi_Q)) : Option Bool :=
  if ((p0.length : Int) != (p1.length : Int)) = true then
    some false
  else
  (whileN fuel (g_slices_Equal_api_Q_api_Q_b0 p0 p1) 0).bind fun x12 => match x12 with
  | .inl x13 => (
    some false)
  | .inr x14 => (
    some true)
def g_lift_Next (p0 : Tapi_Lift) (p1 : Int) (p2 : Int) (p3 : Int) : Option (Tapi_Q × Int) :=
  (g_lift_Check p0).bind fun x1 =>
  if (x1 != 0) = true then
    some ((Tapi_Q.mk 0 0), x1)
  else
  if (decide (p1 < 0)) = true then
    some ((Tapi_Q.mk 0 0), 2)
  else
  if (decide (p1 > p0.Count)) = true then
    some ((Tapi_Q.mk 0 0), 2)
  else
  if (decide (p2 < 0)) = true then
    some ((Tapi_Q.mk 0 0), 2)
  else
  if (decide (p2 > (IntKind.i64.wrap (p0.Count - p1)))) = true then
    some ((Tapi_Q.mk 0 0), 2)
  else
  if (decide (p3 < (-1))) = true then
    some ((Tapi_Q.mk 0 0), 2)
  else
  (lkI p0.Rows 0).bind fun a16 =>
  if (decide (p3 ≥ (a16.length : Int))) = true then
    some ((Tapi_Q.mk 0 0), 2)
  else
  (g_lift_counter_unknown (Tlift_counter.mk p0 p1 p2 p3)).bind fun x20 =>
  if (x20 == 0) = true then
    some ((Tapi_Q.mk 0 0), 4)
  else
  (g_lift_counter_mass (Tlift_counter.mk p0 p1 p2 p3)).bind fun x24 =>
  if (x24 == 0) = true then
    some ((Tapi_Q.mk 0 0), 7)
  else
  (g_lift_counter_mass (Tlift_counter.mk p0 p1 (IntKind.i64.wrap (p2 + 1)) p3)).bind fun x28 =>
  (g_weigh_Ratio x28 x24).bind fun x30 =>
  some (x30, 0)
def g_lift_Child_b0 (a14 : (List Int)) (p0 : Tapi_Lift) (p1 : Int) (p2 : Int) (s22 : (Int × (List Int))) : Option (Step (Int × (List Int)) (List Int)) :=
  if (decide (s22.1 < (((List.replicate (Int.toNat (a14.length : Int)) (0 : Int)).length) : Int))) = true then
    (g_lift_counter_mass (Tlift_counter.mk p0 p1 p2 s22.1)).bind fun x25 =>
    (lkI s22.2 s22.1).bind fun a27 =>
    some (.next (IntKind.i64.wrap (s22.1 + 1), (List.set s22.2 (Int.toNat s22.1) x25)))
  else
  some (.done s22.2)
def g_lift_Child (p0 : Tapi_Lift) (p1 : Int) (p2 : Int) : Option ((List Tapi_Q) × Int) :=
  (g_lift_Check p0).bind fun x1 =>
  if (x1 != 0) = true then
    some (([] : (List Tapi_Q)), x1)
  else
  if (decide (p1 < 0)) = true then
    some (([] : (List Tapi_Q)), 2)
  else
  if (decide (p1 > p0.Count)) = true then
    some (([] : (List Tapi_Q)), 2)
  else
  if (decide (p2 < 0)) = true then
    some (([] : (List Tapi_Q)), 2)
  else
  if (decide (p2 > (IntKind.i64.wrap (p0.Count - p1)))) = true then
    some (([] : (List Tapi_Q)), 2)
  else
  (lkI p0.Rows 0).bind fun a14 =>
  if (decide ((-1) ≥ (a14.length : Int))) = true then
    some (([] : (List Tapi_Q)), 2)
  else
  (g_lift_counter_mass (Tlift_counter.mk p0 p1 p2 (-1))).bind fun x18 =>
  if (x18 == 0) = true then
    some (([] : (List Tapi_Q)), 7)
  else
  if 0 ≤ (a14.length : Int) ∧ (a14.length : Int) ≤ (a14.length : Int) ∧ (a14.length : Int) * 8 ≤ 140737488355328 then
    (whileN fuel (g_lift_Child_b0 a14 p0 p1 p2) (0, (List.replicate (Int.toNat (a14.length : Int)) (0 : Int)))).bind fun x31 =>
    (g_lift_divided x18 x31).bind fun x32 =>
    some (x32, 0)
  else none
def g_ref01_digits_b0  (s1 : (Int × (List Int))) : Option (Step (Int × (List Int)) (List Int)) :=
  if (s1.1 != 0) = true then
    if (s1.2 ++ ([(if (IntKind.i64.wrap (0 - (Int.tmod s1.1 10000))) > (Int.tmod s1.1 10000) then (IntKind.i64.wrap (0 - (Int.tmod s1.1 10000))) else (Int.tmod s1.1 10000))] : (List Int))).length * 8 ≤ 140737488355328 then
      some (.next (IntKind.i64.wrap (Int.tdiv s1.1 10000), (s1.2 ++ ([(if (IntKind.i64.wrap (0 - (Int.tmod s1.1 10000))) > (Int.tmod s1.1 10000) then (IntKind.i64.wrap (0 - (Int.tmod s1.1 10000))) else (Int.tmod s1.1 10000))] : (List Int)))))
    else none
  else
  some (.done s1.2)
def g_ref01_digits (p0 : Int) : Option (List Int) :=
  (whileN fuel (g_ref01_digits_b0) (p0, ([] : (List Int)))).bind fun x5 =>
  some x5
def g_ref01_compare_b0 (p0 : (List Int)) (p1 : (List Int)) (s5 : Int) : Option (Step Int (Int ⊕ Unit)) :=
  if (decide (s5 ≥ 0)) = true then
    (lkI p0 s5).bind fun a8 =>
    (lkI p1 s5).bind fun a10 =>
    if (a8 != a10) = true then
      if (decide (a8 < a10)) = true then
        some (.done (Sum.inl (-1)))
      else
      some (.done (Sum.inl 1))
    else
    some (.next (IntKind.i64.wrap (s5 - 1)))
  else
  some (.done (Sum.inr ()))
def g_ref01_compare (p0 : (List Int)) (p1 : (List Int)) : Option Int :=
  if ((p0.length : Int) != (p1.length : Int)) = true then
    if (decide ((p0.length : Int) < (p1.length : Int))) = true then
      some (-1)
    else
    some 1
  else
  (whileN fuel (g_ref01_compare_b0 p0 p1) (IntKind.i64.wrap ((p0.length : Int) - 1))).bind fun x16 => match x16 with
  | .inl x17 => (
    some x17)
  | .inr x18 => (
    some 0)
def g_ref01_cut_b0  (s1 : (List Int)) : Option (Step (List Int) (List Int)) :=
  if (decide ((s1.length : Int) > 0)) = true then
    (lkI s1 (IntKind.i64.wrap ((s1.length : Int) - 1))).bind fun a4 =>
    if (a4 == 0) = true then
      if 0 ≤ (0 : Int) ∧ (0 : Int) ≤ (IntKind.i64.wrap ((s1.length : Int) - 1)) ∧ (IntKind.i64.wrap ((s1.length : Int) - 1)) ≤ (s1.length : Int) then
        some (.next (sub s1 0 (IntKind.i64.wrap ((s1.length : Int) - 1))))
      else none
    else
    some (.done s1)
  else
  some (.done s1)
def g_ref01_cut (p0 : (List Int)) : Option (List Int) :=
  (whileN fuel (g_ref01_cut_b0) p0).bind fun x9 =>
  some x9
def g_ref01_times_b0 (p1 : (List Int)) (s1 : (Int × (List Int))) (p0 : (List Int)) (s4 : (Int × Int × (List Int))) : Option (Step (Int × Int × (List Int)) (List Int)) :=
  if (decide (s4.2.1 < (p1.length : Int))) = true then
    (lkI s4.2.2 (IntKind.i64.wrap (s1.1 + s4.2.1))).bind fun a7 =>
    (lkI p0 s1.1).bind fun a10 =>
    (lkI p1 s4.2.1).bind fun a12 =>
    (lkI s4.2.2 (IntKind.i64.wrap (s1.1 + s4.2.1))).bind fun a14 =>
    some (.next (IntKind.i64.wrap (Int.tdiv (IntKind.i64.wrap ((IntKind.i64.wrap (s4.1 + a7)) + (IntKind.i64.wrap (a10 * a12)))) 10000), IntKind.i64.wrap (s4.2.1 + 1), (List.set s4.2.2 (Int.toNat (IntKind.i64.wrap (s1.1 + s4.2.1))) (Int.tmod (IntKind.i64.wrap ((IntKind.i64.wrap (s4.1 + a7)) + (IntKind.i64.wrap (a10 * a12)))) 10000))))
  else
  if (decide (s4.1 > 0)) = true then
    (lkI s4.2.2 (IntKind.i64.wrap (s1.1 + s4.2.1))).bind fun a19 =>
    (lkI s4.2.2 (IntKind.i64.wrap (s1.1 + s4.2.1))).bind fun a22 =>
    some (.next (IntKind.i64.wrap (Int.tdiv (IntKind.i64.wrap (s4.1 + a19)) 10000), IntKind.i64.wrap (s4.2.1 + 1), (List.set s4.2.2 (Int.toNat (IntKind.i64.wrap (s1.1 + s4.2.1))) (Int.tmod (IntKind.i64.wrap (s4.1 + a19)) 10000))))
  else
  some (.done s4.2.2)
def g_ref01_times_b1 (p0 : (List Int)) (p1 : (List Int)) (s1 : (Int × (List Int))) : Option (Step (Int × (List Int)) (List Int)) :=
  if (decide (s1.1 < (p0.length : Int))) = true then
    (whileN fuel (g_ref01_times_b0 p1 s1 p0) (0, 0, s1.2)).bind fun x26 =>
    some (.next (IntKind.i64.wrap (s1.1 + 1), x26))
  else
  some (.done s1.2)
def g_ref01_times (p0 : (List Int)) (p1 : (List Int)) : Option (List Int) :=
  if 0 ≤ (IntKind.i64.wrap ((p0.length : Int) + (p1.length : Int))) ∧ (IntKind.i64.wrap ((p0.length : Int) + (p1.length : Int))) ≤ (IntKind.i64.wrap ((p0.length : Int) + (p1.length : Int))) ∧ (IntKind.i64.wrap ((p0.length : Int) + (p1.length : Int))) * 8 ≤ 140737488355328 then
    (whileN fuel (g_ref01_times_b1 p0 p1) (0, (List.replicate (Int.toNat (IntKind.i64.wrap ((p0.length : Int) + (p1.length : Int)))) (0 : Int)))).bind fun x28 =>
    (g_ref01_cut x28).bind fun x29 =>
    some x29
  else none
def g_ref01_minus_b0 (p0 : (List Int)) (p1 : (List Int)) (s1 : (Int × Int × (List Int))) : Option (Step (Int × Int × (List Int)) (List Int)) :=
  if (decide (s1.2.1 < (p0.length : Int))) = true then
    (lkI p0 s1.2.1).bind fun a4 =>
    if (decide (s1.2.1 < (p1.length : Int))) = true then
      (lkI p1 s1.2.1).bind fun a8 =>
      if (decide ((IntKind.i64.wrap ((IntKind.i64.wrap (a4 - s1.1)) - a8)) < 0)) = true then
        if (s1.2.2 ++ ([IntKind.i64.wrap ((IntKind.i64.wrap ((IntKind.i64.wrap (a4 - s1.1)) - a8)) + 10000)] : (List Int))).length * 8 ≤ 140737488355328 then
          some (.next (1, IntKind.i64.wrap (s1.2.1 + 1), (s1.2.2 ++ ([IntKind.i64.wrap ((IntKind.i64.wrap ((IntKind.i64.wrap (a4 - s1.1)) - a8)) + 10000)] : (List Int)))))
        else none
      else
      if (s1.2.2 ++ ([IntKind.i64.wrap ((IntKind.i64.wrap (a4 - s1.1)) - a8)] : (List Int))).length * 8 ≤ 140737488355328 then
        some (.next (0, IntKind.i64.wrap (s1.2.1 + 1), (s1.2.2 ++ ([IntKind.i64.wrap ((IntKind.i64.wrap (a4 - s1.1)) - a8)] : (List Int)))))
      else none
    else
    if (decide ((IntKind.i64.wrap (a4 - s1.1)) < 0)) = true then
      if (s1.2.2 ++ ([IntKind.i64.wrap ((IntKind.i64.wrap (a4 - s1.1)) + 10000)] : (List Int))).length * 8 ≤ 140737488355328 then
        some (.next (1, IntKind.i64.wrap (s1.2.1 + 1), (s1.2.2 ++ ([IntKind.i64.wrap ((IntKind.i64.wrap (a4 - s1.1)) + 10000)] : (List Int)))))
      else none
    else
    if (s1.2.2 ++ ([IntKind.i64.wrap (a4 - s1.1)] : (List Int))).length * 8 ≤ 140737488355328 then
      some (.next (0, IntKind.i64.wrap (s1.2.1 + 1), (s1.2.2 ++ ([IntKind.i64.wrap (a4 - s1.1)] : (List Int)))))
    else none
  else
  some (.done s1.2.2)
def g_ref01_minus (p0 : (List Int)) (p1 : (List Int)) : Option (List Int) :=
  (whileN fuel (g_ref01_minus_b0 p0 p1) (0, 0, ([] : (List Int)))).bind fun x15 =>
  (g_ref01_cut x15).bind fun x16 =>
  some x16
def g_ref01_divide_b0 (p1 : (List Int)) (x8 : (List Int)) (s10 : (Int × Int × Int)) : Option (Step (Int × Int × Int) (Int × Int)) :=
  if (decide (s10.2.2 ≥ (if (IntKind.i64.wrap ((IntKind.i64.wrap ((p1.length : Int) - 1)) - 1)) > 0 then (IntKind.i64.wrap ((IntKind.i64.wrap ((p1.length : Int) - 1)) - 1)) else 0))) = true then
    if (decide (s10.2.2 < (x8.length : Int))) = true then
      (lkI x8 s10.2.2).bind fun a15 =>
      if (decide (s10.2.2 ≤ (IntKind.i64.wrap ((p1.length : Int) - 1)))) = true then
        (lkI p1 s10.2.2).bind fun a19 =>
        some (.next (IntKind.i64.wrap ((IntKind.i64.wrap (s10.1 * 10000)) + a19), IntKind.i64.wrap ((IntKind.i64.wrap (s10.2.1 * 10000)) + a15), IntKind.i64.wrap (s10.2.2 - 1)))
      else
      some (.next (s10.1, IntKind.i64.wrap ((IntKind.i64.wrap (s10.2.1 * 10000)) + a15), IntKind.i64.wrap (s10.2.2 - 1)))
    else
    if (decide (s10.2.2 ≤ (IntKind.i64.wrap ((p1.length : Int) - 1)))) = true then
      (lkI p1 s10.2.2).bind fun a23 =>
      some (.next (IntKind.i64.wrap ((IntKind.i64.wrap (s10.1 * 10000)) + a23), IntKind.i64.wrap (s10.2.1 * 10000), IntKind.i64.wrap (s10.2.2 - 1)))
    else
    some (.next (s10.1, IntKind.i64.wrap (s10.2.1 * 10000), IntKind.i64.wrap (s10.2.2 - 1)))
  else
  some (.done (s10.1, s10.2.1))
def g_ref01_divide_b1 (p1 : (List Int)) (x8 : (List Int)) (s27 : (Int × Int)) : Option (Step (Int × Int) Int) :=
  if (decide (s27.1 < s27.2)) = true then
    (g_ref01_times p1 [IntKind.i64.wrap (Int.tdiv (IntKind.i64.wrap ((IntKind.i64.wrap (s27.1 + s27.2)) + 1)) 2)]).bind fun x30 =>
    (g_ref01_compare x30 x8).bind fun x32 =>
    if (decide (x32 ≤ 0)) = true then
      some (.next (IntKind.i64.wrap (Int.tdiv (IntKind.i64.wrap ((IntKind.i64.wrap (s27.1 + s27.2)) + 1)) 2), s27.2))
    else
    some (.next (s27.1, IntKind.i64.wrap ((IntKind.i64.wrap (Int.tdiv (IntKind.i64.wrap ((IntKind.i64.wrap (s27.1 + s27.2)) + 1)) 2)) - 1)))
  else
  some (.done s27.1)
def g_ref01_divide_b2 (p0 : (List Int)) (p1 : (List Int)) (s3 : ((List Int) × Int × (List Int))) : Option (Step ((List Int) × Int × (List Int)) ((List Int) × (List Int))) :=
  if (decide (s3.2.1 ≥ 0)) = true then
    (lkI p0 s3.2.1).bind fun a6 =>
    if (([a6] : (List Int)) ++ s3.1).length * 8 ≤ 140737488355328 then
      (g_ref01_cut (([a6] : (List Int)) ++ s3.1)).bind fun x8 =>
      (whileN fuel (g_ref01_divide_b0 p1 x8) (0, 0, IntKind.i64.wrap ((IntKind.i64.wrap ((p1.length : Int) - 1)) + 1))).bind fun x26 =>
      if (IntKind.i64.wrap (x26.1 + 1)) ≠ 0 then
        if x26.1 ≠ 0 then
          (whileN fuel (g_ref01_divide_b1 p1 x8) (IntKind.i64.wrap (Int.tdiv x26.2 (IntKind.i64.wrap (x26.1 + 1))), IntKind.i64.wrap (Int.tdiv x26.2 x26.1))).bind fun x37 =>
          (lkI s3.2.2 s3.2.1).bind fun a38 =>
          (g_ref01_cut [x37]).bind fun x40 =>
          (g_ref01_times p1 x40).bind fun x42 =>
          (g_ref01_minus x8 x42).bind fun x44 =>
          some (.next (x44, IntKind.i64.wrap (s3.2.1 - 1), (List.set s3.2.2 (Int.toNat s3.2.1) x37)))
        else none
      else none
    else none
  else
  some (.done (s3.1, s3.2.2))
def g_ref01_divide (p0 : (List Int)) (p1 : (List Int)) : Option ((List Int) × (List Int)) :=
  if (decide ((p0.length : Int) ≤ (IntKind.i64.wrap ((p1.length : Int) - 1)))) = true then
    if p0.length * 8 ≤ 140737488355328 then
      some ([], p0)
    else none
  else
  if 0 ≤ (IntKind.i64.wrap ((p0.length : Int) - (IntKind.i64.wrap ((p1.length : Int) - 1)))) ∧ (IntKind.i64.wrap ((p0.length : Int) - (IntKind.i64.wrap ((p1.length : Int) - 1)))) ≤ (IntKind.i64.wrap ((p0.length : Int) - (IntKind.i64.wrap ((p1.length : Int) - 1)))) ∧ (IntKind.i64.wrap ((p0.length : Int) - (IntKind.i64.wrap ((p1.length : Int) - 1)))) * 8 ≤ 140737488355328 then
    if 0 ≤ (IntKind.i64.wrap ((p0.length : Int) - (IntKind.i64.wrap ((p1.length : Int) - 1)))) ∧ (IntKind.i64.wrap ((p0.length : Int) - (IntKind.i64.wrap ((p1.length : Int) - 1)))) ≤ (p0.length : Int) ∧ (p0.length : Int) ≤ (p0.length : Int) then
      if (sub p0 (IntKind.i64.wrap ((p0.length : Int) - (IntKind.i64.wrap ((p1.length : Int) - 1)))) (p0.length : Int)).length * 8 ≤ 140737488355328 then
        (whileN fuel (g_ref01_divide_b2 p0 p1) ((sub p0 (IntKind.i64.wrap ((p0.length : Int) - (IntKind.i64.wrap ((p1.length : Int) - 1)))) (p0.length : Int)), IntKind.i64.wrap ((((List.replicate (Int.toNat (IntKind.i64.wrap ((p0.length : Int) - (IntKind.i64.wrap ((p1.length : Int) - 1))))) (0 : Int)).length) : Int) - 1), (List.replicate (Int.toNat (IntKind.i64.wrap ((p0.length : Int) - (IntKind.i64.wrap ((p1.length : Int) - 1))))) (0 : Int)))).bind fun x48 =>
        (g_ref01_cut x48.2).bind fun x49 =>
        some (x49, x48.1)
      else none
    else none
  else none
def g_ref01_gcd_b0  (s1 : ((List Int) × (List Int))) : Option (Step ((List Int) × (List Int)) (List Int)) :=
  if (decide ((s1.2.length : Int) > 0)) = true then
    (g_ref01_divide s1.1 s1.2).bind fun x4 =>
    some (.next (s1.2, x4.2))
  else
  some (.done s1.1)
def g_ref01_gcd (p0 : (List Int)) (p1 : (List Int)) : Option (List Int) :=
  (whileN fuel (g_ref01_gcd_b0) (p0, p1)).bind fun x7 =>
  some x7
def g_ref01_value_b0 (p0 : (List Int)) (s7 : (Int × Int)) : Option (Step (Int × Int) Int) :=
  if (decide (s7.2 ≥ 0)) = true then
    (lkI p0 s7.2).bind fun a10 =>
    some (.next (IntKind.i64.wrap ((IntKind.i64.wrap (10000 * s7.1)) + a10), IntKind.i64.wrap (s7.2 - 1)))
  else
  some (.done s7.1)
def g_ref01_value (p0 : (List Int)) : Option (Int × Bool) :=
  (g_ref01_digits 4611686018427387903).bind fun x1 =>
  (g_ref01_compare p0 x1).bind fun x3 =>
  if (decide (x3 > 0)) = true then
    some (0, false)
  else
  (whileN fuel (g_ref01_value_b0 p0) (0, IntKind.i64.wrap ((p0.length : Int) - 1))).bind fun x13 =>
  some (x13, true)
def g_ref01_made (p0 : Bool) (p1 : (List Int)) (p2 : (List Int)) : Option (Tapi_Q × Bool) :=
  (g_ref01_gcd p1 p2).bind fun x1 =>
  (g_ref01_divide p1 x1).bind fun x3 =>
  (g_ref01_divide p2 x1).bind fun x5 =>
  (g_ref01_value x3.1).bind fun x7 =>
  (g_ref01_value x5.1).bind fun x9 =>
  if (!x7.2) = true then
    some ((Tapi_Q.mk 0 0), false)
  else
  if (!x9.2) = true then
    some ((Tapi_Q.mk 0 0), false)
  else
  if p0 = true then
    some ((Tapi_Q.mk (IntKind.i64.wrap (0 - x7.1)) x9.1), true)
  else
  some ((Tapi_Q.mk x7.1 x9.1), true)
def g_ref01_Make (p0 : Int) (p1 : Int) : Option (Tapi_Q × Bool) :=
  (g_ref01_digits p0).bind fun x1 =>
  (g_ref01_digits p1).bind fun x3 =>
  (g_ref01_made (!((decide (p0 < 0)) == (decide (p1 < 0)))) x1 x3).bind fun x5 =>
  some (x5.1, x5.2)
def g_ref01_Of (p0 : Int) (p1 : Int) : Option Tapi_Q :=
  (g_ref01_Make p0 p1).bind fun x1 =>
  some x1.1
def g_law14_over_b0 (p1 : (List Int)) (p0 : Int) (s1 : (Int × (List Tapi_Q))) : Option (Step (Int × (List Tapi_Q)) (List Tapi_Q)) :=
  if (decide (s1.1 < (p1.length : Int))) = true then
    (lkI p1 s1.1).bind fun a4 =>
    (g_ref01_Of a4 p0).bind fun x6 =>
    if (s1.2 ++ ([x6] : (List Tapi_Q))).length * 16 ≤ 140737488355328 then
      some (.next (IntKind.i64.wrap (s1.1 + 1), (s1.2 ++ ([x6] : (List Tapi_Q)))))
    else none
  else
  some (.done s1.2)
def g_law14_over (p0 : Int) (p1 : (List Int)) : Option (List Tapi_Q) :=
  (whileN fuel (g_law14_over_b0 p1 p0) (0, ([] : (List Tapi_Q)))).bind fun x9 =>
  some x9
def g_law14_sample  : Option Tapi_Lift :=
  some (Tapi_Lift.mk 4 2 1 ([[4, 0], [2, 2], [0, 4]] : (List (List Int))))
def g_law14_wakes  : Option Bool :=
  (g_law14_sample).bind fun x1 =>
  (g_lift_Ones x1 0 0 (-1)).bind fun x3 =>
  (g_lift_Child x1 0 1).bind fun x5 =>
  (g_lift_Next x1 0 0 1).bind fun x7 =>
  (g_lift_Prob x1 1 0 1).bind fun x9 =>
  (g_lift_Ground x1).bind fun x11 =>
  if (x3.2 == 0) = true then
    (g_law14_over 16 [9, 6, 1]).bind fun x15 =>
    (g_slices_Equal_api_Q_api_Q x3.1 x15).bind fun x17 =>
    if x17 = true then
      if (x5.2 == 0) = true then
        (g_law14_over 8 [3, 5]).bind fun x23 =>
        (g_slices_Equal_api_Q_api_Q x5.1 x23).bind fun x25 =>
        if x25 = true then
          if (x7.2 == 0) = true then
            (g_ref01_Of 5 8).bind fun x31 =>
            if ((x7.1.N == x31.N) && ((x7.1.D == x31.D) && true)) = true then
              if (x9.2 == 0) = true then
                (g_ref01_Of 3 32).bind fun x37 =>
                if ((x9.1.N == x37.N) && ((x9.1.D == x37.D) && true)) = true then
                  if (x11.2 == 0) = true then
                    if ((x11.1.Nodes.length : Int) == 3) = true then
                      (g_lift_Check x1).bind fun x45 =>
                      if (x45 == 0) = true then
                        (g_lift_Check (Tapi_Lift.mk 0 0 0 [])).bind fun x49 =>
                        some (x49 == 140)
                      else
                      some false
                    else
                    some false
                  else
                  some false
                else
                some false
              else
              some false
            else
            some false
          else
          some false
        else
        some false
      else
      some false
    else
    some false
  else
  some false
def g_law14_Known_Of (p0 : Tharuspexlaw14_Known) (p1 : Tapi_Lift) : Option Tharuspexlaw14_Known :=
  if (IntKind.u64.wrap (IntKind.i64.wrap (p1.Count + 1))) ≠ 0 then
    if (IntKind.u64.wrap (IntKind.i64.wrap ((IntKind.i64.wrap (p1.Count - (IntKind.i64.wrap (Int.tmod (IntKind.u64.wrap (p0.Zeros)) (IntKind.u64.wrap (IntKind.i64.wrap (p1.Count + 1))))))) + 1))) ≠ 0 then
      (lkI p1.Rows 0).bind fun a1 =>
      if (IntKind.u64.wrap (IntKind.i64.wrap ((a1.length : Int) + 1))) ≠ 0 then
        some (Tharuspexlaw14_Known.mk (IntKind.i64.wrap (Int.tmod (IntKind.u64.wrap (p0.Zeros)) (IntKind.u64.wrap (IntKind.i64.wrap (p1.Count + 1))))) (IntKind.i64.wrap (Int.tmod (IntKind.u64.wrap (p0.Ones)) (IntKind.u64.wrap (IntKind.i64.wrap ((IntKind.i64.wrap (p1.Count - (IntKind.i64.wrap (Int.tmod (IntKind.u64.wrap (p0.Zeros)) (IntKind.u64.wrap (IntKind.i64.wrap (p1.Count + 1))))))) + 1))))) (IntKind.i64.wrap ((IntKind.i64.wrap (Int.tmod (IntKind.u64.wrap (p0.Child)) (IntKind.u64.wrap (IntKind.i64.wrap ((a1.length : Int) + 1))))) - 1)))
      else none
    else none
  else none
def g_ref14_Split_b0 (p0 : Int) (p2 : (List Int)) (s1 : (Int × Int × (List Int))) : Option (Step (Int × Int × (List Int)) (List Int)) :=
  if (decide (s1.2.1 < p0)) = true then
    if (decide (s1.2.1 < (IntKind.i64.wrap (p0 - 1)))) = true then
      if (decide (s1.2.1 < (p2.length : Int))) = true then
        (lkI p2 s1.2.1).bind fun a8 =>
        if (IntKind.i64.wrap (s1.1 + 1)) ≠ 0 then
          if (s1.2.2 ++ ([Int.tmod (IntKind.i64.wrap (a8)) (IntKind.i64.wrap (s1.1 + 1))] : (List Int))).length * 8 ≤ 140737488355328 then
            some (.next (IntKind.i64.wrap (s1.1 - (Int.tmod (IntKind.i64.wrap (a8)) (IntKind.i64.wrap (s1.1 + 1)))), IntKind.i64.wrap (s1.2.1 + 1), (s1.2.2 ++ ([Int.tmod (IntKind.i64.wrap (a8)) (IntKind.i64.wrap (s1.1 + 1))] : (List Int)))))
          else none
        else none
      else
      if (s1.2.2 ++ ([0] : (List Int))).length * 8 ≤ 140737488355328 then
        some (.next (IntKind.i64.wrap (s1.1 - 0), IntKind.i64.wrap (s1.2.1 + 1), (s1.2.2 ++ ([0] : (List Int)))))
      else none
    else
    if (s1.2.2 ++ ([s1.1] : (List Int))).length * 8 ≤ 140737488355328 then
      some (.next (IntKind.i64.wrap (s1.1 - s1.1), IntKind.i64.wrap (s1.2.1 + 1), (s1.2.2 ++ ([s1.1] : (List Int)))))
    else none
  else
  some (.done s1.2.2)
def g_ref14_Split (p0 : Int) (p1 : Int) (p2 : (List Int)) : Option (List Int) :=
  (whileN fuel (g_ref14_Split_b0 p0 p2) (p1, 0, ([] : (List Int)))).bind fun x11 =>
  some x11
def g_ref14_Draft_Lift_b0 (p0 : Tharuspexref14_Draft) (s1 : (Int × (List (List Int)))) (s4 : (Int × (List Int))) : Option (Step (Int × (List Int)) (List Int)) :=
  if (decide (s4.1 < 4)) = true then
    if (decide ((p0.L.length : Int) > 0)) = true then
      if (p0.L.length : Int) ≠ 0 then
        (lkI p0.L (Int.tmod (IntKind.i64.wrap ((IntKind.i64.wrap (3 * s1.1)) + s4.1)) (p0.L.length : Int))).bind fun a9 =>
        if (s4.2 ++ ([a9] : (List Int))).length * 1 ≤ 140737488355328 then
          some (.next (IntKind.i64.wrap (s4.1 + 1), (s4.2 ++ ([a9] : (List Int)))))
        else none
      else none
    else
    some (.done s4.2)
  else
  some (.done s4.2)
def g_ref14_Draft_Lift_b1 (p0 : Tharuspexref14_Draft) (s1 : (Int × (List (List Int)))) : Option (Step (Int × (List (List Int))) (List (List Int))) :=
  if (decide (s1.1 ≤ (IntKind.i64.wrap (1 + (IntKind.i64.wrap (Int.tmod p0.Count 10)))))) = true then
    (whileN fuel (g_ref14_Draft_Lift_b0 p0 s1) (0, ([] : (List Int)))).bind fun x12 =>
    (g_ref14_Split (IntKind.i64.wrap (2 + (IntKind.i64.wrap (Int.tmod p0.Card 3)))) (IntKind.i64.wrap (1 + (IntKind.i64.wrap (Int.tmod p0.Grain 20)))) x12).bind fun x13 =>
    if (s1.2 ++ ([x13] : (List (List Int)))).length * 24 ≤ 140737488355328 then
      some (.next (IntKind.i64.wrap (s1.1 + 1), (s1.2 ++ ([x13] : (List (List Int))))))
    else none
  else
  some (.done s1.2)
def g_ref14_Draft_Lift (p0 : Tharuspexref14_Draft) : Option Tapi_Lift :=
  if (IntKind.i64.wrap ((IntKind.i64.wrap (1 + (IntKind.i64.wrap (Int.tmod p0.Grain 20)))) + 1)) ≠ 0 then
    (whileN fuel (g_ref14_Draft_Lift_b1 p0) (0, ([] : (List (List Int))))).bind fun x16 =>
    some (Tapi_Lift.mk (IntKind.i64.wrap (1 + (IntKind.i64.wrap (Int.tmod p0.Grain 20)))) (IntKind.i64.wrap (1 + (IntKind.i64.wrap (Int.tmod p0.Count 10)))) (Int.tmod (IntKind.i64.wrap (p0.One)) (IntKind.i64.wrap ((IntKind.i64.wrap (1 + (IntKind.i64.wrap (Int.tmod p0.Grain 20)))) + 1))) x16)
  else none
def g_law14_LiftEqual_b0 (x5 : Tapi_Lift) (s7 : (Int × (List (List Int)))) : Option (Step (Int × (List (List Int))) (List (List Int))) :=
  if (decide (s7.1 < (x5.Rows.length : Int))) = true then
    (lkI s7.2 0).bind fun a10 =>
    (lkI s7.2 s7.1).bind fun a12 =>
    some (.next (IntKind.i64.wrap (s7.1 + 1), (List.set s7.2 (Int.toNat s7.1) a10)))
  else
  some (.done s7.2)
def g_law14_LiftEqual (p0 : Tharuspexref14_Draft) (p1 : Tharuspexlaw14_Known) : Option Bool :=
  (g_law14_wakes).bind fun x1 =>
  if (!x1) = true then
    some false
  else
  (g_ref14_Draft_Lift p0).bind fun x5 =>
  (whileN fuel (g_law14_LiftEqual_b0 x5) (0, x5.Rows)).bind fun x16 =>
  (g_law14_Known_Of p1 (Tapi_Lift.mk x5.Grain x5.Count x5.One x16)).bind fun x17 =>
  (g_lift_Next (Tapi_Lift.mk x5.Grain x5.Count x5.One x16) x17.Zeros x17.Ones x17.Child).bind fun x19 =>
  if ((IntKind.i64.wrap (x17.Zeros + x17.Ones)) == x5.Count) = true then
    some (x19.2 == 4)
  else
  if (x19.2 != 0) = true then
    some (x19.2 == 7)
  else
  (g_lift_Child (Tapi_Lift.mk x5.Grain x5.Count x5.One x16) x17.Zeros x17.Ones).bind fun x25 =>
  (g_ref01_Of x5.One x5.Grain).bind fun x27 =>
  if ((x19.1.N == x27.N) && ((x19.1.D == x27.D) && true)) = true then
    if (x25.2 == 0) = true then
      (lkI x16 0).bind fun a33 =>
      (g_law14_over x5.Grain a33).bind fun x35 =>
      (g_slices_Equal_api_Q_api_Q x25.1 x35).bind fun x37 =>
      some x37
    else
    some false
  else
  some false
def g_ref01_Right (p0 : Tapi_Q) : Option Bool :=
  if (decide (p0.D < 1)) = true then
    some false
  else
  if (decide (p0.D > 4611686018427387903)) = true then
    some false
  else
  if (decide (p0.N > 4611686018427387903)) = true then
    some false
  else
  if (decide (p0.N < (-4611686018427387903))) = true then
    some false
  else
  (g_ref01_digits p0.N).bind fun x9 =>
  (g_ref01_digits p0.D).bind fun x11 =>
  (g_ref01_gcd x9 x11).bind fun x13 =>
  (g_ref01_compare x13 [1]).bind fun x15 =>
  some (x15 == 0)
def g_ref01_Mul (p0 : Tapi_Q) (p1 : Tapi_Q) : Option (Tapi_Q × Bool) :=
  (g_ref01_digits p0.N).bind fun x1 =>
  (g_ref01_digits p1.N).bind fun x3 =>
  (g_ref01_times x1 x3).bind fun x5 =>
  (g_ref01_digits p0.D).bind fun x7 =>
  (g_ref01_digits p1.D).bind fun x9 =>
  (g_ref01_times x7 x9).bind fun x11 =>
  (g_ref01_made (!((decide (p0.N < 0)) == (decide (p1.N < 0)))) x5 x11).bind fun x13 =>
  some (x13.1, x13.2)
def g_ref01_plus_b0 (p0 : (List Int)) (p1 : (List Int)) (s1 : (Int × Int × (List Int))) : Option (Step (Int × Int × (List Int)) (List Int)) :=
  if (decide (s1.2.1 < (p0.length : Int))) = true then
    (lkI p0 s1.2.1).bind fun a5 =>
    if (decide (s1.2.1 < (p1.length : Int))) = true then
      (lkI p1 s1.2.1).bind fun a9 =>
      if (s1.2.2 ++ ([Int.tmod (IntKind.i64.wrap ((IntKind.i64.wrap (s1.1 + a5)) + a9)) 10000] : (List Int))).length * 8 ≤ 140737488355328 then
        some (.next (IntKind.i64.wrap (Int.tdiv (IntKind.i64.wrap ((IntKind.i64.wrap (s1.1 + a5)) + a9)) 10000), IntKind.i64.wrap (s1.2.1 + 1), (s1.2.2 ++ ([Int.tmod (IntKind.i64.wrap ((IntKind.i64.wrap (s1.1 + a5)) + a9)) 10000] : (List Int)))))
      else none
    else
    if (s1.2.2 ++ ([Int.tmod (IntKind.i64.wrap (s1.1 + a5)) 10000] : (List Int))).length * 8 ≤ 140737488355328 then
      some (.next (IntKind.i64.wrap (Int.tdiv (IntKind.i64.wrap (s1.1 + a5)) 10000), IntKind.i64.wrap (s1.2.1 + 1), (s1.2.2 ++ ([Int.tmod (IntKind.i64.wrap (s1.1 + a5)) 10000] : (List Int)))))
    else none
  else
  if (decide (s1.2.1 < (p1.length : Int))) = true then
    (lkI p1 s1.2.1).bind fun a15 =>
    if (s1.2.2 ++ ([Int.tmod (IntKind.i64.wrap (s1.1 + a15)) 10000] : (List Int))).length * 8 ≤ 140737488355328 then
      some (.next (IntKind.i64.wrap (Int.tdiv (IntKind.i64.wrap (s1.1 + a15)) 10000), IntKind.i64.wrap (s1.2.1 + 1), (s1.2.2 ++ ([Int.tmod (IntKind.i64.wrap (s1.1 + a15)) 10000] : (List Int)))))
    else none
  else
  if (decide (s1.1 > 0)) = true then
    if (s1.2.2 ++ ([Int.tmod s1.1 10000] : (List Int))).length * 8 ≤ 140737488355328 then
      some (.next (IntKind.i64.wrap (Int.tdiv s1.1 10000), IntKind.i64.wrap (s1.2.1 + 1), (s1.2.2 ++ ([Int.tmod s1.1 10000] : (List Int)))))
    else none
  else
  some (.done s1.2.2)
def g_ref01_plus (p0 : (List Int)) (p1 : (List Int)) : Option (List Int) :=
  (whileN fuel (g_ref01_plus_b0 p0 p1) (0, 0, ([] : (List Int)))).bind fun x22 =>
  some x22
def g_ref01_Add (p0 : Tapi_Q) (p1 : Tapi_Q) : Option (Tapi_Q × Bool) :=
  (g_ref01_digits p0.N).bind fun x1 =>
  (g_ref01_digits p1.D).bind fun x3 =>
  (g_ref01_times x1 x3).bind fun x5 =>
  (g_ref01_digits p1.N).bind fun x7 =>
  (g_ref01_digits p0.D).bind fun x9 =>
  (g_ref01_times x7 x9).bind fun x11 =>
  (g_ref01_digits p0.D).bind fun x13 =>
  (g_ref01_digits p1.D).bind fun x15 =>
  (g_ref01_times x13 x15).bind fun x17 =>
  if ((decide (p0.N < 0)) == (decide (p1.N < 0))) = true then
    (g_ref01_plus x5 x11).bind fun x21 =>
    (g_ref01_made (decide (p0.N < 0)) x21 x17).bind fun x23 =>
    some (x23.1, x23.2)
  else
  (g_ref01_compare x5 x11).bind fun x25 =>
  if (decide (x25 ≥ 0)) = true then
    (g_ref01_minus x5 x11).bind fun x29 =>
    (g_ref01_made (decide (p0.N < 0)) x29 x17).bind fun x31 =>
    some (x31.1, x31.2)
  else
  (g_ref01_minus x11 x5).bind fun x33 =>
  (g_ref01_made (decide (p1.N < 0)) x33 x17).bind fun x35 =>
  some (x35.1, x35.2)
def g_law14_LiftMeans_b0 (x9 : ((List Tapi_Q) × Int)) (x7 : Tharuspexlaw14_Known) (x5 : Tapi_Lift) (s35 : (Int × Int × Int × Int × Int)) : Option (Step (Int × Int × Int × Int × Int) (Unit ⊕ (Int × Int × Int × Int))) :=
  if (decide (s35.1 < (x9.1.length : Int))) = true then
    (lkI x9.1 s35.1).bind fun a38 =>
    (g_ref01_Right a38).bind fun x40 =>
    if (!x40) = true then
      some (.done (Sum.inl ()))
    else
    if (decide (a38.N < 0)) = true then
      some (.done (Sum.inl ()))
    else
    if (decide (a38.N > 0)) = true then
      if (decide (s35.1 < x7.Ones)) = true then
        some (.done (Sum.inl ()))
      else
      if (decide (s35.1 > (IntKind.i64.wrap (x5.Count - x7.Zeros)))) = true then
        some (.done (Sum.inl ()))
      else
      (g_ref01_Of s35.1 1).bind fun x52 =>
      (g_ref01_Mul a38 x52).bind fun x54 =>
      (g_ref01_Add (Tapi_Q.mk s35.2.2.2.1 s35.2.2.2.2) x54.1).bind fun x56 =>
      (g_ref01_Add (Tapi_Q.mk s35.2.1 s35.2.2.1) a38).bind fun x58 =>
      if (!x54.2) = true then
        some (.done (Sum.inl ()))
      else
      if (!x56.2) = true then
        some (.done (Sum.inl ()))
      else
      if (!x58.2) = true then
        some (.done (Sum.inl ()))
      else
      some (.next (IntKind.i64.wrap (s35.1 + 1), x58.1.N, x58.1.D, x56.1.N, x56.1.D))
    else
    (g_ref01_Of s35.1 1).bind fun x66 =>
    (g_ref01_Mul a38 x66).bind fun x68 =>
    (g_ref01_Add (Tapi_Q.mk s35.2.2.2.1 s35.2.2.2.2) x68.1).bind fun x70 =>
    (g_ref01_Add (Tapi_Q.mk s35.2.1 s35.2.2.1) a38).bind fun x72 =>
    if (!x68.2) = true then
      some (.done (Sum.inl ()))
    else
    if (!x70.2) = true then
      some (.done (Sum.inl ()))
    else
    if (!x72.2) = true then
      some (.done (Sum.inl ()))
    else
    some (.next (IntKind.i64.wrap (s35.1 + 1), x72.1.N, x72.1.D, x70.1.N, x70.1.D))
  else
  some (.done (Sum.inr (s35.2.1, s35.2.2.1, s35.2.2.2.1, s35.2.2.2.2)))
def g_law14_LiftMeans_b1 (x9 : ((List Tapi_Q) × Int)) (x7 : Tharuspexlaw14_Known) (x5 : Tapi_Lift) (s94 : (Int × Int × Int × Int × Int)) : Option (Step (Int × Int × Int × Int × Int) (Unit ⊕ (Int × Int × Int × Int))) :=
  if (decide (s94.1 < (x9.1.length : Int))) = true then
    (lkI x9.1 s94.1).bind fun a97 =>
    (g_ref01_Right a97).bind fun x99 =>
    if (!x99) = true then
      some (.done (Sum.inl ()))
    else
    if (decide (a97.N < 0)) = true then
      some (.done (Sum.inl ()))
    else
    if (decide (a97.N > 0)) = true then
      if (decide (s94.1 < x7.Ones)) = true then
        some (.done (Sum.inl ()))
      else
      if (decide (s94.1 > (IntKind.i64.wrap (x5.Count - x7.Zeros)))) = true then
        some (.done (Sum.inl ()))
      else
      (g_ref01_Of s94.1 1).bind fun x111 =>
      (g_ref01_Mul a97 x111).bind fun x113 =>
      (g_ref01_Add (Tapi_Q.mk s94.2.2.2.1 s94.2.2.2.2) x113.1).bind fun x115 =>
      (g_ref01_Add (Tapi_Q.mk s94.2.1 s94.2.2.1) a97).bind fun x117 =>
      if (!x113.2) = true then
        some (.done (Sum.inl ()))
      else
      if (!x115.2) = true then
        some (.done (Sum.inl ()))
      else
      if (!x117.2) = true then
        some (.done (Sum.inl ()))
      else
      some (.next (IntKind.i64.wrap (s94.1 + 1), x117.1.N, x117.1.D, x115.1.N, x115.1.D))
    else
    (g_ref01_Of s94.1 1).bind fun x125 =>
    (g_ref01_Mul a97 x125).bind fun x127 =>
    (g_ref01_Add (Tapi_Q.mk s94.2.2.2.1 s94.2.2.2.2) x127.1).bind fun x129 =>
    (g_ref01_Add (Tapi_Q.mk s94.2.1 s94.2.2.1) a97).bind fun x131 =>
    if (!x127.2) = true then
      some (.done (Sum.inl ()))
    else
    if (!x129.2) = true then
      some (.done (Sum.inl ()))
    else
    if (!x131.2) = true then
      some (.done (Sum.inl ()))
    else
    some (.next (IntKind.i64.wrap (s94.1 + 1), x131.1.N, x131.1.D, x129.1.N, x129.1.D))
  else
  some (.done (Sum.inr (s94.2.1, s94.2.2.1, s94.2.2.2.1, s94.2.2.2.2)))
def g_law14_LiftMeans (p0 : Tharuspexref14_Draft) (p1 : Tharuspexlaw14_Known) : Option Bool :=
  (g_law14_wakes).bind fun x1 =>
  if (!x1) = true then
    some false
  else
  (g_ref14_Draft_Lift p0).bind fun x5 =>
  (g_law14_Known_Of p1 x5).bind fun x7 =>
  (g_lift_Ones x5 x7.Zeros x7.Ones x7.Child).bind fun x9 =>
  (g_lift_Next x5 x7.Zeros x7.Ones x7.Child).bind fun x11 =>
  if (x9.2 != 0) = true then
    if (x9.2 == 7) = true then
      if ((x9.1.length : Int) == 0) = true then
        if (x11.2 == 7) = true then
          some true
        else
        if ((IntKind.i64.wrap ((IntKind.i64.wrap (x5.Count - x7.Zeros)) - x7.Ones)) == 0) = true then
          some (x11.2 == 4)
        else
        some false
      else
      some false
    else
    some false
  else
  if ((x9.1.length : Int) != (IntKind.i64.wrap (x5.Count + 1))) = true then
    some false
  else
  if (x11.2 != 0) = true then
    if (x11.2 != 4) = true then
      some false
    else
    if (decide ((IntKind.i64.wrap ((IntKind.i64.wrap (x5.Count - x7.Zeros)) - x7.Ones)) > 0)) = true then
      some false
    else
    (g_ref01_Of 0 1).bind fun x31 =>
    (g_ref01_Of 0 1).bind fun x33 =>
    (whileN fuel (g_law14_LiftMeans_b0 x9 x7 x5) (0, x31.N, x31.D, x33.N, x33.D)).bind fun x80 => match x80 with
    | .inl x81 => (
      some false)
    | .inr x82 => (
      (g_ref01_Of x7.Ones 1).bind fun x83 =>
      (g_ref01_Of 1 1).bind fun x86 =>
      if ((x82.1 == x86.N) && ((x82.2.1 == x86.D) && true)) = true then
        some ((x82.2.2.1 == x83.N) && ((x82.2.2.2 == x83.D) && true))
      else
      some false)
  else
  (g_ref01_Of 0 1).bind fun x90 =>
  (g_ref01_Of 0 1).bind fun x92 =>
  (whileN fuel (g_law14_LiftMeans_b1 x9 x7 x5) (0, x90.N, x90.D, x92.N, x92.D)).bind fun x139 => match x139 with
  | .inl x140 => (
    some false)
  | .inr x141 => (
    (g_ref01_Of x7.Ones 1).bind fun x142 =>
    if (decide ((IntKind.i64.wrap ((IntKind.i64.wrap (x5.Count - x7.Zeros)) - x7.Ones)) > 0)) = true then
      (g_ref01_Right x11.1).bind fun x146 =>
      if (!x146) = true then
        some false
      else
      (g_ref01_Of (IntKind.i64.wrap ((IntKind.i64.wrap (x5.Count - x7.Zeros)) - x7.Ones)) 1).bind fun x150 =>
      (g_ref01_Mul x11.1 x150).bind fun x152 =>
      (g_ref01_Add x142 x152.1).bind fun x154 =>
      if (!x152.2) = true then
        some false
      else
      if (!x154.2) = true then
        some false
      else
      (g_ref01_Of 1 1).bind fun x160 =>
      if ((x141.1 == x160.N) && ((x141.2.1 == x160.D) && true)) = true then
        some ((x141.2.2.1 == x154.1.N) && ((x141.2.2.2 == x154.1.D) && true))
      else
      some false
    else
    (g_ref01_Of 1 1).bind fun x164 =>
    if ((x141.1 == x164.N) && ((x141.2.1 == x164.D) && true)) = true then
      some ((x141.2.2.1 == x142.N) && ((x141.2.2.2 == x142.D) && true))
    else
    some false)
def g_ref14_Bend_Of_b0 (p1 : Tapi_Lift) (s1 : (Int × (List (List Int)))) : Option (Step (Int × (List (List Int))) (List (List Int))) :=
  if (decide (s1.1 < (p1.Rows.length : Int))) = true then
    (lkI p1.Rows s1.1).bind fun a4 =>
    if a4.length * 8 ≤ 140737488355328 then
      if (s1.2 ++ [a4]).length * 24 ≤ 140737488355328 then
        some (.next (IntKind.i64.wrap (s1.1 + 1), (s1.2 ++ [a4])))
      else none
    else none
  else
  some (.done s1.2)
def g_ref14_Bend_Of (p0 : Tharuspexref14_Bend) (p1 : Tapi_Lift) : Option Tapi_Lift :=
  (whileN fuel (g_ref14_Bend_Of_b0 p1) (0, ([] : List (List Int)))).bind fun x7 =>
  if (x7.length : Int) ≠ 0 then
    if ((Int.tmod p0.What 7) == 0) = true then
      some (Tapi_Lift.mk p0.N p1.Count p1.One x7)
    else
    if ((Int.tmod p0.What 7) == 1) = true then
      some (Tapi_Lift.mk p1.Grain p0.N p1.One x7)
    else
    if ((Int.tmod p0.What 7) == 2) = true then
      some (Tapi_Lift.mk p1.Grain p1.Count p0.N x7)
    else
    if ((Int.tmod p0.What 7) == 3) = true then
      (lkI x7 (Int.tmod (IntKind.i64.wrap (p0.J)) (x7.length : Int))).bind fun a16 =>
      if (a16.length : Int) ≠ 0 then
        (lkI a16 (Int.tmod (IntKind.i64.wrap (p0.At)) (a16.length : Int))).bind fun a18 =>
        some (Tapi_Lift.mk p1.Grain p1.Count p1.One (List.set x7 (Int.toNat (Int.tmod (IntKind.i64.wrap (p0.J)) (x7.length : Int))) (List.set a16 (Int.toNat (Int.tmod (IntKind.i64.wrap (p0.At)) (a16.length : Int))) p0.N)))
      else none
    else
    if ((Int.tmod p0.What 7) == 4) = true then
      if 0 ≤ (1 : Int) ∧ (1 : Int) ≤ (x7.length : Int) ∧ (x7.length : Int) ≤ (x7.length : Int) then
        some (Tapi_Lift.mk p1.Grain p1.Count p1.One (sub x7 1 (x7.length : Int)))
      else none
    else
    if ((Int.tmod p0.What 7) == 5) = true then
      (lkI x7 (Int.tmod (IntKind.i64.wrap (p0.J)) (x7.length : Int))).bind fun a26 =>
      if (a26 ++ ([0] : (List Int))).length * 8 ≤ 140737488355328 then
        some (Tapi_Lift.mk p1.Grain p1.Count p1.One (List.set (List.set x7 (Int.toNat (Int.tmod (IntKind.i64.wrap (p0.J)) (x7.length : Int))) ([] : List Int)) (Int.toNat (Int.tmod (IntKind.i64.wrap (p0.J)) (x7.length : Int))) (a26 ++ ([0] : (List Int)))))
      else none
    else
    (lkI x7 (Int.tmod (IntKind.i64.wrap (p0.J)) (x7.length : Int))).bind fun a30 =>
    if 0 ≤ (0 : Int) ∧ (0 : Int) ≤ (1 : Int) ∧ (1 : Int) ≤ (a30.length : Int) then
      some (Tapi_Lift.mk p1.Grain p1.Count p1.One (List.set (List.set x7 (Int.toNat (Int.tmod (IntKind.i64.wrap (p0.J)) (x7.length : Int))) ([] : List Int)) (Int.toNat (Int.tmod (IntKind.i64.wrap (p0.J)) (x7.length : Int))) (List.take (Int.toNat 1) a30)))
    else none
  else none
def g_law14_few_b0 (p0 : Tapi_Lift) (s1 : (Int × (List (List Int)))) : Option (Step (Int × (List (List Int))) (List (List Int))) :=
  if (decide (s1.1 < ((sub p0.Rows 0 (if 12 < (p0.Rows.length : Int) then 12 else (p0.Rows.length : Int))).length : Int))) = true then
    (lkI (sub p0.Rows 0 (if 12 < (p0.Rows.length : Int) then 12 else (p0.Rows.length : Int))) s1.1).bind fun a4 =>
    if 0 ≤ (0 : Int) ∧ (0 : Int) ≤ (if 6 < (a4.length : Int) then 6 else (a4.length : Int)) ∧ (if 6 < (a4.length : Int) then 6 else (a4.length : Int)) ≤ (a4.length : Int) then
      if (s1.2 ++ ([(sub a4 0 (if 6 < (a4.length : Int) then 6 else (a4.length : Int)))] : (List (List Int)))).length * 24 ≤ 140737488355328 then
        some (.next (IntKind.i64.wrap (s1.1 + 1), (s1.2 ++ ([(sub a4 0 (if 6 < (a4.length : Int) then 6 else (a4.length : Int)))] : (List (List Int))))))
      else none
    else none
  else
  some (.done s1.2)
def g_law14_few (p0 : Tapi_Lift) : Option Tapi_Lift :=
  if 0 ≤ (0 : Int) ∧ (0 : Int) ≤ (if 12 < (p0.Rows.length : Int) then 12 else (p0.Rows.length : Int)) ∧ (if 12 < (p0.Rows.length : Int) then 12 else (p0.Rows.length : Int)) ≤ (p0.Rows.length : Int) then
    (whileN fuel (g_law14_few_b0 p0) (0, ([] : (List (List Int))))).bind fun x7 =>
    some (Tapi_Lift.mk p0.Grain p0.Count p0.One x7)
  else none
def g_law14_models (p0 : Tharuspexref14_Draft) (p1 : Tharuspexref14_Bend) (p2 : Tapi_Lift) : Option (Tapi_Lift × Tapi_Lift × Tapi_Lift) :=
  (g_ref14_Draft_Lift p0).bind fun x1 =>
  (g_ref14_Bend_Of p1 x1).bind fun x3 =>
  (g_law14_few p2).bind fun x5 =>
  some (x1, x3, x5)
def g_ref14_Right_b0 (a18 : (List Int)) (s28 : (Int × Int)) : Option (Step (Int × Int) (Unit ⊕ Int)) :=
  if (decide (s28.2 < (a18.length : Int))) = true then
    (lkI a18 s28.2).bind fun a31 =>
    if (decide (a31 < 0)) = true then
      some (.done (Sum.inl ()))
    else
    if (decide (a31 > s28.1)) = true then
      some (.done (Sum.inl ()))
    else
    some (.next (IntKind.i64.wrap (s28.1 - a31), IntKind.i64.wrap (s28.2 + 1)))
  else
  some (.done (Sum.inr s28.1))
def g_ref14_Right_b1 (p0 : Tapi_Lift) (s15 : Int) : Option (Step Int (Unit ⊕ Unit)) :=
  if (decide (s15 < (p0.Rows.length : Int))) = true then
    (lkI p0.Rows s15).bind fun a18 =>
    if (decide ((a18.length : Int) < 2)) = true then
      some (.done (Sum.inl ()))
    else
    if (decide ((a18.length : Int) > 4)) = true then
      some (.done (Sum.inl ()))
    else
    (lkI p0.Rows 0).bind fun a24 =>
    if ((a18.length : Int) != (a24.length : Int)) = true then
      some (.done (Sum.inl ()))
    else
    (whileN fuel (g_ref14_Right_b0 a18) (p0.Grain, 0)).bind fun x37 => match x37 with
    | .inl x38 => (
      some (.done (Sum.inl ())))
    | .inr x39 => (
      if (x39 != 0) = true then
        some (.done (Sum.inl ()))
      else
      some (.next (IntKind.i64.wrap (s15 + 1))))
  else
  some (.done (Sum.inr ()))
def g_ref14_Right (p0 : Tapi_Lift) : Option Bool :=
  if (decide (p0.Grain < 1)) = true then
    some false
  else
  if (decide (p0.Grain > 20)) = true then
    some false
  else
  if (decide (p0.Count < 1)) = true then
    some false
  else
  if (decide (p0.Count > 10)) = true then
    some false
  else
  if (decide (p0.One < 0)) = true then
    some false
  else
  if (decide (p0.One > p0.Grain)) = true then
    some false
  else
  if ((p0.Rows.length : Int) != (IntKind.i64.wrap (p0.Count + 1))) = true then
    some false
  else
  (whileN fuel (g_ref14_Right_b1 p0) 0).bind fun x42 => match x42 with
  | .inl x43 => (
    some false)
  | .inr x44 => (
    some true)
def g_ref14_Errors (p0 : Tapi_Lift) (p1 : Int) (p2 : Int) (p3 : Int) : Option Int :=
  (g_ref14_Right p0).bind fun x1 =>
  if (!x1) = true then
    some 140
  else
  if (decide (p1 < 0)) = true then
    some 2
  else
  if (decide (p1 > p0.Count)) = true then
    some 2
  else
  if (decide (p2 < 0)) = true then
    some 2
  else
  if (decide (p2 > (IntKind.i64.wrap (p0.Count - p1)))) = true then
    some 2
  else
  if (decide (p3 < (-1))) = true then
    some 2
  else
  (lkI p0.Rows 0).bind fun a15 =>
  if (decide (p3 ≥ (a15.length : Int))) = true then
    some 2
  else
  some 0
def g_ref14_Total_b0 (p0 : (List Int)) (s1 : (Int × Int)) : Option (Step (Int × Int) Int) :=
  if (decide (s1.2 < (p0.length : Int))) = true then
    (lkI p0 s1.2).bind fun a4 =>
    some (.next (IntKind.i64.wrap (s1.1 + a4), IntKind.i64.wrap (s1.2 + 1)))
  else
  some (.done s1.1)
def g_ref14_Total (p0 : (List Int)) : Option Int :=
  (whileN fuel (g_ref14_Total_b0 p0) (0, 0)).bind fun x7 =>
  some x7
def g_ref14_Weights_b0 (p0 : Tapi_Lift) (s1 : (Int × (List Int))) (p1 : Int) (p2 : Int) (s4 : (Int × Int × Bool × Int)) : Option (Step (Int × Int × Bool × Int) (Int × Int × Bool)) :=
  if (decide (s4.2.2.2 < p0.Count)) = true then
    if 0 ≤ (IntKind.u64.wrap (s4.2.2.2)) then
      if ((Int.tmod (Int.fdiv s1.1 (2 ^ min (Int.toNat (IntKind.u64.wrap (s4.2.2.2))) (IntKind.bits .i64))) 2) == 1) = true then
        if s4.2.2.1 = true then
          some (.next (IntKind.i64.wrap (s4.1 + 1), IntKind.i64.wrap (s4.2.1 * p0.One), (decide (s4.2.2.2 ≥ p1)), IntKind.i64.wrap (s4.2.2.2 + 1)))
        else
        some (.next (IntKind.i64.wrap (s4.1 + 1), IntKind.i64.wrap (s4.2.1 * p0.One), false, IntKind.i64.wrap (s4.2.2.2 + 1)))
      else
      if s4.2.2.1 = true then
        if (decide (s4.2.2.2 < p1)) = true then
          some (.next (s4.1, IntKind.i64.wrap (s4.2.1 * (IntKind.i64.wrap (p0.Grain - p0.One))), true, IntKind.i64.wrap (s4.2.2.2 + 1)))
        else
        some (.next (s4.1, IntKind.i64.wrap (s4.2.1 * (IntKind.i64.wrap (p0.Grain - p0.One))), (decide (s4.2.2.2 ≥ (IntKind.i64.wrap (p1 + p2)))), IntKind.i64.wrap (s4.2.2.2 + 1)))
      else
      some (.next (s4.1, IntKind.i64.wrap (s4.2.1 * (IntKind.i64.wrap (p0.Grain - p0.One))), false, IntKind.i64.wrap (s4.2.2.2 + 1)))
    else none
  else
  some (.done (s4.1, s4.2.1, s4.2.2.1))
def g_ref14_Weights_b1 (p0 : Tapi_Lift) (p1 : Int) (p2 : Int) (p3 : Int) (s1 : (Int × (List Int))) : Option (Step (Int × (List Int)) (List Int)) :=
  if 0 ≤ (IntKind.u64.wrap (p0.Count)) then
    if (decide (s1.1 < (IntKind.i64.wrap (1 * 2 ^ min (Int.toNat (IntKind.u64.wrap (p0.Count))) (IntKind.bits .i64))))) = true then
      (whileN fuel (g_ref14_Weights_b0 p0 s1 p1 p2) (0, 1, true, 0)).bind fun x16 =>
      if (!x16.2.2) = true then
        some (.next (IntKind.i64.wrap (s1.1 + 1), s1.2))
      else
      if (p3 == (-1)) = true then
        (lkI s1.2 x16.1).bind fun a21 =>
        some (.next (IntKind.i64.wrap (s1.1 + 1), (List.set s1.2 (Int.toNat x16.1) (IntKind.i64.wrap (a21 + (IntKind.i64.wrap (x16.2.1 * p0.Grain)))))))
      else
      (lkI p0.Rows x16.1).bind fun a24 =>
      (lkI a24 p3).bind fun a26 =>
      (lkI s1.2 x16.1).bind fun a28 =>
      some (.next (IntKind.i64.wrap (s1.1 + 1), (List.set s1.2 (Int.toNat x16.1) (IntKind.i64.wrap (a28 + (IntKind.i64.wrap (x16.2.1 * a26)))))))
    else
    some (.done s1.2)
  else none
def g_ref14_Weights (p0 : Tapi_Lift) (p1 : Int) (p2 : Int) (p3 : Int) : Option (List Int) :=
  if 0 ≤ (IntKind.i64.wrap (p0.Count + 1)) ∧ (IntKind.i64.wrap (p0.Count + 1)) ≤ (IntKind.i64.wrap (p0.Count + 1)) ∧ (IntKind.i64.wrap (p0.Count + 1)) * 8 ≤ 140737488355328 then
    (whileN fuel (g_ref14_Weights_b1 p0 p1 p2 p3) (0, (List.replicate (Int.toNat (IntKind.i64.wrap (p0.Count + 1))) (0 : Int)))).bind fun x32 =>
    some x32
  else none
def g_ref14_Whole_b0 (p0 : Tapi_Lift) (s1 : (Int × Int)) : Option (Step (Int × Int) Int) :=
  if (decide (s1.2 < p0.Count)) = true then
    some (.next (IntKind.i64.wrap (s1.1 * p0.Grain), IntKind.i64.wrap (s1.2 + 1)))
  else
  some (.done s1.1)
def g_ref14_Whole (p0 : Tapi_Lift) : Option Int :=
  (whileN fuel (g_ref14_Whole_b0 p0) (p0.Grain, 0)).bind fun x5 =>
  some x5
def g_ref14_Prob (p0 : Tapi_Lift) (p1 : Int) (p2 : Int) (p3 : Int) : Option (Tapi_Q × Int) :=
  (g_ref14_Errors p0 p1 p2 p3).bind fun x1 =>
  if (x1 != 0) = true then
    some ((Tapi_Q.mk 0 0), x1)
  else
  (g_ref14_Weights p0 p1 p2 p3).bind fun x5 =>
  (g_ref14_Total x5).bind fun x7 =>
  (g_ref14_Whole p0).bind fun x9 =>
  (g_ref01_Of x7 x9).bind fun x11 =>
  some (x11, 0)
def g_ref14_Shared_b0 (p0 : (List Int)) (s1 : (Int × (List Tapi_Q))) : Option (Step (Int × (List Tapi_Q)) (List Tapi_Q)) :=
  if (decide (s1.1 < (p0.length : Int))) = true then
    (lkI p0 s1.1).bind fun a4 =>
    (g_ref14_Total p0).bind fun x6 =>
    (g_ref01_Of a4 x6).bind fun x8 =>
    if (s1.2 ++ ([x8] : (List Tapi_Q))).length * 16 ≤ 140737488355328 then
      some (.next (IntKind.i64.wrap (s1.1 + 1), (s1.2 ++ ([x8] : (List Tapi_Q)))))
    else none
  else
  some (.done s1.2)
def g_ref14_Shared (p0 : (List Int)) : Option (List Tapi_Q) :=
  (whileN fuel (g_ref14_Shared_b0 p0) (0, ([] : (List Tapi_Q)))).bind fun x11 =>
  some x11
def g_ref14_Ones (p0 : Tapi_Lift) (p1 : Int) (p2 : Int) (p3 : Int) : Option ((List Tapi_Q) × Int) :=
  (g_ref14_Errors p0 p1 p2 p3).bind fun x1 =>
  if (x1 != 0) = true then
    some (([] : (List Tapi_Q)), x1)
  else
  (g_ref14_Weights p0 p1 p2 p3).bind fun x5 =>
  (g_ref14_Total x5).bind fun x7 =>
  if (x7 == 0) = true then
    some (([] : (List Tapi_Q)), 7)
  else
  (g_ref14_Shared x5).bind fun x11 =>
  some (x11, 0)
def g_law14_LiftCounts_b0 (x5 : (Tapi_Lift × Tapi_Lift × Tapi_Lift)) (p3 : Tharuspexlaw14_Known) (x13 : Tharuspexlaw14_Known) (s15 : Int) : Option (Step Int (Unit ⊕ Unit)) :=
  if (decide (s15 < 2)) = true then
    if s15 = 0 then
      (g_lift_Prob x5.1 p3.Zeros p3.Ones p3.Child).bind fun x19 =>
      (g_ref14_Prob x5.1 p3.Zeros p3.Ones p3.Child).bind fun x21 =>
      (g_lift_Ones x5.1 p3.Zeros p3.Ones p3.Child).bind fun x23 =>
      (g_ref14_Ones x5.1 p3.Zeros p3.Ones p3.Child).bind fun x25 =>
      if (!((x19.1.N == x21.1.N) && ((x19.1.D == x21.1.D) && true))) = true then
        some (.done (Sum.inl ()))
      else
      if (x19.2 != x21.2) = true then
        some (.done (Sum.inl ()))
      else
      if (x23.2 != x25.2) = true then
        some (.done (Sum.inl ()))
      else
      (g_slices_Equal_api_Q_api_Q x23.1 x25.1).bind fun x33 =>
      if (!x33) = true then
        some (.done (Sum.inl ()))
      else
      some (.next 1)
    else
    if s15 = 1 then
      (g_lift_Prob x5.1 x13.Zeros x13.Ones x13.Child).bind fun x38 =>
      (g_ref14_Prob x5.1 x13.Zeros x13.Ones x13.Child).bind fun x40 =>
      (g_lift_Ones x5.1 x13.Zeros x13.Ones x13.Child).bind fun x42 =>
      (g_ref14_Ones x5.1 x13.Zeros x13.Ones x13.Child).bind fun x44 =>
      if (!((x38.1.N == x40.1.N) && ((x38.1.D == x40.1.D) && true))) = true then
        some (.done (Sum.inl ()))
      else
      if (x38.2 != x40.2) = true then
        some (.done (Sum.inl ()))
      else
      if (x42.2 != x44.2) = true then
        some (.done (Sum.inl ()))
      else
      (g_slices_Equal_api_Q_api_Q x42.1 x44.1).bind fun x52 =>
      if (!x52) = true then
        some (.done (Sum.inl ()))
      else
      some (.next 2)
    else
    none
  else
  some (.done (Sum.inr ()))
def g_law14_LiftCounts_b1 (x5 : (Tapi_Lift × Tapi_Lift × Tapi_Lift)) (p3 : Tharuspexlaw14_Known) (x62 : Tharuspexlaw14_Known) (s64 : Int) : Option (Step Int (Unit ⊕ Unit)) :=
  if (decide (s64 < 2)) = true then
    if s64 = 0 then
      (g_lift_Prob x5.2.1 p3.Zeros p3.Ones p3.Child).bind fun x68 =>
      (g_ref14_Prob x5.2.1 p3.Zeros p3.Ones p3.Child).bind fun x70 =>
      (g_lift_Ones x5.2.1 p3.Zeros p3.Ones p3.Child).bind fun x72 =>
      (g_ref14_Ones x5.2.1 p3.Zeros p3.Ones p3.Child).bind fun x74 =>
      if (!((x68.1.N == x70.1.N) && ((x68.1.D == x70.1.D) && true))) = true then
        some (.done (Sum.inl ()))
      else
      if (x68.2 != x70.2) = true then
        some (.done (Sum.inl ()))
      else
      if (x72.2 != x74.2) = true then
        some (.done (Sum.inl ()))
      else
      (g_slices_Equal_api_Q_api_Q x72.1 x74.1).bind fun x82 =>
      if (!x82) = true then
        some (.done (Sum.inl ()))
      else
      some (.next 1)
    else
    if s64 = 1 then
      (g_lift_Prob x5.2.1 x62.Zeros x62.Ones x62.Child).bind fun x87 =>
      (g_ref14_Prob x5.2.1 x62.Zeros x62.Ones x62.Child).bind fun x89 =>
      (g_lift_Ones x5.2.1 x62.Zeros x62.Ones x62.Child).bind fun x91 =>
      (g_ref14_Ones x5.2.1 x62.Zeros x62.Ones x62.Child).bind fun x93 =>
      if (!((x87.1.N == x89.1.N) && ((x87.1.D == x89.1.D) && true))) = true then
        some (.done (Sum.inl ()))
      else
      if (x87.2 != x89.2) = true then
        some (.done (Sum.inl ()))
      else
      if (x91.2 != x93.2) = true then
        some (.done (Sum.inl ()))
      else
      (g_slices_Equal_api_Q_api_Q x91.1 x93.1).bind fun x101 =>
      if (!x101) = true then
        some (.done (Sum.inl ()))
      else
      some (.next 2)
    else
    none
  else
  some (.done (Sum.inr ()))
def g_law14_LiftCounts_b2 (x5 : (Tapi_Lift × Tapi_Lift × Tapi_Lift)) (p3 : Tharuspexlaw14_Known) (x111 : Tharuspexlaw14_Known) (s113 : Int) : Option (Step Int (Unit ⊕ Unit)) :=
  if (decide (s113 < 2)) = true then
    if s113 = 0 then
      (g_lift_Prob x5.2.2 p3.Zeros p3.Ones p3.Child).bind fun x117 =>
      (g_ref14_Prob x5.2.2 p3.Zeros p3.Ones p3.Child).bind fun x119 =>
      (g_lift_Ones x5.2.2 p3.Zeros p3.Ones p3.Child).bind fun x121 =>
      (g_ref14_Ones x5.2.2 p3.Zeros p3.Ones p3.Child).bind fun x123 =>
      if (!((x117.1.N == x119.1.N) && ((x117.1.D == x119.1.D) && true))) = true then
        some (.done (Sum.inl ()))
      else
      if (x117.2 != x119.2) = true then
        some (.done (Sum.inl ()))
      else
      if (x121.2 != x123.2) = true then
        some (.done (Sum.inl ()))
      else
      (g_slices_Equal_api_Q_api_Q x121.1 x123.1).bind fun x131 =>
      if (!x131) = true then
        some (.done (Sum.inl ()))
      else
      some (.next 1)
    else
    if s113 = 1 then
      (g_lift_Prob x5.2.2 x111.Zeros x111.Ones x111.Child).bind fun x136 =>
      (g_ref14_Prob x5.2.2 x111.Zeros x111.Ones x111.Child).bind fun x138 =>
      (g_lift_Ones x5.2.2 x111.Zeros x111.Ones x111.Child).bind fun x140 =>
      (g_ref14_Ones x5.2.2 x111.Zeros x111.Ones x111.Child).bind fun x142 =>
      if (!((x136.1.N == x138.1.N) && ((x136.1.D == x138.1.D) && true))) = true then
        some (.done (Sum.inl ()))
      else
      if (x136.2 != x138.2) = true then
        some (.done (Sum.inl ()))
      else
      if (x140.2 != x142.2) = true then
        some (.done (Sum.inl ()))
      else
      (g_slices_Equal_api_Q_api_Q x140.1 x142.1).bind fun x150 =>
      if (!x150) = true then
        some (.done (Sum.inl ()))
      else
      some (.next 2)
    else
    none
  else
  some (.done (Sum.inr ()))
def g_law14_LiftCounts_b3 (p0 : Tharuspexref14_Draft) (p3 : Tharuspexlaw14_Known) (x5 : (Tapi_Lift × Tapi_Lift × Tapi_Lift)) (s7 : Int) : Option (Step Int (Unit ⊕ Unit)) :=
  if (decide (s7 < 3)) = true then
    if s7 = 0 then
      (g_ref14_Draft_Lift p0).bind fun x11 =>
      (g_law14_Known_Of p3 x11).bind fun x13 =>
      (whileN fuel (g_law14_LiftCounts_b0 x5 p3 x13) 0).bind fun x56 => match x56 with
      | .inl x57 => (
        some (.done (Sum.inl ())))
      | .inr x58 => (
        some (.next 1))
    else
    if s7 = 1 then
      (g_ref14_Draft_Lift p0).bind fun x60 =>
      (g_law14_Known_Of p3 x60).bind fun x62 =>
      (whileN fuel (g_law14_LiftCounts_b1 x5 p3 x62) 0).bind fun x105 => match x105 with
      | .inl x106 => (
        some (.done (Sum.inl ())))
      | .inr x107 => (
        some (.next 2))
    else
    if s7 = 2 then
      (g_ref14_Draft_Lift p0).bind fun x109 =>
      (g_law14_Known_Of p3 x109).bind fun x111 =>
      (whileN fuel (g_law14_LiftCounts_b2 x5 p3 x111) 0).bind fun x154 => match x154 with
      | .inl x155 => (
        some (.done (Sum.inl ())))
      | .inr x156 => (
        some (.next 3))
    else
    none
  else
  some (.done (Sum.inr ()))
def g_law14_LiftCounts (p0 : Tharuspexref14_Draft) (p1 : Tharuspexref14_Bend) (p2 : Tapi_Lift) (p3 : Tharuspexlaw14_Known) : Option Bool :=
  (g_law14_wakes).bind fun x1 =>
  if (!x1) = true then
    some false
  else
  (g_law14_models p0 p1 p2).bind fun x5 =>
  (whileN fuel (g_law14_LiftCounts_b3 p0 p3 x5) 0).bind fun x157 => match x157 with
  | .inl x158 => (
    some false)
  | .inr x159 => (
    some true)
def g_ref14_Next (p0 : Tapi_Lift) (p1 : Int) (p2 : Int) (p3 : Int) : Option (Tapi_Q × Int) :=
  (g_ref14_Errors p0 p1 p2 p3).bind fun x1 =>
  if (x1 != 0) = true then
    some ((Tapi_Q.mk 0 0), x1)
  else
  if ((IntKind.i64.wrap (p1 + p2)) == p0.Count) = true then
    some ((Tapi_Q.mk 0 0), 4)
  else
  (g_ref14_Weights p0 p1 p2 p3).bind fun x7 =>
  (g_ref14_Total x7).bind fun x9 =>
  if (x9 == 0) = true then
    some ((Tapi_Q.mk 0 0), 7)
  else
  (g_ref14_Weights p0 p1 (IntKind.i64.wrap (p2 + 1)) p3).bind fun x13 =>
  (g_ref14_Total x13).bind fun x15 =>
  (g_ref01_Of x15 x9).bind fun x17 =>
  some (x17, 0)
def g_ref14_Child_b0 (p0 : Tapi_Lift) (p1 : Int) (p2 : Int) (s5 : (Int × (List Int))) : Option (Step (Int × (List Int)) (List Int)) :=
  (lkI p0.Rows 0).bind fun a6 =>
  if (decide (s5.1 < (a6.length : Int))) = true then
    (g_ref14_Weights p0 p1 p2 s5.1).bind fun x10 =>
    (g_ref14_Total x10).bind fun x12 =>
    if (s5.2 ++ ([x12] : (List Int))).length * 8 ≤ 140737488355328 then
      some (.next (IntKind.i64.wrap (s5.1 + 1), (s5.2 ++ ([x12] : (List Int)))))
    else none
  else
  some (.done s5.2)
def g_ref14_Child (p0 : Tapi_Lift) (p1 : Int) (p2 : Int) : Option ((List Tapi_Q) × Int) :=
  (g_ref14_Errors p0 p1 p2 (-1)).bind fun x1 =>
  if (x1 != 0) = true then
    some (([] : (List Tapi_Q)), x1)
  else
  (whileN fuel (g_ref14_Child_b0 p0 p1 p2) (0, ([] : (List Int)))).bind fun x15 =>
  (g_ref14_Total x15).bind fun x16 =>
  if (x16 == 0) = true then
    some (([] : (List Tapi_Q)), 7)
  else
  (g_ref14_Shared x15).bind fun x20 =>
  some (x20, 0)
def g_law14_LiftNext_b0 (x5 : (Tapi_Lift × Tapi_Lift × Tapi_Lift)) (p3 : Tharuspexlaw14_Known) (x13 : Tharuspexlaw14_Known) (s15 : Int) : Option (Step Int (Unit ⊕ Unit)) :=
  if (decide (s15 < 2)) = true then
    if s15 = 0 then
      (g_lift_Next x5.1 p3.Zeros p3.Ones p3.Child).bind fun x19 =>
      (g_ref14_Next x5.1 p3.Zeros p3.Ones p3.Child).bind fun x21 =>
      (g_lift_Child x5.1 p3.Zeros p3.Ones).bind fun x23 =>
      (g_ref14_Child x5.1 p3.Zeros p3.Ones).bind fun x25 =>
      if (!((x19.1.N == x21.1.N) && ((x19.1.D == x21.1.D) && true))) = true then
        some (.done (Sum.inl ()))
      else
      if (x19.2 != x21.2) = true then
        some (.done (Sum.inl ()))
      else
      if (x23.2 != x25.2) = true then
        some (.done (Sum.inl ()))
      else
      (g_slices_Equal_api_Q_api_Q x23.1 x25.1).bind fun x33 =>
      if (!x33) = true then
        some (.done (Sum.inl ()))
      else
      some (.next 1)
    else
    if s15 = 1 then
      (g_lift_Next x5.1 x13.Zeros x13.Ones x13.Child).bind fun x38 =>
      (g_ref14_Next x5.1 x13.Zeros x13.Ones x13.Child).bind fun x40 =>
      (g_lift_Child x5.1 x13.Zeros x13.Ones).bind fun x42 =>
      (g_ref14_Child x5.1 x13.Zeros x13.Ones).bind fun x44 =>
      if (!((x38.1.N == x40.1.N) && ((x38.1.D == x40.1.D) && true))) = true then
        some (.done (Sum.inl ()))
      else
      if (x38.2 != x40.2) = true then
        some (.done (Sum.inl ()))
      else
      if (x42.2 != x44.2) = true then
        some (.done (Sum.inl ()))
      else
      (g_slices_Equal_api_Q_api_Q x42.1 x44.1).bind fun x52 =>
      if (!x52) = true then
        some (.done (Sum.inl ()))
      else
      some (.next 2)
    else
    none
  else
  some (.done (Sum.inr ()))
def g_law14_LiftNext_b1 (x5 : (Tapi_Lift × Tapi_Lift × Tapi_Lift)) (p3 : Tharuspexlaw14_Known) (x62 : Tharuspexlaw14_Known) (s64 : Int) : Option (Step Int (Unit ⊕ Unit)) :=
  if (decide (s64 < 2)) = true then
    if s64 = 0 then
      (g_lift_Next x5.2.1 p3.Zeros p3.Ones p3.Child).bind fun x68 =>
      (g_ref14_Next x5.2.1 p3.Zeros p3.Ones p3.Child).bind fun x70 =>
      (g_lift_Child x5.2.1 p3.Zeros p3.Ones).bind fun x72 =>
      (g_ref14_Child x5.2.1 p3.Zeros p3.Ones).bind fun x74 =>
      if (!((x68.1.N == x70.1.N) && ((x68.1.D == x70.1.D) && true))) = true then
        some (.done (Sum.inl ()))
      else
      if (x68.2 != x70.2) = true then
        some (.done (Sum.inl ()))
      else
      if (x72.2 != x74.2) = true then
        some (.done (Sum.inl ()))
      else
      (g_slices_Equal_api_Q_api_Q x72.1 x74.1).bind fun x82 =>
      if (!x82) = true then
        some (.done (Sum.inl ()))
      else
      some (.next 1)
    else
    if s64 = 1 then
      (g_lift_Next x5.2.1 x62.Zeros x62.Ones x62.Child).bind fun x87 =>
      (g_ref14_Next x5.2.1 x62.Zeros x62.Ones x62.Child).bind fun x89 =>
      (g_lift_Child x5.2.1 x62.Zeros x62.Ones).bind fun x91 =>
      (g_ref14_Child x5.2.1 x62.Zeros x62.Ones).bind fun x93 =>
      if (!((x87.1.N == x89.1.N) && ((x87.1.D == x89.1.D) && true))) = true then
        some (.done (Sum.inl ()))
      else
      if (x87.2 != x89.2) = true then
        some (.done (Sum.inl ()))
      else
      if (x91.2 != x93.2) = true then
        some (.done (Sum.inl ()))
      else
      (g_slices_Equal_api_Q_api_Q x91.1 x93.1).bind fun x101 =>
      if (!x101) = true then
        some (.done (Sum.inl ()))
      else
      some (.next 2)
    else
    none
  else
  some (.done (Sum.inr ()))
def g_law14_LiftNext_b2 (x5 : (Tapi_Lift × Tapi_Lift × Tapi_Lift)) (p3 : Tharuspexlaw14_Known) (x111 : Tharuspexlaw14_Known) (s113 : Int) : Option (Step Int (Unit ⊕ Unit)) :=
  if (decide (s113 < 2)) = true then
    if s113 = 0 then
      (g_lift_Next x5.2.2 p3.Zeros p3.Ones p3.Child).bind fun x117 =>
      (g_ref14_Next x5.2.2 p3.Zeros p3.Ones p3.Child).bind fun x119 =>
      (g_lift_Child x5.2.2 p3.Zeros p3.Ones).bind fun x121 =>
      (g_ref14_Child x5.2.2 p3.Zeros p3.Ones).bind fun x123 =>
      if (!((x117.1.N == x119.1.N) && ((x117.1.D == x119.1.D) && true))) = true then
        some (.done (Sum.inl ()))
      else
      if (x117.2 != x119.2) = true then
        some (.done (Sum.inl ()))
      else
      if (x121.2 != x123.2) = true then
        some (.done (Sum.inl ()))
      else
      (g_slices_Equal_api_Q_api_Q x121.1 x123.1).bind fun x131 =>
      if (!x131) = true then
        some (.done (Sum.inl ()))
      else
      some (.next 1)
    else
    if s113 = 1 then
      (g_lift_Next x5.2.2 x111.Zeros x111.Ones x111.Child).bind fun x136 =>
      (g_ref14_Next x5.2.2 x111.Zeros x111.Ones x111.Child).bind fun x138 =>
      (g_lift_Child x5.2.2 x111.Zeros x111.Ones).bind fun x140 =>
      (g_ref14_Child x5.2.2 x111.Zeros x111.Ones).bind fun x142 =>
      if (!((x136.1.N == x138.1.N) && ((x136.1.D == x138.1.D) && true))) = true then
        some (.done (Sum.inl ()))
      else
      if (x136.2 != x138.2) = true then
        some (.done (Sum.inl ()))
      else
      if (x140.2 != x142.2) = true then
        some (.done (Sum.inl ()))
      else
      (g_slices_Equal_api_Q_api_Q x140.1 x142.1).bind fun x150 =>
      if (!x150) = true then
        some (.done (Sum.inl ()))
      else
      some (.next 2)
    else
    none
  else
  some (.done (Sum.inr ()))
def g_law14_LiftNext_b3 (p0 : Tharuspexref14_Draft) (p3 : Tharuspexlaw14_Known) (x5 : (Tapi_Lift × Tapi_Lift × Tapi_Lift)) (s7 : Int) : Option (Step Int (Unit ⊕ Unit)) :=
  if (decide (s7 < 3)) = true then
    if s7 = 0 then
      (g_ref14_Draft_Lift p0).bind fun x11 =>
      (g_law14_Known_Of p3 x11).bind fun x13 =>
      (whileN fuel (g_law14_LiftNext_b0 x5 p3 x13) 0).bind fun x56 => match x56 with
      | .inl x57 => (
        some (.done (Sum.inl ())))
      | .inr x58 => (
        some (.next 1))
    else
    if s7 = 1 then
      (g_ref14_Draft_Lift p0).bind fun x60 =>
      (g_law14_Known_Of p3 x60).bind fun x62 =>
      (whileN fuel (g_law14_LiftNext_b1 x5 p3 x62) 0).bind fun x105 => match x105 with
      | .inl x106 => (
        some (.done (Sum.inl ())))
      | .inr x107 => (
        some (.next 2))
    else
    if s7 = 2 then
      (g_ref14_Draft_Lift p0).bind fun x109 =>
      (g_law14_Known_Of p3 x109).bind fun x111 =>
      (whileN fuel (g_law14_LiftNext_b2 x5 p3 x111) 0).bind fun x154 => match x154 with
      | .inl x155 => (
        some (.done (Sum.inl ())))
      | .inr x156 => (
        some (.next 3))
    else
    none
  else
  some (.done (Sum.inr ()))
def g_law14_LiftNext (p0 : Tharuspexref14_Draft) (p1 : Tharuspexref14_Bend) (p2 : Tapi_Lift) (p3 : Tharuspexlaw14_Known) : Option Bool :=
  (g_law14_wakes).bind fun x1 =>
  if (!x1) = true then
    some false
  else
  (g_law14_models p0 p1 p2).bind fun x5 =>
  (whileN fuel (g_law14_LiftNext_b3 p0 p3 x5) 0).bind fun x157 => match x157 with
  | .inl x158 => (
    some false)
  | .inr x159 => (
    some true)
def g_ref02_Same_b0 (p0 : (List Int)) (p1 : (List Int)) (s3 : Int) : Option (Step Int (Unit ⊕ Unit)) :=
  if (decide (s3 < (p0.length : Int))) = true then
    (lkI p0 s3).bind fun a6 =>
    (lkI p1 s3).bind fun a8 =>
    if (a6 != a8) = true then
      some (.done (Sum.inl ()))
    else
    some (.next (IntKind.i64.wrap (s3 + 1)))
  else
  some (.done (Sum.inr ()))
def g_ref02_Same (p0 : (List Int)) (p1 : (List Int)) : Option Bool :=
  if ((p0.length : Int) != (p1.length : Int)) = true then
    some false
  else
  (whileN fuel (g_ref02_Same_b0 p0 p1) 0).bind fun x12 => match x12 with
  | .inl x13 => (
    some false)
  | .inr x14 => (
    some true)
def g_ref05_Same_b0 (a8 : Tapi_Node) (a10 : Tapi_Node) (s20 : Int) : Option (Step Int (Unit ⊕ Unit)) :=
  if (decide (s20 < (a8.Rows.length : Int))) = true then
    (lkI a8.Rows s20).bind fun a23 =>
    (lkI a10.Rows s20).bind fun a25 =>
    (g_ref02_Same a23 a25).bind fun x27 =>
    if (!x27) = true then
      some (.done (Sum.inl ()))
    else
    some (.next (IntKind.i64.wrap (s20 + 1)))
  else
  some (.done (Sum.inr ()))
def g_ref05_Same_b1 (p0 : Tapi_Net) (p1 : Tapi_Net) (s5 : Int) : Option (Step Int (Unit ⊕ Unit)) :=
  if (decide (s5 < (p0.Nodes.length : Int))) = true then
    (lkI p0.Nodes s5).bind fun a8 =>
    (lkI p1.Nodes s5).bind fun a10 =>
    if (a8.Card != a10.Card) = true then
      some (.done (Sum.inl ()))
    else
    (g_ref02_Same a8.Parents a10.Parents).bind fun x14 =>
    if (!x14) = true then
      some (.done (Sum.inl ()))
    else
    if ((a8.Rows.length : Int) != (a10.Rows.length : Int)) = true then
      some (.done (Sum.inl ()))
    else
    (whileN fuel (g_ref05_Same_b0 a8 a10) 0).bind fun x31 => match x31 with
    | .inl x32 => (
      some (.done (Sum.inl ())))
    | .inr x33 => (
      some (.next (IntKind.i64.wrap (s5 + 1))))
  else
  some (.done (Sum.inr ()))
def g_ref05_Same (p0 : Tapi_Net) (p1 : Tapi_Net) : Option Bool :=
  if (p0.Grain != p1.Grain) = true then
    some false
  else
  if ((p0.Nodes.length : Int) != (p1.Nodes.length : Int)) = true then
    some false
  else
  (whileN fuel (g_ref05_Same_b1 p0 p1) 0).bind fun x34 => match x34 with
  | .inl x35 => (
    some false)
  | .inr x36 => (
    some true)
def g_ref14_Ground_b0 (p0 : Tapi_Lift) (s3 : (Int × (List Tapi_Node) × (List Int))) : Option (Step (Int × (List Tapi_Node) × (List Int)) ((List Tapi_Node) × (List Int))) :=
  if (decide (s3.1 < p0.Count)) = true then
    if (s3.2.1 ++ ([(Tapi_Node.mk 2 [] [[IntKind.i64.wrap (p0.Grain - p0.One), p0.One]])] : (List Tapi_Node))).length * 56 ≤ 140737488355328 then
      if (s3.2.2 ++ ([s3.1] : (List Int))).length * 8 ≤ 140737488355328 then
        some (.next (IntKind.i64.wrap (s3.1 + 1), (s3.2.1 ++ ([(Tapi_Node.mk 2 [] [[IntKind.i64.wrap (p0.Grain - p0.One), p0.One]])] : (List Tapi_Node))), (s3.2.2 ++ ([s3.1] : (List Int)))))
      else none
    else none
  else
  some (.done (s3.2.1, s3.2.2))
def g_ref14_Ground_b1 (p0 : Tapi_Lift) (s8 : (Int × (List (List Int)))) (s11 : (Int × Int)) : Option (Step (Int × Int) Int) :=
  if (decide (s11.2 < p0.Count)) = true then
    if 0 ≤ (IntKind.u64.wrap (s11.2)) then
      some (.next (IntKind.i64.wrap (s11.1 + (Int.tmod (Int.fdiv s8.1 (2 ^ min (Int.toNat (IntKind.u64.wrap (s11.2))) (IntKind.bits .i64))) 2)), IntKind.i64.wrap (s11.2 + 1)))
    else none
  else
  some (.done s11.1)
def g_ref14_Ground_b2 (p0 : Tapi_Lift) (s8 : (Int × (List (List Int)))) : Option (Step (Int × (List (List Int))) (List (List Int))) :=
  if 0 ≤ (IntKind.u64.wrap (p0.Count)) then
    if (decide (s8.1 < (IntKind.i64.wrap (1 * 2 ^ min (Int.toNat (IntKind.u64.wrap (p0.Count))) (IntKind.bits .i64))))) = true then
      (whileN fuel (g_ref14_Ground_b1 p0 s8) (0, 0)).bind fun x15 =>
      (lkI p0.Rows x15).bind fun a16 =>
      if (s8.2 ++ ([a16] : (List (List Int)))).length * 24 ≤ 140737488355328 then
        some (.next (IntKind.i64.wrap (s8.1 + 1), (s8.2 ++ ([a16] : (List (List Int))))))
      else none
    else
    some (.done s8.2)
  else none
def g_ref14_Ground (p0 : Tapi_Lift) : Option Tapi_Net :=
  (lkI p0.Rows 0).bind fun a1 =>
  (whileN fuel (g_ref14_Ground_b0 p0) (0, ([] : (List Tapi_Node)), ([] : (List Int)))).bind fun x7 =>
  (whileN fuel (g_ref14_Ground_b2 p0) (0, ([] : (List (List Int))))).bind fun x19 =>
  if (x7.1 ++ ([(Tapi_Node.mk (a1.length : Int) x7.2 x19)] : (List Tapi_Node))).length * 56 ≤ 140737488355328 then
    some (Tapi_Net.mk p0.Grain (x7.1 ++ ([(Tapi_Node.mk (a1.length : Int) x7.2 x19)] : (List Tapi_Node))))
  else none
def g_law14_LiftChecks_b0 (x5 : (Tapi_Lift × Tapi_Lift × Tapi_Lift)) (s7 : Int) : Option (Step Int (Unit ⊕ Unit)) :=
  if (decide (s7 < 3)) = true then
    if s7 = 0 then
      (g_ref14_Right x5.1).bind fun x11 =>
      (g_lift_Ground x5.1).bind fun x13 =>
      (g_lift_Check x5.1).bind fun x15 =>
      if (!((x15 == 0) == x11)) = true then
        some (.done (Sum.inl ()))
      else
      if (!x11) = true then
        (g_lift_Check x5.1).bind fun x21 =>
        if (x21 != 140) = true then
          some (.done (Sum.inl ()))
        else
        if (x13.2 != 140) = true then
          some (.done (Sum.inl ()))
        else
        if (decide ((x13.1.Nodes.length : Int) > 0)) = true then
          some (.done (Sum.inl ()))
        else
        some (.next 1)
      else
      if (decide (x5.1.Count > 7)) = true then
        if (x13.2 != 6) = true then
          some (.done (Sum.inl ()))
        else
        if (decide ((x13.1.Nodes.length : Int) > 0)) = true then
          some (.done (Sum.inl ()))
        else
        some (.next 1)
      else
      if (x13.2 != 0) = true then
        some (.done (Sum.inl ()))
      else
      (g_ref14_Ground x5.1).bind fun x39 =>
      (g_ref05_Same x13.1 x39).bind fun x41 =>
      if (!x41) = true then
        some (.done (Sum.inl ()))
      else
      some (.next 1)
    else
    if s7 = 1 then
      (g_ref14_Right x5.2.1).bind fun x46 =>
      (g_lift_Ground x5.2.1).bind fun x48 =>
      (g_lift_Check x5.2.1).bind fun x50 =>
      if (!((x50 == 0) == x46)) = true then
        some (.done (Sum.inl ()))
      else
      if (!x46) = true then
        (g_lift_Check x5.2.1).bind fun x56 =>
        if (x56 != 140) = true then
          some (.done (Sum.inl ()))
        else
        if (x48.2 != 140) = true then
          some (.done (Sum.inl ()))
        else
        if (decide ((x48.1.Nodes.length : Int) > 0)) = true then
          some (.done (Sum.inl ()))
        else
        some (.next 2)
      else
      if (decide (x5.2.1.Count > 7)) = true then
        if (x48.2 != 6) = true then
          some (.done (Sum.inl ()))
        else
        if (decide ((x48.1.Nodes.length : Int) > 0)) = true then
          some (.done (Sum.inl ()))
        else
        some (.next 2)
      else
      if (x48.2 != 0) = true then
        some (.done (Sum.inl ()))
      else
      (g_ref14_Ground x5.2.1).bind fun x74 =>
      (g_ref05_Same x48.1 x74).bind fun x76 =>
      if (!x76) = true then
        some (.done (Sum.inl ()))
      else
      some (.next 2)
    else
    if s7 = 2 then
      (g_ref14_Right x5.2.2).bind fun x81 =>
      (g_lift_Ground x5.2.2).bind fun x83 =>
      (g_lift_Check x5.2.2).bind fun x85 =>
      if (!((x85 == 0) == x81)) = true then
        some (.done (Sum.inl ()))
      else
      if (!x81) = true then
        (g_lift_Check x5.2.2).bind fun x91 =>
        if (x91 != 140) = true then
          some (.done (Sum.inl ()))
        else
        if (x83.2 != 140) = true then
          some (.done (Sum.inl ()))
        else
        if (decide ((x83.1.Nodes.length : Int) > 0)) = true then
          some (.done (Sum.inl ()))
        else
        some (.next 3)
      else
      if (decide (x5.2.2.Count > 7)) = true then
        if (x83.2 != 6) = true then
          some (.done (Sum.inl ()))
        else
        if (decide ((x83.1.Nodes.length : Int) > 0)) = true then
          some (.done (Sum.inl ()))
        else
        some (.next 3)
      else
      if (x83.2 != 0) = true then
        some (.done (Sum.inl ()))
      else
      (g_ref14_Ground x5.2.2).bind fun x109 =>
      (g_ref05_Same x83.1 x109).bind fun x111 =>
      if (!x111) = true then
        some (.done (Sum.inl ()))
      else
      some (.next 3)
    else
    none
  else
  some (.done (Sum.inr ()))
def g_law14_LiftChecks (p0 : Tharuspexref14_Draft) (p1 : Tharuspexref14_Bend) (p2 : Tapi_Lift) : Option Bool :=
  (g_law14_wakes).bind fun x1 =>
  if (!x1) = true then
    some false
  else
  (g_law14_models p0 p1 p2).bind fun x5 =>
  (whileN fuel (g_law14_LiftChecks_b0 x5) 0).bind fun x115 => match x115 with
  | .inl x116 => (
    some false)
  | .inr x117 => (
    some true)
def g_net_network_filled_b0 (p1 : Tapi_Node) (p0 : Tnet_network) (s1 : (Int × Int)) : Option (Step (Int × Int) Int) :=
  if (decide (s1.2 < (p1.Parents.length : Int))) = true then
    (lkI p1.Parents s1.2).bind fun a4 =>
    (lkI p0.cards a4).bind fun a6 =>
    some (.next (IntKind.i64.wrap (s1.1 * a6), IntKind.i64.wrap (s1.2 + 1)))
  else
  some (.done s1.1)
def g_net_network_filled_b1 (a15 : (List Int)) (s17 : (Int × Int)) : Option (Step (Int × Int) (Unit ⊕ Int)) :=
  if (decide (s17.2 < (a15.length : Int))) = true then
    (lkI a15 s17.2).bind fun a20 =>
    if (decide (a20 < 0)) = true then
      some (.done (Sum.inl ()))
    else
    if (decide (a20 > s17.1)) = true then
      some (.done (Sum.inl ()))
    else
    some (.next (IntKind.i64.wrap (s17.1 - a20), IntKind.i64.wrap (s17.2 + 1)))
  else
  some (.done (Sum.inr s17.1))
def g_net_network_filled_b2 (p1 : Tapi_Node) (p0 : Tnet_network) (s12 : Int) : Option (Step Int (Unit ⊕ Unit)) :=
  if (decide (s12 < (p1.Rows.length : Int))) = true then
    (lkI p1.Rows s12).bind fun a15 =>
    (whileN fuel (g_net_network_filled_b1 a15) (p0.Net.Grain, 0)).bind fun x26 => match x26 with
    | .inl x27 => (
      some (.done (Sum.inl ())))
    | .inr x28 => (
      if ((a15.length : Int) != p1.Card) = true then
        some (.done (Sum.inl ()))
      else
      if (x28 != 0) = true then
        some (.done (Sum.inl ()))
      else
      some (.next (IntKind.i64.wrap (s12 + 1))))
  else
  some (.done (Sum.inr ()))
def g_net_network_filled (p0 : Tnet_network) (p1 : Tapi_Node) : Option Bool :=
  (whileN fuel (g_net_network_filled_b0 p1 p0) (1, 0)).bind fun x9 =>
  if ((p1.Rows.length : Int) != x9) = true then
    some false
  else
  (whileN fuel (g_net_network_filled_b2 p1 p0) 0).bind fun x33 => match x33 with
  | .inl x34 => (
    some false)
  | .inr x35 => (
    some true)
def g_net_sorted_b0 (p0 : (List Int)) (s1 : (Int × (List Int))) (s4 : Int) : Option (Step Int ((Int × (List Int)) ⊕ Unit)) :=
  if (decide (s4 < (p0.length : Int))) = true then
    (lkI p0 s4).bind fun a7 =>
    if 0 ≤ s4 then
      if ((IntKind.u64.wrap (BitVec.ofInt (IntKind.bits .u64) (Int.fdiv s1.1 (2 ^ min (Int.toNat s4) (IntKind.bits .u64))) &&& BitVec.ofInt (IntKind.bits .u64) 1).toNat) == 0) = true then
        if ((IntKind.u64.wrap (BitVec.ofInt (IntKind.bits .u64) a7 &&& ~~~ BitVec.ofInt (IntKind.bits .u64) s1.1).toNat) == 0) = true then
          if (s1.2 ++ ([s4] : (List Int))).length * 8 ≤ 140737488355328 then
            if 0 ≤ s4 then
              some (.done (Sum.inl (IntKind.u64.wrap (BitVec.ofInt (IntKind.bits .u64) s1.1 ||| BitVec.ofInt (IntKind.bits .u64) (IntKind.u64.wrap (1 * 2 ^ min (Int.toNat s4) (IntKind.bits .u64)))).toNat, (s1.2 ++ ([s4] : (List Int))))))
            else none
          else none
        else
        some (.next (IntKind.i64.wrap (s4 + 1)))
      else
      some (.next (IntKind.i64.wrap (s4 + 1)))
    else none
  else
  some (.done (Sum.inr ()))
def g_net_sorted_b1 (p0 : (List Int)) (s1 : (Int × (List Int))) : Option (Step (Int × (List Int)) (Unit ⊕ (List Int))) :=
  if (decide ((s1.2.length : Int) < (p0.length : Int))) = true then
    (whileN fuel (g_net_sorted_b0 p0 s1) 0).bind fun x13 => match x13 with
    | .inl x14 => (
      some (.next (x14.1, x14.2)))
    | .inr x15 => (
      some (.done (Sum.inl ())))
  else
  some (.done (Sum.inr s1.2))
def g_net_sorted (p0 : (List Int)) : Option ((List Int) × Bool) :=
  if 0 ≤ (0 : Int) ∧ (0 : Int) ≤ (p0.length : Int) ∧ (p0.length : Int) * 8 ≤ 140737488355328 then
    (whileN fuel (g_net_sorted_b1 p0) (0, (List.replicate (Int.toNat 0) (0 : Int)))).bind fun x16 => match x16 with
    | .inl x17 => (
      some (([] : (List Int)), false))
    | .inr x18 => (
      some (x18, true))
  else none
def g_net_read_b0 (p0 : Tapi_Net) (s9 : (Int × Int × (List Int))) : Option (Step (Int × Int × (List Int)) (Unit ⊕ (Int × (List Int)))) :=
  if (decide (s9.2.1 < (p0.Nodes.length : Int))) = true then
    (lkI p0.Nodes s9.2.1).bind fun a12 =>
    if (decide (a12.Card < 1)) = true then
      some (.done (Sum.inl ()))
    else
    if (decide (a12.Card > 4)) = true then
      some (.done (Sum.inl ()))
    else
    (lkI s9.2.2 s9.2.1).bind fun a18 =>
    some (.next (IntKind.i64.wrap (s9.1 * a12.Card), IntKind.i64.wrap (s9.2.1 + 1), (List.set s9.2.2 (Int.toNat s9.2.1) a12.Card)))
  else
  some (.done (Sum.inr (s9.1, s9.2.2)))
def g_net_read_b1 (a29 : Tapi_Node) (p0 : Tapi_Net) (s26 : (Int × (List Int))) (s31 : (Int × Int × (List Int))) : Option (Step (Int × Int × (List Int)) (Unit ⊕ (List Int))) :=
  if (decide (s31.2.1 < (a29.Parents.length : Int))) = true then
    (lkI a29.Parents s31.2.1).bind fun a34 =>
    if (decide (a34 ≤ s31.1)) = true then
      some (.done (Sum.inl ()))
    else
    if (decide (a34 ≥ (p0.Nodes.length : Int))) = true then
      some (.done (Sum.inl ()))
    else
    if (a34 == s26.1) = true then
      some (.done (Sum.inl ()))
    else
    (lkI s31.2.2 s26.1).bind fun a42 =>
    if 0 ≤ a34 then
      some (.next (a34, IntKind.i64.wrap (s31.2.1 + 1), (List.set s31.2.2 (Int.toNat s26.1) (IntKind.u64.wrap (BitVec.ofInt (IntKind.bits .u64) a42 ||| BitVec.ofInt (IntKind.bits .u64) (IntKind.u64.wrap (1 * 2 ^ min (Int.toNat a34) (IntKind.bits .u64)))).toNat))))
    else none
  else
  some (.done (Sum.inr s31.2.2))
def g_net_read_b2 (p0 : Tapi_Net) (x23 : (Int × (List Int))) (s26 : (Int × (List Int))) : Option (Step (Int × (List Int)) (Unit ⊕ (List Int))) :=
  if (decide (s26.1 < (p0.Nodes.length : Int))) = true then
    (lkI p0.Nodes s26.1).bind fun a29 =>
    (whileN fuel (g_net_read_b1 a29 p0 s26) (-1, 0, s26.2)).bind fun x45 => match x45 with
    | .inl x46 => (
      some (.done (Sum.inl ())))
    | .inr x47 => (
      (g_net_network_filled (Tnet_network.mk p0 x23.2 x47 []) a29).bind fun x48 =>
      if (!x48) = true then
        some (.done (Sum.inl ()))
      else
      some (.next (IntKind.i64.wrap (s26.1 + 1), x47)))
  else
  some (.done (Sum.inr s26.2))
def g_net_read (p0 : Tapi_Net) : Option (Tnet_network × Int) :=
  if (decide (p0.Grain < 1)) = true then
    some ((Tnet_network.mk (Tapi_Net.mk 0 []) [] [] []), 50)
  else
  if (decide (p0.Grain > 60)) = true then
    some ((Tnet_network.mk (Tapi_Net.mk 0 []) [] [] []), 50)
  else
  if (decide ((p0.Nodes.length : Int) < 1)) = true then
    some ((Tnet_network.mk (Tapi_Net.mk 0 []) [] [] []), 50)
  else
  if (decide ((p0.Nodes.length : Int) > 8)) = true then
    some ((Tnet_network.mk (Tapi_Net.mk 0 []) [] [] []), 50)
  else
  if 0 ≤ (p0.Nodes.length : Int) ∧ (p0.Nodes.length : Int) ≤ (p0.Nodes.length : Int) ∧ (p0.Nodes.length : Int) * 8 ≤ 140737488355328 then
    if 0 ≤ (p0.Nodes.length : Int) ∧ (p0.Nodes.length : Int) ≤ (p0.Nodes.length : Int) ∧ (p0.Nodes.length : Int) * 8 ≤ 140737488355328 then
      (whileN fuel (g_net_read_b0 p0) (1, 0, (List.replicate (Int.toNat (p0.Nodes.length : Int)) (0 : Int)))).bind fun x21 => match x21 with
      | .inl x22 => (
        some ((Tnet_network.mk (Tapi_Net.mk 0 []) [] [] []), 50))
      | .inr x23 => (
        if (decide (x23.1 > 1024)) = true then
          some ((Tnet_network.mk (Tapi_Net.mk 0 []) [] [] []), 50)
        else
        (whileN fuel (g_net_read_b2 p0 x23) (0, (List.replicate (Int.toNat (p0.Nodes.length : Int)) (0 : Int)))).bind fun x52 => match x52 with
        | .inl x53 => (
          some ((Tnet_network.mk (Tapi_Net.mk 0 []) [] [] []), 50))
        | .inr x54 => (
          (g_net_sorted x54).bind fun x55 =>
          if (!x55.2) = true then
            some ((Tnet_network.mk (Tapi_Net.mk 0 []) [] [] []), 50)
          else
          some ((Tnet_network.mk p0 x23.2 x54 x55.1), 0)))
    else none
  else none
def g_cmp_isNaN_int (p0 : Int) : Option Bool :=
  some (p0 != p0)
def g_cmp_Less_int (p0 : Int) (p1 : Int) : Option Bool :=
  (g_cmp_isNaN_int p0).bind fun x1 =>
  if x1 = true then
    (g_cmp_isNaN_int p1).bind fun x5 =>
    if (!x5) = true then
      some true
    else
    some (decide (p0 < p1))
  else
  some (decide (p0 < p1))
def g_slices_isNaN_int (p0 : Int) : Option Bool :=
  some (p0 != p0)
def g_slices_BinarySearch_int_int_b0 (p0 : (List Int)) (p1 : Int) (s1 : (Int × Int)) : Option (Step (Int × Int) Int) :=
  if (decide (s1.1 < s1.2)) = true then
    (lkI p0 (IntKind.i64.wrap (Int.fdiv (IntKind.u64.wrap (IntKind.i64.wrap (s1.1 + s1.2))) (2 ^ min (Int.toNat 1) (IntKind.bits .u64))))).bind fun a4 =>
    (g_cmp_Less_int a4 p1).bind fun x6 =>
    if x6 = true then
      some (.next (IntKind.i64.wrap ((IntKind.i64.wrap (Int.fdiv (IntKind.u64.wrap (IntKind.i64.wrap (s1.1 + s1.2))) (2 ^ min (Int.toNat 1) (IntKind.bits .u64)))) + 1), s1.2))
    else
    some (.next (s1.1, IntKind.i64.wrap (Int.fdiv (IntKind.u64.wrap (IntKind.i64.wrap (s1.1 + s1.2))) (2 ^ min (Int.toNat 1) (IntKind.bits .u64)))))
  else
  some (.done s1.1)
def g_slices_BinarySearch_int_int (p0 : (List Int)) (p1 : Int) : Option (Int × Bool) :=
  (whileN fuel (g_slices_BinarySearch_int_int_b0 p0 p1) (0, (p0.length : Int))).bind fun x11 =>
  if (decide (x11 < (p0.length : Int))) = true then
    (lkI p0 x11).bind fun a14 =>
    if (a14 == p1) = true then
      some (x11, true)
    else
    (g_slices_isNaN_int a14).bind fun x18 =>
    if x18 = true then
      (g_slices_isNaN_int p1).bind fun x22 =>
      some (x11, x22)
    else
    some (x11, false)
  else
  some (x11, false)
def g_slices_Reverse_int_int_b0 (p0 : (List Int)) (s1 : Unit) : Option (Step Unit Unit) :=
  if (decide (0 < (IntKind.i64.wrap ((p0.length : Int) - 1)))) = true then
    (lkI p0 (IntKind.i64.wrap ((p0.length : Int) - 1))).bind fun a4 =>
    (lkI p0 0).bind fun a6 =>
    none
  else
  some (.done ())
def g_slices_Reverse_int_int (p0 : (List Int)) : Option Unit :=
  (whileN fuel (g_slices_Reverse_int_int_b0 p0) ()).bind fun x9 =>
  some ()
def g_slices_rotateLeft_int (p0 : (List Int)) (p1 : Int) : Option Unit :=
  if 0 ≤ (0 : Int) ∧ (0 : Int) ≤ p1 ∧ p1 ≤ (p0.length : Int) then
    (g_slices_Reverse_int_int (sub p0 0 p1)).bind fun x1 =>
    if 0 ≤ p1 ∧ p1 ≤ (p0.length : Int) ∧ (p0.length : Int) ≤ (p0.length : Int) then
      (g_slices_Reverse_int_int (sub p0 p1 (p0.length : Int))).bind fun x3 =>
      (g_slices_Reverse_int_int p0).bind fun x5 =>
      some ()
    else none
  else none
def g_slices_rotateRight_int (p0 : (List Int)) (p1 : Int) : Option Unit :=
  (g_slices_rotateLeft_int p0 (IntKind.i64.wrap ((p0.length : Int) - p1))).bind fun x1 =>
  some ()
def g_slices_Insert_int_int (p0 : (List Int)) (p1 : Int) (p2 : (List Int)) : Option (List Int) :=
  if 0 ≤ p1 ∧ p1 ≤ (p0.length : Int) ∧ (p0.length : Int) ≤ (p0.length : Int) then
    if ((p2.length : Int) == 0) = true then
      some p0
    else
    if (p1 == (p0.length : Int)) = true then
      none
    else
    none
  else none
def g_net_Factors_b0 (x1 : (Tnet_network × Int)) (s5 : Unit) : Option (Step Unit Unit) :=
  if (decide (0 < (((List.replicate (Int.toNat (x1.1.Net.Nodes.length : Int)) ((Tapi_Factor.mk [] [] []) : Tapi_Factor)).length) : Int))) = true then
    (lkI x1.1.Net.Nodes 0).bind fun a8 =>
    (g_slices_BinarySearch_int_int a8.Parents 0).bind fun x10 =>
    none
  else
  some (.done ())
def g_net_Factors (p0 : Tapi_Net) : Option ((List Tapi_Factor) × Int) :=
  (g_net_read p0).bind fun x1 =>
  if (x1.2 != 0) = true then
    some (([] : (List Tapi_Factor)), x1.2)
  else
  if 0 ≤ (x1.1.Net.Nodes.length : Int) ∧ (x1.1.Net.Nodes.length : Int) ≤ (x1.1.Net.Nodes.length : Int) ∧ (x1.1.Net.Nodes.length : Int) * 72 ≤ 140737488355328 then
    (whileN fuel (g_net_Factors_b0 x1) ()).bind fun x13 =>
    some ((List.replicate (Int.toNat (x1.1.Net.Nodes.length : Int)) ((Tapi_Factor.mk [] [] []) : Tapi_Factor)), 0)
  else none
def g_net_CheckEvidence_b0 (p1 : (List Int)) (x1 : (Tnet_network × Int)) (s7 : Int) : Option (Step Int (Unit ⊕ Unit)) :=
  if (decide (s7 < (p1.length : Int))) = true then
    (lkI p1 s7).bind fun a10 =>
    if (decide (a10 < (-1))) = true then
      some (.done (Sum.inl ()))
    else
    (lkI x1.1.cards s7).bind fun a14 =>
    if (decide (a10 ≥ a14)) = true then
      some (.done (Sum.inl ()))
    else
    some (.next (IntKind.i64.wrap (s7 + 1)))
  else
  some (.done (Sum.inr ()))
def g_net_CheckEvidence (p0 : Tapi_Net) (p1 : (List Int)) : Option Int :=
  (g_net_read p0).bind fun x1 =>
  if (x1.2 != 0) = true then
    some x1.2
  else
  if ((p1.length : Int) != (x1.1.Net.Nodes.length : Int)) = true then
    some 2
  else
  (whileN fuel (g_net_CheckEvidence_b0 p1 x1) 0).bind fun x18 => match x18 with
  | .inl x19 => (
    some 2)
  | .inr x20 => (
    some 0)
def g_joint_ask_b0 (p1 : (List (List Int))) (p0 : Tapi_Net) (s5 : Int) : Option (Step Int (Int ⊕ Unit)) :=
  if (decide (s5 < (p1.length : Int))) = true then
    (lkI p1 s5).bind fun a8 =>
    (g_net_CheckEvidence p0 a8).bind fun x10 =>
    if (x10 != 0) = true then
      some (.done (Sum.inl x10))
    else
    some (.next (IntKind.i64.wrap (s5 + 1)))
  else
  some (.done (Sum.inr ()))
def g_joint_ask_b1 (s17 : (Int × (List (List Int)))) (a20 : Tapi_Factor) (s25 : (Int × Int × (List (List Int)))) : Option (Step (Int × Int × (List (List Int))) (List (List Int))) :=
  if (decide (s25.2.1 ≥ 0)) = true then
    (lkI s25.2.2 s17.1).bind fun a28 =>
    (lkI a20.Vars s25.2.1).bind fun a30 =>
    (lkI a28 a30).bind fun a32 =>
    (lkI a20.Cards s25.2.1).bind fun a34 =>
    some (.next (IntKind.i64.wrap (s25.1 * a34), IntKind.i64.wrap (s25.2.1 - 1), (List.set s25.2.2 (Int.toNat s17.1) (List.set a28 (Int.toNat a30) s25.1))))
  else
  some (.done s25.2.2)
def g_joint_ask_b2 (x1 : ((List Tapi_Factor) × Int)) (p0 : Tapi_Net) (s17 : (Int × (List (List Int)))) : Option (Step (Int × (List (List Int))) (List (List Int))) :=
  if (decide (s17.1 < (x1.1.length : Int))) = true then
    (lkI x1.1 s17.1).bind fun a20 =>
    if 0 ≤ (p0.Nodes.length : Int) ∧ (p0.Nodes.length : Int) ≤ (p0.Nodes.length : Int) ∧ (p0.Nodes.length : Int) * 8 ≤ 140737488355328 then
      (lkI s17.2 s17.1).bind fun a22 =>
      (whileN fuel (g_joint_ask_b1 s17 a20) (1, IntKind.i64.wrap ((a20.Vars.length : Int) - 1), (List.set s17.2 (Int.toNat s17.1) (List.replicate (Int.toNat (p0.Nodes.length : Int)) (0 : Int))))).bind fun x38 =>
      some (.next (IntKind.i64.wrap (s17.1 + 1), x38))
    else none
  else
  some (.done s17.2)
def g_joint_ask (p0 : Tapi_Net) (p1 : (List (List Int))) : Option (Tjoint_question × Int) :=
  (g_net_Factors p0).bind fun x1 =>
  if (x1.2 != 0) = true then
    some ((Tjoint_question.mk (Tapi_Net.mk 0 []) [] []), x1.2)
  else
  (whileN fuel (g_joint_ask_b0 p1 p0) 0).bind fun x14 => match x14 with
  | .inl x15 => (
    some ((Tjoint_question.mk (Tapi_Net.mk 0 []) [] []), x15))
  | .inr x16 => (
    if 0 ≤ (x1.1.length : Int) ∧ (x1.1.length : Int) ≤ (x1.1.length : Int) ∧ (x1.1.length : Int) * 24 ≤ 140737488355328 then
      (whileN fuel (g_joint_ask_b2 x1 p0) (0, (List.replicate (Int.toNat (x1.1.length : Int)) ([] : (List Int))))).bind fun x40 =>
      some ((Tjoint_question.mk p0 x1.1 x40), 0)
    else none)
def g_net_Whole_b0 (x1 : (Tnet_network × Int)) (s5 : (Int × Int)) : Option (Step (Int × Int) Int) :=
  if (decide (s5.2 < (x1.1.Net.Nodes.length : Int))) = true then
    some (.next (IntKind.i64.wrap (s5.1 * x1.1.Net.Grain), IntKind.i64.wrap (s5.2 + 1)))
  else
  some (.done s5.1)
def g_net_Whole (p0 : Tapi_Net) : Option (Int × Int) :=
  (g_net_read p0).bind fun x1 =>
  if (x1.2 != 0) = true then
    some (0, x1.2)
  else
  (whileN fuel (g_net_Whole_b0 x1) (1, 0)).bind fun x9 =>
  some (x9, 0)
def g_frac_common_b0  (s1 : (Int × Int)) : Option (Step (Int × Int) Int) :=
  if (s1.2 != 0) = true then
    if s1.2 ≠ 0 then
      some (.next (s1.2, Int.tmod s1.1 s1.2))
    else none
  else
  some (.done s1.1)
def g_frac_common (p0 : Int) (p1 : Int) : Option Int :=
  (whileN fuel (g_frac_common_b0) (p0, p1)).bind fun x5 =>
  some x5
def g_frac_size (p0 : Int) : Option Int :=
  if (decide (p0 < 0)) = true then
    some (IntKind.u64.wrap (0 - (IntKind.u64.wrap (p0))))
  else
  some (IntKind.u64.wrap (p0))
def g_frac_fit (p0 : Bool) (p1 : (Int × Int)) (p2 : (Int × Int)) : Option Tapi_Q :=
  if (p1.1 != 0) = true then
    none
  else
  if (decide (p1.2 > 4611686018427387903)) = true then
    none
  else
  if (p2.1 != 0) = true then
    none
  else
  if (decide (p2.2 > 4611686018427387903)) = true then
    none
  else
  if p0 = true then
    some (Tapi_Q.mk (IntKind.i64.wrap (0 - (IntKind.i64.wrap (p1.2)))) (IntKind.i64.wrap (p2.2)))
  else
  some (Tapi_Q.mk (IntKind.i64.wrap (p1.2)) (IntKind.i64.wrap (p2.2)))
def g_frac_Make (p0 : Int) (p1 : Int) : Option (Tapi_Q × Int) :=
  if (p1 == 0) = true then
    some ((Tapi_Q.mk 0 0), 2)
  else
  none
def g_joint_matches_b0 (p1 : (List Int)) (p0 : (List Int)) (s1 : Int) : Option (Step Int Bool) :=
  if (decide (s1 < (p1.length : Int))) = true then
    (lkI p1 s1).bind fun a4 =>
    if (a4 == (-1)) = true then
      some (.next (IntKind.i64.wrap (s1 + 1)))
    else
    (lkI p0 s1).bind fun a8 =>
    if (a4 == a8) = true then
      some (.next (IntKind.i64.wrap (s1 + 1)))
    else
    some (.done false)
  else
  some (.done true)
def g_joint_matches (p0 : (List Int)) (p1 : (List Int)) : Option Bool :=
  (whileN fuel (g_joint_matches_b0 p1 p0) 0).bind fun x13 =>
  some x13
def g_joint_question_weight_b0 (a4 : Tapi_Factor) (p1 : (List Int)) (p0 : Tjoint_question) (s1 : (Int × Int)) (s6 : (Int × Int)) : Option (Step (Int × Int) Int) :=
  if (decide (s6.2 < (a4.Vars.length : Int))) = true then
    (lkI a4.Vars s6.2).bind fun a9 =>
    (lkI p1 a9).bind fun a11 =>
    (lkI p0.steps s1.2).bind fun a13 =>
    (lkI a13 a9).bind fun a15 =>
    some (.next (IntKind.i64.wrap (s6.1 + (IntKind.i64.wrap (a11 * a15))), IntKind.i64.wrap (s6.2 + 1)))
  else
  some (.done s6.1)
def g_joint_question_weight_b1 (p0 : Tjoint_question) (p1 : (List Int)) (s1 : (Int × Int)) : Option (Step (Int × Int) Int) :=
  if (decide (s1.2 < (p0.factors.length : Int))) = true then
    (lkI p0.factors s1.2).bind fun a4 =>
    (whileN fuel (g_joint_question_weight_b0 a4 p1 p0 s1) (0, 0)).bind fun x18 =>
    (lkI a4.W x18).bind fun a19 =>
    some (.next (IntKind.i64.wrap (s1.1 * a19), IntKind.i64.wrap (s1.2 + 1)))
  else
  some (.done s1.1)
def g_joint_question_weight (p0 : Tjoint_question) (p1 : (List Int)) : Option Int :=
  (whileN fuel (g_joint_question_weight_b1 p0 p1) (1, 0)).bind fun x22 =>
  some x22
def g_joint_question_mass_b0 (p0 : Tjoint_question) (s8 : (Int × (List Int))) : Option (Step (Int × (List Int)) (Int × (List Int))) :=
  if (decide (s8.1 ≥ 0)) = true then
    (lkI s8.2 s8.1).bind fun a11 =>
    (lkI p0.Net.Nodes s8.1).bind fun a13 =>
    if (a11 == (IntKind.i64.wrap (a13.Card - 1))) = true then
      some (.next (IntKind.i64.wrap (s8.1 - 1), (List.set s8.2 (Int.toNat s8.1) 0)))
    else
    some (.done (s8.1, s8.2))
  else
  some (.done (s8.1, s8.2))
def g_joint_question_mass_b1 (p0 : Tjoint_question) (s25 : (Int × (List Int))) : Option (Step (Int × (List Int)) (Int × (List Int))) :=
  if (decide (s25.1 ≥ 0)) = true then
    (lkI s25.2 s25.1).bind fun a28 =>
    (lkI p0.Net.Nodes s25.1).bind fun a30 =>
    if (a28 == (IntKind.i64.wrap (a30.Card - 1))) = true then
      some (.next (IntKind.i64.wrap (s25.1 - 1), (List.set s25.2 (Int.toNat s25.1) 0)))
    else
    some (.done (s25.1, s25.2))
  else
  some (.done (s25.1, s25.2))
def g_joint_question_mass_b2 (p1 : (List Int)) (p0 : Tjoint_question) (s1 : (Int × Int × (List Int))) : Option (Step (Int × Int × (List Int)) Int) :=
  (g_joint_matches s1.2.2 p1).bind fun x2 =>
  if x2 = true then
    (g_joint_question_weight p0 s1.2.2).bind fun x6 =>
    (whileN fuel (g_joint_question_mass_b0 p0) (IntKind.i64.wrap ((s1.2.2.length : Int) - 1), s1.2.2)).bind fun x19 =>
    if (decide (x19.1 < 0)) = true then
      some (.done (IntKind.i64.wrap (s1.2.1 + x6)))
    else
    (lkI x19.2 x19.1).bind fun a22 =>
    some (.next (IntKind.i64.wrap (s1.1 + 1), IntKind.i64.wrap (s1.2.1 + x6), (List.set x19.2 (Int.toNat x19.1) (IntKind.i64.wrap (a22 + 1)))))
  else
  (whileN fuel (g_joint_question_mass_b1 p0) (IntKind.i64.wrap ((s1.2.2.length : Int) - 1), s1.2.2)).bind fun x36 =>
  if (decide (x36.1 < 0)) = true then
    some (.done s1.2.1)
  else
  (lkI x36.2 x36.1).bind fun a39 =>
  some (.next (IntKind.i64.wrap (s1.1 + 1), s1.2.1, (List.set x36.2 (Int.toNat x36.1) (IntKind.i64.wrap (a39 + 1)))))
def g_joint_question_mass (p0 : Tjoint_question) (p1 : (List Int)) : Option Int :=
  if 0 ≤ (p0.Net.Nodes.length : Int) ∧ (p0.Net.Nodes.length : Int) ≤ (p0.Net.Nodes.length : Int) ∧ (p0.Net.Nodes.length : Int) * 8 ≤ 140737488355328 then
    (whileN fuel (g_joint_question_mass_b2 p1 p0) (0, 0, (List.replicate (Int.toNat (p0.Net.Nodes.length : Int)) (0 : Int)))).bind fun x43 =>
    some x43
  else none
def g_joint_Prob (p0 : Tapi_Net) (p1 : (List Int)) : Option (Tapi_Q × Int) :=
  (g_joint_ask p0 [p1]).bind fun x1 =>
  if (x1.2 != 0) = true then
    some ((Tapi_Q.mk 0 0), x1.2)
  else
  (g_net_Whole p0).bind fun x5 =>
  if (x5.2 != 0) = true then
    some ((Tapi_Q.mk 0 0), x5.2)
  else
  (g_joint_question_mass x1.1 p1).bind fun x9 =>
  (g_frac_Make x9 x5.1).bind fun x11 =>
  some (x11.1, x11.2)
def g_joint_Posterior (p0 : Tapi_Net) (p1 : (List Int)) (p2 : Int) : Option ((List Tapi_Q) × Int) :=
  (g_joint_ask p0 [p1]).bind fun x1 =>
  if (x1.2 != 0) = true then
    some ([], x1.2)
  else
  if (decide (p2 < 0)) = true then
    some ([], 2)
  else
  if (decide (p2 ≥ (x1.1.Net.Nodes.length : Int))) = true then
    some ([], 2)
  else
  none
def g_law14_LiftGround_b0 (x5 : Tapi_Lift) (x7 : Tharuspexlaw14_Known) (p2 : Int) (s15 : (Int × (List Int))) : Option (Step (Int × (List Int)) (List Int)) :=
  if (decide (s15.1 < x5.Count)) = true then
    if x5.Count ≠ 0 then
      if (decide (s15.1 < x7.Zeros)) = true then
        (lkI s15.2 (Int.tmod (IntKind.i64.wrap (s15.1 + (IntKind.i64.wrap (p2)))) x5.Count)).bind fun a20 =>
        (lkI s15.2 (Int.tmod (IntKind.i64.wrap (s15.1 + (IntKind.i64.wrap (p2)))) x5.Count)).bind fun a22 =>
        some (.next (IntKind.i64.wrap (s15.1 + 1), (List.set s15.2 (Int.toNat (Int.tmod (IntKind.i64.wrap (s15.1 + (IntKind.i64.wrap (p2)))) x5.Count)) 0)))
      else
      if (decide (s15.1 < (IntKind.i64.wrap (x7.Zeros + x7.Ones)))) = true then
        (lkI s15.2 (Int.tmod (IntKind.i64.wrap (s15.1 + (IntKind.i64.wrap (p2)))) x5.Count)).bind fun a27 =>
        (lkI s15.2 (Int.tmod (IntKind.i64.wrap (s15.1 + (IntKind.i64.wrap (p2)))) x5.Count)).bind fun a29 =>
        some (.next (IntKind.i64.wrap (s15.1 + 1), (List.set s15.2 (Int.toNat (Int.tmod (IntKind.i64.wrap (s15.1 + (IntKind.i64.wrap (p2)))) x5.Count)) 1)))
      else
      (lkI s15.2 (Int.tmod (IntKind.i64.wrap (s15.1 + (IntKind.i64.wrap (p2)))) x5.Count)).bind fun a32 =>
      (lkI s15.2 (Int.tmod (IntKind.i64.wrap (s15.1 + (IntKind.i64.wrap (p2)))) x5.Count)).bind fun a34 =>
      some (.next (IntKind.i64.wrap (s15.1 + 1), (List.set s15.2 (Int.toNat (Int.tmod (IntKind.i64.wrap (s15.1 + (IntKind.i64.wrap (p2)))) x5.Count)) (-1))))
    else none
  else
  some (.done s15.2)
def g_law14_LiftGround (p0 : Tharuspexref14_Draft) (p1 : Tharuspexlaw14_Known) (p2 : Int) : Option Bool :=
  (g_law14_wakes).bind fun x1 =>
  if (!x1) = true then
    some false
  else
  (g_ref14_Draft_Lift (Tharuspexref14_Draft.mk p0.Grain (Int.tmod p0.Count 5) p0.One p0.Card p0.L)).bind fun x5 =>
  (g_law14_Known_Of p1 x5).bind fun x7 =>
  (g_lift_Ground x5).bind fun x9 =>
  if (x9.2 != 0) = true then
    some false
  else
  if ((x9.1.Nodes.length : Int) != (IntKind.i64.wrap (x5.Count + 1))) = true then
    some false
  else
  if 0 ≤ (IntKind.i64.wrap (x5.Count + 1)) ∧ (IntKind.i64.wrap (x5.Count + 1)) ≤ (IntKind.i64.wrap (x5.Count + 1)) ∧ (IntKind.i64.wrap (x5.Count + 1)) * 8 ≤ 140737488355328 then
    (whileN fuel (g_law14_LiftGround_b0 x5 x7 p2) (0, (List.replicate (Int.toNat (IntKind.i64.wrap (x5.Count + 1))) (0 : Int)))).bind fun x38 =>
    (lkI x38 x5.Count).bind fun a39 =>
    (g_lift_Prob x5 x7.Zeros x7.Ones x7.Child).bind fun x41 =>
    (g_joint_Prob x9.1 (List.set x38 (Int.toNat x5.Count) x7.Child)).bind fun x43 =>
    if (x41.2 != 0) = true then
      some false
    else
    if (x43.2 != 0) = true then
      some false
    else
    if (!((x41.1.N == x43.1.N) && ((x41.1.D == x43.1.D) && true))) = true then
      some false
    else
    (g_lift_Next x5 x7.Zeros x7.Ones x7.Child).bind fun x51 =>
    if ((IntKind.i64.wrap (x7.Zeros + x7.Ones)) == x5.Count) = true then
      some (x51.2 == 4)
    else
    if x5.Count ≠ 0 then
      (g_joint_Posterior x9.1 (List.set x38 (Int.toNat x5.Count) x7.Child) (Int.tmod (IntKind.i64.wrap ((IntKind.i64.wrap (x7.Zeros + x7.Ones)) + (IntKind.i64.wrap (p2)))) x5.Count)).bind fun x55 =>
      if (x51.2 != x55.2) = true then
        some false
      else
      if (x51.2 == 0) = true then
        if ((x55.1.length : Int) != 2) = true then
          some false
        else
        (lkI x55.1 1).bind fun a63 =>
        if (!((x51.1.N == a63.N) && ((x51.1.D == a63.D) && true))) = true then
          some false
        else
        none
      else
      none
    else none
  else none
end Go.Ab
namespace Go.Ab
open Go Go.Proofs
set_option linter.unusedVariables false
set_option linter.unusedSimpArgs false
set_option maxRecDepth 100000
set_option maxHeartbeats 4000000
theorem hfol : (Try.prog.follows .mixedOrders) = true := by kernel_rfl
theorem bodyB_10 : bodyB Try.prog 10 = true := by kernel_rfl
theorem bodyB_13 : bodyB Try.prog 13 = true := by kernel_rfl
theorem bodyB_14 : bodyB Try.prog 14 = true := by kernel_rfl
theorem bodyB_17 : bodyB Try.prog 17 = true := by kernel_rfl
theorem bodyB_18 : bodyB Try.prog 18 = true := by kernel_rfl
theorem bodyB_19 : bodyB Try.prog 19 = true := by kernel_rfl
theorem bodyB_21 : bodyB Try.prog 21 = true := by kernel_rfl
theorem bodyB_23 : bodyB Try.prog 23 = true := by kernel_rfl
theorem bodyB_24 : bodyB Try.prog 24 = true := by kernel_rfl
theorem bodyB_26 : bodyB Try.prog 26 = true := by kernel_rfl
theorem bodyB_28 : bodyB Try.prog 28 = true := by kernel_rfl
theorem bodyB_32 : bodyB Try.prog 32 = true := by kernel_rfl
theorem bodyB_33 : bodyB Try.prog 33 = true := by kernel_rfl
theorem bodyB_41 : bodyB Try.prog 41 = true := by kernel_rfl
theorem bodyB_43 : bodyB Try.prog 43 = true := by kernel_rfl
theorem bodyB_44 : bodyB Try.prog 44 = true := by kernel_rfl
theorem bodyB_45 : bodyB Try.prog 45 = true := by kernel_rfl
theorem bodyB_50 : bodyB Try.prog 50 = true := by kernel_rfl
theorem bodyB_52 : bodyB Try.prog 52 = true := by kernel_rfl
theorem bodyB_54 : bodyB Try.prog 54 = true := by kernel_rfl
theorem bodyB_55 : bodyB Try.prog 55 = true := by kernel_rfl
theorem bodyB_56 : bodyB Try.prog 56 = true := by kernel_rfl
theorem bodyB_57 : bodyB Try.prog 57 = true := by kernel_rfl
theorem bodyB_58 : bodyB Try.prog 58 = true := by kernel_rfl
theorem bodyB_59 : bodyB Try.prog 59 = true := by kernel_rfl
theorem bodyB_60 : bodyB Try.prog 60 = true := by kernel_rfl
theorem bodyB_62 : bodyB Try.prog 62 = true := by kernel_rfl
theorem bodyB_70 : bodyB Try.prog 70 = true := by kernel_rfl
theorem bodyB_72 : bodyB Try.prog 72 = true := by kernel_rfl
theorem bodyB_73 : bodyB Try.prog 73 = true := by kernel_rfl
theorem bodyB_74 : bodyB Try.prog 74 = true := by kernel_rfl
theorem bodyB_75 : bodyB Try.prog 75 = true := by kernel_rfl
theorem bodyB_76 : bodyB Try.prog 76 = true := by kernel_rfl
@[reducible] noncomputable def s14_2 (p0 : Tapi_Lift) : List AObj := [oX true false 4 (.agg [vI p0.Grain, vI p0.Count, vI p0.One, eL false (eL true eI) p0.Rows])]
@[reducible] noncomputable def s14_23 (a15 : (List Int)) (s28 : (Int × Int)) (p0 : Tapi_Lift) (s21 : Int) (a24 : (List Int)) (a31 : Int) : List (Nat × AV) := [(1, .ptr 0 0 0), (3, vI (a15.length : Int)), (6, vI s28.1), (60, eL false (eL true eI) p0.Rows), (61, vI (p0.Rows.length : Int)), (62, vI s21), (72, eL true eI a24), (73, vI (a24.length : Int)), (74, vI s28.2), (8, vI a31)]
@[reducible] noncomputable def s14_25 (a15 : (List Int)) (s28 : (Int × Int)) (p0 : Tapi_Lift) (s21 : Int) (a24 : (List Int)) : List (Nat × AV) := [(1, .ptr 0 0 0), (3, vI (a15.length : Int)), (6, vI s28.1), (60, eL false (eL true eI) p0.Rows), (61, vI (p0.Rows.length : Int)), (62, vI s21), (72, eL true eI a24), (73, vI (a24.length : Int)), (74, vI s28.2)]
@[reducible] noncomputable def s14_27 (a15 : (List Int)) (p0 : Tapi_Lift) (s21 : Int) : List (Nat × AV) := [(1, .ptr 0 0 0), (3, vI (a15.length : Int)), (60, eL false (eL true eI) p0.Rows), (61, vI (p0.Rows.length : Int)), (62, vI s21)]
theorem g_lift_Check_ok (p0 : Tapi_Lift) (x : Int) (h : g_lift_Check p0 = some x) : CallOk Try.prog 14 [.agg [vI p0.Grain, vI p0.Count, vI p0.One, eL false (eL true eI) p0.Rows]] (.ret (vI x) []) := by
  refine fn_ok [] Try.func14 rfl (by decide +kernel) rfl ?_
  unfold g_lift_Check at h
  refine wp_eqB (base' := 0) (st' := ⟨[(0, .agg [vI p0.Grain, vI p0.Count, vI p0.One, eL false (eL true eI) p0.Rows])], [], 92⟩) rfl (by as_aux_lemma => kernel_rfl) ?_
  refine wp_seq ?_
  refine reg_in ?_
  refine sl false [] [] false rfl ?_
  refine sz 1 2 ?_
  refine reg_end rfl ?_
  refine wp_seq ?_
  refine wp_seq ?_
  refine reg_in ?_
  refine sz 4 4 ?_
  refine rw_wk (wk_gc (live := [1, 12]) (keep := [0]) (st' := ⟨[(1, .ptr 0 0 0), (12, vB (decide (p0.Grain < 1)))], (s14_2 p0), 92⟩) (by as_aux_lemma => kernel_rfl)) ?_
  refine rbr (S := fun b1 => ⟨[(1, .ptr 0 0 0), (12, vB b1)], (s14_2 p0), 92⟩) h (fun q2 h => ?_) (fun q2 h => ?_)
  · refine sgz 35 39 (S := ⟨[(1, .ptr 0 0 0), (12, vB true), (13, .tup []), (14, .tup []), (15, .tup []), (16, vB true), (17, vB true), (18, .tup []), (19, .tup []), (20, .tup []), (21, vB true), (22, vB true), (23, .tup []), (24, .tup []), (25, .tup []), (26, vB true), (27, vB true), (28, .tup []), (29, .tup []), (30, .tup []), (31, vB true), (32, vB true), (33, .tup []), (34, .tup []), (35, .tup []), (36, .tup []), (37, .tup []), (38, vB true), (39, vB true), (40, .tup []), (41, .tup []), (42, .tup []), (43, .tup []), (44, .tup []), (45, .tup []), (46, .tup []), (47, vB true)], (s14_2 p0), 92⟩) ?_
    refine reg_end rfl ?_
    refine wp_condT rfl ?_
    refine wp_seq ?_
    refine wg [] [] ?_
    refine rn ?_
    refine wg [2] [] ?_
    refine wp_ret ?_
    cases h
    show fnOut _ _ _ _ = _
    kernel_rfl
  refine sz 5 9 ?_
  refine rw_wk (wk_gc (live := [1, 17]) (keep := [0]) (st' := ⟨[(1, .ptr 0 0 0), (17, vB (decide (p0.Grain > 20)))], (s14_2 p0), 92⟩) (by as_aux_lemma => kernel_rfl)) ?_
  refine rbr (S := fun b3 => ⟨[(1, .ptr 0 0 0), (17, vB b3)], (s14_2 p0), 92⟩) h (fun q4 h => ?_) (fun q4 h => ?_)
  · refine sgz 30 39 (S := ⟨[(1, .ptr 0 0 0), (17, vB true), (18, .tup []), (19, .tup []), (20, .tup []), (21, vB true), (22, vB true), (23, .tup []), (24, .tup []), (25, .tup []), (26, vB true), (27, vB true), (28, .tup []), (29, .tup []), (30, .tup []), (31, vB true), (32, vB true), (33, .tup []), (34, .tup []), (35, .tup []), (36, .tup []), (37, .tup []), (38, vB true), (39, vB true), (40, .tup []), (41, .tup []), (42, .tup []), (43, .tup []), (44, .tup []), (45, .tup []), (46, .tup []), (47, vB true)], (s14_2 p0), 92⟩) ?_
    refine reg_end rfl ?_
    refine wp_condT rfl ?_
    refine wp_seq ?_
    refine wg [] [] ?_
    refine rn ?_
    refine wg [2] [] ?_
    refine wp_ret ?_
    cases h
    show fnOut _ _ _ _ = _
    kernel_rfl
  refine sz 5 14 ?_
  refine rw_wk (wk_gc (live := [1, 22]) (keep := [0]) (st' := ⟨[(1, .ptr 0 0 0), (22, vB (decide (p0.Count < 1)))], (s14_2 p0), 92⟩) (by as_aux_lemma => kernel_rfl)) ?_
  refine rbr (S := fun b5 => ⟨[(1, .ptr 0 0 0), (22, vB b5)], (s14_2 p0), 92⟩) h (fun q6 h => ?_) (fun q6 h => ?_)
  · refine sgz 25 39 (S := ⟨[(1, .ptr 0 0 0), (22, vB true), (23, .tup []), (24, .tup []), (25, .tup []), (26, vB true), (27, vB true), (28, .tup []), (29, .tup []), (30, .tup []), (31, vB true), (32, vB true), (33, .tup []), (34, .tup []), (35, .tup []), (36, .tup []), (37, .tup []), (38, vB true), (39, vB true), (40, .tup []), (41, .tup []), (42, .tup []), (43, .tup []), (44, .tup []), (45, .tup []), (46, .tup []), (47, vB true)], (s14_2 p0), 92⟩) ?_
    refine reg_end rfl ?_
    refine wp_condT rfl ?_
    refine wp_seq ?_
    refine wg [] [] ?_
    refine rn ?_
    refine wg [2] [] ?_
    refine wp_ret ?_
    cases h
    show fnOut _ _ _ _ = _
    kernel_rfl
  refine sz 5 19 ?_
  refine rw_wk (wk_gc (live := [1, 27]) (keep := [0]) (st' := ⟨[(1, .ptr 0 0 0), (27, vB (decide (p0.Count > 10)))], (s14_2 p0), 92⟩) (by as_aux_lemma => kernel_rfl)) ?_
  refine rbr (S := fun b7 => ⟨[(1, .ptr 0 0 0), (27, vB b7)], (s14_2 p0), 92⟩) h (fun q8 h => ?_) (fun q8 h => ?_)
  · refine sgz 20 39 (S := ⟨[(1, .ptr 0 0 0), (27, vB true), (28, .tup []), (29, .tup []), (30, .tup []), (31, vB true), (32, vB true), (33, .tup []), (34, .tup []), (35, .tup []), (36, .tup []), (37, .tup []), (38, vB true), (39, vB true), (40, .tup []), (41, .tup []), (42, .tup []), (43, .tup []), (44, .tup []), (45, .tup []), (46, .tup []), (47, vB true)], (s14_2 p0), 92⟩) ?_
    refine reg_end rfl ?_
    refine wp_condT rfl ?_
    refine wp_seq ?_
    refine wg [] [] ?_
    refine rn ?_
    refine wg [2] [] ?_
    refine wp_ret ?_
    cases h
    show fnOut _ _ _ _ = _
    kernel_rfl
  refine sz 5 24 ?_
  refine rw_wk (wk_gc (live := [1, 32]) (keep := [0]) (st' := ⟨[(1, .ptr 0 0 0), (32, vB (decide (p0.One < 0)))], (s14_2 p0), 92⟩) (by as_aux_lemma => kernel_rfl)) ?_
  refine rbr (S := fun b9 => ⟨[(1, .ptr 0 0 0), (32, vB b9)], (s14_2 p0), 92⟩) h (fun q10 h => ?_) (fun q10 h => ?_)
  · refine sgz 15 39 (S := ⟨[(1, .ptr 0 0 0), (32, vB true), (33, .tup []), (34, .tup []), (35, .tup []), (36, .tup []), (37, .tup []), (38, vB true), (39, vB true), (40, .tup []), (41, .tup []), (42, .tup []), (43, .tup []), (44, .tup []), (45, .tup []), (46, .tup []), (47, vB true)], (s14_2 p0), 92⟩) ?_
    refine reg_end rfl ?_
    refine wp_condT rfl ?_
    refine wp_seq ?_
    refine wg [] [] ?_
    refine rn ?_
    refine wg [2] [] ?_
    refine wp_ret ?_
    cases h
    show fnOut _ _ _ _ = _
    kernel_rfl
  refine sz 7 31 ?_
  refine rw_wk (wk_gc (live := [1, 39]) (keep := [0]) (st' := ⟨[(1, .ptr 0 0 0), (39, vB (decide (p0.One > p0.Grain)))], (s14_2 p0), 92⟩) (by as_aux_lemma => kernel_rfl)) ?_
  refine rbr (S := fun b11 => ⟨[(1, .ptr 0 0 0), (39, vB b11)], (s14_2 p0), 92⟩) h (fun q12 h => ?_) (fun q12 h => ?_)
  · refine sgz 8 39 (S := ⟨[(1, .ptr 0 0 0), (39, vB true), (40, .tup []), (41, .tup []), (42, .tup []), (43, .tup []), (44, .tup []), (45, .tup []), (46, .tup []), (47, vB true)], (s14_2 p0), 92⟩) ?_
    refine reg_end rfl ?_
    refine wp_condT rfl ?_
    refine wp_seq ?_
    refine wg [] [] ?_
    refine rn ?_
    refine wg [2] [] ?_
    refine wp_ret ?_
    cases h
    show fnOut _ _ _ _ = _
    kernel_rfl
  refine sz 2 33 ?_
  refine lenZ (enc := (eL true eI)) (l := p0.Rows) (fl := false) (by as_aux_lemma => kernel_rfl) ?_
  refine sz 5 39 ?_
  refine reg_end rfl ?_
  refine wbr (S := fun b13 => ⟨[(1, .ptr 0 0 0), (39, vB false), (40, .ptr 0 0 3), (41, eL false (eL true eI) p0.Rows), (42, vI (p0.Rows.length : Int)), (43, .ptr 0 0 1), (44, vI p0.Count), (45, vI (IntKind.i64.wrap (p0.Count + 1))), (46, vB b13), (47, vB b13)], (s14_2 p0), 92⟩) h (fun q14 h => ?_) (fun q14 h => ?_)
  · refine wp_condT rfl ?_
    refine wp_seq ?_
    refine wg [] [] ?_
    refine rn ?_
    refine wg [2] [] ?_
    refine wp_ret ?_
    cases h
    show fnOut _ _ _ _ = _
    kernel_rfl
  refine wp_condF rfl ?_
  refine wp_skip ?_
  refine wp_seq ?_
  refine wg [1] [0] ?_
  refine reg_in ?_
  refine sgz 2 2 (S := ⟨[(1, .ptr 0 0 0), (48, .ptr 0 0 3), (49, eL false (eL true eI) p0.Rows)], (s14_2 p0), 92⟩) ?_
  refine bind_elim h (fun a15 q16 h => ?_)
  refine idxZ (enc := (eL true eI)) (l := p0.Rows) (n := 0) (fl := false) (w := 1) (a := a15) (by as_aux_lemma => kernel_rfl) q16 ?_
  refine sz 1 4 ?_
  refine lenZ (enc := eI) (l := a15) (fl := true) (by as_aux_lemma => kernel_rfl) ?_
  refine sz 1 6 ?_
  refine reg_end rfl ?_
  refine wp_seq ?_
  refine wp_seq ?_
  refine wg [1, 3] [0] ?_
  refine reg_in ?_
  refine sz 3 3 ?_
  refine rbr (S := fun b17 => ⟨[(1, .ptr 0 0 0), (3, vI (a15.length : Int)), (53, vI (a15.length : Int)), (54, vB b17), (55, vB b17)], (s14_2 p0), 92⟩) h (fun q18 h => ?_) (fun q18 h => ?_)
  · refine sgz 3 6 (S := ⟨[(1, .ptr 0 0 0), (3, vI (a15.length : Int)), (53, vI (a15.length : Int)), (54, vB true), (55, vB true), (56, .tup []), (57, .tup []), (58, vB true)], (s14_2 p0), 92⟩) ?_
    refine reg_end rfl ?_
    refine wp_condT rfl ?_
    refine wp_seq ?_
    refine wg [] [] ?_
    refine rn ?_
    refine wg [2] [] ?_
    refine wp_ret ?_
    cases h
    show fnOut _ _ _ _ = _
    kernel_rfl
  refine sz 3 6 ?_
  refine reg_end rfl ?_
  refine wbr (S := fun b19 => ⟨[(1, .ptr 0 0 0), (3, vI (a15.length : Int)), (53, vI (a15.length : Int)), (54, vB false), (55, vB false), (56, vI (a15.length : Int)), (57, vB b19), (58, vB b19)], (s14_2 p0), 92⟩) h (fun q20 h => ?_) (fun q20 h => ?_)
  · refine wp_condT rfl ?_
    refine wp_seq ?_
    refine wg [] [] ?_
    refine rn ?_
    refine wg [2] [] ?_
    refine wp_ret ?_
    cases h
    show fnOut _ _ _ _ = _
    kernel_rfl
  refine wp_condF rfl ?_
  refine wp_skip ?_
  refine wp_seq ?_
  refine wp_seq ?_
  refine wg [1, 3] [0] ?_
  refine reg_in ?_
  refine sz 2 2 ?_
  refine lenZ (enc := (eL true eI)) (l := p0.Rows) (fl := false) (by as_aux_lemma => kernel_rfl) ?_
  refine sgz 1 4 (S := ⟨[(1, .ptr 0 0 0), (3, vI (a15.length : Int)), (59, .ptr 0 0 3), (60, eL false (eL true eI) p0.Rows), (61, vI (p0.Rows.length : Int)), (62, vI 0)], (s14_2 p0), 92⟩) ?_
  refine reg_end rfl ?_
  refine wp_block ?_
  refine wp_while (σ := Int) (ρ := (Unit ⊕ Unit)) (n := fuel) (body := g_lift_Check_b1 p0 a15) (I := fun s21 => ⟨(s14_27 a15 p0 s21), (s14_2 p0), 92⟩) (Ex := fun x out => out = match x with | .inl v => .go (.ret) ⟨[(2, vI 140)], [], 92⟩ | .inr v => .go (.exit 0) ⟨[], [], 92⟩) 0 (wk_gc (live := [1, 3, 60, 61, 62]) (keep := [0]) (st' := ⟨[(1, .ptr 0 0 0), (3, vI (a15.length : Int)), (60, eL false (eL true eI) p0.Rows), (61, vI (p0.Rows.length : Int)), (62, vI 0)], (s14_2 p0), 92⟩) (by as_aux_lemma => kernel_rfl)) h ?_ ?_
  · intro s21 o h
    unfold g_lift_Check_b1 at h
    refine sq ?_
    refine wp_seq ?_
    refine wbr (S := fun b22 => ⟨(s14_27 a15 p0 s21) ++ [(63, vB b22)], (s14_2 p0), 92⟩) h (fun q23 h => ?_) (fun q23 h => ?_)
    · refine wp_condT rfl ?_
      refine wp_skip ?_
      refine wp_seq ?_
      refine wp_block ?_
      refine wp_seq ?_
      refine reg_in ?_
      refine bind_elim h (fun a24 q25 h => ?_)
      refine idxZ (enc := (eL true eI)) (l := p0.Rows) (n := s21) (fl := false) (w := 1) (a := a24) (by as_aux_lemma => kernel_rfl) q25 ?_
      refine sz 2 3 ?_
      refine reg_end rfl ?_
      refine wp_seq ?_
      refine wp_seq ?_
      refine reg_in ?_
      refine sz 1 1 ?_
      refine lenZ (enc := eI) (l := a24) (fl := true) (by as_aux_lemma => kernel_rfl) ?_
      refine sz 2 4 ?_
      refine reg_end rfl ?_
      refine wbr (S := fun b26 => ⟨(s14_27 a15 p0 s21) ++ [(63, vB true), (64, .fz [eL true eI a24]), (65, eL true eI a24), (5, eL true eI a24), (66, eL true eI a24), (67, vI (a24.length : Int)), (68, vI (a15.length : Int)), (69, vB b26)], (s14_2 p0), 92⟩) h (fun q27 h => ?_) (fun q27 h => ?_)
      · refine wp_condT rfl ?_
        refine wp_seq ?_
        refine wg [] [] ?_
        refine rn ?_
        refine wgc [2] [] ⟨[(2, vI 140)], [], 92⟩ ?_
        refine wp_ret ?_
        cases h
        exact ⟨rfl, rfl⟩
      refine wp_condF rfl ?_
      refine wp_skip ?_
      refine wp_seq ?_
      refine wg [1, 3, 60, 61, 62, 5] [0] ?_
      refine rn ?_
      refine wp_seq ?_
      refine wp_seq ?_
      refine reg_in ?_
      refine sz 1 1 ?_
      refine lenZ (enc := eI) (l := a24) (fl := true) (by as_aux_lemma => kernel_rfl) ?_
      refine sgz 1 3 (S := ⟨[(1, .ptr 0 0 0), (3, vI (a15.length : Int)), (60, eL false (eL true eI) p0.Rows), (61, vI (p0.Rows.length : Int)), (62, vI s21), (5, eL true eI a24)] ++ [(70, .ptr 0 0 0), (71, vI p0.Grain), (6, vI p0.Grain), (72, eL true eI a24), (73, vI (a24.length : Int)), (74, vI 0)], (s14_2 p0), 92⟩) ?_
      refine reg_end rfl ?_
      refine wp_block ?_
      refine wp_while (σ := (Int × Int)) (ρ := (Unit ⊕ Int)) (n := fuel) (body := g_lift_Check_b0 a24) (I := fun s28 => ⟨(s14_25 a15 s28 p0 s21 a24), (s14_2 p0), 92⟩) (Ex := fun x out => out = match x with | .inl v => .go (.ret) ⟨[(2, vI 140)], [], 92⟩ | .inr v => .go (.exit 2) ⟨[(1, .ptr 0 0 0), (3, vI (a15.length : Int)), (6, vI v), (60, eL false (eL true eI) p0.Rows), (61, vI (p0.Rows.length : Int)), (62, vI s21)], (s14_2 p0), 92⟩) (p0.Grain, 0) (wk_gc (live := [1, 3, 6, 60, 61, 62, 72, 73, 74]) (keep := [0]) (st' := ⟨[(1, .ptr 0 0 0), (3, vI (a15.length : Int)), (6, vI p0.Grain), (60, eL false (eL true eI) p0.Rows), (61, vI (p0.Rows.length : Int)), (62, vI s21)] ++ [(72, eL true eI a24), (73, vI (a24.length : Int)), (74, vI 0)], (s14_2 p0), 92⟩) (by as_aux_lemma => kernel_rfl)) h ?_ ?_
      · intro s28 o h
        unfold g_lift_Check_b0 at h
        refine sq ?_
        refine wp_seq ?_
        refine wbr (S := fun b29 => ⟨(s14_25 a15 s28 p0 s21 a24) ++ [(75, vB b29)], (s14_2 p0), 92⟩) h (fun q30 h => ?_) (fun q30 h => ?_)
        · refine wp_condT rfl ?_
          refine wp_skip ?_
          refine wp_seq ?_
          refine wp_block ?_
          refine wp_seq ?_
          refine reg_in ?_
          refine bind_elim h (fun a31 q32 h => ?_)
          refine idxZ (enc := eI) (l := a24) (n := s28.2) (fl := true) (w := 1) (a := a31) (by as_aux_lemma => kernel_rfl) q32 ?_
          refine sz 2 3 ?_
          refine reg_end rfl ?_
          refine wp_seq ?_
          refine wp_seq ?_
          refine reg_in ?_
          refine sz 3 3 ?_
          refine rw_wk (wk_gc (live := [1, 3, 6, 60, 61, 62, 72, 73, 74, 8, 80]) (keep := [0]) (st' := ⟨[(1, .ptr 0 0 0), (3, vI (a15.length : Int)), (6, vI s28.1), (60, eL false (eL true eI) p0.Rows), (61, vI (p0.Rows.length : Int)), (62, vI s21), (72, eL true eI a24), (73, vI (a24.length : Int)), (74, vI s28.2), (8, vI a31), (80, vB (decide (a31 < 0)))], (s14_2 p0), 92⟩) (by as_aux_lemma => kernel_rfl)) ?_
          refine rbr (S := fun b33 => ⟨(s14_23 a15 s28 p0 s21 a24 a31) ++ [(80, vB b33)], (s14_2 p0), 92⟩) h (fun q34 h => ?_) (fun q34 h => ?_)
          · refine sgz 4 7 (S := ⟨(s14_23 a15 s28 p0 s21 a24 a31) ++ [(80, vB true), (81, .tup []), (82, .tup []), (83, .tup []), (84, vB true)], (s14_2 p0), 92⟩) ?_
            refine reg_end rfl ?_
            refine wp_condT rfl ?_
            refine wp_seq ?_
            refine wg [] [] ?_
            refine rn ?_
            refine wgc [2] [] ⟨[(2, vI 140)], [], 92⟩ ?_
            refine wp_ret ?_
            cases h
            exact ⟨rfl, rfl⟩
          refine sz 4 7 ?_
          refine reg_end rfl ?_
          refine wbr (S := fun b35 => ⟨(s14_23 a15 s28 p0 s21 a24 a31) ++ [(80, vB false), (81, vI a31), (82, vI s28.1), (83, vB b35), (84, vB b35)], (s14_2 p0), 92⟩) h (fun q36 h => ?_) (fun q36 h => ?_)
          · refine wp_condT rfl ?_
            refine wp_seq ?_
            refine wg [] [] ?_
            refine rn ?_
            refine wgc [2] [] ⟨[(2, vI 140)], [], 92⟩ ?_
            refine wp_ret ?_
            cases h
            exact ⟨rfl, rfl⟩
          refine wp_condF rfl ?_
          refine wp_skip ?_
          refine wg [1, 3, 6, 60, 61, 62, 72, 73, 74, 8] [0] ?_
          refine rn ?_
          refine rgN (S := ⟨[(1, .ptr 0 0 0), (3, vI (a15.length : Int)), (6, vI (IntKind.i64.wrap (s28.1 - a31))), (60, eL false (eL true eI) p0.Rows), (61, vI (p0.Rows.length : Int)), (62, vI s21), (72, eL true eI a24), (73, vI (a24.length : Int)), (74, vI (IntKind.i64.wrap (s28.2 + 1)))] ++ [(8, vI a31), (85, vI s28.1), (86, vI a31), (87, vI (IntKind.i64.wrap (s28.1 - a31))), (88, vI (IntKind.i64.wrap (s28.2 + 1)))], (s14_2 p0), 92⟩) ?_
          cases h
          exact ⟨_, rfl, (wk_gc (live := [1, 3, 6, 60, 61, 62, 72, 73, 74]) (keep := [0]) (st' := ⟨[(1, .ptr 0 0 0), (3, vI (a15.length : Int)), (6, vI (IntKind.i64.wrap (s28.1 - a31))), (60, eL false (eL true eI) p0.Rows), (61, vI (p0.Rows.length : Int)), (62, vI s21), (72, eL true eI a24), (73, vI (a24.length : Int)), (74, vI (IntKind.i64.wrap (s28.2 + 1)))], (s14_2 p0), 92⟩) (by as_aux_lemma => kernel_rfl))⟩
        refine wp_condF rfl ?_
        refine wgc [1, 3, 6, 60, 61, 62] [0] ⟨[(1, .ptr 0 0 0), (3, vI (a15.length : Int)), (6, vI s28.1), (60, eL false (eL true eI) p0.Rows), (61, vI (p0.Rows.length : Int)), (62, vI s21)], (s14_2 p0), 92⟩ ?_
        refine wp_exit ?_
        cases h
        exact ⟨rfl, rfl⟩
      intro x37 h out hx
      subst hx
      rcases x37 with x38 | x39
      · dsimp only at h ⊢
        cases h
        exact ⟨rfl, rfl⟩
      · dsimp only at h ⊢
        refine sq ?_
        refine wbr (S := fun b40 => ⟨[(1, .ptr 0 0 0), (3, vI (a15.length : Int)), (6, vI x39), (60, eL false (eL true eI) p0.Rows), (61, vI (p0.Rows.length : Int)), (62, vI s21)] ++ [(89, vI x39), (90, vB b40)], (s14_2 p0), 92⟩) h (fun q41 h => ?_) (fun q41 h => ?_)
        · refine wp_condT rfl ?_
          refine wp_seq ?_
          refine wg [] [] ?_
          refine rn ?_
          refine wgc [2] [] ⟨[(2, vI 140)], [], 92⟩ ?_
          refine wp_ret ?_
          cases h
          exact ⟨rfl, rfl⟩
        refine wp_condF rfl ?_
        refine wp_skip ?_
        refine rgN (S := ⟨[(1, .ptr 0 0 0), (3, vI (a15.length : Int)), (6, vI x39), (60, eL false (eL true eI) p0.Rows), (61, vI (p0.Rows.length : Int)), (62, vI (IntKind.i64.wrap (s21 + 1))), (89, vI x39), (90, vB false), (91, vI (IntKind.i64.wrap (s21 + 1)))], (s14_2 p0), 92⟩) ?_
        cases h
        exact ⟨_, rfl, (wk_gc (live := [1, 3, 60, 61, 62]) (keep := [0]) (st' := ⟨[(1, .ptr 0 0 0), (3, vI (a15.length : Int)), (60, eL false (eL true eI) p0.Rows), (61, vI (p0.Rows.length : Int)), (62, vI (IntKind.i64.wrap (s21 + 1)))], (s14_2 p0), 92⟩) (by as_aux_lemma => kernel_rfl))⟩
    refine wp_condF rfl ?_
    refine wgc [] [] ⟨[], [], 92⟩ ?_
    refine wp_exit ?_
    cases h
    exact ⟨rfl, rfl⟩
  intro x42 h out hx
  subst hx
  rcases x42 with x43 | x44
  · dsimp only at h ⊢
    cases h
    show fnOut _ _ _ _ = _
    kernel_rfl
  · dsimp only at h ⊢
    refine sq ?_
    refine wg [2] [] ?_
    refine wp_ret ?_
    cases h
    show fnOut _ _ _ _ = _
    kernel_rfl
end Go.Ab
