/- What functions compute. No conditions. -/
import Derived.Test.YtebpheijhmlpjaaEng8
import Derived.Test.YtebpheijhmlpjaaProg
import Derived.Shelf.SlSortCmp.NoneTotal
import Derived.IntWalk
import Derived.KernelRfl
set_option linter.all false
namespace Go.Ab
open Go
structure Tapi_Hidden where
 Grain:Int
 First:(List Int)
 Step:(List (List Int))
 Show:(List (List Int))
 deriving DecidableEq,Inhabited
structure Thidden_watcher where
 Hidden:Tapi_Hidden
 seen:(List Int)
 deriving DecidableEq,Inhabited
structure Tpath_searcher where
 Hidden:Tapi_Hidden
 seen:(List Int)
 deriving DecidableEq,Inhabited
structure Tpath_weighed where
 weight:Int
 path:(List Int)
 deriving DecidableEq,Inhabited
@[reducible] def eTpath_weighed (x:Tpath_weighed):AV:=.agg [vI x.weight,eL true eI x.path]
structure Tharuspexref17_Draft where
 Grain:Int
 States:Int
 Shows:Int
 L:(List Int)
 Seen:(List Int)
 deriving DecidableEq,Inhabited
@[reducible] def eTharuspexref17_Draft (x:Tharuspexref17_Draft):AV:=.agg [.int .u8 x.Grain,.int .u8 x.States,.int .u8 x.Shows,eL true (AV.int .u8) x.L,eL true (AV.int .u8) x.Seen]
def lexLe:List Int→List Int→Bool
 | [],_=>true
 | _::_,[]=>false
 | x::l,y::m=>decide (x < y) || (x==y && lexLe l m)
def goodW (x:Tpath_weighed):Bool:=decide (x.path.length≤140737488355328)
def leW (x y:Tpath_weighed):Bool:=decide (y.weight < x.weight) || (x.weight==y.weight && lexLe x.path y.path)
def g_hidden_isRow_b0 (p1:(List Int)) (s1:(Int × Int)):Option (Step (Int × Int) (Unit ⊕ Int)) :=
 if (decide (s1.2 < (p1.length:Int)))=true then
  (lkI p1 s1.2).bind fun a4 =>
  if (decide (a4 < 0))=true then
   some (.done (Sum.inl ()))
  else
  if (decide (a4 > s1.1))=true then
   some (.done (Sum.inl ()))
  else
  some (.next (IntKind.i64.wrap (s1.1 - a4),IntKind.i64.wrap (s1.2+1)))
 else
 some (.done (Sum.inr s1.1))
def g_hidden_isRow (p0:Int) (p1:(List Int)):Option Bool :=
 (whileN fuel (g_hidden_isRow_b0 p1) (p0,0)).bind fun x10=>match x10 with
 | .inl x11=>(
  some false)
 | .inr x12=>(
  some (x12==0))
def g_hidden_areRows_b0 (p3:(List (List Int))) (p2:Int) (p0:Int) (s3:Int):Option (Step Int (Unit ⊕ Unit)) :=
 if (decide (s3 < (p3.length:Int)))=true then
  (lkI p3 s3).bind fun a6 =>
  if ((a6.length:Int) != p2)=true then
   some (.done (Sum.inl ()))
  else
  (g_hidden_isRow p0 a6).bind fun x10 =>
  if (!x10)=true then
   some (.done (Sum.inl ()))
  else
  some (.next (IntKind.i64.wrap (s3+1)))
 else
 some (.done (Sum.inr ()))
def g_hidden_areRows (p0:Int) (p1:Int) (p2:Int) (p3:(List (List Int))):Option Bool :=
 if ((p3.length:Int) != p1)=true then
  some false
 else
 (whileN fuel (g_hidden_areRows_b0 p3 p2 p0) 0).bind fun x14=>match x14 with
 | .inl x15=>(
  some false)
 | .inr x16=>(
  some true)
def g_hidden_Check (p0:Tapi_Hidden):Option Int :=
 if (decide (p0.Grain < 1))=true then
  some 170
 else
 if (decide (p0.Grain > 12))=true then
  some 170
 else
 if (decide ((p0.First.length:Int) < 1))=true then
  some 170
 else
 if (decide ((p0.First.length:Int) > 4))=true then
  some 170
 else
 if ((p0.Show.length:Int) != (p0.First.length:Int))=true then
  some 170
 else
 (lkI p0.Show 0).bind fun a11 =>
 if (decide ((a11.length:Int) < 1))=true then
  some 170
 else
 if (decide ((a11.length:Int) > 4))=true then
  some 170
 else
 (g_hidden_isRow p0.Grain p0.First).bind fun x17 =>
 if (!x17)=true then
  some 170
 else
 (g_hidden_areRows p0.Grain (p0.First.length:Int) (p0.First.length:Int) p0.Step).bind fun x21 =>
 if (!x21)=true then
  some 170
 else
 (g_hidden_areRows p0.Grain (p0.First.length:Int) (a11.length:Int) p0.Show).bind fun x25 =>
 if (!x25)=true then
  some 170
 else
 some 0
def g_hidden_newWatcher_b0 (p1:(List Int)) (p0:Tapi_Hidden) (s9:Int):Option (Step Int (Unit ⊕ Unit)) :=
 if (decide (s9 < (p1.length:Int)))=true then
  (lkI p1 s9).bind fun a12 =>
  if (decide (a12 < (-1)))=true then
   some (.done (Sum.inl ()))
  else
  (lkI p0.Show 0).bind fun a16 =>
  if (decide (a12≥(a16.length:Int)))=true then
   some (.done (Sum.inl ()))
  else
  some (.next (IntKind.i64.wrap (s9+1)))
 else
 some (.done (Sum.inr ()))
def g_hidden_newWatcher (p0:Tapi_Hidden) (p1:(List Int)):Option (Thidden_watcher × Int) :=
 (g_hidden_Check p0).bind fun x1 =>
 if (x1 != 0)=true then
  some ((Thidden_watcher.mk (Tapi_Hidden.mk 0 [] [] []) []),x1)
 else
 if (decide ((p1.length:Int) < 1))=true then
  some ((Thidden_watcher.mk (Tapi_Hidden.mk 0 [] [] []) []),2)
 else
 if (decide ((p1.length:Int) > 8))=true then
  some ((Thidden_watcher.mk (Tapi_Hidden.mk 0 [] [] []) []),2)
 else
 (whileN fuel (g_hidden_newWatcher_b0 p1 p0) 0).bind fun x20=>match x20 with
 | .inl x21=>(
  some ((Thidden_watcher.mk (Tapi_Hidden.mk 0 [] [] []) []),2))
 | .inr x22=>(
  some ((Thidden_watcher.mk p0 p1),0))
def g_hidden_watcher_shown (p0:Thidden_watcher) (p1:Int) (p2:Int):Option Int :=
 (lkI p0.seen p1).bind fun a1 =>
 if (decide (a1 < 0))=true then
  some p0.Hidden.Grain
 else
 (lkI p0.Hidden.Show p2).bind fun a5 =>
 (lkI a5 a1).bind fun a7 =>
 some a7
def g_hidden_watcher_forward_b0 (p0:Thidden_watcher) (s1:(Int × (List (List Int)))):Option (Step (Int × (List (List Int))) (List (List Int))) :=
 if (decide (s1.1 < (((List.replicate (Int.toNat (p0.seen.length:Int)) ([]:(List Int))).length):Int)))=true then
  if 0≤(p0.Hidden.First.length:Int)∧(p0.Hidden.First.length:Int)≤(p0.Hidden.First.length:Int)∧(p0.Hidden.First.length:Int)*8≤140737488355328 then
   (lkI s1.2 s1.1).bind fun a4 =>
   some (.next (IntKind.i64.wrap (s1.1+1),(List.set s1.2 (Int.toNat s1.1) (List.replicate (Int.toNat (p0.Hidden.First.length:Int)) (0:Int)))))
  else none
 else
 some (.done s1.2)
def g_hidden_watcher_forward_b1 (a19:(List Int)) (p0:Thidden_watcher) (s12:(Int × (List (List Int)))) (s21:(Int × Int)):Option (Step (Int × Int) Int) :=
 if (decide (s21.2 < (a19.length:Int)))=true then
  (lkI a19 s21.2).bind fun a24 =>
  (lkI p0.Hidden.Step s21.2).bind fun a26 =>
  (lkI a26 s12.1).bind fun a28 =>
  some (.next (IntKind.i64.wrap (s21.1+(IntKind.i64.wrap (a24*a28))),IntKind.i64.wrap (s21.2+1)))
 else
 some (.done s21.1)
def g_hidden_watcher_forward_b2 (p0:Thidden_watcher) (s9:(Int × (List (List Int)))) (s12:(Int × (List (List Int)))):Option (Step (Int × (List (List Int))) (List (List Int))) :=
 if (decide (s12.1 < (p0.Hidden.First.length:Int)))=true then
  (lkI p0.Hidden.First s12.1).bind fun a15 =>
  if (decide (s9.1 > 0))=true then
   (lkI s12.2 (IntKind.i64.wrap (s9.1 - 1))).bind fun a19 =>
   (whileN fuel (g_hidden_watcher_forward_b1 a19 p0 s12) (0,0)).bind fun x31 =>
   (lkI s12.2 s9.1).bind fun a32 =>
   (g_hidden_watcher_shown p0 s9.1 s12.1).bind fun x34 =>
   (lkI a32 s12.1).bind fun a36 =>
   some (.next (IntKind.i64.wrap (s12.1+1),(List.set s12.2 (Int.toNat s9.1) (List.set a32 (Int.toNat s12.1) (IntKind.i64.wrap (x31*x34))))))
  else
  (lkI s12.2 s9.1).bind fun a39 =>
  (g_hidden_watcher_shown p0 s9.1 s12.1).bind fun x41 =>
  (lkI a39 s12.1).bind fun a43 =>
  some (.next (IntKind.i64.wrap (s12.1+1),(List.set s12.2 (Int.toNat s9.1) (List.set a39 (Int.toNat s12.1) (IntKind.i64.wrap (a15*x41))))))
 else
 some (.done s12.2)
def g_hidden_watcher_forward_b3 (p0:Thidden_watcher) (s9:(Int × (List (List Int)))):Option (Step (Int × (List (List Int))) (List (List Int))) :=
 if (decide (s9.1 < (p0.seen.length:Int)))=true then
  (whileN fuel (g_hidden_watcher_forward_b2 p0 s9) (0,s9.2)).bind fun x47 =>
  some (.next (IntKind.i64.wrap (s9.1+1),x47))
 else
 some (.done s9.2)
def g_hidden_watcher_forward (p0:Thidden_watcher):Option (List (List Int)) :=
 if 0≤(p0.seen.length:Int)∧(p0.seen.length:Int)≤(p0.seen.length:Int)∧(p0.seen.length:Int)*24≤140737488355328 then
  (whileN fuel (g_hidden_watcher_forward_b0 p0) (0,(List.replicate (Int.toNat (p0.seen.length:Int)) ([]:(List Int))))).bind fun x8 =>
  (whileN fuel (g_hidden_watcher_forward_b3 p0) (0,x8)).bind fun x49 =>
  some x49
 else none
def g_hidden_Forward (p0:Tapi_Hidden) (p1:(List Int)):Option ((List (List Int)) × Int) :=
 (g_hidden_newWatcher p0 p1).bind fun x1 =>
 if (x1.2 != 0)=true then
  some (([]:(List (List Int))),x1.2)
 else
 (g_hidden_watcher_forward x1.1).bind fun x5 =>
 some (x5,0)
def g_path_newSearcher (p0:Tapi_Hidden) (p1:(List Int)):Option (Tpath_searcher × Int) :=
 (g_hidden_Forward p0 p1).bind fun x1 =>
 if (x1.2 != 0)=true then
  some ((Tpath_searcher.mk (Tapi_Hidden.mk 0 [] [] []) []),x1.2)
 else
 some ((Tpath_searcher.mk p0 p1),0)
def g_path_searcher_shown (p0:Tpath_searcher) (p1:Int) (p2:Int):Option Int :=
 (lkI p0.seen p1).bind fun a1 =>
 if (decide (a1 < 0))=true then
  some p0.Hidden.Grain
 else
 (lkI p0.Hidden.Show p2).bind fun a5 =>
 (lkI a5 a1).bind fun a7 =>
 some a7
def g_path_searcher_into (p0:Tpath_searcher) (p1:Int) (p2:Int) (p3:Int):Option Int :=
 if (p1==0)=true then
  (lkI p0.Hidden.First p3).bind fun a3 =>
  (g_path_searcher_shown p0 p1 p3).bind fun x5 =>
  some (IntKind.i64.wrap (a3*x5))
 else
 (lkI p0.Hidden.Step p2).bind fun a7 =>
 (lkI a7 p3).bind fun a9 =>
 (g_path_searcher_shown p0 p1 p3).bind fun x11 =>
 some (IntKind.i64.wrap (a9*x11))
def g_path_Weight_b0 (p2:(List Int)) (x1:(Tpath_searcher × Int)) (s7:(Int × Int × Int)):Option (Step (Int × Int × Int) (Unit ⊕ Int)) :=
 if (decide (s7.2.2 < (p2.length:Int)))=true then
  (lkI p2 s7.2.2).bind fun a10 =>
  if (decide (a10 < 0))=true then
   some (.done (Sum.inl ()))
  else
  if (decide (a10≥(x1.1.Hidden.First.length:Int)))=true then
   some (.done (Sum.inl ()))
  else
  (g_path_searcher_into x1.1 s7.2.2 s7.2.1 a10).bind fun x16 =>
  some (.next (IntKind.i64.wrap (s7.1*x16),a10,IntKind.i64.wrap (s7.2.2+1)))
 else
 some (.done (Sum.inr s7.1))
def g_path_Weight (p0:Tapi_Hidden) (p1:(List Int)) (p2:(List Int)):Option (Int × Int) :=
 (g_path_newSearcher p0 p1).bind fun x1 =>
 if (x1.2 != 0)=true then
  some (0,x1.2)
 else
 if ((p2.length:Int) != (p1.length:Int))=true then
  some (0,2)
 else
 (whileN fuel (g_path_Weight_b0 p2 x1) (1,0,0)).bind fun x18=>match x18 with
 | .inl x19=>(
  some (0,2))
 | .inr x20=>(
  some (x20,0))
def g_cmp_isNaN_int (p0:Int):Option Bool :=
 some (p0 != p0)
def g_cmp_Compare_int (p0:Int) (p1:Int):Option Int :=
 (g_cmp_isNaN_int p0).bind fun x1 =>
 (g_cmp_isNaN_int p1).bind fun x3 =>
 if x1=true then
  if x3=true then
   some 0
  else
  some (-1)
 else
 if x3=true then
  some 1
 else
 if (decide (p0 < p1))=true then
  some (-1)
 else
 if (decide (p0 > p1))=true then
  some 1
 else
 some 0
def g_slices_Compare_int_int_b0 (p0:(List Int)) (p1:(List Int)) (s1:Int):Option (Step Int (Int ⊕ Unit)) :=
 if (decide (s1 < (p0.length:Int)))=true then
  (lkI p0 s1).bind fun a4 =>
  if (decide (s1≥(p1.length:Int)))=true then
   some (.done (Sum.inl 1))
  else
  (lkI p1 s1).bind fun a8 =>
  (g_cmp_Compare_int a4 a8).bind fun x10 =>
  if (x10 != 0)=true then
   some (.done (Sum.inl x10))
  else
  some (.next (IntKind.i64.wrap (s1+1)))
 else
 some (.done (Sum.inr ()))
def g_slices_Compare_int_int (p0:(List Int)) (p1:(List Int)):Option Int :=
 (whileN fuel (g_slices_Compare_int_int_b0 p0 p1) 0).bind fun x14=>match x14 with
 | .inl x15=>(
  some x15)
 | .inr x16=>(
  if (decide ((p0.length:Int) < (p1.length:Int)))=true then
   some (-1)
  else
  some 0)
def g_cmp_Or_int_b0 (p0:(List Int)) (s1:Int):Option (Step Int (Int ⊕ Unit)) :=
 if (decide (s1 < (p0.length:Int)))=true then
  (lkI p0 s1).bind fun a4 =>
  if (a4 != 0)=true then
   some (.done (Sum.inl a4))
  else
  some (.next (IntKind.i64.wrap (s1+1)))
 else
 some (.done (Sum.inr ()))
def g_cmp_Or_int (p0:(List Int)):Option Int :=
 (whileN fuel (g_cmp_Or_int_b0 p0) 0).bind fun x8=>match x8 with
 | .inl x9=>(
  some x9)
 | .inr x10=>(
  some 0)
def g_path_Most_1 (p0:Tpath_weighed) (p1:Tpath_weighed):Option Int :=
 (g_cmp_Compare_int p1.weight p0.weight).bind fun x1 =>
 (g_slices_Compare_int_int p0.path p1.path).bind fun x3 =>
 (g_cmp_Or_int [x1,x3]).bind fun x5 =>
 some x5
def g_math_bits_Mul64 (p0:Int) (p1:Int):Option (Int × Int) :=
 some (IntKind.u64.wrap ((IntKind.u64.wrap ((IntKind.u64.wrap ((Int.fdiv p0 (2^min (Int.toNat 32) (IntKind.bits .u64)))*(Int.fdiv p1 (2^min (Int.toNat 32) (IntKind.bits .u64)))))+(Int.fdiv (IntKind.u64.wrap ((IntKind.u64.wrap ((Int.fdiv p0 (2^min (Int.toNat 32) (IntKind.bits .u64)))*(IntKind.u64.wrap (BitVec.ofInt (IntKind.bits .u64) p1 &&& BitVec.ofInt (IntKind.bits .u64) 4294967295).toNat)))+(Int.fdiv (IntKind.u64.wrap ((IntKind.u64.wrap (BitVec.ofInt (IntKind.bits .u64) p0 &&& BitVec.ofInt (IntKind.bits .u64) 4294967295).toNat)*(IntKind.u64.wrap (BitVec.ofInt (IntKind.bits .u64) p1 &&& BitVec.ofInt (IntKind.bits .u64) 4294967295).toNat))) (2^min (Int.toNat 32) (IntKind.bits .u64))))) (2^min (Int.toNat 32) (IntKind.bits .u64)))))+(Int.fdiv (IntKind.u64.wrap ((IntKind.u64.wrap (BitVec.ofInt (IntKind.bits .u64) (IntKind.u64.wrap ((IntKind.u64.wrap ((Int.fdiv p0 (2^min (Int.toNat 32) (IntKind.bits .u64)))*(IntKind.u64.wrap (BitVec.ofInt (IntKind.bits .u64) p1 &&& BitVec.ofInt (IntKind.bits .u64) 4294967295).toNat)))+(Int.fdiv (IntKind.u64.wrap ((IntKind.u64.wrap (BitVec.ofInt (IntKind.bits .u64) p0 &&& BitVec.ofInt (IntKind.bits .u64) 4294967295).toNat)*(IntKind.u64.wrap (BitVec.ofInt (IntKind.bits .u64) p1 &&& BitVec.ofInt (IntKind.bits .u64) 4294967295).toNat))) (2^min (Int.toNat 32) (IntKind.bits .u64))))) &&& BitVec.ofInt (IntKind.bits .u64) 4294967295).toNat)+(IntKind.u64.wrap ((IntKind.u64.wrap (BitVec.ofInt (IntKind.bits .u64) p0 &&& BitVec.ofInt (IntKind.bits .u64) 4294967295).toNat)*(Int.fdiv p1 (2^min (Int.toNat 32) (IntKind.bits .u64))))))) (2^min (Int.toNat 32) (IntKind.bits .u64)))),IntKind.u64.wrap (p0*p1))
def g_math_bits_Mul (p0:Int) (p1:Int):Option (Int × Int) :=
 (g_math_bits_Mul64 p0 p1).bind fun x1 =>
 some (x1.1,x1.2)
def g_slices_Repeat_path_weighed_path_weighed_b0  (s9:(Int × (List (List Tpath_weighed)))):Option (Step (Int × (List (List Tpath_weighed))) (List (List Tpath_weighed))) :=
 if (decide (s9.1 < (s9.2.length:Int)))=true then
  if 0≤s9.1∧s9.1≤(s9.2.length:Int)∧(s9.2.length:Int)≤(s9.2.length:Int) then
   if 0≤(0:Int)∧(0:Int)≤s9.1∧s9.1≤(s9.2.length:Int) then
    some (.next (IntKind.i64.wrap (s9.1+((min (sub s9.2 0 s9.1).length (Int.toNat (s9.2.length:Int) - Int.toNat s9.1):Nat):Int)),(ovr s9.2 (Int.toNat s9.1) (List.take (Int.toNat (s9.2.length:Int) - Int.toNat s9.1) (sub s9.2 0 s9.1)))))
   else none
  else none
 else
 some (.done s9.2)
def g_slices_Repeat_path_weighed_path_weighed (p0:(List (List Tpath_weighed))) (p1:Int):Option (List (List Tpath_weighed)) :=
 if (decide (p1 < 0))=true then
  none
 else
 (g_math_bits_Mul (IntKind.u64.wrap ((p0.length:Int))) (IntKind.u64.wrap (p1))).bind fun x3 =>
 if (decide (x3.1 > 0))=true then
  none
 else
 if (decide (x3.2 > 9223372036854775807))=true then
  none
 else
 if 0≤(IntKind.i64.wrap (x3.2))∧(IntKind.i64.wrap (x3.2))≤(IntKind.i64.wrap (x3.2))∧(IntKind.i64.wrap (x3.2))*24≤140737488355328 then
  (whileN fuel (g_slices_Repeat_path_weighed_path_weighed_b0) (((min p0.length ((List.replicate (Int.toNat (IntKind.i64.wrap (x3.2))) ([]:(List Tpath_weighed))).length):Nat):Int),(ovr (List.replicate (Int.toNat (IntKind.i64.wrap (x3.2))) ([]:(List Tpath_weighed))) 0 (List.take ((List.replicate (Int.toNat (IntKind.i64.wrap (x3.2))) ([]:(List Tpath_weighed))).length) p0)))).bind fun x16 =>
  some x16
 else none
def g_slices_Concat_path_weighed_path_weighed_b0 (p0:(List (List Tpath_weighed))) (s1:(Int × Int)):Option (Step (Int × Int) Int) :=
 if (decide (s1.2 < (p0.length:Int)))=true then
  (lkI p0 s1.2).bind fun a4 =>
  if (decide ((IntKind.i64.wrap (s1.1+(a4.length:Int))) < 0))=true then
   none
  else
  some (.next (IntKind.i64.wrap (s1.1+(a4.length:Int)),IntKind.i64.wrap (s1.2+1)))
 else
 some (.done s1.1)
def g_slices_Concat_path_weighed_path_weighed_b1 (p0:(List (List Tpath_weighed))) (s15:(Int × (List Tpath_weighed))):Option (Step (Int × (List Tpath_weighed)) (List Tpath_weighed)) :=
 if (decide (s15.1 < (p0.length:Int)))=true then
  (lkI p0 s15.1).bind fun a18 =>
  if (s15.2++a18).length*32≤140737488355328 then
   some (.next (IntKind.i64.wrap (s15.1+1),(s15.2++a18)))
  else none
 else
 some (.done s15.2)
def g_slices_Concat_path_weighed_path_weighed_b2 (p0:(List (List Tpath_weighed))) (s22:(Int × (List Tpath_weighed))):Option (Step (Int × (List Tpath_weighed)) (List Tpath_weighed)) :=
 if (decide (s22.1 < (p0.length:Int)))=true then
  (lkI p0 s22.1).bind fun a25 =>
  if (s22.2++a25).length*32≤140737488355328 then
   some (.next (IntKind.i64.wrap (s22.1+1),(s22.2++a25)))
  else none
 else
 some (.done s22.2)
def g_slices_Concat_path_weighed_path_weighed (p0:(List (List Tpath_weighed))):Option (List Tpath_weighed) :=
 (whileN fuel (g_slices_Concat_path_weighed_path_weighed_b0 p0) (0,0)).bind fun x9 =>
 if (decide (x9 < 0))=true then
  none
 else
 if (decide ((IntKind.i64.wrap (x9 - 0)) > 0))=true then
  if 0≤(IntKind.i64.wrap (x9 - 0))∧(IntKind.i64.wrap (x9 - 0))*32≤140737488355328 then
   if 0≤(0:Int)∧(0:Int)≤(0:Int)∧(0:Int)≤((List.replicate (Int.toNat (IntKind.i64.wrap (x9 - 0))) ((Tpath_weighed.mk 0 []):Tpath_weighed)).length:Int) then
    (whileN fuel (g_slices_Concat_path_weighed_path_weighed_b1 p0) (0,([]:(List Tpath_weighed)))).bind fun x21 =>
    some x21
   else none
  else none
 else
 (whileN fuel (g_slices_Concat_path_weighed_path_weighed_b2 p0) (0,([]:(List Tpath_weighed)))).bind fun x28 =>
 some x28
def g_slices_Concat_int_int_b0 (p0:(List (List Int))) (s1:(Int × Int)):Option (Step (Int × Int) Int) :=
 if (decide (s1.2 < (p0.length:Int)))=true then
  (lkI p0 s1.2).bind fun a4 =>
  if (decide ((IntKind.i64.wrap (s1.1+(a4.length:Int))) < 0))=true then
   none
  else
  some (.next (IntKind.i64.wrap (s1.1+(a4.length:Int)),IntKind.i64.wrap (s1.2+1)))
 else
 some (.done s1.1)
def g_slices_Concat_int_int_b1 (p0:(List (List Int))) (s15:(Int × (List Int))):Option (Step (Int × (List Int)) (List Int)) :=
 if (decide (s15.1 < (p0.length:Int)))=true then
  (lkI p0 s15.1).bind fun a18 =>
  if (s15.2++a18).length*8≤140737488355328 then
   some (.next (IntKind.i64.wrap (s15.1+1),(s15.2++a18)))
  else none
 else
 some (.done s15.2)
def g_slices_Concat_int_int_b2 (p0:(List (List Int))) (s22:(Int × (List Int))):Option (Step (Int × (List Int)) (List Int)) :=
 if (decide (s22.1 < (p0.length:Int)))=true then
  (lkI p0 s22.1).bind fun a25 =>
  if (s22.2++a25).length*8≤140737488355328 then
   some (.next (IntKind.i64.wrap (s22.1+1),(s22.2++a25)))
  else none
 else
 some (.done s22.2)
def g_slices_Concat_int_int (p0:(List (List Int))):Option (List Int) :=
 (whileN fuel (g_slices_Concat_int_int_b0 p0) (0,0)).bind fun x9 =>
 if (decide (x9 < 0))=true then
  none
 else
 if (decide ((IntKind.i64.wrap (x9 - 0)) > 0))=true then
  if 0≤(IntKind.i64.wrap (x9 - 0))∧(IntKind.i64.wrap (x9 - 0))*8≤140737488355328 then
   if 0≤(0:Int)∧(0:Int)≤(0:Int)∧(0:Int)≤((List.replicate (Int.toNat (IntKind.i64.wrap (x9 - 0))) (0:Int)).length:Int) then
    (whileN fuel (g_slices_Concat_int_int_b1 p0) (0,([]:(List Int)))).bind fun x21 =>
    some x21
   else none
  else none
 else
 (whileN fuel (g_slices_Concat_int_int_b2 p0) (0,([]:(List Int)))).bind fun x28 =>
 some x28
def g_path_Most_3_b0 (p3:(List Tpath_weighed)) (p2:Int) (p1:Int) (s1:(Int × (List Tpath_weighed))):Option (Step (Int × (List Tpath_weighed)) (List Tpath_weighed)) :=
 if (decide (s1.1 < (p3.length:Int)))=true then
  (lkI p3 s1.1).bind fun a4 =>
  if (decide (p2 > 0))=true then
   (g_slices_Concat_int_int [[p1],a4.path]).bind fun x8 =>
   if (s1.2++([(Tpath_weighed.mk (IntKind.i64.wrap (p2*a4.weight)) x8)]:(List Tpath_weighed))).length*32≤140737488355328 then
    some (.next (IntKind.i64.wrap (s1.1+1),(s1.2++([(Tpath_weighed.mk (IntKind.i64.wrap (p2*a4.weight)) x8)]:(List Tpath_weighed)))))
   else none
  else
  some (.next (IntKind.i64.wrap (s1.1+1),s1.2))
 else
 some (.done s1.2)
def g_path_Most_3 (p0:Int) (p1:Int) (p2:Int) (p3:(List Tpath_weighed)):Option (List Tpath_weighed) :=
 (whileN fuel (g_path_Most_3_b0 p3 p2 p1) (0,([]:(List Tpath_weighed)))).bind fun x11 =>
 some x11
def g_path_Most_2_k0 (p0:(List Tpath_weighed)) (p1:(List Tpath_weighed)) (c0:Int):Option (List Tpath_weighed) :=
 (g_slices_Concat_path_weighed_path_weighed [p0,p1]).bind fun x1 =>
 (sortD goodW leW x1).bind fun x3 =>
 if 0≤(0:Int)∧(0:Int)≤(if (x3.length:Int) < c0 then (x3.length:Int) else c0)∧(if (x3.length:Int) < c0 then (x3.length:Int) else c0)≤(x3.length:Int) then
  some (sub x3 0 (if (x3.length:Int) < c0 then (x3.length:Int) else c0))
 else none
def g_path_Most_b0 (x1:(Tpath_searcher × Int)) (s14:(Int × (List (List (List Tpath_weighed))))) (s19:(Int × (List (List (List Tpath_weighed))))) (p2:Int) (s22:((List Tpath_weighed) × Int)):Option (Step ((List Tpath_weighed) × Int) (List Tpath_weighed)) :=
 if (decide (s22.2 < (x1.1.Hidden.First.length:Int)))=true then
  (g_path_searcher_into x1.1 s14.1 s19.1 s22.2).bind fun x25 =>
  (lkI s19.2 (IntKind.i64.wrap (s14.1+1))).bind fun a27 =>
  (lkI a27 s22.2).bind fun a29 =>
  (g_path_Most_3 s14.1 s22.2 x25 a29).bind fun x31 =>
  (g_path_Most_2_k0 s22.1 x31 p2).bind fun x33 =>
  some (.next (x33,IntKind.i64.wrap (s22.2+1)))
 else
 some (.done s22.1)
def g_path_Most_b1 (x1:(Tpath_searcher × Int)) (s14:(Int × (List (List (List Tpath_weighed))))) (p2:Int) (s19:(Int × (List (List (List Tpath_weighed))))):Option (Step (Int × (List (List (List Tpath_weighed)))) (List (List (List Tpath_weighed)))) :=
 if (decide (s19.1 < 1))=true then
  (whileN fuel (g_path_Most_b0 x1 s14 s19 p2) (([]:(List Tpath_weighed)),0)).bind fun x36 =>
  (lkI s19.2 s14.1).bind fun a37 =>
  if (a37++([x36]:(List (List Tpath_weighed)))).length*24≤140737488355328 then
   some (.next (IntKind.i64.wrap (s19.1+1),(List.set (List.set s19.2 (Int.toNat s14.1) ([]:List (List Tpath_weighed))) (Int.toNat s14.1) (a37++([x36]:(List (List Tpath_weighed)))))))
  else none
 else
 some (.done s19.2)
def g_path_Most_b2 (x1:(Tpath_searcher × Int)) (s14:(Int × (List (List (List Tpath_weighed))))) (s43:(Int × (List (List (List Tpath_weighed))))) (p2:Int) (s46:((List Tpath_weighed) × Int)):Option (Step ((List Tpath_weighed) × Int) (List Tpath_weighed)) :=
 if (decide (s46.2 < (x1.1.Hidden.First.length:Int)))=true then
  (g_path_searcher_into x1.1 s14.1 s43.1 s46.2).bind fun x49 =>
  (lkI s43.2 (IntKind.i64.wrap (s14.1+1))).bind fun a51 =>
  (lkI a51 s46.2).bind fun a53 =>
  (g_path_Most_3 s14.1 s46.2 x49 a53).bind fun x55 =>
  (g_path_Most_2_k0 s46.1 x55 p2).bind fun x57 =>
  some (.next (x57,IntKind.i64.wrap (s46.2+1)))
 else
 some (.done s46.1)
def g_path_Most_b3 (x1:(Tpath_searcher × Int)) (s14:(Int × (List (List (List Tpath_weighed))))) (p2:Int) (s43:(Int × (List (List (List Tpath_weighed))))):Option (Step (Int × (List (List (List Tpath_weighed)))) (List (List (List Tpath_weighed)))) :=
 if (decide (s43.1 < (x1.1.Hidden.First.length:Int)))=true then
  (whileN fuel (g_path_Most_b2 x1 s14 s43 p2) (([]:(List Tpath_weighed)),0)).bind fun x60 =>
  (lkI s43.2 s14.1).bind fun a61 =>
  if (a61++([x60]:(List (List Tpath_weighed)))).length*24≤140737488355328 then
   some (.next (IntKind.i64.wrap (s43.1+1),(List.set (List.set s43.2 (Int.toNat s14.1) ([]:List (List Tpath_weighed))) (Int.toNat s14.1) (a61++([x60]:(List (List Tpath_weighed)))))))
  else none
 else
 some (.done s43.2)
def g_path_Most_b4 (x1:(Tpath_searcher × Int)) (p2:Int) (s14:(Int × (List (List (List Tpath_weighed))))):Option (Step (Int × (List (List (List Tpath_weighed)))) (List (List (List Tpath_weighed)))) :=
 if (decide (s14.1≥0))=true then
  if (s14.1==0)=true then
   (whileN fuel (g_path_Most_b1 x1 s14 p2) (0,s14.2)).bind fun x42 =>
   some (.next (IntKind.i64.wrap (s14.1 - 1),x42))
  else
  (whileN fuel (g_path_Most_b3 x1 s14 p2) (0,s14.2)).bind fun x66 =>
  some (.next (IntKind.i64.wrap (s14.1 - 1),x66))
 else
 some (.done s14.2)
def g_path_Most_b5 (a71:(List Tpath_weighed)) (s73:(Int × (List (List Int)) × (List Int))):Option (Step (Int × (List (List Int)) × (List Int)) ((List (List Int)) × (List Int))) :=
 if (decide (s73.1 < (a71.length:Int)))=true then
  (lkI a71 s73.1).bind fun a76 =>
  if (s73.2.1++([a76.path]:(List (List Int)))).length*24≤140737488355328 then
   if (s73.2.2++([a76.weight]:(List Int))).length*8≤140737488355328 then
    some (.next (IntKind.i64.wrap (s73.1+1),(s73.2.1++([a76.path]:(List (List Int)))),(s73.2.2++([a76.weight]:(List Int)))))
   else none
  else none
 else
 some (.done (s73.2.1,s73.2.2))
def g_path_Most (p0:Tapi_Hidden) (p1:(List Int)) (p2:Int):Option ((List (List Int)) × (List Int) × Int) :=
 (g_path_newSearcher p0 p1).bind fun x1 =>
 if (x1.2 != 0)=true then
  some (([]:(List (List Int))),([]:(List Int)),x1.2)
 else
 if (decide (p2 < 1))=true then
  some (([]:(List (List Int))),([]:(List Int)),2)
 else
 if (decide (p2 > 20))=true then
  some (([]:(List (List Int))),([]:(List Int)),2)
 else
 if 0≤(IntKind.i64.wrap ((x1.1.seen.length:Int)+1))∧(IntKind.i64.wrap ((x1.1.seen.length:Int)+1))≤(IntKind.i64.wrap ((x1.1.seen.length:Int)+1))∧(IntKind.i64.wrap ((x1.1.seen.length:Int)+1))*24≤140737488355328 then
  (g_slices_Repeat_path_weighed_path_weighed [[(Tpath_weighed.mk 1 [])]] (x1.1.Hidden.First.length:Int)).bind fun x9 =>
  (lkI (List.replicate (Int.toNat (IntKind.i64.wrap ((x1.1.seen.length:Int)+1))) ([]:(List (List Tpath_weighed)))) (x1.1.seen.length:Int)).bind fun a11 =>
  (whileN fuel (g_path_Most_b4 x1 p2) (IntKind.i64.wrap ((x1.1.seen.length:Int) - 1),(List.set (List.replicate (Int.toNat (IntKind.i64.wrap ((x1.1.seen.length:Int)+1))) ([]:(List (List Tpath_weighed)))) (Int.toNat (x1.1.seen.length:Int)) x9))).bind fun x68 =>
  (lkI x68 0).bind fun a69 =>
  (lkI a69 0).bind fun a71 =>
  (whileN fuel (g_path_Most_b5 a71) (0,([]:(List (List Int))),([]:(List Int)))).bind fun x79 =>
  some (x79.1,x79.2,0)
 else none
def g_slices_Equal_int_int_b0 (p0:(List Int)) (p1:(List Int)) (s3:Int):Option (Step Int (Unit ⊕ Unit)) :=
 if (decide (s3 < (p0.length:Int)))=true then
  (lkI p0 s3).bind fun a6 =>
  (lkI p1 s3).bind fun a8 =>
  if (a6 != a8)=true then
   some (.done (Sum.inl ()))
  else
  some (.next (IntKind.i64.wrap (s3+1)))
 else
 some (.done (Sum.inr ()))
def g_slices_Equal_int_int (p0:(List Int)) (p1:(List Int)):Option Bool :=
 if ((p0.length:Int) != (p1.length:Int))=true then
  some false
 else
 (whileN fuel (g_slices_Equal_int_int_b0 p0 p1) 0).bind fun x12=>match x12 with
 | .inl x13=>(
  some false)
 | .inr x14=>(
  some true)
def g_slices_Repeat_int_int_b0  (s9:(Int × (List Int))):Option (Step (Int × (List Int)) (List Int)) :=
 if (decide (s9.1 < (s9.2.length:Int)))=true then
  if 0≤s9.1∧s9.1≤(s9.2.length:Int)∧(s9.2.length:Int)≤(s9.2.length:Int) then
   if 0≤(0:Int)∧(0:Int)≤s9.1∧s9.1≤(s9.2.length:Int) then
    some (.next (IntKind.i64.wrap (s9.1+((min (sub s9.2 0 s9.1).length (Int.toNat (s9.2.length:Int) - Int.toNat s9.1):Nat):Int)),(ovr s9.2 (Int.toNat s9.1) (List.take (Int.toNat (s9.2.length:Int) - Int.toNat s9.1) (sub s9.2 0 s9.1)))))
   else none
  else none
 else
 some (.done s9.2)
def g_slices_Repeat_int_int (p0:(List Int)) (p1:Int):Option (List Int) :=
 if (decide (p1 < 0))=true then
  none
 else
 (g_math_bits_Mul (IntKind.u64.wrap ((p0.length:Int))) (IntKind.u64.wrap (p1))).bind fun x3 =>
 if (decide (x3.1 > 0))=true then
  none
 else
 if (decide (x3.2 > 9223372036854775807))=true then
  none
 else
 if 0≤(IntKind.i64.wrap (x3.2))∧(IntKind.i64.wrap (x3.2))≤(IntKind.i64.wrap (x3.2))∧(IntKind.i64.wrap (x3.2))*8≤140737488355328 then
  (whileN fuel (g_slices_Repeat_int_int_b0) (((min p0.length ((List.replicate (Int.toNat (IntKind.i64.wrap (x3.2))) (0:Int)).length):Nat):Int),(ovr (List.replicate (Int.toNat (IntKind.i64.wrap (x3.2))) (0:Int)) 0 (List.take ((List.replicate (Int.toNat (IntKind.i64.wrap (x3.2))) (0:Int)).length) p0)))).bind fun x16 =>
  some x16
 else none
def g_path_Best_1 (p0:Int) (p1:Int):Option Int :=
 some (if p1 > p0 then p1 else p0)
def g_path_multiplied (p0:Int) (p1:Int) (p2:Int) (p3:Int):Option Int :=
 some (IntKind.i64.wrap (p2*p3))
def g_path_Best_b0 (x1:(Tpath_searcher × Int)) (s10:(Int × (List (List Int)))) (s15:(Int × (List (List Int)))) (s18:(Int × Int)):Option (Step (Int × Int) Int) :=
 if (decide (s18.2 < (x1.1.Hidden.First.length:Int)))=true then
  (g_path_searcher_into x1.1 s10.1 s15.1 s18.2).bind fun x21 =>
  (lkI s15.2 (IntKind.i64.wrap (s10.1+1))).bind fun a23 =>
  (lkI a23 s18.2).bind fun a25 =>
  (g_path_multiplied s10.1 s18.2 x21 a25).bind fun x27 =>
  (g_path_Best_1 s18.1 x27).bind fun x29 =>
  some (.next (x29,IntKind.i64.wrap (s18.2+1)))
 else
 some (.done s18.1)
def g_path_Best_b1 (x1:(Tpath_searcher × Int)) (s10:(Int × (List (List Int)))) (s15:(Int × (List (List Int)))):Option (Step (Int × (List (List Int))) (List (List Int))) :=
 if (decide (s15.1 < 1))=true then
  (whileN fuel (g_path_Best_b0 x1 s10 s15) (0,0)).bind fun x32 =>
  (lkI s15.2 s10.1).bind fun a33 =>
  if (a33++([x32]:(List Int))).length*8≤140737488355328 then
   some (.next (IntKind.i64.wrap (s15.1+1),(List.set (List.set s15.2 (Int.toNat s10.1) ([]:List Int)) (Int.toNat s10.1) (a33++([x32]:(List Int))))))
  else none
 else
 some (.done s15.2)
def g_path_Best_b2 (x1:(Tpath_searcher × Int)) (s10:(Int × (List (List Int)))) (s39:(Int × (List (List Int)))) (s42:(Int × Int)):Option (Step (Int × Int) Int) :=
 if (decide (s42.2 < (x1.1.Hidden.First.length:Int)))=true then
  (g_path_searcher_into x1.1 s10.1 s39.1 s42.2).bind fun x45 =>
  (lkI s39.2 (IntKind.i64.wrap (s10.1+1))).bind fun a47 =>
  (lkI a47 s42.2).bind fun a49 =>
  (g_path_multiplied s10.1 s42.2 x45 a49).bind fun x51 =>
  (g_path_Best_1 s42.1 x51).bind fun x53 =>
  some (.next (x53,IntKind.i64.wrap (s42.2+1)))
 else
 some (.done s42.1)
def g_path_Best_b3 (x1:(Tpath_searcher × Int)) (s10:(Int × (List (List Int)))) (s39:(Int × (List (List Int)))):Option (Step (Int × (List (List Int))) (List (List Int))) :=
 if (decide (s39.1 < (x1.1.Hidden.First.length:Int)))=true then
  (whileN fuel (g_path_Best_b2 x1 s10 s39) (0,0)).bind fun x56 =>
  (lkI s39.2 s10.1).bind fun a57 =>
  if (a57++([x56]:(List Int))).length*8≤140737488355328 then
   some (.next (IntKind.i64.wrap (s39.1+1),(List.set (List.set s39.2 (Int.toNat s10.1) ([]:List Int)) (Int.toNat s10.1) (a57++([x56]:(List Int))))))
  else none
 else
 some (.done s39.2)
def g_path_Best_b4 (x1:(Tpath_searcher × Int)) (s10:(Int × (List (List Int)))):Option (Step (Int × (List (List Int))) (List (List Int))) :=
 if (decide (s10.1≥0))=true then
  if (s10.1==0)=true then
   (whileN fuel (g_path_Best_b1 x1 s10) (0,s10.2)).bind fun x38 =>
   some (.next (IntKind.i64.wrap (s10.1 - 1),x38))
  else
  (whileN fuel (g_path_Best_b3 x1 s10) (0,s10.2)).bind fun x62 =>
  some (.next (IntKind.i64.wrap (s10.1 - 1),x62))
 else
 some (.done s10.2)
def g_path_Best_b5 (x1:(Tpath_searcher × Int)) (s71:(Int × Int × (List Int))) (x64:(List (List Int))) (s74:Int):Option (Step Int ((Int × (List Int)) ⊕ Unit)) :=
 if (decide (s74 < (x1.1.Hidden.First.length:Int)))=true then
  (g_path_searcher_into x1.1 s71.2.1 s71.1 s74).bind fun x77 =>
  (lkI x64 (IntKind.i64.wrap (s71.2.1+1))).bind fun a79 =>
  (lkI a79 s74).bind fun a81 =>
  (lkI x64 s71.2.1).bind fun a83 =>
  (lkI a83 s71.1).bind fun a85 =>
  if ((IntKind.i64.wrap (x77*a81))==a85)=true then
   if (s71.2.2++([s74]:(List Int))).length*8≤140737488355328 then
    some (.done (Sum.inl (s74,(s71.2.2++([s74]:(List Int))))))
   else none
  else
  some (.next (IntKind.i64.wrap (s74+1)))
 else
 some (.done (Sum.inr ()))
def g_path_Best_b6 (p1:(List Int)) (x1:(Tpath_searcher × Int)) (x64:(List (List Int))) (s71:(Int × Int × (List Int))):Option (Step (Int × Int × (List Int)) (List Int)) :=
 if (decide (s71.2.1 < (p1.length:Int)))=true then
  (whileN fuel (g_path_Best_b5 x1 s71 x64) 0).bind fun x89=>match x89 with
  | .inl x90=>(
   some (.next (x90.1,IntKind.i64.wrap (s71.2.1+1),x90.2)))
  | .inr x91=>(
   some (.next (s71.1,IntKind.i64.wrap (s71.2.1+1),s71.2.2)))
 else
 some (.done s71.2.2)
def g_path_Best (p0:Tapi_Hidden) (p1:(List Int)):Option ((List Int) × Int × Int) :=
 (g_path_newSearcher p0 p1).bind fun x1 =>
 if (x1.2 != 0)=true then
  some (([]:(List Int)),0,x1.2)
 else
 if 0≤(IntKind.i64.wrap ((x1.1.seen.length:Int)+1))∧(IntKind.i64.wrap ((x1.1.seen.length:Int)+1))≤(IntKind.i64.wrap ((x1.1.seen.length:Int)+1))∧(IntKind.i64.wrap ((x1.1.seen.length:Int)+1))*24≤140737488355328 then
  (g_slices_Repeat_int_int [1] (x1.1.Hidden.First.length:Int)).bind fun x5 =>
  (lkI (List.replicate (Int.toNat (IntKind.i64.wrap ((x1.1.seen.length:Int)+1))) ([]:(List Int))) (x1.1.seen.length:Int)).bind fun a7 =>
  (whileN fuel (g_path_Best_b4 x1) (IntKind.i64.wrap ((x1.1.seen.length:Int) - 1),(List.set (List.replicate (Int.toNat (IntKind.i64.wrap ((x1.1.seen.length:Int)+1))) ([]:(List Int))) (Int.toNat (x1.1.seen.length:Int)) x5))).bind fun x64 =>
  (lkI x64 0).bind fun a65 =>
  (lkI a65 0).bind fun a67 =>
  if (a67==0)=true then
   some (([]:(List Int)),0,7)
  else
  (whileN fuel (g_path_Best_b6 p1 x1 x64) (0,0,([]:(List Int)))).bind fun x93 =>
  some (x93,a67,0)
 else none
def g_path_add (p0:Int) (p1:Int):Option Int :=
 some (IntKind.i64.wrap (p0+p1))
def g_path_Count_1 (p0:Int) (p1:Int) (p2:Int) (p3:Int):Option Int :=
 if (p2==0)=true then
  some 0
 else
 some p3
def g_path_Count_b0 (x1:(Tpath_searcher × Int)) (s10:(Int × (List (List Int)))) (s15:(Int × (List (List Int)))) (s18:(Int × Int)):Option (Step (Int × Int) Int) :=
 if (decide (s18.2 < (x1.1.Hidden.First.length:Int)))=true then
  (g_path_searcher_into x1.1 s10.1 s15.1 s18.2).bind fun x21 =>
  (lkI s15.2 (IntKind.i64.wrap (s10.1+1))).bind fun a23 =>
  (lkI a23 s18.2).bind fun a25 =>
  (g_path_Count_1 s10.1 s18.2 x21 a25).bind fun x27 =>
  (g_path_add s18.1 x27).bind fun x29 =>
  some (.next (x29,IntKind.i64.wrap (s18.2+1)))
 else
 some (.done s18.1)
def g_path_Count_b1 (x1:(Tpath_searcher × Int)) (s10:(Int × (List (List Int)))) (s15:(Int × (List (List Int)))):Option (Step (Int × (List (List Int))) (List (List Int))) :=
 if (decide (s15.1 < 1))=true then
  (whileN fuel (g_path_Count_b0 x1 s10 s15) (0,0)).bind fun x32 =>
  (lkI s15.2 s10.1).bind fun a33 =>
  if (a33++([x32]:(List Int))).length*8≤140737488355328 then
   some (.next (IntKind.i64.wrap (s15.1+1),(List.set (List.set s15.2 (Int.toNat s10.1) ([]:List Int)) (Int.toNat s10.1) (a33++([x32]:(List Int))))))
  else none
 else
 some (.done s15.2)
def g_path_Count_b2 (x1:(Tpath_searcher × Int)) (s10:(Int × (List (List Int)))) (s39:(Int × (List (List Int)))) (s42:(Int × Int)):Option (Step (Int × Int) Int) :=
 if (decide (s42.2 < (x1.1.Hidden.First.length:Int)))=true then
  (g_path_searcher_into x1.1 s10.1 s39.1 s42.2).bind fun x45 =>
  (lkI s39.2 (IntKind.i64.wrap (s10.1+1))).bind fun a47 =>
  (lkI a47 s42.2).bind fun a49 =>
  (g_path_Count_1 s10.1 s42.2 x45 a49).bind fun x51 =>
  (g_path_add s42.1 x51).bind fun x53 =>
  some (.next (x53,IntKind.i64.wrap (s42.2+1)))
 else
 some (.done s42.1)
def g_path_Count_b3 (x1:(Tpath_searcher × Int)) (s10:(Int × (List (List Int)))) (s39:(Int × (List (List Int)))):Option (Step (Int × (List (List Int))) (List (List Int))) :=
 if (decide (s39.1 < (x1.1.Hidden.First.length:Int)))=true then
  (whileN fuel (g_path_Count_b2 x1 s10 s39) (0,0)).bind fun x56 =>
  (lkI s39.2 s10.1).bind fun a57 =>
  if (a57++([x56]:(List Int))).length*8≤140737488355328 then
   some (.next (IntKind.i64.wrap (s39.1+1),(List.set (List.set s39.2 (Int.toNat s10.1) ([]:List Int)) (Int.toNat s10.1) (a57++([x56]:(List Int))))))
  else none
 else
 some (.done s39.2)
def g_path_Count_b4 (x1:(Tpath_searcher × Int)) (s10:(Int × (List (List Int)))):Option (Step (Int × (List (List Int))) (List (List Int))) :=
 if (decide (s10.1≥0))=true then
  if (s10.1==0)=true then
   (whileN fuel (g_path_Count_b1 x1 s10) (0,s10.2)).bind fun x38 =>
   some (.next (IntKind.i64.wrap (s10.1 - 1),x38))
  else
  (whileN fuel (g_path_Count_b3 x1 s10) (0,s10.2)).bind fun x62 =>
  some (.next (IntKind.i64.wrap (s10.1 - 1),x62))
 else
 some (.done s10.2)
def g_path_Count (p0:Tapi_Hidden) (p1:(List Int)):Option (Int × Int) :=
 (g_path_newSearcher p0 p1).bind fun x1 =>
 if (x1.2 != 0)=true then
  some (0,x1.2)
 else
 if 0≤(IntKind.i64.wrap ((x1.1.seen.length:Int)+1))∧(IntKind.i64.wrap ((x1.1.seen.length:Int)+1))≤(IntKind.i64.wrap ((x1.1.seen.length:Int)+1))∧(IntKind.i64.wrap ((x1.1.seen.length:Int)+1))*24≤140737488355328 then
  (g_slices_Repeat_int_int [1] (x1.1.Hidden.First.length:Int)).bind fun x5 =>
  (lkI (List.replicate (Int.toNat (IntKind.i64.wrap ((x1.1.seen.length:Int)+1))) ([]:(List Int))) (x1.1.seen.length:Int)).bind fun a7 =>
  (whileN fuel (g_path_Count_b4 x1) (IntKind.i64.wrap ((x1.1.seen.length:Int) - 1),(List.set (List.replicate (Int.toNat (IntKind.i64.wrap ((x1.1.seen.length:Int)+1))) ([]:(List Int))) (Int.toNat (x1.1.seen.length:Int)) x5))).bind fun x64 =>
  (lkI x64 0).bind fun a65 =>
  (lkI a65 0).bind fun a67 =>
  some (a67,0)
 else none
def g_path_searcher_total_b0 (p0:Tpath_searcher) (s6:(Int × (List (List Int)))) (s11:(Int × (List (List Int)))) (s14:(Int × Int)):Option (Step (Int × Int) Int) :=
 if (decide (s14.2 < (p0.Hidden.First.length:Int)))=true then
  (g_path_searcher_into p0 s6.1 s11.1 s14.2).bind fun x17 =>
  (lkI s11.2 (IntKind.i64.wrap (s6.1+1))).bind fun a19 =>
  (lkI a19 s14.2).bind fun a21 =>
  (g_path_multiplied s6.1 s14.2 x17 a21).bind fun x23 =>
  (g_path_add s14.1 x23).bind fun x25 =>
  some (.next (x25,IntKind.i64.wrap (s14.2+1)))
 else
 some (.done s14.1)
def g_path_searcher_total_b1 (p0:Tpath_searcher) (s6:(Int × (List (List Int)))) (s11:(Int × (List (List Int)))):Option (Step (Int × (List (List Int))) (List (List Int))) :=
 if (decide (s11.1 < 1))=true then
  (whileN fuel (g_path_searcher_total_b0 p0 s6 s11) (0,0)).bind fun x28 =>
  (lkI s11.2 s6.1).bind fun a29 =>
  if (a29++([x28]:(List Int))).length*8≤140737488355328 then
   some (.next (IntKind.i64.wrap (s11.1+1),(List.set (List.set s11.2 (Int.toNat s6.1) ([]:List Int)) (Int.toNat s6.1) (a29++([x28]:(List Int))))))
  else none
 else
 some (.done s11.2)
def g_path_searcher_total_b2 (p0:Tpath_searcher) (s6:(Int × (List (List Int)))) (s35:(Int × (List (List Int)))) (s38:(Int × Int)):Option (Step (Int × Int) Int) :=
 if (decide (s38.2 < (p0.Hidden.First.length:Int)))=true then
  (g_path_searcher_into p0 s6.1 s35.1 s38.2).bind fun x41 =>
  (lkI s35.2 (IntKind.i64.wrap (s6.1+1))).bind fun a43 =>
  (lkI a43 s38.2).bind fun a45 =>
  (g_path_multiplied s6.1 s38.2 x41 a45).bind fun x47 =>
  (g_path_add s38.1 x47).bind fun x49 =>
  some (.next (x49,IntKind.i64.wrap (s38.2+1)))
 else
 some (.done s38.1)
def g_path_searcher_total_b3 (p0:Tpath_searcher) (s6:(Int × (List (List Int)))) (s35:(Int × (List (List Int)))):Option (Step (Int × (List (List Int))) (List (List Int))) :=
 if (decide (s35.1 < (p0.Hidden.First.length:Int)))=true then
  (whileN fuel (g_path_searcher_total_b2 p0 s6 s35) (0,0)).bind fun x52 =>
  (lkI s35.2 s6.1).bind fun a53 =>
  if (a53++([x52]:(List Int))).length*8≤140737488355328 then
   some (.next (IntKind.i64.wrap (s35.1+1),(List.set (List.set s35.2 (Int.toNat s6.1) ([]:List Int)) (Int.toNat s6.1) (a53++([x52]:(List Int))))))
  else none
 else
 some (.done s35.2)
def g_path_searcher_total_b4 (p0:Tpath_searcher) (s6:(Int × (List (List Int)))):Option (Step (Int × (List (List Int))) (List (List Int))) :=
 if (decide (s6.1≥0))=true then
  if (s6.1==0)=true then
   (whileN fuel (g_path_searcher_total_b1 p0 s6) (0,s6.2)).bind fun x34 =>
   some (.next (IntKind.i64.wrap (s6.1 - 1),x34))
  else
  (whileN fuel (g_path_searcher_total_b3 p0 s6) (0,s6.2)).bind fun x58 =>
  some (.next (IntKind.i64.wrap (s6.1 - 1),x58))
 else
 some (.done s6.2)
def g_path_searcher_total (p0:Tpath_searcher):Option Int :=
 if 0≤(IntKind.i64.wrap ((p0.seen.length:Int)+1))∧(IntKind.i64.wrap ((p0.seen.length:Int)+1))≤(IntKind.i64.wrap ((p0.seen.length:Int)+1))∧(IntKind.i64.wrap ((p0.seen.length:Int)+1))*24≤140737488355328 then
  (g_slices_Repeat_int_int [1] (p0.Hidden.First.length:Int)).bind fun x1 =>
  (lkI (List.replicate (Int.toNat (IntKind.i64.wrap ((p0.seen.length:Int)+1))) ([]:(List Int))) (p0.seen.length:Int)).bind fun a3 =>
  (whileN fuel (g_path_searcher_total_b4 p0) (IntKind.i64.wrap ((p0.seen.length:Int) - 1),(List.set (List.replicate (Int.toNat (IntKind.i64.wrap ((p0.seen.length:Int)+1))) ([]:(List Int))) (Int.toNat (p0.seen.length:Int)) x1))).bind fun x60 =>
  (lkI x60 0).bind fun a61 =>
  (lkI a61 0).bind fun a63 =>
  some a63
 else none
def g_hidden_watcher_backward_b0 (p0:Thidden_watcher) (s1:(Int × (List (List Int)))):Option (Step (Int × (List (List Int))) (List (List Int))) :=
 if (decide (s1.1 < (((List.replicate (Int.toNat (p0.seen.length:Int)) ([]:(List Int))).length):Int)))=true then
  if 0≤(p0.Hidden.First.length:Int)∧(p0.Hidden.First.length:Int)≤(p0.Hidden.First.length:Int)∧(p0.Hidden.First.length:Int)*8≤140737488355328 then
   (lkI s1.2 s1.1).bind fun a4 =>
   some (.next (IntKind.i64.wrap (s1.1+1),(List.set s1.2 (Int.toNat s1.1) (List.replicate (Int.toNat (p0.Hidden.First.length:Int)) (0:Int)))))
  else none
 else
 some (.done s1.2)
def g_hidden_watcher_backward_b1 (a22:(List Int)) (s9:(Int × (List (List Int)))) (s12:(Int × (List (List Int)))) (p0:Thidden_watcher) (s24:(Int × (List (List Int)))):Option (Step (Int × (List (List Int))) (List (List Int))) :=
 if (decide (s24.1 < (a22.length:Int)))=true then
  (lkI s24.2 (IntKind.i64.wrap (s9.1+1))).bind fun a27 =>
  (lkI a27 s24.1).bind fun a29 =>
  if s24.1 < (a22.length:Int) then
   (lkI s24.2 s9.1).bind fun a31 =>
   (lkI a31 s12.1).bind fun a33 =>
   (lkI p0.Hidden.Step s12.1).bind fun a35 =>
   (lkI a35 s24.1).bind fun a37 =>
   (g_hidden_watcher_shown p0 (IntKind.i64.wrap (s9.1+1)) s24.1).bind fun x39 =>
   some (.next (IntKind.i64.wrap (s24.1+1),(List.set s24.2 (Int.toNat s9.1) (List.set a31 (Int.toNat s12.1) (IntKind.i64.wrap (a33+(IntKind.i64.wrap ((IntKind.i64.wrap (a37*x39))*a29))))))))
  else none
 else
 some (.done s24.2)
def g_hidden_watcher_backward_b2 (p0:Thidden_watcher) (s9:(Int × (List (List Int)))) (s12:(Int × (List (List Int)))):Option (Step (Int × (List (List Int))) (List (List Int))) :=
 if (decide (s12.1 < (p0.Hidden.First.length:Int)))=true then
  if (s9.1==(IntKind.i64.wrap ((p0.seen.length:Int) - 1)))=true then
   (lkI s12.2 s9.1).bind fun a17 =>
   (lkI a17 s12.1).bind fun a19 =>
   some (.next (IntKind.i64.wrap (s12.1+1),(List.set s12.2 (Int.toNat s9.1) (List.set a17 (Int.toNat s12.1) 1))))
  else
  (lkI s12.2 (IntKind.i64.wrap (s9.1+1))).bind fun a22 =>
  (whileN fuel (g_hidden_watcher_backward_b1 a22 s9 s12 p0) (0,s12.2)).bind fun x43 =>
  some (.next (IntKind.i64.wrap (s12.1+1),x43))
 else
 some (.done s12.2)
def g_hidden_watcher_backward_b3 (p0:Thidden_watcher) (s9:(Int × (List (List Int)))):Option (Step (Int × (List (List Int))) (List (List Int))) :=
 if (decide (s9.1≥0))=true then
  (whileN fuel (g_hidden_watcher_backward_b2 p0 s9) (0,s9.2)).bind fun x45 =>
  some (.next (IntKind.i64.wrap (s9.1 - 1),x45))
 else
 some (.done s9.2)
def g_hidden_watcher_backward (p0:Thidden_watcher):Option (List (List Int)) :=
 if 0≤(p0.seen.length:Int)∧(p0.seen.length:Int)≤(p0.seen.length:Int)∧(p0.seen.length:Int)*24≤140737488355328 then
  (whileN fuel (g_hidden_watcher_backward_b0 p0) (0,(List.replicate (Int.toNat (p0.seen.length:Int)) ([]:(List Int))))).bind fun x8 =>
  (whileN fuel (g_hidden_watcher_backward_b3 p0) (IntKind.i64.wrap ((p0.seen.length:Int) - 1),x8)).bind fun x47 =>
  some x47
 else none
def g_hidden_Backward (p0:Tapi_Hidden) (p1:(List Int)):Option ((List (List Int)) × Int) :=
 (g_hidden_newWatcher p0 p1).bind fun x1 =>
 if (x1.2 != 0)=true then
  some (([]:(List (List Int))),x1.2)
 else
 (g_hidden_watcher_backward x1.1).bind fun x5 =>
 some (x5,0)
def g_path_States_b0 (a20:(List Int)) (x13:((List (List Int)) × Int)) (s17:(Int × (List Int))) (s22:(Int × Int × (List Int))):Option (Step (Int × Int × (List Int)) (List Int)) :=
 if (decide (s22.2.1 < (a20.length:Int)))=true then
  (lkI a20 s22.2.1).bind fun a25 =>
  (lkI x13.1 s17.1).bind fun a27 =>
  (lkI a27 s22.2.1).bind fun a29 =>
  if (decide ((IntKind.i64.wrap (a25*a29)) > s22.1))=true then
   (lkI s22.2.2 s17.1).bind fun a33 =>
   some (.next (IntKind.i64.wrap (a25*a29),IntKind.i64.wrap (s22.2.1+1),(List.set s22.2.2 (Int.toNat s17.1) s22.2.1)))
  else
  some (.next (s22.1,IntKind.i64.wrap (s22.2.1+1),s22.2.2))
 else
 some (.done s22.2.2)
def g_path_States_b1 (x9:((List (List Int)) × Int)) (x13:((List (List Int)) × Int)) (s17:(Int × (List Int))):Option (Step (Int × (List Int)) (List Int)) :=
 if (decide (s17.1 < (x9.1.length:Int)))=true then
  (lkI x9.1 s17.1).bind fun a20 =>
  (whileN fuel (g_path_States_b0 a20 x13 s17) (0,0,s17.2)).bind fun x37 =>
  some (.next (IntKind.i64.wrap (s17.1+1),x37))
 else
 some (.done s17.2)
def g_path_States (p0:Tapi_Hidden) (p1:(List Int)):Option ((List Int) × Int) :=
 (g_path_newSearcher p0 p1).bind fun x1 =>
 if (x1.2 != 0)=true then
  some (([]:(List Int)),x1.2)
 else
 (g_path_searcher_total x1.1).bind fun x5 =>
 if (x5==0)=true then
  some (([]:(List Int)),7)
 else
 (g_hidden_Forward p0 p1).bind fun x9 =>
 if (x9.2 != 0)=true then
  some (([]:(List Int)),x9.2)
 else
 (g_hidden_Backward p0 p1).bind fun x13 =>
 if (x13.2 != 0)=true then
  some (([]:(List Int)),x13.2)
 else
 if 0≤(p1.length:Int)∧(p1.length:Int)≤(p1.length:Int)∧(p1.length:Int)*8≤140737488355328 then
  (whileN fuel (g_path_States_b1 x9 x13) (0,(List.replicate (Int.toNat (p1.length:Int)) (0:Int)))).bind fun x39 =>
  some (x39,0)
 else none
def g_law18_sample  : Option Tapi_Hidden :=
 some (Tapi_Hidden.mk 4 ([1,3]:(List Int)) ([[2,2],[0,4]]:(List (List Int))) ([[4,0],[1,3]]:(List (List Int))))
def g_ref02_Same_b0 (p0:(List Int)) (p1:(List Int)) (s3:Int):Option (Step Int (Unit ⊕ Unit)) :=
 if (decide (s3 < (p0.length:Int)))=true then
  (lkI p0 s3).bind fun a6 =>
  (lkI p1 s3).bind fun a8 =>
  if (a6 != a8)=true then
   some (.done (Sum.inl ()))
  else
  some (.next (IntKind.i64.wrap (s3+1)))
 else
 some (.done (Sum.inr ()))
def g_ref02_Same (p0:(List Int)) (p1:(List Int)):Option Bool :=
 if ((p0.length:Int) != (p1.length:Int))=true then
  some false
 else
 (whileN fuel (g_ref02_Same_b0 p0 p1) 0).bind fun x12=>match x12 with
 | .inl x13=>(
  some false)
 | .inr x14=>(
  some true)
def g_ref17_SameTable_b0 (p0:(List (List Int))) (p1:(List (List Int))) (s3:Int):Option (Step Int (Unit ⊕ Unit)) :=
 if (decide (s3 < (p0.length:Int)))=true then
  (lkI p0 s3).bind fun a6 =>
  (lkI p1 s3).bind fun a8 =>
  (g_ref02_Same a6 a8).bind fun x10 =>
  if (!x10)=true then
   some (.done (Sum.inl ()))
  else
  some (.next (IntKind.i64.wrap (s3+1)))
 else
 some (.done (Sum.inr ()))
def g_ref17_SameTable (p0:(List (List Int))) (p1:(List (List Int))):Option Bool :=
 if ((p0.length:Int) != (p1.length:Int))=true then
  some false
 else
 (whileN fuel (g_ref17_SameTable_b0 p0 p1) 0).bind fun x14=>match x14 with
 | .inl x15=>(
  some false)
 | .inr x16=>(
  some true)
def g_law18_wakes  : Option Bool :=
 (g_law18_sample).bind fun x1 =>
 (g_path_Weight x1 [0,1] [0,1]).bind fun x3 =>
 (g_path_Best x1 [0,1]).bind fun x5 =>
 (g_path_Most x1 [0,1] 5).bind fun x7 =>
 (g_path_States x1 [0,1]).bind fun x9 =>
 (g_path_Count x1 [0,1]).bind fun x11 =>
 if (x3.2==0)=true then
  if (x5.2.2==0)=true then
   if (x7.2.2==0)=true then
    if (x9.2==0)=true then
     if (x11.2==0)=true then
      if (x3.1==24)=true then
       if (x5.2.1==36)=true then
        (g_slices_Equal_int_int x5.1 [1,1]).bind fun x27 =>
        if x27=true then
         (g_ref17_SameTable x7.1 [[1,1],[0,1]]).bind fun x31 =>
         if x31=true then
          (g_slices_Equal_int_int x7.2.1 [36,24]).bind fun x35 =>
          if x35=true then
           (g_slices_Equal_int_int x9.1 [1,1]).bind fun x39 =>
           if x39=true then
            some (x11.1==2)
           else
           some false
          else
          some false
         else
         some false
        else
        some false
       else
       some false
      else
      some false
     else
     some false
    else
    some false
   else
   some false
  else
  some false
 else
 some false
def g_ref17_Split_b0 (p0:Int) (p2:(List Int)) (s1:(Int × Int × (List Int))):Option (Step (Int × Int × (List Int)) (List Int)) :=
 if (decide (s1.2.1 < p0))=true then
  if (decide (s1.2.1 < (IntKind.i64.wrap (p0 - 1))))=true then
   if (decide (s1.2.1 < (p2.length:Int)))=true then
    (lkI p2 s1.2.1).bind fun a8 =>
    if (IntKind.i64.wrap (s1.1+1))≠0 then
     if (s1.2.2++([Int.tmod (IntKind.i64.wrap (a8)) (IntKind.i64.wrap (s1.1+1))]:(List Int))).length*8≤140737488355328 then
      some (.next (IntKind.i64.wrap (s1.1 - (Int.tmod (IntKind.i64.wrap (a8)) (IntKind.i64.wrap (s1.1+1)))),IntKind.i64.wrap (s1.2.1+1),(s1.2.2++([Int.tmod (IntKind.i64.wrap (a8)) (IntKind.i64.wrap (s1.1+1))]:(List Int)))))
     else none
    else none
   else
   if (s1.2.2++([0]:(List Int))).length*8≤140737488355328 then
    some (.next (IntKind.i64.wrap (s1.1 - 0),IntKind.i64.wrap (s1.2.1+1),(s1.2.2++([0]:(List Int)))))
   else none
  else
  if (s1.2.2++([s1.1]:(List Int))).length*8≤140737488355328 then
   some (.next (IntKind.i64.wrap (s1.1 - s1.1),IntKind.i64.wrap (s1.2.1+1),(s1.2.2++([s1.1]:(List Int)))))
  else none
 else
 some (.done s1.2.2)
def g_ref17_Split (p0:Int) (p1:Int) (p2:(List Int)):Option (List Int) :=
 (whileN fuel (g_ref17_Split_b0 p0 p2) (p1,0,([]:(List Int)))).bind fun x11 =>
 some x11
def g_ref17_Draft_from_b0 (p0:Tharuspexref17_Draft) (p1:Int) (s3:(Int × (List Int))):Option (Step (Int × (List Int)) (List Int)) :=
 if (decide (s3.1 < 4))=true then
  if (p0.L.length:Int)≠0 then
   (lkI p0.L (Int.tmod (IntKind.i64.wrap (p1+s3.1)) (p0.L.length:Int))).bind fun a6 =>
   if (s3.2++([a6]:(List Int))).length*1≤140737488355328 then
    some (.next (IntKind.i64.wrap (s3.1+1),(s3.2++([a6]:(List Int)))))
   else none
  else none
 else
 some (.done s3.2)
def g_ref17_Draft_from (p0:Tharuspexref17_Draft) (p1:Int):Option (List Int) :=
 if ((p0.L.length:Int)==0)=true then
  some ([]:(List Int))
 else
 (whileN fuel (g_ref17_Draft_from_b0 p0 p1) (0,([]:(List Int)))).bind fun x9 =>
 some x9
def g_ref17_Draft_Hidden_b0 (p0:Tharuspexref17_Draft) (s5:(Int × (List (List Int)) × (List (List Int)))):Option (Step (Int × (List (List Int)) × (List (List Int))) ((List (List Int)) × (List (List Int)))) :=
 if (decide (s5.1 < (IntKind.i64.wrap (1+(IntKind.i64.wrap (Int.tmod p0.States 4))))))=true then
  (g_ref17_Draft_from p0 (IntKind.i64.wrap (4+(IntKind.i64.wrap (8*s5.1))))).bind fun x8 =>
  (g_ref17_Split (IntKind.i64.wrap (1+(IntKind.i64.wrap (Int.tmod p0.States 4)))) (IntKind.i64.wrap (1+(IntKind.i64.wrap (Int.tmod p0.Grain 12)))) x8).bind fun x10 =>
  if (s5.2.1++([x10]:(List (List Int)))).length*24≤140737488355328 then
   (g_ref17_Draft_from p0 (IntKind.i64.wrap (8+(IntKind.i64.wrap (8*s5.1))))).bind fun x12 =>
   (g_ref17_Split (IntKind.i64.wrap (1+(IntKind.i64.wrap (Int.tmod p0.Shows 4)))) (IntKind.i64.wrap (1+(IntKind.i64.wrap (Int.tmod p0.Grain 12)))) x12).bind fun x14 =>
   if (s5.2.2++([x14]:(List (List Int)))).length*24≤140737488355328 then
    some (.next (IntKind.i64.wrap (s5.1+1),(s5.2.1++([x10]:(List (List Int)))),(s5.2.2++([x14]:(List (List Int))))))
   else none
  else none
 else
 some (.done (s5.2.1,s5.2.2))
def g_ref17_Draft_Hidden (p0:Tharuspexref17_Draft):Option Tapi_Hidden :=
 (g_ref17_Draft_from p0 0).bind fun x1 =>
 (g_ref17_Split (IntKind.i64.wrap (1+(IntKind.i64.wrap (Int.tmod p0.States 4)))) (IntKind.i64.wrap (1+(IntKind.i64.wrap (Int.tmod p0.Grain 12)))) x1).bind fun x3 =>
 (whileN fuel (g_ref17_Draft_Hidden_b0 p0) (0,([]:(List (List Int))),([]:(List (List Int))))).bind fun x17 =>
 some (Tapi_Hidden.mk (IntKind.i64.wrap (1+(IntKind.i64.wrap (Int.tmod p0.Grain 12)))) x3 x17.1 x17.2)
def g_ref17_Draft_What_b0 (p0:Tharuspexref17_Draft) (s1:(Int × (List Int))):Option (Step (Int × (List Int)) (List Int)) :=
 if (decide (s1.1 < (p0.Seen.length:Int)))=true then
  if (decide (s1.1 < 8))=true then
   (lkI p0.Seen s1.1).bind fun a6 =>
   if (IntKind.i64.wrap (2+(IntKind.i64.wrap (Int.tmod p0.Shows 4))))≠0 then
    if (s1.2++([IntKind.i64.wrap ((Int.tmod (IntKind.i64.wrap (a6)) (IntKind.i64.wrap (2+(IntKind.i64.wrap (Int.tmod p0.Shows 4))))) - 1)]:(List Int))).length*8≤140737488355328 then
     some (.next (IntKind.i64.wrap (s1.1+1),(s1.2++([IntKind.i64.wrap ((Int.tmod (IntKind.i64.wrap (a6)) (IntKind.i64.wrap (2+(IntKind.i64.wrap (Int.tmod p0.Shows 4))))) - 1)]:(List Int)))))
    else none
   else none
  else
  some (.done s1.2)
 else
 some (.done s1.2)
def g_ref17_Draft_What (p0:Tharuspexref17_Draft):Option (List Int) :=
 (whileN fuel (g_ref17_Draft_What_b0 p0) (0,([]:(List Int)))).bind fun x9 =>
 if ((x9.length:Int)==0)=true then
  some ([-1]:(List Int))
 else
 some x9
def g_law18_places_b0 (p0:Int) (p1:(List Int)) (p2:Int) (s1:(Int × (List Int))):Option (Step (Int × (List Int)) (List Int)) :=
 if (decide (s1.1 < p0))=true then
  if (decide ((p1.length:Int) > 0))=true then
   if (p1.length:Int)≠0 then
    (lkI p1 (Int.tmod s1.1 (p1.length:Int))).bind fun a6 =>
    if p2≠0 then
     if (s1.2++([Int.tmod (IntKind.i64.wrap (a6)) p2]:(List Int))).length*8≤140737488355328 then
      some (.next (IntKind.i64.wrap (s1.1+1),(s1.2++([Int.tmod (IntKind.i64.wrap (a6)) p2]:(List Int)))))
     else none
    else none
   else none
  else
  if (s1.2++([0]:(List Int))).length*8≤140737488355328 then
   some (.next (IntKind.i64.wrap (s1.1+1),(s1.2++([0]:(List Int)))))
  else none
 else
 some (.done s1.2)
def g_law18_places (p0:Int) (p1:(List Int)) (p2:Int):Option (List Int) :=
 (whileN fuel (g_law18_places_b0 p0 p1 p2) (0,([]:(List Int)))).bind fun x9 =>
 some x9
def g_ref17_Seen_b0 (p1:(List Int)) (p0:Tapi_Hidden) (s1:Int):Option (Step Int (Unit ⊕ Unit)) :=
 if (decide (s1 < (p1.length:Int)))=true then
  (lkI p1 s1).bind fun a4 =>
  if (decide (a4 < (-1)))=true then
   some (.done (Sum.inl ()))
  else
  (lkI p0.Show 0).bind fun a8 =>
  if (decide (a4≥(a8.length:Int)))=true then
   some (.done (Sum.inl ()))
  else
  some (.next (IntKind.i64.wrap (s1+1)))
 else
 some (.done (Sum.inr ()))
def g_ref17_Seen (p0:Tapi_Hidden) (p1:(List Int)):Option Bool :=
 (whileN fuel (g_ref17_Seen_b0 p1 p0) 0).bind fun x12=>match x12 with
 | .inl x13=>(
  some false)
 | .inr x14=>(
  if (decide ((p1.length:Int)≥1))=true then
   some (decide ((p1.length:Int)≤8))
  else
  some false)
def g_law18_PathGreatest (p0:Tharuspexref17_Draft) (p1:(List Int)):Option Bool :=
 (g_law18_wakes).bind fun x1 =>
 if (!x1)=true then
  some false
 else
 (g_ref17_Draft_Hidden p0).bind fun x5 =>
 (g_ref17_Draft_What p0).bind fun x7 =>
 (g_path_Best x5 x7).bind fun x9 =>
 (g_law18_places (x7.length:Int) p1 (x5.First.length:Int)).bind fun x11 =>
 (g_path_Weight x5 x7 x11).bind fun x13 =>
 if (x13.2 != 0)=true then
  some false
 else
 if (decide (x13.1 < 0))=true then
  some false
 else
 if (x9.2.2 != 0)=true then
  if (x9.2.2==7)=true then
   if (x13.1==0)=true then
    if (x9.2.1==0)=true then
     some ((x9.1.length:Int)==0)
    else
    some false
   else
   some false
  else
  some false
 else
 (g_path_Weight x5 x7 x9.1).bind fun x27 =>
 if (x27.2==0)=true then
  if (x27.1==x9.2.1)=true then
   if (decide (x9.2.1 > 0))=true then
    if (decide (x13.1≤x9.2.1))=true then
     if (decide (x13.1 < x9.2.1))=true then
      some true
     else
     (g_slices_Compare_int_int x9.1 x11).bind fun x39 =>
     some (decide (x39≤0))
    else
    some false
   else
   some false
  else
  some false
 else
 some false
end Go.Ab
namespace Go.Proofs
open Go.Shelf
def sort18_ren:Go.Shelf.Ren:=⟨fun | 6=>45 | 15=>78 | 14=>77 | 28=>102 | 29=>103 | 20=>94 | 21=>95 | 22=>96 | 23=>97 | 24=>98 | 25=>99 | 26=>100 | 27=>101 | 46=>111 | 47=>112 | 48=>113 | 49=>114 | 50=>115 | 57=>119 | n=>n,fun | 22=>91 | 24=>85 | 25=>88 | 3=>3 | 39=>42 | 0=>0 | 53=>151 | 55=>153 | 4=>4 | 46=>144 | 45=>143 | 50=>148 | 5=>5 | 9=>9 | 66=>164 | 70=>168 | 76=>170 | 77=>171 | n=>n,fun | n=>n⟩
theorem sort18:Go.Proofs.SlLaysF0.n6 Try.prog sort18_ren:={
 mixed:=by kernel_rfl,
 f6:=⟨Try.f45.name,by decide,Try.func45.trans (congrArg some (by kernel_rfl))⟩,
 f14:=⟨Try.f77.name,by decide,Try.func77.trans (congrArg some (by kernel_rfl))⟩,
 f15:=Try.func78.trans (congrArg some (by kernel_rfl)),
 f20:=⟨Try.f94.name,by decide,Try.func94.trans (congrArg some (by kernel_rfl))⟩,
 f21:=⟨Try.f95.name,by decide,Try.func95.trans (congrArg some (by kernel_rfl))⟩,
 f22:=⟨Try.f96.name,by decide,Try.func96.trans (congrArg some (by kernel_rfl))⟩,
 f23:=⟨Try.f97.name,by decide,Try.func97.trans (congrArg some (by kernel_rfl))⟩,
 f24:=⟨Try.f98.name,by decide,Try.func98.trans (congrArg some (by kernel_rfl))⟩,
 f25:=⟨Try.f99.name,by decide,Try.func99.trans (congrArg some (by kernel_rfl))⟩,
 f26:=⟨Try.f100.name,by decide,Try.func100.trans (congrArg some (by kernel_rfl))⟩,
 f27:=⟨Try.f101.name,by decide,Try.func101.trans (congrArg some (by kernel_rfl))⟩,
 f28:=Try.func102.trans (congrArg some (by kernel_rfl)),
 f29:=Try.func103.trans (congrArg some (by kernel_rfl)),
 f46:=⟨Try.f111.name,by decide,Try.func111.trans (congrArg some (by kernel_rfl))⟩,
 f47:=Try.func112.trans (congrArg some (by kernel_rfl)),
 f48:=Try.func113.trans (congrArg some (by kernel_rfl)),
 f49:=⟨Try.f114.name,by decide,Try.func114.trans (congrArg some (by kernel_rfl))⟩,
 f50:=⟨Try.f115.name,by decide,Try.func115.trans (congrArg some (by kernel_rfl))⟩,
 f57:=⟨Try.f119.name,by decide,Try.func119.trans (congrArg some (by kernel_rfl))⟩,
 t0:=Try.underlying0,
 a0:=Try.isAgg0,
 z0:=Try.sizeOf0,
 v0:=Try.zeroValue0,
 t3:=Try.underlying3,
 a3:=Try.isAgg3,
 z3:=Try.sizeOf3,
 v3:=Try.zeroValue3,
 t4:=Try.underlying4,
 a4:=Try.isAgg4,
 z4:=Try.sizeOf4,
 v4:=Try.zeroValue4,
 t5:=Try.underlying5,
 a5:=Try.isAgg5,
 z5:=Try.sizeOf5,
 v5:=Try.zeroValue5,
 t9:=Try.underlying9,
 a9:=Try.isAgg9,
 z9:=Try.sizeOf9,
 v9:=Try.zeroValue9,
 t22:=Try.underlying91,
 a22:=Try.isAgg91,
 z22:=Try.sizeOf91,
 v22:=Try.zeroValue91,
 t25:=Try.underlying88,
 a25:=Try.isAgg88,
 z25:=Try.sizeOf88,
 v25:=Try.zeroValue88,
 t39:=Try.underlying42,
 a39:=Try.isAgg42,
 z39:=Try.sizeOf42,
 v39:=Try.zeroValue42,
 t45:=Try.underlying143,
 a45:=Try.isAgg143,
 z45:=Try.sizeOf143,
 v45:=Try.zeroValue143,
 t46:=Try.underlying144,
 a46:=Try.isAgg144,
 z46:=Try.sizeOf144,
 v46:=Try.zeroValue144,
 t50:=Try.underlying148,
 a50:=Try.isAgg148,
 z50:=Try.sizeOf148,
 v50:=Try.zeroValue148,
 t53:=Try.underlying151,
 a53:=Try.isAgg151,
 z53:=Try.sizeOf151,
 v53:=Try.zeroValue151,
 t55:=Try.underlying153,
 a55:=Try.isAgg153,
 z55:=Try.sizeOf153,
 v55:=Try.zeroValue153,
 t66:=Try.underlying164,
 a66:=Try.isAgg164,
 z66:=Try.sizeOf164,
 v66:=Try.zeroValue164,
 t70:=Try.underlying168,
 a70:=Try.isAgg168,
 z70:=Try.sizeOf168,
 v70:=Try.zeroValue168,
 t76:=Try.underlying170,
 a76:=Try.isAgg170,
 z76:=Try.sizeOf170,
 v76:=Try.zeroValue170,
 t77:=Try.underlying171,
 a77:=Try.isAgg171,
 z77:=Try.sizeOf171,
 v77:=Try.zeroValue171 }
end Go.Proofs
namespace Go.Ab
open Go
theorem s64 {n:Int} (h:-9223372036854775808≤n∧n≤9223372036854775807):IntKind.i64.wrap n=n:=by rw [IntKind.wrap_i64]; omega
def lexC:List Int→List Int→Int
 | [],[]=>0
 | [],_::_=>-1
 | _::_,[]=>1
 | x::l,y::m=>if x < y then -1 else if x > y then 1 else lexC l m
theorem lexLe_iff:∀(l m:List Int),lexLe l m=true↔lexC l m≤0
 | [],[]=>by simp [lexLe,lexC]
 | [],_::_=>by simp [lexLe,lexC]
 | _::_,[]=>by simp [lexLe,lexC]
 | x::l,y::m=>by
  have:=lexLe_iff l m
  simp only [lexLe,lexC,Bool.or_eq_true,Bool.and_eq_true,decide_eq_true_eq,beq_iff_eq,this]
  by_cases h1:x < y
  ·simp [h1]
  ·by_cases h2:x > y
   ·simp [h1,h2]; omega
   ·have:x=y:=by omega
    simp [h1,h2,this]
theorem lexC_rev:∀(l m:List Int),lexC m l=- lexC l m
 | [],[]=>rfl
 | [],_::_=>rfl
 | _::_,[]=>rfl
 | x::l,y::m=>by
  have:=lexC_rev l m
  simp only [lexC]
  by_cases h1:x < y
  ·rw [if_neg (by omega),if_pos (by omega),if_pos h1]; rfl
  ·by_cases h2:x > y
   ·rw [if_pos (by omega),if_neg h1,if_pos h2]
   ·rw [if_neg (by omega),if_neg (by omega),if_neg h1,if_neg h2,this]
theorem lexC_zero:∀(l m:List Int),lexC l m=0→l=m
 | [],[],_=>rfl
 | [],_::_,h=>by simp [lexC] at h
 | _::_,[],h=>by simp [lexC] at h
 | x::l,y::m,h=>by
  simp only [lexC] at h
  by_cases h1:x < y
  ·rw [if_pos h1] at h; simp at h
  ·by_cases h2:x > y
   ·rw [if_neg h1,if_pos h2] at h; simp at h
   ·rw [if_neg h1,if_neg h2] at h
    rw [lexC_zero l m h,show x=y by omega]
theorem lexLe_trans:∀(a b c:List Int),lexLe a b=true→lexLe b c=true→lexLe a c=true
 | [],_,_,_,_=>by simp [lexLe]
 | _::_,[],_,h,_=>by simp [lexLe] at h
 | _::_,_::_,[],_,h=>by simp [lexLe] at h
 | x::a,y::b,z::c,h1,h2=>by
  simp only [lexLe,Bool.or_eq_true,Bool.and_eq_true,decide_eq_true_eq,beq_iff_eq] at *
  rcases h1 with h1 | ⟨h1,h3⟩
  ·rcases h2 with h2 | ⟨h2,h4⟩
   ·left; omega
   ·left; omega
  ·rcases h2 with h2 | ⟨h2,h4⟩
   ·left; omega
   ·right; exact ⟨by omega,lexLe_trans a b c h3 h4⟩
theorem compareI_eq (x y:Int):g_cmp_Compare_int x y=some (if x < y then -1 else if x > y then 1 else 0):=by
 unfold g_cmp_Compare_int g_cmp_isNaN_int
 simp only [Option.bind_some,bne_self_eq_false,Bool.false_eq_true,if_false,decide_eq_true_eq]
 by_cases h1:x < y
 ·simp [h1]
 ·by_cases h2:x > y
  ·simp [h1,h2]
  ·simp [h1,h2]
theorem cmpl_step {body:Int→Option (Step Int (Int ⊕ Unit))} {l m:List Int} (hb:body=g_slices_Compare_int_int_b0 l m) (hl:l.length≤140737488355328) :
  ∀(n i:Nat),l.length - i < n→i≤l.length→i≤m.length→n≤1152921504606846976→∃r,whileN n body (i:Int)=some r∧(match r with | .inl v=>v=lexC (l.drop i) (m.drop i) | .inr _=>lexC (l.drop i) (m.drop i)=if l.length < m.length then -1 else 0):=by
 subst hb
 intro n
 induction n with
 | zero=>intro i h; omega
 | succ n ih =>
  intro i h1 h2 h3 h4
  by_cases hi:i < l.length
  ·have hd:l.drop i=l[i]::l.drop (i+1):=List.drop_eq_getElem_cons hi
   have e0:lkI l (i:Int)=some l[i]:=by unfold lkI; rw [if_neg (by omega),Int.toNat_natCast,List.getElem?_eq_getElem hi]
   by_cases hm:i < m.length
   ·have hd2:m.drop i=m[i]::m.drop (i+1):=List.drop_eq_getElem_cons hm
    have e1:lkI m (i:Int)=some m[i]:=by unfold lkI; rw [if_neg (by omega),Int.toNat_natCast,List.getElem?_eq_getElem hm]
    by_cases heq:l[i]=m[i]
    ·obtain ⟨r,hr1,hr2⟩:=ih (i+1) (by omega) (by omega) (by omega) (by omega)
     have hstep:g_slices_Compare_int_int_b0 l m (i:Int)=some (.next ((i+1:Nat):Int)):=by
      unfold g_slices_Compare_int_int_b0
      rw [if_pos (by rw [decide_eq_true_eq]; omega),e0]
      simp only [Option.bind_some]
      rw [if_neg (by rw [decide_eq_true_eq]; omega),e1]
      simp only [Option.bind_some]
      rw [compareI_eq]
      simp only [Option.bind_some]
      rw [if_neg (by omega:¬ l[i] < m[i]),if_neg (by omega:¬ l[i] > m[i]),if_neg (by simp),s64 (by omega)]
      rfl
     have e:lexC (l.drop i) (m.drop i)=lexC (l.drop (i+1)) (m.drop (i+1)):=by
      rw [hd,hd2]; simp only [lexC]
      rw [if_neg (by omega),if_neg (by omega)]
     refine ⟨r,by simp only [whileN,hstep]; exact hr1,?_⟩
     rw [e]; exact hr2
    ·have hstep:g_slices_Compare_int_int_b0 l m (i:Int)=some (.done (.inl (lexC (l.drop i) (m.drop i)))):=by
      unfold g_slices_Compare_int_int_b0
      rw [if_pos (by rw [decide_eq_true_eq]; omega),e0]
      simp only [Option.bind_some]
      rw [if_neg (by rw [decide_eq_true_eq]; omega),e1]
      simp only [Option.bind_some]
      rw [compareI_eq,hd,hd2]
      simp only [Option.bind_some,lexC]
      by_cases h5:l[i] < m[i]
      ·rw [if_pos h5,if_pos h5]; rfl
      ·rw [if_neg h5,if_pos (by omega:l[i] > m[i]),if_neg h5,if_pos (by omega:l[i] > m[i])]; rfl
     exact ⟨.inl (lexC (l.drop i) (m.drop i)),by simp only [whileN,hstep],rfl⟩
   ·have hstep:g_slices_Compare_int_int_b0 l m (i:Int)=some (.done (.inl 1)):=by
     unfold g_slices_Compare_int_int_b0
     rw [if_pos (by rw [decide_eq_true_eq]; omega),e0]
     simp only [Option.bind_some]
     rw [if_pos (by rw [decide_eq_true_eq]; omega)]
    refine ⟨.inl 1,by simp only [whileN,hstep],?_⟩
    rw [hd,List.drop_eq_nil_of_le (show m.length≤i by omega)]; rfl
  ·have hstep:g_slices_Compare_int_int_b0 l m (i:Int)=some (.done (.inr ())):=by
    unfold g_slices_Compare_int_int_b0
    rw [if_neg (by rw [decide_eq_true_eq]; omega)]
   refine ⟨.inr (),by simp only [whileN,hstep],?_⟩
   simp only
   rw [List.drop_eq_nil_of_le (show l.length≤i by omega)]
   by_cases h5:l.length < m.length
   ·rw [if_pos h5,List.drop_eq_getElem_cons (show i < m.length by omega)]; rfl
   ·rw [if_neg h5,List.drop_eq_nil_of_le (show m.length≤i by omega)]; rfl
theorem compareL_eq (l m:List Int) (hl:l.length≤140737488355328):g_slices_Compare_int_int l m=some (lexC l m):=by
 unfold g_slices_Compare_int_int
 obtain ⟨r,h1,h2⟩:=cmpl_step (l:=l) (m:=m) rfl hl fuel 0 (by show _ < 1152921504606846976; omega) (by omega) (by omega) (Nat.le_refl _)
 rw [show ((0:Nat):Int)=0 from rfl] at h1
 rw [h1]
 simp only [Option.bind_some,List.drop_zero] at *
 cases r with
 | inl v=>simp only at h2 ⊢; rw [h2]
 | inr u =>
  simp only at h2 ⊢
  rw [h2]
  by_cases h5:l.length < m.length
  ·rw [if_pos (by rw [decide_eq_true_eq]; omega),if_pos h5]
  ·rw [if_neg (by rw [decide_eq_true_eq]; omega),if_neg h5]
theorem or2_eq (a b:Int):g_cmp_Or_int [a,b]=some (if a≠0 then a else b):=by
 unfold g_cmp_Or_int
 have e0:lkI [a,b] (0:Int)=some a:=rfl
 have e1:lkI [a,b] (1:Int)=some b:=rfl
 by_cases ha:a=0
 ·subst ha
  by_cases hb:b=0
  ·subst hb; rfl
  ·have s0:g_cmp_Or_int_b0 [0,b] 0=some (.next 1):=by unfold g_cmp_Or_int_b0; simp [e0,s64]
   have s1:g_cmp_Or_int_b0 [0,b] 1=some (.done (.inl b)):=by unfold g_cmp_Or_int_b0; simp [e1,hb]
   have:whileN fuel (g_cmp_Or_int_b0 [0,b]) 0=some (.inl b):=by
    show whileN (1152921504606846974+1+1) _ _=_
    simp only [whileN,s0,s1]
   rw [this]; rfl
 ·have s0:g_cmp_Or_int_b0 [a,b] 0=some (.done (.inl a)):=by unfold g_cmp_Or_int_b0; simp [e0,ha]
  have:whileN fuel (g_cmp_Or_int_b0 [a,b]) 0=some (.inl a):=by
   show whileN (1152921504606846975+1) _ _=_
   simp only [whileN,s0]
  rw [this]; simp [ha]
theorem order18:CmpOk goodW g_path_Most_1 leW:=by
 refine ⟨fun x y hx hy=>?_,fun x y z h1 h2=>?_,fun x y=>?_,fun x y h1 h2=>?_⟩
 ·unfold goodW at hx hy
  rw [decide_eq_true_eq] at hx hy
  unfold g_path_Most_1
  rw [compareI_eq]; simp only [Option.bind_some]
  rw [compareL_eq _ _ hx]; simp only [Option.bind_some]
  rw [or2_eq]; simp only [Option.bind_some]
  refine ⟨_,rfl,?_⟩
  have hr:=lexC_rev x.path y.path
  have hle:=lexLe_iff y.path x.path
  have hf:leW y x=false↔¬(x.weight < y.weight)∧¬(y.weight=x.weight∧lexC y.path x.path≤0):=by
   unfold leW
   cases hl:lexLe y.path x.path <;> by_cases a:x.weight < y.weight <;> by_cases b:y.weight=x.weight <;> simp_all
  rw [hf]
  by_cases c1:y.weight < x.weight
  ·rw [if_pos c1]; simp; omega
  ·rw [if_neg c1]
   by_cases c2:y.weight > x.weight
   ·rw [if_pos c2]; simp; omega
   ·rw [if_neg c2,if_neg (by simp)]; omega
 ·unfold leW at *
  simp only [Bool.or_eq_true,Bool.and_eq_true,decide_eq_true_eq,beq_iff_eq] at *
  rcases h1 with h1 | ⟨h1,h3⟩
  ·rcases h2 with h2 | ⟨h2,h4⟩
   ·left; omega
   ·left; omega
  ·rcases h2 with h2 | ⟨h2,h4⟩
   ·left; omega
   ·right; exact ⟨by omega,lexLe_trans _ _ _ h3 h4⟩
 ·have h1:=lexLe_iff x.path y.path
  have h2:=lexLe_iff y.path x.path
  have h3:=lexC_rev x.path y.path
  unfold leW
  simp only [Bool.or_eq_true,Bool.and_eq_true,decide_eq_true_eq,beq_iff_eq,h1,h2]
  omega
 ·have g1:=lexLe_iff x.path y.path
  have g2:=lexLe_iff y.path x.path
  have g3:=lexC_rev x.path y.path
  unfold leW at *
  simp only [Bool.or_eq_true,Bool.and_eq_true,decide_eq_true_eq,beq_iff_eq,g1,g2] at h1 h2
  have e1:x.weight=y.weight:=by omega
  have e2:=lexC_zero x.path y.path (by omega)
  cases x; cases y; simp_all
end Go.Ab
namespace Go.Ab
open Go Go.Proofs
set_option maxRecDepth 100000
set_option maxHeartbeats 4000000
theorem hfol:(Try.prog.follows .mixedOrders)=true:=by kernel_rfl
theorem bodyB_11:bodyB Try.prog 11=true:=by kernel_rfl
theorem bodyB_13:bodyB Try.prog 13=true:=by kernel_rfl
theorem bodyB_14:bodyB Try.prog 14=true:=by kernel_rfl
theorem bodyB_15:bodyB Try.prog 15=true:=by kernel_rfl
theorem bodyB_17:bodyB Try.prog 17=true:=by kernel_rfl
theorem bodyB_19:bodyB Try.prog 19=true:=by kernel_rfl
theorem bodyB_20:bodyB Try.prog 20=true:=by kernel_rfl
theorem bodyB_21:bodyB Try.prog 21=true:=by kernel_rfl
theorem bodyB_23:bodyB Try.prog 23=true:=by kernel_rfl
theorem bodyB_25:bodyB Try.prog 25=true:=by kernel_rfl
theorem bodyB_26:bodyB Try.prog 26=true:=by kernel_rfl
theorem bodyB_27:bodyB Try.prog 27=true:=by kernel_rfl
theorem bodyB_28:bodyB Try.prog 28=true:=by kernel_rfl
theorem bodyB_33:bodyB Try.prog 33=true:=by kernel_rfl
theorem bodyB_35:bodyB Try.prog 35=true:=by kernel_rfl
theorem bodyB_36:bodyB Try.prog 36=true:=by kernel_rfl
theorem bodyB_40:bodyB Try.prog 40=true:=by kernel_rfl
theorem bodyB_41:bodyB Try.prog 41=true:=by kernel_rfl
theorem bodyB_43:bodyB Try.prog 43=true:=by kernel_rfl
theorem bodyB_44:bodyB Try.prog 44=true:=by kernel_rfl
theorem bodyB_46:bodyB Try.prog 46=true:=by kernel_rfl
theorem bodyB_47:bodyB Try.prog 47=true:=by kernel_rfl
theorem bodyB_50:bodyB Try.prog 50=true:=by kernel_rfl
theorem bodyB_51:bodyB Try.prog 51=true:=by kernel_rfl
theorem bodyB_52:bodyB Try.prog 52=true:=by kernel_rfl
theorem bodyB_53:bodyB Try.prog 53=true:=by kernel_rfl
theorem bodyB_55:bodyB Try.prog 55=true:=by kernel_rfl
theorem bodyB_56:bodyB Try.prog 56=true:=by kernel_rfl
theorem bodyB_60:bodyB Try.prog 60=true:=by kernel_rfl
theorem bodyB_61:bodyB Try.prog 61=true:=by kernel_rfl
theorem bodyB_62:bodyB Try.prog 62=true:=by kernel_rfl
theorem bodyB_63:bodyB Try.prog 63=true:=by kernel_rfl
theorem bodyB_66:bodyB Try.prog 66=true:=by kernel_rfl
theorem bodyB_68:bodyB Try.prog 68=true:=by kernel_rfl
theorem bodyB_70:bodyB Try.prog 70=true:=by kernel_rfl
theorem bodyB_74:bodyB Try.prog 74=true:=by kernel_rfl
theorem bodyB_75:bodyB Try.prog 75=true:=by kernel_rfl
theorem bodyB_81:bodyB Try.prog 81=true:=by kernel_rfl
theorem bodyB_86:bodyB Try.prog 86=true:=by kernel_rfl
theorem bodyB_89:bodyB Try.prog 89=true:=by kernel_rfl
theorem bodyB_93:bodyB Try.prog 93=true:=by kernel_rfl
theorem bodyB_105:bodyB Try.prog 105=true:=by kernel_rfl
theorem bodyB_106:bodyB Try.prog 106=true:=by kernel_rfl
theorem bodyB_110:bodyB Try.prog 110=true:=by kernel_rfl
theorem g_hidden_isRow_ok (p0:Int) (p1:(List Int)) (x:Bool) (h:g_hidden_isRow p0 p1=some x):CallOk Try.prog 105 [vI p0,z1 p1] (.ret (vB x) []):=by
 refine fn_ok [] Try.func105 rfl (by decide +kernel) rfl ?_
 unfold g_hidden_isRow at h
 refine wp_eqB (base':=0) (st':=⟨[(0,vI p0),(1,z1 p1)],[],26⟩) kr kr ?_
 refine sq (wp_seq (wp_seq (reg_in (sz 1 1 ?_))))
 refine lenL (enc:=eI) (l:=p1) (fl:=true) kr gE ?_
 refine sz 1 3 (reg_end rfl (wp_block ?_))
 refine wwh h (fun s1=>⟨[(0,vI s1.1),(7,z1 p1),(8,vI (zn p1)),(9,vI s1.2)],[],26⟩) (fun x out=>out=match x with | .inl v=>.go (.ret) ⟨[(4,vB false)],[],26⟩ | .inr v=>.go (.exit 0) ⟨[(0,vI v)],[],26⟩) (wk_gc (live:=[0,7,8,9]) (keep:=[]) kr) ?_ ?_
 ·intro s1 o h
  unfold g_hidden_isRow_b0 at h
  refine sq (wp_seq ?_)
  refine wb [10] h (fun q3 h=>?_) (fun q3 h=>?_)
  ·refine wcT (wp_skip (wp_seq (wp_block (wp_seq (reg_in ?_)))))
   refine bind_elim h (fun a4 q5 h=>?_)
   refine idxL' (enc:=eI) (l:=p1) (n:=s1.2) (fl:=true) (w:=1) (a:=a4) kr rfl gE q5 ?_
   refine sz 2 3 (reg_end rfl (wp_seq (wp_seq (reg_in (sz 3 3 ?_)))))
   refine rw_wk (wk_gc (live:=[0,7,8,9,6,15]) (keep:=[]) (st':=⟨[(0,vI s1.1),(7,z1 p1),(8,vI (zn p1)),(9,vI s1.2),(6,vI a4),(15,vB (decide (a4 < 0)))],[],26⟩) kr) ?_
   refine rb [15] h (fun q7 h=>?_) (fun q7 h=>?_)
   ·refine sz 4 7 (reg_end rfl (wcT (wp_seq (wg [] [] (rn (wg [4] [] ?_))))))
    refine wp_ret ?_
    cases h
    exact ⟨kr,rfl⟩
   refine sz 4 7 (reg_end rfl ?_)
   refine wbz h (fun q9 h=>?_) (fun q9 h=>?_)
   ·refine wp_seq (wg [] [] (rn (wg [4] [] ?_)))
    refine wp_ret ?_
    cases h
    exact ⟨kr,rfl⟩
   refine wp_skip (wg [0,7,8,9,6] [] (rn (rn ?_)))
   cases h
   exact ⟨_,rfl,(wk_gc (live:=[0,7,8,9]) (keep:=[]) kr)⟩
  refine wcF (wg [0] [] ?_)
  refine wp_exit ?_
  cases h
  exact ⟨kr,rfl⟩
 intro x10 h out hx
 subst hx
 rcases x10 with x11 | x12
 ·dsimp only at h ⊢
  cases h
  show fnOut _ _ _ _=_
  kernel_rfl
 ·dsimp only at h ⊢
  refine sq (wg [4] [] ?_)
  cases h
  exact wp_ret (show fnOut _ _ _ _=_ from by kernel_rfl)
theorem g_hidden_areRows_ok (p0:Int) (p1:Int) (p2:Int) (p3:(List (List Int))) (x:Bool) (h:g_hidden_areRows p0 p1 p2 p3=some x):CallOk Try.prog 106 [vI p0,vI p1,vI p2,z2 p3] (.ret (vB x) []):=by
 refine fn_ok [] Try.func106 rfl (by decide +kernel) rfl ?_
 unfold g_hidden_areRows at h
 refine wp_eqB (base':=0) (st':=⟨[(0,vI p0),(1,vI p1),(2,vI p2),(3,z2 p3)],[],32⟩) kr kr ?_
 refine sq (wp_seq (wp_seq (reg_in (sz 1 1 ?_))))
 refine lenL (enc:=z1) (l:=p3) (fl:=false) kr gE ?_
 refine sz 2 4 (reg_end rfl ?_)
 refine wbz h (fun q2 h=>?_) (fun q2 h=>?_)
 ·refine wp_seq (wg [] [] (rn ?_))
  refine wgc [8] [] ⟨[(8,vB false)],[],32⟩ ?_
  cases h
  exact wp_ret (show fnOut _ _ _ _=_ from by kernel_rfl)
 refine wp_skip (wp_seq (wp_seq (wg [0,2,3] [] (reg_in (sz 1 1 ?_)))))
 refine lenL (enc:=z1) (l:=p3) (fl:=false) kr gE ?_
 refine sz 1 3 (reg_end rfl (wp_block ?_))
 refine wwh h (fun s3=>⟨[(0,vI p0),(2,vI p2),(15,z2 p3),(16,vI (zn p3)),(17,vI s3)],[],32⟩) (fun x out=>out=match x with | .inl v=>.go (.ret) ⟨[(8,vB false)],[],32⟩ | .inr v=>.go (.exit 0) ⟨[],[],32⟩) (wk_gc (live:=[0,2,15,16,17]) (keep:=[]) kr) ?_ ?_
 ·intro s3 o h
  unfold g_hidden_areRows_b0 at h
  refine sq (wp_seq ?_)
  refine wb [18] h (fun q5 h=>?_) (fun q5 h=>?_)
  ·refine wcT (wp_skip (wp_seq (wp_block (wp_seq (reg_in ?_)))))
   refine bind_elim h (fun a6 q7 h=>?_)
   refine idxL' (enc:=z1) (l:=p3) (n:=s3) (fl:=false) (w:=1) (a:=a6) kr rfl gE q7 ?_
   refine sz 2 3 (reg_end rfl (wp_seq (reg_in (sz 1 1 ?_))))
   refine lenL (enc:=eI) (l:=a6) (fl:=true) kr gE ?_
   refine sz 3 5 ?_
   refine rw_wk (wk_gc (live:=[0,2,15,16,17,10,25]) (keep:=[]) (st':=⟨[(0,vI p0),(2,vI p2),(15,z2 p3),(16,vI (zn p3)),(17,vI s3),(10,z1 a6),(25,vB ((zn a6) != p2))],[],32⟩) kr) ?_
   refine rb [25] h (fun q9 h=>?_) (fun q9 h=>?_)
   ·refine sz 5 10 (reg_end rfl (wcT (wp_seq (wg [] [] (rn (wg [8] [] ?_))))))
    refine wp_ret ?_
    cases h
    exact ⟨kr,rfl⟩
   refine sz 2 7 ?_
   refine callW bodyB_105 (g_hidden_isRow_ok p0 a6) h (fun x10 _ h=>?_)
   refine sz 2 10 (reg_end rfl ?_)
   refine wbz h (fun q13 h=>?_) (fun q13 h=>?_)
   ·refine wp_seq (wg [] [] (rn (wg [8] [] ?_)))
    refine wp_ret ?_
    cases h
    exact ⟨kr,rfl⟩
   refine wp_skip (wg [0,2,15,16,17] [] (rn ?_))
   cases h
   exact ⟨_,rfl,(wk_gc (live:=[0,2,15,16,17]) (keep:=[]) kr)⟩
  refine wcF (wg [] [] ?_)
  refine wp_exit ?_
  cases h
  exact ⟨kr,rfl⟩
 intro x14 h out hx
 subst hx
 rcases x14 with x15 | x16
 ·dsimp only at h ⊢
  cases h
  show fnOut _ _ _ _=_
  kernel_rfl
 ·dsimp only at h ⊢
  refine sq (wg [8] [] ?_)
  cases h
  exact wp_ret (show fnOut _ _ _ _=_ from by kernel_rfl)
noncomputable abbrev s86_2 (p0:Tapi_Hidden):List AObj:=[oX true false 4 (.agg [vI p0.Grain,z1 p0.First,z2 p0.Step,z2 p0.Show])]
theorem g_hidden_Check_ok (p0:Tapi_Hidden) (x:Int) (h:g_hidden_Check p0=some x):CallOk Try.prog 86 [.agg [vI p0.Grain,z1 p0.First,z2 p0.Step,z2 p0.Show]] (.ret (vI x) []):=by
 refine fn_ok [] Try.func86 rfl (by decide +kernel) rfl ?_
 unfold g_hidden_Check at h
 refine wp_eqB (base':=0) (st':=⟨[(0,.agg [vI p0.Grain,z1 p0.First,z2 p0.Step,z2 p0.Show])],[],68⟩) kr kr ?_
 refine wp_seq (reg_in ?_)
 refine sgL false [] [] false gE ?_
 refine sz 1 2 (reg_end rfl (wp_seq (reg_in (sz 2 2 ?_))))
 refine lenL (enc:=eI) (l:=p0.First) (fl:=true) kr gE ?_
 refine sz 1 4 (reg_end rfl (wp_seq (wp_seq (wg [1,3] [0] (reg_in (sz 4 4 ?_))))))
 refine rb [10,11] h (fun q2 h=>?_) (fun q2 h=>?_)
 ·refine sgz 19 23 (S:=⟨[(1,.ptr 0 0 0),(3,vI (zn p0.First)),(8,.ptr 0 0 0),(9,vI p0.Grain),(10,vB true),(11,vB true),(12,.tup []),(13,.tup []),(14,.tup []),(15,vB true),(16,vB true),(17,.tup []),(18,.tup []),(19,vB true),(20,vB true),(21,.tup []),(22,.tup []),(23,vB true),(24,vB true),(25,.tup []),(26,.tup []),(27,.tup []),(28,.tup []),(29,.tup []),(30,vB true)],(s86_2 p0),68⟩) ?_
  refine reg_end rfl (wcT (wp_seq (wg [] [] (rn (wg [2] [] ?_)))))
  cases h
  exact wp_ret (show fnOut _ _ _ _=_ from by kernel_rfl)
 refine sz 5 9 ?_
 refine rw_wk (wk_gc (live:=[1,3,16]) (keep:=[0]) (st':=⟨[(1,.ptr 0 0 0),(3,vI (zn p0.First)),(16,vB (decide (p0.Grain > 12)))],(s86_2 p0),68⟩) kr) ?_
 refine rb [16] h (fun q4 h=>?_) (fun q4 h=>?_)
 ·refine sz 14 23 (reg_end rfl (wcT (wp_seq (wg [] [] (rn ?_)))))
  refine wgc [2] [] ⟨[(2,vI 170)],[],68⟩ ?_
  cases h
  exact wp_ret (show fnOut _ _ _ _=_ from by kernel_rfl)
 refine sz 4 13 (rwg [1,3,20] [0] ?_)
 refine rb [20] h (fun q6 h=>?_) (fun q6 h=>?_)
 ·refine sz 10 23 (reg_end rfl (wcT (wp_seq ?_)))
  refine wgc [] [] ⟨[],[],68⟩ ?_
  refine rn (wg [2] [] ?_)
  cases h
  exact wp_ret (show fnOut _ _ _ _=_ from by kernel_rfl)
 refine sz 4 17 (rwg [1,3,24] [0] ?_)
 refine rb [24] h (fun q8 h=>?_) (fun q8 h=>?_)
 ·refine sz 6 23 (reg_end rfl (wcT (wp_seq ?_)))
  refine wgc [] [] ⟨[],[],68⟩ ?_
  refine rn (wg [2] [] ?_)
  cases h
  exact wp_ret (show fnOut _ _ _ _=_ from by kernel_rfl)
 refine sz 2 19 ?_
 refine lenL (enc:=z1) (l:=p0.Show) (fl:=false) kr gE ?_
 refine sz 3 23 (reg_end rfl ?_)
 refine wbz h (fun q10 h=>?_) (fun q10 h=>?_)
 ·refine wp_seq ?_
  refine wgc [] [] ⟨[],[],68⟩ ?_
  refine rn (wg [2] [] ?_)
  cases h
  exact wp_ret (show fnOut _ _ _ _=_ from by kernel_rfl)
 refine wp_skip (wp_seq ?_)
 refine wgc [1,3] [0] ⟨[(1,.ptr 0 0 0),(3,vI (zn p0.First))],(s86_2 p0),68⟩ ?_
 refine reg_in (sz 2 2 ?_)
 refine bind_elim h (fun a11 q12 h=>?_)
 refine idxL' (enc:=z1) (l:=p0.Show) (n:=0) (fl:=false) (w:=1) (a:=a11) kr rfl gE q12 ?_
 refine sz 1 4 ?_
 refine lenL (enc:=eI) (l:=a11) (fl:=true) kr gE ?_
 refine sz 1 6 (reg_end rfl (wp_seq (wp_seq (wg [1,3,4] [0] (reg_in (sz 3 3 ?_))))))
 refine rb [37,38] h (fun q14 h=>?_) (fun q14 h=>?_)
 ·refine sz 11 14 (reg_end rfl (wcT (wp_seq ?_)))
  refine wgc [] [] ⟨[],[],68⟩ ?_
  refine rn (wg [2] [] ?_)
  cases h
  exact wp_ret (show fnOut _ _ _ _=_ from by kernel_rfl)
 refine sz 4 7 ?_
 refine rw_wk (wk_gc (live:=[1,3,4,42]) (keep:=[0]) (st':=⟨[(1,.ptr 0 0 0),(3,vI (zn p0.First)),(4,vI (zn a11)),(42,vB (decide ((zn a11) > 4)))],(s86_2 p0),68⟩) kr) ?_
 refine rb [42] h (fun q16 h=>?_) (fun q16 h=>?_)
 ·refine sz 7 14 (reg_end rfl (wcT (wp_seq (wg [] [] (rn (wg [2] [] ?_))))))
  cases h
  exact wp_ret (show fnOut _ _ _ _=_ from by kernel_rfl)
 refine sz 4 11 ?_
 refine callW bodyB_105 (g_hidden_isRow_ok p0.Grain p0.First) h (fun x17 _ h=>?_)
 refine sz 2 14 (reg_end rfl ?_)
 refine wbz h (fun q20 h=>?_) (fun q20 h=>?_)
 ·refine wp_seq (wg [] [] (rn (wg [2] [] ?_)))
  cases h
  exact wp_ret (show fnOut _ _ _ _=_ from by kernel_rfl)
 refine wp_skip (wp_seq (wp_seq (wg [1,3,4] [0] (reg_in (sz 6 6 ?_)))))
 refine callW bodyB_106 (g_hidden_areRows_ok p0.Grain (zn p0.First) (zn p0.First) p0.Step) h (fun x21 _ h=>?_)
 refine sz 2 9 ?_
 refine rw_wk (wk_gc (live:=[1,3,4,58]) (keep:=[0]) (st':=⟨[(1,.ptr 0 0 0),(3,vI (zn p0.First)),(4,vI (zn a11)),(58,vB (!x21))],(s86_2 p0),68⟩) kr) ?_
 refine rb [58] h (fun q24 h=>?_) (fun q24 h=>?_)
 ·refine sz 9 18 (reg_end rfl (wcT (wp_seq (wg [] [] (rn (wg [2] [] ?_))))))
  cases h
  exact wp_ret (show fnOut _ _ _ _=_ from by kernel_rfl)
 refine sz 6 15 ?_
 refine callW bodyB_106 (g_hidden_areRows_ok p0.Grain (zn p0.First) (zn a11) p0.Show) h (fun x25 _ h=>?_)
 refine sz 2 18 (reg_end rfl ?_)
 refine wbz h (fun q28 h=>?_) (fun q28 h=>?_)
 ·refine wp_seq (wg [] [] (rn (wg [2] [] ?_)))
  cases h
  exact wp_ret (show fnOut _ _ _ _=_ from by kernel_rfl)
 refine wp_skip (wp_seq (wg [] [] (rn ?_)))
 refine wgc [2] [] ⟨[(2,vI 0)],[],68⟩ ?_
 cases h
 exact wp_ret (show fnOut _ _ _ _=_ from by kernel_rfl)
noncomputable abbrev s62_2 (p0:Tapi_Hidden):List AObj:=[oX true false 4 (.agg [vI p0.Grain,z1 p0.First,z2 p0.Step,z2 p0.Show]),oX true false 5 (.agg [vI 0,.nils,.nils,.nils,.nils])]
theorem g_hidden_newWatcher_ok (p0:Tapi_Hidden) (p1:(List Int)) (x:(Thidden_watcher × Int)) (h:g_hidden_newWatcher p0 p1=some x):CallOk Try.prog 62 [.agg [vI p0.Grain,z1 p0.First,z2 p0.Step,z2 p0.Show],z1 p1] (.ret (.tup [.agg [vI x.1.Hidden.Grain,z1 x.1.Hidden.First,z2 x.1.Hidden.Step,z2 x.1.Hidden.Show,z1 x.1.seen],vI x.2]) []):=by
 refine fn_ok [[.keep,.lst true,.lst false,.lst false,.lst true],[.keep]] Try.func62 rfl (by decide +kernel) rfl ?_
 unfold g_hidden_newWatcher at h
 refine wp_eqB (base':=0) (st':=⟨[(0,.agg [vI p0.Grain,z1 p0.First,z2 p0.Step,z2 p0.Show]),(1,z1 p1)],[],46⟩) kr kr ?_
 refine wp_seq (reg_in ?_)
 refine sgL false [] [] false gE ?_
 refine sgL false [] [] false gE ?_
 refine sz 1 3 (reg_end rfl (wp_seq (wp_seq (reg_in (sz 1 1 ?_)))))
 refine callW bodyB_86 (g_hidden_Check_ok p0) h (fun x1 _ h=>?_)
 refine sz 1 3 (reg_end rfl (sq ?_))
 refine wbz h (fun q4 h=>?_) (fun q4 h=>?_)
 ·refine wp_seq ?_
  refine wgc [4,6] [1] ⟨[(4,.ptr 0 0 0),(6,vI x1)],[oX true false 5 (.agg [vI 0,.nils,.nils,.nils,.nils])],46⟩ ?_
  refine rn (wg [4,5] [0] ?_)
  cases h
  exact wp_ret (show fnOut _ _ _ _=_ from by kernel_rfl)
 refine wp_skip (wp_seq (wp_seq ?_))
 refine wgc [1,2,4] [0,1] ⟨[(1,z1 p1),(2,.ptr 0 0 0),(4,.ptr 1 0 0)],(s62_2 p0),46⟩ ?_
 refine reg_in (sz 1 1 ?_)
 refine lenL (enc:=eI) (l:=p1) (fl:=true) kr gE ?_
 refine sz 2 4 ?_
 refine rb [17,18] h (fun q6 h=>?_) (fun q6 h=>?_)
 ·refine sz 4 8 (reg_end rfl (wcT (wp_seq (wg [4] [1] (rn (wg [4,5] [0] ?_))))))
  cases h
  exact wp_ret (show fnOut _ _ _ _=_ from by kernel_rfl)
 refine sz 1 5 ?_
 refine lenL (enc:=eI) (l:=p1) (fl:=true) kr gE ?_
 refine sz 2 8 (reg_end rfl ?_)
 refine wbz h (fun q8 h=>?_) (fun q8 h=>?_)
 ·refine wp_seq (wg [4] [1] (rn (wg [4,5] [0] ?_)))
  cases h
  exact wp_ret (show fnOut _ _ _ _=_ from by kernel_rfl)
 refine wp_skip (wp_seq (wp_seq (wg [1,2,4] [0,1] (reg_in (sz 1 1 ?_)))))
 refine lenL (enc:=eI) (l:=p1) (fl:=true) kr gE ?_
 refine sz 1 3 (reg_end rfl (wp_block ?_))
 refine wwh h (fun s9=>⟨[(1,z1 p1),(2,.ptr 0 0 0),(4,.ptr 1 0 0),(24,z1 p1),(25,vI (zn p1)),(26,vI s9)],(s62_2 p0),46⟩) (fun x out=>out=match x with | .inl v=>.go (.ret) ⟨[(4,.ptr 0 0 0),(5,vI 2)],[oX true false 5 (.agg [vI 0,.nils,.nils,.nils,.nils])],46⟩ | .inr v=>.go (.exit 0) ⟨[(1,z1 p1),(2,.ptr 0 0 0),(4,.ptr 1 0 0)],(s62_2 p0),46⟩) (wk_gc (live:=[1,2,4,24,25,26]) (keep:=[0,1]) kr) ?_ ?_
 ·intro s9 o h
  unfold g_hidden_newWatcher_b0 at h
  refine sq (wp_seq ?_)
  refine wb [27] h (fun q11 h=>?_) (fun q11 h=>?_)
  ·refine wcT (wp_skip (wp_seq (wp_block (wp_seq (reg_in ?_)))))
   refine bind_elim h (fun a12 q13 h=>?_)
   refine idxL' (enc:=eI) (l:=p1) (n:=s9) (fl:=true) (w:=1) (a:=a12) kr rfl gE q13 ?_
   refine sz 2 3 (reg_end rfl (wp_seq (reg_in (sz 3 3 ?_))))
   refine rw_wk (wk_gc (live:=[1,2,4,24,25,26,8,32]) (keep:=[0,1]) (st':=⟨[(1,z1 p1),(2,.ptr 0 0 0),(4,.ptr 1 0 0),(24,z1 p1),(25,vI (zn p1)),(26,vI s9),(8,vI a12),(32,vB (decide (a12 < (-1))))],(s62_2 p0),46⟩) kr) ?_
   refine rb [32] h (fun q15 h=>?_) (fun q15 h=>?_)
   ·refine sz 8 11 (reg_end rfl (wcT (wp_seq (wg [4] [1] (rn (wg [4,5] [0] ?_))))))
    refine wp_ret ?_
    cases h
    exact ⟨kr,rfl⟩
   refine sz 3 6 ?_
   refine bind_elim h (fun a16 q17 h=>?_)
   refine idxL' (enc:=z1) (l:=p0.Show) (n:=0) (fl:=false) (w:=1) (a:=a16) kr rfl gE q17 ?_
   refine sz 1 8 ?_
   refine lenL (enc:=eI) (l:=a16) (fl:=true) kr gE ?_
   refine sz 2 11 (reg_end rfl ?_)
   refine wbz h (fun q19 h=>?_) (fun q19 h=>?_)
   ·refine wp_seq (wg [4] [1] (rn (wg [4,5] [0] ?_)))
    refine wp_ret ?_
    cases h
    exact ⟨kr,rfl⟩
   refine wp_skip (wg [1,2,4,24,25,26] [0,1] (rn ?_))
   cases h
   exact ⟨_,rfl,(wk_gc (live:=[1,2,4,24,25,26]) (keep:=[0,1]) kr)⟩
  refine wcF (wg [1,2,4] [0,1] ?_)
  refine wp_exit ?_
  cases h
  exact ⟨kr,rfl⟩
 intro x20 h out hx
 subst hx
 rcases x20 with x21 | x22
 ·dsimp only at h ⊢
  cases h
  show fnOut _ _ _ _=_
  kernel_rfl
 ·dsimp only at h ⊢
  refine sq (wg [4,5] [1] ?_)
  cases h
  exact wp_ret (show fnOut _ _ _ _=_ from by kernel_rfl)
theorem g_hidden_watcher_shown_ok (p0:Thidden_watcher) (p1:Int) (p2:Int) (x:Int) (h:g_hidden_watcher_shown p0 p1 p2=some x):CallOk Try.prog 89 [.agg [vI p0.Hidden.Grain,z1 p0.Hidden.First,z2 p0.Hidden.Step,z2 p0.Hidden.Show,z1 p0.seen],vI p1,vI p2] (.ret (vI x) []):=by
 refine fn_ok [] Try.func89 rfl (by decide +kernel) rfl ?_
 unfold g_hidden_watcher_shown at h
 refine wp_eqB (base':=0) (st':=⟨[(0,.agg [vI p0.Hidden.Grain,z1 p0.Hidden.First,z2 p0.Hidden.Step,z2 p0.Hidden.Show,z1 p0.seen]),(1,vI p1),(2,vI p2)],[],29⟩) kr kr ?_
 refine wp_seq (reg_in ?_)
 refine sgL false [] [] false gE ?_
 refine sz 1 2 (reg_end rfl (wp_seq (wp_seq (reg_in (sz 3 3 ?_)))))
 refine bind_elim h (fun a1 q2 h=>?_)
 refine idxL' (enc:=eI) (l:=p0.seen) (n:=p1) (fl:=true) (w:=1) (a:=a1) kr rfl gE q2 ?_
 refine sz 2 6 (reg_end rfl ?_)
 refine wbz h (fun q4 h=>?_) (fun q4 h=>?_)
 ·refine wp_seq (wg [3] [0] (rn ?_))
  refine wgc [6] [] ⟨[(6,vI p0.Hidden.Grain)],[],29⟩ ?_
  cases h
  exact wp_ret (show fnOut _ _ _ _=_ from by kernel_rfl)
 refine wp_skip (wp_seq ?_)
 refine wgc [1,2,3] [0] ⟨[(1,vI p1),(2,vI p2),(3,.ptr 0 0 0)],[oX true false 5 (.agg [vI p0.Hidden.Grain,z1 p0.Hidden.First,z2 p0.Hidden.Step,z2 p0.Hidden.Show,z1 p0.seen])],29⟩ ?_
 refine rga hfol (sy 4 4 ?_)
 refine bind_elim h (fun a5 q6 h=>?_)
 refine idxL' (enc:=z1) (l:=p0.Hidden.Show) (n:=p2) (fl:=false) (w:=1) (a:=a5) kr rfl gE q6 ?_
 refine sy 4 9 ?_
 refine idxL' (enc:=eI) (l:=p0.seen) (n:=p1) (fl:=true) (w:=1) (a:=a1) kr rfl gE q2 ?_
 refine sy 1 11 ?_
 refine bind_elim h (fun a7 q8 h=>?_)
 refine idxL' (enc:=eI) (l:=a5) (n:=a1) (fl:=true) (w:=1) (a:=a7) kr rfl gE q8 ?_
 refine sy 2 14 (rgd (wg [6] [] ?_))
 cases h
 exact wp_ret (show fnOut _ _ _ _=_ from by kernel_rfl)
end Go.Ab
