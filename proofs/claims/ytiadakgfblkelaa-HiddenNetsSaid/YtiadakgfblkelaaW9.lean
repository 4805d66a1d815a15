/- What functions compute. No conditions. -/
import Derived.Test.YtiadakgfblkelaaEng8
import Derived.Test.YtiadakgfblkelaaProg
import Derived.KernelRfl
set_option linter.all false
namespace Go.Ab
open Go
structure Tapi_Hidden where
 Grain:Int
 First:(List Int)
 Step:(List (List Int))
 Show:(List (List Int))
 deriving DecidableEq,Inhabited
@[reducible] def eTapi_Hidden (x:Tapi_Hidden):AV:=.agg [vI x.Grain,eL true eI x.First,eL false (eL true eI) x.Step,eL false (eL true eI) x.Show]
structure Thidden_watcher where
 Hidden:Tapi_Hidden
 seen:(List Int)
 deriving DecidableEq,Inhabited
structure Tapi_Q where
 N:Int
 D:Int
 deriving DecidableEq,Inhabited
@[reducible] def eTapi_Q (x:Tapi_Q):AV:=.agg [vI x.N,vI x.D]
structure Tharuspexref17_Draft where
 Grain:Int
 States:Int
 Shows:Int
 L:(List Int)
 Seen:(List Int)
 deriving DecidableEq,Inhabited
@[reducible] def eTharuspexref17_Draft (x:Tharuspexref17_Draft):AV:=.agg [.int .u8 x.Grain,.int .u8 x.States,.int .u8 x.Shows,eL true (AV.int .u8) x.L,eL true (AV.int .u8) x.Seen]
structure Tharuspexref17_Bend where
 What : Int
 S:Int
 At:Int
 N:Int
 deriving DecidableEq,Inhabited
@[reducible] def eTharuspexref17_Bend (x:Tharuspexref17_Bend):AV:=.agg [.int .u8 x.What,.int .u8 x.S,.int .u8 x.At,vI x.N]
structure Tapi_Node where
 Card:Int
 Parents:(List Int)
 Rows:(List (List Int))
 deriving DecidableEq,Inhabited
@[reducible] def eTapi_Node (x:Tapi_Node):AV:=.agg [vI x.Card,eL true eI x.Parents,eL false (eL true eI) x.Rows]
structure Tapi_Net where
 Grain:Int
 Nodes:(List Tapi_Node)
 deriving DecidableEq,Inhabited
def g_hidden_isRow_b0 (p1:(List Int)) (s1:(Int × Int)):Option (Step (Int × Int) (Unit ⊕ Int)) :=
 if (decide (s1.2 < (p1.length:Int)))=true then
  (lkI p1 s1.2).bind fun a4 =>
  if (decide (a4 < 0))=true then
   some (.done (Sum.inl ()))
  else
  if (decide (a4 > s1.1))=true then
   some (.done (Sum.inl ()))
  else
  some (.next (IntKind.i64.wrap (s1.1 - a4),IntKind.i64.wrap (s1.2+1)))
 else
 some (.done (Sum.inr s1.1))
def g_hidden_isRow (p0:Int) (p1:(List Int)):Option Bool :=
 (whileN fuel (g_hidden_isRow_b0 p1) (p0,0)).bind fun x10=>match x10 with
 | .inl x11=>(
  some false)
 | .inr x12=>(
  some (x12==0))
def g_hidden_areRows_b0 (p3:(List (List Int))) (p2:Int) (p0:Int) (s3:Int):Option (Step Int (Unit ⊕ Unit)) :=
 if (decide (s3 < (p3.length:Int)))=true then
  (lkI p3 s3).bind fun a6 =>
  if ((a6.length:Int) != p2)=true then
   some (.done (Sum.inl ()))
  else
  (g_hidden_isRow p0 a6).bind fun x10 =>
  if (!x10)=true then
   some (.done (Sum.inl ()))
  else
  some (.next (IntKind.i64.wrap (s3+1)))
 else
 some (.done (Sum.inr ()))
def g_hidden_areRows (p0:Int) (p1:Int) (p2:Int) (p3:(List (List Int))):Option Bool :=
 if ((p3.length:Int) != p1)=true then
  some false
 else
 (whileN fuel (g_hidden_areRows_b0 p3 p2 p0) 0).bind fun x14=>match x14 with
 | .inl x15=>(
  some false)
 | .inr x16=>(
  some true)
def g_hidden_Check (p0:Tapi_Hidden):Option Int :=
 if (decide (p0.Grain < 1))=true then
  some 170
 else
 if (decide (p0.Grain > 12))=true then
  some 170
 else
 if (decide ((p0.First.length:Int) < 1))=true then
  some 170
 else
 if (decide ((p0.First.length:Int) > 4))=true then
  some 170
 else
 if ((p0.Show.length:Int) != (p0.First.length:Int))=true then
  some 170
 else
 (lkI p0.Show 0).bind fun a11 =>
 if (decide ((a11.length:Int) < 1))=true then
  some 170
 else
 if (decide ((a11.length:Int) > 4))=true then
  some 170
 else
 (g_hidden_isRow p0.Grain p0.First).bind fun x17 =>
 if (!x17)=true then
  some 170
 else
 (g_hidden_areRows p0.Grain (p0.First.length:Int) (p0.First.length:Int) p0.Step).bind fun x21 =>
 if (!x21)=true then
  some 170
 else
 (g_hidden_areRows p0.Grain (p0.First.length:Int) (a11.length:Int) p0.Show).bind fun x25 =>
 if (!x25)=true then
  some 170
 else
 some 0
def g_hidden_newWatcher_b0 (p1:(List Int)) (p0:Tapi_Hidden) (s9:Int):Option (Step Int (Unit ⊕ Unit)) :=
 if (decide (s9 < (p1.length:Int)))=true then
  (lkI p1 s9).bind fun a12 =>
  if (decide (a12 < (-1)))=true then
   some (.done (Sum.inl ()))
  else
  (lkI p0.Show 0).bind fun a16 =>
  if (decide (a12≥(a16.length:Int)))=true then
   some (.done (Sum.inl ()))
  else
  some (.next (IntKind.i64.wrap (s9+1)))
 else
 some (.done (Sum.inr ()))
def g_hidden_newWatcher (p0:Tapi_Hidden) (p1:(List Int)):Option (Thidden_watcher × Int) :=
 (g_hidden_Check p0).bind fun x1 =>
 if (x1 != 0)=true then
  some ((Thidden_watcher.mk (Tapi_Hidden.mk 0 [] [] []) []),x1)
 else
 if (decide ((p1.length:Int) < 1))=true then
  some ((Thidden_watcher.mk (Tapi_Hidden.mk 0 [] [] []) []),2)
 else
 if (decide ((p1.length:Int) > 8))=true then
  some ((Thidden_watcher.mk (Tapi_Hidden.mk 0 [] [] []) []),2)
 else
 (whileN fuel (g_hidden_newWatcher_b0 p1 p0) 0).bind fun x20=>match x20 with
 | .inl x21=>(
  some ((Thidden_watcher.mk (Tapi_Hidden.mk 0 [] [] []) []),2))
 | .inr x22=>(
  some ((Thidden_watcher.mk p0 p1),0))
def g_hidden_watcher_shown (p0:Thidden_watcher) (p1:Int) (p2:Int):Option Int :=
 (lkI p0.seen p1).bind fun a1 =>
 if (decide (a1 < 0))=true then
  some p0.Hidden.Grain
 else
 (lkI p0.Hidden.Show p2).bind fun a5 =>
 (lkI a5 a1).bind fun a7 =>
 some a7
def g_hidden_watcher_forward_b0 (p0:Thidden_watcher) (s1:(Int × (List (List Int)))):Option (Step (Int × (List (List Int))) (List (List Int))) :=
 if (decide (s1.1 < (((List.replicate (Int.toNat (p0.seen.length:Int)) ([]:(List Int))).length):Int)))=true then
  if 0≤(p0.Hidden.First.length:Int)∧(p0.Hidden.First.length:Int)≤(p0.Hidden.First.length:Int)∧(p0.Hidden.First.length:Int)*8≤140737488355328 then
   (lkI s1.2 s1.1).bind fun a4 =>
   some (.next (IntKind.i64.wrap (s1.1+1),(List.set s1.2 (Int.toNat s1.1) (List.replicate (Int.toNat (p0.Hidden.First.length:Int)) (0:Int)))))
  else none
 else
 some (.done s1.2)
def g_hidden_watcher_forward_b1 (a19:(List Int)) (p0:Thidden_watcher) (s12:(Int × (List (List Int)))) (s21:(Int × Int)):Option (Step (Int × Int) Int) :=
 if (decide (s21.2 < (a19.length:Int)))=true then
  (lkI a19 s21.2).bind fun a24 =>
  (lkI p0.Hidden.Step s21.2).bind fun a26 =>
  (lkI a26 s12.1).bind fun a28 =>
  some (.next (IntKind.i64.wrap (s21.1+(IntKind.i64.wrap (a24*a28))),IntKind.i64.wrap (s21.2+1)))
 else
 some (.done s21.1)
def g_hidden_watcher_forward_b2 (p0:Thidden_watcher) (s9:(Int × (List (List Int)))) (s12:(Int × (List (List Int)))):Option (Step (Int × (List (List Int))) (List (List Int))) :=
 if (decide (s12.1 < (p0.Hidden.First.length:Int)))=true then
  (lkI p0.Hidden.First s12.1).bind fun a15 =>
  if (decide (s9.1 > 0))=true then
   (lkI s12.2 (IntKind.i64.wrap (s9.1 - 1))).bind fun a19 =>
   (whileN fuel (g_hidden_watcher_forward_b1 a19 p0 s12) (0,0)).bind fun x31 =>
   (lkI s12.2 s9.1).bind fun a32 =>
   (g_hidden_watcher_shown p0 s9.1 s12.1).bind fun x34 =>
   (lkI a32 s12.1).bind fun a36 =>
   some (.next (IntKind.i64.wrap (s12.1+1),(List.set s12.2 (Int.toNat s9.1) (List.set a32 (Int.toNat s12.1) (IntKind.i64.wrap (x31*x34))))))
  else
  (lkI s12.2 s9.1).bind fun a39 =>
  (g_hidden_watcher_shown p0 s9.1 s12.1).bind fun x41 =>
  (lkI a39 s12.1).bind fun a43 =>
  some (.next (IntKind.i64.wrap (s12.1+1),(List.set s12.2 (Int.toNat s9.1) (List.set a39 (Int.toNat s12.1) (IntKind.i64.wrap (a15*x41))))))
 else
 some (.done s12.2)
def g_hidden_watcher_forward_b3 (p0:Thidden_watcher) (s9:(Int × (List (List Int)))):Option (Step (Int × (List (List Int))) (List (List Int))) :=
 if (decide (s9.1 < (p0.seen.length:Int)))=true then
  (whileN fuel (g_hidden_watcher_forward_b2 p0 s9) (0,s9.2)).bind fun x47 =>
  some (.next (IntKind.i64.wrap (s9.1+1),x47))
 else
 some (.done s9.2)
def g_hidden_watcher_forward (p0:Thidden_watcher):Option (List (List Int)) :=
 if 0≤(p0.seen.length:Int)∧(p0.seen.length:Int)≤(p0.seen.length:Int)∧(p0.seen.length:Int)*24≤140737488355328 then
  (whileN fuel (g_hidden_watcher_forward_b0 p0) (0,(List.replicate (Int.toNat (p0.seen.length:Int)) ([]:(List Int))))).bind fun x8 =>
  (whileN fuel (g_hidden_watcher_forward_b3 p0) (0,x8)).bind fun x49 =>
  some x49
 else none
def g_hidden_Forward (p0:Tapi_Hidden) (p1:(List Int)):Option ((List (List Int)) × Int) :=
 (g_hidden_newWatcher p0 p1).bind fun x1 =>
 if (x1.2 != 0)=true then
  some (([]:(List (List Int))),x1.2)
 else
 (g_hidden_watcher_forward x1.1).bind fun x5 =>
 some (x5,0)
def g_hidden_watcher_backward_b0 (p0:Thidden_watcher) (s1:(Int × (List (List Int)))):Option (Step (Int × (List (List Int))) (List (List Int))) :=
 if (decide (s1.1 < (((List.replicate (Int.toNat (p0.seen.length:Int)) ([]:(List Int))).length):Int)))=true then
  if 0≤(p0.Hidden.First.length:Int)∧(p0.Hidden.First.length:Int)≤(p0.Hidden.First.length:Int)∧(p0.Hidden.First.length:Int)*8≤140737488355328 then
   (lkI s1.2 s1.1).bind fun a4 =>
   some (.next (IntKind.i64.wrap (s1.1+1),(List.set s1.2 (Int.toNat s1.1) (List.replicate (Int.toNat (p0.Hidden.First.length:Int)) (0:Int)))))
  else none
 else
 some (.done s1.2)
def g_hidden_watcher_backward_b1 (a22:(List Int)) (s9:(Int × (List (List Int)))) (s12:(Int × (List (List Int)))) (p0:Thidden_watcher) (s24:(Int × (List (List Int)))):Option (Step (Int × (List (List Int))) (List (List Int))) :=
 if (decide (s24.1 < (a22.length:Int)))=true then
  (lkI s24.2 (IntKind.i64.wrap (s9.1+1))).bind fun a27 =>
  (lkI a27 s24.1).bind fun a29 =>
  if s24.1 < (a22.length:Int) then
   (lkI s24.2 s9.1).bind fun a31 =>
   (lkI a31 s12.1).bind fun a33 =>
   (lkI p0.Hidden.Step s12.1).bind fun a35 =>
   (lkI a35 s24.1).bind fun a37 =>
   (g_hidden_watcher_shown p0 (IntKind.i64.wrap (s9.1+1)) s24.1).bind fun x39 =>
   some (.next (IntKind.i64.wrap (s24.1+1),(List.set s24.2 (Int.toNat s9.1) (List.set a31 (Int.toNat s12.1) (IntKind.i64.wrap (a33+(IntKind.i64.wrap ((IntKind.i64.wrap (a37*x39))*a29))))))))
  else none
 else
 some (.done s24.2)
def g_hidden_watcher_backward_b2 (p0:Thidden_watcher) (s9:(Int × (List (List Int)))) (s12:(Int × (List (List Int)))):Option (Step (Int × (List (List Int))) (List (List Int))) :=
 if (decide (s12.1 < (p0.Hidden.First.length:Int)))=true then
  if (s9.1==(IntKind.i64.wrap ((p0.seen.length:Int) - 1)))=true then
   (lkI s12.2 s9.1).bind fun a17 =>
   (lkI a17 s12.1).bind fun a19 =>
   some (.next (IntKind.i64.wrap (s12.1+1),(List.set s12.2 (Int.toNat s9.1) (List.set a17 (Int.toNat s12.1) 1))))
  else
  (lkI s12.2 (IntKind.i64.wrap (s9.1+1))).bind fun a22 =>
  (whileN fuel (g_hidden_watcher_backward_b1 a22 s9 s12 p0) (0,s12.2)).bind fun x43 =>
  some (.next (IntKind.i64.wrap (s12.1+1),x43))
 else
 some (.done s12.2)
def g_hidden_watcher_backward_b3 (p0:Thidden_watcher) (s9:(Int × (List (List Int)))):Option (Step (Int × (List (List Int))) (List (List Int))) :=
 if (decide (s9.1≥0))=true then
  (whileN fuel (g_hidden_watcher_backward_b2 p0 s9) (0,s9.2)).bind fun x45 =>
  some (.next (IntKind.i64.wrap (s9.1 - 1),x45))
 else
 some (.done s9.2)
def g_hidden_watcher_backward (p0:Thidden_watcher):Option (List (List Int)) :=
 if 0≤(p0.seen.length:Int)∧(p0.seen.length:Int)≤(p0.seen.length:Int)∧(p0.seen.length:Int)*24≤140737488355328 then
  (whileN fuel (g_hidden_watcher_backward_b0 p0) (0,(List.replicate (Int.toNat (p0.seen.length:Int)) ([]:(List Int))))).bind fun x8 =>
  (whileN fuel (g_hidden_watcher_backward_b3 p0) (IntKind.i64.wrap ((p0.seen.length:Int) - 1),x8)).bind fun x47 =>
  some x47
 else none
def g_hidden_Backward (p0:Tapi_Hidden) (p1:(List Int)):Option ((List (List Int)) × Int) :=
 (g_hidden_newWatcher p0 p1).bind fun x1 =>
 if (x1.2 != 0)=true then
  some (([]:(List (List Int))),x1.2)
 else
 (g_hidden_watcher_backward x1.1).bind fun x5 =>
 some (x5,0)
def g_ref02_Same_b0 (p0:(List Int)) (p1:(List Int)) (s3:Int):Option (Step Int (Unit ⊕ Unit)) :=
 if (decide (s3 < (p0.length:Int)))=true then
  (lkI p0 s3).bind fun a6 =>
  (lkI p1 s3).bind fun a8 =>
  if (a6 != a8)=true then
   some (.done (Sum.inl ()))
  else
  some (.next (IntKind.i64.wrap (s3+1)))
 else
 some (.done (Sum.inr ()))
def g_ref02_Same (p0:(List Int)) (p1:(List Int)):Option Bool :=
 if ((p0.length:Int) != (p1.length:Int))=true then
  some false
 else
 (whileN fuel (g_ref02_Same_b0 p0 p1) 0).bind fun x12=>match x12 with
 | .inl x13=>(
  some false)
 | .inr x14=>(
  some true)
def g_ref17_SameTable_b0 (p0:(List (List Int))) (p1:(List (List Int))) (s3:Int):Option (Step Int (Unit ⊕ Unit)) :=
 if (decide (s3 < (p0.length:Int)))=true then
  (lkI p0 s3).bind fun a6 =>
  (lkI p1 s3).bind fun a8 =>
  (g_ref02_Same a6 a8).bind fun x10 =>
  if (!x10)=true then
   some (.done (Sum.inl ()))
  else
  some (.next (IntKind.i64.wrap (s3+1)))
 else
 some (.done (Sum.inr ()))
def g_ref17_SameTable (p0:(List (List Int))) (p1:(List (List Int))):Option Bool :=
 if ((p0.length:Int) != (p1.length:Int))=true then
  some false
 else
 (whileN fuel (g_ref17_SameTable_b0 p0 p1) 0).bind fun x14=>match x14 with
 | .inl x15=>(
  some false)
 | .inr x16=>(
  some true)
def g_slices_Concat_int_int_b0 (p0:(List (List Int))) (s1:(Int × Int)):Option (Step (Int × Int) Int) :=
 if (decide (s1.2 < (p0.length:Int)))=true then
  (lkI p0 s1.2).bind fun a4 =>
  if (decide ((IntKind.i64.wrap (s1.1+(a4.length:Int))) < 0))=true then
   none
  else
  some (.next (IntKind.i64.wrap (s1.1+(a4.length:Int)),IntKind.i64.wrap (s1.2+1)))
 else
 some (.done s1.1)
def g_slices_Concat_int_int_b1 (p0:(List (List Int))) (s15:(Int × (List Int))):Option (Step (Int × (List Int)) (List Int)) :=
 if (decide (s15.1 < (p0.length:Int)))=true then
  (lkI p0 s15.1).bind fun a18 =>
  if (s15.2++a18).length*8≤140737488355328 then
   some (.next (IntKind.i64.wrap (s15.1+1),(s15.2++a18)))
  else none
 else
 some (.done s15.2)
def g_slices_Concat_int_int_b2 (p0:(List (List Int))) (s22:(Int × (List Int))):Option (Step (Int × (List Int)) (List Int)) :=
 if (decide (s22.1 < (p0.length:Int)))=true then
  (lkI p0 s22.1).bind fun a25 =>
  if (s22.2++a25).length*8≤140737488355328 then
   some (.next (IntKind.i64.wrap (s22.1+1),(s22.2++a25)))
  else none
 else
 some (.done s22.2)
def g_slices_Concat_int_int (p0:(List (List Int))):Option (List Int) :=
 (whileN fuel (g_slices_Concat_int_int_b0 p0) (0,0)).bind fun x9 =>
 if (decide (x9 < 0))=true then
  none
 else
 if (decide ((IntKind.i64.wrap (x9 - 0)) > 0))=true then
  if 0≤(IntKind.i64.wrap (x9 - 0))∧(IntKind.i64.wrap (x9 - 0))*8≤140737488355328 then
   if 0≤(0:Int)∧(0:Int)≤(0:Int)∧(0:Int)≤((List.replicate (Int.toNat (IntKind.i64.wrap (x9 - 0))) (0:Int)).length:Int) then
    (whileN fuel (g_slices_Concat_int_int_b1 p0) (0,([]:(List Int)))).bind fun x21 =>
    some x21
   else none
  else none
 else
 (whileN fuel (g_slices_Concat_int_int_b2 p0) (0,([]:(List Int)))).bind fun x28 =>
 some x28
def g_math_bits_Mul64 (p0:Int) (p1:Int):Option (Int × Int) :=
 some (IntKind.u64.wrap ((IntKind.u64.wrap ((IntKind.u64.wrap ((Int.fdiv p0 (2^min (Int.toNat 32) (IntKind.bits .u64)))*(Int.fdiv p1 (2^min (Int.toNat 32) (IntKind.bits .u64)))))+(Int.fdiv (IntKind.u64.wrap ((IntKind.u64.wrap ((Int.fdiv p0 (2^min (Int.toNat 32) (IntKind.bits .u64)))*(IntKind.u64.wrap (BitVec.ofInt (IntKind.bits .u64) p1 &&& BitVec.ofInt (IntKind.bits .u64) 4294967295).toNat)))+(Int.fdiv (IntKind.u64.wrap ((IntKind.u64.wrap (BitVec.ofInt (IntKind.bits .u64) p0 &&& BitVec.ofInt (IntKind.bits .u64) 4294967295).toNat)*(IntKind.u64.wrap (BitVec.ofInt (IntKind.bits .u64) p1 &&& BitVec.ofInt (IntKind.bits .u64) 4294967295).toNat))) (2^min (Int.toNat 32) (IntKind.bits .u64))))) (2^min (Int.toNat 32) (IntKind.bits .u64)))))+(Int.fdiv (IntKind.u64.wrap ((IntKind.u64.wrap (BitVec.ofInt (IntKind.bits .u64) (IntKind.u64.wrap ((IntKind.u64.wrap ((Int.fdiv p0 (2^min (Int.toNat 32) (IntKind.bits .u64)))*(IntKind.u64.wrap (BitVec.ofInt (IntKind.bits .u64) p1 &&& BitVec.ofInt (IntKind.bits .u64) 4294967295).toNat)))+(Int.fdiv (IntKind.u64.wrap ((IntKind.u64.wrap (BitVec.ofInt (IntKind.bits .u64) p0 &&& BitVec.ofInt (IntKind.bits .u64) 4294967295).toNat)*(IntKind.u64.wrap (BitVec.ofInt (IntKind.bits .u64) p1 &&& BitVec.ofInt (IntKind.bits .u64) 4294967295).toNat))) (2^min (Int.toNat 32) (IntKind.bits .u64))))) &&& BitVec.ofInt (IntKind.bits .u64) 4294967295).toNat)+(IntKind.u64.wrap ((IntKind.u64.wrap (BitVec.ofInt (IntKind.bits .u64) p0 &&& BitVec.ofInt (IntKind.bits .u64) 4294967295).toNat)*(Int.fdiv p1 (2^min (Int.toNat 32) (IntKind.bits .u64))))))) (2^min (Int.toNat 32) (IntKind.bits .u64)))),IntKind.u64.wrap (p0*p1))
def g_math_bits_Mul (p0:Int) (p1:Int):Option (Int × Int) :=
 (g_math_bits_Mul64 p0 p1).bind fun x1 =>
 some (x1.1,x1.2)
def g_slices_Repeat_int_int_b0  (s9:(Int × (List Int))):Option (Step (Int × (List Int)) (List Int)) :=
 if (decide (s9.1 < (s9.2.length:Int)))=true then
  if 0≤s9.1∧s9.1≤(s9.2.length:Int)∧(s9.2.length:Int)≤(s9.2.length:Int) then
   if 0≤(0:Int)∧(0:Int)≤s9.1∧s9.1≤(s9.2.length:Int) then
    some (.next (IntKind.i64.wrap (s9.1+((min (sub s9.2 0 s9.1).length (Int.toNat (s9.2.length:Int) - Int.toNat s9.1):Nat):Int)),(ovr s9.2 (Int.toNat s9.1) (List.take (Int.toNat (s9.2.length:Int) - Int.toNat s9.1) (sub s9.2 0 s9.1)))))
   else none
  else none
 else
 some (.done s9.2)
def g_slices_Repeat_int_int (p0:(List Int)) (p1:Int):Option (List Int) :=
 if (decide (p1 < 0))=true then
  none
 else
 (g_math_bits_Mul (IntKind.u64.wrap ((p0.length:Int))) (IntKind.u64.wrap (p1))).bind fun x3 =>
 if (decide (x3.1 > 0))=true then
  none
 else
 if (decide (x3.2 > 9223372036854775807))=true then
  none
 else
 if 0≤(IntKind.i64.wrap (x3.2))∧(IntKind.i64.wrap (x3.2))≤(IntKind.i64.wrap (x3.2))∧(IntKind.i64.wrap (x3.2))*8≤140737488355328 then
  (whileN fuel (g_slices_Repeat_int_int_b0) (((min p0.length ((List.replicate (Int.toNat (IntKind.i64.wrap (x3.2))) (0:Int)).length):Nat):Int),(ovr (List.replicate (Int.toNat (IntKind.i64.wrap (x3.2))) (0:Int)) 0 (List.take ((List.replicate (Int.toNat (IntKind.i64.wrap (x3.2))) (0:Int)).length) p0)))).bind fun x16 =>
  some x16
 else none
def g_hidden_sum_int_b0 (p0:(List Int)) (s1:(Int × Int)):Option (Step (Int × Int) Int) :=
 if (decide (s1.2 < (p0.length:Int)))=true then
  (lkI p0 s1.2).bind fun a4 =>
  some (.next (IntKind.i64.wrap (s1.1+a4),IntKind.i64.wrap (s1.2+1)))
 else
 some (.done s1.1)
def g_hidden_sum_int (p0:(List Int)):Option Int :=
 (whileN fuel (g_hidden_sum_int_b0 p0) (0,0)).bind fun x7 =>
 some x7
def g_hidden_watcher_possible (p0:Thidden_watcher):Option ((List (List Int)) × Int) :=
 (g_hidden_watcher_forward p0).bind fun x1 =>
 (lkI x1 (IntKind.i64.wrap ((x1.length:Int) - 1))).bind fun a3 =>
 (g_hidden_sum_int a3).bind fun x5 =>
 if (x5==0)=true then
  some (([]:(List (List Int))),7)
 else
 some (x1,0)
def g_weigh_Ratio_b0  (s1:(Int × Int)):Option (Step (Int × Int) Int) :=
 if (s1.2 != 0)=true then
  if s1.2≠0 then
   some (.next (s1.2,Int.tmod s1.1 s1.2))
  else none
 else
 some (.done s1.1)
def g_weigh_Ratio (p0:Int) (p1:Int):Option Tapi_Q :=
 (whileN fuel (g_weigh_Ratio_b0) ((if (IntKind.i64.wrap (0 - p0)) > p0 then (IntKind.i64.wrap (0 - p0)) else p0),p1)).bind fun x5 =>
 if x5≠0 then
  if x5≠0 then
   some (Tapi_Q.mk (IntKind.i64.wrap (Int.tdiv p0 x5)) (IntKind.i64.wrap (Int.tdiv p1 x5)))
  else none
 else none
def g_hidden_divide_int_b0 (p0:(List Int)) (x1:Int) (s3:(Int × (List Tapi_Q))):Option (Step (Int × (List Tapi_Q)) (List Tapi_Q)) :=
 if (decide (s3.1 < (p0.length:Int)))=true then
  (lkI p0 s3.1).bind fun a6 =>
  (g_weigh_Ratio a6 x1).bind fun x8 =>
  (lkI s3.2 s3.1).bind fun a10 =>
  some (.next (IntKind.i64.wrap (s3.1+1),(List.set s3.2 (Int.toNat s3.1) x8)))
 else
 some (.done s3.2)
def g_hidden_divide_int (p0:(List Int)):Option (List Tapi_Q) :=
 (g_hidden_sum_int p0).bind fun x1 =>
 if 0≤(p0.length:Int)∧(p0.length:Int)≤(p0.length:Int)∧(p0.length:Int)*16≤140737488355328 then
  (whileN fuel (g_hidden_divide_int_b0 p0 x1) (0,(List.replicate (Int.toNat (p0.length:Int)) ((Tapi_Q.mk 0 0):Tapi_Q)))).bind fun x14 =>
  some x14
 else none
def g_hidden_Predict (p0:Tapi_Hidden) (p1:(List Int)) (p2:Int):Option ((List Tapi_Q) × Int) :=
 (g_hidden_newWatcher p0 p1).bind fun x1 =>
 if (x1.2 != 0)=true then
  some (([]:(List Tapi_Q)),x1.2)
 else
 if (decide (p2 < 0))=true then
  some (([]:(List Tapi_Q)),2)
 else
 if (decide (p2 > (IntKind.i64.wrap (8 - (p1.length:Int)))))=true then
  some (([]:(List Tapi_Q)),2)
 else
 (g_slices_Repeat_int_int [-1] p2).bind fun x9 =>
 (g_slices_Concat_int_int [p1,x9]).bind fun x11 =>
 (g_hidden_watcher_possible (Thidden_watcher.mk x1.1.Hidden x11)).bind fun x13 =>
 if (x13.2 != 0)=true then
  some (([]:(List Tapi_Q)),x13.2)
 else
 (lkI x13.1 (IntKind.i64.wrap ((x13.1.length:Int) - 1))).bind fun a17 =>
 (g_hidden_divide_int a17).bind fun x19 =>
 some (x19,0)
def g_weigh_Whole_b0 (p1:Int) (p0:Int) (s1:(Int × Int)):Option (Step (Int × Int) Int) :=
 if (decide (s1.2 < p1))=true then
  some (.next (IntKind.i64.wrap (s1.1*p0),IntKind.i64.wrap (s1.2+1)))
 else
 some (.done s1.1)
def g_weigh_Whole (p0:Int) (p1:Int):Option Int :=
 (whileN fuel (g_weigh_Whole_b0 p1 p0) (1,0)).bind fun x5 =>
 some x5
def g_hidden_Prob (p0:Tapi_Hidden) (p1:(List Int)):Option (Tapi_Q × Int) :=
 (g_hidden_newWatcher p0 p1).bind fun x1 =>
 if (x1.2 != 0)=true then
  some ((Tapi_Q.mk 0 0),x1.2)
 else
 (g_hidden_watcher_forward x1.1).bind fun x5 =>
 (lkI x5 (IntKind.i64.wrap ((p1.length:Int) - 1))).bind fun a7 =>
 (g_hidden_sum_int a7).bind fun x9 =>
 (g_weigh_Whole x1.1.Hidden.Grain (IntKind.i64.wrap (2*(p1.length:Int)))).bind fun x11 =>
 (g_weigh_Ratio x9 x11).bind fun x13 =>
 some (x13,0)
def g_ref01_cut_b0  (s1:(List Int)):Option (Step (List Int) (List Int)) :=
 if (decide ((s1.length:Int) > 0))=true then
  (lkI s1 (IntKind.i64.wrap ((s1.length:Int) - 1))).bind fun a4 =>
  if (a4==0)=true then
   if 0≤(0:Int)∧(0:Int)≤(IntKind.i64.wrap ((s1.length:Int) - 1))∧(IntKind.i64.wrap ((s1.length:Int) - 1))≤(s1.length:Int) then
    some (.next (sub s1 0 (IntKind.i64.wrap ((s1.length:Int) - 1))))
   else none
  else
  some (.done s1)
 else
 some (.done s1)
def g_ref01_cut (p0:(List Int)):Option (List Int) :=
 (whileN fuel (g_ref01_cut_b0) p0).bind fun x9 =>
 some x9
def g_ref01_compare_b0 (p0:(List Int)) (p1:(List Int)) (s5:Int):Option (Step Int (Int ⊕ Unit)) :=
 if (decide (s5≥0))=true then
  (lkI p0 s5).bind fun a8 =>
  (lkI p1 s5).bind fun a10 =>
  if (a8 != a10)=true then
   if (decide (a8 < a10))=true then
    some (.done (Sum.inl (-1)))
   else
   some (.done (Sum.inl 1))
  else
  some (.next (IntKind.i64.wrap (s5 - 1)))
 else
 some (.done (Sum.inr ()))
def g_ref01_compare (p0:(List Int)) (p1:(List Int)):Option Int :=
 if ((p0.length:Int) != (p1.length:Int))=true then
  if (decide ((p0.length:Int) < (p1.length:Int)))=true then
   some (-1)
  else
  some 1
 else
 (whileN fuel (g_ref01_compare_b0 p0 p1) (IntKind.i64.wrap ((p0.length:Int) - 1))).bind fun x16=>match x16 with
 | .inl x17=>(
  some x17)
 | .inr x18=>(
  some 0)
def g_ref01_times_b0 (p1:(List Int)) (s1:(Int × (List Int))) (p0:(List Int)) (s4:(Int × Int × (List Int))):Option (Step (Int × Int × (List Int)) (List Int)) :=
 if (decide (s4.2.1 < (p1.length:Int)))=true then
  (lkI s4.2.2 (IntKind.i64.wrap (s1.1+s4.2.1))).bind fun a7 =>
  (lkI p0 s1.1).bind fun a10 =>
  (lkI p1 s4.2.1).bind fun a12 =>
  (lkI s4.2.2 (IntKind.i64.wrap (s1.1+s4.2.1))).bind fun a14 =>
  some (.next (IntKind.i64.wrap (Int.tdiv (IntKind.i64.wrap ((IntKind.i64.wrap (s4.1+a7))+(IntKind.i64.wrap (a10*a12)))) 10000),IntKind.i64.wrap (s4.2.1+1),(List.set s4.2.2 (Int.toNat (IntKind.i64.wrap (s1.1+s4.2.1))) (Int.tmod (IntKind.i64.wrap ((IntKind.i64.wrap (s4.1+a7))+(IntKind.i64.wrap (a10*a12)))) 10000))))
 else
 if (decide (s4.1 > 0))=true then
  (lkI s4.2.2 (IntKind.i64.wrap (s1.1+s4.2.1))).bind fun a19 =>
  (lkI s4.2.2 (IntKind.i64.wrap (s1.1+s4.2.1))).bind fun a22 =>
  some (.next (IntKind.i64.wrap (Int.tdiv (IntKind.i64.wrap (s4.1+a19)) 10000),IntKind.i64.wrap (s4.2.1+1),(List.set s4.2.2 (Int.toNat (IntKind.i64.wrap (s1.1+s4.2.1))) (Int.tmod (IntKind.i64.wrap (s4.1+a19)) 10000))))
 else
 some (.done s4.2.2)
def g_ref01_times_b1 (p0:(List Int)) (p1:(List Int)) (s1:(Int × (List Int))):Option (Step (Int × (List Int)) (List Int)) :=
 if (decide (s1.1 < (p0.length:Int)))=true then
  (whileN fuel (g_ref01_times_b0 p1 s1 p0) (0,0,s1.2)).bind fun x26 =>
  some (.next (IntKind.i64.wrap (s1.1+1),x26))
 else
 some (.done s1.2)
def g_ref01_times (p0:(List Int)) (p1:(List Int)):Option (List Int) :=
 if 0≤(IntKind.i64.wrap ((p0.length:Int)+(p1.length:Int)))∧(IntKind.i64.wrap ((p0.length:Int)+(p1.length:Int)))≤(IntKind.i64.wrap ((p0.length:Int)+(p1.length:Int)))∧(IntKind.i64.wrap ((p0.length:Int)+(p1.length:Int)))*8≤140737488355328 then
  (whileN fuel (g_ref01_times_b1 p0 p1) (0,(List.replicate (Int.toNat (IntKind.i64.wrap ((p0.length:Int)+(p1.length:Int)))) (0:Int)))).bind fun x28 =>
  (g_ref01_cut x28).bind fun x29 =>
  some x29
 else none
def g_ref01_minus_b0 (p0:(List Int)) (p1:(List Int)) (s1:(Int × Int × (List Int))):Option (Step (Int × Int × (List Int)) (List Int)) :=
 if (decide (s1.2.1 < (p0.length:Int)))=true then
  (lkI p0 s1.2.1).bind fun a4 =>
  if (decide (s1.2.1 < (p1.length:Int)))=true then
   (lkI p1 s1.2.1).bind fun a8 =>
   if (decide ((IntKind.i64.wrap ((IntKind.i64.wrap (a4 - s1.1)) - a8)) < 0))=true then
    if (s1.2.2++([IntKind.i64.wrap ((IntKind.i64.wrap ((IntKind.i64.wrap (a4 - s1.1)) - a8))+10000)]:(List Int))).length*8≤140737488355328 then
     some (.next (1,IntKind.i64.wrap (s1.2.1+1),(s1.2.2++([IntKind.i64.wrap ((IntKind.i64.wrap ((IntKind.i64.wrap (a4 - s1.1)) - a8))+10000)]:(List Int)))))
    else none
   else
   if (s1.2.2++([IntKind.i64.wrap ((IntKind.i64.wrap (a4 - s1.1)) - a8)]:(List Int))).length*8≤140737488355328 then
    some (.next (0,IntKind.i64.wrap (s1.2.1+1),(s1.2.2++([IntKind.i64.wrap ((IntKind.i64.wrap (a4 - s1.1)) - a8)]:(List Int)))))
   else none
  else
  if (decide ((IntKind.i64.wrap (a4 - s1.1)) < 0))=true then
   if (s1.2.2++([IntKind.i64.wrap ((IntKind.i64.wrap (a4 - s1.1))+10000)]:(List Int))).length*8≤140737488355328 then
    some (.next (1,IntKind.i64.wrap (s1.2.1+1),(s1.2.2++([IntKind.i64.wrap ((IntKind.i64.wrap (a4 - s1.1))+10000)]:(List Int)))))
   else none
  else
  if (s1.2.2++([IntKind.i64.wrap (a4 - s1.1)]:(List Int))).length*8≤140737488355328 then
   some (.next (0,IntKind.i64.wrap (s1.2.1+1),(s1.2.2++([IntKind.i64.wrap (a4 - s1.1)]:(List Int)))))
  else none
 else
 some (.done s1.2.2)
def g_ref01_minus (p0:(List Int)) (p1:(List Int)):Option (List Int) :=
 (whileN fuel (g_ref01_minus_b0 p0 p1) (0,0,([]:(List Int)))).bind fun x15 =>
 (g_ref01_cut x15).bind fun x16 =>
 some x16
def g_ref01_divide_b0 (p1:(List Int)) (x8:(List Int)) (s10:(Int × Int × Int)):Option (Step (Int × Int × Int) (Int × Int)) :=
 if (decide (s10.2.2≥(if (IntKind.i64.wrap ((IntKind.i64.wrap ((p1.length:Int) - 1)) - 1)) > 0 then (IntKind.i64.wrap ((IntKind.i64.wrap ((p1.length:Int) - 1)) - 1)) else 0)))=true then
  if (decide (s10.2.2 < (x8.length:Int)))=true then
   (lkI x8 s10.2.2).bind fun a15 =>
   if (decide (s10.2.2≤(IntKind.i64.wrap ((p1.length:Int) - 1))))=true then
    (lkI p1 s10.2.2).bind fun a19 =>
    some (.next (IntKind.i64.wrap ((IntKind.i64.wrap (s10.1*10000))+a19),IntKind.i64.wrap ((IntKind.i64.wrap (s10.2.1*10000))+a15),IntKind.i64.wrap (s10.2.2 - 1)))
   else
   some (.next (s10.1,IntKind.i64.wrap ((IntKind.i64.wrap (s10.2.1*10000))+a15),IntKind.i64.wrap (s10.2.2 - 1)))
  else
  if (decide (s10.2.2≤(IntKind.i64.wrap ((p1.length:Int) - 1))))=true then
   (lkI p1 s10.2.2).bind fun a23 =>
   some (.next (IntKind.i64.wrap ((IntKind.i64.wrap (s10.1*10000))+a23),IntKind.i64.wrap (s10.2.1*10000),IntKind.i64.wrap (s10.2.2 - 1)))
  else
  some (.next (s10.1,IntKind.i64.wrap (s10.2.1*10000),IntKind.i64.wrap (s10.2.2 - 1)))
 else
 some (.done (s10.1,s10.2.1))
def g_ref01_divide_b1 (p1:(List Int)) (x8:(List Int)) (s27:(Int × Int)):Option (Step (Int × Int) Int) :=
 if (decide (s27.1 < s27.2))=true then
  (g_ref01_times p1 [IntKind.i64.wrap (Int.tdiv (IntKind.i64.wrap ((IntKind.i64.wrap (s27.1+s27.2))+1)) 2)]).bind fun x30 =>
  (g_ref01_compare x30 x8).bind fun x32 =>
  if (decide (x32≤0))=true then
   some (.next (IntKind.i64.wrap (Int.tdiv (IntKind.i64.wrap ((IntKind.i64.wrap (s27.1+s27.2))+1)) 2),s27.2))
  else
  some (.next (s27.1,IntKind.i64.wrap ((IntKind.i64.wrap (Int.tdiv (IntKind.i64.wrap ((IntKind.i64.wrap (s27.1+s27.2))+1)) 2)) - 1)))
 else
 some (.done s27.1)
def g_ref01_divide_b2 (p0:(List Int)) (p1:(List Int)) (s3:((List Int) × Int × (List Int))):Option (Step ((List Int) × Int × (List Int)) ((List Int) × (List Int))) :=
 if (decide (s3.2.1≥0))=true then
  (lkI p0 s3.2.1).bind fun a6 =>
  if (([a6]:(List Int))++s3.1).length*8≤140737488355328 then
   (g_ref01_cut (([a6]:(List Int))++s3.1)).bind fun x8 =>
   (whileN fuel (g_ref01_divide_b0 p1 x8) (0,0,IntKind.i64.wrap ((IntKind.i64.wrap ((p1.length:Int) - 1))+1))).bind fun x26 =>
   if (IntKind.i64.wrap (x26.1+1))≠0 then
    if x26.1≠0 then
     (whileN fuel (g_ref01_divide_b1 p1 x8) (IntKind.i64.wrap (Int.tdiv x26.2 (IntKind.i64.wrap (x26.1+1))),IntKind.i64.wrap (Int.tdiv x26.2 x26.1))).bind fun x37 =>
     (lkI s3.2.2 s3.2.1).bind fun a38 =>
     (g_ref01_cut [x37]).bind fun x40 =>
     (g_ref01_times p1 x40).bind fun x42 =>
     (g_ref01_minus x8 x42).bind fun x44 =>
     some (.next (x44,IntKind.i64.wrap (s3.2.1 - 1),(List.set s3.2.2 (Int.toNat s3.2.1) x37)))
    else none
   else none
  else none
 else
 some (.done (s3.1,s3.2.2))
def g_ref01_divide (p0:(List Int)) (p1:(List Int)):Option ((List Int) × (List Int)) :=
 if (decide ((p0.length:Int)≤(IntKind.i64.wrap ((p1.length:Int) - 1))))=true then
  if p0.length*8≤140737488355328 then
   some ([],p0)
  else none
 else
 if 0≤(IntKind.i64.wrap ((p0.length:Int) - (IntKind.i64.wrap ((p1.length:Int) - 1))))∧(IntKind.i64.wrap ((p0.length:Int) - (IntKind.i64.wrap ((p1.length:Int) - 1))))≤(IntKind.i64.wrap ((p0.length:Int) - (IntKind.i64.wrap ((p1.length:Int) - 1))))∧(IntKind.i64.wrap ((p0.length:Int) - (IntKind.i64.wrap ((p1.length:Int) - 1))))*8≤140737488355328 then
  if 0≤(IntKind.i64.wrap ((p0.length:Int) - (IntKind.i64.wrap ((p1.length:Int) - 1))))∧(IntKind.i64.wrap ((p0.length:Int) - (IntKind.i64.wrap ((p1.length:Int) - 1))))≤(p0.length:Int)∧(p0.length:Int)≤(p0.length:Int) then
   if (sub p0 (IntKind.i64.wrap ((p0.length:Int) - (IntKind.i64.wrap ((p1.length:Int) - 1)))) (p0.length:Int)).length*8≤140737488355328 then
    (whileN fuel (g_ref01_divide_b2 p0 p1) ((sub p0 (IntKind.i64.wrap ((p0.length:Int) - (IntKind.i64.wrap ((p1.length:Int) - 1)))) (p0.length:Int)),IntKind.i64.wrap ((((List.replicate (Int.toNat (IntKind.i64.wrap ((p0.length:Int) - (IntKind.i64.wrap ((p1.length:Int) - 1))))) (0:Int)).length):Int) - 1),(List.replicate (Int.toNat (IntKind.i64.wrap ((p0.length:Int) - (IntKind.i64.wrap ((p1.length:Int) - 1))))) (0:Int)))).bind fun x48 =>
    (g_ref01_cut x48.2).bind fun x49 =>
    some (x49,x48.1)
   else none
  else none
 else none
def g_ref01_gcd_b0  (s1:((List Int) × (List Int))):Option (Step ((List Int) × (List Int)) (List Int)) :=
 if (decide ((s1.2.length:Int) > 0))=true then
  (g_ref01_divide s1.1 s1.2).bind fun x4 =>
  some (.next (s1.2,x4.2))
 else
 some (.done s1.1)
def g_ref01_gcd (p0:(List Int)) (p1:(List Int)):Option (List Int) :=
 (whileN fuel (g_ref01_gcd_b0) (p0,p1)).bind fun x7 =>
 some x7
def g_ref01_digits_b0  (s1:(Int × (List Int))):Option (Step (Int × (List Int)) (List Int)) :=
 if (s1.1 != 0)=true then
  if (s1.2++([(if (IntKind.i64.wrap (0 - (Int.tmod s1.1 10000))) > (Int.tmod s1.1 10000) then (IntKind.i64.wrap (0 - (Int.tmod s1.1 10000))) else (Int.tmod s1.1 10000))]:(List Int))).length*8≤140737488355328 then
   some (.next (IntKind.i64.wrap (Int.tdiv s1.1 10000),(s1.2++([(if (IntKind.i64.wrap (0 - (Int.tmod s1.1 10000))) > (Int.tmod s1.1 10000) then (IntKind.i64.wrap (0 - (Int.tmod s1.1 10000))) else (Int.tmod s1.1 10000))]:(List Int)))))
  else none
 else
 some (.done s1.2)
def g_ref01_digits (p0:Int):Option (List Int) :=
 (whileN fuel (g_ref01_digits_b0) (p0,([]:(List Int)))).bind fun x5 =>
 some x5
def g_ref01_value_b0 (p0:(List Int)) (s7:(Int × Int)):Option (Step (Int × Int) Int) :=
 if (decide (s7.2≥0))=true then
  (lkI p0 s7.2).bind fun a10 =>
  some (.next (IntKind.i64.wrap ((IntKind.i64.wrap (10000*s7.1))+a10),IntKind.i64.wrap (s7.2 - 1)))
 else
 some (.done s7.1)
def g_ref01_value (p0:(List Int)):Option (Int × Bool) :=
 (g_ref01_digits 4611686018427387903).bind fun x1 =>
 (g_ref01_compare p0 x1).bind fun x3 =>
 if (decide (x3 > 0))=true then
  some (0,false)
 else
 (whileN fuel (g_ref01_value_b0 p0) (0,IntKind.i64.wrap ((p0.length:Int) - 1))).bind fun x13 =>
 some (x13,true)
def g_ref01_made (p0:Bool) (p1:(List Int)) (p2:(List Int)):Option (Tapi_Q × Bool) :=
 (g_ref01_gcd p1 p2).bind fun x1 =>
 (g_ref01_divide p1 x1).bind fun x3 =>
 (g_ref01_divide p2 x1).bind fun x5 =>
 (g_ref01_value x3.1).bind fun x7 =>
 (g_ref01_value x5.1).bind fun x9 =>
 if (!x7.2)=true then
  some ((Tapi_Q.mk 0 0),false)
 else
 if (!x9.2)=true then
  some ((Tapi_Q.mk 0 0),false)
 else
 if p0=true then
  some ((Tapi_Q.mk (IntKind.i64.wrap (0 - x7.1)) x9.1),true)
 else
 some ((Tapi_Q.mk x7.1 x9.1),true)
def g_ref01_Make (p0:Int) (p1:Int):Option (Tapi_Q × Bool) :=
 (g_ref01_digits p0).bind fun x1 =>
 (g_ref01_digits p1).bind fun x3 =>
 (g_ref01_made (!((decide (p0 < 0))==(decide (p1 < 0)))) x1 x3).bind fun x5 =>
 some (x5.1,x5.2)
def g_ref01_Of (p0:Int) (p1:Int):Option Tapi_Q :=
 (g_ref01_Make p0 p1).bind fun x1 =>
 some x1.1
def g_law17_q (p0:Int) (p1:Int):Option Tapi_Q :=
 (g_ref01_Of p0 p1).bind fun x1 =>
 some x1
def g_hidden_Smooth_b0 (x1:(Thidden_watcher × Int)) (s9:(Int × (List (List Int)))):Option (Step (Int × (List (List Int))) (List (List Int))) :=
 if (decide (s9.1 < (((List.replicate (Int.toNat (x1.1.seen.length:Int)) ([]:(List Int))).length):Int)))=true then
  if 0≤(x1.1.Hidden.First.length:Int)∧(x1.1.Hidden.First.length:Int)≤(x1.1.Hidden.First.length:Int)∧(x1.1.Hidden.First.length:Int)*8≤140737488355328 then
   (lkI s9.2 s9.1).bind fun a12 =>
   some (.next (IntKind.i64.wrap (s9.1+1),(List.set s9.2 (Int.toNat s9.1) (List.replicate (Int.toNat (x1.1.Hidden.First.length:Int)) (0:Int)))))
  else none
 else
 some (.done s9.2)
def g_hidden_Smooth_b1 (a30:(List Int)) (s17:(Int × (List (List Int)))) (s20:(Int × (List (List Int)))) (x1:(Thidden_watcher × Int)) (s32:(Int × (List (List Int)))):Option (Step (Int × (List (List Int))) (List (List Int))) :=
 if (decide (s32.1 < (a30.length:Int)))=true then
  (lkI s32.2 (IntKind.i64.wrap (s17.1+1))).bind fun a35 =>
  (lkI a35 s32.1).bind fun a37 =>
  if s32.1 < (a30.length:Int) then
   (lkI s32.2 s17.1).bind fun a39 =>
   (lkI a39 s20.1).bind fun a41 =>
   (lkI x1.1.Hidden.Step s20.1).bind fun a43 =>
   (lkI a43 s32.1).bind fun a45 =>
   (g_hidden_watcher_shown x1.1 (IntKind.i64.wrap (s17.1+1)) s32.1).bind fun x47 =>
   some (.next (IntKind.i64.wrap (s32.1+1),(List.set s32.2 (Int.toNat s17.1) (List.set a39 (Int.toNat s20.1) (IntKind.i64.wrap (a41+(IntKind.i64.wrap ((IntKind.i64.wrap (a45*x47))*a37))))))))
  else none
 else
 some (.done s32.2)
def g_hidden_Smooth_b2 (x1:(Thidden_watcher × Int)) (s17:(Int × (List (List Int)))) (s20:(Int × (List (List Int)))):Option (Step (Int × (List (List Int))) (List (List Int))) :=
 if (decide (s20.1 < (x1.1.Hidden.First.length:Int)))=true then
  if (s17.1==(IntKind.i64.wrap ((x1.1.seen.length:Int) - 1)))=true then
   (lkI s20.2 s17.1).bind fun a25 =>
   (lkI a25 s20.1).bind fun a27 =>
   some (.next (IntKind.i64.wrap (s20.1+1),(List.set s20.2 (Int.toNat s17.1) (List.set a25 (Int.toNat s20.1) 1))))
  else
  (lkI s20.2 (IntKind.i64.wrap (s17.1+1))).bind fun a30 =>
  (whileN fuel (g_hidden_Smooth_b1 a30 s17 s20 x1) (0,s20.2)).bind fun x51 =>
  some (.next (IntKind.i64.wrap (s20.1+1),x51))
 else
 some (.done s20.2)
def g_hidden_Smooth_b3 (x1:(Thidden_watcher × Int)) (s17:(Int × (List (List Int)))):Option (Step (Int × (List (List Int))) (List (List Int))) :=
 if (decide (s17.1≥0))=true then
  (whileN fuel (g_hidden_Smooth_b2 x1 s17) (0,s17.2)).bind fun x53 =>
  some (.next (IntKind.i64.wrap (s17.1 - 1),x53))
 else
 some (.done s17.2)
def g_hidden_Smooth_b4 (a59:(List Int)) (s56:(Int × (List (List Tapi_Q)) × (List (List Int)))) (x5:((List (List Int)) × Int)) (s61:(Int × (List (List Int)))):Option (Step (Int × (List (List Int))) (List (List Int))) :=
 if (decide (s61.1 < (a59.length:Int)))=true then
  (lkI s61.2 s56.1).bind fun a64 =>
  (lkI a64 s61.1).bind fun a66 =>
  if s61.1 < (a59.length:Int) then
   (lkI x5.1 s56.1).bind fun a68 =>
   (lkI a68 s61.1).bind fun a70 =>
   if s61.1 < (a59.length:Int) then
    some (.next (IntKind.i64.wrap (s61.1+1),(List.set s61.2 (Int.toNat s56.1) (List.set a64 (Int.toNat s61.1) (IntKind.i64.wrap (a66*a70))))))
   else none
  else none
 else
 some (.done s61.2)
def g_hidden_Smooth_b5 (x55:(List (List Int))) (x5:((List (List Int)) × Int)) (s56:(Int × (List (List Tapi_Q)) × (List (List Int)))):Option (Step (Int × (List (List Tapi_Q)) × (List (List Int))) (List (List Tapi_Q))) :=
 if (decide (s56.1 < (x55.length:Int)))=true then
  (lkI s56.2.2 s56.1).bind fun a59 =>
  (whileN fuel (g_hidden_Smooth_b4 a59 s56 x5) (0,s56.2.2)).bind fun x74 =>
  (lkI x74 s56.1).bind fun a75 =>
  if a59.length=a75.length then
   (g_hidden_divide_int a75).bind fun x77 =>
   if (s56.2.1++([x77]:(List (List Tapi_Q)))).length*24≤140737488355328 then
    some (.next (IntKind.i64.wrap (s56.1+1),(s56.2.1++([x77]:(List (List Tapi_Q)))),x74))
   else none
  else none
 else
 some (.done s56.2.1)
def g_hidden_Smooth (p0:Tapi_Hidden) (p1:(List Int)):Option ((List (List Tapi_Q)) × Int) :=
 (g_hidden_newWatcher p0 p1).bind fun x1 =>
 if (x1.2 != 0)=true then
  some (([]:(List (List Tapi_Q))),x1.2)
 else
 (g_hidden_watcher_possible x1.1).bind fun x5 =>
 if (x5.2 != 0)=true then
  some (([]:(List (List Tapi_Q))),x5.2)
 else
 if 0≤(x1.1.seen.length:Int)∧(x1.1.seen.length:Int)≤(x1.1.seen.length:Int)∧(x1.1.seen.length:Int)*24≤140737488355328 then
  (whileN fuel (g_hidden_Smooth_b0 x1) (0,(List.replicate (Int.toNat (x1.1.seen.length:Int)) ([]:(List Int))))).bind fun x16 =>
  (whileN fuel (g_hidden_Smooth_b3 x1) (IntKind.i64.wrap ((x1.1.seen.length:Int) - 1),x16)).bind fun x55 =>
  (whileN fuel (g_hidden_Smooth_b5 x55 x5) (0,([]:(List (List Tapi_Q))),x55)).bind fun x81 =>
  some (x81,0)
 else none
def g_ref17_SameQ_b0 (p0:(List Tapi_Q)) (p1:(List Tapi_Q)) (s3:Int):Option (Step Int (Unit ⊕ Unit)) :=
 if (decide (s3 < (p0.length:Int)))=true then
  (lkI p0 s3).bind fun a6 =>
  (lkI p1 s3).bind fun a8 =>
  if (!((a6.N==a8.N) && ((a6.D==a8.D) && true)))=true then
   some (.done (Sum.inl ()))
  else
  some (.next (IntKind.i64.wrap (s3+1)))
 else
 some (.done (Sum.inr ()))
def g_ref17_SameQ (p0:(List Tapi_Q)) (p1:(List Tapi_Q)):Option Bool :=
 if ((p0.length:Int) != (p1.length:Int))=true then
  some false
 else
 (whileN fuel (g_ref17_SameQ_b0 p0 p1) 0).bind fun x12=>match x12 with
 | .inl x13=>(
  some false)
 | .inr x14=>(
  some true)
def g_ref17_SameQs_b0 (p0:(List (List Tapi_Q))) (p1:(List (List Tapi_Q))) (s3:Int):Option (Step Int (Unit ⊕ Unit)) :=
 if (decide (s3 < (p0.length:Int)))=true then
  (lkI p0 s3).bind fun a6 =>
  (lkI p1 s3).bind fun a8 =>
  (g_ref17_SameQ a6 a8).bind fun x10 =>
  if (!x10)=true then
   some (.done (Sum.inl ()))
  else
  some (.next (IntKind.i64.wrap (s3+1)))
 else
 some (.done (Sum.inr ()))
def g_ref17_SameQs (p0:(List (List Tapi_Q))) (p1:(List (List Tapi_Q))):Option Bool :=
 if ((p0.length:Int) != (p1.length:Int))=true then
  some false
 else
 (whileN fuel (g_ref17_SameQs_b0 p0 p1) 0).bind fun x14=>match x14 with
 | .inl x15=>(
  some false)
 | .inr x16=>(
  some true)
def g_slices_Equal_api_Q_api_Q_b0 (p0:(List Tapi_Q)) (p1:(List Tapi_Q)) (s3:Int):Option (Step Int (Unit ⊕ Unit)) :=
 if (decide (s3 < (p0.length:Int)))=true then
  (lkI p0 s3).bind fun a6 =>
  (lkI p1 s3).bind fun a8 =>
  if (!((a6.N==a8.N) && ((a6.D==a8.D) && true)))=true then
   some (.done (Sum.inl ()))
  else
  some (.next (IntKind.i64.wrap (s3+1)))
 else
 some (.done (Sum.inr ()))
def g_slices_Equal_api_Q_api_Q (p0:(List Tapi_Q)) (p1:(List Tapi_Q)):Option Bool :=
 if ((p0.length:Int) != (p1.length:Int))=true then
  some false
 else
 (whileN fuel (g_slices_Equal_api_Q_api_Q_b0 p0 p1) 0).bind fun x12=>match x12 with
 | .inl x13=>(
  some false)
 | .inr x14=>(
  some true)
def g_law17_sample  : Option Tapi_Hidden :=
 some (Tapi_Hidden.mk 4 ([1,3]:(List Int)) ([[2,2],[0,4]]:(List (List Int))) ([[4,0],[1,3]]:(List (List Int))))
def g_law17_wakes  : Option Bool :=
 (g_law17_sample).bind fun x1 =>
 (g_hidden_Forward x1 [0,1]).bind fun x3 =>
 (g_hidden_Backward x1 [0,1]).bind fun x5 =>
 (g_hidden_Prob x1 [0,1]).bind fun x7 =>
 (g_hidden_Smooth x1 [0,1]).bind fun x9 =>
 (g_hidden_Predict x1 [0] 1).bind fun x11 =>
 if (x3.2==0)=true then
  if (x5.2==0)=true then
   if (x7.2==0)=true then
    if (x9.2==0)=true then
     if (x11.2==0)=true then
      (g_ref17_SameTable x3.1 [[4,3],[0,60]]).bind fun x23 =>
      if x23=true then
       (g_ref17_SameTable x5.1 [[6,12],[1,1]]).bind fun x27 =>
       if x27=true then
        (g_law17_q 15 64).bind fun x31 =>
        if ((x7.1.N==x31.N) && ((x7.1.D==x31.D) && true))=true then
         (g_law17_q 2 5).bind fun x35 =>
         (g_law17_q 3 5).bind fun x37 =>
         (g_law17_q 0 1).bind fun x39 =>
         (g_law17_q 1 1).bind fun x41 =>
         (g_ref17_SameQs x9.1 [[x35,x37],[x39,x41]]).bind fun x43 =>
         if x43=true then
          (g_law17_q 2 7).bind fun x47 =>
          (g_law17_q 5 7).bind fun x49 =>
          (g_slices_Equal_api_Q_api_Q x11.1 [x47,x49]).bind fun x51 =>
          if x51=true then
           (g_hidden_Check x1).bind fun x55 =>
           if (x55==0)=true then
            (g_hidden_Check (Tapi_Hidden.mk 0 [] [] [])).bind fun x59 =>
            some (x59==170)
           else
           some false
          else
          some false
         else
         some false
        else
        some false
       else
       some false
      else
      some false
     else
     some false
    else
    some false
   else
   some false
  else
  some false
 else
 some false
def g_ref17_Split_b0 (p0:Int) (p2:(List Int)) (s1:(Int × Int × (List Int))):Option (Step (Int × Int × (List Int)) (List Int)) :=
 if (decide (s1.2.1 < p0))=true then
  if (decide (s1.2.1 < (IntKind.i64.wrap (p0 - 1))))=true then
   if (decide (s1.2.1 < (p2.length:Int)))=true then
    (lkI p2 s1.2.1).bind fun a8 =>
    if (IntKind.i64.wrap (s1.1+1))≠0 then
     if (s1.2.2++([Int.tmod (IntKind.i64.wrap (a8)) (IntKind.i64.wrap (s1.1+1))]:(List Int))).length*8≤140737488355328 then
      some (.next (IntKind.i64.wrap (s1.1 - (Int.tmod (IntKind.i64.wrap (a8)) (IntKind.i64.wrap (s1.1+1)))),IntKind.i64.wrap (s1.2.1+1),(s1.2.2++([Int.tmod (IntKind.i64.wrap (a8)) (IntKind.i64.wrap (s1.1+1))]:(List Int)))))
     else none
    else none
   else
   if (s1.2.2++([0]:(List Int))).length*8≤140737488355328 then
    some (.next (IntKind.i64.wrap (s1.1 - 0),IntKind.i64.wrap (s1.2.1+1),(s1.2.2++([0]:(List Int)))))
   else none
  else
  if (s1.2.2++([s1.1]:(List Int))).length*8≤140737488355328 then
   some (.next (IntKind.i64.wrap (s1.1 - s1.1),IntKind.i64.wrap (s1.2.1+1),(s1.2.2++([s1.1]:(List Int)))))
  else none
 else
 some (.done s1.2.2)
def g_ref17_Split (p0:Int) (p1:Int) (p2:(List Int)):Option (List Int) :=
 (whileN fuel (g_ref17_Split_b0 p0 p2) (p1,0,([]:(List Int)))).bind fun x11 =>
 some x11
def g_ref17_Draft_from_b0 (p0:Tharuspexref17_Draft) (p1:Int) (s3:(Int × (List Int))):Option (Step (Int × (List Int)) (List Int)) :=
 if (decide (s3.1 < 4))=true then
  if (p0.L.length:Int)≠0 then
   (lkI p0.L (Int.tmod (IntKind.i64.wrap (p1+s3.1)) (p0.L.length:Int))).bind fun a6 =>
   if (s3.2++([a6]:(List Int))).length*1≤140737488355328 then
    some (.next (IntKind.i64.wrap (s3.1+1),(s3.2++([a6]:(List Int)))))
   else none
  else none
 else
 some (.done s3.2)
def g_ref17_Draft_from (p0:Tharuspexref17_Draft) (p1:Int):Option (List Int) :=
 if ((p0.L.length:Int)==0)=true then
  some ([]:(List Int))
 else
 (whileN fuel (g_ref17_Draft_from_b0 p0 p1) (0,([]:(List Int)))).bind fun x9 =>
 some x9
def g_ref17_Draft_Hidden_b0 (p0:Tharuspexref17_Draft) (s5:(Int × (List (List Int)) × (List (List Int)))):Option (Step (Int × (List (List Int)) × (List (List Int))) ((List (List Int)) × (List (List Int)))) :=
 if (decide (s5.1 < (IntKind.i64.wrap (1+(IntKind.i64.wrap (Int.tmod p0.States 4))))))=true then
  (g_ref17_Draft_from p0 (IntKind.i64.wrap (4+(IntKind.i64.wrap (8*s5.1))))).bind fun x8 =>
  (g_ref17_Split (IntKind.i64.wrap (1+(IntKind.i64.wrap (Int.tmod p0.States 4)))) (IntKind.i64.wrap (1+(IntKind.i64.wrap (Int.tmod p0.Grain 12)))) x8).bind fun x10 =>
  if (s5.2.1++([x10]:(List (List Int)))).length*24≤140737488355328 then
   (g_ref17_Draft_from p0 (IntKind.i64.wrap (8+(IntKind.i64.wrap (8*s5.1))))).bind fun x12 =>
   (g_ref17_Split (IntKind.i64.wrap (1+(IntKind.i64.wrap (Int.tmod p0.Shows 4)))) (IntKind.i64.wrap (1+(IntKind.i64.wrap (Int.tmod p0.Grain 12)))) x12).bind fun x14 =>
   if (s5.2.2++([x14]:(List (List Int)))).length*24≤140737488355328 then
    some (.next (IntKind.i64.wrap (s5.1+1),(s5.2.1++([x10]:(List (List Int)))),(s5.2.2++([x14]:(List (List Int))))))
   else none
  else none
 else
 some (.done (s5.2.1,s5.2.2))
def g_ref17_Draft_Hidden (p0:Tharuspexref17_Draft):Option Tapi_Hidden :=
 (g_ref17_Draft_from p0 0).bind fun x1 =>
 (g_ref17_Split (IntKind.i64.wrap (1+(IntKind.i64.wrap (Int.tmod p0.States 4)))) (IntKind.i64.wrap (1+(IntKind.i64.wrap (Int.tmod p0.Grain 12)))) x1).bind fun x3 =>
 (whileN fuel (g_ref17_Draft_Hidden_b0 p0) (0,([]:(List (List Int))),([]:(List (List Int))))).bind fun x17 =>
 some (Tapi_Hidden.mk (IntKind.i64.wrap (1+(IntKind.i64.wrap (Int.tmod p0.Grain 12)))) x3 x17.1 x17.2)
def g_ref17_Bend_Of_b0 (p1:Tapi_Hidden) (s1:(Int × (List (List Int)))):Option (Step (Int × (List (List Int))) (List (List Int))) :=
 if (decide (s1.1 < (p1.Step.length:Int)))=true then
  (lkI p1.Step s1.1).bind fun a4 =>
  if a4.length*8≤140737488355328 then
   if (s1.2++[a4]).length*24≤140737488355328 then
    some (.next (IntKind.i64.wrap (s1.1+1),(s1.2++[a4])))
   else none
  else none
 else
 some (.done s1.2)
def g_ref17_Bend_Of_b1 (p1:Tapi_Hidden) (s8:(Int × (List (List Int)))):Option (Step (Int × (List (List Int))) (List (List Int))) :=
 if (decide (s8.1 < (p1.Show.length:Int)))=true then
  (lkI p1.Show s8.1).bind fun a11 =>
  if a11.length*8≤140737488355328 then
   if (s8.2++[a11]).length*24≤140737488355328 then
    some (.next (IntKind.i64.wrap (s8.1+1),(s8.2++[a11])))
   else none
  else none
 else
 some (.done s8.2)
def g_ref17_Bend_Of (p0:Tharuspexref17_Bend) (p1:Tapi_Hidden):Option Tapi_Hidden :=
 (whileN fuel (g_ref17_Bend_Of_b0 p1) (0,([]:List (List Int)))).bind fun x7 =>
 (whileN fuel (g_ref17_Bend_Of_b1 p1) (0,([]:List (List Int)))).bind fun x14 =>
 if p1.First.length*8≤140737488355328 then
  if ((Int.tmod p0.What 8)==0)=true then
   some (Tapi_Hidden.mk p0.N p1.First x7 x14)
  else
  if ((Int.tmod p0.What 8)==1)=true then
   if (p1.First.length:Int)≠0 then
    (lkI p1.First (Int.tmod (IntKind.i64.wrap (p0.At)) (p1.First.length:Int))).bind fun a19 =>
    (lkI p1.First (Int.tmod (IntKind.i64.wrap (p0.At)) (p1.First.length:Int))).bind fun a21 =>
    some (Tapi_Hidden.mk p1.Grain (List.set p1.First (Int.toNat (Int.tmod (IntKind.i64.wrap (p0.At)) (p1.First.length:Int))) p0.N) x7 x14)
   else none
  else
  if ((Int.tmod p0.What 8)==2)=true then
   if (x7.length:Int)≠0 then
    (lkI x7 (Int.tmod (IntKind.i64.wrap (p0.S)) (x7.length:Int))).bind fun a26 =>
    if (a26.length:Int)≠0 then
     (lkI a26 (Int.tmod (IntKind.i64.wrap (p0.At)) (a26.length:Int))).bind fun a28 =>
     some (Tapi_Hidden.mk p1.Grain p1.First (List.set x7 (Int.toNat (Int.tmod (IntKind.i64.wrap (p0.S)) (x7.length:Int))) (List.set a26 (Int.toNat (Int.tmod (IntKind.i64.wrap (p0.At)) (a26.length:Int))) p0.N)) x14)
    else none
   else none
  else
  if ((Int.tmod p0.What 8)==3)=true then
   if (x14.length:Int)≠0 then
    (lkI x14 (Int.tmod (IntKind.i64.wrap (p0.S)) (x14.length:Int))).bind fun a33 =>
    if (a33.length:Int)≠0 then
     (lkI a33 (Int.tmod (IntKind.i64.wrap (p0.At)) (a33.length:Int))).bind fun a35 =>
     some (Tapi_Hidden.mk p1.Grain p1.First x7 (List.set x14 (Int.toNat (Int.tmod (IntKind.i64.wrap (p0.S)) (x14.length:Int))) (List.set a33 (Int.toNat (Int.tmod (IntKind.i64.wrap (p0.At)) (a33.length:Int))) p0.N)))
    else none
   else none
  else
  if ((Int.tmod p0.What 8)==4)=true then
   if 0≤(1:Int)∧(1:Int)≤(x7.length:Int)∧(x7.length:Int)≤(x7.length:Int) then
    some (Tapi_Hidden.mk p1.Grain p1.First (sub x7 1 (x7.length:Int)) x14)
   else none
  else
  if ((Int.tmod p0.What 8)==5)=true then
   (lkI x14 (Int.tmod (IntKind.i64.wrap (p0.S)) (x14.length:Int))).bind fun a43 =>
   if (((List.set x14 (Int.toNat (Int.tmod (IntKind.i64.wrap (p0.S)) (x14.length:Int))) ([]:List Int)).length):Int)≠0 then
    if (((List.set x14 (Int.toNat (Int.tmod (IntKind.i64.wrap (p0.S)) (x14.length:Int))) ([]:List Int)).length):Int)≠0 then
     if (a43++([0]:(List Int))).length*8≤140737488355328 then
      some (Tapi_Hidden.mk p1.Grain p1.First x7 (List.set (List.set x14 (Int.toNat (Int.tmod (IntKind.i64.wrap (p0.S)) (x14.length:Int))) ([]:List Int)) (Int.toNat (Int.tmod (IntKind.i64.wrap (p0.S)) (x14.length:Int))) (a43++([0]:(List Int)))))
     else none
    else none
   else none
  else
  if ((Int.tmod p0.What 8)==6)=true then
   if (p1.First++([0]:(List Int))).length*8≤140737488355328 then
    some (Tapi_Hidden.mk p1.Grain (p1.First++([0]:(List Int))) x7 x14)
   else none
  else
  some (Tapi_Hidden.mk p1.Grain p1.First x7 [])
 else none
def g_law17_few_b0 (p0:Tapi_Hidden) (s1:(Int × (List (List Int)))):Option (Step (Int × (List (List Int))) (List (List Int))) :=
 if (decide (s1.1 < ((sub p0.Step 0 (if 6 < (p0.Step.length:Int) then 6 else (p0.Step.length:Int))).length:Int)))=true then
  (lkI (sub p0.Step 0 (if 6 < (p0.Step.length:Int) then 6 else (p0.Step.length:Int))) s1.1).bind fun a4 =>
  if 0≤(0:Int)∧(0:Int)≤(if 6 < (a4.length:Int) then 6 else (a4.length:Int))∧(if 6 < (a4.length:Int) then 6 else (a4.length:Int))≤(a4.length:Int) then
   if (s1.2++([(sub a4 0 (if 6 < (a4.length:Int) then 6 else (a4.length:Int)))]:(List (List Int)))).length*24≤140737488355328 then
    some (.next (IntKind.i64.wrap (s1.1+1),(s1.2++([(sub a4 0 (if 6 < (a4.length:Int) then 6 else (a4.length:Int)))]:(List (List Int))))))
   else none
  else none
 else
 some (.done s1.2)
def g_law17_few_b1 (p0:Tapi_Hidden) (s8:(Int × (List (List Int)))):Option (Step (Int × (List (List Int))) (List (List Int))) :=
 if (decide (s8.1 < ((sub p0.Show 0 (if 6 < (p0.Show.length:Int) then 6 else (p0.Show.length:Int))).length:Int)))=true then
  (lkI (sub p0.Show 0 (if 6 < (p0.Show.length:Int) then 6 else (p0.Show.length:Int))) s8.1).bind fun a11 =>
  if 0≤(0:Int)∧(0:Int)≤(if 6 < (a11.length:Int) then 6 else (a11.length:Int))∧(if 6 < (a11.length:Int) then 6 else (a11.length:Int))≤(a11.length:Int) then
   if (s8.2++([(sub a11 0 (if 6 < (a11.length:Int) then 6 else (a11.length:Int)))]:(List (List Int)))).length*24≤140737488355328 then
    some (.next (IntKind.i64.wrap (s8.1+1),(s8.2++([(sub a11 0 (if 6 < (a11.length:Int) then 6 else (a11.length:Int)))]:(List (List Int))))))
   else none
  else none
 else
 some (.done s8.2)
def g_law17_few (p0:Tapi_Hidden):Option Tapi_Hidden :=
 if 0≤(0:Int)∧(0:Int)≤(if 6 < (p0.First.length:Int) then 6 else (p0.First.length:Int))∧(if 6 < (p0.First.length:Int) then 6 else (p0.First.length:Int))≤(p0.First.length:Int) then
  if 0≤(0:Int)∧(0:Int)≤(if 6 < (p0.Step.length:Int) then 6 else (p0.Step.length:Int))∧(if 6 < (p0.Step.length:Int) then 6 else (p0.Step.length:Int))≤(p0.Step.length:Int) then
   (whileN fuel (g_law17_few_b0 p0) (0,([]:(List (List Int))))).bind fun x7 =>
   if 0≤(0:Int)∧(0:Int)≤(if 6 < (p0.Show.length:Int) then 6 else (p0.Show.length:Int))∧(if 6 < (p0.Show.length:Int) then 6 else (p0.Show.length:Int))≤(p0.Show.length:Int) then
    (whileN fuel (g_law17_few_b1 p0) (0,([]:(List (List Int))))).bind fun x14 =>
    some (Tapi_Hidden.mk p0.Grain (sub p0.First 0 (if 6 < (p0.First.length:Int) then 6 else (p0.First.length:Int))) x7 x14)
   else none
  else none
 else none
def g_law17_chains (p0:Tharuspexref17_Draft) (p1:Tharuspexref17_Bend) (p2:Tapi_Hidden):Option (Tapi_Hidden × Tapi_Hidden × Tapi_Hidden) :=
 (g_ref17_Draft_Hidden p0).bind fun x1 =>
 (g_ref17_Bend_Of p1 x1).bind fun x3 =>
 (g_law17_few p2).bind fun x5 =>
 some (x1,x3,x5)
def g_ref17_row_b0 (p0:(List Int)) (p2:Int) (s1:(Int × Int)):Option (Step (Int × Int) (Unit ⊕ Int)) :=
 if (decide (s1.2 < (p0.length:Int)))=true then
  (lkI p0 s1.2).bind fun a4 =>
  if (decide (a4 < 0))=true then
   some (.done (Sum.inl ()))
  else
  if (decide (a4 > p2))=true then
   some (.done (Sum.inl ()))
  else
  some (.next (IntKind.i64.wrap (s1.1+a4),IntKind.i64.wrap (s1.2+1)))
 else
 some (.done (Sum.inr s1.1))
def g_ref17_row (p0:(List Int)) (p1:Int) (p2:Int):Option Bool :=
 (whileN fuel (g_ref17_row_b0 p0 p2) (0,0)).bind fun x10=>match x10 with
 | .inl x11=>(
  some false)
 | .inr x12=>(
  if ((p0.length:Int)==p1)=true then
   some (x12==p2)
  else
  some false)
def g_ref17_Right_b0 (p0:Tapi_Hidden) (a17:(List Int)) (s23:Int):Option (Step Int (Unit ⊕ Unit)) :=
 if (decide (s23 < (p0.First.length:Int)))=true then
  (lkI p0.Step s23).bind fun a26 =>
  (g_ref17_row a26 (p0.First.length:Int) p0.Grain).bind fun x28 =>
  if (!x28)=true then
   some (.done (Sum.inl ()))
  else
  (lkI p0.Show s23).bind fun a32 =>
  (g_ref17_row a32 (a17.length:Int) p0.Grain).bind fun x34 =>
  if (!x34)=true then
   some (.done (Sum.inl ()))
  else
  some (.next (IntKind.i64.wrap (s23+1)))
 else
 some (.done (Sum.inr ()))
def g_ref17_Right (p0:Tapi_Hidden):Option Bool :=
 if (decide (p0.Grain < 1))=true then
  some false
 else
 if (decide (p0.Grain > 12))=true then
  some false
 else
 if (decide ((p0.First.length:Int) < 1))=true then
  some false
 else
 if (decide ((p0.First.length:Int) > 4))=true then
  some false
 else
 (g_ref17_row p0.First (p0.First.length:Int) p0.Grain).bind fun x9 =>
 if (!x9)=true then
  some false
 else
 if ((p0.Step.length:Int) != (p0.First.length:Int))=true then
  some false
 else
 if ((p0.Show.length:Int) != (p0.First.length:Int))=true then
  some false
 else
 (lkI p0.Show 0).bind fun a17 =>
 if (decide ((a17.length:Int) < 1))=true then
  some false
 else
 if (decide ((a17.length:Int) > 4))=true then
  some false
 else
 (whileN fuel (g_ref17_Right_b0 p0 a17) 0).bind fun x38=>match x38 with
 | .inl x39=>(
  some false)
 | .inr x40=>(
  some true)
def g_hidden_Filter_b0 (x5:((List (List Int)) × Int)) (s9:(Int × (List (List Tapi_Q)))):Option (Step (Int × (List (List Tapi_Q))) (List (List Tapi_Q))) :=
 if (decide (s9.1 < (x5.1.length:Int)))=true then
  (lkI x5.1 s9.1).bind fun a12 =>
  (g_hidden_divide_int a12).bind fun x14 =>
  if (s9.2++([x14]:(List (List Tapi_Q)))).length*24≤140737488355328 then
   some (.next (IntKind.i64.wrap (s9.1+1),(s9.2++([x14]:(List (List Tapi_Q))))))
  else none
 else
 some (.done s9.2)
def g_hidden_Filter (p0:Tapi_Hidden) (p1:(List Int)):Option ((List (List Tapi_Q)) × Int) :=
 (g_hidden_newWatcher p0 p1).bind fun x1 =>
 if (x1.2 != 0)=true then
  some (([]:(List (List Tapi_Q))),x1.2)
 else
 (g_hidden_watcher_possible x1.1).bind fun x5 =>
 if (x5.2 != 0)=true then
  some (([]:(List (List Tapi_Q))),x5.2)
 else
 (whileN fuel (g_hidden_Filter_b0 x5) (0,([]:(List (List Tapi_Q))))).bind fun x17 =>
 some (x17,0)
def g_slices_Clone_int_int_c (c0:Int) (d0:(List Int)):Option (List Int) :=
 if (c0::d0).length*8≤140737488355328 then
  some (c0::d0)
 else none
def g_slices_Clone_int_int_e  : Option (List Int) :=
 some ([]:(List Int))
def g_slices_Clone_int_int_n  : Option (List Int) :=
 some ([]:(List Int))
def g_slices_Clone_int_int (p0:(List Int)):Option (List Int) :=
 match p0 with
 | []=>(g_slices_Clone_int_int_n).bind fun x=>(g_slices_Clone_int_int_e).bind fun y=>if x=y then some x else none
 | c0::d0=>g_slices_Clone_int_int_c c0 d0
def g_hidden_copied_b0 (p0:(List (List Int))) (s1:(Int × (List (List Int)))):Option (Step (Int × (List (List Int))) (List (List Int))) :=
 if (decide (s1.1 < (p0.length:Int)))=true then
  (lkI p0 s1.1).bind fun a4 =>
  (g_slices_Clone_int_int a4).bind fun x6 =>
  if (s1.2++([x6]:(List (List Int)))).length*24≤140737488355328 then
   some (.next (IntKind.i64.wrap (s1.1+1),(s1.2++([x6]:(List (List Int))))))
  else none
 else
 some (.done s1.2)
def g_hidden_copied (p0:(List (List Int))):Option (List (List Int)) :=
 (whileN fuel (g_hidden_copied_b0 p0) (0,([]:(List (List Int))))).bind fun x9 =>
 some x9
def g_hidden_Net_b0 (p1:Int) (p0:Tapi_Hidden) (a7:(List Int)) (s15:(Int × (List Tapi_Node))):Option (Step (Int × (List Tapi_Node)) (List Tapi_Node)) :=
 if (decide (s15.1 < p1))=true then
  (g_hidden_copied [p0.First]).bind fun x18 =>
  if (decide (s15.1 > 0))=true then
   (g_hidden_copied p0.Step).bind fun x22 =>
   (g_hidden_copied p0.Show).bind fun x24 =>
   if (s15.2++([(Tapi_Node.mk (p0.First.length:Int) [IntKind.i64.wrap ((IntKind.i64.wrap (2*s15.1)) - 2)] x22),(Tapi_Node.mk (a7.length:Int) [IntKind.i64.wrap (2*s15.1)] x24)]:(List Tapi_Node))).length*56≤140737488355328 then
    some (.next (IntKind.i64.wrap (s15.1+1),(s15.2++([(Tapi_Node.mk (p0.First.length:Int) [IntKind.i64.wrap ((IntKind.i64.wrap (2*s15.1)) - 2)] x22),(Tapi_Node.mk (a7.length:Int) [IntKind.i64.wrap (2*s15.1)] x24)]:(List Tapi_Node)))))
   else none
  else
  (g_hidden_copied p0.Show).bind fun x26 =>
  if (s15.2++([(Tapi_Node.mk (p0.First.length:Int) [] x18),(Tapi_Node.mk (a7.length:Int) [IntKind.i64.wrap (2*s15.1)] x26)]:(List Tapi_Node))).length*56≤140737488355328 then
   some (.next (IntKind.i64.wrap (s15.1+1),(s15.2++([(Tapi_Node.mk (p0.First.length:Int) [] x18),(Tapi_Node.mk (a7.length:Int) [IntKind.i64.wrap (2*s15.1)] x26)]:(List Tapi_Node)))))
  else none
 else
 some (.done s15.2)
def g_hidden_Net (p0:Tapi_Hidden) (p1:Int):Option (Tapi_Net × Int) :=
 (g_hidden_Check p0).bind fun x1 =>
 if (x1 != 0)=true then
  some ((Tapi_Net.mk 0 ([]:(List Tapi_Node))),x1)
 else
 if (decide (p1 < 1))=true then
  some ((Tapi_Net.mk 0 ([]:(List Tapi_Node))),2)
 else
 (lkI p0.Show 0).bind fun a7 =>
 if (decide (p1 > 4))=true then
  some ((Tapi_Net.mk 0 ([]:(List Tapi_Node))),6)
 else
 (g_weigh_Whole (IntKind.i64.wrap ((p0.First.length:Int)*(a7.length:Int))) p1).bind fun x11 =>
 if (decide (x11 > 1024))=true then
  some ((Tapi_Net.mk 0 ([]:(List Tapi_Node))),6)
 else
 (whileN fuel (g_hidden_Net_b0 p1 p0 a7) (0,([]:(List Tapi_Node)))).bind fun x29 =>
 some ((Tapi_Net.mk p0.Grain x29),0)
def g_ref17_Net_b0 (p1:Int) (p0:Tapi_Hidden) (s9:(Int × Int × (List Tapi_Node))):Option (Step (Int × Int × (List Tapi_Node)) (Int × (List Tapi_Node))) :=
 if (decide (s9.2.1 < p1))=true then
  if (decide (s9.2.1 > 0))=true then
   if (s9.2.2++([(Tapi_Node.mk (p0.First.length:Int) [IntKind.i64.wrap ((IntKind.i64.wrap (2*s9.2.1)) - 2)] p0.Step)]:(List Tapi_Node))).length*56≤140737488355328 then
    (lkI p0.Show 0).bind fun a14 =>
    if ((s9.2.2++([(Tapi_Node.mk (p0.First.length:Int) [IntKind.i64.wrap ((IntKind.i64.wrap (2*s9.2.1)) - 2)] p0.Step)]:(List Tapi_Node)))++([(Tapi_Node.mk (a14.length:Int) [IntKind.i64.wrap (2*s9.2.1)] p0.Show)]:(List Tapi_Node))).length*56≤140737488355328 then
     some (.next (IntKind.i64.wrap ((IntKind.i64.wrap (s9.1*(p0.First.length:Int)))*(a14.length:Int)),IntKind.i64.wrap (s9.2.1+1),((s9.2.2++([(Tapi_Node.mk (p0.First.length:Int) [IntKind.i64.wrap ((IntKind.i64.wrap (2*s9.2.1)) - 2)] p0.Step)]:(List Tapi_Node)))++([(Tapi_Node.mk (a14.length:Int) [IntKind.i64.wrap (2*s9.2.1)] p0.Show)]:(List Tapi_Node)))))
    else none
   else none
  else
  if (s9.2.2++([(Tapi_Node.mk (p0.First.length:Int) [] [p0.First])]:(List Tapi_Node))).length*56≤140737488355328 then
   (lkI p0.Show 0).bind fun a16 =>
   if ((s9.2.2++([(Tapi_Node.mk (p0.First.length:Int) [] [p0.First])]:(List Tapi_Node)))++([(Tapi_Node.mk (a16.length:Int) [IntKind.i64.wrap (2*s9.2.1)] p0.Show)]:(List Tapi_Node))).length*56≤140737488355328 then
    some (.next (IntKind.i64.wrap ((IntKind.i64.wrap (s9.1*(p0.First.length:Int)))*(a16.length:Int)),IntKind.i64.wrap (s9.2.1+1),((s9.2.2++([(Tapi_Node.mk (p0.First.length:Int) [] [p0.First])]:(List Tapi_Node)))++([(Tapi_Node.mk (a16.length:Int) [IntKind.i64.wrap (2*s9.2.1)] p0.Show)]:(List Tapi_Node)))))
   else none
  else none
 else
 some (.done (s9.1,s9.2.2))
def g_ref17_Net (p0:Tapi_Hidden) (p1:Int):Option (Tapi_Net × Int) :=
 (g_ref17_Right p0).bind fun x1 =>
 if (!x1)=true then
  some ((Tapi_Net.mk 0 ([]:(List Tapi_Node))),170)
 else
 if (decide (p1 < 1))=true then
  some ((Tapi_Net.mk 0 ([]:(List Tapi_Node))),2)
 else
 if (decide (p1 > 4))=true then
  some ((Tapi_Net.mk 0 ([]:(List Tapi_Node))),6)
 else
 (whileN fuel (g_ref17_Net_b0 p1 p0) (1,0,([]:(List Tapi_Node)))).bind fun x19 =>
 if (decide (x19.1 > 1024))=true then
  some ((Tapi_Net.mk 0 ([]:(List Tapi_Node))),6)
 else
 some ((Tapi_Net.mk p0.Grain x19.2),0)
def g_slices_Equal_int_int_b0 (p0:(List Int)) (p1:(List Int)) (s3:Int):Option (Step Int (Unit ⊕ Unit)) :=
 if (decide (s3 < (p0.length:Int)))=true then
  (lkI p0 s3).bind fun a6 =>
  (lkI p1 s3).bind fun a8 =>
  if (a6 != a8)=true then
   some (.done (Sum.inl ()))
  else
  some (.next (IntKind.i64.wrap (s3+1)))
 else
 some (.done (Sum.inr ()))
def g_slices_Equal_int_int (p0:(List Int)) (p1:(List Int)):Option Bool :=
 if ((p0.length:Int) != (p1.length:Int))=true then
  some false
 else
 (whileN fuel (g_slices_Equal_int_int_b0 p0 p1) 0).bind fun x12=>match x12 with
 | .inl x13=>(
  some false)
 | .inr x14=>(
  some true)
def g_law17_HiddenNets_b0 (x17:(Tapi_Net × Int)) (x19:(Tapi_Net × Int)) (s27:Int):Option (Step Int (Unit ⊕ Unit)) :=
 if (decide (s27 < (x17.1.Nodes.length:Int)))=true then
  (lkI x17.1.Nodes s27).bind fun a30 =>
  (lkI x19.1.Nodes s27).bind fun a32 =>
  if (a30.Card != a32.Card)=true then
   some (.done (Sum.inl ()))
  else
  (g_slices_Equal_int_int a30.Parents a32.Parents).bind fun x36 =>
  if (!x36)=true then
   some (.done (Sum.inl ()))
  else
  (g_ref17_SameTable a30.Rows a32.Rows).bind fun x40 =>
  if (!x40)=true then
   some (.done (Sum.inl ()))
  else
  some (.next (IntKind.i64.wrap (s27+1)))
 else
 some (.done (Sum.inr ()))
def g_law17_HiddenNets_b1 (p3:Int) (a10:Tapi_Hidden) (s12:Int):Option (Step Int (Unit ⊕ Unit)) :=
 if (decide (s12 < 5))=true then
  (lkI ([p3,1,2,3,4]:(List Int)) s12).bind fun a15 =>
  (g_hidden_Net a10 a15).bind fun x17 =>
  (g_ref17_Net a10 a15).bind fun x19 =>
  if (x17.2 != x19.2)=true then
   some (.done (Sum.inl ()))
  else
  if (x17.1.Grain != x19.1.Grain)=true then
   some (.done (Sum.inl ()))
  else
  if ((x17.1.Nodes.length:Int) != (x19.1.Nodes.length:Int))=true then
   some (.done (Sum.inl ()))
  else
  (whileN fuel (g_law17_HiddenNets_b0 x17 x19) 0).bind fun x44=>match x44 with
  | .inl x45=>(
   some (.done (Sum.inl ())))
  | .inr x46=>(
   some (.next (IntKind.i64.wrap (s12+1))))
 else
 some (.done (Sum.inr ()))
def g_law17_HiddenNets_b2 (x5:(Tapi_Hidden × Tapi_Hidden × Tapi_Hidden)) (p3:Int) (s7:Int):Option (Step Int (Unit ⊕ Unit)) :=
 if (decide (s7 < 3))=true then
  (lkI ([x5.1,x5.2.1,x5.2.2]:(List Tapi_Hidden)) s7).bind fun a10 =>
  (whileN fuel (g_law17_HiddenNets_b1 p3 a10) 0).bind fun x47=>match x47 with
  | .inl x48=>(
   some (.done (Sum.inl ())))
  | .inr x49=>(
   some (.next (IntKind.i64.wrap (s7+1))))
 else
 some (.done (Sum.inr ()))
def g_law17_HiddenNets (p0:Tharuspexref17_Draft) (p1:Tharuspexref17_Bend) (p2:Tapi_Hidden) (p3:Int):Option Bool :=
 (g_law17_wakes).bind fun x1 =>
 if (!x1)=true then
  some false
 else
 (g_law17_chains p0 p1 p2).bind fun x5 =>
 (whileN fuel (g_law17_HiddenNets_b2 x5 p3) 0).bind fun x50=>match x50 with
 | .inl x51=>(
  some false)
 | .inr x52=>(
  some true)
end Go.Ab
namespace Go.Ab
open Go Go.Proofs
set_option maxRecDepth 100000
set_option maxHeartbeats 4000000
theorem hfol:(Try.prog.follows .mixedOrders)=true:=by kernel_rfl
theorem bodyB_11:bodyB Try.prog 11=true:=by kernel_rfl
theorem bodyB_12:bodyB Try.prog 12=true:=by kernel_rfl
theorem bodyB_13:bodyB Try.prog 13=true:=by kernel_rfl
theorem bodyB_14:bodyB Try.prog 14=true:=by kernel_rfl
theorem bodyB_16:bodyB Try.prog 16=true:=by kernel_rfl
theorem bodyB_17:bodyB Try.prog 17=true:=by kernel_rfl
theorem bodyB_19:bodyB Try.prog 19=true:=by kernel_rfl
theorem bodyB_22:bodyB Try.prog 22=true:=by kernel_rfl
theorem bodyB_24:bodyB Try.prog 24=true:=by kernel_rfl
theorem bodyB_25:bodyB Try.prog 25=true:=by kernel_rfl
theorem bodyB_26:bodyB Try.prog 26=true:=by kernel_rfl
theorem bodyB_28:bodyB Try.prog 28=true:=by kernel_rfl
theorem bodyB_32:bodyB Try.prog 32=true:=by kernel_rfl
theorem bodyB_34:bodyB Try.prog 34=true:=by kernel_rfl
theorem bodyB_35:bodyB Try.prog 35=true:=by kernel_rfl
theorem bodyB_36:bodyB Try.prog 36=true:=by kernel_rfl
theorem bodyB_37:bodyB Try.prog 37=true:=by kernel_rfl
theorem bodyB_38:bodyB Try.prog 38=true:=by kernel_rfl
theorem bodyB_39:bodyB Try.prog 39=true:=by kernel_rfl
theorem bodyB_40:bodyB Try.prog 40=true:=by kernel_rfl
theorem bodyB_41:bodyB Try.prog 41=true:=by kernel_rfl
theorem bodyB_55:bodyB Try.prog 55=true:=by kernel_rfl
theorem bodyB_56:bodyB Try.prog 56=true:=by kernel_rfl
theorem bodyB_57:bodyB Try.prog 57=true:=by kernel_rfl
theorem bodyB_58:bodyB Try.prog 58=true:=by kernel_rfl
theorem bodyB_59:bodyB Try.prog 59=true:=by kernel_rfl
theorem bodyB_60:bodyB Try.prog 60=true:=by kernel_rfl
theorem bodyB_61:bodyB Try.prog 61=true:=by kernel_rfl
theorem bodyB_62:bodyB Try.prog 62=true:=by kernel_rfl
theorem bodyB_64:bodyB Try.prog 64=true:=by kernel_rfl
theorem bodyB_70:bodyB Try.prog 70=true:=by kernel_rfl
theorem bodyB_71:bodyB Try.prog 71=true:=by kernel_rfl
theorem bodyB_72:bodyB Try.prog 72=true:=by kernel_rfl
theorem bodyB_73:bodyB Try.prog 73=true:=by kernel_rfl
theorem bodyB_76:bodyB Try.prog 76=true:=by kernel_rfl
theorem bodyB_77:bodyB Try.prog 77=true:=by kernel_rfl
theorem bodyB_78:bodyB Try.prog 78=true:=by kernel_rfl
theorem bodyB_79:bodyB Try.prog 79=true:=by kernel_rfl
theorem bodyB_80:bodyB Try.prog 80=true:=by kernel_rfl
theorem bodyB_83:bodyB Try.prog 83=true:=by kernel_rfl
theorem bodyB_84:bodyB Try.prog 84=true:=by kernel_rfl
theorem bodyB_93:bodyB Try.prog 93=true:=by kernel_rfl
theorem bodyB_95:bodyB Try.prog 95=true:=by kernel_rfl
theorem bodyB_98:bodyB Try.prog 98=true:=by kernel_rfl
theorem bodyB_99:bodyB Try.prog 99=true:=by kernel_rfl
theorem bodyB_113:bodyB Try.prog 113=true:=by kernel_rfl
theorem bodyB_114:bodyB Try.prog 114=true:=by kernel_rfl
theorem bodyB_115:bodyB Try.prog 115=true:=by kernel_rfl
theorem bodyB_116:bodyB Try.prog 116=true:=by kernel_rfl
theorem bodyB_126:bodyB Try.prog 126=true:=by kernel_rfl
theorem bodyB_127:bodyB Try.prog 127=true:=by kernel_rfl
theorem bodyB_128:bodyB Try.prog 128=true:=by kernel_rfl
theorem bodyB_129:bodyB Try.prog 129=true:=by kernel_rfl
theorem g_hidden_isRow_ok (p0:Int) (p1:(List Int)) (x:Bool) (h:g_hidden_isRow p0 p1=some x):CallOk Try.prog 57 [vI p0,z1 p1] (.ret (vB x) []):=by
 refine fn_ok [] Try.func57 rfl (by decide +kernel) rfl ?_
 unfold g_hidden_isRow at h
 refine wp_eqB (base':=0) (st':=⟨[(0,vI p0),(1,z1 p1)],[],26⟩) kr kr ?_
 refine sq (wp_seq (wp_seq (reg_in (sz 1 1 ?_))))
 refine lenL (enc:=eI) (l:=p1) (fl:=true) kr gE ?_
 refine sz 1 3 (reg_end rfl (wp_block ?_))
 refine wwh h (fun s1=>⟨[(0,vI s1.1),(7,z1 p1),(8,vI (zn p1)),(9,vI s1.2)],[],26⟩) (fun x out=>out=match x with | .inl v=>.go (.ret) ⟨[(4,vB false)],[],26⟩ | .inr v=>.go (.exit 0) ⟨[(0,vI v)],[],26⟩) (wk_gc (live:=[0,7,8,9]) (keep:=[]) kr) ?_ ?_
 ·intro s1 o h
  unfold g_hidden_isRow_b0 at h
  refine sq (wp_seq ?_)
  refine wb [10] h (fun q3 h=>?_) (fun q3 h=>?_)
  ·refine wcT (wp_skip (wp_seq (wp_block (wp_seq (reg_in ?_)))))
   refine bind_elim h (fun a4 q5 h=>?_)
   refine idxL' (enc:=eI) (l:=p1) (n:=s1.2) (fl:=true) (w:=1) (a:=a4) kr rfl gE q5 ?_
   refine sz 2 3 (reg_end rfl (wp_seq (wp_seq (reg_in (sz 3 3 ?_)))))
   refine rw_wk (wk_gc (live:=[0,7,8,9,6,15]) (keep:=[]) (st':=⟨[(0,vI s1.1),(7,z1 p1),(8,vI (zn p1)),(9,vI s1.2),(6,vI a4),(15,vB (decide (a4 < 0)))],[],26⟩) kr) ?_
   refine rb [15] h (fun q7 h=>?_) (fun q7 h=>?_)
   ·refine sz 4 7 (reg_end rfl (wcT (wp_seq (wg [] [] (rn (wg [4] [] ?_))))))
    refine wp_ret ?_
    cases h
    exact ⟨kr,rfl⟩
   refine sz 4 7 (reg_end rfl ?_)
   refine wbz h (fun q9 h=>?_) (fun q9 h=>?_)
   ·refine wp_seq (wg [] [] (rn (wg [4] [] ?_)))
    refine wp_ret ?_
    cases h
    exact ⟨kr,rfl⟩
   refine wp_skip (wg [0,7,8,9,6] [] (rn (rn ?_)))
   cases h
   exact ⟨_,rfl,(wk_gc (live:=[0,7,8,9]) (keep:=[]) kr)⟩
  refine wcF (wg [0] [] ?_)
  refine wp_exit ?_
  cases h
  exact ⟨kr,rfl⟩
 intro x10 h out hx
 subst hx
 rcases x10 with x11 | x12
 ·dsimp only at h ⊢
  cases h
  show fnOut _ _ _ _=_
  kernel_rfl
 ·dsimp only at h ⊢
  refine sq (wg [4] [] ?_)
  cases h
  exact wp_ret (show fnOut _ _ _ _=_ from by kernel_rfl)
theorem g_hidden_areRows_ok (p0:Int) (p1:Int) (p2:Int) (p3:(List (List Int))) (x:Bool) (h:g_hidden_areRows p0 p1 p2 p3=some x):CallOk Try.prog 58 [vI p0,vI p1,vI p2,z2 p3] (.ret (vB x) []):=by
 refine fn_ok [] Try.func58 rfl (by decide +kernel) rfl ?_
 unfold g_hidden_areRows at h
 refine wp_eqB (base':=0) (st':=⟨[(0,vI p0),(1,vI p1),(2,vI p2),(3,z2 p3)],[],32⟩) kr kr ?_
 refine sq (wp_seq (wp_seq (reg_in (sz 1 1 ?_))))
 refine lenL (enc:=z1) (l:=p3) (fl:=false) kr gE ?_
 refine sz 2 4 (reg_end rfl ?_)
 refine wbz h (fun q2 h=>?_) (fun q2 h=>?_)
 ·refine wp_seq (wg [] [] (rn ?_))
  refine wgc [8] [] ⟨[(8,vB false)],[],32⟩ ?_
  cases h
  exact wp_ret (show fnOut _ _ _ _=_ from by kernel_rfl)
 refine wp_skip (wp_seq (wp_seq (wg [0,2,3] [] (reg_in (sz 1 1 ?_)))))
 refine lenL (enc:=z1) (l:=p3) (fl:=false) kr gE ?_
 refine sz 1 3 (reg_end rfl (wp_block ?_))
 refine wwh h (fun s3=>⟨[(0,vI p0),(2,vI p2),(15,z2 p3),(16,vI (zn p3)),(17,vI s3)],[],32⟩) (fun x out=>out=match x with | .inl v=>.go (.ret) ⟨[(8,vB false)],[],32⟩ | .inr v=>.go (.exit 0) ⟨[],[],32⟩) (wk_gc (live:=[0,2,15,16,17]) (keep:=[]) kr) ?_ ?_
 ·intro s3 o h
  unfold g_hidden_areRows_b0 at h
  refine sq (wp_seq ?_)
  refine wb [18] h (fun q5 h=>?_) (fun q5 h=>?_)
  ·refine wcT (wp_skip (wp_seq (wp_block (wp_seq (reg_in ?_)))))
   refine bind_elim h (fun a6 q7 h=>?_)
   refine idxL' (enc:=z1) (l:=p3) (n:=s3) (fl:=false) (w:=1) (a:=a6) kr rfl gE q7 ?_
   refine sz 2 3 (reg_end rfl (wp_seq (reg_in (sz 1 1 ?_))))
   refine lenL (enc:=eI) (l:=a6) (fl:=true) kr gE ?_
   refine sz 3 5 ?_
   refine rw_wk (wk_gc (live:=[0,2,15,16,17,10,25]) (keep:=[]) (st':=⟨[(0,vI p0),(2,vI p2),(15,z2 p3),(16,vI (zn p3)),(17,vI s3),(10,z1 a6),(25,vB ((zn a6) != p2))],[],32⟩) kr) ?_
   refine rb [25] h (fun q9 h=>?_) (fun q9 h=>?_)
   ·refine sz 5 10 (reg_end rfl (wcT (wp_seq (wg [] [] (rn (wg [8] [] ?_))))))
    refine wp_ret ?_
    cases h
    exact ⟨kr,rfl⟩
   refine sz 2 7 ?_
   refine callW bodyB_57 (g_hidden_isRow_ok p0 a6) h (fun x10 _ h=>?_)
   refine sz 2 10 (reg_end rfl ?_)
   refine wbz h (fun q13 h=>?_) (fun q13 h=>?_)
   ·refine wp_seq (wg [] [] (rn (wg [8] [] ?_)))
    refine wp_ret ?_
    cases h
    exact ⟨kr,rfl⟩
   refine wp_skip (wg [0,2,15,16,17] [] (rn ?_))
   cases h
   exact ⟨_,rfl,(wk_gc (live:=[0,2,15,16,17]) (keep:=[]) kr)⟩
  refine wcF (wg [] [] ?_)
  refine wp_exit ?_
  cases h
  exact ⟨kr,rfl⟩
 intro x14 h out hx
 subst hx
 rcases x14 with x15 | x16
 ·dsimp only at h ⊢
  cases h
  show fnOut _ _ _ _=_
  kernel_rfl
 ·dsimp only at h ⊢
  refine sq (wg [8] [] ?_)
  cases h
  exact wp_ret (show fnOut _ _ _ _=_ from by kernel_rfl)
noncomputable abbrev s13_2 (p0:Tapi_Hidden):List AObj:=[oX true false 4 (.agg [vI p0.Grain,z1 p0.First,z2 p0.Step,z2 p0.Show])]
theorem g_hidden_Check_ok (p0:Tapi_Hidden) (x:Int) (h:g_hidden_Check p0=some x):CallOk Try.prog 13 [.agg [vI p0.Grain,z1 p0.First,z2 p0.Step,z2 p0.Show]] (.ret (vI x) []):=by
 refine fn_ok [] Try.func13 rfl (by decide +kernel) rfl ?_
 unfold g_hidden_Check at h
 refine wp_eqB (base':=0) (st':=⟨[(0,.agg [vI p0.Grain,z1 p0.First,z2 p0.Step,z2 p0.Show])],[],68⟩) kr kr ?_
 refine wp_seq (reg_in ?_)
 refine sgL false [] [] false gE ?_
 refine sz 1 2 (reg_end rfl (wp_seq (reg_in (sz 2 2 ?_))))
 refine lenL (enc:=eI) (l:=p0.First) (fl:=true) kr gE ?_
 refine sz 1 4 (reg_end rfl (wp_seq (wp_seq (wg [1,3] [0] (reg_in (sz 4 4 ?_))))))
 refine rb [10,11] h (fun q2 h=>?_) (fun q2 h=>?_)
 ·refine sgz 19 23 (S:=⟨[(1,.ptr 0 0 0),(3,vI (zn p0.First)),(8,.ptr 0 0 0),(9,vI p0.Grain),(10,vB true),(11,vB true),(12,.tup []),(13,.tup []),(14,.tup []),(15,vB true),(16,vB true),(17,.tup []),(18,.tup []),(19,vB true),(20,vB true),(21,.tup []),(22,.tup []),(23,vB true),(24,vB true),(25,.tup []),(26,.tup []),(27,.tup []),(28,.tup []),(29,.tup []),(30,vB true)],(s13_2 p0),68⟩) ?_
  refine reg_end rfl (wcT (wp_seq (wg [] [] (rn (wg [2] [] ?_)))))
  cases h
  exact wp_ret (show fnOut _ _ _ _=_ from by kernel_rfl)
 refine sz 5 9 ?_
 refine rw_wk (wk_gc (live:=[1,3,16]) (keep:=[0]) (st':=⟨[(1,.ptr 0 0 0),(3,vI (zn p0.First)),(16,vB (decide (p0.Grain > 12)))],(s13_2 p0),68⟩) kr) ?_
 refine rb [16] h (fun q4 h=>?_) (fun q4 h=>?_)
 ·refine sz 14 23 (reg_end rfl (wcT (wp_seq (wg [] [] (rn ?_)))))
  refine wgc [2] [] ⟨[(2,vI 170)],[],68⟩ ?_
  cases h
  exact wp_ret (show fnOut _ _ _ _=_ from by kernel_rfl)
 refine sz 4 13 (rwg [1,3,20] [0] ?_)
 refine rb [20] h (fun q6 h=>?_) (fun q6 h=>?_)
 ·refine sz 10 23 (reg_end rfl (wcT (wp_seq ?_)))
  refine wgc [] [] ⟨[],[],68⟩ ?_
  refine rn (wg [2] [] ?_)
  cases h
  exact wp_ret (show fnOut _ _ _ _=_ from by kernel_rfl)
 refine sz 4 17 (rwg [1,3,24] [0] ?_)
 refine rb [24] h (fun q8 h=>?_) (fun q8 h=>?_)
 ·refine sz 6 23 (reg_end rfl (wcT (wp_seq ?_)))
  refine wgc [] [] ⟨[],[],68⟩ ?_
  refine rn (wg [2] [] ?_)
  cases h
  exact wp_ret (show fnOut _ _ _ _=_ from by kernel_rfl)
 refine sz 2 19 ?_
 refine lenL (enc:=z1) (l:=p0.Show) (fl:=false) kr gE ?_
 refine sz 3 23 (reg_end rfl ?_)
 refine wbz h (fun q10 h=>?_) (fun q10 h=>?_)
 ·refine wp_seq ?_
  refine wgc [] [] ⟨[],[],68⟩ ?_
  refine rn (wg [2] [] ?_)
  cases h
  exact wp_ret (show fnOut _ _ _ _=_ from by kernel_rfl)
 refine wp_skip (wp_seq ?_)
 refine wgc [1,3] [0] ⟨[(1,.ptr 0 0 0),(3,vI (zn p0.First))],(s13_2 p0),68⟩ ?_
 refine reg_in (sz 2 2 ?_)
 refine bind_elim h (fun a11 q12 h=>?_)
 refine idxL' (enc:=z1) (l:=p0.Show) (n:=0) (fl:=false) (w:=1) (a:=a11) kr rfl gE q12 ?_
 refine sz 1 4 ?_
 refine lenL (enc:=eI) (l:=a11) (fl:=true) kr gE ?_
 refine sz 1 6 (reg_end rfl (wp_seq (wp_seq (wg [1,3,4] [0] (reg_in (sz 3 3 ?_))))))
 refine rb [37,38] h (fun q14 h=>?_) (fun q14 h=>?_)
 ·refine sz 11 14 (reg_end rfl (wcT (wp_seq ?_)))
  refine wgc [] [] ⟨[],[],68⟩ ?_
  refine rn (wg [2] [] ?_)
  cases h
  exact wp_ret (show fnOut _ _ _ _=_ from by kernel_rfl)
 refine sz 4 7 ?_
 refine rw_wk (wk_gc (live:=[1,3,4,42]) (keep:=[0]) (st':=⟨[(1,.ptr 0 0 0),(3,vI (zn p0.First)),(4,vI (zn a11)),(42,vB (decide ((zn a11) > 4)))],(s13_2 p0),68⟩) kr) ?_
 refine rb [42] h (fun q16 h=>?_) (fun q16 h=>?_)
 ·refine sz 7 14 (reg_end rfl (wcT (wp_seq (wg [] [] (rn (wg [2] [] ?_))))))
  cases h
  exact wp_ret (show fnOut _ _ _ _=_ from by kernel_rfl)
 refine sz 4 11 ?_
 refine callW bodyB_57 (g_hidden_isRow_ok p0.Grain p0.First) h (fun x17 _ h=>?_)
 refine sz 2 14 (reg_end rfl ?_)
 refine wbz h (fun q20 h=>?_) (fun q20 h=>?_)
 ·refine wp_seq (wg [] [] (rn (wg [2] [] ?_)))
  cases h
  exact wp_ret (show fnOut _ _ _ _=_ from by kernel_rfl)
 refine wp_skip (wp_seq (wp_seq (wg [1,3,4] [0] (reg_in (sz 6 6 ?_)))))
 refine callW bodyB_58 (g_hidden_areRows_ok p0.Grain (zn p0.First) (zn p0.First) p0.Step) h (fun x21 _ h=>?_)
 refine sz 2 9 ?_
 refine rw_wk (wk_gc (live:=[1,3,4,58]) (keep:=[0]) (st':=⟨[(1,.ptr 0 0 0),(3,vI (zn p0.First)),(4,vI (zn a11)),(58,vB (!x21))],(s13_2 p0),68⟩) kr) ?_
 refine rb [58] h (fun q24 h=>?_) (fun q24 h=>?_)
 ·refine sz 9 18 (reg_end rfl (wcT (wp_seq (wg [] [] (rn (wg [2] [] ?_))))))
  cases h
  exact wp_ret (show fnOut _ _ _ _=_ from by kernel_rfl)
 refine sz 6 15 ?_
 refine callW bodyB_58 (g_hidden_areRows_ok p0.Grain (zn p0.First) (zn a11) p0.Show) h (fun x25 _ h=>?_)
 refine sz 2 18 (reg_end rfl ?_)
 refine wbz h (fun q28 h=>?_) (fun q28 h=>?_)
 ·refine wp_seq (wg [] [] (rn (wg [2] [] ?_)))
  cases h
  exact wp_ret (show fnOut _ _ _ _=_ from by kernel_rfl)
 refine wp_skip (wp_seq (wg [] [] (rn ?_)))
 refine wgc [2] [] ⟨[(2,vI 0)],[],68⟩ ?_
 cases h
 exact wp_ret (show fnOut _ _ _ _=_ from by kernel_rfl)
noncomputable abbrev s60_2 (p0:Tapi_Hidden):List AObj:=[oX true false 4 (.agg [vI p0.Grain,z1 p0.First,z2 p0.Step,z2 p0.Show]),oX true false 5 (.agg [vI 0,.nils,.nils,.nils,.nils])]
theorem g_hidden_newWatcher_ok (p0:Tapi_Hidden) (p1:(List Int)) (x:(Thidden_watcher × Int)) (h:g_hidden_newWatcher p0 p1=some x):CallOk Try.prog 60 [.agg [vI p0.Grain,z1 p0.First,z2 p0.Step,z2 p0.Show],z1 p1] (.ret (.tup [.agg [vI x.1.Hidden.Grain,z1 x.1.Hidden.First,z2 x.1.Hidden.Step,z2 x.1.Hidden.Show,z1 x.1.seen],vI x.2]) []):=by
 refine fn_ok [[.keep,.lst true,.lst false,.lst false,.lst true],[.keep]] Try.func60 rfl (by decide +kernel) rfl ?_
 unfold g_hidden_newWatcher at h
 refine wp_eqB (base':=0) (st':=⟨[(0,.agg [vI p0.Grain,z1 p0.First,z2 p0.Step,z2 p0.Show]),(1,z1 p1)],[],46⟩) kr kr ?_
 refine wp_seq (reg_in ?_)
 refine sgL false [] [] false gE ?_
 refine sgL false [] [] false gE ?_
 refine sz 1 3 (reg_end rfl (wp_seq (wp_seq (reg_in (sz 1 1 ?_)))))
 refine callW bodyB_13 (g_hidden_Check_ok p0) h (fun x1 _ h=>?_)
 refine sz 1 3 (reg_end rfl (sq ?_))
 refine wbz h (fun q4 h=>?_) (fun q4 h=>?_)
 ·refine wp_seq ?_
  refine wgc [4,6] [1] ⟨[(4,.ptr 0 0 0),(6,vI x1)],[oX true false 5 (.agg [vI 0,.nils,.nils,.nils,.nils])],46⟩ ?_
  refine rn (wg [4,5] [0] ?_)
  cases h
  exact wp_ret (show fnOut _ _ _ _=_ from by kernel_rfl)
 refine wp_skip (wp_seq (wp_seq ?_))
 refine wgc [1,2,4] [0,1] ⟨[(1,z1 p1),(2,.ptr 0 0 0),(4,.ptr 1 0 0)],(s60_2 p0),46⟩ ?_
 refine reg_in (sz 1 1 ?_)
 refine lenL (enc:=eI) (l:=p1) (fl:=true) kr gE ?_
 refine sz 2 4 ?_
 refine rb [17,18] h (fun q6 h=>?_) (fun q6 h=>?_)
 ·refine sz 4 8 (reg_end rfl (wcT (wp_seq (wg [4] [1] (rn (wg [4,5] [0] ?_))))))
  cases h
  exact wp_ret (show fnOut _ _ _ _=_ from by kernel_rfl)
 refine sz 1 5 ?_
 refine lenL (enc:=eI) (l:=p1) (fl:=true) kr gE ?_
 refine sz 2 8 (reg_end rfl ?_)
 refine wbz h (fun q8 h=>?_) (fun q8 h=>?_)
 ·refine wp_seq (wg [4] [1] (rn (wg [4,5] [0] ?_)))
  cases h
  exact wp_ret (show fnOut _ _ _ _=_ from by kernel_rfl)
 refine wp_skip (wp_seq (wp_seq (wg [1,2,4] [0,1] (reg_in (sz 1 1 ?_)))))
 refine lenL (enc:=eI) (l:=p1) (fl:=true) kr gE ?_
 refine sz 1 3 (reg_end rfl (wp_block ?_))
 refine wwh h (fun s9=>⟨[(1,z1 p1),(2,.ptr 0 0 0),(4,.ptr 1 0 0),(24,z1 p1),(25,vI (zn p1)),(26,vI s9)],(s60_2 p0),46⟩) (fun x out=>out=match x with | .inl v=>.go (.ret) ⟨[(4,.ptr 0 0 0),(5,vI 2)],[oX true false 5 (.agg [vI 0,.nils,.nils,.nils,.nils])],46⟩ | .inr v=>.go (.exit 0) ⟨[(1,z1 p1),(2,.ptr 0 0 0),(4,.ptr 1 0 0)],(s60_2 p0),46⟩) (wk_gc (live:=[1,2,4,24,25,26]) (keep:=[0,1]) kr) ?_ ?_
 ·intro s9 o h
  unfold g_hidden_newWatcher_b0 at h
  refine sq (wp_seq ?_)
  refine wb [27] h (fun q11 h=>?_) (fun q11 h=>?_)
  ·refine wcT (wp_skip (wp_seq (wp_block (wp_seq (reg_in ?_)))))
   refine bind_elim h (fun a12 q13 h=>?_)
   refine idxL' (enc:=eI) (l:=p1) (n:=s9) (fl:=true) (w:=1) (a:=a12) kr rfl gE q13 ?_
   refine sz 2 3 (reg_end rfl (wp_seq (reg_in (sz 3 3 ?_))))
   refine rw_wk (wk_gc (live:=[1,2,4,24,25,26,8,32]) (keep:=[0,1]) (st':=⟨[(1,z1 p1),(2,.ptr 0 0 0),(4,.ptr 1 0 0),(24,z1 p1),(25,vI (zn p1)),(26,vI s9),(8,vI a12),(32,vB (decide (a12 < (-1))))],(s60_2 p0),46⟩) kr) ?_
   refine rb [32] h (fun q15 h=>?_) (fun q15 h=>?_)
   ·refine sz 8 11 (reg_end rfl (wcT (wp_seq (wg [4] [1] (rn (wg [4,5] [0] ?_))))))
    refine wp_ret ?_
    cases h
    exact ⟨kr,rfl⟩
   refine sz 3 6 ?_
   refine bind_elim h (fun a16 q17 h=>?_)
   refine idxL' (enc:=z1) (l:=p0.Show) (n:=0) (fl:=false) (w:=1) (a:=a16) kr rfl gE q17 ?_
   refine sz 1 8 ?_
   refine lenL (enc:=eI) (l:=a16) (fl:=true) kr gE ?_
   refine sz 2 11 (reg_end rfl ?_)
   refine wbz h (fun q19 h=>?_) (fun q19 h=>?_)
   ·refine wp_seq (wg [4] [1] (rn (wg [4,5] [0] ?_)))
    refine wp_ret ?_
    cases h
    exact ⟨kr,rfl⟩
   refine wp_skip (wg [1,2,4,24,25,26] [0,1] (rn ?_))
   cases h
   exact ⟨_,rfl,(wk_gc (live:=[1,2,4,24,25,26]) (keep:=[0,1]) kr)⟩
  refine wcF (wg [1,2,4] [0,1] ?_)
  refine wp_exit ?_
  cases h
  exact ⟨kr,rfl⟩
 intro x20 h out hx
 subst hx
 rcases x20 with x21 | x22
 ·dsimp only at h ⊢
  cases h
  show fnOut _ _ _ _=_
  kernel_rfl
 ·dsimp only at h ⊢
  refine sq (wg [4,5] [1] ?_)
  cases h
  exact wp_ret (show fnOut _ _ _ _=_ from by kernel_rfl)
theorem g_hidden_watcher_shown_ok (p0:Thidden_watcher) (p1:Int) (p2:Int) (x:Int) (h:g_hidden_watcher_shown p0 p1 p2=some x):CallOk Try.prog 93 [.agg [vI p0.Hidden.Grain,z1 p0.Hidden.First,z2 p0.Hidden.Step,z2 p0.Hidden.Show,z1 p0.seen],vI p1,vI p2] (.ret (vI x) []):=by
 refine fn_ok [] Try.func93 rfl (by decide +kernel) rfl ?_
 unfold g_hidden_watcher_shown at h
 refine wp_eqB (base':=0) (st':=⟨[(0,.agg [vI p0.Hidden.Grain,z1 p0.Hidden.First,z2 p0.Hidden.Step,z2 p0.Hidden.Show,z1 p0.seen]),(1,vI p1),(2,vI p2)],[],29⟩) kr kr ?_
 refine wp_seq (reg_in ?_)
 refine sgL false [] [] false gE ?_
 refine sz 1 2 (reg_end rfl (wp_seq (wp_seq (reg_in (sz 3 3 ?_)))))
 refine bind_elim h (fun a1 q2 h=>?_)
 refine idxL' (enc:=eI) (l:=p0.seen) (n:=p1) (fl:=true) (w:=1) (a:=a1) kr rfl gE q2 ?_
 refine sz 2 6 (reg_end rfl ?_)
 refine wbz h (fun q4 h=>?_) (fun q4 h=>?_)
 ·refine wp_seq (wg [3] [0] (rn ?_))
  refine wgc [6] [] ⟨[(6,vI p0.Hidden.Grain)],[],29⟩ ?_
  cases h
  exact wp_ret (show fnOut _ _ _ _=_ from by kernel_rfl)
 refine wp_skip (wp_seq ?_)
 refine wgc [1,2,3] [0] ⟨[(1,vI p1),(2,vI p2),(3,.ptr 0 0 0)],[oX true false 5 (.agg [vI p0.Hidden.Grain,z1 p0.Hidden.First,z2 p0.Hidden.Step,z2 p0.Hidden.Show,z1 p0.seen])],29⟩ ?_
 refine rga hfol (sy 4 4 ?_)
 refine bind_elim h (fun a5 q6 h=>?_)
 refine idxL' (enc:=z1) (l:=p0.Hidden.Show) (n:=p2) (fl:=false) (w:=1) (a:=a5) kr rfl gE q6 ?_
 refine sy 4 9 ?_
 refine idxL' (enc:=eI) (l:=p0.seen) (n:=p1) (fl:=true) (w:=1) (a:=a1) kr rfl gE q2 ?_
 refine sy 1 11 ?_
 refine bind_elim h (fun a7 q8 h=>?_)
 refine idxL' (enc:=eI) (l:=a5) (n:=a1) (fl:=true) (w:=1) (a:=a7) kr rfl gE q8 ?_
 refine sy 2 14 (rgd (wg [6] [] ?_))
 cases h
 exact wp_ret (show fnOut _ _ _ _=_ from by kernel_rfl)
noncomputable abbrev s61_1 (p0:Thidden_watcher):List (Nat × AV):=[(0,.agg [vI p0.Hidden.Grain,z1 p0.Hidden.First,z2 p0.Hidden.Step,z2 p0.Hidden.Show,z1 p0.seen])]
noncomputable abbrev s61_2 (p0:Thidden_watcher):List (Nat × AV):=(s61_1 p0)++[(1,.ptr 0 0 0),(2,.nils),(10,.agg [vI p0.Hidden.Grain,z1 p0.Hidden.First,z2 p0.Hidden.Step,z2 p0.Hidden.Show,z1 p0.seen])]
noncomputable abbrev s61_5 (p0:Thidden_watcher):List (Nat × AV):=(s61_1 p0)++[(1,.ptr 1 0 0),(2,.nils),(5,.ptr 1 0 4),(6,z1 p0.seen),(7,vI (zn p0.seen)),(8,.ref 2 0 ((List.replicate (zt (zn p0.seen)) ([]:(List Int))).length)),(3,.ref 2 0 ((List.replicate (zt (zn p0.seen)) ([]:(List Int))).length))]
noncomputable abbrev s61_6 (p0:Thidden_watcher):List AObj:=[oX true false 5 (.agg [vI p0.Hidden.Grain,z1 p0.Hidden.First,z2 p0.Hidden.Step,z2 p0.Hidden.Show,z1 p0.seen]),oX true false 5 (.agg [vI p0.Hidden.Grain,z1 p0.Hidden.First,z2 p0.Hidden.Step,z2 p0.Hidden.Show,z1 p0.seen]),.refs 3 (eF eI (List.replicate (zt (zn p0.seen)) ([]:(List Int)))),.fam 1 true (eF eI (List.replicate (zt (zn p0.seen)) ([]:(List Int))))]
noncomputable abbrev s61_16 (s1:(Int × (List (List Int)))) (p0:Thidden_watcher):List (Nat × AV):=[(1,.ptr 1 0 0),(3,.ref 2 0 s1.2.length),(10,vI (((List.replicate (zt (zn p0.seen)) ([]:(List Int))).length):Int)),(11,vI s1.1)]
noncomputable abbrev s61_19 (p0:Thidden_watcher) (s1:(Int × (List (List Int)))):List AObj:=[oX true false 5 (.agg [vI p0.Hidden.Grain,z1 p0.Hidden.First,z2 p0.Hidden.Step,z2 p0.Hidden.Show,z1 p0.seen]),oX true false 5 (.agg [vI p0.Hidden.Grain,z1 p0.Hidden.First,z2 p0.Hidden.Step,z2 p0.Hidden.Show,z1 p0.seen]),.refs 3 (eF eI (List.set s1.2 (zt s1.1) (List.replicate (zt (zn p0.Hidden.First)) (0:Int)))),.fam 1 true (eF eI (List.set s1.2 (zt s1.1) (List.replicate (zt (zn p0.Hidden.First)) (0:Int)))),.dead]
noncomputable abbrev s61_31 (p0:Thidden_watcher):List (Nat × AV):=[(0,.agg [vI p0.Hidden.Grain,z1 p0.Hidden.First,z2 p0.Hidden.Step,z2 p0.Hidden.Show,z1 p0.seen]),(1,vI 0)]
noncomputable abbrev s61_66 (s9:(Int × (List (List Int)))) (p0:Thidden_watcher) (s12:(Int × (List (List Int)))):List (Nat × AV):=[(1,.ptr 0 0 0),(3,.ptr 1 0 0),(4,vI s9.1),(17,z1 p0.Hidden.First),(18,vI (zn p0.Hidden.First)),(19,vI s12.1)]
theorem g_hidden_watcher_forward_ok (p0:Thidden_watcher) (x:(List (List Int))) (h:g_hidden_watcher_forward p0=some x):CallOk Try.prog 61 [.agg [vI p0.Hidden.Grain,z1 p0.Hidden.First,z2 p0.Hidden.Step,z2 p0.Hidden.Show,z1 p0.seen]] (.ret (.ref 0 0 x.length) [oR false 1 z1 x]):=by
 refine fn_ok [] Try.func61 rfl (by decide +kernel) rfl ?_
 unfold g_hidden_watcher_forward at h
 refine wp_eqB (base':=0) (st':=⟨(s61_1 p0),[],66⟩) kr kr ?_
 refine wp_seq (reg_in ?_)
 refine sgL false [] [] false gE ?_
 refine sz 1 2 (reg_end rfl (wp_seq ?_))
 refine wp_post ?_
 refine reg_in (sz 1 1 ?_)
 refine inlR (f:=91) (fn:=Try.f91) (as0:=[.agg [vI p0.Hidden.Grain,z1 p0.Hidden.First,z2 p0.Hidden.Step,z2 p0.Hidden.Show,z1 p0.seen]]) kr Try.func91 rfl (by decide +kernel) rfl ?_
 refine wp_eqB (base':=1) (st':=⟨(s61_1 p0),[oX true false 5 (.agg [vI p0.Hidden.Grain,z1 p0.Hidden.First,z2 p0.Hidden.Step,z2 p0.Hidden.Show,z1 p0.seen])],24⟩) kr kr ?_
 refine wp_seq (reg_in ?_)
 refine sgL false [] [] false gE ?_
 refine sz 1 2 (reg_end rfl (wp_seq ?_))
 refine wp_post ?_
 refine reg_in (sz 2 2 ?_)
 refine lenL (enc:=eI) (l:=p0.seen) (fl:=true) kr gE ?_
 refine mkL (enc:=fun _=>AV.nils) (z:=([]:(List Int))) (z0:=AV.nils) (n:=(zn p0.seen)) (m:=(zn p0.seen)) (w:=1) (bytes:=24) [] false kr rfl gE kr h (fun h=>?_)
 refine sgz 1 5 (S:=⟨(s61_5 p0),[oX true false 5 (.agg [vI p0.Hidden.Grain,z1 p0.Hidden.First,z2 p0.Hidden.Step,z2 p0.Hidden.Show,z1 p0.seen]),oX true false 5 (.agg [vI p0.Hidden.Grain,z1 p0.Hidden.First,z2 p0.Hidden.Step,z2 p0.Hidden.Show,z1 p0.seen]),.row false false true false 1 (List.map (fun _=>AV.nils) (List.replicate (zt (zn p0.seen)) ([]:(List Int))))],24⟩) ?_
 refine reg_end rfl ?_
 refine ⟨⟨(s61_5 p0),(s61_6 p0),24⟩,(wk_fam 2 1 true eI (x0:=([]:List Int)) (enc1:=fun _=>AV.nils) (st':=⟨(s61_5 p0),(s61_6 p0),24⟩) rfl rfl rfl (by kernel_rfl)),?_⟩
 refine wp_seq (wp_seq (wg [1,3] [1,2,3] (rn (wp_block ?_))))
 refine wwh h (fun s1=>⟨(s61_16 s1 p0),[oX true false 5 (.agg [vI p0.Hidden.Grain,z1 p0.Hidden.First,z2 p0.Hidden.Step,z2 p0.Hidden.Show,z1 p0.seen]),oX true false 5 (.agg [vI p0.Hidden.Grain,z1 p0.Hidden.First,z2 p0.Hidden.Step,z2 p0.Hidden.Show,z1 p0.seen]),.refs 3 (eF eI s1.2),.fam 1 true (eF eI s1.2)],24⟩) (fun v out=>out=.go (.exit 0) ⟨[(3,.ref 1 0 v.length)],[oX true false 5 (.agg [vI p0.Hidden.Grain,z1 p0.Hidden.First,z2 p0.Hidden.Step,z2 p0.Hidden.Show,z1 p0.seen]),.refs 2 (eF eI v),.fam 1 true (eF eI v)],24⟩) (wk_gc (live:=[1,3,10,11]) (keep:=[1,2,3]) kr) ?_ ?_
 ·intro s1 o h
  unfold g_hidden_watcher_forward_b0 at h
  refine sq (wp_seq ?_)
  refine wb [12] h (fun q3 h=>?_) (fun q3 h=>?_)
  ·refine wcT (wp_skip (wp_seq (wp_block (sq ?_))))
   refine wp_post ?_
   refine reg_in (sz 5 5 ?_)
   refine lenL (enc:=eI) (l:=p0.Hidden.First) (fl:=true) kr gE ?_
   refine mkL (enc:=eI) (z:=(0:Int)) (z0:=vI 0) (n:=(zn p0.Hidden.First)) (m:=(zn p0.Hidden.First)) (w:=1) (bytes:=8) [] true kr rfl gE kr h (fun h=>?_)
   refine bind_elim h (fun a4 q5 h=>?_)
   refine idxF (enc:=eI) (ls:=s1.2) (x:=a4) (n:=s1.1) (ob:=2) (j:=3) kr kr q5 gE ?_
   refine storeF (enc:=eI) (ls:=s1.2) (x:=a4) (n:=s1.1) (ob:=2) (j:=3) (m:=4) (q:=(List.replicate (zt (zn p0.Hidden.First)) (0:Int)).length) (S:=⟨(s61_16 s1 p0)++[(12,vB true),(13,vI s1.1),(4,vI s1.1),(14,.ref 2 0 s1.2.length),(15,vI s1.1),(16,.ptr 1 0 0),(17,.ptr 1 0 1),(18,z1 p0.Hidden.First),(19,vI (zn p0.Hidden.First)),(20,.ref 4 0 ((List.replicate (zt (zn p0.Hidden.First)) (0:Int)).length)),(21,.ptr 2 (zt s1.1) 0)],[oX true false 5 (.agg [vI p0.Hidden.Grain,z1 p0.Hidden.First,z2 p0.Hidden.Step,z2 p0.Hidden.Show,z1 p0.seen]),oX true false 5 (.agg [vI p0.Hidden.Grain,z1 p0.Hidden.First,z2 p0.Hidden.Step,z2 p0.Hidden.Show,z1 p0.seen]),.row false false false false 1 ((famRefs 3 0 (eF eI s1.2)).set (zt s1.1) (.ref 4 0 ((List.replicate (zt (zn p0.Hidden.First)) (0:Int)).length))),.fam 1 true (eF eI s1.2),oR true 1 eI (List.replicate (zt (zn p0.Hidden.First)) (0:Int))],24⟩) kr kr q5 kr kr kr ?_
   refine reg_end rfl ?_
   refine ⟨⟨[(1,.ptr 1 0 0),(3,.ref 2 0 ((List.set s1.2 (zt s1.1) (List.replicate (zt (zn p0.Hidden.First)) (0:Int))).length)),(10,vI (((List.replicate (zt (zn p0.seen)) ([]:(List Int))).length):Int)),(11,vI s1.1)]++[(12,vB true),(13,vI s1.1),(4,vI s1.1),(14,.ref 2 0 ((List.set s1.2 (zt s1.1) (List.replicate (zt (zn p0.Hidden.First)) (0:Int))).length)),(15,vI s1.1),(16,.ptr 1 0 0),(17,.ptr 1 0 1),(18,z1 p0.Hidden.First),(19,vI (zn p0.Hidden.First)),(21,.ptr 2 (zt s1.1) 0)],(s61_19 p0 s1),24⟩,(wk_trans (wk_adopt 2 3 4 (enc:=eI) (ls:=s1.2) (x:=a4) (b:=(List.replicate (zt (zn p0.Hidden.First)) (0:Int))) (n:=s1.1) [1,3,10,11,12,13,4,14,15,16,17,18,19,21] (st':=⟨(s61_16 s1 p0)++[(12,vB true),(13,vI s1.1),(4,vI s1.1),(14,.ref 2 0 s1.2.length),(15,vI s1.1),(16,.ptr 1 0 0),(17,.ptr 1 0 1),(18,z1 p0.Hidden.First),(19,vI (zn p0.Hidden.First)),(21,.ptr 2 (zt s1.1) 0)],(s61_19 p0 s1),24⟩) rfl rfl rfl q5 (by kernel_rfl) (by kernel_rfl)) (wk_eq (congrArg (fun n6=>(⟨[(1,.ptr 1 0 0),(3,.ref 2 0 n6),(10,vI (((List.replicate (zt (zn p0.seen)) ([]:(List Int))).length):Int)),(11,vI s1.1),(12,vB true),(13,vI s1.1),(4,vI s1.1),(14,.ref 2 0 n6),(15,vI s1.1),(16,.ptr 1 0 0),(17,.ptr 1 0 1),(18,z1 p0.Hidden.First),(19,vI (zn p0.Hidden.First)),(21,.ptr 2 (zt s1.1) 0)],(s61_19 p0 s1),24⟩:St)) (show s1.2.length=(List.set s1.2 (zt s1.1) (List.replicate (zt (zn p0.Hidden.First)) (0:Int))).length by simp only [List.length_set])))),?_⟩
   refine wg [1,3,10,11] [1,2,3] (rn ?_)
   cases h
   exact ⟨_,rfl,(wk_gc (live:=[1,3,10,11]) (keep:=[1,2,3]) kr)⟩
  refine wcF (wg [3] [2,3] ?_)
  refine wp_exit ?_
  cases h
  exact ⟨kr,rfl⟩
 intro x8 h out hx
 subst hx
 refine sq (wg [2] [1,2] ?_)
 refine wp_ret ?_
 refine ⟨⟨(s61_2 p0)++[(11,.ref 1 0 x8.length)],[oX true false 5 (.agg [vI p0.Hidden.Grain,z1 p0.Hidden.First,z2 p0.Hidden.Step,z2 p0.Hidden.Show,z1 p0.seen]),.refs 2 (eF eI x8),.fam 1 true (eF eI x8)],66⟩,by as_aux_lemma=>kernel_rfl,?_⟩
 refine sgL false [] [] false gE ?_
 refine sz 1 4 (reg_end rfl ?_)
 refine ⟨_,wk_refl,?_⟩
 refine wp_seq (wp_seq ?_)
 refine wp_post ?_
 refine reg_in (sz 1 1 ?_)
 refine inlR (f:=92) (fn:=Try.f92) (as0:=[.agg [vI p0.Hidden.Grain,z1 p0.Hidden.First,z2 p0.Hidden.Step,z2 p0.Hidden.Show,z1 p0.seen],vI 0]) kr Try.func92 rfl (by decide +kernel) rfl ?_
 refine wp_eqB (base':=4) (st':=⟨(s61_31 p0),[oX true false 5 (.agg [vI p0.Hidden.Grain,z1 p0.Hidden.First,z2 p0.Hidden.Step,z2 p0.Hidden.Show,z1 p0.seen]),.refs 2 (eF eI x8),.fam 1 true (eF eI x8),oX false false 1 (.ref 1 0 x8.length)],12⟩) kr kr ?_
 refine wp_seq (reg_in ?_)
 refine sgL false [] [] false gE ?_
 refine sz 1 2 (reg_end rfl (wp_seq ?_))
 refine wp_post ?_
 refine reg_in (sz 1 1 ?_)
 refine sgL false [] [] false gE ?_
 refine sz 1 3 (reg_end rfl ?_)
 refine ⟨_,wk_refl,?_⟩
 refine wp_seq ?_
 refine wp_post ?_
 refine rga hfol (sy 4 4 ?_)
 refine inlN (f:=110) (fn:=Try.f110) (as0:=[.agg [vI p0.Hidden.Grain,z1 p0.Hidden.First,z2 p0.Hidden.Step,z2 p0.Hidden.Show,z1 p0.seen]]) kr kr Try.func110 rfl (by decide +kernel) rfl ?_
 refine wp_eqB (base':=6) (st':=⟨(s61_1 p0),[.dead,.dead,.dead,.dead,.dead,.dead],4⟩) kr kr ?_
 refine wp_seq (reg_in ?_)
 refine sgL false [] [] false gE ?_
 refine sz 1 2 (reg_end rfl (sq (wg [2] [6] ?_)))
 refine wp_ret ?_
 refine ⟨⟨(s61_31 p0)++[(2,.ptr 4 0 0),(4,.nilf),(6,.agg [.fn (.func 110) [] [],.fn (.func 111) [] []]),(5,.ptr 5 0 0),(7,vI 0),(8,.ptr 5 0 0),(9,.fn (.func 110) [] []),(10,.agg [vI p0.Hidden.Grain,z1 p0.Hidden.First,z2 p0.Hidden.Step,z2 p0.Hidden.Show,z1 p0.seen])]++[(11,.fn (.func 124) [] [.ptr 6 0 0])],[oX true false 5 (.agg [vI p0.Hidden.Grain,z1 p0.Hidden.First,z2 p0.Hidden.Step,z2 p0.Hidden.Show,z1 p0.seen]),.refs 2 (eF eI x8),.fam 1 true (eF eI x8),oX false false 1 (.ref 1 0 x8.length),oX true false 5 (.agg [vI p0.Hidden.Grain,z1 p0.Hidden.First,z2 p0.Hidden.Step,z2 p0.Hidden.Show,z1 p0.seen]),oX true false 2 (.agg [.fn (.func 110) [] [],.fn (.func 111) [] []]),oX true false 5 (.agg [vI p0.Hidden.Grain,z1 p0.Hidden.First,z2 p0.Hidden.Step,z2 p0.Hidden.Show,z1 p0.seen])],12⟩,by as_aux_lemma=>kernel_rfl,?_⟩
 refine sy 1 6 (rgd ?_)
 refine ⟨_,wk_refl,?_⟩
 refine wg [4] [6] ?_
 refine wp_ret ?_
 refine ⟨⟨(s61_2 p0)++[(11,.ref 1 0 x8.length),(3,.ptr 3 0 0),(12,.agg [vI p0.Hidden.Grain,z1 p0.Hidden.First,z2 p0.Hidden.Step,z2 p0.Hidden.Show,z1 p0.seen])]++[(13,.fn (.func 124) [] [.ptr 4 0 0])],[oX true false 5 (.agg [vI p0.Hidden.Grain,z1 p0.Hidden.First,z2 p0.Hidden.Step,z2 p0.Hidden.Show,z1 p0.seen]),.refs 2 (eF eI x8),.fam 1 true (eF eI x8),oX false false 1 (.ref 1 0 x8.length),oX true false 5 (.agg [vI p0.Hidden.Grain,z1 p0.Hidden.First,z2 p0.Hidden.Step,z2 p0.Hidden.Show,z1 p0.seen])],66⟩,by as_aux_lemma=>kernel_rfl,?_⟩
 refine reg_end rfl ?_
 refine ⟨_,wk_refl,?_⟩
 refine wp_block ?_
 refine wgc [1,3,13] [0,3,4,1,2] ⟨[(1,.ptr 0 0 0),(3,.ptr 1 0 0),(13,.fn (.func 124) [] [.ptr 2 0 0])],[oX true false 5 (.agg [vI p0.Hidden.Grain,z1 p0.Hidden.First,z2 p0.Hidden.Step,z2 p0.Hidden.Show,z1 p0.seen]),oX false false 1 (.ref 3 0 x8.length),oX true false 5 (.agg [vI p0.Hidden.Grain,z1 p0.Hidden.First,z2 p0.Hidden.Step,z2 p0.Hidden.Show,z1 p0.seen]),.refs 4 (eF eI x8),.fam 1 true (eF eI x8)],66⟩ ?_
 refine wp_range (f:=124) (fn:=Try.f124) (first:=[]) (caps:=[.ptr 2 0 0]) rfl Try.func124 rfl (by decide +kernel) rfl rfl ?_
 refine wp_eqB (base':=6) (st':=⟨[(0,.yld 5),(1,.ptr 2 0 0)],[oX true false 5 (.agg [vI p0.Hidden.Grain,z1 p0.Hidden.First,z2 p0.Hidden.Step,z2 p0.Hidden.Show,z1 p0.seen]),oX false false 1 (.ref 3 0 x8.length),oX true false 5 (.agg [vI p0.Hidden.Grain,z1 p0.Hidden.First,z2 p0.Hidden.Step,z2 p0.Hidden.Show,z1 p0.seen]),.refs 4 (eF eI x8),.fam 1 true (eF eI x8),.loop 66 [(1,.ptr 0 0 0),(3,.ptr 1 0 0),(13,.fn (.func 124) [] [.ptr 2 0 0])] [14] (cA Try.f61 [true,true,false,true,true]) (cB Try.f61 [true,true,false,true,true]) .ready none],15⟩) kr kr ?_
 refine wp_seq ?_
 refine wp_post ?_
 refine reg_in (sz 2 2 ?_)
 refine lenL (enc:=eI) (l:=p0.seen) (fl:=true) kr gE ?_
 refine sz 1 4 (reg_end rfl ?_)
 refine ⟨_,wk_refl,?_⟩
 refine wp_block ?_
 refine wwh h (fun s9=>⟨[(0,.yld 5),(6,vI (zn p0.seen)),(7,vI s9.1)],[oX true false 5 (.agg [vI p0.Hidden.Grain,z1 p0.Hidden.First,z2 p0.Hidden.Step,z2 p0.Hidden.Show,z1 p0.seen]),oX false false 1 (.ref 3 0 s9.2.length),oX true false 5 (.agg [vI p0.Hidden.Grain,z1 p0.Hidden.First,z2 p0.Hidden.Step,z2 p0.Hidden.Show,z1 p0.seen]),.refs 4 (eF eI s9.2),.fam 1 true (eF eI s9.2),.loop 66 [(1,.ptr 0 0 0),(3,.ptr 1 0 0),(13,.fn (.func 124) [] [.ptr 2 0 0])] [14] (cA Try.f61 [true,true,false,true,true]) (cB Try.f61 [true,true,false,true,true]) .ready none],15⟩) (fun v out=>out=.go (.exit 0) ⟨[],[oX true false 5 (.agg [vI p0.Hidden.Grain,z1 p0.Hidden.First,z2 p0.Hidden.Step,z2 p0.Hidden.Show,z1 p0.seen]),oX false false 1 (.ref 3 0 v.length),oX true false 5 (.agg [vI p0.Hidden.Grain,z1 p0.Hidden.First,z2 p0.Hidden.Step,z2 p0.Hidden.Show,z1 p0.seen]),.refs 4 (eF eI v),.fam 1 true (eF eI v),.loop 66 [(1,.ptr 0 0 0),(3,.ptr 1 0 0),(13,.fn (.func 124) [] [.ptr 2 0 0])] [14] (cA Try.f61 [true,true,false,true,true]) (cB Try.f61 [true,true,false,true,true]) .ready none],15⟩) (wk_gc (live:=[0,6,7]) (keep:=[]) kr) ?_ ?_
 ·intro s9 o h
  unfold g_hidden_watcher_forward_b3 at h
  refine sq (wp_seq ?_)
  refine wb [8] h (fun q11 h=>?_) (fun q11 h=>?_)
  ·refine wcT (wp_skip (wp_seq (wp_block (sq (wp_seq ?_)))))
   refine wp_post ?_
   refine reg_in (sz 2 2 ?_)
   refine yldR (l:=5) (nt:=66) (us:=[vI s9.1]) (sl:=[(1,.ptr 0 0 0),(3,.ptr 1 0 0),(13,.fn (.func 124) [] [.ptr 2 0 0])]) (ps:=[14]) (assign:=cA Try.f61 [true,true,false,true,true]) (body:=cB Try.f61 [true,true,false,true,true]) (pe:=none) kr rfl rfl ?_
   refine wp_eqB (base':=6) (st':=⟨[(1,.ptr 0 0 0),(3,.ptr 1 0 0),(13,.fn (.func 124) [] [.ptr 2 0 0]),(14,vI s9.1)],[oX true false 5 (.agg [vI p0.Hidden.Grain,z1 p0.Hidden.First,z2 p0.Hidden.Step,z2 p0.Hidden.Show,z1 p0.seen]),oX false false 1 (.ref 3 0 s9.2.length),oX true false 5 (.agg [vI p0.Hidden.Grain,z1 p0.Hidden.First,z2 p0.Hidden.Step,z2 p0.Hidden.Show,z1 p0.seen]),.refs 4 (eF eI s9.2),.fam 1 true (eF eI s9.2),.loop 66 [(1,.ptr 0 0 0),(3,.ptr 1 0 0),(13,.fn (.func 124) [] [.ptr 2 0 0])] [14] (cA Try.f61 [true,true,false,true,true]) (cB Try.f61 [true,true,false,true,true]) .ready none],66⟩) kr kr ?_
   refine rn ?_
   refine ⟨⟨[(1,.ptr 0 0 0),(3,.ptr 1 0 0),(13,.fn (.func 124) [] [.ptr 2 0 0]),(14,vI s9.1),(4,vI s9.1)],[oX true false 5 (.agg [vI p0.Hidden.Grain,z1 p0.Hidden.First,z2 p0.Hidden.Step,z2 p0.Hidden.Show,z1 p0.seen]),oX false false 1 (.ref 3 0 s9.2.length),oX true false 5 (.agg [vI p0.Hidden.Grain,z1 p0.Hidden.First,z2 p0.Hidden.Step,z2 p0.Hidden.Show,z1 p0.seen]),.refs 4 (eF eI s9.2),.fam 1 true (eF eI s9.2),.loop 66 [(1,.ptr 0 0 0),(3,.ptr 1 0 0),(13,.fn (.func 124) [] [.ptr 2 0 0])] [14] (cA Try.f61 [true,true,false,true,true]) (cB Try.f61 [true,true,false,true,true]) .busy none],66⟩,by as_aux_lemma=>kernel_rfl,?_⟩
   refine wp_block (wp_seq ?_)
   refine wp_post ?_
   refine reg_in (sz 3 3 ?_)
   refine lenL (enc:=eI) (l:=p0.Hidden.First) (fl:=true) kr gE ?_
   refine sz 1 5 (reg_end rfl ?_)
   refine ⟨_,wk_refl,?_⟩
   refine wp_block ?_
   refine wwh h (fun s12=>⟨(s61_66 s9 p0 s12),[oX true false 5 (.agg [vI p0.Hidden.Grain,z1 p0.Hidden.First,z2 p0.Hidden.Step,z2 p0.Hidden.Show,z1 p0.seen]),oX false false 1 (.ref 3 0 s12.2.length),oX true false 5 (.agg [vI p0.Hidden.Grain,z1 p0.Hidden.First,z2 p0.Hidden.Step,z2 p0.Hidden.Show,z1 p0.seen]),.refs 4 (eF eI s12.2),.fam 1 true (eF eI s12.2),.loop 66 [(1,.ptr 0 0 0),(3,.ptr 1 0 0),(13,.fn (.func 124) [] [.ptr 2 0 0])] [14] (cA Try.f61 [true,true,false,true,true]) (cB Try.f61 [true,true,false,true,true]) .busy none],66⟩) (fun v out=>out=.go (.exit 2) ⟨[],[oX true false 5 (.agg [vI p0.Hidden.Grain,z1 p0.Hidden.First,z2 p0.Hidden.Step,z2 p0.Hidden.Show,z1 p0.seen]),oX false false 1 (.ref 3 0 v.length),oX true false 5 (.agg [vI p0.Hidden.Grain,z1 p0.Hidden.First,z2 p0.Hidden.Step,z2 p0.Hidden.Show,z1 p0.seen]),.refs 4 (eF eI v),.fam 1 true (eF eI v),.loop 66 [(1,.ptr 0 0 0),(3,.ptr 1 0 0),(13,.fn (.func 124) [] [.ptr 2 0 0])] [14] (cA Try.f61 [true,true,false,true,true]) (cB Try.f61 [true,true,false,true,true]) .busy none],66⟩) (wk_gc (live:=[1,3,4,17,18,19]) (keep:=[]) kr) ?_ ?_
   ·intro s12 o h
    unfold g_hidden_watcher_forward_b2 at h
    refine sq (wp_seq ?_)
    refine wb [20] h (fun q14 h=>?_) (fun q14 h=>?_)
    ·refine wcT (wp_skip (wp_seq (wp_block (wp_seq ?_))))
     refine wp_post ?_
     refine reg_in (sz 1 1 ?_)
     refine bind_elim h (fun a15 q16 h=>?_)
     refine idxL' (enc:=eI) (l:=p0.Hidden.First) (n:=s12.1) (fl:=true) (w:=1) (a:=a15) kr rfl gE q16 ?_
     refine sz 3 5 (reg_end rfl ?_)
     refine ⟨_,wk_refl,?_⟩
     refine sq (wp_seq (wp_seq ?_))
     refine wgc [1,3,4,17,18,19,5,7] [] ⟨[(1,.ptr 0 0 0),(3,.ptr 1 0 0),(4,vI s9.1),(17,z1 p0.Hidden.First),(18,vI (zn p0.Hidden.First)),(19,vI s12.1),(5,vI s12.1),(7,vI a15)],[oX true false 5 (.agg [vI p0.Hidden.Grain,z1 p0.Hidden.First,z2 p0.Hidden.Step,z2 p0.Hidden.Show,z1 p0.seen]),oX false false 1 (.ref 3 0 s12.2.length),oX true false 5 (.agg [vI p0.Hidden.Grain,z1 p0.Hidden.First,z2 p0.Hidden.Step,z2 p0.Hidden.Show,z1 p0.seen]),.refs 4 (eF eI s12.2),.fam 1 true (eF eI s12.2),.loop 66 [(1,.ptr 0 0 0),(3,.ptr 1 0 0),(13,.fn (.func 124) [] [.ptr 2 0 0])] [14] (cA Try.f61 [true,true,false,true,true]) (cB Try.f61 [true,true,false,true,true]) .busy none],66⟩ ?_
     refine rn ?_
     refine wb [26] h (fun q18 h=>?_) (fun q18 h=>?_)
     ·refine wcT (sq (wp_seq ?_))
      refine wp_post ?_
      refine reg_in (sz 3 3 ?_)
      refine bind_elim h (fun a19 q20 h=>?_)
      refine idxF (enc:=eI) (ls:=s12.2) (x:=a19) (n:=zw (s9.1 - 1)) (ob:=3) (j:=4) kr kr q20 gE ?_
      refine loadF (enc:=eI) (ls:=s12.2) (x:=a19) (n:=zw (s9.1 - 1)) (ob:=3) (j:=4) kr kr q20 gE ?_
      refine sgz 2 7 (S:=⟨(s61_66 s9 p0 s12)++[(5,vI s12.1),(7,vI 0),(25,vI s9.1),(26,vB true),(27,.ref 3 0 s12.2.length),(28,vI s9.1),(29,vI (zw (s9.1 - 1))),(30,.ptr 3 (zt (zw (s9.1 - 1))) 0),(31,.ref (fid 4 (zt (zw (s9.1 - 1)))) 0 a19.length),(32,vI (zn a19)),(33,vI 0)],[oX true false 5 (.agg [vI p0.Hidden.Grain,z1 p0.Hidden.First,z2 p0.Hidden.Step,z2 p0.Hidden.Show,z1 p0.seen]),oX false false 1 (.ref 3 0 s12.2.length),oX true false 5 (.agg [vI p0.Hidden.Grain,z1 p0.Hidden.First,z2 p0.Hidden.Step,z2 p0.Hidden.Show,z1 p0.seen]),.refs 4 (eF eI s12.2),.fam 1 true (eF eI s12.2),.loop 66 [(1,.ptr 0 0 0),(3,.ptr 1 0 0),(13,.fn (.func 124) [] [.ptr 2 0 0])] [14] (cA Try.f61 [true,true,false,true,true]) (cB Try.f61 [true,true,false,true,true]) .busy none],66⟩) ?_
      refine reg_end rfl ?_
      refine ⟨⟨(s61_66 s9 p0 s12)++[(5,vI s12.1),(7,vI 0),(25,vI s9.1),(26,vB true),(27,.ref 3 0 s12.2.length),(28,vI s9.1),(29,vI (zw (s9.1 - 1))),(30,.ptr 3 (zt (zw (s9.1 - 1))) 0),(31,.lin 4 (zt (zw (s9.1 - 1))) a19.length),(32,vI (zn a19)),(33,vI 0)],[oX true false 5 (.agg [vI p0.Hidden.Grain,z1 p0.Hidden.First,z2 p0.Hidden.Step,z2 p0.Hidden.Show,z1 p0.seen]),oX false false 1 (.ref 3 0 s12.2.length),oX true false 5 (.agg [vI p0.Hidden.Grain,z1 p0.Hidden.First,z2 p0.Hidden.Step,z2 p0.Hidden.Show,z1 p0.seen]),.refs 4 (eF eI s12.2),.fam 1 true (eF eI s12.2),.loop 66 [(1,.ptr 0 0 0),(3,.ptr 1 0 0),(13,.fn (.func 124) [] [.ptr 2 0 0])] [14] (cA Try.f61 [true,true,false,true,true]) (cB Try.f61 [true,true,false,true,true]) .busy none],66⟩,(wk_lin 31 (st':=⟨(s61_66 s9 p0 s12)++[(5,vI s12.1),(7,vI 0),(25,vI s9.1),(26,vB true),(27,.ref 3 0 s12.2.length),(28,vI s9.1),(29,vI (zw (s9.1 - 1))),(30,.ptr 3 (zt (zw (s9.1 - 1))) 0),(31,.lin 4 (zt (zw (s9.1 - 1))) a19.length),(32,vI (zn a19)),(33,vI 0)],[oX true false 5 (.agg [vI p0.Hidden.Grain,z1 p0.Hidden.First,z2 p0.Hidden.Step,z2 p0.Hidden.Show,z1 p0.seen]),oX false false 1 (.ref 3 0 s12.2.length),oX true false 5 (.agg [vI p0.Hidden.Grain,z1 p0.Hidden.First,z2 p0.Hidden.Step,z2 p0.Hidden.Show,z1 p0.seen]),.refs 4 (eF eI s12.2),.fam 1 true (eF eI s12.2),.loop 66 [(1,.ptr 0 0 0),(3,.ptr 1 0 0),(13,.fn (.func 124) [] [.ptr 2 0 0])] [14] (cA Try.f61 [true,true,false,true,true]) (cB Try.f61 [true,true,false,true,true]) .busy none],66⟩) rfl (by kernel_rfl)),?_⟩
      refine wp_block ?_
      refine wwh h (fun s21=>⟨[(1,.ptr 0 0 0),(3,.ptr 1 0 0),(4,vI s9.1),(5,vI s12.1),(7,vI s21.1),(17,z1 p0.Hidden.First),(18,vI (zn p0.Hidden.First)),(19,vI s12.1),(31,.lin 4 (zt (zw (s9.1 - 1))) a19.length),(32,vI (zn a19)),(33,vI s21.2)],[oX true false 5 (.agg [vI p0.Hidden.Grain,z1 p0.Hidden.First,z2 p0.Hidden.Step,z2 p0.Hidden.Show,z1 p0.seen]),oX false false 1 (.ref 3 0 s12.2.length),oX true false 5 (.agg [vI p0.Hidden.Grain,z1 p0.Hidden.First,z2 p0.Hidden.Step,z2 p0.Hidden.Show,z1 p0.seen]),.refs 4 (eF eI s12.2),.fam 1 true (eF eI s12.2),.loop 66 [(1,.ptr 0 0 0),(3,.ptr 1 0 0),(13,.fn (.func 124) [] [.ptr 2 0 0])] [14] (cA Try.f61 [true,true,false,true,true]) (cB Try.f61 [true,true,false,true,true]) .busy none],66⟩) (fun v out=>out=.go (.exit 4) ⟨[(1,.ptr 0 0 0),(3,.ptr 1 0 0),(4,vI s9.1),(5,vI s12.1),(7,vI v),(17,z1 p0.Hidden.First),(18,vI (zn p0.Hidden.First)),(19,vI s12.1)],[oX true false 5 (.agg [vI p0.Hidden.Grain,z1 p0.Hidden.First,z2 p0.Hidden.Step,z2 p0.Hidden.Show,z1 p0.seen]),oX false false 1 (.ref 3 0 s12.2.length),oX true false 5 (.agg [vI p0.Hidden.Grain,z1 p0.Hidden.First,z2 p0.Hidden.Step,z2 p0.Hidden.Show,z1 p0.seen]),.refs 4 (eF eI s12.2),.fam 1 true (eF eI s12.2),.loop 66 [(1,.ptr 0 0 0),(3,.ptr 1 0 0),(13,.fn (.func 124) [] [.ptr 2 0 0])] [14] (cA Try.f61 [true,true,false,true,true]) (cB Try.f61 [true,true,false,true,true]) .busy none],66⟩) (wk_gc (live:=[1,3,4,5,7,17,18,19,31,32,33]) (keep:=[]) kr) ?_ ?_
      ·intro s21 o h
       unfold g_hidden_watcher_forward_b1 at h
       refine sq (wp_seq ?_)
       refine wbr (S:=fun b22=>⟨[(1,.ptr 0 0 0),(3,.ptr 1 0 0),(4,vI s9.1),(5,vI s12.1),(7,vI s21.1),(17,z1 p0.Hidden.First),(18,vI (zn p0.Hidden.First)),(19,vI s12.1),(31,.lin 4 (zt (zw (s9.1 - 1))) a19.length),(32,vI (zn a19)),(33,vI s21.2)]++[(34,vB b22)],[oX true false 5 (.agg [vI p0.Hidden.Grain,z1 p0.Hidden.First,z2 p0.Hidden.Step,z2 p0.Hidden.Show,z1 p0.seen]),oX false false 1 (.ref 3 0 s12.2.length),oX true false 5 (.agg [vI p0.Hidden.Grain,z1 p0.Hidden.First,z2 p0.Hidden.Step,z2 p0.Hidden.Show,z1 p0.seen]),.refs 4 (eF eI s12.2),.fam 1 true (eF eI s12.2),.loop 66 [(1,.ptr 0 0 0),(3,.ptr 1 0 0),(13,.fn (.func 124) [] [.ptr 2 0 0])] [14] (cA Try.f61 [true,true,false,true,true]) (cB Try.f61 [true,true,false,true,true]) .busy none],66⟩) h (fun q23 h=>?_) (fun q23 h=>?_)
       ·refine wcT (wp_skip (wp_seq (wp_block (wp_seq ?_))))
        refine wp_wk (wk_unlin 31 (st':=⟨[(1,.ptr 0 0 0),(3,.ptr 1 0 0),(4,vI s9.1),(5,vI s12.1),(7,vI s21.1),(17,z1 p0.Hidden.First),(18,vI (zn p0.Hidden.First)),(19,vI s12.1)]++[(31,.ref (fid 4 (zt (zw (s9.1 - 1)))) 0 a19.length),(32,vI (zn a19)),(33,vI s21.2),(34,vB true)],[oX true false 5 (.agg [vI p0.Hidden.Grain,z1 p0.Hidden.First,z2 p0.Hidden.Step,z2 p0.Hidden.Show,z1 p0.seen]),oX false false 1 (.ref 3 0 s12.2.length),oX true false 5 (.agg [vI p0.Hidden.Grain,z1 p0.Hidden.First,z2 p0.Hidden.Step,z2 p0.Hidden.Show,z1 p0.seen]),.refs 4 (eF eI s12.2),.fam 1 true (eF eI s12.2),.loop 66 [(1,.ptr 0 0 0),(3,.ptr 1 0 0),(13,.fn (.func 124) [] [.ptr 2 0 0])] [14] (cA Try.f61 [true,true,false,true,true]) (cB Try.f61 [true,true,false,true,true]) .busy none],66⟩) rfl kr) ?_
        refine wp_post ?_
        refine reg_in (sz 1 1 ?_)
        refine bind_elim h (fun a24 q25 h=>?_)
        refine idxI (enc:=eI) (ls:=s12.2) (x:=a19) (y:=a24) (n:=zw (s9.1 - 1)) (c:=s21.2) (w:=1) (j:=4) (fl:=true) kr kr q20 q25 rfl gE ?_
        refine loadI (enc:=eI) (ls:=s12.2) (x:=a19) (y:=a24) (n:=zw (s9.1 - 1)) (m:=s21.2) (w:=1) (j:=4) (c:=0) (fl:=true) kr kr q20 q25 rfl gE ?_
        refine sgz 2 5 (S:=⟨[(1,.ptr 0 0 0),(3,.ptr 1 0 0),(4,vI s9.1),(5,vI s12.1),(7,vI s21.1),(17,z1 p0.Hidden.First),(18,vI (zn p0.Hidden.First)),(19,vI s12.1)]++[(31,.ref (fid 4 (zt (zw (s9.1 - 1)))) 0 a19.length),(32,vI (zn a19)),(33,vI s21.2),(34,vB true),(35,vI s21.2),(36,.ptr (fid 4 (zt (zw (s9.1 - 1)))) (zt s21.2) 0),(37,vI a24),(8,vI s21.2),(9,vI a24)],[oX true false 5 (.agg [vI p0.Hidden.Grain,z1 p0.Hidden.First,z2 p0.Hidden.Step,z2 p0.Hidden.Show,z1 p0.seen]),oX false false 1 (.ref 3 0 s12.2.length),oX true false 5 (.agg [vI p0.Hidden.Grain,z1 p0.Hidden.First,z2 p0.Hidden.Step,z2 p0.Hidden.Show,z1 p0.seen]),.refs 4 (eF eI s12.2),.fam 1 true (eF eI s12.2),.loop 66 [(1,.ptr 0 0 0),(3,.ptr 1 0 0),(13,.fn (.func 124) [] [.ptr 2 0 0])] [14] (cA Try.f61 [true,true,false,true,true]) (cB Try.f61 [true,true,false,true,true]) .busy none],66⟩) ?_
        refine reg_end rfl ?_
        refine ⟨⟨[(1,.ptr 0 0 0),(3,.ptr 1 0 0),(4,vI s9.1),(5,vI s12.1),(7,vI s21.1),(17,z1 p0.Hidden.First),(18,vI (zn p0.Hidden.First)),(19,vI s12.1),(31,.lin 4 (zt (zw (s9.1 - 1))) a19.length),(32,vI (zn a19)),(33,vI s21.2)]++[(34,vB true),(35,vI s21.2),(36,.ptr (fid 4 (zt (zw (s9.1 - 1)))) (zt s21.2) 0),(37,vI a24),(8,vI s21.2),(9,vI a24)],[oX true false 5 (.agg [vI p0.Hidden.Grain,z1 p0.Hidden.First,z2 p0.Hidden.Step,z2 p0.Hidden.Show,z1 p0.seen]),oX false false 1 (.ref 3 0 s12.2.length),oX true false 5 (.agg [vI p0.Hidden.Grain,z1 p0.Hidden.First,z2 p0.Hidden.Step,z2 p0.Hidden.Show,z1 p0.seen]),.refs 4 (eF eI s12.2),.fam 1 true (eF eI s12.2),.loop 66 [(1,.ptr 0 0 0),(3,.ptr 1 0 0),(13,.fn (.func 124) [] [.ptr 2 0 0])] [14] (cA Try.f61 [true,true,false,true,true]) (cB Try.f61 [true,true,false,true,true]) .busy none],66⟩,(wk_lin 31 (st':=⟨[(1,.ptr 0 0 0),(3,.ptr 1 0 0),(4,vI s9.1),(5,vI s12.1),(7,vI s21.1),(17,z1 p0.Hidden.First),(18,vI (zn p0.Hidden.First)),(19,vI s12.1),(31,.lin 4 (zt (zw (s9.1 - 1))) a19.length),(32,vI (zn a19)),(33,vI s21.2)]++[(34,vB true),(35,vI s21.2),(36,.ptr (fid 4 (zt (zw (s9.1 - 1)))) (zt s21.2) 0),(37,vI a24),(8,vI s21.2),(9,vI a24)],[oX true false 5 (.agg [vI p0.Hidden.Grain,z1 p0.Hidden.First,z2 p0.Hidden.Step,z2 p0.Hidden.Show,z1 p0.seen]),oX false false 1 (.ref 3 0 s12.2.length),oX true false 5 (.agg [vI p0.Hidden.Grain,z1 p0.Hidden.First,z2 p0.Hidden.Step,z2 p0.Hidden.Show,z1 p0.seen]),.refs 4 (eF eI s12.2),.fam 1 true (eF eI s12.2),.loop 66 [(1,.ptr 0 0 0),(3,.ptr 1 0 0),(13,.fn (.func 124) [] [.ptr 2 0 0])] [14] (cA Try.f61 [true,true,false,true,true]) (cB Try.f61 [true,true,false,true,true]) .busy none],66⟩) rfl (by kernel_rfl)),?_⟩
        refine wp_post ?_
        refine reg_in (sz 6 6 ?_)
        refine bind_elim h (fun a26 q27 h=>?_)
        refine idxL' (enc:=z1) (l:=p0.Hidden.Step) (n:=s21.2) (fl:=false) (w:=1) (a:=a26) kr rfl gE q27 ?_
        refine sz 2 9 ?_
        refine bind_elim h (fun a28 q29 h=>?_)
        refine idxL' (enc:=eI) (l:=a26) (n:=s12.1) (fl:=true) (w:=1) (a:=a28) kr rfl gE q29 ?_
        refine sz 4 14 (reg_end rfl ?_)
        refine ⟨_,wk_refl,?_⟩
        refine wgc [1,3,4,5,7,17,18,19,31,32,33] [] ⟨[(1,.ptr 0 0 0),(3,.ptr 1 0 0),(4,vI s9.1),(5,vI s12.1),(7,vI (zw (s21.1+(zw (a24*a28))))),(17,z1 p0.Hidden.First),(18,vI (zn p0.Hidden.First)),(19,vI s12.1),(31,.lin 4 (zt (zw (s9.1 - 1))) a19.length),(32,vI (zn a19)),(33,vI s21.2)],[oX true false 5 (.agg [vI p0.Hidden.Grain,z1 p0.Hidden.First,z2 p0.Hidden.Step,z2 p0.Hidden.Show,z1 p0.seen]),oX false false 1 (.ref 3 0 s12.2.length),oX true false 5 (.agg [vI p0.Hidden.Grain,z1 p0.Hidden.First,z2 p0.Hidden.Step,z2 p0.Hidden.Show,z1 p0.seen]),.refs 4 (eF eI s12.2),.fam 1 true (eF eI s12.2),.loop 66 [(1,.ptr 0 0 0),(3,.ptr 1 0 0),(13,.fn (.func 124) [] [.ptr 2 0 0])] [14] (cA Try.f61 [true,true,false,true,true]) (cB Try.f61 [true,true,false,true,true]) .busy none],66⟩ ?_
        refine rn ?_
        cases h
        exact ⟨_,rfl,(wk_gc (live:=[1,3,4,5,7,17,18,19,31,32,33]) (keep:=[]) kr)⟩
       refine wcF (wg [1,3,4,5,7,17,18,19] [] ?_)
       refine wp_exit ?_
       cases h
       exact ⟨kr,rfl⟩
      intro x31 h out hx
      subst hx
      refine wp_post ?_
      refine rga hfol (sy 2 2 ?_)
      refine bind_elim h (fun a32 q33 h=>?_)
      refine idxF (enc:=eI) (ls:=s12.2) (x:=a32) (n:=s9.1) (ob:=3) (j:=4) kr kr q33 gE ?_
      refine loadF (enc:=eI) (ls:=s12.2) (x:=a32) (n:=s9.1) (ob:=3) (j:=4) kr kr q33 gE ?_
      refine sy 5 9 ?_
      refine callW bodyB_93 (g_hidden_watcher_shown_ok p0 s9.1 s12.1) h (fun x34 _ h=>?_)
      refine sy 1 11 ?_
      refine bind_elim h (fun a36 q37 h=>?_)
      refine idxI (enc:=eI) (ls:=s12.2) (x:=a32) (y:=a36) (n:=s9.1) (c:=s12.1) (w:=1) (j:=4) (fl:=true) kr kr q33 q37 rfl gE ?_
      refine storeI (enc:=eI) (ls:=s12.2) (x:=a32) (y:=a36) (y':=zw (x31*x34)) (n:=s9.1) (m:=s12.1) (w:=1) (j:=4) (q:=3) (c:=0) (fl:=true) (v:=vI (zw (x31*x34))) kr kr kr q33 q37 rfl kr kr kr gE ?_
      refine rknN (n:=s12.2.length) (m:=(List.set s12.2 (zt s9.1) (List.set a32 (zt s12.1) (zw (x31*x34)))).length) (S:=fun n38=>⟨[(1,.ptr 0 0 0),(3,.ptr 1 0 0),(4,vI s9.1),(5,vI s12.1),(7,vI x31),(17,z1 p0.Hidden.First),(18,vI (zn p0.Hidden.First)),(19,vI s12.1)]++[(52,.ref 3 0 n38),(53,vI s9.1),(54,.ptr 3 (zt s9.1) 0),(55,.ref (fid 4 (zt s9.1)) 0 a32.length),(56,vI s12.1),(57,vI x31),(58,.agg [vI p0.Hidden.Grain,z1 p0.Hidden.First,z2 p0.Hidden.Step,z2 p0.Hidden.Show,z1 p0.seen]),(59,vI s9.1),(60,vI s12.1),(61,vI x34),(62,vI (zw (x31*x34))),(63,.ptr (fid 4 (zt s9.1)) (zt s12.1) 0)],[oX true false 5 (.agg [vI p0.Hidden.Grain,z1 p0.Hidden.First,z2 p0.Hidden.Step,z2 p0.Hidden.Show,z1 p0.seen]),oX false false 1 (.ref 3 0 n38),oX true false 5 (.agg [vI p0.Hidden.Grain,z1 p0.Hidden.First,z2 p0.Hidden.Step,z2 p0.Hidden.Show,z1 p0.seen]),.refs 4 (eF eI (List.set s12.2 (zt s9.1) (List.set a32 (zt s12.1) (zw (x31*x34))))),.fam 1 true (eF eI (List.set s12.2 (zt s9.1) (List.set a32 (zt s12.1) (zw (x31*x34))))),.loop 66 [(1,.ptr 0 0 0),(3,.ptr 1 0 0),(13,.fn (.func 124) [] [.ptr 2 0 0])] [14] (cA Try.f61 [true,true,false,true,true]) (cB Try.f61 [true,true,false,true,true]) .busy none],66⟩) (by simp only [List.length_set]) ?_
      refine rgd ?_
      refine ⟨_,wk_refl,?_⟩
      refine wg [1,3,4,17,18,19] [] (rn ?_)
      cases h
      exact ⟨_,rfl,(wk_gc (live:=[1,3,4,17,18,19]) (keep:=[]) kr)⟩
     refine wcF (wp_skip ?_)
     refine wp_post ?_
     refine rga hfol (sy 2 2 ?_)
     refine bind_elim h (fun a39 q40 h=>?_)
     refine idxF (enc:=eI) (ls:=s12.2) (x:=a39) (n:=s9.1) (ob:=3) (j:=4) kr kr q40 gE ?_
     refine loadF (enc:=eI) (ls:=s12.2) (x:=a39) (n:=s9.1) (ob:=3) (j:=4) kr kr q40 gE ?_
     refine sy 5 9 ?_
     refine callW bodyB_93 (g_hidden_watcher_shown_ok p0 s9.1 s12.1) h (fun x41 _ h=>?_)
     refine sy 1 11 ?_
     refine bind_elim h (fun a43 q44 h=>?_)
     refine idxI (enc:=eI) (ls:=s12.2) (x:=a39) (y:=a43) (n:=s9.1) (c:=s12.1) (w:=1) (j:=4) (fl:=true) kr kr q40 q44 rfl gE ?_
     refine storeI (enc:=eI) (ls:=s12.2) (x:=a39) (y:=a43) (y':=zw (a15*x41)) (n:=s9.1) (m:=s12.1) (w:=1) (j:=4) (q:=3) (c:=0) (fl:=true) (v:=vI (zw (a15*x41))) kr kr kr q40 q44 rfl kr kr kr gE ?_
     refine rknN (n:=s12.2.length) (m:=(List.set s12.2 (zt s9.1) (List.set a39 (zt s12.1) (zw (a15*x41)))).length) (S:=fun n45=>⟨[(1,.ptr 0 0 0),(3,.ptr 1 0 0),(4,vI s9.1),(17,z1 p0.Hidden.First),(18,vI (zn p0.Hidden.First)),(19,vI s12.1),(5,vI s12.1),(7,vI a15)]++[(25,vI s9.1),(26,vB false),(52,.ref 3 0 n45),(53,vI s9.1),(54,.ptr 3 (zt s9.1) 0),(55,.ref (fid 4 (zt s9.1)) 0 a39.length),(56,vI s12.1),(57,vI a15),(58,.agg [vI p0.Hidden.Grain,z1 p0.Hidden.First,z2 p0.Hidden.Step,z2 p0.Hidden.Show,z1 p0.seen]),(59,vI s9.1),(60,vI s12.1),(61,vI x41),(62,vI (zw (a15*x41))),(63,.ptr (fid 4 (zt s9.1)) (zt s12.1) 0)],[oX true false 5 (.agg [vI p0.Hidden.Grain,z1 p0.Hidden.First,z2 p0.Hidden.Step,z2 p0.Hidden.Show,z1 p0.seen]),oX false false 1 (.ref 3 0 n45),oX true false 5 (.agg [vI p0.Hidden.Grain,z1 p0.Hidden.First,z2 p0.Hidden.Step,z2 p0.Hidden.Show,z1 p0.seen]),.refs 4 (eF eI (List.set s12.2 (zt s9.1) (List.set a39 (zt s12.1) (zw (a15*x41))))),.fam 1 true (eF eI (List.set s12.2 (zt s9.1) (List.set a39 (zt s12.1) (zw (a15*x41))))),.loop 66 [(1,.ptr 0 0 0),(3,.ptr 1 0 0),(13,.fn (.func 124) [] [.ptr 2 0 0])] [14] (cA Try.f61 [true,true,false,true,true]) (cB Try.f61 [true,true,false,true,true]) .busy none],66⟩) (by simp only [List.length_set]) ?_
     refine rgd ?_
     refine ⟨_,wk_refl,?_⟩
     refine wg [1,3,4,17,18,19] [] (rn ?_)
     cases h
     exact ⟨_,rfl,(wk_gc (live:=[1,3,4,17,18,19]) (keep:=[]) kr)⟩
    refine wcF (wg [] [] ?_)
    refine wp_exit ?_
    cases h
    exact ⟨kr,rfl⟩
   intro x47 h out hx
   subst hx
   refine ⟨⟨[(0,.yld 5),(6,vI (zn p0.seen)),(7,vI s9.1),(8,vB true),(9,vI s9.1),(3,vI s9.1),(10,.yld 5),(11,vI s9.1),(12,vB true)],[oX true false 5 (.agg [vI p0.Hidden.Grain,z1 p0.Hidden.First,z2 p0.Hidden.Step,z2 p0.Hidden.Show,z1 p0.seen]),oX false false 1 (.ref 3 0 x47.length),oX true false 5 (.agg [vI p0.Hidden.Grain,z1 p0.Hidden.First,z2 p0.Hidden.Step,z2 p0.Hidden.Show,z1 p0.seen]),.refs 4 (eF eI x47),.fam 1 true (eF eI x47),.loop 66 [(1,.ptr 0 0 0),(3,.ptr 1 0 0),(13,.fn (.func 124) [] [.ptr 2 0 0])] [14] (cA Try.f61 [true,true,false,true,true]) (cB Try.f61 [true,true,false,true,true]) .ready none],15⟩,by as_aux_lemma=>kernel_rfl,?_⟩
   refine sz 1 4 (reg_end rfl ?_)
   refine ⟨_,wk_refl,?_⟩
   refine wcF (wp_skip (wg [0,6,7] [] (rn ?_)))
   cases h
   exact ⟨_,rfl,(wk_gc (live:=[0,6,7]) (keep:=[]) kr)⟩
  refine wcF (wg [] [] ?_)
  refine wp_exit ?_
  cases h
  exact ⟨kr,rfl⟩
 intro x49 h out hx
 subst hx
 refine ⟨.go .normal ⟨[(1,.ptr 0 0 0),(3,.ptr 1 0 0),(13,.fn (.func 124) [] [.ptr 2 0 0])],[oX true false 5 (.agg [vI p0.Hidden.Grain,z1 p0.Hidden.First,z2 p0.Hidden.Step,z2 p0.Hidden.Show,z1 p0.seen]),oX false false 1 (.ref 3 0 x49.length),oX true false 5 (.agg [vI p0.Hidden.Grain,z1 p0.Hidden.First,z2 p0.Hidden.Step,z2 p0.Hidden.Show,z1 p0.seen]),.refs 4 (eF eI x49),.fam 1 true (eF eI x49),.dead],66⟩,by as_aux_lemma=>kernel_rfl,?_⟩
 refine wp_seq ?_
 refine wp_post ?_
 refine rn ?_
 refine ⟨_,wk_refl,?_⟩
 refine wgc [2] [3,4] ⟨[(2,.ref 0 0 x49.length)],[.refs 1 (eF eI x49),.fam 1 true (eF eI x49)],66⟩ ?_
 refine wp_wk (wk_frzF 0 1 (enc:=eI) (ls:=x49) (st':=⟨[(2,.ref 0 0 x49.length)],[oR false 1 z1 x49,.dead],66⟩) rfl rfl kr) ?_
 cases h
 exact wp_ret (show fnOut _ _ _ _=_ from by kernel_rfl)
theorem g_hidden_Forward_ok (p0:Tapi_Hidden) (p1:(List Int)) (x:((List (List Int)) × Int)) (h:g_hidden_Forward p0 p1=some x):CallOk Try.prog 16 [.agg [vI p0.Grain,z1 p0.First,z2 p0.Step,z2 p0.Show],z1 p1] (.ret (.tup [.ref 0 0 x.1.length,vI x.2]) [oR false 1 z1 x.1]):=by
 refine fn_ok [] Try.func16 rfl (by decide +kernel) rfl ?_
 unfold g_hidden_Forward at h
 refine wp_eqB (base':=0) (st':=⟨[(0,.agg [vI p0.Grain,z1 p0.First,z2 p0.Step,z2 p0.Show]),(1,z1 p1)],[],19⟩) kr kr ?_
 refine wp_seq (reg_in ?_)
 refine sgL false [] [] false gE ?_
 refine sz 2 3 (reg_end rfl (wp_seq (reg_in (sz 2 2 ?_))))
 refine callW bodyB_60 (g_hidden_newWatcher_ok p0 p1) h (fun x1 _ h=>?_)
 refine sz 3 6 ?_
 refine sgL false [] [] false gE ?_
 refine sz 2 9 (reg_end rfl (wp_seq (wp_seq ?_)))
 refine wgc [6,7] [1] ⟨[(6,.ptr 0 0 0),(7,vI x1.2)],[oX true false 5 (.agg [vI x1.1.Hidden.Grain,z1 x1.1.Hidden.First,z2 x1.1.Hidden.Step,z2 x1.1.Hidden.Show,z1 x1.1.seen])],19⟩ ?_
 refine rn ?_
 refine wb [15] h (fun q4 h=>?_) (fun q4 h=>?_)
 ·refine wcT (sq (wg [4,5] [] ?_))
  refine wp_wk (wk_nil 4 1 true false gE) ?_
  cases h
  exact wp_ret (show fnOut _ _ _ _=_ from by kernel_rfl)
 refine wcF (wp_skip (wp_seq (reg_in (sz 1 1 ?_))))
 refine callW bodyB_61 (g_hidden_watcher_forward_ok x1.1) h (fun x5 _ h=>?_)
 refine sz 2 4 (reg_end rfl (wg [4,5] [1] ?_))
 cases h
 exact wp_ret (show fnOut _ _ _ _=_ from by kernel_rfl)
end Go.Ab
