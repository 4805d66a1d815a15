/- What functions compute. No conditions. -/
import Derived.Test.YtjhfdojgaoapcaaDoorEng9
set_option linter.all false
namespace Go.Ab
open Go
structure Torder_neighbours where
 near:(List Int)
 deriving DecidableEq,Inhabited
structure Torder_graph where
 neighbours:Torder_neighbours
 left:Int
 deriving DecidableEq,Inhabited
structure Tharuspexref08_Draft where
 N:Int
 E:(List (Int × Int))
 Order:(List Int)
 deriving DecidableEq,Inhabited
@[reducible] def eTharuspexref08_Draft (x:Tharuspexref08_Draft):AV:=.agg [.int .u8 x.N,eL true (fun x:(Int × Int)=>AV.agg [.int .u8 x.1,.int .u8 x.2]) x.E,eL true (AV.int .u8) x.Order]
def goodP (x:Int × Int):Bool:=true
def leP (x y:Int × Int):Bool:=decide (x.1 < y.1) || (x.1==y.1 && decide (x.2≤y.2))
def g_order_Check_b0 (p0:(List Int)) (s5:Int) (a8:Int) (s14:Int):Option (Step Int (Unit ⊕ Unit)) :=
 if (decide (s14 < (p0.length:Int)))=true then
  if 0≤s14 then
   (lkI p0 s14).bind fun a17 =>
   if 0≤s5 then
    if ((IntKind.u64.wrap (BitVec.ofInt (IntKind.bits .u64) (Int.fdiv a8 (2^min (Int.toNat s14) (IntKind.bits .u64))) &&& BitVec.ofInt (IntKind.bits .u64) 1).toNat) != (IntKind.u64.wrap (BitVec.ofInt (IntKind.bits .u64) (Int.fdiv a17 (2^min (Int.toNat s5) (IntKind.bits .u64))) &&& BitVec.ofInt (IntKind.bits .u64) 1).toNat))=true then
     some (.done (Sum.inl ()))
    else
    some (.next (IntKind.i64.wrap (s14+1)))
   else none
  else none
 else
 some (.done (Sum.inr ()))
def g_order_Check_b1 (p0:(List Int)) (s5:Int):Option (Step Int (Unit ⊕ Unit)) :=
 if (decide (s5 < (p0.length:Int)))=true then
  (lkI p0 s5).bind fun a8 =>
  if 0≤(p0.length:Int) then
   if ((Int.fdiv a8 (2^min (Int.toNat (p0.length:Int)) (IntKind.bits .u64))) != 0)=true then
    some (.done (Sum.inl ()))
   else
   if 0≤s5 then
    if ((IntKind.u64.wrap (BitVec.ofInt (IntKind.bits .u64) (Int.fdiv a8 (2^min (Int.toNat s5) (IntKind.bits .u64))) &&& BitVec.ofInt (IntKind.bits .u64) 1).toNat)==1)=true then
     some (.done (Sum.inl ()))
    else
    (whileN fuel (g_order_Check_b0 p0 s5 a8) 0).bind fun x21=>match x21 with
    | .inl x22=>(
     some (.done (Sum.inl ())))
    | .inr x23=>(
     some (.next (IntKind.i64.wrap (s5+1))))
   else none
  else none
 else
 some (.done (Sum.inr ()))
def g_order_Check (p0:(List Int)):Option Int :=
 if (decide ((p0.length:Int) < 1))=true then
  some 80
 else
 if (decide ((p0.length:Int) > 10))=true then
  some 80
 else
 (whileN fuel (g_order_Check_b1 p0) 0).bind fun x24=>match x24 with
 | .inl x25=>(
  some 80)
 | .inr x26=>(
  some 0)
def g_order_read_b0 (p1:(List Int)) (p0:(List Int)) (s7:(Int × Int)):Option (Step (Int × Int) (Unit ⊕ Unit)) :=
 if (decide (s7.2 < (p1.length:Int)))=true then
  (lkI p1 s7.2).bind fun a10 =>
  if (decide (a10 < 0))=true then
   some (.done (Sum.inl ()))
  else
  if (decide (a10≥(p0.length:Int)))=true then
   some (.done (Sum.inl ()))
  else
  if 0≤a10 then
   if ((IntKind.u64.wrap (BitVec.ofInt (IntKind.bits .u64) (Int.fdiv s7.1 (2^min (Int.toNat a10) (IntKind.bits .u64))) &&& BitVec.ofInt (IntKind.bits .u64) 1).toNat)==1)=true then
    some (.done (Sum.inl ()))
   else
   if 0≤a10 then
    some (.next (IntKind.u64.wrap (BitVec.ofInt (IntKind.bits .u64) s7.1 ||| BitVec.ofInt (IntKind.bits .u64) (IntKind.u64.wrap (1*2^min (Int.toNat a10) (IntKind.bits .u64)))).toNat,IntKind.i64.wrap (s7.2+1)))
   else none
  else none
 else
 some (.done (Sum.inr ()))
def g_order_read (p0:(List Int)) (p1:(List Int)):Option Int :=
 (g_order_Check p0).bind fun x1 =>
 if (x1 != 0)=true then
  some x1
 else
 if ((p1.length:Int) != (p0.length:Int))=true then
  some 81
 else
 (whileN fuel (g_order_read_b0 p1 p0) (0,0)).bind fun x18=>match x18 with
 | .inl x19=>(
  some 81)
 | .inr x20=>(
  some 0)
def g_slices_Clone_uint_uint_c (c0:Int) (d0:(List Int)):Option (List Int) :=
 if (c0::d0).length*8≤140737488355328 then
  some (c0::d0)
 else none
def g_slices_Clone_uint_uint_e  : Option (List Int) :=
 some ([]:(List Int))
def g_slices_Clone_uint_uint_n  : Option (List Int) :=
 some ([]:(List Int))
def g_slices_Clone_uint_uint (p0:(List Int)):Option (List Int) :=
 match p0 with
 | []=>(g_slices_Clone_uint_uint_n).bind fun x=>(g_slices_Clone_uint_uint_e).bind fun y=>if x=y then some x else none
 | c0::d0=>g_slices_Clone_uint_uint_c c0 d0
def g_math_bits_OnesCount64 (p0:Int):Option Int :=
 some (IntKind.i64.wrap (BitVec.ofInt (IntKind.bits .i64) (IntKind.i64.wrap (IntKind.u64.wrap ((IntKind.u64.wrap ((IntKind.u64.wrap ((IntKind.u64.wrap (BitVec.ofInt (IntKind.bits .u64) (IntKind.u64.wrap ((Int.fdiv (IntKind.u64.wrap ((IntKind.u64.wrap (BitVec.ofInt (IntKind.bits .u64) (Int.fdiv (IntKind.u64.wrap ((IntKind.u64.wrap (BitVec.ofInt (IntKind.bits .u64) (Int.fdiv p0 (2^min (Int.toNat 1) (IntKind.bits .u64))) &&& BitVec.ofInt (IntKind.bits .u64) 6148914691236517205).toNat)+(IntKind.u64.wrap (BitVec.ofInt (IntKind.bits .u64) p0 &&& BitVec.ofInt (IntKind.bits .u64) 6148914691236517205).toNat))) (2^min (Int.toNat 2) (IntKind.bits .u64))) &&& BitVec.ofInt (IntKind.bits .u64) 3689348814741910323).toNat)+(IntKind.u64.wrap (BitVec.ofInt (IntKind.bits .u64) (IntKind.u64.wrap ((IntKind.u64.wrap (BitVec.ofInt (IntKind.bits .u64) (Int.fdiv p0 (2^min (Int.toNat 1) (IntKind.bits .u64))) &&& BitVec.ofInt (IntKind.bits .u64) 6148914691236517205).toNat)+(IntKind.u64.wrap (BitVec.ofInt (IntKind.bits .u64) p0 &&& BitVec.ofInt (IntKind.bits .u64) 6148914691236517205).toNat))) &&& BitVec.ofInt (IntKind.bits .u64) 3689348814741910323).toNat))) (2^min (Int.toNat 4) (IntKind.bits .u64)))+(IntKind.u64.wrap ((IntKind.u64.wrap (BitVec.ofInt (IntKind.bits .u64) (Int.fdiv (IntKind.u64.wrap ((IntKind.u64.wrap (BitVec.ofInt (IntKind.bits .u64) (Int.fdiv p0 (2^min (Int.toNat 1) (IntKind.bits .u64))) &&& BitVec.ofInt (IntKind.bits .u64) 6148914691236517205).toNat)+(IntKind.u64.wrap (BitVec.ofInt (IntKind.bits .u64) p0 &&& BitVec.ofInt (IntKind.bits .u64) 6148914691236517205).toNat))) (2^min (Int.toNat 2) (IntKind.bits .u64))) &&& BitVec.ofInt (IntKind.bits .u64) 3689348814741910323).toNat)+(IntKind.u64.wrap (BitVec.ofInt (IntKind.bits .u64) (IntKind.u64.wrap ((IntKind.u64.wrap (BitVec.ofInt (IntKind.bits .u64) (Int.fdiv p0 (2^min (Int.toNat 1) (IntKind.bits .u64))) &&& BitVec.ofInt (IntKind.bits .u64) 6148914691236517205).toNat)+(IntKind.u64.wrap (BitVec.ofInt (IntKind.bits .u64) p0 &&& BitVec.ofInt (IntKind.bits .u64) 6148914691236517205).toNat))) &&& BitVec.ofInt (IntKind.bits .u64) 3689348814741910323).toNat))))) &&& BitVec.ofInt (IntKind.bits .u64) 1085102592571150095).toNat)+(Int.fdiv (IntKind.u64.wrap (BitVec.ofInt (IntKind.bits .u64) (IntKind.u64.wrap ((Int.fdiv (IntKind.u64.wrap ((IntKind.u64.wrap (BitVec.ofInt (IntKind.bits .u64) (Int.fdiv (IntKind.u64.wrap ((IntKind.u64.wrap (BitVec.ofInt (IntKind.bits .u64) (Int.fdiv p0 (2^min (Int.toNat 1) (IntKind.bits .u64))) &&& BitVec.ofInt (IntKind.bits .u64) 6148914691236517205).toNat)+(IntKind.u64.wrap (BitVec.ofInt (IntKind.bits .u64) p0 &&& BitVec.ofInt (IntKind.bits .u64) 6148914691236517205).toNat))) (2^min (Int.toNat 2) (IntKind.bits .u64))) &&& BitVec.ofInt (IntKind.bits .u64) 3689348814741910323).toNat)+(IntKind.u64.wrap (BitVec.ofInt (IntKind.bits .u64) (IntKind.u64.wrap ((IntKind.u64.wrap (BitVec.ofInt (IntKind.bits .u64) (Int.fdiv p0 (2^min (Int.toNat 1) (IntKind.bits .u64))) &&& BitVec.ofInt (IntKind.bits .u64) 6148914691236517205).toNat)+(IntKind.u64.wrap (BitVec.ofInt (IntKind.bits .u64) p0 &&& BitVec.ofInt (IntKind.bits .u64) 6148914691236517205).toNat))) &&& BitVec.ofInt (IntKind.bits .u64) 3689348814741910323).toNat))) (2^min (Int.toNat 4) (IntKind.bits .u64)))+(IntKind.u64.wrap ((IntKind.u64.wrap (BitVec.ofInt (IntKind.bits .u64) (Int.fdiv (IntKind.u64.wrap ((IntKind.u64.wrap (BitVec.ofInt (IntKind.bits .u64) (Int.fdiv p0 (2^min (Int.toNat 1) (IntKind.bits .u64))) &&& BitVec.ofInt (IntKind.bits .u64) 6148914691236517205).toNat)+(IntKind.u64.wrap (BitVec.ofInt (IntKind.bits .u64) p0 &&& BitVec.ofInt (IntKind.bits .u64) 6148914691236517205).toNat))) (2^min (Int.toNat 2) (IntKind.bits .u64))) &&& BitVec.ofInt (IntKind.bits .u64) 3689348814741910323).toNat)+(IntKind.u64.wrap (BitVec.ofInt (IntKind.bits .u64) (IntKind.u64.wrap ((IntKind.u64.wrap (BitVec.ofInt (IntKind.bits .u64) (Int.fdiv p0 (2^min (Int.toNat 1) (IntKind.bits .u64))) &&& BitVec.ofInt (IntKind.bits .u64) 6148914691236517205).toNat)+(IntKind.u64.wrap (BitVec.ofInt (IntKind.bits .u64) p0 &&& BitVec.ofInt (IntKind.bits .u64) 6148914691236517205).toNat))) &&& BitVec.ofInt (IntKind.bits .u64) 3689348814741910323).toNat))))) &&& BitVec.ofInt (IntKind.bits .u64) 1085102592571150095).toNat) (2^min (Int.toNat 8) (IntKind.bits .u64)))))+(Int.fdiv (IntKind.u64.wrap ((IntKind.u64.wrap (BitVec.ofInt (IntKind.bits .u64) (IntKind.u64.wrap ((Int.fdiv (IntKind.u64.wrap ((IntKind.u64.wrap (BitVec.ofInt (IntKind.bits .u64) (Int.fdiv (IntKind.u64.wrap ((IntKind.u64.wrap (BitVec.ofInt (IntKind.bits .u64) (Int.fdiv p0 (2^min (Int.toNat 1) (IntKind.bits .u64))) &&& BitVec.ofInt (IntKind.bits .u64) 6148914691236517205).toNat)+(IntKind.u64.wrap (BitVec.ofInt (IntKind.bits .u64) p0 &&& BitVec.ofInt (IntKind.bits .u64) 6148914691236517205).toNat))) (2^min (Int.toNat 2) (IntKind.bits .u64))) &&& BitVec.ofInt (IntKind.bits .u64) 3689348814741910323).toNat)+(IntKind.u64.wrap (BitVec.ofInt (IntKind.bits .u64) (IntKind.u64.wrap ((IntKind.u64.wrap (BitVec.ofInt (IntKind.bits .u64) (Int.fdiv p0 (2^min (Int.toNat 1) (IntKind.bits .u64))) &&& BitVec.ofInt (IntKind.bits .u64) 6148914691236517205).toNat)+(IntKind.u64.wrap (BitVec.ofInt (IntKind.bits .u64) p0 &&& BitVec.ofInt (IntKind.bits .u64) 6148914691236517205).toNat))) &&& BitVec.ofInt (IntKind.bits .u64) 3689348814741910323).toNat))) (2^min (Int.toNat 4) (IntKind.bits .u64)))+(IntKind.u64.wrap ((IntKind.u64.wrap (BitVec.ofInt (IntKind.bits .u64) (Int.fdiv (IntKind.u64.wrap ((IntKind.u64.wrap (BitVec.ofInt (IntKind.bits .u64) (Int.fdiv p0 (2^min (Int.toNat 1) (IntKind.bits .u64))) &&& BitVec.ofInt (IntKind.bits .u64) 6148914691236517205).toNat)+(IntKind.u64.wrap (BitVec.ofInt (IntKind.bits .u64) p0 &&& BitVec.ofInt (IntKind.bits .u64) 6148914691236517205).toNat))) (2^min (Int.toNat 2) (IntKind.bits .u64))) &&& BitVec.ofInt (IntKind.bits .u64) 3689348814741910323).toNat)+(IntKind.u64.wrap (BitVec.ofInt (IntKind.bits .u64) (IntKind.u64.wrap ((IntKind.u64.wrap (BitVec.ofInt (IntKind.bits .u64) (Int.fdiv p0 (2^min (Int.toNat 1) (IntKind.bits .u64))) &&& BitVec.ofInt (IntKind.bits .u64) 6148914691236517205).toNat)+(IntKind.u64.wrap (BitVec.ofInt (IntKind.bits .u64) p0 &&& BitVec.ofInt (IntKind.bits .u64) 6148914691236517205).toNat))) &&& BitVec.ofInt (IntKind.bits .u64) 3689348814741910323).toNat))))) &&& BitVec.ofInt (IntKind.bits .u64) 1085102592571150095).toNat)+(Int.fdiv (IntKind.u64.wrap (BitVec.ofInt (IntKind.bits .u64) (IntKind.u64.wrap ((Int.fdiv (IntKind.u64.wrap ((IntKind.u64.wrap (BitVec.ofInt (IntKind.bits .u64) (Int.fdiv (IntKind.u64.wrap ((IntKind.u64.wrap (BitVec.ofInt (IntKind.bits .u64) (Int.fdiv p0 (2^min (Int.toNat 1) (IntKind.bits .u64))) &&& BitVec.ofInt (IntKind.bits .u64) 6148914691236517205).toNat)+(IntKind.u64.wrap (BitVec.ofInt (IntKind.bits .u64) p0 &&& BitVec.ofInt (IntKind.bits .u64) 6148914691236517205).toNat))) (2^min (Int.toNat 2) (IntKind.bits .u64))) &&& BitVec.ofInt (IntKind.bits .u64) 3689348814741910323).toNat)+(IntKind.u64.wrap (BitVec.ofInt (IntKind.bits .u64) (IntKind.u64.wrap ((IntKind.u64.wrap (BitVec.ofInt (IntKind.bits .u64) (Int.fdiv p0 (2^min (Int.toNat 1) (IntKind.bits .u64))) &&& BitVec.ofInt (IntKind.bits .u64) 6148914691236517205).toNat)+(IntKind.u64.wrap (BitVec.ofInt (IntKind.bits .u64) p0 &&& BitVec.ofInt (IntKind.bits .u64) 6148914691236517205).toNat))) &&& BitVec.ofInt (IntKind.bits .u64) 3689348814741910323).toNat))) (2^min (Int.toNat 4) (IntKind.bits .u64)))+(IntKind.u64.wrap ((IntKind.u64.wrap (BitVec.ofInt (IntKind.bits .u64) (Int.fdiv (IntKind.u64.wrap ((IntKind.u64.wrap (BitVec.ofInt (IntKind.bits .u64) (Int.fdiv p0 (2^min (Int.toNat 1) (IntKind.bits .u64))) &&& BitVec.ofInt (IntKind.bits .u64) 6148914691236517205).toNat)+(IntKind.u64.wrap (BitVec.ofInt (IntKind.bits .u64) p0 &&& BitVec.ofInt (IntKind.bits .u64) 6148914691236517205).toNat))) (2^min (Int.toNat 2) (IntKind.bits .u64))) &&& BitVec.ofInt (IntKind.bits .u64) 3689348814741910323).toNat)+(IntKind.u64.wrap (BitVec.ofInt (IntKind.bits .u64) (IntKind.u64.wrap ((IntKind.u64.wrap (BitVec.ofInt (IntKind.bits .u64) (Int.fdiv p0 (2^min (Int.toNat 1) (IntKind.bits .u64))) &&& BitVec.ofInt (IntKind.bits .u64) 6148914691236517205).toNat)+(IntKind.u64.wrap (BitVec.ofInt (IntKind.bits .u64) p0 &&& BitVec.ofInt (IntKind.bits .u64) 6148914691236517205).toNat))) &&& BitVec.ofInt (IntKind.bits .u64) 3689348814741910323).toNat))))) &&& BitVec.ofInt (IntKind.bits .u64) 1085102592571150095).toNat) (2^min (Int.toNat 8) (IntKind.bits .u64))))) (2^min (Int.toNat 16) (IntKind.bits .u64)))))+(Int.fdiv (IntKind.u64.wrap ((IntKind.u64.wrap ((IntKind.u64.wrap (BitVec.ofInt (IntKind.bits .u64) (IntKind.u64.wrap ((Int.fdiv (IntKind.u64.wrap ((IntKind.u64.wrap (BitVec.ofInt (IntKind.bits .u64) (Int.fdiv (IntKind.u64.wrap ((IntKind.u64.wrap (BitVec.ofInt (IntKind.bits .u64) (Int.fdiv p0 (2^min (Int.toNat 1) (IntKind.bits .u64))) &&& BitVec.ofInt (IntKind.bits .u64) 6148914691236517205).toNat)+(IntKind.u64.wrap (BitVec.ofInt (IntKind.bits .u64) p0 &&& BitVec.ofInt (IntKind.bits .u64) 6148914691236517205).toNat))) (2^min (Int.toNat 2) (IntKind.bits .u64))) &&& BitVec.ofInt (IntKind.bits .u64) 3689348814741910323).toNat)+(IntKind.u64.wrap (BitVec.ofInt (IntKind.bits .u64) (IntKind.u64.wrap ((IntKind.u64.wrap (BitVec.ofInt (IntKind.bits .u64) (Int.fdiv p0 (2^min (Int.toNat 1) (IntKind.bits .u64))) &&& BitVec.ofInt (IntKind.bits .u64) 6148914691236517205).toNat)+(IntKind.u64.wrap (BitVec.ofInt (IntKind.bits .u64) p0 &&& BitVec.ofInt (IntKind.bits .u64) 6148914691236517205).toNat))) &&& BitVec.ofInt (IntKind.bits .u64) 3689348814741910323).toNat))) (2^min (Int.toNat 4) (IntKind.bits .u64)))+(IntKind.u64.wrap ((IntKind.u64.wrap (BitVec.ofInt (IntKind.bits .u64) (Int.fdiv (IntKind.u64.wrap ((IntKind.u64.wrap (BitVec.ofInt (IntKind.bits .u64) (Int.fdiv p0 (2^min (Int.toNat 1) (IntKind.bits .u64))) &&& BitVec.ofInt (IntKind.bits .u64) 6148914691236517205).toNat)+(IntKind.u64.wrap (BitVec.ofInt (IntKind.bits .u64) p0 &&& BitVec.ofInt (IntKind.bits .u64) 6148914691236517205).toNat))) (2^min (Int.toNat 2) (IntKind.bits .u64))) &&& BitVec.ofInt (IntKind.bits .u64) 3689348814741910323).toNat)+(IntKind.u64.wrap (BitVec.ofInt (IntKind.bits .u64) (IntKind.u64.wrap ((IntKind.u64.wrap (BitVec.ofInt (IntKind.bits .u64) (Int.fdiv p0 (2^min (Int.toNat 1) (IntKind.bits .u64))) &&& BitVec.ofInt (IntKind.bits .u64) 6148914691236517205).toNat)+(IntKind.u64.wrap (BitVec.ofInt (IntKind.bits .u64) p0 &&& BitVec.ofInt (IntKind.bits .u64) 6148914691236517205).toNat))) &&& BitVec.ofInt (IntKind.bits .u64) 3689348814741910323).toNat))))) &&& BitVec.ofInt (IntKind.bits .u64) 1085102592571150095).toNat)+(Int.fdiv (IntKind.u64.wrap (BitVec.ofInt (IntKind.bits .u64) (IntKind.u64.wrap ((Int.fdiv (IntKind.u64.wrap ((IntKind.u64.wrap (BitVec.ofInt (IntKind.bits .u64) (Int.fdiv (IntKind.u64.wrap ((IntKind.u64.wrap (BitVec.ofInt (IntKind.bits .u64) (Int.fdiv p0 (2^min (Int.toNat 1) (IntKind.bits .u64))) &&& BitVec.ofInt (IntKind.bits .u64) 6148914691236517205).toNat)+(IntKind.u64.wrap (BitVec.ofInt (IntKind.bits .u64) p0 &&& BitVec.ofInt (IntKind.bits .u64) 6148914691236517205).toNat))) (2^min (Int.toNat 2) (IntKind.bits .u64))) &&& BitVec.ofInt (IntKind.bits .u64) 3689348814741910323).toNat)+(IntKind.u64.wrap (BitVec.ofInt (IntKind.bits .u64) (IntKind.u64.wrap ((IntKind.u64.wrap (BitVec.ofInt (IntKind.bits .u64) (Int.fdiv p0 (2^min (Int.toNat 1) (IntKind.bits .u64))) &&& BitVec.ofInt (IntKind.bits .u64) 6148914691236517205).toNat)+(IntKind.u64.wrap (BitVec.ofInt (IntKind.bits .u64) p0 &&& BitVec.ofInt (IntKind.bits .u64) 6148914691236517205).toNat))) &&& BitVec.ofInt (IntKind.bits .u64) 3689348814741910323).toNat))) (2^min (Int.toNat 4) (IntKind.bits .u64)))+(IntKind.u64.wrap ((IntKind.u64.wrap (BitVec.ofInt (IntKind.bits .u64) (Int.fdiv (IntKind.u64.wrap ((IntKind.u64.wrap (BitVec.ofInt (IntKind.bits .u64) (Int.fdiv p0 (2^min (Int.toNat 1) (IntKind.bits .u64))) &&& BitVec.ofInt (IntKind.bits .u64) 6148914691236517205).toNat)+(IntKind.u64.wrap (BitVec.ofInt (IntKind.bits .u64) p0 &&& BitVec.ofInt (IntKind.bits .u64) 6148914691236517205).toNat))) (2^min (Int.toNat 2) (IntKind.bits .u64))) &&& BitVec.ofInt (IntKind.bits .u64) 3689348814741910323).toNat)+(IntKind.u64.wrap (BitVec.ofInt (IntKind.bits .u64) (IntKind.u64.wrap ((IntKind.u64.wrap (BitVec.ofInt (IntKind.bits .u64) (Int.fdiv p0 (2^min (Int.toNat 1) (IntKind.bits .u64))) &&& BitVec.ofInt (IntKind.bits .u64) 6148914691236517205).toNat)+(IntKind.u64.wrap (BitVec.ofInt (IntKind.bits .u64) p0 &&& BitVec.ofInt (IntKind.bits .u64) 6148914691236517205).toNat))) &&& BitVec.ofInt (IntKind.bits .u64) 3689348814741910323).toNat))))) &&& BitVec.ofInt (IntKind.bits .u64) 1085102592571150095).toNat) (2^min (Int.toNat 8) (IntKind.bits .u64)))))+(Int.fdiv (IntKind.u64.wrap ((IntKind.u64.wrap (BitVec.ofInt (IntKind.bits .u64) (IntKind.u64.wrap ((Int.fdiv (IntKind.u64.wrap ((IntKind.u64.wrap (BitVec.ofInt (IntKind.bits .u64) (Int.fdiv (IntKind.u64.wrap ((IntKind.u64.wrap (BitVec.ofInt (IntKind.bits .u64) (Int.fdiv p0 (2^min (Int.toNat 1) (IntKind.bits .u64))) &&& BitVec.ofInt (IntKind.bits .u64) 6148914691236517205).toNat)+(IntKind.u64.wrap (BitVec.ofInt (IntKind.bits .u64) p0 &&& BitVec.ofInt (IntKind.bits .u64) 6148914691236517205).toNat))) (2^min (Int.toNat 2) (IntKind.bits .u64))) &&& BitVec.ofInt (IntKind.bits .u64) 3689348814741910323).toNat)+(IntKind.u64.wrap (BitVec.ofInt (IntKind.bits .u64) (IntKind.u64.wrap ((IntKind.u64.wrap (BitVec.ofInt (IntKind.bits .u64) (Int.fdiv p0 (2^min (Int.toNat 1) (IntKind.bits .u64))) &&& BitVec.ofInt (IntKind.bits .u64) 6148914691236517205).toNat)+(IntKind.u64.wrap (BitVec.ofInt (IntKind.bits .u64) p0 &&& BitVec.ofInt (IntKind.bits .u64) 6148914691236517205).toNat))) &&& BitVec.ofInt (IntKind.bits .u64) 3689348814741910323).toNat))) (2^min (Int.toNat 4) (IntKind.bits .u64)))+(IntKind.u64.wrap ((IntKind.u64.wrap (BitVec.ofInt (IntKind.bits .u64) (Int.fdiv (IntKind.u64.wrap ((IntKind.u64.wrap (BitVec.ofInt (IntKind.bits .u64) (Int.fdiv p0 (2^min (Int.toNat 1) (IntKind.bits .u64))) &&& BitVec.ofInt (IntKind.bits .u64) 6148914691236517205).toNat)+(IntKind.u64.wrap (BitVec.ofInt (IntKind.bits .u64) p0 &&& BitVec.ofInt (IntKind.bits .u64) 6148914691236517205).toNat))) (2^min (Int.toNat 2) (IntKind.bits .u64))) &&& BitVec.ofInt (IntKind.bits .u64) 3689348814741910323).toNat)+(IntKind.u64.wrap (BitVec.ofInt (IntKind.bits .u64) (IntKind.u64.wrap ((IntKind.u64.wrap (BitVec.ofInt (IntKind.bits .u64) (Int.fdiv p0 (2^min (Int.toNat 1) (IntKind.bits .u64))) &&& BitVec.ofInt (IntKind.bits .u64) 6148914691236517205).toNat)+(IntKind.u64.wrap (BitVec.ofInt (IntKind.bits .u64) p0 &&& BitVec.ofInt (IntKind.bits .u64) 6148914691236517205).toNat))) &&& BitVec.ofInt (IntKind.bits .u64) 3689348814741910323).toNat))))) &&& BitVec.ofInt (IntKind.bits .u64) 1085102592571150095).toNat)+(Int.fdiv (IntKind.u64.wrap (BitVec.ofInt (IntKind.bits .u64) (IntKind.u64.wrap ((Int.fdiv (IntKind.u64.wrap ((IntKind.u64.wrap (BitVec.ofInt (IntKind.bits .u64) (Int.fdiv (IntKind.u64.wrap ((IntKind.u64.wrap (BitVec.ofInt (IntKind.bits .u64) (Int.fdiv p0 (2^min (Int.toNat 1) (IntKind.bits .u64))) &&& BitVec.ofInt (IntKind.bits .u64) 6148914691236517205).toNat)+(IntKind.u64.wrap (BitVec.ofInt (IntKind.bits .u64) p0 &&& BitVec.ofInt (IntKind.bits .u64) 6148914691236517205).toNat))) (2^min (Int.toNat 2) (IntKind.bits .u64))) &&& BitVec.ofInt (IntKind.bits .u64) 3689348814741910323).toNat)+(IntKind.u64.wrap (BitVec.ofInt (IntKind.bits .u64) (IntKind.u64.wrap ((IntKind.u64.wrap (BitVec.ofInt (IntKind.bits .u64) (Int.fdiv p0 (2^min (Int.toNat 1) (IntKind.bits .u64))) &&& BitVec.ofInt (IntKind.bits .u64) 6148914691236517205).toNat)+(IntKind.u64.wrap (BitVec.ofInt (IntKind.bits .u64) p0 &&& BitVec.ofInt (IntKind.bits .u64) 6148914691236517205).toNat))) &&& BitVec.ofInt (IntKind.bits .u64) 3689348814741910323).toNat))) (2^min (Int.toNat 4) (IntKind.bits .u64)))+(IntKind.u64.wrap ((IntKind.u64.wrap (BitVec.ofInt (IntKind.bits .u64) (Int.fdiv (IntKind.u64.wrap ((IntKind.u64.wrap (BitVec.ofInt (IntKind.bits .u64) (Int.fdiv p0 (2^min (Int.toNat 1) (IntKind.bits .u64))) &&& BitVec.ofInt (IntKind.bits .u64) 6148914691236517205).toNat)+(IntKind.u64.wrap (BitVec.ofInt (IntKind.bits .u64) p0 &&& BitVec.ofInt (IntKind.bits .u64) 6148914691236517205).toNat))) (2^min (Int.toNat 2) (IntKind.bits .u64))) &&& BitVec.ofInt (IntKind.bits .u64) 3689348814741910323).toNat)+(IntKind.u64.wrap (BitVec.ofInt (IntKind.bits .u64) (IntKind.u64.wrap ((IntKind.u64.wrap (BitVec.ofInt (IntKind.bits .u64) (Int.fdiv p0 (2^min (Int.toNat 1) (IntKind.bits .u64))) &&& BitVec.ofInt (IntKind.bits .u64) 6148914691236517205).toNat)+(IntKind.u64.wrap (BitVec.ofInt (IntKind.bits .u64) p0 &&& BitVec.ofInt (IntKind.bits .u64) 6148914691236517205).toNat))) &&& BitVec.ofInt (IntKind.bits .u64) 3689348814741910323).toNat))))) &&& BitVec.ofInt (IntKind.bits .u64) 1085102592571150095).toNat) (2^min (Int.toNat 8) (IntKind.bits .u64))))) (2^min (Int.toNat 16) (IntKind.bits .u64))))) (2^min (Int.toNat 32) (IntKind.bits .u64)))))) &&& BitVec.ofInt (IntKind.bits .i64) 127).toNat)
def g_math_bits_OnesCount (p0:Int):Option Int :=
 (g_math_bits_OnesCount64 p0).bind fun x1 =>
 some x1
def g_order_graph_degree (p0:Torder_graph) (p1:Int):Option Int :=
 (lkI p0.neighbours.near p1).bind fun a1 =>
 (g_math_bits_OnesCount a1).bind fun x3 =>
 some x3
def g_math_bits_TrailingZeros64 (p0:Int):Option Int :=
 if (p0==0)=true then
  some 64
 else
 (lkI tab1 (Int.fdiv (IntKind.u64.wrap ((IntKind.u64.wrap (BitVec.ofInt (IntKind.bits .u64) p0 &&& BitVec.ofInt (IntKind.bits .u64) (IntKind.u64.wrap (0 - p0))).toNat)*285870213051353865)) (2^min (Int.toNat 58) (IntKind.bits .u64)))).bind fun a3 =>
 some (IntKind.i64.wrap (a3))
def g_math_bits_TrailingZeros (p0:Int):Option Int :=
 (g_math_bits_TrailingZeros64 p0).bind fun x1 =>
 some x1
def g_order_graph_remove_m0_b0 (m0:Int) (s1:(Int × (List Int))):Option (Step (Int × (List Int)) (List Int)) :=
 if (s1.1 != 0)=true then
  (g_math_bits_TrailingZeros s1.1).bind fun x4 =>
  (lkI s1.2 x4).bind fun a6 =>
  if 0≤m0 then
   some (.next (IntKind.u64.wrap (BitVec.ofInt (IntKind.bits .u64) s1.1 &&& BitVec.ofInt (IntKind.bits .u64) (IntKind.u64.wrap (s1.1 - 1))).toNat,(List.set s1.2 (Int.toNat x4) (IntKind.u64.wrap (BitVec.ofInt (IntKind.bits .u64) a6 &&& ~~~ BitVec.ofInt (IntKind.bits .u64) (IntKind.u64.wrap (1*2^min (Int.toNat m0) (IntKind.bits .u64)))).toNat))))
  else none
 else
 some (.done s1.2)
def g_order_graph_remove_m0 (m0:Int) (m1:Int) (m2:(List Int)):Option (Int × (List Int)) :=
 if 0≤m0 then
  (whileN fuel (g_order_graph_remove_m0_b0 m0) (IntKind.u64.wrap (BitVec.ofInt (IntKind.bits .u64) m1 &&& ~~~ BitVec.ofInt (IntKind.bits .u64) (IntKind.u64.wrap (1*2^min (Int.toNat m0) (IntKind.bits .u64)))).toNat,m2)).bind fun x10 =>
  (lkI x10 m0).bind fun a11 =>
  some (IntKind.u64.wrap (BitVec.ofInt (IntKind.bits .u64) m1 &&& ~~~ BitVec.ofInt (IntKind.bits .u64) (IntKind.u64.wrap (1*2^min (Int.toNat m0) (IntKind.bits .u64)))).toNat,(List.set x10 (Int.toNat m0) 0))
 else none
def g_order_graph_eliminate_m0_b0 (x6:Int) (s10:(Int × (List Int) × (List (Int × Int)))):Option (Step (Int × (List Int) × (List (Int × Int))) ((List Int) × (List (Int × Int)))) :=
 if (s10.1 != 0)=true then
  (g_math_bits_TrailingZeros s10.1).bind fun x13 =>
  if (s10.2.2++([(x6,x13)]:(List (Int × Int)))).length*16≤140737488355328 then
   (lkI s10.2.1 x6).bind fun a15 =>
   if 0≤x13 then
    (lkI (List.set s10.2.1 (Int.toNat x6) (IntKind.u64.wrap (BitVec.ofInt (IntKind.bits .u64) a15 ||| BitVec.ofInt (IntKind.bits .u64) (IntKind.u64.wrap (1*2^min (Int.toNat x13) (IntKind.bits .u64)))).toNat)) x13).bind fun a17 =>
    if 0≤x6 then
     some (.next (IntKind.u64.wrap (BitVec.ofInt (IntKind.bits .u64) s10.1 &&& BitVec.ofInt (IntKind.bits .u64) (IntKind.u64.wrap (s10.1 - 1))).toNat,(List.set (List.set s10.2.1 (Int.toNat x6) (IntKind.u64.wrap (BitVec.ofInt (IntKind.bits .u64) a15 ||| BitVec.ofInt (IntKind.bits .u64) (IntKind.u64.wrap (1*2^min (Int.toNat x13) (IntKind.bits .u64)))).toNat)) (Int.toNat x13) (IntKind.u64.wrap (BitVec.ofInt (IntKind.bits .u64) a17 ||| BitVec.ofInt (IntKind.bits .u64) (IntKind.u64.wrap (1*2^min (Int.toNat x6) (IntKind.bits .u64)))).toNat)),(s10.2.2++([(x6,x13)]:(List (Int × Int))))))
    else none
   else none
  else none
 else
 some (.done (s10.2.1,s10.2.2))
def g_order_graph_eliminate_m0_b1 (a1:Int) (s3:(Int × (List Int) × (List (Int × Int)))):Option (Step (Int × (List Int) × (List (Int × Int))) ((List Int) × (List (Int × Int)))) :=
 if (s3.1 != 0)=true then
  (g_math_bits_TrailingZeros s3.1).bind fun x6 =>
  (lkI s3.2.1 x6).bind fun a8 =>
  if 0≤(IntKind.i64.wrap (x6+1)) then
   (whileN fuel (g_order_graph_eliminate_m0_b0 x6) (IntKind.u64.wrap (BitVec.ofInt (IntKind.bits .u64) (IntKind.u64.wrap (BitVec.ofInt (IntKind.bits .u64) a1 &&& ~~~ BitVec.ofInt (IntKind.bits .u64) a8).toNat) &&& ~~~ BitVec.ofInt (IntKind.bits .u64) (IntKind.u64.wrap ((IntKind.u64.wrap (1*2^min (Int.toNat (IntKind.i64.wrap (x6+1))) (IntKind.bits .u64))) - 1))).toNat,s3.2.1,s3.2.2)).bind fun x22 =>
   some (.next (IntKind.u64.wrap (BitVec.ofInt (IntKind.bits .u64) s3.1 &&& BitVec.ofInt (IntKind.bits .u64) (IntKind.u64.wrap (s3.1 - 1))).toNat,x22.1,x22.2))
  else none
 else
 some (.done (s3.2.1,s3.2.2))
def g_order_graph_eliminate_m0 (m0:Int) (m1:Int) (m2:(List Int)):Option ((List (Int × Int)) × Int × (List Int)) :=
 (lkI m2 m0).bind fun a1 =>
 (whileN fuel (g_order_graph_eliminate_m0_b1 a1) (a1,m2,([]:(List (Int × Int))))).bind fun x24 =>
 (g_order_graph_remove_m0 m0 m1 x24.1).bind fun x25 =>
 some (x24.2,x25.1,x25.2)
def g_order_run_b0 (p1:(List Int)) (s3:(Int × Int × Int × (List Int) × (List (Int × Int)))):Option (Step (Int × Int × Int × (List Int) × (List (Int × Int))) (Int × (List (Int × Int)))) :=
 if (decide (s3.2.1 < (p1.length:Int)))=true then
  (lkI p1 s3.2.1).bind fun a6 =>
  (g_order_graph_degree (Torder_graph.mk (Torder_neighbours.mk s3.2.2.2.1) s3.2.2.1) a6).bind fun x8 =>
  (g_order_graph_eliminate_m0 a6 s3.2.2.1 s3.2.2.2.1).bind fun x10 =>
  if (s3.2.2.2.2++x10.1).length*16≤140737488355328 then
   some (.next ((if x8 > s3.1 then x8 else s3.1),IntKind.i64.wrap (s3.2.1+1),x10.2.1,x10.2.2,(s3.2.2.2.2++x10.1)))
  else none
 else
 some (.done (s3.1,s3.2.2.2.2))
def g_order_run (p0:(List Int)) (p1:(List Int)):Option ((List (Int × Int)) × Int) :=
 (g_slices_Clone_uint_uint p0).bind fun x1 =>
 if 0≤(p0.length:Int) then
  (whileN fuel (g_order_run_b0 p1) (0,0,IntKind.u64.wrap ((IntKind.u64.wrap (1*2^min (Int.toNat (p0.length:Int)) (IntKind.bits .u64))) - 1),x1,([]:(List (Int × Int))))).bind fun x12 =>
  some (x12.2,x12.1)
 else none
def g_cmp_Or_int_b0 (p0:(List Int)) (s1:Int):Option (Step Int (Int ⊕ Unit)) :=
 if (decide (s1 < (p0.length:Int)))=true then
  (lkI p0 s1).bind fun a4 =>
  if (a4 != 0)=true then
   some (.done (Sum.inl a4))
  else
  some (.next (IntKind.i64.wrap (s1+1)))
 else
 some (.done (Sum.inr ()))
def g_cmp_Or_int (p0:(List Int)):Option Int :=
 (whileN fuel (g_cmp_Or_int_b0 p0) 0).bind fun x8=>match x8 with
 | .inl x9=>(
  some x9)
 | .inr x10=>(
  some 0)
def g_cmp_isNaN_int (p0:Int):Option Bool :=
 some (p0 != p0)
def g_cmp_Compare_int (p0:Int) (p1:Int):Option Int :=
 (g_cmp_isNaN_int p0).bind fun x1 =>
 (g_cmp_isNaN_int p1).bind fun x3 =>
 if x1=true then
  if x3=true then
   some 0
  else
  some (-1)
 else
 if x3=true then
  some 1
 else
 if (decide (p0 < p1))=true then
  some (-1)
 else
 if (decide (p0 > p1))=true then
  some 1
 else
 some 0
def g_order_Fill_1 (p0:(Int × Int)) (p1:(Int × Int)):Option Int :=
 (g_cmp_Compare_int p0.1 p1.1).bind fun x1 =>
 (g_cmp_Compare_int p0.2 p1.2).bind fun x3 =>
 (g_cmp_Or_int [x1,x3]).bind fun x5 =>
 some x5
def g_order_Fill (p0:(List Int)) (p1:(List Int)):Option ((List (Int × Int)) × Int) :=
 (g_order_read p0 p1).bind fun x1 =>
 if (x1 != 0)=true then
  some (([]:(List (Int × Int))),x1)
 else
 (g_order_run p0 p1).bind fun x5 =>
 (sortD goodP leP x5.1).bind fun x7 =>
 some (x7,0)
def g_order_Width (p0:(List Int)) (p1:(List Int)):Option (Int × Int) :=
 (g_order_read p0 p1).bind fun x1 =>
 if (x1 != 0)=true then
  some (0,x1)
 else
 (g_order_run p0 p1).bind fun x5 =>
 some (x5.2,0)
def g_order_graph_lacking_b0 (p0:Torder_graph) (a1:Int) (s3:(Int × Int)):Option (Step (Int × Int) Int) :=
 if (s3.1 != 0)=true then
  (g_math_bits_TrailingZeros s3.1).bind fun x6 =>
  (lkI p0.neighbours.near x6).bind fun a8 =>
  if 0≤x6 then
   (g_math_bits_OnesCount (IntKind.u64.wrap (BitVec.ofInt (IntKind.bits .u64) (IntKind.u64.wrap (BitVec.ofInt (IntKind.bits .u64) a1 &&& ~~~ BitVec.ofInt (IntKind.bits .u64) a8).toNat) &&& ~~~ BitVec.ofInt (IntKind.bits .u64) (IntKind.u64.wrap (1*2^min (Int.toNat x6) (IntKind.bits .u64)))).toNat)).bind fun x10 =>
   some (.next (IntKind.u64.wrap (BitVec.ofInt (IntKind.bits .u64) s3.1 &&& BitVec.ofInt (IntKind.bits .u64) (IntKind.u64.wrap (s3.1 - 1))).toNat,IntKind.i64.wrap (s3.2+x10)))
  else none
 else
 some (.done s3.2)
def g_order_graph_lacking (p0:Torder_graph) (p1:Int):Option Int :=
 (lkI p0.neighbours.near p1).bind fun a1 =>
 (whileN fuel (g_order_graph_lacking_b0 p0 a1) (a1,0)).bind fun x13 =>
 some (IntKind.i64.wrap (Int.tdiv x13 2))
def g_order_least_m0_b0 (m2:(List Int)) (m1:Int) (s1:(Int × Int × Int)):Option (Step (Int × Int × Int) (Int × Int)) :=
 if (s1.1 != 0)=true then
  (g_math_bits_TrailingZeros s1.1).bind fun x4 =>
  (g_order_graph_lacking (Torder_graph.mk (Torder_neighbours.mk m2) m1) x4).bind fun x6 =>
  if (decide (s1.2.1 < 0))=true then
   some (.next (IntKind.u64.wrap (BitVec.ofInt (IntKind.bits .u64) s1.1 &&& BitVec.ofInt (IntKind.bits .u64) (IntKind.u64.wrap (s1.1 - 1))).toNat,x4,x6))
  else
  if (decide (x6 < s1.2.2))=true then
   some (.next (IntKind.u64.wrap (BitVec.ofInt (IntKind.bits .u64) s1.1 &&& BitVec.ofInt (IntKind.bits .u64) (IntKind.u64.wrap (s1.1 - 1))).toNat,x4,x6))
  else
  some (.next (IntKind.u64.wrap (BitVec.ofInt (IntKind.bits .u64) s1.1 &&& BitVec.ofInt (IntKind.bits .u64) (IntKind.u64.wrap (s1.1 - 1))).toNat,s1.2.1,s1.2.2))
 else
 some (.done (s1.2.1,s1.2.2))
def g_order_least_m0 (m0:Int) (m1:Int) (m2:(List Int)):Option (Int × Int × (List Int)) :=
 (whileN fuel (g_order_least_m0_b0 m2 m1) (m0,-1,0)).bind fun x13 =>
 some (x13.1,m1,m2)
def g_order_graph_greedy_m0_b0  (s1:(Int × (List Int) × (List Int))):Option (Step (Int × (List Int) × (List Int)) (Int × (List Int) × (List Int))) :=
 if (s1.1 != 0)=true then
  (g_order_least_m0 s1.1 s1.1 s1.2.1).bind fun x4 =>
  if (s1.2.2++([x4.1]:(List Int))).length*8≤140737488355328 then
   (g_order_graph_eliminate_m0 x4.1 x4.2.1 x4.2.2).bind fun x5 =>
   some (.next (x5.2.1,x5.2.2,(s1.2.2++([x4.1]:(List Int)))))
  else none
 else
 some (.done (s1.1,s1.2.1,s1.2.2))
def g_order_graph_greedy_m0 (m0:Int) (m1:(List Int)):Option ((List Int) × Int × (List Int)) :=
 (whileN fuel (g_order_graph_greedy_m0_b0) (m0,m1,([]:(List Int)))).bind fun x7 =>
 some (x7.2.2,x7.1,x7.2.1)
def g_order_LeastFill (p0:(List Int)):Option ((List Int) × Int) :=
 (g_order_Check p0).bind fun x1 =>
 if (x1 != 0)=true then
  some ([],x1)
 else
 (g_slices_Clone_uint_uint p0).bind fun x5 =>
 if 0≤(p0.length:Int) then
  (g_order_graph_greedy_m0 (IntKind.u64.wrap ((IntKind.u64.wrap (1*2^min (Int.toNat (p0.length:Int)) (IntKind.bits .u64))) - 1)) x5).bind fun x7 =>
  some (x7.1,0)
 else none
def g_order_least_m1_b0 (m2:(List Int)) (m1:Int) (s1:(Int × Int × Int)):Option (Step (Int × Int × Int) (Int × Int)) :=
 if (s1.1 != 0)=true then
  (g_math_bits_TrailingZeros s1.1).bind fun x4 =>
  (g_order_graph_degree (Torder_graph.mk (Torder_neighbours.mk m2) m1) x4).bind fun x6 =>
  if (decide (s1.2.1 < 0))=true then
   some (.next (IntKind.u64.wrap (BitVec.ofInt (IntKind.bits .u64) s1.1 &&& BitVec.ofInt (IntKind.bits .u64) (IntKind.u64.wrap (s1.1 - 1))).toNat,x4,x6))
  else
  if (decide (x6 < s1.2.2))=true then
   some (.next (IntKind.u64.wrap (BitVec.ofInt (IntKind.bits .u64) s1.1 &&& BitVec.ofInt (IntKind.bits .u64) (IntKind.u64.wrap (s1.1 - 1))).toNat,x4,x6))
  else
  some (.next (IntKind.u64.wrap (BitVec.ofInt (IntKind.bits .u64) s1.1 &&& BitVec.ofInt (IntKind.bits .u64) (IntKind.u64.wrap (s1.1 - 1))).toNat,s1.2.1,s1.2.2))
 else
 some (.done (s1.2.1,s1.2.2))
def g_order_least_m1 (m0:Int) (m1:Int) (m2:(List Int)):Option (Int × Int × (List Int)) :=
 (whileN fuel (g_order_least_m1_b0 m2 m1) (m0,-1,0)).bind fun x13 =>
 some (x13.1,m1,m2)
def g_order_graph_greedy_m1_b0  (s1:(Int × (List Int) × (List Int))):Option (Step (Int × (List Int) × (List Int)) (Int × (List Int) × (List Int))) :=
 if (s1.1 != 0)=true then
  (g_order_least_m1 s1.1 s1.1 s1.2.1).bind fun x4 =>
  if (s1.2.2++([x4.1]:(List Int))).length*8≤140737488355328 then
   (g_order_graph_eliminate_m0 x4.1 x4.2.1 x4.2.2).bind fun x5 =>
   some (.next (x5.2.1,x5.2.2,(s1.2.2++([x4.1]:(List Int)))))
  else none
 else
 some (.done (s1.1,s1.2.1,s1.2.2))
def g_order_graph_greedy_m1 (m0:Int) (m1:(List Int)):Option ((List Int) × Int × (List Int)) :=
 (whileN fuel (g_order_graph_greedy_m1_b0) (m0,m1,([]:(List Int)))).bind fun x7 =>
 some (x7.2.2,x7.1,x7.2.1)
def g_order_LeastDegree (p0:(List Int)):Option ((List Int) × Int) :=
 (g_order_Check p0).bind fun x1 =>
 if (x1 != 0)=true then
  some ([],x1)
 else
 (g_slices_Clone_uint_uint p0).bind fun x5 =>
 if 0≤(p0.length:Int) then
  (g_order_graph_greedy_m1 (IntKind.u64.wrap ((IntKind.u64.wrap (1*2^min (Int.toNat (p0.length:Int)) (IntKind.bits .u64))) - 1)) x5).bind fun x7 =>
  some (x7.1,0)
 else none
def g_order_graph_contract_m0_b0 (m1:Int) (s3:(Int × (List Int))):Option (Step (Int × (List Int)) (List Int)) :=
 if (s3.1 != 0)=true then
  (g_math_bits_TrailingZeros s3.1).bind fun x6 =>
  (lkI s3.2 x6).bind fun a8 =>
  if 0≤m1 then
   (lkI (List.set s3.2 (Int.toNat x6) (IntKind.u64.wrap (BitVec.ofInt (IntKind.bits .u64) a8 ||| BitVec.ofInt (IntKind.bits .u64) (IntKind.u64.wrap (1*2^min (Int.toNat m1) (IntKind.bits .u64)))).toNat)) m1).bind fun a10 =>
   if 0≤x6 then
    some (.next (IntKind.u64.wrap (BitVec.ofInt (IntKind.bits .u64) s3.1 &&& BitVec.ofInt (IntKind.bits .u64) (IntKind.u64.wrap (s3.1 - 1))).toNat,(List.set (List.set s3.2 (Int.toNat x6) (IntKind.u64.wrap (BitVec.ofInt (IntKind.bits .u64) a8 ||| BitVec.ofInt (IntKind.bits .u64) (IntKind.u64.wrap (1*2^min (Int.toNat m1) (IntKind.bits .u64)))).toNat)) (Int.toNat m1) (IntKind.u64.wrap (BitVec.ofInt (IntKind.bits .u64) a10 ||| BitVec.ofInt (IntKind.bits .u64) (IntKind.u64.wrap (1*2^min (Int.toNat x6) (IntKind.bits .u64)))).toNat))))
   else none
  else none
 else
 some (.done s3.2)
def g_order_graph_contract_m0 (m0:Int) (m1:Int) (m2:Int) (m3:(List Int)):Option (Int × (List Int)) :=
 (lkI m3 m0).bind fun a1 =>
 if 0≤m1 then
  (whileN fuel (g_order_graph_contract_m0_b0 m1) (IntKind.u64.wrap (BitVec.ofInt (IntKind.bits .u64) a1 &&& ~~~ BitVec.ofInt (IntKind.bits .u64) (IntKind.u64.wrap (1*2^min (Int.toNat m1) (IntKind.bits .u64)))).toNat,m3)).bind fun x15 =>
  some (m2,x15)
 else none
def g_order_Low_b0  (s7:(Int × Int × (List Int))):Option (Step (Int × Int × (List Int)) Int) :=
 if (s7.2.1 != 0)=true then
  (g_order_least_m1 s7.2.1 s7.2.1 s7.2.2).bind fun x10 =>
  (g_order_graph_degree (Torder_graph.mk (Torder_neighbours.mk x10.2.2) x10.2.1) x10.1).bind fun x11 =>
  (lkI x10.2.2 x10.1).bind fun a13 =>
  if (a13 != 0)=true then
   (g_order_least_m1 a13 x10.2.1 x10.2.2).bind fun x17 =>
   (g_order_graph_contract_m0 x10.1 x17.1 x17.2.1 x17.2.2).bind fun x18 =>
   (g_order_graph_remove_m0 x10.1 x18.1 x18.2).bind fun x19 =>
   some (.next ((if x11 > s7.1 then x11 else s7.1),x19.1,x19.2))
  else
  (g_order_graph_remove_m0 x10.1 x10.2.1 x10.2.2).bind fun x20 =>
  some (.next ((if x11 > s7.1 then x11 else s7.1),x20.1,x20.2))
 else
 some (.done s7.1)
def g_order_Low (p0:(List Int)):Option (Int × Int) :=
 (g_order_Check p0).bind fun x1 =>
 if (x1 != 0)=true then
  some (0,x1)
 else
 (g_slices_Clone_uint_uint p0).bind fun x5 =>
 if 0≤(p0.length:Int) then
  (whileN fuel (g_order_Low_b0) (0,IntKind.u64.wrap ((IntKind.u64.wrap (1*2^min (Int.toNat (p0.length:Int)) (IntKind.bits .u64))) - 1),x5)).bind fun x22 =>
  some (x22,0)
 else none
def g_order_Chordal (p0:(List Int)):Option (Bool × Int) :=
 (g_order_Check p0).bind fun x1 =>
 if (x1 != 0)=true then
  some (false,x1)
 else
 (g_slices_Clone_uint_uint p0).bind fun x5 =>
 if 0≤(p0.length:Int) then
  (g_order_graph_greedy_m0 (IntKind.u64.wrap ((IntKind.u64.wrap (1*2^min (Int.toNat (p0.length:Int)) (IntKind.bits .u64))) - 1)) x5).bind fun x7 =>
  (g_order_run p0 x7.1).bind fun x8 =>
  some (((x8.1.length:Int)==0),0)
 else none
def g_order_late_b0 (p2:Int) (p0:(List Int)) (s3:(Int × Int × Int)):Option (Step (Int × Int × Int) Int) :=
 if (s3.2.2 != 0)=true then
  (g_math_bits_TrailingZeros s3.2.2).bind fun x6 =>
  if 0≤x6 then
   if 0≤x6 then
    if ((IntKind.u64.wrap (BitVec.ofInt (IntKind.bits .u64) (Int.fdiv p2 (2^min (Int.toNat x6) (IntKind.bits .u64))) &&& BitVec.ofInt (IntKind.bits .u64) 1).toNat)==0)=true then
     if 0≤x6 then
      some (.next (IntKind.u64.wrap (BitVec.ofInt (IntKind.bits .u64) s3.1 ||| BitVec.ofInt (IntKind.bits .u64) (IntKind.u64.wrap (1*2^min (Int.toNat x6) (IntKind.bits .u64)))).toNat,IntKind.u64.wrap (BitVec.ofInt (IntKind.bits .u64) s3.2.1 ||| BitVec.ofInt (IntKind.bits .u64) (IntKind.u64.wrap (1*2^min (Int.toNat x6) (IntKind.bits .u64)))).toNat,IntKind.u64.wrap (BitVec.ofInt (IntKind.bits .u64) s3.2.2 &&& BitVec.ofInt (IntKind.bits .u64) (IntKind.u64.wrap (s3.2.2 - 1))).toNat))
     else none
    else
    (lkI p0 x6).bind fun a10 =>
    some (.next (IntKind.u64.wrap (BitVec.ofInt (IntKind.bits .u64) s3.1 ||| BitVec.ofInt (IntKind.bits .u64) (IntKind.u64.wrap (1*2^min (Int.toNat x6) (IntKind.bits .u64)))).toNat,s3.2.1,IntKind.u64.wrap (BitVec.ofInt (IntKind.bits .u64) (IntKind.u64.wrap (BitVec.ofInt (IntKind.bits .u64) s3.2.2 &&& BitVec.ofInt (IntKind.bits .u64) (IntKind.u64.wrap (s3.2.2 - 1))).toNat) ||| BitVec.ofInt (IntKind.bits .u64) (IntKind.u64.wrap (BitVec.ofInt (IntKind.bits .u64) a10 &&& ~~~ BitVec.ofInt (IntKind.bits .u64) (IntKind.u64.wrap (BitVec.ofInt (IntKind.bits .u64) s3.1 ||| BitVec.ofInt (IntKind.bits .u64) (IntKind.u64.wrap (1*2^min (Int.toNat x6) (IntKind.bits .u64)))).toNat)).toNat)).toNat))
   else none
  else none
 else
 some (.done s3.2.1)
def g_order_late (p0:(List Int)) (p1:Int) (p2:Int):Option Int :=
 if 0≤p1 then
  (lkI p0 p1).bind fun a1 =>
  (whileN fuel (g_order_late_b0 p2 p0) (IntKind.u64.wrap (1*2^min (Int.toNat p1) (IntKind.bits .u64)),0,a1)).bind fun x13 =>
  (g_math_bits_OnesCount x13).bind fun x14 =>
  some x14
 else none
def g_order_Best_b0 (p0:(List Int)) (s5:(Int × (List (Int × Int)))) (r6:((Int × (List (Int × Int)))→Option (Int × (List (Int × Int))))) (s10:(Int × (List (Int × Int)) × Int)):Option (Step (Int × (List (Int × Int)) × Int) ((List (Int × Int)) × Int)) :=
 if (s10.1 != 0)=true then
  (g_math_bits_TrailingZeros s10.1).bind fun x13 =>
  (g_order_late p0 x13 (IntKind.u64.wrap (BitVec.ofInt (IntKind.bits .u64) (IntKind.u64.wrap ((IntKind.u64.wrap (1*2^min (Int.toNat (p0.length:Int)) (IntKind.bits .u64))) - 1)) &&& ~~~ BitVec.ofInt (IntKind.bits .u64) s5.1).toNat)).bind fun x15 =>
  if 0≤x13 then
   (r6 (IntKind.u64.wrap (BitVec.ofInt (IntKind.bits .u64) s5.1 &&& ~~~ BitVec.ofInt (IntKind.bits .u64) (IntKind.u64.wrap (1*2^min (Int.toNat x13) (IntKind.bits .u64)))).toNat,s10.2.1)).bind fun x17 =>
   some (.next (IntKind.u64.wrap (BitVec.ofInt (IntKind.bits .u64) s10.1 &&& BitVec.ofInt (IntKind.bits .u64) (IntKind.u64.wrap (s10.1 - 1))).toNat,x17.2,(if (if x17.1 > x15 then x17.1 else x15) < s10.2.2 then (if x17.1 > x15 then x17.1 else x15) else s10.2.2)))
  else none
 else
 some (.done (s10.2.1,s10.2.2))
def g_order_Best_r1 (p0:(List Int)) (r6:((Int × (List (Int × Int)))→Option (Int × (List (Int × Int))))) (s5:(Int × (List (Int × Int)))):Option (Int × (List (Int × Int))) :=
 if (mget s5.2 s5.1).isSome=true then
  some ((mget s5.2 s5.1).getD 0,s5.2)
 else
 (whileN fuel (g_order_Best_b0 p0 s5 r6) (s5.1,s5.2,(p0.length:Int))).bind fun x19 =>
 some (x19.2,mput x19.1 s5.1 x19.2)
def g_order_Best_b2 (p0:(List Int)) (s34:(Int × (List (Int × Int)))) (r35:((Int × (List (Int × Int)))→Option (Int × (List (Int × Int))))) (s39:(Int × (List (Int × Int)) × Int)):Option (Step (Int × (List (Int × Int)) × Int) ((List (Int × Int)) × Int)) :=
 if (s39.1 != 0)=true then
  (g_math_bits_TrailingZeros s39.1).bind fun x42 =>
  (g_order_late p0 x42 (IntKind.u64.wrap (BitVec.ofInt (IntKind.bits .u64) (IntKind.u64.wrap ((IntKind.u64.wrap (1*2^min (Int.toNat (p0.length:Int)) (IntKind.bits .u64))) - 1)) &&& ~~~ BitVec.ofInt (IntKind.bits .u64) s34.1).toNat)).bind fun x44 =>
  if 0≤x42 then
   (r35 (IntKind.u64.wrap (BitVec.ofInt (IntKind.bits .u64) s34.1 &&& ~~~ BitVec.ofInt (IntKind.bits .u64) (IntKind.u64.wrap (1*2^min (Int.toNat x42) (IntKind.bits .u64)))).toNat,s39.2.1)).bind fun x46 =>
   some (.next (IntKind.u64.wrap (BitVec.ofInt (IntKind.bits .u64) s39.1 &&& BitVec.ofInt (IntKind.bits .u64) (IntKind.u64.wrap (s39.1 - 1))).toNat,x46.2,(if (if x46.1 > x44 then x46.1 else x44) < s39.2.2 then (if x46.1 > x44 then x46.1 else x44) else s39.2.2)))
  else none
 else
 some (.done (s39.2.1,s39.2.2))
def g_order_Best_r3 (p0:(List Int)) (r35:((Int × (List (Int × Int)))→Option (Int × (List (Int × Int))))) (s34:(Int × (List (Int × Int)))):Option (Int × (List (Int × Int))) :=
 if (mget s34.2 s34.1).isSome=true then
  some ((mget s34.2 s34.1).getD 0,s34.2)
 else
 (whileN fuel (g_order_Best_b2 p0 s34 r35) (s34.1,s34.2,(p0.length:Int))).bind fun x48 =>
 some (x48.2,mput x48.1 s34.1 x48.2)
def g_order_Best_b4 (p0:(List Int)) (s22:(Int × (List Int) × (List (Int × Int)))) (x20:(Int × (List (Int × Int)))) (s25:(Int × (List (Int × Int)))):Option (Step (Int × (List (Int × Int))) ((Int × (List (Int × Int)) × (List Int)) ⊕ (List (Int × Int)))) :=
 if (s25.1 != 0)=true then
  (g_math_bits_TrailingZeros s25.1).bind fun x28 =>
  (g_order_late p0 x28 (IntKind.u64.wrap (BitVec.ofInt (IntKind.bits .u64) (IntKind.u64.wrap ((IntKind.u64.wrap (1*2^min (Int.toNat (p0.length:Int)) (IntKind.bits .u64))) - 1)) &&& ~~~ BitVec.ofInt (IntKind.bits .u64) s22.1).toNat)).bind fun x30 =>
  if (decide (x30≤x20.1))=true then
   if 0≤x28 then
    (recN (g_order_Best_r3 p0) fuel (IntKind.u64.wrap (BitVec.ofInt (IntKind.bits .u64) s22.1 &&& ~~~ BitVec.ofInt (IntKind.bits .u64) (IntKind.u64.wrap (1*2^min (Int.toNat x28) (IntKind.bits .u64)))).toNat,s25.2)).bind fun x49 =>
    if (decide (x49.1≤x20.1))=true then
     if (s22.2.1++([x28]:(List Int))).length*8≤140737488355328 then
      if 0≤x28 then
       some (.done (Sum.inl (IntKind.u64.wrap (BitVec.ofInt (IntKind.bits .u64) s22.1 &&& ~~~ BitVec.ofInt (IntKind.bits .u64) (IntKind.u64.wrap (1*2^min (Int.toNat x28) (IntKind.bits .u64)))).toNat,x49.2,(s22.2.1++([x28]:(List Int))))))
      else none
     else none
    else
    some (.next (IntKind.u64.wrap (BitVec.ofInt (IntKind.bits .u64) s25.1 &&& BitVec.ofInt (IntKind.bits .u64) (IntKind.u64.wrap (s25.1 - 1))).toNat,x49.2))
   else none
  else
  some (.next (IntKind.u64.wrap (BitVec.ofInt (IntKind.bits .u64) s25.1 &&& BitVec.ofInt (IntKind.bits .u64) (IntKind.u64.wrap (s25.1 - 1))).toNat,s25.2))
 else
 some (.done (Sum.inr s25.2))
def g_order_Best_b5 (p0:(List Int)) (x20:(Int × (List (Int × Int)))) (s22:(Int × (List Int) × (List (Int × Int)))):Option (Step (Int × (List Int) × (List (Int × Int))) (List Int)) :=
 if (s22.1 != 0)=true then
  (whileN fuel (g_order_Best_b4 p0 s22 x20) (s22.1,s22.2.2)).bind fun x53=>match x53 with
  | .inl x54=>(
   some (.next (x54.1,x54.2.2,x54.2.1)))
  | .inr x55=>(
   some (.done s22.2.1))
 else
 some (.done s22.2.1)
def g_order_Best (p0:(List Int)):Option ((List Int) × Int × Int) :=
 (g_order_Check p0).bind fun x1 =>
 if (x1 != 0)=true then
  some (([]:(List Int)),0,x1)
 else
 if 0≤(p0.length:Int) then
  (recN (g_order_Best_r1 p0) fuel (IntKind.u64.wrap ((IntKind.u64.wrap (1*2^min (Int.toNat (p0.length:Int)) (IntKind.bits .u64))) - 1),mput [] (0:Int) (0:Int))).bind fun x20 =>
  (whileN fuel (g_order_Best_b5 p0 x20) (IntKind.u64.wrap ((IntKind.u64.wrap (1*2^min (Int.toNat (p0.length:Int)) (IntKind.bits .u64))) - 1),([]:(List Int)),x20.2)).bind fun x57 =>
  some (x57,x20.1,0)
 else none
def g_slices_Equal_int_int_b0 (p0:(List Int)) (p1:(List Int)) (s3:Int):Option (Step Int (Unit ⊕ Unit)) :=
 if (decide (s3 < (p0.length:Int)))=true then
  (lkI p0 s3).bind fun a6 =>
  (lkI p1 s3).bind fun a8 =>
  if (a6 != a8)=true then
   some (.done (Sum.inl ()))
  else
  some (.next (IntKind.i64.wrap (s3+1)))
 else
 some (.done (Sum.inr ()))
def g_slices_Equal_int_int (p0:(List Int)) (p1:(List Int)):Option Bool :=
 if ((p0.length:Int) != (p1.length:Int))=true then
  some false
 else
 (whileN fuel (g_slices_Equal_int_int_b0 p0 p1) 0).bind fun x12=>match x12 with
 | .inl x13=>(
  some false)
 | .inr x14=>(
  some true)
def g_law08_best (p0:(List Int)) (p1:Int) (p2:(List Int)):Option Bool :=
 (g_order_Best p0).bind fun x1 =>
 if (x1.2.1==p1)=true then
  if (x1.2.2==0)=true then
   (g_slices_Equal_int_int x1.1 p2).bind fun x7 =>
   some x7
  else
  some false
 else
 some false
def g_slices_Equal_2_int_2_int_b0 (p0:(List (Int × Int))) (p1:(List (Int × Int))) (s3:Int):Option (Step Int (Unit ⊕ Unit)) :=
 if (decide (s3 < (p0.length:Int)))=true then
  (lkI p0 s3).bind fun a6 =>
  (lkI p1 s3).bind fun a8 =>
  if (!((a6.1==a8.1) && ((a6.2==a8.2) && true)))=true then
   some (.done (Sum.inl ()))
  else
  some (.next (IntKind.i64.wrap (s3+1)))
 else
 some (.done (Sum.inr ()))
def g_slices_Equal_2_int_2_int (p0:(List (Int × Int))) (p1:(List (Int × Int))):Option Bool :=
 if ((p0.length:Int) != (p1.length:Int))=true then
  some false
 else
 (whileN fuel (g_slices_Equal_2_int_2_int_b0 p0 p1) 0).bind fun x12=>match x12 with
 | .inl x13=>(
  some false)
 | .inr x14=>(
  some true)
def g_law08_are_2_int_1_k0 (p0:(List (Int × Int))) (p1:Int) (c0:Int) (c1:Int):Option Bool :=
 if (p1==0)=true then
  (g_slices_Equal_2_int_2_int p0 [(c0,c1)]).bind fun x3 =>
  some x3
 else
 some false
def g_law08_are_2_int_1_k1 (p0:(List (Int × Int))) (p1:Int):Option Bool :=
 if (p1==0)=true then
  (g_slices_Equal_2_int_2_int p0 []).bind fun x3 =>
  some x3
 else
 some false
def g_law08_is_int_1_k2 (p0:Int) (p1:Int) (c0:Int):Option Bool :=
 if (p0==c0)=true then
  some (p1==0)
 else
 some false
def g_law08_are_int_1_k3 (p0:(List Int)) (p1:Int) (c0:Int) (c1:Int) (c2:Int) (c3:Int):Option Bool :=
 if (p1==0)=true then
  (g_slices_Equal_int_int p0 [c0,c1,c2,c3]).bind fun x3 =>
  some x3
 else
 some false
def g_law08_are_int_1_k4 (p0:(List Int)) (p1:Int) (c0:Int) (c1:Int) (c2:Int):Option Bool :=
 if (p1==0)=true then
  (g_slices_Equal_int_int p0 [c0,c1,c2]).bind fun x3 =>
  some x3
 else
 some false
def g_law08_is_bool_1_k5 (p0:Bool) (p1:Int) (c0:Bool):Option Bool :=
 if (p0==c0)=true then
  some (p1==0)
 else
 some false
def g_law08_works  : Option Bool :=
 (g_order_Width [10,5,10,5] [0,1,2]).bind fun x1 =>
 (g_order_Width [10,5,10,5] [0,1,2,2]).bind fun x3 =>
 (g_order_Fill [10,5,10,5] [0,1,2,3]).bind fun x5 =>
 (g_law08_are_2_int_1_k0 x5.1 x5.2 1 3).bind fun x7 =>
 if x7=true then
  (g_order_Fill [10,5,10,5] [0,2,1,3]).bind fun x11 =>
  (g_law08_are_2_int_1_k0 x11.1 x11.2 1 3).bind fun x13 =>
  if x13=true then
   (g_order_Fill [2,5,2] [1,0,2]).bind fun x17 =>
   (g_law08_are_2_int_1_k0 x17.1 x17.2 0 2).bind fun x19 =>
   if x19=true then
    (g_order_Fill [2,5,2] [0,1,2]).bind fun x23 =>
    (g_law08_are_2_int_1_k1 x23.1 x23.2).bind fun x25 =>
    if x25=true then
     (g_order_Width [10,5,10,5] [0,1,2,3]).bind fun x29 =>
     (g_law08_is_int_1_k2 x29.1 x29.2 2).bind fun x31 =>
     if x31=true then
      (g_order_Width [2,5,2] [1,0,2]).bind fun x35 =>
      (g_law08_is_int_1_k2 x35.1 x35.2 2).bind fun x37 =>
      if x37=true then
       (g_order_Width [2,5,2] [2,1,0]).bind fun x41 =>
       (g_law08_is_int_1_k2 x41.1 x41.2 1).bind fun x43 =>
       if x43=true then
        (g_order_Width [14,13,11,7] [3,2,1,0]).bind fun x47 =>
        (g_law08_is_int_1_k2 x47.1 x47.2 3).bind fun x49 =>
        if x49=true then
         (g_order_LeastFill [10,5,10,5]).bind fun x53 =>
         (g_law08_are_int_1_k3 x53.1 x53.2 0 1 2 3).bind fun x55 =>
         if x55=true then
          (g_order_LeastFill [2,5,2]).bind fun x59 =>
          (g_law08_are_int_1_k4 x59.1 x59.2 0 1 2).bind fun x61 =>
          if x61=true then
           (g_order_LeastDegree [2,5,2]).bind fun x65 =>
           (g_law08_are_int_1_k4 x65.1 x65.2 0 1 2).bind fun x67 =>
           if x67=true then
            (g_law08_best [10,5,10,5] 2 [0,1,2,3]).bind fun x71 =>
            if x71=true then
             (g_law08_best [2,5,2] 1 [0,1,2]).bind fun x75 =>
             if x75=true then
              (g_law08_best [14,13,11,7] 3 [0,1,2,3]).bind fun x79 =>
              if x79=true then
               (g_order_Low [10,5,10,5]).bind fun x83 =>
               (g_law08_is_int_1_k2 x83.1 x83.2 2).bind fun x85 =>
               if x85=true then
                (g_order_Low [2,5,2]).bind fun x89 =>
                (g_law08_is_int_1_k2 x89.1 x89.2 1).bind fun x91 =>
                if x91=true then
                 (g_order_Low [14,13,11,7]).bind fun x95 =>
                 (g_law08_is_int_1_k2 x95.1 x95.2 3).bind fun x97 =>
                 if x97=true then
                  (g_order_Chordal [10,5,10,5]).bind fun x101 =>
                  (g_law08_is_bool_1_k5 x101.1 x101.2 false).bind fun x103 =>
                  if x103=true then
                   (g_order_Chordal [2,5,2]).bind fun x107 =>
                   (g_law08_is_bool_1_k5 x107.1 x107.2 true).bind fun x109 =>
                   if x109=true then
                    if (x1.2==81)=true then
                     if (x3.2==81)=true then
                      (g_order_Check [2,0]).bind fun x117 =>
                      if (x117==80)=true then
                       (g_order_Check [1]).bind fun x121 =>
                       if (x121==80)=true then
                        (g_order_Check []).bind fun x125 =>
                        some (x125==80)
                       else
                       some false
                      else
                      some false
                     else
                     some false
                    else
                    some false
                   else
                   some false
                  else
                  some false
                 else
                 some false
                else
                some false
               else
               some false
              else
              some false
             else
             some false
            else
            some false
           else
           some false
          else
          some false
         else
         some false
        else
        some false
       else
       some false
      else
      some false
     else
     some false
    else
    some false
   else
   some false
  else
  some false
 else
 some false
def g_ref08_Copy (p0:(List Int)):Option (List Int) :=
 if p0.length*8≤140737488355328 then
  some p0
 else none
def g_ref08_Join_b0 (p1:(List (Int × Int))) (s3:(Int × (List Int))):Option (Step (Int × (List Int)) (List Int)) :=
 if (decide (s3.1 < (p1.length:Int)))=true then
  (lkI p1 s3.1).bind fun a6 =>
  (lkI s3.2 a6.1).bind fun a8 =>
  if 0≤(IntKind.u64.wrap (a6.2)) then
   (lkI (List.set s3.2 (Int.toNat a6.1) (IntKind.u64.wrap (BitVec.ofInt (IntKind.bits .u64) a8 ||| BitVec.ofInt (IntKind.bits .u64) (IntKind.u64.wrap (1*2^min (Int.toNat (IntKind.u64.wrap (a6.2))) (IntKind.bits .u64)))).toNat)) a6.2).bind fun a10 =>
   if 0≤(IntKind.u64.wrap (a6.1)) then
    some (.next (IntKind.i64.wrap (s3.1+1),(List.set (List.set s3.2 (Int.toNat a6.1) (IntKind.u64.wrap (BitVec.ofInt (IntKind.bits .u64) a8 ||| BitVec.ofInt (IntKind.bits .u64) (IntKind.u64.wrap (1*2^min (Int.toNat (IntKind.u64.wrap (a6.2))) (IntKind.bits .u64)))).toNat)) (Int.toNat a6.2) (IntKind.u64.wrap (BitVec.ofInt (IntKind.bits .u64) a10 ||| BitVec.ofInt (IntKind.bits .u64) (IntKind.u64.wrap (1*2^min (Int.toNat (IntKind.u64.wrap (a6.1))) (IntKind.bits .u64)))).toNat))))
   else none
  else none
 else
 some (.done s3.2)
def g_ref08_Join (p0:(List Int)) (p1:(List (Int × Int))):Option (List Int) :=
 (g_ref08_Copy p0).bind fun x1 =>
 (whileN fuel (g_ref08_Join_b0 p1) (0,x1)).bind fun x15 =>
 some x15
def g_ref08_Draft_Graph_b0 (p0:Tharuspexref08_Draft) (s1:(Int × (List Int))):Option (Step (Int × (List Int)) (List Int)) :=
 if (decide (s1.1 < (p0.E.length:Int)))=true then
  if (decide (s1.1 < 30))=true then
   (lkI p0.E s1.1).bind fun a6 =>
   if (IntKind.i64.wrap (1+(IntKind.i64.wrap (Int.tmod p0.N 7))))≠0 then
    if (IntKind.i64.wrap (1+(IntKind.i64.wrap (Int.tmod p0.N 7))))≠0 then
     if ((Int.tmod (IntKind.i64.wrap (a6.1)) (IntKind.i64.wrap (1+(IntKind.i64.wrap (Int.tmod p0.N 7))))) != (Int.tmod (IntKind.i64.wrap (a6.2)) (IntKind.i64.wrap (1+(IntKind.i64.wrap (Int.tmod p0.N 7))))))=true then
      (g_ref08_Join s1.2 [(Int.tmod (IntKind.i64.wrap (a6.1)) (IntKind.i64.wrap (1+(IntKind.i64.wrap (Int.tmod p0.N 7)))),Int.tmod (IntKind.i64.wrap (a6.2)) (IntKind.i64.wrap (1+(IntKind.i64.wrap (Int.tmod p0.N 7)))))]).bind fun x10 =>
      some (.next (IntKind.i64.wrap (s1.1+1),x10))
     else
     some (.next (IntKind.i64.wrap (s1.1+1),s1.2))
    else none
   else none
  else
  some (.done s1.2)
 else
 some (.done s1.2)
def g_ref08_Draft_Graph (p0:Tharuspexref08_Draft):Option (List Int) :=
 if 0≤(IntKind.i64.wrap (1+(IntKind.i64.wrap (Int.tmod p0.N 7))))∧(IntKind.i64.wrap (1+(IntKind.i64.wrap (Int.tmod p0.N 7))))≤(IntKind.i64.wrap (1+(IntKind.i64.wrap (Int.tmod p0.N 7))))∧(IntKind.i64.wrap (1+(IntKind.i64.wrap (Int.tmod p0.N 7))))*8≤140737488355328 then
  (whileN fuel (g_ref08_Draft_Graph_b0 p0) (0,(List.replicate (Int.toNat (IntKind.i64.wrap (1+(IntKind.i64.wrap (Int.tmod p0.N 7))))) (0:Int)))).bind fun x13 =>
  some x13
 else none
def g_ref08_Draft_List_b0 (p0:Tharuspexref08_Draft) (s1:(Int × (List Int))):Option (Step (Int × (List Int)) (List Int)) :=
 (g_ref08_Draft_Graph p0).bind fun x2 =>
 if (decide (s1.1 < (x2.length:Int)))=true then
  if (decide (s1.1 < (p0.Order.length:Int)))=true then
   (lkI p0.Order s1.1).bind fun a8 =>
   if (IntKind.i64.wrap (s1.1+1))≠0 then
    if 0≤(0:Int)∧(0:Int)≤(Int.tmod (IntKind.i64.wrap (a8)) (IntKind.i64.wrap (s1.1+1)))∧(Int.tmod (IntKind.i64.wrap (a8)) (IntKind.i64.wrap (s1.1+1)))≤(s1.2.length:Int) then
     if (sub s1.2 0 (Int.tmod (IntKind.i64.wrap (a8)) (IntKind.i64.wrap (s1.1+1)))).length*8≤140737488355328 then
      if ((sub s1.2 0 (Int.tmod (IntKind.i64.wrap (a8)) (IntKind.i64.wrap (s1.1+1))))++([s1.1]:(List Int))).length*8≤140737488355328 then
       if 0≤(Int.tmod (IntKind.i64.wrap (a8)) (IntKind.i64.wrap (s1.1+1)))∧(Int.tmod (IntKind.i64.wrap (a8)) (IntKind.i64.wrap (s1.1+1)))≤(s1.2.length:Int)∧(s1.2.length:Int)≤(s1.2.length:Int) then
        if (((sub s1.2 0 (Int.tmod (IntKind.i64.wrap (a8)) (IntKind.i64.wrap (s1.1+1))))++([s1.1]:(List Int)))++(sub s1.2 (Int.tmod (IntKind.i64.wrap (a8)) (IntKind.i64.wrap (s1.1+1))) (s1.2.length:Int))).length*8≤140737488355328 then
         some (.next (IntKind.i64.wrap (s1.1+1),(((sub s1.2 0 (Int.tmod (IntKind.i64.wrap (a8)) (IntKind.i64.wrap (s1.1+1))))++([s1.1]:(List Int)))++(sub s1.2 (Int.tmod (IntKind.i64.wrap (a8)) (IntKind.i64.wrap (s1.1+1))) (s1.2.length:Int)))))
        else none
       else none
      else none
     else none
    else none
   else none
  else
  if 0≤(0:Int)∧(0:Int)≤(0:Int)∧(0:Int)≤(s1.2.length:Int) then
   if (sub s1.2 0 0).length*8≤140737488355328 then
    if ((sub s1.2 0 0)++([s1.1]:(List Int))).length*8≤140737488355328 then
     if 0≤(0:Int)∧(0:Int)≤(s1.2.length:Int)∧(s1.2.length:Int)≤(s1.2.length:Int) then
      if (((sub s1.2 0 0)++([s1.1]:(List Int)))++(sub s1.2 0 (s1.2.length:Int))).length*8≤140737488355328 then
       some (.next (IntKind.i64.wrap (s1.1+1),(((sub s1.2 0 0)++([s1.1]:(List Int)))++(sub s1.2 0 (s1.2.length:Int)))))
      else none
     else none
    else none
   else none
  else none
 else
 some (.done s1.2)
def g_ref08_Draft_List (p0:Tharuspexref08_Draft):Option (List Int) :=
 (whileN fuel (g_ref08_Draft_List_b0 p0) (0,([]:(List Int)))).bind fun x15 =>
 some x15
def g_slices_Compare_int_int_b0 (p0:(List Int)) (p1:(List Int)) (s1:Int):Option (Step Int (Int ⊕ Unit)) :=
 if (decide (s1 < (p0.length:Int)))=true then
  (lkI p0 s1).bind fun a4 =>
  if (decide (s1≥(p1.length:Int)))=true then
   some (.done (Sum.inl 1))
  else
  (lkI p1 s1).bind fun a8 =>
  (g_cmp_Compare_int a4 a8).bind fun x10 =>
  if (x10 != 0)=true then
   some (.done (Sum.inl x10))
  else
  some (.next (IntKind.i64.wrap (s1+1)))
 else
 some (.done (Sum.inr ()))
def g_slices_Compare_int_int (p0:(List Int)) (p1:(List Int)):Option Int :=
 (whileN fuel (g_slices_Compare_int_int_b0 p0 p1) 0).bind fun x14=>match x14 with
 | .inl x15=>(
  some x15)
 | .inr x16=>(
  if (decide ((p0.length:Int) < (p1.length:Int)))=true then
   some (-1)
  else
  some 0)
def g_law08_chordal (p0:(List Int)):Option Bool :=
 (g_order_LeastFill p0).bind fun x1 =>
 (g_order_Fill p0 x1.1).bind fun x3 =>
 if (x1.2==0)=true then
  if (x3.2==0)=true then
   some ((x3.1.length:Int)==0)
  else
  some false
 else
 some false
def g_law08_OrderFills_b0 (x9:((List (Int × Int)) × Int)) (x5:(List Int)) (s19:(Int × (List Int))):Option (Step (Int × (List Int)) (Unit ⊕ (List Int))) :=
 if (decide (s19.1 < (x9.1.length:Int)))=true then
  (lkI x9.1 s19.1).bind fun a22 =>
  if (decide (a22.1 < 0))=true then
   some (.done (Sum.inl ()))
  else
  if (decide (a22.2≥(x5.length:Int)))=true then
   some (.done (Sum.inl ()))
  else
  if (decide (a22.1≥a22.2))=true then
   some (.done (Sum.inl ()))
  else
  (lkI x5 a22.1).bind fun a30 =>
  if 0≤a22.2 then
   if ((IntKind.u64.wrap (BitVec.ofInt (IntKind.bits .u64) (Int.fdiv a30 (2^min (Int.toNat a22.2) (IntKind.bits .u64))) &&& BitVec.ofInt (IntKind.bits .u64) 1).toNat)==1)=true then
    some (.done (Sum.inl ()))
   else
   if (decide (s19.1 > 0))=true then
    (lkI x9.1 (IntKind.i64.wrap (s19.1 - 1))).bind fun a36 =>
    (g_slices_Compare_int_int [a36.1,a36.2] [a22.1,a22.2]).bind fun x38 =>
    if (decide (x38≥0))=true then
     some (.done (Sum.inl ()))
    else
    (lkI s19.2 a22.1).bind fun a42 =>
    if 0≤a22.2 then
     (lkI (List.set s19.2 (Int.toNat a22.1) (IntKind.u64.wrap (BitVec.ofInt (IntKind.bits .u64) a42 ||| BitVec.ofInt (IntKind.bits .u64) (IntKind.u64.wrap (1*2^min (Int.toNat a22.2) (IntKind.bits .u64)))).toNat)) a22.2).bind fun a44 =>
     if 0≤a22.1 then
      some (.next (IntKind.i64.wrap (s19.1+1),(List.set (List.set s19.2 (Int.toNat a22.1) (IntKind.u64.wrap (BitVec.ofInt (IntKind.bits .u64) a42 ||| BitVec.ofInt (IntKind.bits .u64) (IntKind.u64.wrap (1*2^min (Int.toNat a22.2) (IntKind.bits .u64)))).toNat)) (Int.toNat a22.2) (IntKind.u64.wrap (BitVec.ofInt (IntKind.bits .u64) a44 ||| BitVec.ofInt (IntKind.bits .u64) (IntKind.u64.wrap (1*2^min (Int.toNat a22.1) (IntKind.bits .u64)))).toNat))))
     else none
    else none
   else
   (lkI s19.2 a22.1).bind fun a48 =>
   if 0≤a22.2 then
    (lkI (List.set s19.2 (Int.toNat a22.1) (IntKind.u64.wrap (BitVec.ofInt (IntKind.bits .u64) a48 ||| BitVec.ofInt (IntKind.bits .u64) (IntKind.u64.wrap (1*2^min (Int.toNat a22.2) (IntKind.bits .u64)))).toNat)) a22.2).bind fun a50 =>
    if 0≤a22.1 then
     some (.next (IntKind.i64.wrap (s19.1+1),(List.set (List.set s19.2 (Int.toNat a22.1) (IntKind.u64.wrap (BitVec.ofInt (IntKind.bits .u64) a48 ||| BitVec.ofInt (IntKind.bits .u64) (IntKind.u64.wrap (1*2^min (Int.toNat a22.2) (IntKind.bits .u64)))).toNat)) (Int.toNat a22.2) (IntKind.u64.wrap (BitVec.ofInt (IntKind.bits .u64) a50 ||| BitVec.ofInt (IntKind.bits .u64) (IntKind.u64.wrap (1*2^min (Int.toNat a22.1) (IntKind.bits .u64)))).toNat))))
    else none
   else none
  else none
 else
 some (.done (Sum.inr s19.2))
def g_law08_OrderFills (p0:Tharuspexref08_Draft):Option Bool :=
 (g_law08_works).bind fun x1 =>
 if (!x1)=true then
  some false
 else
 (g_ref08_Draft_Graph p0).bind fun x5 =>
 (g_ref08_Draft_List p0).bind fun x7 =>
 (g_order_Fill x5 x7).bind fun x9 =>
 (g_order_Width x5 x7).bind fun x11 =>
 if (x9.2 != 0)=true then
  some false
 else
 if (x11.2 != 0)=true then
  some false
 else
 (g_slices_Clone_uint_uint x5).bind fun x17 =>
 (whileN fuel (g_law08_OrderFills_b0 x9 x5) (0,x17)).bind fun x54=>match x54 with
 | .inl x55=>(
  some false)
 | .inr x56=>(
  (g_order_Chordal x56).bind fun x57 =>
  (g_law08_is_bool_1_k5 x57.1 x57.2 true).bind fun x59 =>
  if x59=true then
   (g_order_Fill x56 x7).bind fun x63 =>
   (g_law08_are_2_int_1_k1 x63.1 x63.2).bind fun x65 =>
   if x65=true then
    (g_order_Width x56 x7).bind fun x69 =>
    (g_law08_is_int_1_k2 x69.1 x69.2 x11.1).bind fun x71 =>
    if x71=true then
     if ((x9.1.length:Int)==0)=true then
      (g_order_Chordal x5).bind fun x77 =>
      (g_law08_is_bool_1_k5 x77.1 x77.2 true).bind fun x79 =>
      some x79
     else
     (g_law08_chordal x5).bind fun x81 =>
     (g_order_Chordal x5).bind fun x83 =>
     (g_law08_is_bool_1_k5 x83.1 x83.2 x81).bind fun x85 =>
     some x85
    else
    some false
   else
   some false
  else
  some false)
end Go.Ab
