/- What functions compute. No conditions. -/
import Derived.Test.YtjhfdojgaoapcaaDoorEng8
set_option linter.all false
namespace Go.Ab
open Go
structure Torder_neighbours where
 near:(List Int)
 deriving DecidableEq,Inhabited
structure Torder_graph where
 neighbours:Torder_neighbours
 left:Int
 deriving DecidableEq,Inhabited
def goodP (x:Int × Int):Bool:=true
def leP (x y:Int × Int):Bool:=decide (x.1 < y.1) || (x.1==y.1 && decide (x.2≤y.2))
def g_order_Check_b0 (p0:(List Int)) (s5:Int) (a8:Int) (s14:Int):Option (Step Int (Unit ⊕ Unit)) :=
 if (decide (s14 < (p0.length:Int)))=true then
  if 0≤s14 then
   (lkI p0 s14).bind fun a17 =>
   if 0≤s5 then
    if ((IntKind.u64.wrap (BitVec.ofInt (IntKind.bits .u64) (Int.fdiv a8 (2^min (Int.toNat s14) (IntKind.bits .u64))) &&& BitVec.ofInt (IntKind.bits .u64) 1).toNat) != (IntKind.u64.wrap (BitVec.ofInt (IntKind.bits .u64) (Int.fdiv a17 (2^min (Int.toNat s5) (IntKind.bits .u64))) &&& BitVec.ofInt (IntKind.bits .u64) 1).toNat))=true then
     some (.done (Sum.inl ()))
    else
    some (.next (IntKind.i64.wrap (s14+1)))
   else none
  else none
 else
 some (.done (Sum.inr ()))
def g_order_Check_b1 (p0:(List Int)) (s5:Int):Option (Step Int (Unit ⊕ Unit)) :=
 if (decide (s5 < (p0.length:Int)))=true then
  (lkI p0 s5).bind fun a8 =>
  if 0≤(p0.length:Int) then
   if ((Int.fdiv a8 (2^min (Int.toNat (p0.length:Int)) (IntKind.bits .u64))) != 0)=true then
    some (.done (Sum.inl ()))
   else
   if 0≤s5 then
    if ((IntKind.u64.wrap (BitVec.ofInt (IntKind.bits .u64) (Int.fdiv a8 (2^min (Int.toNat s5) (IntKind.bits .u64))) &&& BitVec.ofInt (IntKind.bits .u64) 1).toNat)==1)=true then
     some (.done (Sum.inl ()))
    else
    (whileN fuel (g_order_Check_b0 p0 s5 a8) 0).bind fun x21=>match x21 with
    | .inl x22=>(
     some (.done (Sum.inl ())))
    | .inr x23=>(
     some (.next (IntKind.i64.wrap (s5+1))))
   else none
  else none
 else
 some (.done (Sum.inr ()))
def g_order_Check (p0:(List Int)):Option Int :=
 if (decide ((p0.length:Int) < 1))=true then
  some 80
 else
 if (decide ((p0.length:Int) > 10))=true then
  some 80
 else
 (whileN fuel (g_order_Check_b1 p0) 0).bind fun x24=>match x24 with
 | .inl x25=>(
  some 80)
 | .inr x26=>(
  some 0)
def g_order_read_b0 (p1:(List Int)) (p0:(List Int)) (s7:(Int × Int)):Option (Step (Int × Int) (Unit ⊕ Unit)) :=
 if (decide (s7.2 < (p1.length:Int)))=true then
  (lkI p1 s7.2).bind fun a10 =>
  if (decide (a10 < 0))=true then
   some (.done (Sum.inl ()))
  else
  if (decide (a10≥(p0.length:Int)))=true then
   some (.done (Sum.inl ()))
  else
  if 0≤a10 then
   if ((IntKind.u64.wrap (BitVec.ofInt (IntKind.bits .u64) (Int.fdiv s7.1 (2^min (Int.toNat a10) (IntKind.bits .u64))) &&& BitVec.ofInt (IntKind.bits .u64) 1).toNat)==1)=true then
    some (.done (Sum.inl ()))
   else
   if 0≤a10 then
    some (.next (IntKind.u64.wrap (BitVec.ofInt (IntKind.bits .u64) s7.1 ||| BitVec.ofInt (IntKind.bits .u64) (IntKind.u64.wrap (1*2^min (Int.toNat a10) (IntKind.bits .u64)))).toNat,IntKind.i64.wrap (s7.2+1)))
   else none
  else none
 else
 some (.done (Sum.inr ()))
def g_order_read (p0:(List Int)) (p1:(List Int)):Option Int :=
 (g_order_Check p0).bind fun x1 =>
 if (x1 != 0)=true then
  some x1
 else
 if ((p1.length:Int) != (p0.length:Int))=true then
  some 81
 else
 (whileN fuel (g_order_read_b0 p1 p0) (0,0)).bind fun x18=>match x18 with
 | .inl x19=>(
  some 81)
 | .inr x20=>(
  some 0)
def g_slices_Clone_uint_uint_c (c0:Int) (d0:(List Int)):Option (List Int) :=
 if (c0::d0).length*8≤140737488355328 then
  some (c0::d0)
 else none
def g_slices_Clone_uint_uint_e  : Option (List Int) :=
 some ([]:(List Int))
def g_slices_Clone_uint_uint_n  : Option (List Int) :=
 some ([]:(List Int))
def g_slices_Clone_uint_uint (p0:(List Int)):Option (List Int) :=
 match p0 with
 | []=>(g_slices_Clone_uint_uint_n).bind fun x=>(g_slices_Clone_uint_uint_e).bind fun y=>if x=y then some x else none
 | c0::d0=>g_slices_Clone_uint_uint_c c0 d0
def g_math_bits_OnesCount64 (p0:Int):Option Int :=
 some (IntKind.i64.wrap (BitVec.ofInt (IntKind.bits .i64) (IntKind.i64.wrap (IntKind.u64.wrap ((IntKind.u64.wrap ((IntKind.u64.wrap ((IntKind.u64.wrap (BitVec.ofInt (IntKind.bits .u64) (IntKind.u64.wrap ((Int.fdiv (IntKind.u64.wrap ((IntKind.u64.wrap (BitVec.ofInt (IntKind.bits .u64) (Int.fdiv (IntKind.u64.wrap ((IntKind.u64.wrap (BitVec.ofInt (IntKind.bits .u64) (Int.fdiv p0 (2^min (Int.toNat 1) (IntKind.bits .u64))) &&& BitVec.ofInt (IntKind.bits .u64) 6148914691236517205).toNat)+(IntKind.u64.wrap (BitVec.ofInt (IntKind.bits .u64) p0 &&& BitVec.ofInt (IntKind.bits .u64) 6148914691236517205).toNat))) (2^min (Int.toNat 2) (IntKind.bits .u64))) &&& BitVec.ofInt (IntKind.bits .u64) 3689348814741910323).toNat)+(IntKind.u64.wrap (BitVec.ofInt (IntKind.bits .u64) (IntKind.u64.wrap ((IntKind.u64.wrap (BitVec.ofInt (IntKind.bits .u64) (Int.fdiv p0 (2^min (Int.toNat 1) (IntKind.bits .u64))) &&& BitVec.ofInt (IntKind.bits .u64) 6148914691236517205).toNat)+(IntKind.u64.wrap (BitVec.ofInt (IntKind.bits .u64) p0 &&& BitVec.ofInt (IntKind.bits .u64) 6148914691236517205).toNat))) &&& BitVec.ofInt (IntKind.bits .u64) 3689348814741910323).toNat))) (2^min (Int.toNat 4) (IntKind.bits .u64)))+(IntKind.u64.wrap ((IntKind.u64.wrap (BitVec.ofInt (IntKind.bits .u64) (Int.fdiv (IntKind.u64.wrap ((IntKind.u64.wrap (BitVec.ofInt (IntKind.bits .u64) (Int.fdiv p0 (2^min (Int.toNat 1) (IntKind.bits .u64))) &&& BitVec.ofInt (IntKind.bits .u64) 6148914691236517205).toNat)+(IntKind.u64.wrap (BitVec.ofInt (IntKind.bits .u64) p0 &&& BitVec.ofInt (IntKind.bits .u64) 6148914691236517205).toNat))) (2^min (Int.toNat 2) (IntKind.bits .u64))) &&& BitVec.ofInt (IntKind.bits .u64) 3689348814741910323).toNat)+(IntKind.u64.wrap (BitVec.ofInt (IntKind.bits .u64) (IntKind.u64.wrap ((IntKind.u64.wrap (BitVec.ofInt (IntKind.bits .u64) (Int.fdiv p0 (2^min (Int.toNat 1) (IntKind.bits .u64))) &&& BitVec.ofInt (IntKind.bits .u64) 6148914691236517205).toNat)+(IntKind.u64.wrap (BitVec.ofInt (IntKind.bits .u64) p0 &&& BitVec.ofInt (IntKind.bits .u64) 6148914691236517205).toNat))) &&& BitVec.ofInt (IntKind.bits .u64) 3689348814741910323).toNat))))) &&& BitVec.ofInt (IntKind.bits .u64) 1085102592571150095).toNat)+(Int.fdiv (IntKind.u64.wrap (BitVec.ofInt (IntKind.bits .u64) (IntKind.u64.wrap ((Int.fdiv (IntKind.u64.wrap ((IntKind.u64.wrap (BitVec.ofInt (IntKind.bits .u64) (Int.fdiv (IntKind.u64.wrap ((IntKind.u64.wrap (BitVec.ofInt (IntKind.bits .u64) (Int.fdiv p0 (2^min (Int.toNat 1) (IntKind.bits .u64))) &&& BitVec.ofInt (IntKind.bits .u64) 6148914691236517205).toNat)+(IntKind.u64.wrap (BitVec.ofInt (IntKind.bits .u64) p0 &&& BitVec.ofInt (IntKind.bits .u64) 6148914691236517205).toNat))) (2^min (Int.toNat 2) (IntKind.bits .u64))) &&& BitVec.ofInt (IntKind.bits .u64) 3689348814741910323).toNat)+(IntKind.u64.wrap (BitVec.ofInt (IntKind.bits .u64) (IntKind.u64.wrap ((IntKind.u64.wrap (BitVec.ofInt (IntKind.bits .u64) (Int.fdiv p0 (2^min (Int.toNat 1) (IntKind.bits .u64))) &&& BitVec.ofInt (IntKind.bits .u64) 6148914691236517205).toNat)+(IntKind.u64.wrap (BitVec.ofInt (IntKind.bits .u64) p0 &&& BitVec.ofInt (IntKind.bits .u64) 6148914691236517205).toNat))) &&& BitVec.ofInt (IntKind.bits .u64) 3689348814741910323).toNat))) (2^min (Int.toNat 4) (IntKind.bits .u64)))+(IntKind.u64.wrap ((IntKind.u64.wrap (BitVec.ofInt (IntKind.bits .u64) (Int.fdiv (IntKind.u64.wrap ((IntKind.u64.wrap (BitVec.ofInt (IntKind.bits .u64) (Int.fdiv p0 (2^min (Int.toNat 1) (IntKind.bits .u64))) &&& BitVec.ofInt (IntKind.bits .u64) 6148914691236517205).toNat)+(IntKind.u64.wrap (BitVec.ofInt (IntKind.bits .u64) p0 &&& BitVec.ofInt (IntKind.bits .u64) 6148914691236517205).toNat))) (2^min (Int.toNat 2) (IntKind.bits .u64))) &&& BitVec.ofInt (IntKind.bits .u64) 3689348814741910323).toNat)+(IntKind.u64.wrap (BitVec.ofInt (IntKind.bits .u64) (IntKind.u64.wrap ((IntKind.u64.wrap (BitVec.ofInt (IntKind.bits .u64) (Int.fdiv p0 (2^min (Int.toNat 1) (IntKind.bits .u64))) &&& BitVec.ofInt (IntKind.bits .u64) 6148914691236517205).toNat)+(IntKind.u64.wrap (BitVec.ofInt (IntKind.bits .u64) p0 &&& BitVec.ofInt (IntKind.bits .u64) 6148914691236517205).toNat))) &&& BitVec.ofInt (IntKind.bits .u64) 3689348814741910323).toNat))))) &&& BitVec.ofInt (IntKind.bits .u64) 1085102592571150095).toNat) (2^min (Int.toNat 8) (IntKind.bits .u64)))))+(Int.fdiv (IntKind.u64.wrap ((IntKind.u64.wrap (BitVec.ofInt (IntKind.bits .u64) (IntKind.u64.wrap ((Int.fdiv (IntKind.u64.wrap ((IntKind.u64.wrap (BitVec.ofInt (IntKind.bits .u64) (Int.fdiv (IntKind.u64.wrap ((IntKind.u64.wrap (BitVec.ofInt (IntKind.bits .u64) (Int.fdiv p0 (2^min (Int.toNat 1) (IntKind.bits .u64))) &&& BitVec.ofInt (IntKind.bits .u64) 6148914691236517205).toNat)+(IntKind.u64.wrap (BitVec.ofInt (IntKind.bits .u64) p0 &&& BitVec.ofInt (IntKind.bits .u64) 6148914691236517205).toNat))) (2^min (Int.toNat 2) (IntKind.bits .u64))) &&& BitVec.ofInt (IntKind.bits .u64) 3689348814741910323).toNat)+(IntKind.u64.wrap (BitVec.ofInt (IntKind.bits .u64) (IntKind.u64.wrap ((IntKind.u64.wrap (BitVec.ofInt (IntKind.bits .u64) (Int.fdiv p0 (2^min (Int.toNat 1) (IntKind.bits .u64))) &&& BitVec.ofInt (IntKind.bits .u64) 6148914691236517205).toNat)+(IntKind.u64.wrap (BitVec.ofInt (IntKind.bits .u64) p0 &&& BitVec.ofInt (IntKind.bits .u64) 6148914691236517205).toNat))) &&& BitVec.ofInt (IntKind.bits .u64) 3689348814741910323).toNat))) (2^min (Int.toNat 4) (IntKind.bits .u64)))+(IntKind.u64.wrap ((IntKind.u64.wrap (BitVec.ofInt (IntKind.bits .u64) (Int.fdiv (IntKind.u64.wrap ((IntKind.u64.wrap (BitVec.ofInt (IntKind.bits .u64) (Int.fdiv p0 (2^min (Int.toNat 1) (IntKind.bits .u64))) &&& BitVec.ofInt (IntKind.bits .u64) 6148914691236517205).toNat)+(IntKind.u64.wrap (BitVec.ofInt (IntKind.bits .u64) p0 &&& BitVec.ofInt (IntKind.bits .u64) 6148914691236517205).toNat))) (2^min (Int.toNat 2) (IntKind.bits .u64))) &&& BitVec.ofInt (IntKind.bits .u64) 3689348814741910323).toNat)+(IntKind.u64.wrap (BitVec.ofInt (IntKind.bits .u64) (IntKind.u64.wrap ((IntKind.u64.wrap (BitVec.ofInt (IntKind.bits .u64) (Int.fdiv p0 (2^min (Int.toNat 1) (IntKind.bits .u64))) &&& BitVec.ofInt (IntKind.bits .u64) 6148914691236517205).toNat)+(IntKind.u64.wrap (BitVec.ofInt (IntKind.bits .u64) p0 &&& BitVec.ofInt (IntKind.bits .u64) 6148914691236517205).toNat))) &&& BitVec.ofInt (IntKind.bits .u64) 3689348814741910323).toNat))))) &&& BitVec.ofInt (IntKind.bits .u64) 1085102592571150095).toNat)+(Int.fdiv (IntKind.u64.wrap (BitVec.ofInt (IntKind.bits .u64) (IntKind.u64.wrap ((Int.fdiv (IntKind.u64.wrap ((IntKind.u64.wrap (BitVec.ofInt (IntKind.bits .u64) (Int.fdiv (IntKind.u64.wrap ((IntKind.u64.wrap (BitVec.ofInt (IntKind.bits .u64) (Int.fdiv p0 (2^min (Int.toNat 1) (IntKind.bits .u64))) &&& BitVec.ofInt (IntKind.bits .u64) 6148914691236517205).toNat)+(IntKind.u64.wrap (BitVec.ofInt (IntKind.bits .u64) p0 &&& BitVec.ofInt (IntKind.bits .u64) 6148914691236517205).toNat))) (2^min (Int.toNat 2) (IntKind.bits .u64))) &&& BitVec.ofInt (IntKind.bits .u64) 3689348814741910323).toNat)+(IntKind.u64.wrap (BitVec.ofInt (IntKind.bits .u64) (IntKind.u64.wrap ((IntKind.u64.wrap (BitVec.ofInt (IntKind.bits .u64) (Int.fdiv p0 (2^min (Int.toNat 1) (IntKind.bits .u64))) &&& BitVec.ofInt (IntKind.bits .u64) 6148914691236517205).toNat)+(IntKind.u64.wrap (BitVec.ofInt (IntKind.bits .u64) p0 &&& BitVec.ofInt (IntKind.bits .u64) 6148914691236517205).toNat))) &&& BitVec.ofInt (IntKind.bits .u64) 3689348814741910323).toNat))) (2^min (Int.toNat 4) (IntKind.bits .u64)))+(IntKind.u64.wrap ((IntKind.u64.wrap (BitVec.ofInt (IntKind.bits .u64) (Int.fdiv (IntKind.u64.wrap ((IntKind.u64.wrap (BitVec.ofInt (IntKind.bits .u64) (Int.fdiv p0 (2^min (Int.toNat 1) (IntKind.bits .u64))) &&& BitVec.ofInt (IntKind.bits .u64) 6148914691236517205).toNat)+(IntKind.u64.wrap (BitVec.ofInt (IntKind.bits .u64) p0 &&& BitVec.ofInt (IntKind.bits .u64) 6148914691236517205).toNat))) (2^min (Int.toNat 2) (IntKind.bits .u64))) &&& BitVec.ofInt (IntKind.bits .u64) 3689348814741910323).toNat)+(IntKind.u64.wrap (BitVec.ofInt (IntKind.bits .u64) (IntKind.u64.wrap ((IntKind.u64.wrap (BitVec.ofInt (IntKind.bits .u64) (Int.fdiv p0 (2^min (Int.toNat 1) (IntKind.bits .u64))) &&& BitVec.ofInt (IntKind.bits .u64) 6148914691236517205).toNat)+(IntKind.u64.wrap (BitVec.ofInt (IntKind.bits .u64) p0 &&& BitVec.ofInt (IntKind.bits .u64) 6148914691236517205).toNat))) &&& BitVec.ofInt (IntKind.bits .u64) 3689348814741910323).toNat))))) &&& BitVec.ofInt (IntKind.bits .u64) 1085102592571150095).toNat) (2^min (Int.toNat 8) (IntKind.bits .u64))))) (2^min (Int.toNat 16) (IntKind.bits .u64)))))+(Int.fdiv (IntKind.u64.wrap ((IntKind.u64.wrap ((IntKind.u64.wrap (BitVec.ofInt (IntKind.bits .u64) (IntKind.u64.wrap ((Int.fdiv (IntKind.u64.wrap ((IntKind.u64.wrap (BitVec.ofInt (IntKind.bits .u64) (Int.fdiv (IntKind.u64.wrap ((IntKind.u64.wrap (BitVec.ofInt (IntKind.bits .u64) (Int.fdiv p0 (2^min (Int.toNat 1) (IntKind.bits .u64))) &&& BitVec.ofInt (IntKind.bits .u64) 6148914691236517205).toNat)+(IntKind.u64.wrap (BitVec.ofInt (IntKind.bits .u64) p0 &&& BitVec.ofInt (IntKind.bits .u64) 6148914691236517205).toNat))) (2^min (Int.toNat 2) (IntKind.bits .u64))) &&& BitVec.ofInt (IntKind.bits .u64) 3689348814741910323).toNat)+(IntKind.u64.wrap (BitVec.ofInt (IntKind.bits .u64) (IntKind.u64.wrap ((IntKind.u64.wrap (BitVec.ofInt (IntKind.bits .u64) (Int.fdiv p0 (2^min (Int.toNat 1) (IntKind.bits .u64))) &&& BitVec.ofInt (IntKind.bits .u64) 6148914691236517205).toNat)+(IntKind.u64.wrap (BitVec.ofInt (IntKind.bits .u64) p0 &&& BitVec.ofInt (IntKind.bits .u64) 6148914691236517205).toNat))) &&& BitVec.ofInt (IntKind.bits .u64) 3689348814741910323).toNat))) (2^min (Int.toNat 4) (IntKind.bits .u64)))+(IntKind.u64.wrap ((IntKind.u64.wrap (BitVec.ofInt (IntKind.bits .u64) (Int.fdiv (IntKind.u64.wrap ((IntKind.u64.wrap (BitVec.ofInt (IntKind.bits .u64) (Int.fdiv p0 (2^min (Int.toNat 1) (IntKind.bits .u64))) &&& BitVec.ofInt (IntKind.bits .u64) 6148914691236517205).toNat)+(IntKind.u64.wrap (BitVec.ofInt (IntKind.bits .u64) p0 &&& BitVec.ofInt (IntKind.bits .u64) 6148914691236517205).toNat))) (2^min (Int.toNat 2) (IntKind.bits .u64))) &&& BitVec.ofInt (IntKind.bits .u64) 3689348814741910323).toNat)+(IntKind.u64.wrap (BitVec.ofInt (IntKind.bits .u64) (IntKind.u64.wrap ((IntKind.u64.wrap (BitVec.ofInt (IntKind.bits .u64) (Int.fdiv p0 (2^min (Int.toNat 1) (IntKind.bits .u64))) &&& BitVec.ofInt (IntKind.bits .u64) 6148914691236517205).toNat)+(IntKind.u64.wrap (BitVec.ofInt (IntKind.bits .u64) p0 &&& BitVec.ofInt (IntKind.bits .u64) 6148914691236517205).toNat))) &&& BitVec.ofInt (IntKind.bits .u64) 3689348814741910323).toNat))))) &&& BitVec.ofInt (IntKind.bits .u64) 1085102592571150095).toNat)+(Int.fdiv (IntKind.u64.wrap (BitVec.ofInt (IntKind.bits .u64) (IntKind.u64.wrap ((Int.fdiv (IntKind.u64.wrap ((IntKind.u64.wrap (BitVec.ofInt (IntKind.bits .u64) (Int.fdiv (IntKind.u64.wrap ((IntKind.u64.wrap (BitVec.ofInt (IntKind.bits .u64) (Int.fdiv p0 (2^min (Int.toNat 1) (IntKind.bits .u64))) &&& BitVec.ofInt (IntKind.bits .u64) 6148914691236517205).toNat)+(IntKind.u64.wrap (BitVec.ofInt (IntKind.bits .u64) p0 &&& BitVec.ofInt (IntKind.bits .u64) 6148914691236517205).toNat))) (2^min (Int.toNat 2) (IntKind.bits .u64))) &&& BitVec.ofInt (IntKind.bits .u64) 3689348814741910323).toNat)+(IntKind.u64.wrap (BitVec.ofInt (IntKind.bits .u64) (IntKind.u64.wrap ((IntKind.u64.wrap (BitVec.ofInt (IntKind.bits .u64) (Int.fdiv p0 (2^min (Int.toNat 1) (IntKind.bits .u64))) &&& BitVec.ofInt (IntKind.bits .u64) 6148914691236517205).toNat)+(IntKind.u64.wrap (BitVec.ofInt (IntKind.bits .u64) p0 &&& BitVec.ofInt (IntKind.bits .u64) 6148914691236517205).toNat))) &&& BitVec.ofInt (IntKind.bits .u64) 3689348814741910323).toNat))) (2^min (Int.toNat 4) (IntKind.bits .u64)))+(IntKind.u64.wrap ((IntKind.u64.wrap (BitVec.ofInt (IntKind.bits .u64) (Int.fdiv (IntKind.u64.wrap ((IntKind.u64.wrap (BitVec.ofInt (IntKind.bits .u64) (Int.fdiv p0 (2^min (Int.toNat 1) (IntKind.bits .u64))) &&& BitVec.ofInt (IntKind.bits .u64) 6148914691236517205).toNat)+(IntKind.u64.wrap (BitVec.ofInt (IntKind.bits .u64) p0 &&& BitVec.ofInt (IntKind.bits .u64) 6148914691236517205).toNat))) (2^min (Int.toNat 2) (IntKind.bits .u64))) &&& BitVec.ofInt (IntKind.bits .u64) 3689348814741910323).toNat)+(IntKind.u64.wrap (BitVec.ofInt (IntKind.bits .u64) (IntKind.u64.wrap ((IntKind.u64.wrap (BitVec.ofInt (IntKind.bits .u64) (Int.fdiv p0 (2^min (Int.toNat 1) (IntKind.bits .u64))) &&& BitVec.ofInt (IntKind.bits .u64) 6148914691236517205).toNat)+(IntKind.u64.wrap (BitVec.ofInt (IntKind.bits .u64) p0 &&& BitVec.ofInt (IntKind.bits .u64) 6148914691236517205).toNat))) &&& BitVec.ofInt (IntKind.bits .u64) 3689348814741910323).toNat))))) &&& BitVec.ofInt (IntKind.bits .u64) 1085102592571150095).toNat) (2^min (Int.toNat 8) (IntKind.bits .u64)))))+(Int.fdiv (IntKind.u64.wrap ((IntKind.u64.wrap (BitVec.ofInt (IntKind.bits .u64) (IntKind.u64.wrap ((Int.fdiv (IntKind.u64.wrap ((IntKind.u64.wrap (BitVec.ofInt (IntKind.bits .u64) (Int.fdiv (IntKind.u64.wrap ((IntKind.u64.wrap (BitVec.ofInt (IntKind.bits .u64) (Int.fdiv p0 (2^min (Int.toNat 1) (IntKind.bits .u64))) &&& BitVec.ofInt (IntKind.bits .u64) 6148914691236517205).toNat)+(IntKind.u64.wrap (BitVec.ofInt (IntKind.bits .u64) p0 &&& BitVec.ofInt (IntKind.bits .u64) 6148914691236517205).toNat))) (2^min (Int.toNat 2) (IntKind.bits .u64))) &&& BitVec.ofInt (IntKind.bits .u64) 3689348814741910323).toNat)+(IntKind.u64.wrap (BitVec.ofInt (IntKind.bits .u64) (IntKind.u64.wrap ((IntKind.u64.wrap (BitVec.ofInt (IntKind.bits .u64) (Int.fdiv p0 (2^min (Int.toNat 1) (IntKind.bits .u64))) &&& BitVec.ofInt (IntKind.bits .u64) 6148914691236517205).toNat)+(IntKind.u64.wrap (BitVec.ofInt (IntKind.bits .u64) p0 &&& BitVec.ofInt (IntKind.bits .u64) 6148914691236517205).toNat))) &&& BitVec.ofInt (IntKind.bits .u64) 3689348814741910323).toNat))) (2^min (Int.toNat 4) (IntKind.bits .u64)))+(IntKind.u64.wrap ((IntKind.u64.wrap (BitVec.ofInt (IntKind.bits .u64) (Int.fdiv (IntKind.u64.wrap ((IntKind.u64.wrap (BitVec.ofInt (IntKind.bits .u64) (Int.fdiv p0 (2^min (Int.toNat 1) (IntKind.bits .u64))) &&& BitVec.ofInt (IntKind.bits .u64) 6148914691236517205).toNat)+(IntKind.u64.wrap (BitVec.ofInt (IntKind.bits .u64) p0 &&& BitVec.ofInt (IntKind.bits .u64) 6148914691236517205).toNat))) (2^min (Int.toNat 2) (IntKind.bits .u64))) &&& BitVec.ofInt (IntKind.bits .u64) 3689348814741910323).toNat)+(IntKind.u64.wrap (BitVec.ofInt (IntKind.bits .u64) (IntKind.u64.wrap ((IntKind.u64.wrap (BitVec.ofInt (IntKind.bits .u64) (Int.fdiv p0 (2^min (Int.toNat 1) (IntKind.bits .u64))) &&& BitVec.ofInt (IntKind.bits .u64) 6148914691236517205).toNat)+(IntKind.u64.wrap (BitVec.ofInt (IntKind.bits .u64) p0 &&& BitVec.ofInt (IntKind.bits .u64) 6148914691236517205).toNat))) &&& BitVec.ofInt (IntKind.bits .u64) 3689348814741910323).toNat))))) &&& BitVec.ofInt (IntKind.bits .u64) 1085102592571150095).toNat)+(Int.fdiv (IntKind.u64.wrap (BitVec.ofInt (IntKind.bits .u64) (IntKind.u64.wrap ((Int.fdiv (IntKind.u64.wrap ((IntKind.u64.wrap (BitVec.ofInt (IntKind.bits .u64) (Int.fdiv (IntKind.u64.wrap ((IntKind.u64.wrap (BitVec.ofInt (IntKind.bits .u64) (Int.fdiv p0 (2^min (Int.toNat 1) (IntKind.bits .u64))) &&& BitVec.ofInt (IntKind.bits .u64) 6148914691236517205).toNat)+(IntKind.u64.wrap (BitVec.ofInt (IntKind.bits .u64) p0 &&& BitVec.ofInt (IntKind.bits .u64) 6148914691236517205).toNat))) (2^min (Int.toNat 2) (IntKind.bits .u64))) &&& BitVec.ofInt (IntKind.bits .u64) 3689348814741910323).toNat)+(IntKind.u64.wrap (BitVec.ofInt (IntKind.bits .u64) (IntKind.u64.wrap ((IntKind.u64.wrap (BitVec.ofInt (IntKind.bits .u64) (Int.fdiv p0 (2^min (Int.toNat 1) (IntKind.bits .u64))) &&& BitVec.ofInt (IntKind.bits .u64) 6148914691236517205).toNat)+(IntKind.u64.wrap (BitVec.ofInt (IntKind.bits .u64) p0 &&& BitVec.ofInt (IntKind.bits .u64) 6148914691236517205).toNat))) &&& BitVec.ofInt (IntKind.bits .u64) 3689348814741910323).toNat))) (2^min (Int.toNat 4) (IntKind.bits .u64)))+(IntKind.u64.wrap ((IntKind.u64.wrap (BitVec.ofInt (IntKind.bits .u64) (Int.fdiv (IntKind.u64.wrap ((IntKind.u64.wrap (BitVec.ofInt (IntKind.bits .u64) (Int.fdiv p0 (2^min (Int.toNat 1) (IntKind.bits .u64))) &&& BitVec.ofInt (IntKind.bits .u64) 6148914691236517205).toNat)+(IntKind.u64.wrap (BitVec.ofInt (IntKind.bits .u64) p0 &&& BitVec.ofInt (IntKind.bits .u64) 6148914691236517205).toNat))) (2^min (Int.toNat 2) (IntKind.bits .u64))) &&& BitVec.ofInt (IntKind.bits .u64) 3689348814741910323).toNat)+(IntKind.u64.wrap (BitVec.ofInt (IntKind.bits .u64) (IntKind.u64.wrap ((IntKind.u64.wrap (BitVec.ofInt (IntKind.bits .u64) (Int.fdiv p0 (2^min (Int.toNat 1) (IntKind.bits .u64))) &&& BitVec.ofInt (IntKind.bits .u64) 6148914691236517205).toNat)+(IntKind.u64.wrap (BitVec.ofInt (IntKind.bits .u64) p0 &&& BitVec.ofInt (IntKind.bits .u64) 6148914691236517205).toNat))) &&& BitVec.ofInt (IntKind.bits .u64) 3689348814741910323).toNat))))) &&& BitVec.ofInt (IntKind.bits .u64) 1085102592571150095).toNat) (2^min (Int.toNat 8) (IntKind.bits .u64))))) (2^min (Int.toNat 16) (IntKind.bits .u64))))) (2^min (Int.toNat 32) (IntKind.bits .u64)))))) &&& BitVec.ofInt (IntKind.bits .i64) 127).toNat)
def g_math_bits_OnesCount (p0:Int):Option Int :=
 (g_math_bits_OnesCount64 p0).bind fun x1 =>
 some x1
def g_order_graph_degree (p0:Torder_graph) (p1:Int):Option Int :=
 (lkI p0.neighbours.near p1).bind fun a1 =>
 (g_math_bits_OnesCount a1).bind fun x3 =>
 some x3
def g_math_bits_TrailingZeros64 (p0:Int):Option Int :=
 if (p0==0)=true then
  some 64
 else
 (lkI tab1 (Int.fdiv (IntKind.u64.wrap ((IntKind.u64.wrap (BitVec.ofInt (IntKind.bits .u64) p0 &&& BitVec.ofInt (IntKind.bits .u64) (IntKind.u64.wrap (0 - p0))).toNat)*285870213051353865)) (2^min (Int.toNat 58) (IntKind.bits .u64)))).bind fun a3 =>
 some (IntKind.i64.wrap (a3))
def g_math_bits_TrailingZeros (p0:Int):Option Int :=
 (g_math_bits_TrailingZeros64 p0).bind fun x1 =>
 some x1
def g_order_run_b0 (x15:Int) (s19:(Int × (List Int) × (List (Int × Int)))):Option (Step (Int × (List Int) × (List (Int × Int))) ((List Int) × (List (Int × Int)))) :=
 if (s19.1 != 0)=true then
  (g_math_bits_TrailingZeros s19.1).bind fun x22 =>
  if (s19.2.2++([(x15,x22)]:(List (Int × Int)))).length*16≤140737488355328 then
   (lkI s19.2.1 x15).bind fun a24 =>
   if 0≤x22 then
    (lkI (List.set s19.2.1 (Int.toNat x15) (IntKind.u64.wrap (BitVec.ofInt (IntKind.bits .u64) a24 ||| BitVec.ofInt (IntKind.bits .u64) (IntKind.u64.wrap (1*2^min (Int.toNat x22) (IntKind.bits .u64)))).toNat)) x22).bind fun a26 =>
    if 0≤x15 then
     some (.next (IntKind.u64.wrap (BitVec.ofInt (IntKind.bits .u64) s19.1 &&& BitVec.ofInt (IntKind.bits .u64) (IntKind.u64.wrap (s19.1 - 1))).toNat,(List.set (List.set s19.2.1 (Int.toNat x15) (IntKind.u64.wrap (BitVec.ofInt (IntKind.bits .u64) a24 ||| BitVec.ofInt (IntKind.bits .u64) (IntKind.u64.wrap (1*2^min (Int.toNat x22) (IntKind.bits .u64)))).toNat)) (Int.toNat x22) (IntKind.u64.wrap (BitVec.ofInt (IntKind.bits .u64) a26 ||| BitVec.ofInt (IntKind.bits .u64) (IntKind.u64.wrap (1*2^min (Int.toNat x15) (IntKind.bits .u64)))).toNat)),(s19.2.2++([(x15,x22)]:(List (Int × Int))))))
    else none
   else none
  else none
 else
 some (.done (s19.2.1,s19.2.2))
def g_order_run_b1 (a10:Int) (s12:(Int × (List Int) × (List (Int × Int)))):Option (Step (Int × (List Int) × (List (Int × Int))) ((List Int) × (List (Int × Int)))) :=
 if (s12.1 != 0)=true then
  (g_math_bits_TrailingZeros s12.1).bind fun x15 =>
  (lkI s12.2.1 x15).bind fun a17 =>
  if 0≤(IntKind.i64.wrap (x15+1)) then
   (whileN fuel (g_order_run_b0 x15) (IntKind.u64.wrap (BitVec.ofInt (IntKind.bits .u64) (IntKind.u64.wrap (BitVec.ofInt (IntKind.bits .u64) a10 &&& ~~~ BitVec.ofInt (IntKind.bits .u64) a17).toNat) &&& ~~~ BitVec.ofInt (IntKind.bits .u64) (IntKind.u64.wrap ((IntKind.u64.wrap (1*2^min (Int.toNat (IntKind.i64.wrap (x15+1))) (IntKind.bits .u64))) - 1))).toNat,s12.2.1,s12.2.2)).bind fun x31 =>
   some (.next (IntKind.u64.wrap (BitVec.ofInt (IntKind.bits .u64) s12.1 &&& BitVec.ofInt (IntKind.bits .u64) (IntKind.u64.wrap (s12.1 - 1))).toNat,x31.1,x31.2))
  else none
 else
 some (.done (s12.2.1,s12.2.2))
def g_order_run_b2 (a6:Int) (s34:(Int × (List Int))):Option (Step (Int × (List Int)) (List Int)) :=
 if (s34.1 != 0)=true then
  (g_math_bits_TrailingZeros s34.1).bind fun x37 =>
  (lkI s34.2 x37).bind fun a39 =>
  if 0≤a6 then
   some (.next (IntKind.u64.wrap (BitVec.ofInt (IntKind.bits .u64) s34.1 &&& BitVec.ofInt (IntKind.bits .u64) (IntKind.u64.wrap (s34.1 - 1))).toNat,(List.set s34.2 (Int.toNat x37) (IntKind.u64.wrap (BitVec.ofInt (IntKind.bits .u64) a39 &&& ~~~ BitVec.ofInt (IntKind.bits .u64) (IntKind.u64.wrap (1*2^min (Int.toNat a6) (IntKind.bits .u64)))).toNat))))
  else none
 else
 some (.done s34.2)
def g_order_run_b3 (p1:(List Int)) (s3:(Int × Int × (List (Int × Int)) × Int × (List Int))):Option (Step (Int × Int × (List (Int × Int)) × Int × (List Int)) (Int × (List (Int × Int)))) :=
 if (decide (s3.2.1 < (p1.length:Int)))=true then
  (lkI p1 s3.2.1).bind fun a6 =>
  (g_order_graph_degree (Torder_graph.mk (Torder_neighbours.mk s3.2.2.2.2) s3.2.2.2.1) a6).bind fun x8 =>
  (lkI s3.2.2.2.2 a6).bind fun a10 =>
  (whileN fuel (g_order_run_b1 a10) (a10,s3.2.2.2.2,([]:(List (Int × Int))))).bind fun x33 =>
  if 0≤a6 then
   (whileN fuel (g_order_run_b2 a6) (IntKind.u64.wrap (BitVec.ofInt (IntKind.bits .u64) s3.2.2.2.1 &&& ~~~ BitVec.ofInt (IntKind.bits .u64) (IntKind.u64.wrap (1*2^min (Int.toNat a6) (IntKind.bits .u64)))).toNat,x33.1)).bind fun x43 =>
   (lkI x43 a6).bind fun a44 =>
   if (s3.2.2.1++x33.2).length*16≤140737488355328 then
    some (.next ((if x8 > s3.1 then x8 else s3.1),IntKind.i64.wrap (s3.2.1+1),(s3.2.2.1++x33.2),IntKind.u64.wrap (BitVec.ofInt (IntKind.bits .u64) s3.2.2.2.1 &&& ~~~ BitVec.ofInt (IntKind.bits .u64) (IntKind.u64.wrap (1*2^min (Int.toNat a6) (IntKind.bits .u64)))).toNat,(List.set x43 (Int.toNat a6) 0)))
   else none
  else none
 else
 some (.done (s3.1,s3.2.2.1))
def g_order_run (p0:(List Int)) (p1:(List Int)):Option ((List (Int × Int)) × Int) :=
 (g_slices_Clone_uint_uint p0).bind fun x1 =>
 if 0≤(p0.length:Int) then
  (whileN fuel (g_order_run_b3 p1) (0,0,([]:(List (Int × Int))),IntKind.u64.wrap ((IntKind.u64.wrap (1*2^min (Int.toNat (p0.length:Int)) (IntKind.bits .u64))) - 1),x1)).bind fun x48 =>
  some (x48.2,x48.1)
 else none
def g_cmp_Or_int_b0 (p0:(List Int)) (s1:Int):Option (Step Int (Int ⊕ Unit)) :=
 if (decide (s1 < (p0.length:Int)))=true then
  (lkI p0 s1).bind fun a4 =>
  if (a4 != 0)=true then
   some (.done (Sum.inl a4))
  else
  some (.next (IntKind.i64.wrap (s1+1)))
 else
 some (.done (Sum.inr ()))
def g_cmp_Or_int (p0:(List Int)):Option Int :=
 (whileN fuel (g_cmp_Or_int_b0 p0) 0).bind fun x8=>match x8 with
 | .inl x9=>(
  some x9)
 | .inr x10=>(
  some 0)
def g_cmp_isNaN_int (p0:Int):Option Bool :=
 some (p0 != p0)
def g_cmp_Compare_int (p0:Int) (p1:Int):Option Int :=
 (g_cmp_isNaN_int p0).bind fun x1 =>
 (g_cmp_isNaN_int p1).bind fun x3 =>
 if x1=true then
  if x3=true then
   some 0
  else
  some (-1)
 else
 if x3=true then
  some 1
 else
 if (decide (p0 < p1))=true then
  some (-1)
 else
 if (decide (p0 > p1))=true then
  some 1
 else
 some 0
def g_order_Fill_1 (p0:(Int × Int)) (p1:(Int × Int)):Option Int :=
 (g_cmp_Compare_int p0.1 p1.1).bind fun x1 =>
 (g_cmp_Compare_int p0.2 p1.2).bind fun x3 =>
 (g_cmp_Or_int [x1,x3]).bind fun x5 =>
 some x5
def g_order_Fill (p0:(List Int)) (p1:(List Int)):Option ((List (Int × Int)) × Int) :=
 (g_order_read p0 p1).bind fun x1 =>
 if (x1 != 0)=true then
  some (([]:(List (Int × Int))),x1)
 else
 (g_order_run p0 p1).bind fun x5 =>
 (sortD goodP leP x5.1).bind fun x7 =>
 some (x7,0)
def g_order_Width (p0:(List Int)) (p1:(List Int)):Option (Int × Int) :=
 (g_order_read p0 p1).bind fun x1 =>
 if (x1 != 0)=true then
  some (0,x1)
 else
 (g_order_run p0 p1).bind fun x5 =>
 some (x5.2,0)
def g_order_graph_lacking_b0 (p0:Torder_graph) (a1:Int) (s3:(Int × Int)):Option (Step (Int × Int) Int) :=
 if (s3.1 != 0)=true then
  (g_math_bits_TrailingZeros s3.1).bind fun x6 =>
  (lkI p0.neighbours.near x6).bind fun a8 =>
  if 0≤x6 then
   (g_math_bits_OnesCount (IntKind.u64.wrap (BitVec.ofInt (IntKind.bits .u64) (IntKind.u64.wrap (BitVec.ofInt (IntKind.bits .u64) a1 &&& ~~~ BitVec.ofInt (IntKind.bits .u64) a8).toNat) &&& ~~~ BitVec.ofInt (IntKind.bits .u64) (IntKind.u64.wrap (1*2^min (Int.toNat x6) (IntKind.bits .u64)))).toNat)).bind fun x10 =>
   some (.next (IntKind.u64.wrap (BitVec.ofInt (IntKind.bits .u64) s3.1 &&& BitVec.ofInt (IntKind.bits .u64) (IntKind.u64.wrap (s3.1 - 1))).toNat,IntKind.i64.wrap (s3.2+x10)))
  else none
 else
 some (.done s3.2)
def g_order_graph_lacking (p0:Torder_graph) (p1:Int):Option Int :=
 (lkI p0.neighbours.near p1).bind fun a1 =>
 (whileN fuel (g_order_graph_lacking_b0 p0 a1) (a1,0)).bind fun x13 =>
 some (IntKind.i64.wrap (Int.tdiv x13 2))
def g_order_LeastFill_b0 (s7:(Int × (List Int) × (List Int))) (s10:(Int × Int × Int)):Option (Step (Int × Int × Int) (Int × Int)) :=
 if (s10.1 != 0)=true then
  (g_math_bits_TrailingZeros s10.1).bind fun x13 =>
  (g_order_graph_lacking (Torder_graph.mk (Torder_neighbours.mk s7.2.1) s7.1) x13).bind fun x15 =>
  if (decide (s10.2.1 < 0))=true then
   some (.next (IntKind.u64.wrap (BitVec.ofInt (IntKind.bits .u64) s10.1 &&& BitVec.ofInt (IntKind.bits .u64) (IntKind.u64.wrap (s10.1 - 1))).toNat,x13,x15))
  else
  if (decide (x15 < s10.2.2))=true then
   some (.next (IntKind.u64.wrap (BitVec.ofInt (IntKind.bits .u64) s10.1 &&& BitVec.ofInt (IntKind.bits .u64) (IntKind.u64.wrap (s10.1 - 1))).toNat,x13,x15))
  else
  some (.next (IntKind.u64.wrap (BitVec.ofInt (IntKind.bits .u64) s10.1 &&& BitVec.ofInt (IntKind.bits .u64) (IntKind.u64.wrap (s10.1 - 1))).toNat,s10.2.1,s10.2.2))
 else
 some (.done (s10.2.1,s10.2.2))
def g_order_LeastFill_b1 (x28:Int) (s32:(Int × (List Int) × (List (Int × Int)))):Option (Step (Int × (List Int) × (List (Int × Int))) ((List Int) × (List (Int × Int)))) :=
 if (s32.1 != 0)=true then
  (g_math_bits_TrailingZeros s32.1).bind fun x35 =>
  if (s32.2.2++([(x28,x35)]:(List (Int × Int)))).length*16≤140737488355328 then
   (lkI s32.2.1 x28).bind fun a37 =>
   if 0≤x35 then
    (lkI (List.set s32.2.1 (Int.toNat x28) (IntKind.u64.wrap (BitVec.ofInt (IntKind.bits .u64) a37 ||| BitVec.ofInt (IntKind.bits .u64) (IntKind.u64.wrap (1*2^min (Int.toNat x35) (IntKind.bits .u64)))).toNat)) x35).bind fun a39 =>
    if 0≤x28 then
     some (.next (IntKind.u64.wrap (BitVec.ofInt (IntKind.bits .u64) s32.1 &&& BitVec.ofInt (IntKind.bits .u64) (IntKind.u64.wrap (s32.1 - 1))).toNat,(List.set (List.set s32.2.1 (Int.toNat x28) (IntKind.u64.wrap (BitVec.ofInt (IntKind.bits .u64) a37 ||| BitVec.ofInt (IntKind.bits .u64) (IntKind.u64.wrap (1*2^min (Int.toNat x35) (IntKind.bits .u64)))).toNat)) (Int.toNat x35) (IntKind.u64.wrap (BitVec.ofInt (IntKind.bits .u64) a39 ||| BitVec.ofInt (IntKind.bits .u64) (IntKind.u64.wrap (1*2^min (Int.toNat x28) (IntKind.bits .u64)))).toNat)),(s32.2.2++([(x28,x35)]:(List (Int × Int))))))
    else none
   else none
  else none
 else
 some (.done (s32.2.1,s32.2.2))
def g_order_LeastFill_b2 (a23:Int) (s25:(Int × (List Int) × (List (Int × Int)))):Option (Step (Int × (List Int) × (List (Int × Int))) ((List Int) × (List (Int × Int)))) :=
 if (s25.1 != 0)=true then
  (g_math_bits_TrailingZeros s25.1).bind fun x28 =>
  (lkI s25.2.1 x28).bind fun a30 =>
  if 0≤(IntKind.i64.wrap (x28+1)) then
   (whileN fuel (g_order_LeastFill_b1 x28) (IntKind.u64.wrap (BitVec.ofInt (IntKind.bits .u64) (IntKind.u64.wrap (BitVec.ofInt (IntKind.bits .u64) a23 &&& ~~~ BitVec.ofInt (IntKind.bits .u64) a30).toNat) &&& ~~~ BitVec.ofInt (IntKind.bits .u64) (IntKind.u64.wrap ((IntKind.u64.wrap (1*2^min (Int.toNat (IntKind.i64.wrap (x28+1))) (IntKind.bits .u64))) - 1))).toNat,s25.2.1,s25.2.2)).bind fun x44 =>
   some (.next (IntKind.u64.wrap (BitVec.ofInt (IntKind.bits .u64) s25.1 &&& BitVec.ofInt (IntKind.bits .u64) (IntKind.u64.wrap (s25.1 - 1))).toNat,x44.1,x44.2))
  else none
 else
 some (.done (s25.2.1,s25.2.2))
def g_order_LeastFill_b3 (x22:(Int × Int)) (s47:(Int × (List Int))):Option (Step (Int × (List Int)) (List Int)) :=
 if (s47.1 != 0)=true then
  (g_math_bits_TrailingZeros s47.1).bind fun x50 =>
  (lkI s47.2 x50).bind fun a52 =>
  if 0≤x22.1 then
   some (.next (IntKind.u64.wrap (BitVec.ofInt (IntKind.bits .u64) s47.1 &&& BitVec.ofInt (IntKind.bits .u64) (IntKind.u64.wrap (s47.1 - 1))).toNat,(List.set s47.2 (Int.toNat x50) (IntKind.u64.wrap (BitVec.ofInt (IntKind.bits .u64) a52 &&& ~~~ BitVec.ofInt (IntKind.bits .u64) (IntKind.u64.wrap (1*2^min (Int.toNat x22.1) (IntKind.bits .u64)))).toNat))))
  else none
 else
 some (.done s47.2)
def g_order_LeastFill_b4  (s7:(Int × (List Int) × (List Int))):Option (Step (Int × (List Int) × (List Int)) (Int × (List Int) × (List Int))) :=
 if (s7.1 != 0)=true then
  (whileN fuel (g_order_LeastFill_b0 s7) (s7.1,-1,0)).bind fun x22 =>
  if (s7.2.2++([x22.1]:(List Int))).length*8≤140737488355328 then
   (lkI s7.2.1 x22.1).bind fun a23 =>
   (whileN fuel (g_order_LeastFill_b2 a23) (a23,s7.2.1,([]:(List (Int × Int))))).bind fun x46 =>
   if 0≤x22.1 then
    (whileN fuel (g_order_LeastFill_b3 x22) (IntKind.u64.wrap (BitVec.ofInt (IntKind.bits .u64) s7.1 &&& ~~~ BitVec.ofInt (IntKind.bits .u64) (IntKind.u64.wrap (1*2^min (Int.toNat x22.1) (IntKind.bits .u64)))).toNat,x46.1)).bind fun x56 =>
    (lkI x56 x22.1).bind fun a57 =>
    some (.next (IntKind.u64.wrap (BitVec.ofInt (IntKind.bits .u64) s7.1 &&& ~~~ BitVec.ofInt (IntKind.bits .u64) (IntKind.u64.wrap (1*2^min (Int.toNat x22.1) (IntKind.bits .u64)))).toNat,(List.set x56 (Int.toNat x22.1) 0),(s7.2.2++([x22.1]:(List Int)))))
   else none
  else none
 else
 some (.done (s7.1,s7.2.1,s7.2.2))
def g_order_LeastFill (p0:(List Int)):Option ((List Int) × Int) :=
 (g_order_Check p0).bind fun x1 =>
 if (x1 != 0)=true then
  some (([]:(List Int)),x1)
 else
 (g_slices_Clone_uint_uint p0).bind fun x5 =>
 if 0≤(p0.length:Int) then
  (whileN fuel (g_order_LeastFill_b4) (IntKind.u64.wrap ((IntKind.u64.wrap (1*2^min (Int.toNat (p0.length:Int)) (IntKind.bits .u64))) - 1),x5,([]:(List Int)))).bind fun x61 =>
  some (x61.2.2,0)
 else none
def g_order_LeastDegree_b0 (s7:(Int × (List Int) × (List Int))) (s10:(Int × Int × Int)):Option (Step (Int × Int × Int) (Int × Int)) :=
 if (s10.1 != 0)=true then
  (g_math_bits_TrailingZeros s10.1).bind fun x13 =>
  (g_order_graph_degree (Torder_graph.mk (Torder_neighbours.mk s7.2.1) s7.1) x13).bind fun x15 =>
  if (decide (s10.2.1 < 0))=true then
   some (.next (IntKind.u64.wrap (BitVec.ofInt (IntKind.bits .u64) s10.1 &&& BitVec.ofInt (IntKind.bits .u64) (IntKind.u64.wrap (s10.1 - 1))).toNat,x13,x15))
  else
  if (decide (x15 < s10.2.2))=true then
   some (.next (IntKind.u64.wrap (BitVec.ofInt (IntKind.bits .u64) s10.1 &&& BitVec.ofInt (IntKind.bits .u64) (IntKind.u64.wrap (s10.1 - 1))).toNat,x13,x15))
  else
  some (.next (IntKind.u64.wrap (BitVec.ofInt (IntKind.bits .u64) s10.1 &&& BitVec.ofInt (IntKind.bits .u64) (IntKind.u64.wrap (s10.1 - 1))).toNat,s10.2.1,s10.2.2))
 else
 some (.done (s10.2.1,s10.2.2))
def g_order_LeastDegree_b1 (x28:Int) (s32:(Int × (List Int) × (List (Int × Int)))):Option (Step (Int × (List Int) × (List (Int × Int))) ((List Int) × (List (Int × Int)))) :=
 if (s32.1 != 0)=true then
  (g_math_bits_TrailingZeros s32.1).bind fun x35 =>
  if (s32.2.2++([(x28,x35)]:(List (Int × Int)))).length*16≤140737488355328 then
   (lkI s32.2.1 x28).bind fun a37 =>
   if 0≤x35 then
    (lkI (List.set s32.2.1 (Int.toNat x28) (IntKind.u64.wrap (BitVec.ofInt (IntKind.bits .u64) a37 ||| BitVec.ofInt (IntKind.bits .u64) (IntKind.u64.wrap (1*2^min (Int.toNat x35) (IntKind.bits .u64)))).toNat)) x35).bind fun a39 =>
    if 0≤x28 then
     some (.next (IntKind.u64.wrap (BitVec.ofInt (IntKind.bits .u64) s32.1 &&& BitVec.ofInt (IntKind.bits .u64) (IntKind.u64.wrap (s32.1 - 1))).toNat,(List.set (List.set s32.2.1 (Int.toNat x28) (IntKind.u64.wrap (BitVec.ofInt (IntKind.bits .u64) a37 ||| BitVec.ofInt (IntKind.bits .u64) (IntKind.u64.wrap (1*2^min (Int.toNat x35) (IntKind.bits .u64)))).toNat)) (Int.toNat x35) (IntKind.u64.wrap (BitVec.ofInt (IntKind.bits .u64) a39 ||| BitVec.ofInt (IntKind.bits .u64) (IntKind.u64.wrap (1*2^min (Int.toNat x28) (IntKind.bits .u64)))).toNat)),(s32.2.2++([(x28,x35)]:(List (Int × Int))))))
    else none
   else none
  else none
 else
 some (.done (s32.2.1,s32.2.2))
def g_order_LeastDegree_b2 (a23:Int) (s25:(Int × (List Int) × (List (Int × Int)))):Option (Step (Int × (List Int) × (List (Int × Int))) ((List Int) × (List (Int × Int)))) :=
 if (s25.1 != 0)=true then
  (g_math_bits_TrailingZeros s25.1).bind fun x28 =>
  (lkI s25.2.1 x28).bind fun a30 =>
  if 0≤(IntKind.i64.wrap (x28+1)) then
   (whileN fuel (g_order_LeastDegree_b1 x28) (IntKind.u64.wrap (BitVec.ofInt (IntKind.bits .u64) (IntKind.u64.wrap (BitVec.ofInt (IntKind.bits .u64) a23 &&& ~~~ BitVec.ofInt (IntKind.bits .u64) a30).toNat) &&& ~~~ BitVec.ofInt (IntKind.bits .u64) (IntKind.u64.wrap ((IntKind.u64.wrap (1*2^min (Int.toNat (IntKind.i64.wrap (x28+1))) (IntKind.bits .u64))) - 1))).toNat,s25.2.1,s25.2.2)).bind fun x44 =>
   some (.next (IntKind.u64.wrap (BitVec.ofInt (IntKind.bits .u64) s25.1 &&& BitVec.ofInt (IntKind.bits .u64) (IntKind.u64.wrap (s25.1 - 1))).toNat,x44.1,x44.2))
  else none
 else
 some (.done (s25.2.1,s25.2.2))
def g_order_LeastDegree_b3 (x22:(Int × Int)) (s47:(Int × (List Int))):Option (Step (Int × (List Int)) (List Int)) :=
 if (s47.1 != 0)=true then
  (g_math_bits_TrailingZeros s47.1).bind fun x50 =>
  (lkI s47.2 x50).bind fun a52 =>
  if 0≤x22.1 then
   some (.next (IntKind.u64.wrap (BitVec.ofInt (IntKind.bits .u64) s47.1 &&& BitVec.ofInt (IntKind.bits .u64) (IntKind.u64.wrap (s47.1 - 1))).toNat,(List.set s47.2 (Int.toNat x50) (IntKind.u64.wrap (BitVec.ofInt (IntKind.bits .u64) a52 &&& ~~~ BitVec.ofInt (IntKind.bits .u64) (IntKind.u64.wrap (1*2^min (Int.toNat x22.1) (IntKind.bits .u64)))).toNat))))
  else none
 else
 some (.done s47.2)
def g_order_LeastDegree_b4  (s7:(Int × (List Int) × (List Int))):Option (Step (Int × (List Int) × (List Int)) (Int × (List Int) × (List Int))) :=
 if (s7.1 != 0)=true then
  (whileN fuel (g_order_LeastDegree_b0 s7) (s7.1,-1,0)).bind fun x22 =>
  if (s7.2.2++([x22.1]:(List Int))).length*8≤140737488355328 then
   (lkI s7.2.1 x22.1).bind fun a23 =>
   (whileN fuel (g_order_LeastDegree_b2 a23) (a23,s7.2.1,([]:(List (Int × Int))))).bind fun x46 =>
   if 0≤x22.1 then
    (whileN fuel (g_order_LeastDegree_b3 x22) (IntKind.u64.wrap (BitVec.ofInt (IntKind.bits .u64) s7.1 &&& ~~~ BitVec.ofInt (IntKind.bits .u64) (IntKind.u64.wrap (1*2^min (Int.toNat x22.1) (IntKind.bits .u64)))).toNat,x46.1)).bind fun x56 =>
    (lkI x56 x22.1).bind fun a57 =>
    some (.next (IntKind.u64.wrap (BitVec.ofInt (IntKind.bits .u64) s7.1 &&& ~~~ BitVec.ofInt (IntKind.bits .u64) (IntKind.u64.wrap (1*2^min (Int.toNat x22.1) (IntKind.bits .u64)))).toNat,(List.set x56 (Int.toNat x22.1) 0),(s7.2.2++([x22.1]:(List Int)))))
   else none
  else none
 else
 some (.done (s7.1,s7.2.1,s7.2.2))
def g_order_LeastDegree (p0:(List Int)):Option ((List Int) × Int) :=
 (g_order_Check p0).bind fun x1 =>
 if (x1 != 0)=true then
  some (([]:(List Int)),x1)
 else
 (g_slices_Clone_uint_uint p0).bind fun x5 =>
 if 0≤(p0.length:Int) then
  (whileN fuel (g_order_LeastDegree_b4) (IntKind.u64.wrap ((IntKind.u64.wrap (1*2^min (Int.toNat (p0.length:Int)) (IntKind.bits .u64))) - 1),x5,([]:(List Int)))).bind fun x61 =>
  some (x61.2.2,0)
 else none
def g_order_Low_b0 (s7:(Int × Int × (List Int))) (s10:(Int × Int × Int)):Option (Step (Int × Int × Int) (Int × Int)) :=
 if (s10.1 != 0)=true then
  (g_math_bits_TrailingZeros s10.1).bind fun x13 =>
  (g_order_graph_degree (Torder_graph.mk (Torder_neighbours.mk s7.2.2) s7.2.1) x13).bind fun x15 =>
  if (decide (s10.2.1 < 0))=true then
   some (.next (IntKind.u64.wrap (BitVec.ofInt (IntKind.bits .u64) s10.1 &&& BitVec.ofInt (IntKind.bits .u64) (IntKind.u64.wrap (s10.1 - 1))).toNat,x13,x15))
  else
  if (decide (x15 < s10.2.2))=true then
   some (.next (IntKind.u64.wrap (BitVec.ofInt (IntKind.bits .u64) s10.1 &&& BitVec.ofInt (IntKind.bits .u64) (IntKind.u64.wrap (s10.1 - 1))).toNat,x13,x15))
  else
  some (.next (IntKind.u64.wrap (BitVec.ofInt (IntKind.bits .u64) s10.1 &&& BitVec.ofInt (IntKind.bits .u64) (IntKind.u64.wrap (s10.1 - 1))).toNat,s10.2.1,s10.2.2))
 else
 some (.done (s10.2.1,s10.2.2))
def g_order_Low_b1 (s7:(Int × Int × (List Int))) (s29:(Int × Int × Int)):Option (Step (Int × Int × Int) (Int × Int)) :=
 if (s29.1 != 0)=true then
  (g_math_bits_TrailingZeros s29.1).bind fun x32 =>
  (g_order_graph_degree (Torder_graph.mk (Torder_neighbours.mk s7.2.2) s7.2.1) x32).bind fun x34 =>
  if (decide (s29.2.1 < 0))=true then
   some (.next (IntKind.u64.wrap (BitVec.ofInt (IntKind.bits .u64) s29.1 &&& BitVec.ofInt (IntKind.bits .u64) (IntKind.u64.wrap (s29.1 - 1))).toNat,x32,x34))
  else
  if (decide (x34 < s29.2.2))=true then
   some (.next (IntKind.u64.wrap (BitVec.ofInt (IntKind.bits .u64) s29.1 &&& BitVec.ofInt (IntKind.bits .u64) (IntKind.u64.wrap (s29.1 - 1))).toNat,x32,x34))
  else
  some (.next (IntKind.u64.wrap (BitVec.ofInt (IntKind.bits .u64) s29.1 &&& BitVec.ofInt (IntKind.bits .u64) (IntKind.u64.wrap (s29.1 - 1))).toNat,s29.2.1,s29.2.2))
 else
 some (.done (s29.2.1,s29.2.2))
def g_order_Low_b2 (x41:(Int × Int)) (s42:(Int × (List Int))):Option (Step (Int × (List Int)) (List Int)) :=
 if (s42.1 != 0)=true then
  (g_math_bits_TrailingZeros s42.1).bind fun x45 =>
  (lkI s42.2 x45).bind fun a47 =>
  if 0≤x41.1 then
   (lkI (List.set s42.2 (Int.toNat x45) (IntKind.u64.wrap (BitVec.ofInt (IntKind.bits .u64) a47 ||| BitVec.ofInt (IntKind.bits .u64) (IntKind.u64.wrap (1*2^min (Int.toNat x41.1) (IntKind.bits .u64)))).toNat)) x41.1).bind fun a49 =>
   if 0≤x45 then
    some (.next (IntKind.u64.wrap (BitVec.ofInt (IntKind.bits .u64) s42.1 &&& BitVec.ofInt (IntKind.bits .u64) (IntKind.u64.wrap (s42.1 - 1))).toNat,(List.set (List.set s42.2 (Int.toNat x45) (IntKind.u64.wrap (BitVec.ofInt (IntKind.bits .u64) a47 ||| BitVec.ofInt (IntKind.bits .u64) (IntKind.u64.wrap (1*2^min (Int.toNat x41.1) (IntKind.bits .u64)))).toNat)) (Int.toNat x41.1) (IntKind.u64.wrap (BitVec.ofInt (IntKind.bits .u64) a49 ||| BitVec.ofInt (IntKind.bits .u64) (IntKind.u64.wrap (1*2^min (Int.toNat x45) (IntKind.bits .u64)))).toNat))))
   else none
  else none
 else
 some (.done s42.2)
def g_order_Low_b3 (x22:(Int × Int)) (s55:(Int × (List Int))):Option (Step (Int × (List Int)) (List Int)) :=
 if (s55.1 != 0)=true then
  (g_math_bits_TrailingZeros s55.1).bind fun x58 =>
  (lkI s55.2 x58).bind fun a60 =>
  if 0≤x22.1 then
   some (.next (IntKind.u64.wrap (BitVec.ofInt (IntKind.bits .u64) s55.1 &&& BitVec.ofInt (IntKind.bits .u64) (IntKind.u64.wrap (s55.1 - 1))).toNat,(List.set s55.2 (Int.toNat x58) (IntKind.u64.wrap (BitVec.ofInt (IntKind.bits .u64) a60 &&& ~~~ BitVec.ofInt (IntKind.bits .u64) (IntKind.u64.wrap (1*2^min (Int.toNat x22.1) (IntKind.bits .u64)))).toNat))))
  else none
 else
 some (.done s55.2)
def g_order_Low_b4 (x22:(Int × Int)) (s68:(Int × (List Int))):Option (Step (Int × (List Int)) (List Int)) :=
 if (s68.1 != 0)=true then
  (g_math_bits_TrailingZeros s68.1).bind fun x71 =>
  (lkI s68.2 x71).bind fun a73 =>
  if 0≤x22.1 then
   some (.next (IntKind.u64.wrap (BitVec.ofInt (IntKind.bits .u64) s68.1 &&& BitVec.ofInt (IntKind.bits .u64) (IntKind.u64.wrap (s68.1 - 1))).toNat,(List.set s68.2 (Int.toNat x71) (IntKind.u64.wrap (BitVec.ofInt (IntKind.bits .u64) a73 &&& ~~~ BitVec.ofInt (IntKind.bits .u64) (IntKind.u64.wrap (1*2^min (Int.toNat x22.1) (IntKind.bits .u64)))).toNat))))
  else none
 else
 some (.done s68.2)
def g_order_Low_b5  (s7:(Int × Int × (List Int))):Option (Step (Int × Int × (List Int)) Int) :=
 if (s7.2.1 != 0)=true then
  (whileN fuel (g_order_Low_b0 s7) (s7.2.1,-1,0)).bind fun x22 =>
  (g_order_graph_degree (Torder_graph.mk (Torder_neighbours.mk s7.2.2) s7.2.1) x22.1).bind fun x23 =>
  (lkI s7.2.2 x22.1).bind fun a25 =>
  if (a25 != 0)=true then
   (whileN fuel (g_order_Low_b1 s7) (a25,-1,0)).bind fun x41 =>
   if 0≤x41.1 then
    (whileN fuel (g_order_Low_b2 x41) (IntKind.u64.wrap (BitVec.ofInt (IntKind.bits .u64) a25 &&& ~~~ BitVec.ofInt (IntKind.bits .u64) (IntKind.u64.wrap (1*2^min (Int.toNat x41.1) (IntKind.bits .u64)))).toNat,s7.2.2)).bind fun x54 =>
    if 0≤x22.1 then
     (whileN fuel (g_order_Low_b3 x22) (IntKind.u64.wrap (BitVec.ofInt (IntKind.bits .u64) s7.2.1 &&& ~~~ BitVec.ofInt (IntKind.bits .u64) (IntKind.u64.wrap (1*2^min (Int.toNat x22.1) (IntKind.bits .u64)))).toNat,x54)).bind fun x64 =>
     (lkI x64 x22.1).bind fun a65 =>
     some (.next ((if x23 > s7.1 then x23 else s7.1),IntKind.u64.wrap (BitVec.ofInt (IntKind.bits .u64) s7.2.1 &&& ~~~ BitVec.ofInt (IntKind.bits .u64) (IntKind.u64.wrap (1*2^min (Int.toNat x22.1) (IntKind.bits .u64)))).toNat,(List.set x64 (Int.toNat x22.1) 0)))
    else none
   else none
  else
  if 0≤x22.1 then
   (whileN fuel (g_order_Low_b4 x22) (IntKind.u64.wrap (BitVec.ofInt (IntKind.bits .u64) s7.2.1 &&& ~~~ BitVec.ofInt (IntKind.bits .u64) (IntKind.u64.wrap (1*2^min (Int.toNat x22.1) (IntKind.bits .u64)))).toNat,s7.2.2)).bind fun x77 =>
   (lkI x77 x22.1).bind fun a78 =>
   some (.next ((if x23 > s7.1 then x23 else s7.1),IntKind.u64.wrap (BitVec.ofInt (IntKind.bits .u64) s7.2.1 &&& ~~~ BitVec.ofInt (IntKind.bits .u64) (IntKind.u64.wrap (1*2^min (Int.toNat x22.1) (IntKind.bits .u64)))).toNat,(List.set x77 (Int.toNat x22.1) 0)))
  else none
 else
 some (.done s7.1)
def g_order_Low (p0:(List Int)):Option (Int × Int) :=
 (g_order_Check p0).bind fun x1 =>
 if (x1 != 0)=true then
  some (0,x1)
 else
 (g_slices_Clone_uint_uint p0).bind fun x5 =>
 if 0≤(p0.length:Int) then
  (whileN fuel (g_order_Low_b5) (0,IntKind.u64.wrap ((IntKind.u64.wrap (1*2^min (Int.toNat (p0.length:Int)) (IntKind.bits .u64))) - 1),x5)).bind fun x82 =>
  some (x82,0)
 else none
def g_order_Chordal_b0 (s7:(Int × (List Int) × (List Int))) (s10:(Int × Int × Int)):Option (Step (Int × Int × Int) (Int × Int)) :=
 if (s10.1 != 0)=true then
  (g_math_bits_TrailingZeros s10.1).bind fun x13 =>
  (g_order_graph_lacking (Torder_graph.mk (Torder_neighbours.mk s7.2.1) s7.1) x13).bind fun x15 =>
  if (decide (s10.2.1 < 0))=true then
   some (.next (IntKind.u64.wrap (BitVec.ofInt (IntKind.bits .u64) s10.1 &&& BitVec.ofInt (IntKind.bits .u64) (IntKind.u64.wrap (s10.1 - 1))).toNat,x13,x15))
  else
  if (decide (x15 < s10.2.2))=true then
   some (.next (IntKind.u64.wrap (BitVec.ofInt (IntKind.bits .u64) s10.1 &&& BitVec.ofInt (IntKind.bits .u64) (IntKind.u64.wrap (s10.1 - 1))).toNat,x13,x15))
  else
  some (.next (IntKind.u64.wrap (BitVec.ofInt (IntKind.bits .u64) s10.1 &&& BitVec.ofInt (IntKind.bits .u64) (IntKind.u64.wrap (s10.1 - 1))).toNat,s10.2.1,s10.2.2))
 else
 some (.done (s10.2.1,s10.2.2))
def g_order_Chordal_b1 (x28:Int) (s32:(Int × (List Int) × (List (Int × Int)))):Option (Step (Int × (List Int) × (List (Int × Int))) ((List Int) × (List (Int × Int)))) :=
 if (s32.1 != 0)=true then
  (g_math_bits_TrailingZeros s32.1).bind fun x35 =>
  if (s32.2.2++([(x28,x35)]:(List (Int × Int)))).length*16≤140737488355328 then
   (lkI s32.2.1 x28).bind fun a37 =>
   if 0≤x35 then
    (lkI (List.set s32.2.1 (Int.toNat x28) (IntKind.u64.wrap (BitVec.ofInt (IntKind.bits .u64) a37 ||| BitVec.ofInt (IntKind.bits .u64) (IntKind.u64.wrap (1*2^min (Int.toNat x35) (IntKind.bits .u64)))).toNat)) x35).bind fun a39 =>
    if 0≤x28 then
     some (.next (IntKind.u64.wrap (BitVec.ofInt (IntKind.bits .u64) s32.1 &&& BitVec.ofInt (IntKind.bits .u64) (IntKind.u64.wrap (s32.1 - 1))).toNat,(List.set (List.set s32.2.1 (Int.toNat x28) (IntKind.u64.wrap (BitVec.ofInt (IntKind.bits .u64) a37 ||| BitVec.ofInt (IntKind.bits .u64) (IntKind.u64.wrap (1*2^min (Int.toNat x35) (IntKind.bits .u64)))).toNat)) (Int.toNat x35) (IntKind.u64.wrap (BitVec.ofInt (IntKind.bits .u64) a39 ||| BitVec.ofInt (IntKind.bits .u64) (IntKind.u64.wrap (1*2^min (Int.toNat x28) (IntKind.bits .u64)))).toNat)),(s32.2.2++([(x28,x35)]:(List (Int × Int))))))
    else none
   else none
  else none
 else
 some (.done (s32.2.1,s32.2.2))
def g_order_Chordal_b2 (a23:Int) (s25:(Int × (List Int) × (List (Int × Int)))):Option (Step (Int × (List Int) × (List (Int × Int))) ((List Int) × (List (Int × Int)))) :=
 if (s25.1 != 0)=true then
  (g_math_bits_TrailingZeros s25.1).bind fun x28 =>
  (lkI s25.2.1 x28).bind fun a30 =>
  if 0≤(IntKind.i64.wrap (x28+1)) then
   (whileN fuel (g_order_Chordal_b1 x28) (IntKind.u64.wrap (BitVec.ofInt (IntKind.bits .u64) (IntKind.u64.wrap (BitVec.ofInt (IntKind.bits .u64) a23 &&& ~~~ BitVec.ofInt (IntKind.bits .u64) a30).toNat) &&& ~~~ BitVec.ofInt (IntKind.bits .u64) (IntKind.u64.wrap ((IntKind.u64.wrap (1*2^min (Int.toNat (IntKind.i64.wrap (x28+1))) (IntKind.bits .u64))) - 1))).toNat,s25.2.1,s25.2.2)).bind fun x44 =>
   some (.next (IntKind.u64.wrap (BitVec.ofInt (IntKind.bits .u64) s25.1 &&& BitVec.ofInt (IntKind.bits .u64) (IntKind.u64.wrap (s25.1 - 1))).toNat,x44.1,x44.2))
  else none
 else
 some (.done (s25.2.1,s25.2.2))
def g_order_Chordal_b3 (x22:(Int × Int)) (s47:(Int × (List Int))):Option (Step (Int × (List Int)) (List Int)) :=
 if (s47.1 != 0)=true then
  (g_math_bits_TrailingZeros s47.1).bind fun x50 =>
  (lkI s47.2 x50).bind fun a52 =>
  if 0≤x22.1 then
   some (.next (IntKind.u64.wrap (BitVec.ofInt (IntKind.bits .u64) s47.1 &&& BitVec.ofInt (IntKind.bits .u64) (IntKind.u64.wrap (s47.1 - 1))).toNat,(List.set s47.2 (Int.toNat x50) (IntKind.u64.wrap (BitVec.ofInt (IntKind.bits .u64) a52 &&& ~~~ BitVec.ofInt (IntKind.bits .u64) (IntKind.u64.wrap (1*2^min (Int.toNat x22.1) (IntKind.bits .u64)))).toNat))))
  else none
 else
 some (.done s47.2)
def g_order_Chordal_b4  (s7:(Int × (List Int) × (List Int))):Option (Step (Int × (List Int) × (List Int)) (Int × (List Int) × (List Int))) :=
 if (s7.1 != 0)=true then
  (whileN fuel (g_order_Chordal_b0 s7) (s7.1,-1,0)).bind fun x22 =>
  if (s7.2.2++([x22.1]:(List Int))).length*8≤140737488355328 then
   (lkI s7.2.1 x22.1).bind fun a23 =>
   (whileN fuel (g_order_Chordal_b2 a23) (a23,s7.2.1,([]:(List (Int × Int))))).bind fun x46 =>
   if 0≤x22.1 then
    (whileN fuel (g_order_Chordal_b3 x22) (IntKind.u64.wrap (BitVec.ofInt (IntKind.bits .u64) s7.1 &&& ~~~ BitVec.ofInt (IntKind.bits .u64) (IntKind.u64.wrap (1*2^min (Int.toNat x22.1) (IntKind.bits .u64)))).toNat,x46.1)).bind fun x56 =>
    (lkI x56 x22.1).bind fun a57 =>
    some (.next (IntKind.u64.wrap (BitVec.ofInt (IntKind.bits .u64) s7.1 &&& ~~~ BitVec.ofInt (IntKind.bits .u64) (IntKind.u64.wrap (1*2^min (Int.toNat x22.1) (IntKind.bits .u64)))).toNat,(List.set x56 (Int.toNat x22.1) 0),(s7.2.2++([x22.1]:(List Int)))))
   else none
  else none
 else
 some (.done (s7.1,s7.2.1,s7.2.2))
def g_order_Chordal (p0:(List Int)):Option (Bool × Int) :=
 (g_order_Check p0).bind fun x1 =>
 if (x1 != 0)=true then
  some (false,x1)
 else
 (g_slices_Clone_uint_uint p0).bind fun x5 =>
 if 0≤(p0.length:Int) then
  (whileN fuel (g_order_Chordal_b4) (IntKind.u64.wrap ((IntKind.u64.wrap (1*2^min (Int.toNat (p0.length:Int)) (IntKind.bits .u64))) - 1),x5,([]:(List Int)))).bind fun x61 =>
  (g_order_run p0 x61.2.2).bind fun x62 =>
  some (((x62.1.length:Int)==0),0)
 else none
def g_order_late_b0 (p2:Int) (p0:(List Int)) (s3:(Int × Int × Int)):Option (Step (Int × Int × Int) Int) :=
 if (s3.2.2 != 0)=true then
  (g_math_bits_TrailingZeros s3.2.2).bind fun x6 =>
  if 0≤x6 then
   if 0≤x6 then
    if ((IntKind.u64.wrap (BitVec.ofInt (IntKind.bits .u64) (Int.fdiv p2 (2^min (Int.toNat x6) (IntKind.bits .u64))) &&& BitVec.ofInt (IntKind.bits .u64) 1).toNat)==0)=true then
     if 0≤x6 then
      some (.next (IntKind.u64.wrap (BitVec.ofInt (IntKind.bits .u64) s3.1 ||| BitVec.ofInt (IntKind.bits .u64) (IntKind.u64.wrap (1*2^min (Int.toNat x6) (IntKind.bits .u64)))).toNat,IntKind.u64.wrap (BitVec.ofInt (IntKind.bits .u64) s3.2.1 ||| BitVec.ofInt (IntKind.bits .u64) (IntKind.u64.wrap (1*2^min (Int.toNat x6) (IntKind.bits .u64)))).toNat,IntKind.u64.wrap (BitVec.ofInt (IntKind.bits .u64) s3.2.2 &&& BitVec.ofInt (IntKind.bits .u64) (IntKind.u64.wrap (s3.2.2 - 1))).toNat))
     else none
    else
    (lkI p0 x6).bind fun a10 =>
    some (.next (IntKind.u64.wrap (BitVec.ofInt (IntKind.bits .u64) s3.1 ||| BitVec.ofInt (IntKind.bits .u64) (IntKind.u64.wrap (1*2^min (Int.toNat x6) (IntKind.bits .u64)))).toNat,s3.2.1,IntKind.u64.wrap (BitVec.ofInt (IntKind.bits .u64) (IntKind.u64.wrap (BitVec.ofInt (IntKind.bits .u64) s3.2.2 &&& BitVec.ofInt (IntKind.bits .u64) (IntKind.u64.wrap (s3.2.2 - 1))).toNat) ||| BitVec.ofInt (IntKind.bits .u64) (IntKind.u64.wrap (BitVec.ofInt (IntKind.bits .u64) a10 &&& ~~~ BitVec.ofInt (IntKind.bits .u64) (IntKind.u64.wrap (BitVec.ofInt (IntKind.bits .u64) s3.1 ||| BitVec.ofInt (IntKind.bits .u64) (IntKind.u64.wrap (1*2^min (Int.toNat x6) (IntKind.bits .u64)))).toNat)).toNat)).toNat))
   else none
  else none
 else
 some (.done s3.2.1)
def g_order_late (p0:(List Int)) (p1:Int) (p2:Int):Option Int :=
 if 0≤p1 then
  (lkI p0 p1).bind fun a1 =>
  (whileN fuel (g_order_late_b0 p2 p0) (IntKind.u64.wrap (1*2^min (Int.toNat p1) (IntKind.bits .u64)),0,a1)).bind fun x13 =>
  (g_math_bits_OnesCount x13).bind fun x14 =>
  some x14
 else none
def g_order_Best_b0 (p0:(List Int)) (s5:(Int × (List (Int × Int)))) (r6:((Int × (List (Int × Int)))→Option (Int × (List (Int × Int))))) (s10:(Int × (List (Int × Int)) × Int)):Option (Step (Int × (List (Int × Int)) × Int) ((List (Int × Int)) × Int)) :=
 if (s10.1 != 0)=true then
  (g_math_bits_TrailingZeros s10.1).bind fun x13 =>
  (g_order_late p0 x13 (IntKind.u64.wrap (BitVec.ofInt (IntKind.bits .u64) (IntKind.u64.wrap ((IntKind.u64.wrap (1*2^min (Int.toNat (p0.length:Int)) (IntKind.bits .u64))) - 1)) &&& ~~~ BitVec.ofInt (IntKind.bits .u64) s5.1).toNat)).bind fun x15 =>
  if 0≤x13 then
   (r6 (IntKind.u64.wrap (BitVec.ofInt (IntKind.bits .u64) s5.1 &&& ~~~ BitVec.ofInt (IntKind.bits .u64) (IntKind.u64.wrap (1*2^min (Int.toNat x13) (IntKind.bits .u64)))).toNat,s10.2.1)).bind fun x17 =>
   some (.next (IntKind.u64.wrap (BitVec.ofInt (IntKind.bits .u64) s10.1 &&& BitVec.ofInt (IntKind.bits .u64) (IntKind.u64.wrap (s10.1 - 1))).toNat,x17.2,(if (if x17.1 > x15 then x17.1 else x15) < s10.2.2 then (if x17.1 > x15 then x17.1 else x15) else s10.2.2)))
  else none
 else
 some (.done (s10.2.1,s10.2.2))
def g_order_Best_r1 (p0:(List Int)) (r6:((Int × (List (Int × Int)))→Option (Int × (List (Int × Int))))) (s5:(Int × (List (Int × Int)))):Option (Int × (List (Int × Int))) :=
 if (mget s5.2 s5.1).isSome=true then
  some ((mget s5.2 s5.1).getD 0,s5.2)
 else
 (whileN fuel (g_order_Best_b0 p0 s5 r6) (s5.1,s5.2,(p0.length:Int))).bind fun x19 =>
 some (x19.2,mput x19.1 s5.1 x19.2)
def g_order_Best_b2 (p0:(List Int)) (s34:(Int × (List (Int × Int)))) (r35:((Int × (List (Int × Int)))→Option (Int × (List (Int × Int))))) (s39:(Int × (List (Int × Int)) × Int)):Option (Step (Int × (List (Int × Int)) × Int) ((List (Int × Int)) × Int)) :=
 if (s39.1 != 0)=true then
  (g_math_bits_TrailingZeros s39.1).bind fun x42 =>
  (g_order_late p0 x42 (IntKind.u64.wrap (BitVec.ofInt (IntKind.bits .u64) (IntKind.u64.wrap ((IntKind.u64.wrap (1*2^min (Int.toNat (p0.length:Int)) (IntKind.bits .u64))) - 1)) &&& ~~~ BitVec.ofInt (IntKind.bits .u64) s34.1).toNat)).bind fun x44 =>
  if 0≤x42 then
   (r35 (IntKind.u64.wrap (BitVec.ofInt (IntKind.bits .u64) s34.1 &&& ~~~ BitVec.ofInt (IntKind.bits .u64) (IntKind.u64.wrap (1*2^min (Int.toNat x42) (IntKind.bits .u64)))).toNat,s39.2.1)).bind fun x46 =>
   some (.next (IntKind.u64.wrap (BitVec.ofInt (IntKind.bits .u64) s39.1 &&& BitVec.ofInt (IntKind.bits .u64) (IntKind.u64.wrap (s39.1 - 1))).toNat,x46.2,(if (if x46.1 > x44 then x46.1 else x44) < s39.2.2 then (if x46.1 > x44 then x46.1 else x44) else s39.2.2)))
  else none
 else
 some (.done (s39.2.1,s39.2.2))
def g_order_Best_r3 (p0:(List Int)) (r35:((Int × (List (Int × Int)))→Option (Int × (List (Int × Int))))) (s34:(Int × (List (Int × Int)))):Option (Int × (List (Int × Int))) :=
 if (mget s34.2 s34.1).isSome=true then
  some ((mget s34.2 s34.1).getD 0,s34.2)
 else
 (whileN fuel (g_order_Best_b2 p0 s34 r35) (s34.1,s34.2,(p0.length:Int))).bind fun x48 =>
 some (x48.2,mput x48.1 s34.1 x48.2)
def g_order_Best_b4 (p0:(List Int)) (s22:(Int × (List Int) × (List (Int × Int)))) (x20:(Int × (List (Int × Int)))) (s25:(Int × (List (Int × Int)))):Option (Step (Int × (List (Int × Int))) ((Int × (List (Int × Int)) × (List Int)) ⊕ (List (Int × Int)))) :=
 if (s25.1 != 0)=true then
  (g_math_bits_TrailingZeros s25.1).bind fun x28 =>
  (g_order_late p0 x28 (IntKind.u64.wrap (BitVec.ofInt (IntKind.bits .u64) (IntKind.u64.wrap ((IntKind.u64.wrap (1*2^min (Int.toNat (p0.length:Int)) (IntKind.bits .u64))) - 1)) &&& ~~~ BitVec.ofInt (IntKind.bits .u64) s22.1).toNat)).bind fun x30 =>
  if (decide (x30≤x20.1))=true then
   if 0≤x28 then
    (recN (g_order_Best_r3 p0) fuel (IntKind.u64.wrap (BitVec.ofInt (IntKind.bits .u64) s22.1 &&& ~~~ BitVec.ofInt (IntKind.bits .u64) (IntKind.u64.wrap (1*2^min (Int.toNat x28) (IntKind.bits .u64)))).toNat,s25.2)).bind fun x49 =>
    if (decide (x49.1≤x20.1))=true then
     if (s22.2.1++([x28]:(List Int))).length*8≤140737488355328 then
      if 0≤x28 then
       some (.done (Sum.inl (IntKind.u64.wrap (BitVec.ofInt (IntKind.bits .u64) s22.1 &&& ~~~ BitVec.ofInt (IntKind.bits .u64) (IntKind.u64.wrap (1*2^min (Int.toNat x28) (IntKind.bits .u64)))).toNat,x49.2,(s22.2.1++([x28]:(List Int))))))
      else none
     else none
    else
    some (.next (IntKind.u64.wrap (BitVec.ofInt (IntKind.bits .u64) s25.1 &&& BitVec.ofInt (IntKind.bits .u64) (IntKind.u64.wrap (s25.1 - 1))).toNat,x49.2))
   else none
  else
  some (.next (IntKind.u64.wrap (BitVec.ofInt (IntKind.bits .u64) s25.1 &&& BitVec.ofInt (IntKind.bits .u64) (IntKind.u64.wrap (s25.1 - 1))).toNat,s25.2))
 else
 some (.done (Sum.inr s25.2))
def g_order_Best_b5 (p0:(List Int)) (x20:(Int × (List (Int × Int)))) (s22:(Int × (List Int) × (List (Int × Int)))):Option (Step (Int × (List Int) × (List (Int × Int))) (List Int)) :=
 if (s22.1 != 0)=true then
  (whileN fuel (g_order_Best_b4 p0 s22 x20) (s22.1,s22.2.2)).bind fun x53=>match x53 with
  | .inl x54=>(
   some (.next (x54.1,x54.2.2,x54.2.1)))
  | .inr x55=>(
   some (.done s22.2.1))
 else
 some (.done s22.2.1)
def g_order_Best (p0:(List Int)):Option ((List Int) × Int × Int) :=
 (g_order_Check p0).bind fun x1 =>
 if (x1 != 0)=true then
  some (([]:(List Int)),0,x1)
 else
 if 0≤(p0.length:Int) then
  (recN (g_order_Best_r1 p0) fuel (IntKind.u64.wrap ((IntKind.u64.wrap (1*2^min (Int.toNat (p0.length:Int)) (IntKind.bits .u64))) - 1),mput [] (0:Int) (0:Int))).bind fun x20 =>
  (whileN fuel (g_order_Best_b5 p0 x20) (IntKind.u64.wrap ((IntKind.u64.wrap (1*2^min (Int.toNat (p0.length:Int)) (IntKind.bits .u64))) - 1),([]:(List Int)),x20.2)).bind fun x57 =>
  some (x57,x20.1,0)
 else none
def g_slices_Equal_int_int_b0 (p0:(List Int)) (p1:(List Int)) (s3:Int):Option (Step Int (Unit ⊕ Unit)) :=
 if (decide (s3 < (p0.length:Int)))=true then
  (lkI p0 s3).bind fun a6 =>
  (lkI p1 s3).bind fun a8 =>
  if (a6 != a8)=true then
   some (.done (Sum.inl ()))
  else
  some (.next (IntKind.i64.wrap (s3+1)))
 else
 some (.done (Sum.inr ()))
def g_slices_Equal_int_int (p0:(List Int)) (p1:(List Int)):Option Bool :=
 if ((p0.length:Int) != (p1.length:Int))=true then
  some false
 else
 (whileN fuel (g_slices_Equal_int_int_b0 p0 p1) 0).bind fun x12=>match x12 with
 | .inl x13=>(
  some false)
 | .inr x14=>(
  some true)
def g_law08_best (p0:(List Int)) (p1:Int) (p2:(List Int)):Option Bool :=
 (g_order_Best p0).bind fun x1 =>
 if (x1.2.1==p1)=true then
  if (x1.2.2==0)=true then
   (g_slices_Equal_int_int x1.1 p2).bind fun x7 =>
   some x7
  else
  some false
 else
 some false
def g_slices_Equal_2_int_2_int_b0 (p0:(List (Int × Int))) (p1:(List (Int × Int))) (s3:Int):Option (Step Int (Unit ⊕ Unit)) :=
 if (decide (s3 < (p0.length:Int)))=true then
  (lkI p0 s3).bind fun a6 =>
  (lkI p1 s3).bind fun a8 =>
  if (!((a6.1==a8.1) && ((a6.2==a8.2) && true)))=true then
   some (.done (Sum.inl ()))
  else
  some (.next (IntKind.i64.wrap (s3+1)))
 else
 some (.done (Sum.inr ()))
def g_slices_Equal_2_int_2_int (p0:(List (Int × Int))) (p1:(List (Int × Int))):Option Bool :=
 if ((p0.length:Int) != (p1.length:Int))=true then
  some false
 else
 (whileN fuel (g_slices_Equal_2_int_2_int_b0 p0 p1) 0).bind fun x12=>match x12 with
 | .inl x13=>(
  some false)
 | .inr x14=>(
  some true)
def g_law08_works  : Option Bool :=
 (g_order_Width [10,5,10,5] [0,1,2]).bind fun x1 =>
 (g_order_Width [10,5,10,5] [0,1,2,2]).bind fun x3 =>
 (g_order_Fill [10,5,10,5] [0,1,2,3]).bind fun x5 =>
 if (x5.2==0)=true then
  (g_slices_Equal_2_int_2_int x5.1 [(1,3)]).bind fun x9 =>
  if x9=true then
   (g_order_Fill [10,5,10,5] [0,2,1,3]).bind fun x13 =>
   if (x13.2==0)=true then
    (g_slices_Equal_2_int_2_int x13.1 [(1,3)]).bind fun x17 =>
    if x17=true then
     (g_order_Fill [2,5,2] [1,0,2]).bind fun x21 =>
     if (x21.2==0)=true then
      (g_slices_Equal_2_int_2_int x21.1 [(0,2)]).bind fun x25 =>
      if x25=true then
       (g_order_Fill [2,5,2] [0,1,2]).bind fun x29 =>
       if (x29.2==0)=true then
        (g_slices_Equal_2_int_2_int x29.1 []).bind fun x33 =>
        if x33=true then
         (g_order_Width [10,5,10,5] [0,1,2,3]).bind fun x37 =>
         if (x37.1==2)=true then
          if (x37.2==0)=true then
           (g_order_Width [2,5,2] [1,0,2]).bind fun x43 =>
           if (x43.1==2)=true then
            if (x43.2==0)=true then
             (g_order_Width [2,5,2] [2,1,0]).bind fun x49 =>
             if (x49.1==1)=true then
              if (x49.2==0)=true then
               (g_order_Width [14,13,11,7] [3,2,1,0]).bind fun x55 =>
               if (x55.1==3)=true then
                if (x55.2==0)=true then
                 (g_order_LeastFill [10,5,10,5]).bind fun x61 =>
                 if (x61.2==0)=true then
                  (g_slices_Equal_int_int x61.1 [0,1,2,3]).bind fun x65 =>
                  if x65=true then
                   (g_order_LeastFill [2,5,2]).bind fun x69 =>
                   if (x69.2==0)=true then
                    (g_slices_Equal_int_int x69.1 [0,1,2]).bind fun x73 =>
                    if x73=true then
                     (g_order_LeastDegree [2,5,2]).bind fun x77 =>
                     if (x77.2==0)=true then
                      (g_slices_Equal_int_int x77.1 [0,1,2]).bind fun x81 =>
                      if x81=true then
                       (g_law08_best [10,5,10,5] 2 [0,1,2,3]).bind fun x85 =>
                       if x85=true then
                        (g_law08_best [2,5,2] 1 [0,1,2]).bind fun x89 =>
                        if x89=true then
                         (g_law08_best [14,13,11,7] 3 [0,1,2,3]).bind fun x93 =>
                         if x93=true then
                          (g_order_Low [10,5,10,5]).bind fun x97 =>
                          if (x97.1==2)=true then
                           if (x97.2==0)=true then
                            (g_order_Low [2,5,2]).bind fun x103 =>
                            if (x103.1==1)=true then
                             if (x103.2==0)=true then
                              (g_order_Low [14,13,11,7]).bind fun x109 =>
                              if (x109.1==3)=true then
                               if (x109.2==0)=true then
                                (g_order_Chordal [10,5,10,5]).bind fun x115 =>
                                if (x115.1==false)=true then
                                 if (x115.2==0)=true then
                                  (g_order_Chordal [2,5,2]).bind fun x121 =>
                                  if (x121.1==true)=true then
                                   if (x121.2==0)=true then
                                    if (x1.2==81)=true then
                                     if (x3.2==81)=true then
                                      (g_order_Check [2,0]).bind fun x131 =>
                                      if (x131==80)=true then
                                       (g_order_Check [1]).bind fun x135 =>
                                       if (x135==80)=true then
                                        (g_order_Check []).bind fun x139 =>
                                        some (x139==80)
                                       else
                                       some false
                                      else
                                      some false
                                     else
                                     some false
                                    else
                                    some false
                                   else
                                   some false
                                  else
                                  some false
                                 else
                                 some false
                                else
                                some false
                               else
                               some false
                              else
                              some false
                             else
                             some false
                            else
                            some false
                           else
                           some false
                          else
                          some false
                         else
                         some false
                        else
                        some false
                       else
                       some false
                      else
                      some false
                     else
                     some false
                    else
                    some false
                   else
                   some false
                  else
                  some false
                 else
                 some false
                else
                some false
               else
               some false
              else
              some false
             else
             some false
            else
            some false
           else
           some false
          else
          some false
         else
         some false
        else
        some false
       else
       some false
      else
      some false
     else
     some false
    else
    some false
   else
   some false
  else
  some false
 else
 some false
def g_slices_Clone_int_int_c (c0:Int) (d0:(List Int)):Option (List Int) :=
 if (c0::d0).length*8≤140737488355328 then
  some (c0::d0)
 else none
def g_slices_Clone_int_int_e  : Option (List Int) :=
 some ([]:(List Int))
def g_slices_Clone_int_int_n  : Option (List Int) :=
 some ([]:(List Int))
def g_slices_Clone_int_int (p0:(List Int)):Option (List Int) :=
 match p0 with
 | []=>(g_slices_Clone_int_int_n).bind fun x=>(g_slices_Clone_int_int_e).bind fun y=>if x=y then some x else none
 | c0::d0=>g_slices_Clone_int_int_c c0 d0
def g_law08_OrderKnown_b0  (s5:(Int × (List Int) × (List Int))):Option (Step (Int × (List Int) × (List Int)) ((List Int) × (List Int))) :=
 if (decide (s5.1 < 10))=true then
  if 0≤s5.1 then
   (lkI s5.2.1 s5.1).bind fun a8 =>
   if 0≤(Int.tmod (IntKind.i64.wrap (s5.1+1)) 10) then
    if 0≤(Int.tmod (IntKind.i64.wrap (s5.1+9)) 10) then
     (lkI s5.2.2 s5.1).bind fun a10 =>
     some (.next (IntKind.i64.wrap (s5.1+1),(List.set s5.2.1 (Int.toNat s5.1) (IntKind.u64.wrap (1023 - (IntKind.u64.wrap (1*2^min (Int.toNat s5.1) (IntKind.bits .u64)))))),(List.set s5.2.2 (Int.toNat s5.1) (IntKind.u64.wrap (BitVec.ofInt (IntKind.bits .u64) (IntKind.u64.wrap (1*2^min (Int.toNat (Int.tmod (IntKind.i64.wrap (s5.1+1)) 10)) (IntKind.bits .u64))) ||| BitVec.ofInt (IntKind.bits .u64) (IntKind.u64.wrap (1*2^min (Int.toNat (Int.tmod (IntKind.i64.wrap (s5.1+9)) 10)) (IntKind.bits .u64)))).toNat))))
    else none
   else none
  else none
 else
 some (.done (s5.2.1,s5.2.2))
def g_law08_OrderKnown  : Option Bool :=
 (g_law08_works).bind fun x1 =>
 if (!x1)=true then
  some false
 else
 if 0≤(10:Int)∧(10:Int)≤(10:Int)∧(10:Int)*8≤140737488355328 then
  if 0≤(10:Int)∧(10:Int)≤(10:Int)∧(10:Int)*8≤140737488355328 then
   if 0≤(10:Int)∧(10:Int)≤(10:Int)∧(10:Int)*8≤140737488355328 then
    (whileN fuel (g_law08_OrderKnown_b0) (0,(List.replicate (Int.toNat 10) (0:Int)),(List.replicate (Int.toNat 10) (0:Int)))).bind fun x15 =>
    (g_order_Fill [1] [5]).bind fun x16 =>
    (g_order_Fill x15.2 [0]).bind fun x18 =>
    (g_slices_Clone_int_int [0,1,2,3,4,5,6,7,8,9]).bind fun x20 =>
    if (x20++([0]:(List Int))).length*8≤140737488355328 then
     (g_order_Width x15.2 (x20++([0]:(List Int)))).bind fun x22 =>
     if 0≤(11:Int)∧(11:Int)≤(11:Int)∧(11:Int)*8≤140737488355328 then
      (g_order_Best (List.replicate (Int.toNat 11) (0:Int))).bind fun x24 =>
      (g_order_Width [0] [-1]).bind fun x26 =>
      (g_order_Fill x15.2 [0,1,2,3,4,5,6,7,8,9]).bind fun x28 =>
      if (x16.2==80)=true then
       if (x18.2==81)=true then
        if (x22.2==81)=true then
         if (x24.2.2==80)=true then
          if (x26.2==81)=true then
           if (x28.2==0)=true then
            if ((x28.1.length:Int)==7)=true then
             (g_order_Check (List.replicate (Int.toNat 10) (0:Int))).bind fun x44 =>
             if (x44==0)=true then
              (g_order_Check [2,5]).bind fun x48 =>
              if (x48==80)=true then
               (g_order_Check [9223372036854775808]).bind fun x52 =>
               if (x52==80)=true then
                (g_law08_best (List.replicate (Int.toNat 10) (0:Int)) 0 [0,1,2,3,4,5,6,7,8,9]).bind fun x56 =>
                if x56=true then
                 (g_law08_best x15.1 9 [0,1,2,3,4,5,6,7,8,9]).bind fun x60 =>
                 if x60=true then
                  (g_law08_best x15.2 2 [0,1,2,3,4,5,6,7,8,9]).bind fun x64 =>
                  if x64=true then
                   (g_law08_best [0] 0 [0]).bind fun x68 =>
                   if x68=true then
                    (g_order_Low x15.1).bind fun x72 =>
                    if (x72.1==9)=true then
                     if (x72.2==0)=true then
                      (g_order_Low x15.2).bind fun x78 =>
                      if (x78.1==2)=true then
                       if (x78.2==0)=true then
                        (g_order_Low (List.replicate (Int.toNat 10) (0:Int))).bind fun x84 =>
                        if (x84.1==0)=true then
                         if (x84.2==0)=true then
                          (g_order_Chordal x15.1).bind fun x90 =>
                          if (x90.1==true)=true then
                           if (x90.2==0)=true then
                            (g_order_Chordal x15.2).bind fun x96 =>
                            if (x96.1==false)=true then
                             if (x96.2==0)=true then
                              (g_order_Chordal [0]).bind fun x102 =>
                              if (x102.1==true)=true then
                               (g_law08_works).bind fun x106 =>
                               if x106=true then
                                some (x102.2==0)
                               else
                               some false
                              else
                              (g_law08_works).bind fun x110 =>
                              if x110=true then
                               some false
                              else
                              some false
                             else
                             (g_law08_works).bind fun x114 =>
                             if x114=true then
                              some false
                             else
                             some false
                            else
                            (g_law08_works).bind fun x118 =>
                            if x118=true then
                             some false
                            else
                            some false
                           else
                           (g_law08_works).bind fun x122 =>
                           if x122=true then
                            some false
                           else
                           some false
                          else
                          (g_law08_works).bind fun x126 =>
                          if x126=true then
                           some false
                          else
                          some false
                         else
                         (g_law08_works).bind fun x130 =>
                         if x130=true then
                          some false
                         else
                         some false
                        else
                        (g_law08_works).bind fun x134 =>
                        if x134=true then
                         some false
                        else
                        some false
                       else
                       (g_law08_works).bind fun x138 =>
                       if x138=true then
                        some false
                       else
                       some false
                      else
                      (g_law08_works).bind fun x142 =>
                      if x142=true then
                       some false
                      else
                      some false
                     else
                     (g_law08_works).bind fun x146 =>
                     if x146=true then
                      some false
                     else
                     some false
                    else
                    (g_law08_works).bind fun x150 =>
                    if x150=true then
                     some false
                    else
                    some false
                   else
                   (g_law08_works).bind fun x154 =>
                   if x154=true then
                    some false
                   else
                   some false
                  else
                  (g_law08_works).bind fun x158 =>
                  if x158=true then
                   some false
                  else
                  some false
                 else
                 (g_law08_works).bind fun x162 =>
                 if x162=true then
                  some false
                 else
                 some false
                else
                (g_law08_works).bind fun x166 =>
                if x166=true then
                 some false
                else
                some false
               else
               (g_law08_works).bind fun x170 =>
               if x170=true then
                some false
               else
               some false
              else
              (g_law08_works).bind fun x174 =>
              if x174=true then
               some false
              else
              some false
             else
             (g_law08_works).bind fun x178 =>
             if x178=true then
              some false
             else
             some false
            else
            (g_law08_works).bind fun x182 =>
            if x182=true then
             some false
            else
            some false
           else
           (g_law08_works).bind fun x186 =>
           if x186=true then
            some false
           else
           some false
          else
          (g_law08_works).bind fun x190 =>
          if x190=true then
           some false
          else
          some false
         else
         (g_law08_works).bind fun x194 =>
         if x194=true then
          some false
         else
         some false
        else
        (g_law08_works).bind fun x198 =>
        if x198=true then
         some false
        else
        some false
       else
       (g_law08_works).bind fun x202 =>
       if x202=true then
        some false
       else
       some false
      else
      (g_law08_works).bind fun x206 =>
      if x206=true then
       some false
      else
      some false
     else none
    else none
   else none
  else none
 else none
end Go.Ab
