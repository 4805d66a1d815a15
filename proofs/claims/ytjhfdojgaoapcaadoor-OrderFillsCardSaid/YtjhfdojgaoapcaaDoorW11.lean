/- What functions compute. No conditions. -/
import Derived.Test.YtjhfdojgaoapcaaDoorProg
import Derived.Shelf.SlSortCmp.NoneTotal
import Derived.Test.YtjhfdojgaoapcaaDoorW10
import Derived.KernelRfl
set_option linter.all false
namespace Go.Proofs
open Go.Shelf
def sort08_ren:Go.Shelf.Ren:=⟨fun | 6=>49 | 15=>81 | 14=>80 | 28=>96 | 29=>97 | 20=>88 | 21=>89 | 22=>90 | 23=>91 | 24=>92 | 25=>93 | 26=>94 | 27=>95 | 46=>102 | 47=>103 | 48=>104 | 49=>105 | 50=>106 | 57=>107 | n=>n,fun | 22=>36 | 24=>70 | 25=>85 | 3=>3 | 39=>62 | 0=>0 | 53=>126 | 55=>128 | 4=>4 | 46=>120 | 45=>119 | 50=>106 | 5=>5 | 9=>9 | 66=>129 | 70=>133 | 76=>137 | 77=>138 | n=>n,fun | n=>n⟩
theorem sort08:Go.Proofs.SlLaysF0.n6 Tryd.prog sort08_ren:={
 mixed:=by kernel_rfl,
 f6:=⟨Tryd.f49.name,by decide,Tryd.func49.trans (congrArg some (by kernel_rfl))⟩,
 f14:=⟨Tryd.f80.name,by decide,Tryd.func80.trans (congrArg some (by kernel_rfl))⟩,
 f15:=Tryd.func81.trans (congrArg some (by kernel_rfl)),
 f20:=⟨Tryd.f88.name,by decide,Tryd.func88.trans (congrArg some (by kernel_rfl))⟩,
 f21:=⟨Tryd.f89.name,by decide,Tryd.func89.trans (congrArg some (by kernel_rfl))⟩,
 f22:=⟨Tryd.f90.name,by decide,Tryd.func90.trans (congrArg some (by kernel_rfl))⟩,
 f23:=⟨Tryd.f91.name,by decide,Tryd.func91.trans (congrArg some (by kernel_rfl))⟩,
 f24:=⟨Tryd.f92.name,by decide,Tryd.func92.trans (congrArg some (by kernel_rfl))⟩,
 f25:=⟨Tryd.f93.name,by decide,Tryd.func93.trans (congrArg some (by kernel_rfl))⟩,
 f26:=⟨Tryd.f94.name,by decide,Tryd.func94.trans (congrArg some (by kernel_rfl))⟩,
 f27:=⟨Tryd.f95.name,by decide,Tryd.func95.trans (congrArg some (by kernel_rfl))⟩,
 f28:=Tryd.func96.trans (congrArg some (by kernel_rfl)),
 f29:=Tryd.func97.trans (congrArg some (by kernel_rfl)),
 f46:=⟨Tryd.f102.name,by decide,Tryd.func102.trans (congrArg some (by kernel_rfl))⟩,
 f47:=Tryd.func103.trans (congrArg some (by kernel_rfl)),
 f48:=Tryd.func104.trans (congrArg some (by kernel_rfl)),
 f49:=⟨Tryd.f105.name,by decide,Tryd.func105.trans (congrArg some (by kernel_rfl))⟩,
 f50:=⟨Tryd.f106.name,by decide,Tryd.func106.trans (congrArg some (by kernel_rfl))⟩,
 f57:=⟨Tryd.f107.name,by decide,Tryd.func107.trans (congrArg some (by kernel_rfl))⟩,
 t0:=Tryd.underlying0,
 a0:=Tryd.isAgg0,
 z0:=Tryd.sizeOf0,
 v0:=Tryd.zeroValue0,
 t3:=Tryd.underlying3,
 a3:=Tryd.isAgg3,
 z3:=Tryd.sizeOf3,
 v3:=Tryd.zeroValue3,
 t4:=Tryd.underlying4,
 a4:=Tryd.isAgg4,
 z4:=Tryd.sizeOf4,
 v4:=Tryd.zeroValue4,
 t5:=Tryd.underlying5,
 a5:=Tryd.isAgg5,
 z5:=Tryd.sizeOf5,
 v5:=Tryd.zeroValue5,
 t9:=Tryd.underlying9,
 a9:=Tryd.isAgg9,
 z9:=Tryd.sizeOf9,
 v9:=Tryd.zeroValue9,
 t22:=Tryd.underlying36,
 a22:=Tryd.isAgg36,
 z22:=Tryd.sizeOf36,
 v22:=Tryd.zeroValue36,
 t25:=Tryd.underlying85,
 a25:=Tryd.isAgg85,
 z25:=Tryd.sizeOf85,
 v25:=Tryd.zeroValue85,
 t39:=Tryd.underlying62,
 a39:=Tryd.isAgg62,
 z39:=Tryd.sizeOf62,
 v39:=Tryd.zeroValue62,
 t45:=Tryd.underlying119,
 a45:=Tryd.isAgg119,
 z45:=Tryd.sizeOf119,
 v45:=Tryd.zeroValue119,
 t46:=Tryd.underlying120,
 a46:=Tryd.isAgg120,
 z46:=Tryd.sizeOf120,
 v46:=Tryd.zeroValue120,
 t50:=Tryd.underlying106,
 a50:=Tryd.isAgg106,
 z50:=Tryd.sizeOf106,
 v50:=Tryd.zeroValue106,
 t53:=Tryd.underlying126,
 a53:=Tryd.isAgg126,
 z53:=Tryd.sizeOf126,
 v53:=Tryd.zeroValue126,
 t55:=Tryd.underlying128,
 a55:=Tryd.isAgg128,
 z55:=Tryd.sizeOf128,
 v55:=Tryd.zeroValue128,
 t66:=Tryd.underlying129,
 a66:=Tryd.isAgg129,
 z66:=Tryd.sizeOf129,
 v66:=Tryd.zeroValue129,
 t70:=Tryd.underlying133,
 a70:=Tryd.isAgg133,
 z70:=Tryd.sizeOf133,
 v70:=Tryd.zeroValue133,
 t76:=Tryd.underlying137,
 a76:=Tryd.isAgg137,
 z76:=Tryd.sizeOf137,
 v76:=Tryd.zeroValue137,
 t77:=Tryd.underlying138,
 a77:=Tryd.isAgg138,
 z77:=Tryd.sizeOf138,
 v77:=Tryd.zeroValue138 }
end Go.Proofs
namespace Go.Ab
open Go
theorem cmp_val (a b:Int):g_cmp_Compare_int a b=some (if a < b then -1 else if b < a then 1 else 0):=by
 unfold g_cmp_Compare_int g_cmp_isNaN_int
 simp only [bne_self_eq_false,Option.bind_some,Bool.false_eq_true,if_false]
 by_cases h1:a < b
 ·simp [h1]
 ·by_cases h2:b < a
  ·simp [h1,h2]
  ·simp [h1,h2]
theorem or_val (a b:Int) (ha:a=-1∨a=1∨a=0) (hb:b=-1∨b=1∨b=0):g_cmp_Or_int [a,b]=some (if a=0 then b else a):=by
 rcases ha with rfl | rfl | rfl <;> rcases hb with rfl | rfl | rfl <;> kernel_rfl
theorem fill_val (x y:Int × Int):g_order_Fill_1 x y=some (if x.1 < y.1 then -1 else if y.1 < x.1 then 1 else if x.2 < y.2 then -1 else if y.2 < x.2 then 1 else 0):=by
 have tri:∀a b:Int,(if a < b then (-1:Int) else if b < a then 1 else 0)=-1∨(if a < b then (-1:Int) else if b < a then 1 else 0)=1∨(if a < b then (-1:Int) else if b < a then 1 else 0)=0:=fun a b=>by
  by_cases h1:a < b
  ·exact .inl (by rw [if_pos h1])
  ·by_cases h2:b < a
   ·exact .inr (.inl (by rw [if_neg h1,if_pos h2]))
   ·exact .inr (.inr (by rw [if_neg h1,if_neg h2]))
 unfold g_order_Fill_1
 rw [cmp_val,cmp_val]
 simp only [Option.bind_some]
 rw [or_val _ _ (tri _ _) (tri _ _)]
 simp only [Option.bind_some,Option.some.injEq]
 by_cases h1:x.1 < y.1
 ·simp [h1]
 ·by_cases h2:y.1 < x.1
  ·simp [h1,h2]
  ·simp [h1,h2]
theorem order08:CmpOk goodP g_order_Fill_1 leP where
 tot x y _ _:=⟨_,fill_val x y,by
  unfold leP
  by_cases h1:x.1 < y.1
  ·simp [h1]; omega
  ·by_cases h2:y.1 < x.1
   ·simp [h1,h2]
   ·have e:y.1=x.1:=by omega
    by_cases h3:x.2 < y.2
    ·simp [e,h3]
    ·by_cases h4:y.2 < x.2
     ·simp [e,h3,h4]
     ·simp [e,h3,h4]⟩
 trans x y z h1 h2:=by
  unfold leP at *
  simp only [Bool.or_eq_true,Bool.and_eq_true,decide_eq_true_eq,beq_iff_eq] at *
  omega
 total x y:=by
  unfold leP
  simp only [Bool.or_eq_true,Bool.and_eq_true,decide_eq_true_eq,beq_iff_eq]
  omega
 anti x y h1 h2:=by
  unfold leP at *
  simp only [Bool.or_eq_true,Bool.and_eq_true,decide_eq_true_eq,beq_iff_eq] at *
  obtain ⟨a,b⟩:=x; obtain ⟨c,d⟩:=y
  simp only [Prod.mk.injEq] at *
  omega
end Go.Ab
namespace Go.Ab
open Go Go.Proofs
set_option maxRecDepth 100000
set_option maxHeartbeats 4000000
theorem hfol:(Tryd.prog.follows .mixedOrders)=true:=by kernel_rfl
theorem bodyB_11:bodyB Tryd.prog 11=true:=by kernel_rfl
theorem bodyB_14:bodyB Tryd.prog 14=true:=by kernel_rfl
theorem bodyB_15:bodyB Tryd.prog 15=true:=by kernel_rfl
theorem bodyB_16:bodyB Tryd.prog 16=true:=by kernel_rfl
theorem bodyB_17:bodyB Tryd.prog 17=true:=by kernel_rfl
theorem bodyB_22:bodyB Tryd.prog 22=true:=by kernel_rfl
theorem bodyB_23:bodyB Tryd.prog 23=true:=by kernel_rfl
theorem bodyB_24:bodyB Tryd.prog 24=true:=by kernel_rfl
theorem bodyB_25:bodyB Tryd.prog 25=true:=by kernel_rfl
theorem bodyB_31:bodyB Tryd.prog 31=true:=by kernel_rfl
theorem bodyB_33:bodyB Tryd.prog 33=true:=by kernel_rfl
theorem bodyB_35:bodyB Tryd.prog 35=true:=by kernel_rfl
theorem bodyB_38:bodyB Tryd.prog 38=true:=by kernel_rfl
theorem bodyB_39:bodyB Tryd.prog 39=true:=by kernel_rfl
theorem bodyB_41:bodyB Tryd.prog 41=true:=by kernel_rfl
theorem bodyB_47:bodyB Tryd.prog 47=true:=by kernel_rfl
theorem bodyB_48:bodyB Tryd.prog 48=true:=by kernel_rfl
theorem bodyB_51:bodyB Tryd.prog 51=true:=by kernel_rfl
theorem bodyB_52:bodyB Tryd.prog 52=true:=by kernel_rfl
theorem bodyB_53:bodyB Tryd.prog 53=true:=by kernel_rfl
theorem bodyB_59:bodyB Tryd.prog 59=true:=by kernel_rfl
theorem bodyB_60:bodyB Tryd.prog 60=true:=by kernel_rfl
theorem bodyB_69:bodyB Tryd.prog 69=true:=by kernel_rfl
theorem bodyB_71:bodyB Tryd.prog 71=true:=by kernel_rfl
theorem bodyB_72:bodyB Tryd.prog 72=true:=by kernel_rfl
theorem bodyB_73:bodyB Tryd.prog 73=true:=by kernel_rfl
theorem bodyB_74:bodyB Tryd.prog 74=true:=by kernel_rfl
theorem bodyB_75:bodyB Tryd.prog 75=true:=by kernel_rfl
theorem bodyB_78:bodyB Tryd.prog 78=true:=by kernel_rfl
theorem bodyB_82:bodyB Tryd.prog 82=true:=by kernel_rfl
theorem bodyB_83:bodyB Tryd.prog 83=true:=by kernel_rfl
theorem bodyB_84:bodyB Tryd.prog 84=true:=by kernel_rfl
theorem bodyB_86:bodyB Tryd.prog 86=true:=by kernel_rfl
theorem bodyB_99:bodyB Tryd.prog 99=true:=by kernel_rfl
theorem bodyB_101:bodyB Tryd.prog 101=true:=by kernel_rfl
theorem g_order_Check_ok (p0:(List Int)) (x:Int) (h:g_order_Check p0=some x):CallOk Tryd.prog 14 [eL true (AV.int .u64) p0] (.ret (vI x) []):=by
 refine fn_ok [] Tryd.func14 rfl (by decide +kernel) rfl ?_
 unfold g_order_Check at h
 refine wp_eqB (base':=0) (st':=⟨[(0,eL true (AV.int .u64) p0)],[],52⟩) kr kr ?_
 refine sq (wp_seq (wp_seq (reg_in (sz 1 1 ?_))))
 refine lenL (enc:=(AV.int .u64)) (l:=p0) (fl:=true) kr gE ?_
 refine sz 2 4 (rwg [0,9] [] ?_)
 refine rb [9] h (fun q2 h=>?_) (fun q2 h=>?_)
 ·refine sz 4 8 (reg_end rfl (wcT (wp_seq ?_)))
  refine wgc [] [] ⟨[],[],52⟩ ?_
  refine rn (wg [2] [] ?_)
  cases h
  exact wp_ret (show fnOut _ _ _ _=_ from by kernel_rfl)
 refine sz 1 5 ?_
 refine lenL (enc:=(AV.int .u64)) (l:=p0) (fl:=true) kr gE ?_
 refine sz 2 8 (reg_end rfl ?_)
 refine wbz h (fun q4 h=>?_) (fun q4 h=>?_)
 ·refine wp_seq ?_
  refine wgc [] [] ⟨[],[],52⟩ ?_
  refine rn (wg [2] [] ?_)
  cases h
  exact wp_ret (show fnOut _ _ _ _=_ from by kernel_rfl)
 refine wp_skip (wp_seq (wp_seq ?_))
 refine wgc [0] [] ⟨[(0,eL true (AV.int .u64) p0)],[],52⟩ ?_
 refine reg_in (sz 1 1 ?_)
 refine lenL (enc:=(AV.int .u64)) (l:=p0) (fl:=true) kr gE ?_
 refine sz 1 3 (reg_end rfl (wp_block ?_))
 refine wwh h (fun s5=>⟨[(0,eL true (AV.int .u64) p0),(14,eL true (AV.int .u64) p0),(15,vI (zn p0)),(16,vI s5)],[],52⟩) (fun x out=>out=match x with | .inl v=>.go (.ret) ⟨[(2,vI 80)],[],52⟩ | .inr v=>.go (.exit 0) ⟨[],[],52⟩) (wk_gc (live:=[0,14,15,16]) (keep:=[]) kr) ?_ ?_
 ·intro s5 o h
  unfold g_order_Check_b1 at h
  refine sq (wp_seq ?_)
  refine wb [17] h (fun q7 h=>?_) (fun q7 h=>?_)
  ·refine wcT (wp_skip (wp_seq (wp_block (wp_seq (reg_in (sz 1 1 ?_))))))
   refine bind_elim h (fun a8 q9 h=>?_)
   refine idxL' (enc:=(AV.int .u64)) (l:=p0) (n:=s5) (fl:=true) (w:=1) (a:=a8) kr rfl gE q9 ?_
   refine sz 3 5 (reg_end rfl (wp_seq (wp_seq (reg_in (sz 2 2 ?_)))))
   refine lenL (enc:=(AV.int .u64)) (l:=p0) (fl:=true) kr gE ?_
   refine shrR (k:=.u64) (k':=.i64) (a:=a8) (b:=(zn p0)) kr gE h (fun h=>?_)
   refine sz 2 6 ?_
   refine rw_wk (wk_gc (live:=[0,14,15,16,3,4,26]) (keep:=[]) (st':=⟨[(0,eL true (AV.int .u64) p0),(14,eL true (AV.int .u64) p0),(15,vI (zn p0)),(16,vI s5),(3,vI s5),(4,.int .u64 a8),(26,vB ((Int.fdiv a8 (2^min (zt (zn p0)) (IntKind.bits .u64))) != 0))],[],52⟩) kr) ?_
   refine rb [26] h (fun q11 h=>?_) (fun q11 h=>?_)
   ·refine sz 6 12 (reg_end rfl (wcT (wp_seq (wg [] [] (rn (wg [2] [] ?_))))))
    refine wp_ret ?_
    cases h
    exact ⟨kr,rfl⟩
   refine sz 2 8 ?_
   refine shrR (k:=.u64) (k':=.i64) (a:=a8) (b:=s5) kr gE h (fun h=>?_)
   refine sz 3 12 (reg_end rfl ?_)
   refine wbz h (fun q13 h=>?_) (fun q13 h=>?_)
   ·refine wp_seq (wg [] [] (rn (wg [2] [] ?_)))
    refine wp_ret ?_
    cases h
    exact ⟨kr,rfl⟩
   refine wp_skip (wp_seq (wg [0,14,15,16,3,4] [] (reg_in (sz 1 1 ?_))))
   refine lenL (enc:=(AV.int .u64)) (l:=p0) (fl:=true) kr gE ?_
   refine sz 1 3 (reg_end rfl (wp_block ?_))
   refine wwh h (fun s14=>⟨[(0,eL true (AV.int .u64) p0),(3,vI s5),(4,.int .u64 a8),(14,eL true (AV.int .u64) p0),(15,vI (zn p0)),(16,vI s5),(34,vI (zn p0)),(35,vI s14)],[],52⟩) (fun x out=>out=match x with | .inl v=>.go (.ret) ⟨[(2,vI 80)],[],52⟩ | .inr v=>.go (.exit 2) ⟨[(0,eL true (AV.int .u64) p0),(14,eL true (AV.int .u64) p0),(15,vI (zn p0)),(16,vI s5)],[],52⟩) (wk_gc (live:=[0,3,4,14,15,16,34,35]) (keep:=[]) kr) ?_ ?_
   ·intro s14 o h
    unfold g_order_Check_b0 at h
    refine sq (wp_seq ?_)
    refine wb [36] h (fun q16 h=>?_) (fun q16 h=>?_)
    ·refine wcT (wp_skip (wp_seq (wp_block (sq (wp_seq (rga hfol (sy 2 2 ?_)))))))
     refine shrR (k:=.u64) (k':=.i64) (a:=a8) (b:=s14) kr gE h (fun h=>?_)
     refine sy 3 6 ?_
     refine bind_elim h (fun a17 q18 h=>?_)
     refine idxL' (enc:=(AV.int .u64)) (l:=p0) (n:=s14) (fl:=true) (w:=1) (a:=a17) kr rfl gE q18 ?_
     refine sy 2 9 ?_
     refine shrR (k:=.u64) (k':=.i64) (a:=a17) (b:=s5) kr gE h (fun h=>?_)
     refine sy 2 12 (rgd ?_)
     refine wbz h (fun q20 h=>?_) (fun q20 h=>?_)
     ·refine wp_seq ?_
      refine wgc [] [] ⟨[],[],52⟩ ?_
      refine rn (wg [2] [] ?_)
      refine wp_ret ?_
      cases h
      exact ⟨kr,rfl⟩
     refine wp_skip ?_
     refine wgc [0,3,4,14,15,16,34,35] [] ⟨[(0,eL true (AV.int .u64) p0),(3,vI s5),(4,.int .u64 a8),(14,eL true (AV.int .u64) p0),(15,vI (zn p0)),(16,vI s5),(34,vI (zn p0)),(35,vI s14)],[],52⟩ ?_
     refine rn ?_
     cases h
     exact ⟨_,rfl,(wk_gc (live:=[0,3,4,14,15,16,34,35]) (keep:=[]) kr)⟩
    refine wcF (wg [0,14,15,16] [] ?_)
    refine wp_exit ?_
    cases h
    exact ⟨kr,rfl⟩
   intro x21 h out hx
   subst hx
   rcases x21 with x22 | x23
   ·dsimp only at h ⊢
    cases h
    exact ⟨kr,rfl⟩
   ·dsimp only at h ⊢
    refine rn ?_
    cases h
    exact ⟨_,rfl,(wk_gc (live:=[0,14,15,16]) (keep:=[]) kr)⟩
  refine wcF (wg [] [] ?_)
  refine wp_exit ?_
  cases h
  exact ⟨kr,rfl⟩
 intro x24 h out hx
 subst hx
 rcases x24 with x25 | x26
 ·dsimp only at h ⊢
  cases h
  show fnOut _ _ _ _=_
  kernel_rfl
 ·dsimp only at h ⊢
  refine sq (wg [2] [] ?_)
  cases h
  exact wp_ret (show fnOut _ _ _ _=_ from by kernel_rfl)
theorem g_order_read_ok (p0:(List Int)) (p1:(List Int)) (x:Int) (h:g_order_read p0 p1=some x):CallOk Tryd.prog 47 [eL true (AV.int .u64) p0,z1 p1] (.ret (vI x) []):=by
 refine fn_ok [] Tryd.func47 rfl (by decide +kernel) rfl ?_
 unfold g_order_read at h
 refine wp_eqB (base':=0) (st':=⟨[(0,eL true (AV.int .u64) p0),(1,z1 p1)],[],45⟩) kr kr ?_
 refine sq (wp_seq (wp_seq (reg_in (sz 1 1 ?_))))
 refine callW bodyB_14 (g_order_Check_ok p0) h (fun x1 _ h=>?_)
 refine sz 1 3 (reg_end rfl (sq ?_))
 refine wbz h (fun q4 h=>?_) (fun q4 h=>?_)
 ·refine wp_seq (wg [5] [] (rn ?_))
  refine wgc [4] [] ⟨[(4,vI x1)],[],45⟩ ?_
  cases h
  exact wp_ret (show fnOut _ _ _ _=_ from by kernel_rfl)
 refine wp_skip (wp_seq (wp_seq ?_))
 refine wgc [0,1] [] ⟨[(0,eL true (AV.int .u64) p0),(1,z1 p1)],[],45⟩ ?_
 refine reg_in (sz 1 1 ?_)
 refine lenL (enc:=eI) (l:=p1) (fl:=true) kr gE ?_
 refine sz 1 3 ?_
 refine lenL (enc:=(AV.int .u64)) (l:=p0) (fl:=true) kr gE ?_
 refine sz 1 5 (reg_end rfl ?_)
 refine wbz h (fun q6 h=>?_) (fun q6 h=>?_)
 ·refine wp_seq (wg [] [] (rn (wg [4] [] ?_)))
  cases h
  exact wp_ret (show fnOut _ _ _ _=_ from by kernel_rfl)
 refine wp_skip (wp_seq (wg [0,1] [] (rn (wp_seq (wp_seq (reg_in (sz 1 1 ?_)))))))
 refine lenL (enc:=eI) (l:=p1) (fl:=true) kr gE ?_
 refine sz 1 3 (reg_end rfl (wp_block ?_))
 refine wwh h (fun s7=>⟨[(0,eL true (AV.int .u64) p0),(6,.int .u64 s7.1),(19,z1 p1),(20,vI (zn p1)),(21,vI s7.2)],[],45⟩) (fun x out=>out=match x with | .inl v=>.go (.ret) ⟨[(4,vI 81)],[],45⟩ | .inr v=>.go (.exit 0) ⟨[],[],45⟩) (wk_gc (live:=[0,6,19,20,21]) (keep:=[]) kr) ?_ ?_
 ·intro s7 o h
  unfold g_order_read_b0 at h
  refine sq (wp_seq ?_)
  refine wb [22] h (fun q9 h=>?_) (fun q9 h=>?_)
  ·refine wcT (wp_skip (wp_seq (wp_block (wp_seq (reg_in ?_)))))
   refine bind_elim h (fun a10 q11 h=>?_)
   refine idxL' (enc:=eI) (l:=p1) (n:=s7.2) (fl:=true) (w:=1) (a:=a10) kr rfl gE q11 ?_
   refine sz 2 3 (reg_end rfl (wp_seq (wp_seq (reg_in (sz 3 3 ?_)))))
   refine rw_wk (wk_gc (live:=[0,6,19,20,21,8,27]) (keep:=[]) (st':=⟨[(0,eL true (AV.int .u64) p0),(6,.int .u64 s7.1),(19,z1 p1),(20,vI (zn p1)),(21,vI s7.2),(8,vI a10),(27,vB (decide (a10 < 0)))],[],45⟩) kr) ?_
   refine rb [27] h (fun q13 h=>?_) (fun q13 h=>?_)
   ·refine sz 12 15 (reg_end rfl (wcT (wp_seq (wg [] [] (rn ?_)))))
    refine wgc [4] [] ⟨[(4,vI 81)],[],45⟩ ?_
    refine wp_ret ?_
    cases h
    exact ⟨kr,rfl⟩
   refine sz 2 5 ?_
   refine lenL (enc:=(AV.int .u64)) (l:=p0) (fl:=true) kr gE ?_
   refine sz 3 9 (rwg [0,6,19,20,21,8,33] [] ?_)
   refine rb [33] h (fun q15 h=>?_) (fun q15 h=>?_)
   ·refine sz 6 15 (reg_end rfl (wcT (wp_seq (wg [] [] (rn ?_)))))
    refine wgc [4] [] ⟨[(4,vI 81)],[],45⟩ ?_
    refine wp_ret ?_
    cases h
    exact ⟨kr,rfl⟩
   refine sz 2 11 ?_
   refine shrR (k:=.u64) (k':=.i64) (a:=s7.1) (b:=a10) kr gE h (fun h=>?_)
   refine sz 3 15 (reg_end rfl ?_)
   refine wbz h (fun q17 h=>?_) (fun q17 h=>?_)
   ·refine wp_seq (wg [] [] (rn ?_))
    refine wgc [4] [] ⟨[(4,vI 81)],[],45⟩ ?_
    refine wp_ret ?_
    cases h
    exact ⟨kr,rfl⟩
   refine wp_skip (wg [0,6,19,20,21,8] [] (reg_in (sz 2 2 ?_)))
   refine shlR (k:=.u64) (k':=.i64) (a:=1) (b:=a10) kr gE h (fun h=>?_)
   refine sz 2 5 (reg_end rfl ?_)
   refine wgc [0,6,19,20,21] [] ⟨[(0,eL true (AV.int .u64) p0),(6,.int .u64 (zv (BitVec.ofInt (IntKind.bits .u64) s7.1 ||| BitVec.ofInt (IntKind.bits .u64) (zv (1*2^min (zt a10) (IntKind.bits .u64)))).toNat)),(19,z1 p1),(20,vI (zn p1)),(21,vI s7.2)],[],45⟩ ?_
   refine rn ?_
   cases h
   exact ⟨_,rfl,(wk_gc (live:=[0,6,19,20,21]) (keep:=[]) kr)⟩
  refine wcF (wg [] [] ?_)
  refine wp_exit ?_
  cases h
  exact ⟨kr,rfl⟩
 intro x18 h out hx
 subst hx
 rcases x18 with x19 | x20
 ·dsimp only at h ⊢
  cases h
  show fnOut _ _ _ _=_
  kernel_rfl
 ·dsimp only at h ⊢
  refine sq (wg [4] [] ?_)
  cases h
  exact wp_ret (show fnOut _ _ _ _=_ from by kernel_rfl)
theorem g_slices_Clone_uint_uint_c_ok (c0:Int) (d0:(List Int)) (x:(List Int)) (h:g_slices_Clone_uint_uint_c c0 d0=some x):CallOk Tryd.prog 38 [eL true (AV.int .u64) (c0::d0)] (.ret (.ref 0 0 x.length) [oR true 1 (AV.int .u64) x]):=by
 refine fn_ok [] Tryd.func38 rfl (by decide +kernel) rfl ?_
 unfold g_slices_Clone_uint_uint_c at h
 refine wp_eqB (base':=0) (st':=⟨[(0,eL true (AV.int .u64) (c0::d0))],[],8⟩) kr kr ?_
 refine sq (wp_seq (sq (wcF (wp_skip (wp_seq (reg_in (sz 2 2 ?_)))))))
 refine appN (enc:=(AV.int .u64)) (m:=(c0::d0)) (w:=1) (bytes:=8) (nr':=true) (fl':=true) (a:=.emp) (b:=eL true (AV.int .u64) (c0::d0)) (rds:=[]) false kr (.inr rfl) (elems_lst (fun _=>rfl)) rfl gE kr h (fun h=>?_)
 refine sz 1 4 (reg_end rfl (wg [2] [0] ?_))
 cases h
 exact wp_ret (show fnOut _ _ _ _=_ from by kernel_rfl)
theorem g_slices_Clone_uint_uint_e_ok  (x:(List Int)) (h:g_slices_Clone_uint_uint_e=some x):CallOk Tryd.prog 38 [.emn] (.ret (.ref 0 0 x.length) [oR true 1 (AV.int .u64) x]):=by
 refine fn_ok [] Tryd.func38 rfl (by decide +kernel) rfl ?_
 unfold g_slices_Clone_uint_uint_e at h
 refine wp_eqB (base':=0) (st':=⟨[(0,.emn)],[],8⟩) kr kr ?_
 refine sq (wp_seq (sq (wcF (wp_skip (wp_seq (reg_in (sz 2 2 (sz 1 3 (sz 1 4 ?_)))))))))
 refine reg_end rfl (wg [2] [0] ?_)
 cases h
 exact wp_ret (show fnOut _ _ _ _=_ from by kernel_rfl)
theorem g_slices_Clone_uint_uint_n_ok  (x:(List Int)) (h:g_slices_Clone_uint_uint_n=some x):CallOk Tryd.prog 38 [.nils] (.ret (.ref 0 0 x.length) [oR true 1 (AV.int .u64) x]):=by
 refine fn_ok [] Tryd.func38 rfl (by decide +kernel) rfl ?_
 unfold g_slices_Clone_uint_uint_n at h
 refine wp_eqB (base':=0) (st':=⟨[(0,.nils)],[],8⟩) kr kr ?_
 refine sq (wp_seq (sq (wcT (sq (wg [2] [] ?_)))))
 refine wp_wk (wk_nil 2 1 true true gE) ?_
 cases h
 exact wp_ret (show fnOut _ _ _ _=_ from by kernel_rfl)
theorem g_slices_Clone_uint_uint_ok (p0:(List Int)) (x:(List Int)) (h:g_slices_Clone_uint_uint p0=some x):CallOk Tryd.prog 38 [eL true (AV.int .u64) p0] (.ret (.ref 0 0 x.length) [oR true 1 (AV.int .u64) x]):=by
 cases p0 with
 | cons c0 d0=>exact g_slices_Clone_uint_uint_c_ok c0 d0 x h
 | nil =>
  cases h1:g_slices_Clone_uint_uint_n with
  | none=>simp [g_slices_Clone_uint_uint,h1] at h
  | some y =>
   cases h2:g_slices_Clone_uint_uint_e with
   | none=>simp [g_slices_Clone_uint_uint,h1,h2] at h
   | some z =>
    by_cases e:y=z
    ·subst e
     simp [g_slices_Clone_uint_uint,h1,h2] at h
     subst h
     exact CallOk.nil (l1:=[]) (l2:=[]) (g_slices_Clone_uint_uint_n_ok y h1) (g_slices_Clone_uint_uint_e_ok y h2)
    ·simp [g_slices_Clone_uint_uint,h1,h2,e] at h
noncomputable abbrev i7_1 (p0:Int):Int:=(zv ((zv (BitVec.ofInt (IntKind.bits .u64) (Int.fdiv (zv ((zv (BitVec.ofInt (IntKind.bits .u64) (Int.fdiv p0 (2^min (zt 1) (IntKind.bits .u64))) &&& BitVec.ofInt (IntKind.bits .u64) 6148914691236517205).toNat)+(zv (BitVec.ofInt (IntKind.bits .u64) p0 &&& BitVec.ofInt (IntKind.bits .u64) 6148914691236517205).toNat))) (2^min (zt 2) (IntKind.bits .u64))) &&& BitVec.ofInt (IntKind.bits .u64) 3689348814741910323).toNat)+(zv (BitVec.ofInt (IntKind.bits .u64) (zv ((zv (BitVec.ofInt (IntKind.bits .u64) (Int.fdiv p0 (2^min (zt 1) (IntKind.bits .u64))) &&& BitVec.ofInt (IntKind.bits .u64) 6148914691236517205).toNat)+(zv (BitVec.ofInt (IntKind.bits .u64) p0 &&& BitVec.ofInt (IntKind.bits .u64) 6148914691236517205).toNat))) &&& BitVec.ofInt (IntKind.bits .u64) 3689348814741910323).toNat)))
theorem g_math_bits_OnesCount64_ok (p0:Int) (x:Int) (h:g_math_bits_OnesCount64 p0=some x):CallOk Tryd.prog 99 [.int .u64 p0] (.ret (vI x) []):=by
 refine fn_ok [] Tryd.func99 rfl (by decide +kernel) rfl ?_
 unfold g_math_bits_OnesCount64 at h
 refine wp_eqB (base':=0) (st':=⟨[(0,.int .u64 p0)],[],35⟩) kr kr ?_
 refine sq (sq (wp_seq (wg [0] [] (rn (wp_seq (wg [0] [] (rn (wp_seq ?_))))))))
 refine wgc [0] [] ⟨[(0,.int .u64 (zv (BitVec.ofInt (IntKind.bits .u64) (zv ((Int.fdiv (i7_1 p0) (2^min (zt 4) (IntKind.bits .u64)))+(i7_1 p0))) &&& BitVec.ofInt (IntKind.bits .u64) 1085102592571150095).toNat))],[],35⟩ ?_
 refine rn (sq (wp_seq (wg [0] [] (rn (sq (wg [2] [] ?_))))))
 cases h
 exact wp_ret (show fnOut _ _ _ _=_ from by kernel_rfl)
theorem g_math_bits_OnesCount_ok (p0:Int) (x:Int) (h:g_math_bits_OnesCount p0=some x):CallOk Tryd.prog 84 [.int .u64 p0] (.ret (vI x) []):=by
 refine fn_ok [] Tryd.func84 rfl (by decide +kernel) rfl ?_
 unfold g_math_bits_OnesCount at h
 refine wp_eqB (base':=0) (st':=⟨[(0,.int .u64 p0)],[],8⟩) kr kr ?_
 refine sq (wp_seq (wcF (wp_skip (wp_seq (reg_in (sz 1 1 ?_))))))
 refine callW bodyB_99 (g_math_bits_OnesCount64_ok p0) h (fun x1 _ h=>?_)
 refine sz 1 3 (reg_end rfl (wg [2] [] ?_))
 cases h
 exact wp_ret (show fnOut _ _ _ _=_ from by kernel_rfl)
theorem g_order_graph_degree_ok (p0:Torder_graph) (p1:Int) (x:Int) (h:g_order_graph_degree p0 p1=some x):CallOk Tryd.prog 60 [.fz [eL true (AV.int .u64) p0.neighbours.near,.int .u64 p0.left],vI p1] (.ret (vI x) []):=by
 refine fn_ok [] Tryd.func60 rfl (by decide +kernel) rfl ?_
 unfold g_order_graph_degree at h
 refine wp_eqB (base':=0) (st':=⟨[(0,.fz [eL true (AV.int .u64) p0.neighbours.near,.int .u64 p0.left]),(1,vI p1)],[],14⟩) kr kr ?_
 refine sq (wp_seq (reg_in (sz 6 6 ?_)))
 refine bind_elim h (fun a1 q2 h=>?_)
 refine idxL' (enc:=(AV.int .u64)) (l:=p0.neighbours.near) (n:=p1) (fl:=true) (w:=1) (a:=a1) kr rfl gE q2 ?_
 refine sz 1 8 ?_
 refine callW bodyB_84 (g_math_bits_OnesCount_ok a1) h (fun x3 _ h=>?_)
 refine sz 1 10 (reg_end rfl (wg [4] [] ?_))
 cases h
 exact wp_ret (show fnOut _ _ _ _=_ from by kernel_rfl)
noncomputable abbrev i10_2 (p0:Int):Int:=(zv (BitVec.ofInt (IntKind.bits .u64) p0 &&& BitVec.ofInt (IntKind.bits .u64) (zv (0 - p0))).toNat)
noncomputable abbrev i10_3 (p0:Int):Int:=(zv ((i10_2 p0)*285870213051353865))
noncomputable abbrev s10_4 (p0:Int):List (Nat×AV):=[(0,.int .u64 p0),(2,vI 0),(3,.int .u64 p0),(4,vB false),(5,.int .u64 p0),(6,.int .u64 p0),(7,.int .u64 (zv (0 - p0))),(8,.int .u64 (i10_2 p0)),(9,.int .u64 (i10_3 p0)),(10,.int .u64 (Int.fdiv (i10_3 p0) (2^min (zt 58) (IntKind.bits .u64))))]
theorem g_math_bits_TrailingZeros64_ok (p0:Int) (x:Int) (h:g_math_bits_TrailingZeros64 p0=some x):CallOk Tryd.prog 101 [.int .u64 p0] (.ret (vI x) []):=by
 refine fn_ok [] Tryd.func101 rfl (by decide +kernel) rfl ?_
 unfold g_math_bits_TrailingZeros64 at h
 refine wp_eqB (base':=0) (st':=⟨[(0,.int .u64 p0)],[],14⟩) kr kr ?_
 refine sq (wp_seq (sq ?_))
 refine wb [4] h (fun q2 h=>?_) (fun q2 h=>?_)
 ·refine wcT (sq (wg [2] [] ?_))
  cases h
  exact wp_ret (show fnOut _ _ _ _=_ from by kernel_rfl)
 refine wcF (wp_skip (wp_seq (reg_in ?_)))
 refine sgz 6 6 (S:=⟨(s10_4 p0),[],14⟩) ?_
 refine bind_elim h (fun a3 q4 h=>?_)
 refine tabR (l:=tab1) (n:=Int.fdiv (i10_3 p0) (2^min (zt 58) (IntKind.bits .u64))) (a:=a3) (kk:=.u8) (len:=64) (cells:=List.map (AV.int .u8) tab1) (S1:=⟨(s10_4 p0)++[(11,.fz (List.drop (zt (Int.fdiv (i10_3 p0) (2^min (zt 58) (IntKind.bits .u64)))) (List.map (AV.int .u8) tab1)))],[],14⟩) kr kr kr q4 kr kr gE ?_
 refine sz 2 10 (reg_end rfl (wg [2] [] ?_))
 cases h
 exact wp_ret (show fnOut _ _ _ _=_ from by kernel_rfl)
theorem g_math_bits_TrailingZeros_ok (p0:Int) (x:Int) (h:g_math_bits_TrailingZeros p0=some x):CallOk Tryd.prog 86 [.int .u64 p0] (.ret (vI x) []):=by
 refine fn_ok [] Tryd.func86 rfl (by decide +kernel) rfl ?_
 unfold g_math_bits_TrailingZeros at h
 refine wp_eqB (base':=0) (st':=⟨[(0,.int .u64 p0)],[],8⟩) kr kr ?_
 refine sq (wp_seq (wcF (wp_skip (wp_seq (reg_in (sz 1 1 ?_))))))
 refine callW bodyB_101 (g_math_bits_TrailingZeros64_ok p0) h (fun x1 _ h=>?_)
 refine sz 1 3 (reg_end rfl (wg [2] [] ?_))
 cases h
 exact wp_ret (show fnOut _ _ _ _=_ from by kernel_rfl)
noncomputable abbrev i12_5 (m1 m0:Int):Int:=(zv (BitVec.ofInt (IntKind.bits .u64) m1 &&& ~~~ BitVec.ofInt (IntKind.bits .u64) (zv (1*2^min (zt m0) (IntKind.bits .u64)))).toNat)
noncomputable abbrev i12_6 (a6 m0:Int):Int:=(zv (BitVec.ofInt (IntKind.bits .u64) a6 &&& ~~~ BitVec.ofInt (IntKind.bits .u64) (zv (1*2^min (zt m0) (IntKind.bits .u64)))).toNat)
noncomputable abbrev o12_7 (m2:(List Int)) (m1 m0:Int):AObj:=oX false false 2 (.agg [.ref 1 0 m2.length,.int .u64 (i12_5 m1 m0)])
noncomputable abbrev o12_8:AObj:=oX false false 1 (.ptr 0 0 0)
noncomputable abbrev o12_9 (m0:Int):AObj:=oX true true 1 (vI m0)
noncomputable abbrev o12_10 (m1 m0:Int):AObj:=oX true true 1 (.int .u64 (i12_5 m1 m0))
noncomputable abbrev o12_11:AObj:=.loop 39 [(2,.ptr 2 0 0),(3,.ptr 3 0 0),(18,.fn (.func 85) [] [.ptr 4 0 0])] [19] (cA Tryd.f63 [true,true,false,true,true]) (cB Tryd.f63 [true,true,false,true,true]) .ready none
noncomputable abbrev o12_12:AObj:=.loop 39 [(2,.ptr 2 0 0),(3,.ptr 3 0 0),(18,.fn (.func 85) [] [.ptr 4 0 0])] [19] (cA Tryd.f63 [true,true,false,true,true]) (cB Tryd.f63 [true,true,false,true,true]) .busy none
noncomputable abbrev e12_13:Nat×AV:=(18,.fn (.func 85) [] [.ptr 4 0 0])
noncomputable abbrev l12_14 (m2:(List Int)) (m1 m0:Int):List AObj:=[(o12_7 m2 m1 m0),oR true 1 (AV.int .u64) m2,o12_8,(o12_9 m0)]
noncomputable abbrev s12_15:List (Nat×AV):=[(2,.ptr 2 0 0),(3,.ptr 3 0 0),e12_13]
noncomputable abbrev u12_16 (x10:(List Int)) (m0 m1:Int):St:=⟨[],[oX false false 2 (.agg [.ref 1 0 ((List.set x10 (zt m0) 0).length),.int .u64 (i12_5 m1 m0)]),oR true 1 (AV.int .u64) (List.set x10 (zt m0) 0)],39⟩
theorem g_order_graph_remove_m0_ok:RecOk Tryd.prog 2 (Tryd.f63.body.getD .skip) (fun s:(Int × Int × (List Int))=>⟨[(0,.ptr 0 0 0),(1,vI s.1)],[oX false false 2 (.agg [.ref 1 0 s.2.2.length,.int .u64 s.2.1]),oR true 1 (AV.int .u64) s.2.2],39⟩) (fun v:(Int × (List Int))=>⟨[],[oX false false 2 (.agg [.ref 1 0 v.2.length,.int .u64 v.1]),oR true 1 (AV.int .u64) v.2],39⟩) (fun s=>g_order_graph_remove_m0 s.1 s.2.1 s.2.2):=by
 rintro ⟨m0,m1,m2⟩ x h
 change g_order_graph_remove_m0 m0 m1 m2=some x at h
 unfold g_order_graph_remove_m0 at h
 refine wp_post ?_
 refine wp_eqB (base':=2) (st':=⟨[(0,.ptr 0 0 0),(1,vI m0)],[oX false false 2 (.agg [.ref 1 0 m2.length,.int .u64 m1]),oR true 1 (AV.int .u64) m2],39⟩) kr kr ?_
 refine wp_seq (reg_in ?_)
 refine sgL false [] [] false gE ?_
 refine sz 1 2 (reg_end rfl (wp_seq (rga hfol (sy 5 5 ?_))))
 refine shlR (k:=.u64) (k':=.i64) (a:=1) (b:=m0) kr gE h (fun h=>?_)
 refine sy 4 10 (rgd (wp_seq (wp_seq ?_)))
 refine wgc [2,3] [2,3] ⟨[(2,.ptr 2 0 0),(3,.ptr 3 0 0)],(l12_14 m2 m1 m0),39⟩ ?_
 refine reg_in (sz 4 4 ?_)
 refine inlR (f:=68) (fn:=Tryd.f68) (as0:=[.int .u64 (i12_5 m1 m0)]) kr Tryd.func68 rfl (by decide +kernel) rfl ?_
 refine wp_eqB (base':=4) (st':=⟨[(0,.int .u64 (i12_5 m1 m0))],(l12_14 m2 m1 m0),4⟩) kr kr ?_
 refine sq (sq (wg [2] [4] ?_))
 refine wp_ret ?_
 refine ⟨⟨[(2,.ptr 2 0 0),(3,.ptr 3 0 0),(14,.ptr 0 0 0),(15,.ptr 0 0 0),(16,.ptr 0 0 1),(17,.int .u64 (i12_5 m1 m0)),e12_13],(l12_14 m2 m1 m0)++[(o12_10 m1 m0)],39⟩,by as_aux_lemma=>kernel_rfl,?_⟩
 refine reg_end rfl (wp_block ?_)
 refine wgc [2,3,18] [2,3,4] ⟨s12_15,(l12_14 m2 m1 m0)++[(o12_10 m1 m0)],39⟩ ?_
 refine wp_range (f:=85) (fn:=Tryd.f85) (first:=[]) (caps:=[.ptr 4 0 0]) rfl Tryd.func85 rfl (by decide +kernel) rfl rfl ?_
 refine wp_eqB (base':=6) (st':=⟨[(0,.yld 5),(1,.ptr 4 0 0)],(l12_14 m2 m1 m0)++[(o12_10 m1 m0),o12_11],16⟩) kr kr ?_
 refine sq (wp_block ?_)
 refine wwh h (fun s1=>⟨[(0,.yld 5),(3,.int .u64 s1.1)],[oX false false 2 (.agg [.ref 1 0 s1.2.length,.int .u64 (i12_5 m1 m0)]),oR true 1 (AV.int .u64) s1.2,o12_8,(o12_9 m0),(o12_10 m1 m0),o12_11],16⟩) (fun v out=>out=.go (.exit 0) ⟨[],[oX false false 2 (.agg [.ref 1 0 v.length,.int .u64 (i12_5 m1 m0)]),oR true 1 (AV.int .u64) v,o12_8,(o12_9 m0),(o12_10 m1 m0),o12_11],16⟩) (wk_gc (live:=[0,3]) (keep:=[]) kr) ?_ ?_
 ·intro s1 o h
  unfold g_order_graph_remove_m0_b0 at h
  refine wp_seq (sq ?_)
  refine wb [6] h (fun q3 h=>?_) (fun q3 h=>?_)
  ·refine wcT (wp_skip (wp_seq (wp_block (wp_seq (reg_in (sz 2 2 ?_))))))
   refine callW bodyB_86 (g_math_bits_TrailingZeros_ok s1.1) h (fun x4 _ h=>?_)
   refine yldR (l:=5) (nt:=39) (us:=[vI x4]) (sl:=[(2,.ptr 2 0 0),(3,.ptr 3 0 0),(18,.fn (.func 85) [] [.ptr 4 0 0])]) (ps:=[19]) (assign:=cA Tryd.f63 [true,true,false,true,true]) (body:=cB Tryd.f63 [true,true,false,true,true]) (pe:=none) kr kr rfl ?_
   refine wp_eqB (base':=6) (st':=⟨s12_15++[(19,vI x4)],[oX false false 2 (.agg [.ref 1 0 s1.2.length,.int .u64 (i12_5 m1 m0)]),oR true 1 (AV.int .u64) s1.2,o12_8,(o12_9 m0),(o12_10 m1 m0),o12_11],39⟩) kr kr ?_
   refine rn ?_
   refine ⟨⟨s12_15++[(19,vI x4),(4,vI x4)],[oX false false 2 (.agg [.ref 1 0 s1.2.length,.int .u64 (i12_5 m1 m0)]),oR true 1 (AV.int .u64) s1.2,o12_8,(o12_9 m0),(o12_10 m1 m0),o12_12],39⟩,by as_aux_lemma=>kernel_rfl,?_⟩
   refine wp_block (rga hfol (sy 6 6 ?_))
   refine bind_elim h (fun a6 q7 h=>?_)
   refine idxR' (enc:=(AV.int .u64)) (l:=s1.2) (n:=x4) (w:=1) (ob:=1) (ro:=false) (nr:=true) (fl:=true) (a:=a6) kr kr gE q7 ?_
   refine loadR (enc:=(AV.int .u64)) (l:=s1.2) (n:=x4) (w:=1) (ob:=1) (c:=0) (bx:=false) (ro:=false) (nr:=true) (fl:=true) (a:=a6) kr kr q7 gE ?_
   refine sy 1 9 ?_
   refine shlR (k:=.u64) (k':=.i64) (a:=1) (b:=m0) kr gE h (fun h=>?_)
   refine sy 1 11 ?_
   refine idxR' (enc:=(AV.int .u64)) (l:=s1.2) (n:=x4) (w:=1) (ob:=1) (ro:=false) (nr:=true) (fl:=true) (a:=a6) kr kr gE q7 ?_
   refine storeR (enc:=(AV.int .u64)) (l:=s1.2) (n:=x4) (ob:=1) (w:=1) (bx:=false) (nr:=true) (fl:=true) (c:=0) (a:=a6) (a':=zv (BitVec.ofInt (IntKind.bits .u64) a6 &&& ~~~ BitVec.ofInt (IntKind.bits .u64) (zv (1*2^min (zt m0) (IntKind.bits .u64)))).toNat) (v:=.int .u64 (i12_6 a6 m0)) false kr kr q7 kr rfl kr gE kr ?_
   refine rknN (n:=s1.2.length) (m:=(List.set s1.2 (zt x4) (i12_6 a6 m0)).length) (S:=fun n8=>⟨s12_15++[(19,vI x4),(4,vI x4),(20,.ptr 0 0 0),(21,.ptr 0 0 0),(22,.ptr 0 0 0),(23,.ptr 0 0 0),(24,.ref 1 0 n8),(25,vI x4),(26,.ptr 1 (zt x4) 0),(27,.int .u64 a6),(28,vI m0),(29,.int .u64 (zv (1*2^min (zt m0) (IntKind.bits .u64)))),(30,.int .u64 (i12_6 a6 m0)),(31,.ptr 1 (zt x4) 0)],[oX false false 2 (.agg [.ref 1 0 n8,.int .u64 (i12_5 m1 m0)]),oR true 1 (AV.int .u64) (List.set s1.2 (zt x4) (i12_6 a6 m0)),o12_8,(o12_9 m0),(o12_10 m1 m0),o12_12],39⟩) (by simp only [List.length_set]) ?_
   refine rgd ?_
   refine ⟨⟨[(0,.yld 5),(3,.int .u64 s1.1),(5,.int .u64 s1.1),(6,vB true),(11,.yld 5),(12,.int .u64 s1.1),(13,vI x4),(14,vB true)],[oX false false 2 (.agg [.ref 1 0 ((List.set s1.2 (zt x4) (i12_6 a6 m0)).length),.int .u64 (i12_5 m1 m0)]),oR true 1 (AV.int .u64) (List.set s1.2 (zt x4) (i12_6 a6 m0)),o12_8,(o12_9 m0),(o12_10 m1 m0),o12_11],16⟩,by as_aux_lemma=>kernel_rfl,?_⟩
   refine sz 1 5 (reg_end rfl (wcF (wp_skip (wg [0,3] [] (rn ?_)))))
   cases h
   exact ⟨_,rfl,(wk_gc (live:=[0,3]) (keep:=[]) kr)⟩
  refine wcF (wg [] [] ?_)
  refine wp_exit ?_
  cases h
  exact ⟨kr,rfl⟩
 intro x10 h out hx
 subst hx
 refine ⟨.go .normal ⟨s12_15,[oX false false 2 (.agg [.ref 1 0 x10.length,.int .u64 (i12_5 m1 m0)]),oR true 1 (AV.int .u64) x10,o12_8,(o12_9 m0),(o12_10 m1 m0),.dead],39⟩,by as_aux_lemma=>kernel_rfl,?_⟩
 refine rga hfol (sy 6 6 ?_)
 refine bind_elim h (fun a11 q12 h=>?_)
 refine idxR' (enc:=(AV.int .u64)) (l:=x10) (n:=m0) (w:=1) (ob:=1) (ro:=false) (nr:=true) (fl:=true) (a:=a11) kr kr gE q12 ?_
 refine storeR (enc:=(AV.int .u64)) (l:=x10) (n:=m0) (ob:=1) (w:=1) (bx:=false) (nr:=true) (fl:=true) (c:=0) (a:=a11) (a':=0) (v:=.int .u64 0) false kr kr q12 kr rfl kr gE kr ?_
 refine rknN (n:=x10.length) (m:=(List.set x10 (zt m0) 0).length) (S:=fun n13=>⟨s12_15++[(32,.ptr 0 0 0),(33,.ptr 0 0 0),(34,.ptr 0 0 0),(35,.ptr 0 0 0),(36,.ref 1 0 n13),(37,vI m0),(38,.ptr 1 (zt m0) 0)],[oX false false 2 (.agg [.ref 1 0 n13,.int .u64 (i12_5 m1 m0)]),oR true 1 (AV.int .u64) (List.set x10 (zt m0) 0),o12_8,(o12_9 m0),(o12_10 m1 m0),.dead],39⟩) (by simp only [List.length_set]) ?_
 refine rgd ?_
 cases h
 refine ⟨(u12_16 x10 m0 m1),(wk_gc (live:=[]) (keep:=[]) (st':=(u12_16 x10 m0 m1)) (by kernel_rfl)),?_⟩
 exact .inr (by kernel_rfl)
noncomputable abbrev i13_17 (a1 a8 x6:Int):Int:=(zv (BitVec.ofInt (IntKind.bits .u64) (zv (BitVec.ofInt (IntKind.bits .u64) a1 &&& ~~~ BitVec.ofInt (IntKind.bits .u64) a8).toNat) &&& ~~~ BitVec.ofInt (IntKind.bits .u64) (zv ((zv (1*2^min (zt (zw (x6+1))) (IntKind.bits .u64))) - 1))).toNat)
noncomputable abbrev i13_18 (a15 x13:Int):Int:=(zv (BitVec.ofInt (IntKind.bits .u64) a15 ||| BitVec.ofInt (IntKind.bits .u64) (zv (1*2^min (zt x13) (IntKind.bits .u64)))).toNat)
noncomputable abbrev i13_19 (a17 x6:Int):Int:=(zv (BitVec.ofInt (IntKind.bits .u64) a17 ||| BitVec.ofInt (IntKind.bits .u64) (zv (1*2^min (zt x6) (IntKind.bits .u64)))).toNat)
noncomputable abbrev o13_20 (m2:(List Int)) (m1:Int):AObj:=oX false false 2 (.agg [.ref 1 0 m2.length,.int .u64 m1])
noncomputable abbrev o13_21 (m2:(List Int)):AObj:=oR true 1 (AV.int .u64) m2
noncomputable abbrev o13_22:AObj:=oX false false 1 (.ptr 0 0 0)
noncomputable abbrev o13_23:AObj:=oX true false 1 (.nils)
noncomputable abbrev o13_24 (a1:Int):AObj:=oX true true 1 (.int .u64 a1)
noncomputable abbrev o13_25 (m0:Int):AObj:=.loop 71 [(1,vI m0),(2,.ptr 2 0 0),(5,.ptr 3 0 0),(6,.ptr 4 0 0),(18,.fn (.func 85) [] [.ptr 5 0 0])] [19] (cA Tryd.f79 [true,true,true,false,true,true]) (cB Tryd.f79 [true,true,true,false,true,true]) .ready none
noncomputable abbrev o13_26 (m0:Int):AObj:=.loop 71 [(1,vI m0),(2,.ptr 2 0 0),(5,.ptr 3 0 0),(6,.ptr 4 0 0),(18,.fn (.func 85) [] [.ptr 5 0 0])] [19] (cA Tryd.f79 [true,true,true,false,true,true]) (cB Tryd.f79 [true,true,true,false,true,true]) .busy none
noncomputable abbrev o13_27 (x6:Int):AObj:=oX true true 1 (vI x6)
noncomputable abbrev o13_28 (a1 a8 x6:Int):AObj:=oX true true 1 (.int .u64 (i13_17 a1 a8 x6))
noncomputable abbrev o13_29:AObj:=.loop 71 [(2,.ptr 2 0 0),(5,.ptr 3 0 0),(7,.ptr 8 0 0),(35,.fn (.func 85) [] [.ptr 9 0 0])] [36] (cA Tryd.f79 [true,true,true,false,true,true,true,true,true,true]) (cB Tryd.f79 [true,true,true,false,true,true,true,true,true,true]) .ready none
noncomputable abbrev o13_30:AObj:=.loop 71 [(2,.ptr 2 0 0),(5,.ptr 3 0 0),(7,.ptr 8 0 0),(35,.fn (.func 85) [] [.ptr 9 0 0])] [36] (cA Tryd.f79 [true,true,true,false,true,true,true,true,true,true]) (cB Tryd.f79 [true,true,true,false,true,true,true,true,true,true]) .busy none
noncomputable abbrev o13_31 (x24:((List Int) × (List (Int × Int)))):AObj:=oR true 2 (fun x:(Int × Int)=>AV.agg [vI x.1,vI x.2]) x24.2
noncomputable abbrev o13_32 (x25:(Int × (List Int))):AObj:=oX false false 2 (.agg [.ref 1 0 x25.2.length,.int .u64 x25.1])
noncomputable abbrev e13_33:Nat×AV:=(2,.ptr 2 0 0)
noncomputable abbrev e13_34:Nat×AV:=(18,.fn (.func 85) [] [.ptr 5 0 0])
noncomputable abbrev e13_35:Nat×AV:=(35,.fn (.func 85) [] [.ptr 9 0 0])
noncomputable abbrev l13_36 (w0 w1 w2 w3:AObj) (a1 m0 x6 a8:Int):List AObj:=[w0,w1,o13_22,w2,(o13_24 a1),(o13_24 a1),(o13_26 m0),w3,(o13_27 x6),(o13_28 a1 a8 x6)]
noncomputable abbrev l13_37 (m2:(List Int)) (m1 a1:Int):List AObj:=[(o13_20 m2 m1),(o13_21 m2),o13_22,o13_23,(o13_24 a1)]
noncomputable abbrev l13_38 (x24:((List Int) × (List (Int × Int)))) (m1 a1:Int):List AObj:=[oX false false 2 (.agg [.ref 1 0 x24.1.length,.int .u64 m1]),oR true 1 (AV.int .u64) x24.1,o13_22,oX false false 1 (.ref 7 0 x24.2.length),(o13_24 a1),(o13_24 a1),.dead,(o13_31 x24)]
noncomputable abbrev s13_39 (m0:Int):List (Nat×AV):=[(1,vI m0),e13_33,(5,.ptr 3 0 0),(6,.ptr 4 0 0)]
noncomputable abbrev s13_40:List (Nat×AV):=[e13_33,(5,.ptr 3 0 0),(7,.ptr 8 0 0),e13_35]
theorem g_order_graph_eliminate_m0_ok:RecOk Tryd.prog 2 (Tryd.f79.body.getD .skip) (fun s:(Int × Int × (List Int))=>⟨[(0,.ptr 0 0 0),(1,vI s.1)],[oX false false 2 (.agg [.ref 1 0 s.2.2.length,.int .u64 s.2.1]),oR true 1 (AV.int .u64) s.2.2],71⟩) (fun v:((List (Int × Int)) × Int × (List Int))=>⟨[(4,eL true (fun x:(Int × Int)=>AV.agg [vI x.1,vI x.2]) v.1)],[oX false false 2 (.agg [.ref 1 0 v.2.2.length,.int .u64 v.2.1]),oR true 1 (AV.int .u64) v.2.2],71⟩) (fun s=>g_order_graph_eliminate_m0 s.1 s.2.1 s.2.2):=by
 rintro ⟨m0,m1,m2⟩ x h
 change g_order_graph_eliminate_m0 m0 m1 m2=some x at h
 unfold g_order_graph_eliminate_m0 at h
 refine wp_post ?_
 refine wp_eqB (base':=2) (st':=⟨[(0,.ptr 0 0 0),(1,vI m0)],[(o13_20 m2 m1),(o13_21 m2)],71⟩) kr kr ?_
 refine wp_seq (reg_in ?_)
 refine sgL false [] [] false gE ?_
 refine sz 1 2 (reg_end rfl (wp_seq (reg_in ?_)))
 refine sgL false [] [] false gE ?_
 refine reg_end rfl (wp_seq (reg_in (sz 6 6 ?_)))
 refine bind_elim h (fun a1 q2 h=>?_)
 refine idxR' (enc:=(AV.int .u64)) (l:=m2) (n:=m0) (w:=1) (ob:=1) (ro:=false) (nr:=true) (fl:=true) (a:=a1) kr kr gE q2 ?_
 refine loadR (enc:=(AV.int .u64)) (l:=m2) (n:=m0) (w:=1) (ob:=1) (c:=0) (bx:=false) (ro:=false) (nr:=true) (fl:=true) (a:=a1) kr kr q2 gE ?_
 refine sz 2 10 (reg_end rfl (wp_seq (wp_seq ?_)))
 refine wgc [1,2,5,6] [2,3,4] ⟨(s13_39 m0),(l13_37 m2 m1 a1),71⟩ ?_
 refine reg_in (sz 1 1 ?_)
 refine inlR (f:=68) (fn:=Tryd.f68) (as0:=[.int .u64 a1]) kr Tryd.func68 rfl (by decide +kernel) rfl ?_
 refine wp_eqB (base':=5) (st':=⟨[(0,.int .u64 a1)],(l13_37 m2 m1 a1),4⟩) kr kr ?_
 refine sq (sq (wg [2] [5] ?_))
 refine wp_ret ?_
 refine ⟨⟨(s13_39 m0)++[(17,.int .u64 a1),e13_34],(l13_37 m2 m1 a1)++[(o13_24 a1)],71⟩,by as_aux_lemma=>kernel_rfl,?_⟩
 refine reg_end rfl (wp_block ?_)
 refine wgc [1,2,5,6,18] [2,3,4,5] ⟨(s13_39 m0)++[e13_34],(l13_37 m2 m1 a1)++[(o13_24 a1)],71⟩ ?_
 refine wp_range (f:=85) (fn:=Tryd.f85) (first:=[]) (caps:=[.ptr 5 0 0]) rfl Tryd.func85 rfl (by decide +kernel) rfl rfl ?_
 refine wp_eqB (base':=7) (st':=⟨[(0,.yld 6),(1,.ptr 5 0 0)],(l13_37 m2 m1 a1)++[(o13_24 a1),(o13_25 m0)],16⟩) kr kr ?_
 refine sq (wp_block ?_)
 refine wwh h (fun s3=>⟨[(0,.yld 6),(3,.int .u64 s3.1)],[oX false false 2 (.agg [.ref 1 0 s3.2.1.length,.int .u64 m1]),oR true 1 (AV.int .u64) s3.2.1,o13_22,oX false false 1 (.ref 7 0 s3.2.2.length),(o13_24 a1),(o13_24 a1),(o13_25 m0),oR true 2 (fun x:(Int × Int)=>AV.agg [vI x.1,vI x.2]) s3.2.2],16⟩) (fun v out=>out=.go (.exit 0) ⟨[],[oX false false 2 (.agg [.ref 1 0 v.1.length,.int .u64 m1]),oR true 1 (AV.int .u64) v.1,o13_22,oX false false 1 (.ref 7 0 v.2.length),(o13_24 a1),(o13_24 a1),(o13_25 m0),oR true 2 (fun x:(Int × Int)=>AV.agg [vI x.1,vI x.2]) v.2],16⟩) (wk_trans (wk_gc (live:=[0,3]) (keep:=[]) (st':=⟨[(0,.yld 6),(3,.int .u64 a1)],(l13_37 m2 m1 a1)++[(o13_24 a1),(o13_25 m0)],16⟩) kr) (wk_trans (wk_nilO 3 0 0 2 true true (st':=⟨[(0,.yld 6),(3,.int .u64 a1)],[(o13_20 m2 m1),(o13_21 m2),o13_22,oX false false 1 (.ref 7 0 0),(o13_24 a1),(o13_24 a1),(o13_25 m0),.row false false true true 2 []],16⟩) kr) (wk_gc (live:=[0,3]) (keep:=[7]) kr))) ?_ ?_
 ·intro s3 o h
  unfold g_order_graph_eliminate_m0_b1 at h
  refine wp_seq (sq ?_)
  refine wb [6] h (fun q5 h=>?_) (fun q5 h=>?_)
  ·refine wcT (wp_skip (wp_seq (wp_block (wp_seq (reg_in (sz 2 2 ?_))))))
   refine callW bodyB_86 (g_math_bits_TrailingZeros_ok s3.1) h (fun x6 _ h=>?_)
   refine yldR (l:=6) (nt:=71) (us:=[vI x6]) (sl:=[(1,vI m0),(2,.ptr 2 0 0),(5,.ptr 3 0 0),(6,.ptr 4 0 0),(18,.fn (.func 85) [] [.ptr 5 0 0])]) (ps:=[19]) (assign:=cA Tryd.f79 [true,true,true,false,true,true]) (body:=cB Tryd.f79 [true,true,true,false,true,true]) (pe:=none) kr kr rfl ?_
   refine wp_eqB (base':=8) (st':=⟨(s13_39 m0)++[e13_34,(19,vI x6)],[oX false false 2 (.agg [.ref 1 0 s3.2.1.length,.int .u64 m1]),oR true 1 (AV.int .u64) s3.2.1,o13_22,oX false false 1 (.ref 7 0 s3.2.2.length),(o13_24 a1),(o13_24 a1),(o13_25 m0),oR true 2 (fun x:(Int × Int)=>AV.agg [vI x.1,vI x.2]) s3.2.2],71⟩) kr kr ?_
   refine rn ?_
   refine ⟨⟨(s13_39 m0)++[e13_34,(19,vI x6),(7,.ptr 8 0 0)],[oX false false 2 (.agg [.ref 1 0 s3.2.1.length,.int .u64 m1]),oR true 1 (AV.int .u64) s3.2.1,o13_22,oX false false 1 (.ref 7 0 s3.2.2.length),(o13_24 a1),(o13_24 a1),(o13_26 m0),oR true 2 (fun x:(Int × Int)=>AV.agg [vI x.1,vI x.2]) s3.2.2,(o13_27 x6)],71⟩,by as_aux_lemma=>kernel_rfl,?_⟩
   refine wp_block (wp_seq (rga hfol (sy 7 7 ?_)))
   refine bind_elim h (fun a8 q9 h=>?_)
   refine idxR' (enc:=(AV.int .u64)) (l:=s3.2.1) (n:=x6) (w:=1) (ob:=1) (ro:=false) (nr:=true) (fl:=true) (a:=a8) kr kr gE q9 ?_
   refine loadR (enc:=(AV.int .u64)) (l:=s3.2.1) (n:=x6) (w:=1) (ob:=1) (c:=0) (bx:=false) (ro:=false) (nr:=true) (fl:=true) (a:=a8) kr kr q9 gE ?_
   refine sy 3 12 ?_
   refine shlR (k:=.u64) (k':=.i64) (a:=1) (b:=zw (x6+1)) kr gE h (fun h=>?_)
   refine sy 2 15 ?_
   refine inlN (f:=68) (fn:=Tryd.f68) (as0:=[.int .u64 (i13_17 a1 a8 x6)]) kr kr Tryd.func68 rfl (by decide +kernel) rfl ?_
   refine wp_eqB (base':=9) (st':=⟨[(0,.int .u64 (i13_17 a1 a8 x6))],[.dead,.dead,.dead,.dead,.dead,.dead,.dead,.dead,.dead],4⟩) kr kr ?_
   refine sq (sq (wg [2] [9] ?_))
   refine wp_ret ?_
   refine ⟨⟨(s13_39 m0)++[e13_34,(19,vI x6),(7,.ptr 8 0 0),(20,.int .u64 a1),(21,.ptr 0 0 0),(22,.ptr 0 0 0),(23,.ptr 0 0 0),(24,.ptr 0 0 0),(25,.ref 1 0 s3.2.1.length),(26,vI x6),(27,.ptr 1 (zt x6) 0),(28,.int .u64 a8),(29,.int .u64 (zv (BitVec.ofInt (IntKind.bits .u64) a1 &&& ~~~ BitVec.ofInt (IntKind.bits .u64) a8).toNat)),(30,vI x6),(31,vI (zw (x6+1))),(32,.int .u64 (zv (1*2^min (zt (zw (x6+1))) (IntKind.bits .u64)))),(33,.int .u64 (zv ((zv (1*2^min (zt (zw (x6+1))) (IntKind.bits .u64))) - 1))),(34,.int .u64 (i13_17 a1 a8 x6)),e13_35],(l13_36 (oX false false 2 (.agg [.ref 1 0 s3.2.1.length,.int .u64 m1])) (oR true 1 (AV.int .u64) s3.2.1) (oX false false 1 (.ref 7 0 s3.2.2.length)) (oR true 2 (fun x:(Int × Int)=>AV.agg [vI x.1,vI x.2]) s3.2.2) a1 m0 x6 a8),71⟩,by as_aux_lemma=>kernel_rfl,?_⟩
   refine rgd (wp_block ?_)
   refine wgc [2,5,7,35] [8,9] ⟨s13_40,(l13_36 (oX false false 2 (.agg [.ref 1 0 s3.2.1.length,.int .u64 m1])) (oR true 1 (AV.int .u64) s3.2.1) (oX false false 1 (.ref 7 0 s3.2.2.length)) (oR true 2 (fun x:(Int × Int)=>AV.agg [vI x.1,vI x.2]) s3.2.2) a1 m0 x6 a8),71⟩ ?_
   refine wp_range (f:=85) (fn:=Tryd.f85) (first:=[]) (caps:=[.ptr 9 0 0]) rfl Tryd.func85 rfl (by decide +kernel) rfl rfl ?_
   refine wp_eqB (base':=11) (st':=⟨[(0,.yld 10),(1,.ptr 9 0 0)],(l13_36 (oX false false 2 (.agg [.ref 1 0 s3.2.1.length,.int .u64 m1])) (oR true 1 (AV.int .u64) s3.2.1) (oX false false 1 (.ref 7 0 s3.2.2.length)) (oR true 2 (fun x:(Int × Int)=>AV.agg [vI x.1,vI x.2]) s3.2.2) a1 m0 x6 a8)++[o13_29],16⟩) kr kr ?_
   refine sq (wp_block ?_)
   refine wwh h (fun s10=>⟨[(0,.yld 10),(3,.int .u64 s10.1)],(l13_36 (oX false false 2 (.agg [.ref 1 0 s10.2.1.length,.int .u64 m1])) (oR true 1 (AV.int .u64) s10.2.1) (oX false false 1 (.ref 11 0 s10.2.2.length)) .dead a1 m0 x6 a8)++[o13_29,oR true 2 (fun x:(Int × Int)=>AV.agg [vI x.1,vI x.2]) s10.2.2],16⟩) (fun v out=>out=.go (.exit 0) ⟨[],(l13_36 (oX false false 2 (.agg [.ref 1 0 v.1.length,.int .u64 m1])) (oR true 1 (AV.int .u64) v.1) (oX false false 1 (.ref 11 0 v.2.length)) .dead a1 m0 x6 a8)++[o13_29,oR true 2 (fun x:(Int × Int)=>AV.agg [vI x.1,vI x.2]) v.2],16⟩) (wk_trans (wk_gc (live:=[0,3]) (keep:=[]) (st':=⟨[(0,.yld 10),(3,.int .u64 (i13_17 a1 a8 x6))],(l13_36 (oX false false 2 (.agg [.ref 1 0 s3.2.1.length,.int .u64 m1])) (oR true 1 (AV.int .u64) s3.2.1) (oX false false 1 (.ref 7 0 s3.2.2.length)) (oR true 2 (fun x:(Int × Int)=>AV.agg [vI x.1,vI x.2]) s3.2.2) a1 m0 x6 a8)++[o13_29],16⟩) kr) (wk_trans (wk_mv 7 (st':=⟨[(0,.yld 10),(3,.int .u64 (i13_17 a1 a8 x6))],(l13_36 (oX false false 2 (.agg [.ref 1 0 s3.2.1.length,.int .u64 m1])) (oR true 1 (AV.int .u64) s3.2.1) (oX false false 1 (.ref 11 0 s3.2.2.length)) .dead a1 m0 x6 a8)++[o13_29,oR true 2 (fun x:(Int × Int)=>AV.agg [vI x.1,vI x.2]) s3.2.2],16⟩) kr kr kr kr) (wk_gc (live:=[0,3]) (keep:=[11]) kr))) ?_ ?_
   ·intro s10 o h
    unfold g_order_graph_eliminate_m0_b0 at h
    refine wp_seq (sq ?_)
    refine wb [6] h (fun q12 h=>?_) (fun q12 h=>?_)
    ·refine wcT (wp_skip (wp_seq (wp_block (wp_seq (reg_in (sz 2 2 ?_))))))
     refine callW bodyB_86 (g_math_bits_TrailingZeros_ok s10.1) h (fun x13 _ h=>?_)
     refine yldR (l:=10) (nt:=71) (us:=[vI x13]) (sl:=[(2,.ptr 2 0 0),(5,.ptr 3 0 0),(7,.ptr 8 0 0),(35,.fn (.func 85) [] [.ptr 9 0 0])]) (ps:=[36]) (assign:=cA Tryd.f79 [true,true,true,false,true,true,true,true,true,true]) (body:=cB Tryd.f79 [true,true,true,false,true,true,true,true,true,true]) (pe:=none) kr kr rfl ?_
     refine wp_eqB (base':=12) (st':=⟨s13_40++[(36,vI x13)],(l13_36 (oX false false 2 (.agg [.ref 1 0 s10.2.1.length,.int .u64 m1])) (oR true 1 (AV.int .u64) s10.2.1) (oX false false 1 (.ref 11 0 s10.2.2.length)) .dead a1 m0 x6 a8)++[o13_29,oR true 2 (fun x:(Int × Int)=>AV.agg [vI x.1,vI x.2]) s10.2.2],71⟩) kr kr ?_
     refine rn ?_
     refine ⟨⟨s13_40++[(36,vI x13),(8,vI x13)],(l13_36 (oX false false 2 (.agg [.ref 1 0 s10.2.1.length,.int .u64 m1])) (oR true 1 (AV.int .u64) s10.2.1) (oX false false 1 (.ref 11 0 s10.2.2.length)) .dead a1 m0 x6 a8)++[o13_30,oR true 2 (fun x:(Int × Int)=>AV.agg [vI x.1,vI x.2]) s10.2.2],71⟩,by as_aux_lemma=>kernel_rfl,?_⟩
     refine wp_block (wp_seq (reg_in (sz 4 4 ?_)))
     refine sgL false [] [] true gE ?_
     refine appR (enc:=(fun x:(Int × Int)=>AV.agg [vI x.1,vI x.2])) (l:=s10.2.2) (m:=([(x6,x13)]:(List (Int × Int)))) (w:=2) (bytes:=16) (ob:=11) (nr:=true) (fl:=true) (nr':=true) (fl':=true) (b:=.ref 12 0 1) (rds:=[12]) false kr kr kr rfl gE kr h (fun h=>?_)
     refine sz 1 7 (reg_end rfl (wp_seq (wg [2,7,8] [13] (rga hfol (sy 6 6 ?_)))))
     refine bind_elim h (fun a15 q16 h=>?_)
     refine idxR' (enc:=(AV.int .u64)) (l:=s10.2.1) (n:=x6) (w:=1) (ob:=1) (ro:=false) (nr:=true) (fl:=true) (a:=a15) kr kr gE q16 ?_
     refine loadR (enc:=(AV.int .u64)) (l:=s10.2.1) (n:=x6) (w:=1) (ob:=1) (c:=0) (bx:=false) (ro:=false) (nr:=true) (fl:=true) (a:=a15) kr kr q16 gE ?_
     refine sy 1 9 ?_
     refine shlR (k:=.u64) (k':=.i64) (a:=1) (b:=x13) kr gE h (fun h=>?_)
     refine sy 1 11 ?_
     refine idxR' (enc:=(AV.int .u64)) (l:=s10.2.1) (n:=x6) (w:=1) (ob:=1) (ro:=false) (nr:=true) (fl:=true) (a:=a15) kr kr gE q16 ?_
     refine storeR (enc:=(AV.int .u64)) (l:=s10.2.1) (n:=x6) (ob:=1) (w:=1) (bx:=false) (nr:=true) (fl:=true) (c:=0) (a:=a15) (a':=zv (BitVec.ofInt (IntKind.bits .u64) a15 ||| BitVec.ofInt (IntKind.bits .u64) (zv (1*2^min (zt x13) (IntKind.bits .u64)))).toNat) (v:=.int .u64 (i13_18 a15 x13)) false kr kr q16 kr rfl kr gE kr ?_
     refine rknN (n:=s10.2.1.length) (m:=(List.set s10.2.1 (zt x6) (i13_18 a15 x13)).length) (S:=fun n20=>⟨[e13_33,(7,.ptr 8 0 0),(8,vI x13),(43,.ptr 0 0 0),(44,.ptr 0 0 0),(45,.ptr 0 0 0),(46,.ptr 0 0 0),(47,.ref 1 0 n20),(48,vI x6),(49,.ptr 1 (zt x6) 0),(50,.int .u64 a15),(51,vI x13),(52,.int .u64 (zv (1*2^min (zt x13) (IntKind.bits .u64)))),(53,.int .u64 (i13_18 a15 x13)),(54,.ptr 1 (zt x6) 0)],(l13_36 (oX false false 2 (.agg [.ref 1 0 n20,.int .u64 m1])) (oR true 1 (AV.int .u64) (List.set s10.2.1 (zt x6) (i13_18 a15 x13))) (oX false false 1 (.ref 12 0 ((s10.2.2++([(x6,x13)]:(List (Int × Int)))).length))) .dead a1 m0 x6 a8)++[o13_30,.dead,oR true 2 (fun x:(Int × Int)=>AV.agg [vI x.1,vI x.2]) (s10.2.2++([(x6,x13)]:(List (Int × Int))))],71⟩) (by simp only [List.length_set]) ?_
     refine rgd (wg [2,7,8] [12] (rga hfol (sy 6 6 ?_)))
     refine bind_elim h (fun a17 q18 h=>?_)
     refine idxR' (enc:=(AV.int .u64)) (l:=(List.set s10.2.1 (zt x6) (i13_18 a15 x13))) (n:=x13) (w:=1) (ob:=1) (ro:=false) (nr:=true) (fl:=true) (a:=a17) kr kr gE q18 ?_
     refine loadR (enc:=(AV.int .u64)) (l:=(List.set s10.2.1 (zt x6) (i13_18 a15 x13))) (n:=x13) (w:=1) (ob:=1) (c:=0) (bx:=false) (ro:=false) (nr:=true) (fl:=true) (a:=a17) kr kr q18 gE ?_
     refine sy 1 9 ?_
     refine shlR (k:=.u64) (k':=.i64) (a:=1) (b:=x6) kr gE h (fun h=>?_)
     refine sy 1 11 ?_
     refine idxR' (enc:=(AV.int .u64)) (l:=(List.set s10.2.1 (zt x6) (i13_18 a15 x13))) (n:=x13) (w:=1) (ob:=1) (ro:=false) (nr:=true) (fl:=true) (a:=a17) kr kr gE q18 ?_
     refine storeR (enc:=(AV.int .u64)) (l:=(List.set s10.2.1 (zt x6) (i13_18 a15 x13))) (n:=x13) (ob:=1) (w:=1) (bx:=false) (nr:=true) (fl:=true) (c:=0) (a:=a17) (a':=zv (BitVec.ofInt (IntKind.bits .u64) a17 ||| BitVec.ofInt (IntKind.bits .u64) (zv (1*2^min (zt x6) (IntKind.bits .u64)))).toNat) (v:=.int .u64 (i13_19 a17 x6)) false kr kr q18 kr rfl kr gE kr ?_
     refine rknN (n:=(List.set s10.2.1 (zt x6) (i13_18 a15 x13)).length) (m:=(List.set (List.set s10.2.1 (zt x6) (i13_18 a15 x13)) (zt x13) (i13_19 a17 x6)).length) (S:=fun n19=>⟨[e13_33,(7,.ptr 8 0 0),(8,vI x13),(55,.ptr 0 0 0),(56,.ptr 0 0 0),(57,.ptr 0 0 0),(58,.ptr 0 0 0),(59,.ref 1 0 n19),(60,vI x13),(61,.ptr 1 (zt x13) 0),(62,.int .u64 a17),(63,vI x6),(64,.int .u64 (zv (1*2^min (zt x6) (IntKind.bits .u64)))),(65,.int .u64 (i13_19 a17 x6)),(66,.ptr 1 (zt x13) 0)],(l13_36 (oX false false 2 (.agg [.ref 1 0 n19,.int .u64 m1])) (oR true 1 (AV.int .u64) (List.set (List.set s10.2.1 (zt x6) (i13_18 a15 x13)) (zt x13) (i13_19 a17 x6))) (oX false false 1 (.ref 12 0 ((s10.2.2++([(x6,x13)]:(List (Int × Int)))).length))) .dead a1 m0 x6 a8)++[o13_30,.dead,oR true 2 (fun x:(Int × Int)=>AV.agg [vI x.1,vI x.2]) (s10.2.2++([(x6,x13)]:(List (Int × Int))))],71⟩) (by simp only [List.length_set]) ?_
     refine rgd ?_
     refine ⟨⟨[(0,.yld 10),(3,.int .u64 s10.1),(5,.int .u64 s10.1),(6,vB true),(11,.yld 10),(12,.int .u64 s10.1),(13,vI x13),(14,vB true)],(l13_36 (oX false false 2 (.agg [.ref 1 0 ((List.set (List.set s10.2.1 (zt x6) (i13_18 a15 x13)) (zt x13) (i13_19 a17 x6)).length),.int .u64 m1])) (oR true 1 (AV.int .u64) (List.set (List.set s10.2.1 (zt x6) (i13_18 a15 x13)) (zt x13) (i13_19 a17 x6))) (oX false false 1 (.ref 12 0 ((s10.2.2++([(x6,x13)]:(List (Int × Int)))).length))) .dead a1 m0 x6 a8)++[o13_29,.dead,oR true 2 (fun x:(Int × Int)=>AV.agg [vI x.1,vI x.2]) (s10.2.2++([(x6,x13)]:(List (Int × Int))))],16⟩,by as_aux_lemma=>kernel_rfl,?_⟩
     refine sz 1 5 (reg_end rfl (wcF (wp_skip (wg [0,3] [12] (rn ?_)))))
     cases h
     exact ⟨_,rfl,(wk_gc (live:=[0,3]) (keep:=[11]) kr)⟩
    refine wcF (wg [] [11] ?_)
    refine wp_exit ?_
    cases h
    exact ⟨kr,rfl⟩
   intro x22 h out hx
   subst hx
   refine ⟨.go .normal ⟨s13_40,(l13_36 (oX false false 2 (.agg [.ref 1 0 x22.1.length,.int .u64 m1])) (oR true 1 (AV.int .u64) x22.1) (oX false false 1 (.ref 11 0 x22.2.length)) .dead a1 m0 x6 a8)++[.dead,oR true 2 (fun x:(Int × Int)=>AV.agg [vI x.1,vI x.2]) x22.2],71⟩,by as_aux_lemma=>kernel_rfl,?_⟩
   refine ⟨⟨[(0,.yld 6),(3,.int .u64 s3.1),(5,.int .u64 s3.1),(6,vB true),(11,.yld 6),(12,.int .u64 s3.1),(13,vI x6),(14,vB true)],[oX false false 2 (.agg [.ref 1 0 x22.1.length,.int .u64 m1]),oR true 1 (AV.int .u64) x22.1,o13_22,oX false false 1 (.ref 11 0 x22.2.length),(o13_24 a1),(o13_24 a1),(o13_25 m0),.dead,(o13_27 x6),(o13_28 a1 a8 x6),.dead,oR true 2 (fun x:(Int × Int)=>AV.agg [vI x.1,vI x.2]) x22.2],16⟩,by as_aux_lemma=>kernel_rfl,?_⟩
   refine sz 1 5 (reg_end rfl (wcF (wp_skip (wg [0,3] [11] (rn ?_)))))
   cases h
   exact ⟨_,rfl,(wk_gc (live:=[0,3]) (keep:=[7]) kr)⟩
  refine wcF (wg [] [7] ?_)
  refine wp_exit ?_
  cases h
  exact ⟨kr,rfl⟩
 intro x24 h out hx
 subst hx
 refine ⟨.go .normal ⟨(s13_39 m0)++[e13_34],(l13_38 x24 m1 a1),71⟩,by as_aux_lemma=>kernel_rfl,?_⟩
 refine wp_seq (reg_in ?_)
 refine sgz 2 2 (S:=⟨(s13_39 m0)++[e13_34,(67,.ptr 0 0 0),(68,vI m0)],(l13_38 x24 m1 a1),71⟩) ?_
 refine recH (f:=63) (fn:=Tryd.f63) (N:=2) (as0:=[.ptr 0 0 0,vI m0]) (m0,m1,x24.1) (fun v=>[(0,oX false false 2 (.agg [.ref 1 0 v.2.length,.int .u64 v.1])),(1,oR true 1 (AV.int .u64) v.2)]) (fun x25=>⟨(s13_39 m0)++[e13_34,(67,.ptr 0 0 0),(68,vI m0),(69,.tup [])],[(o13_32 x25),oR true 1 (AV.int .u64) x25.2,o13_22,oX false false 1 (.ref 7 0 x24.2.length),(o13_24 a1),(o13_24 a1),.dead,(o13_31 x24)],71⟩) [0,1] kr Tryd.func63 rfl (by decide +kernel) rfl kr rfl kr kr (ok_all kr) (fun _=>kr) (fun v=>ok_all kr) kr (fun _=>kr) (fun _=>rfl) kr g_order_graph_remove_m0_ok h (fun _=>kr) (fun x25 h=>?_)
 refine reg_end rfl (wp_seq (wg [5] [3,7] (rn ?_)))
 refine wgc [4] [3] ⟨[(4,.ref 2 0 x24.2.length)],[(o13_32 x25),oR true 1 (AV.int .u64) x25.2,(o13_31 x24)],71⟩ ?_
 refine wp_ret ?_
 cases h
 refine ⟨⟨[(4,eL true (fun x:(Int × Int)=>AV.agg [vI x.1,vI x.2]) x24.2)],[(o13_32 x25),oR true 1 (AV.int .u64) x25.2],71⟩,(wk_trans (wk_gc (live:=[4]) (keep:=[2]) (st':=⟨[(4,.ref 2 0 x24.2.length)],[(o13_32 x25),oR true 1 (AV.int .u64) x25.2,(o13_31 x24)],71⟩) (by kernel_rfl)) (wk_trans (wk_snap (st':=⟨[(4,eL true (fun x:(Int × Int)=>AV.agg [vI x.1,vI x.2]) x24.2)],[(o13_32 x25),oR true 1 (AV.int .u64) x25.2,.row false true true true 2 (List.map (fun x:(Int × Int)=>AV.agg [vI x.1,vI x.2]) x24.2)],71⟩) 4 (y:=eL true (fun x:(Int × Int)=>AV.agg [vI x.1,vI x.2]) x24.2) (ids:=[2]) rfl (snap_full (w:=2) (bx:=false) (ro:=false) (enc:=(fun x:(Int × Int)=>AV.agg [vI x.1,vI x.2])) (l:=x24.2) (fl:=true) kr) (by kernel_rfl)) (wk_gc (live:=[4]) (keep:=[]) (st':=⟨[(4,eL true (fun x:(Int × Int)=>AV.agg [vI x.1,vI x.2]) x24.2)],[(o13_32 x25),oR true 1 (AV.int .u64) x25.2],71⟩) (by kernel_rfl)))),?_⟩
 exact .inl (by kernel_rfl)
noncomputable abbrev o14_41 (x1 p0:(List Int)):AObj:=oX false false 2 (.agg [.ref 1 0 x1.length,.int .u64 (zv ((zv (1*2^min (zt (zn p0)) (IntKind.bits .u64))) - 1))])
theorem g_order_run_ok (p0:(List Int)) (p1:(List Int)) (x:((List (Int × Int)) × Int)) (h:g_order_run p0 p1=some x):CallOk Tryd.prog 48 [eL true (AV.int .u64) p0,z1 p1] (.ret (.tup [.ref 0 0 x.1.length,vI x.2]) [oR true 2 (fun x:(Int × Int)=>AV.agg [vI x.1,vI x.2]) x.1]):=by
 refine fn_ok [] Tryd.func48 rfl (by decide +kernel) rfl ?_
 unfold g_order_run at h
 refine wp_eqB (base':=0) (st':=⟨[(0,eL true (AV.int .u64) p0),(1,z1 p1)],[],30⟩) kr kr ?_
 refine sq (wp_seq (reg_in (sz 1 1 ?_)))
 refine inlR (f:=57) (fn:=Tryd.f57) (as0:=[eL true (AV.int .u64) p0]) kr Tryd.func57 rfl (by decide +kernel) rfl ?_
 refine wp_eqB (base':=0) (st':=⟨[(0,eL true (AV.int .u64) p0)],[],12⟩) kr kr ?_
 refine sq (wp_seq (rga hfol (sy 1 1 ?_)))
 refine callW bodyB_38 (g_slices_Clone_uint_uint_ok p0) h (fun x1 _ h=>?_)
 refine sy 2 4 ?_
 refine lenL (enc:=(AV.int .u64)) (l:=p0) (fl:=true) kr gE ?_
 refine shlR (k:=.u64) (k':=.i64) (a:=1) (b:=(zn p0)) kr gE h (fun h=>?_)
 refine sy 2 8 ?_
 refine sgL false [] [] false gE ?_
 refine sy 1 10 (rgd (wg [2] [1,0] ?_))
 refine wp_ret ?_
 refine ⟨⟨[(0,eL true (AV.int .u64) p0),(1,z1 p1),(4,.nils),(5,vI 0),(9,eL true (AV.int .u64) p0),(10,.ptr 0 0 0)],[(o14_41 x1 p0),oR true 1 (AV.int .u64) x1],30⟩,by as_aux_lemma=>kernel_rfl,?_⟩
 refine sz 1 3 (reg_end rfl (wp_seq (wp_seq (reg_in (sz 1 1 ?_)))))
 refine lenL (enc:=eI) (l:=p1) (fl:=true) kr gE ?_
 refine sz 1 3 (reg_end rfl (wp_block ?_))
 refine wwh h (fun s3=>⟨[(4,.ref 2 0 s3.2.2.2.2.length),(5,vI s3.1),(6,.ptr 0 0 0),(11,z1 p1),(12,vI (zn p1)),(13,vI s3.2.1)],[oX false false 2 (.agg [.ref 1 0 s3.2.2.2.1.length,.int .u64 s3.2.2.1]),oR true 1 (AV.int .u64) s3.2.2.2.1,oR true 2 (fun x:(Int × Int)=>AV.agg [vI x.1,vI x.2]) s3.2.2.2.2],30⟩) (fun v out=>out=.go (.exit 0) ⟨[(4,.ref 0 0 v.2.length),(5,vI v.1)],[oR true 2 (fun x:(Int × Int)=>AV.agg [vI x.1,vI x.2]) v.2],30⟩) (wk_trans (wk_gc (live:=[4,5,6,11,12,13]) (keep:=[0,1]) (st':=⟨[(4,.nils),(5,vI 0),(6,.ptr 0 0 0),(11,z1 p1),(12,vI (zn p1)),(13,vI 0)],[(o14_41 x1 p0),oR true 1 (AV.int .u64) x1],30⟩) kr) (wk_trans (wk_nil 4 2 true true (st':=⟨[(4,.ref 2 0 0),(5,vI 0),(6,.ptr 0 0 0),(11,z1 p1),(12,vI (zn p1)),(13,vI 0)],[(o14_41 x1 p0),oR true 1 (AV.int .u64) x1,.row false false true true 2 []],30⟩) kr) (wk_gc (live:=[4,5,6,11,12,13]) (keep:=[0,1,2]) kr))) ?_ ?_
 ·intro s3 o h
  unfold g_order_run_b0 at h
  refine sq (wp_seq ?_)
  refine wb [14] h (fun q5 h=>?_) (fun q5 h=>?_)
  ·refine wcT (wp_skip (wp_seq (wp_block (wp_seq (reg_in ?_)))))
   refine bind_elim h (fun a6 q7 h=>?_)
   refine idxL' (enc:=eI) (l:=p1) (n:=s3.2.1) (fl:=true) (w:=1) (a:=a6) kr rfl gE q7 ?_
   refine sz 2 3 (reg_end rfl (wp_seq (reg_in ?_)))
   refine sgz 3 3 (S:=⟨[(4,.ref 2 0 s3.2.2.2.2.length),(5,vI s3.1),(6,.ptr 0 0 0),(11,z1 p1),(12,vI (zn p1)),(13,vI s3.2.1),(14,vB true),(15,.fz [vI a6]),(16,vI a6),(8,vI a6),(17,vI s3.1),(18,.ptr 0 0 0),(19,vI a6)],[oX false false 2 (.agg [.ref 1 0 s3.2.2.2.1.length,.int .u64 s3.2.2.1]),oR true 1 (AV.int .u64) s3.2.2.2.1,oR true 2 (fun x:(Int × Int)=>AV.agg [vI x.1,vI x.2]) s3.2.2.2.2],30⟩) ?_
   refine callR (as0:=[.ptr 0 0 0,vI a6]) (ids:=[0,1]) kr bodyB_60 (msnap_cons (snap_ptr rfl (msnap_cons (snap_agg (msnap_cons (snap_full (w:=1) (bx:=false) (ro:=false) (enc:=(AV.int .u64)) (l:=s3.2.2.2.1) (fl:=true) kr) (msnap_cons rfl msnap_nil (by rfl)) (by rfl))) msnap_nil (by rfl)) (by rfl) (by rfl)) (msnap_cons rfl msnap_nil (by rfl)) (by rfl)) (fun x8 q9=>g_order_graph_degree_ok (Torder_graph.mk (Torder_neighbours.mk s3.2.2.2.1) s3.2.2.1) a6 x8 q9) gF h (fun x8 q9 h=>?_)
   refine sz 2 6 (reg_end rfl (wg [4,5,6,11,12,13,8] [0,1,2] (reg_in ?_)))
   refine sgz 3 3 (S:=⟨[(4,.ref 2 0 s3.2.2.2.2.length),(5,vI (if x8 > s3.1 then x8 else s3.1)),(6,.ptr 0 0 0),(11,z1 p1),(12,vI (zn p1)),(13,vI s3.2.1),(8,vI a6),(22,.ref 2 0 s3.2.2.2.2.length),(23,.ptr 0 0 0),(24,vI a6)],[oX false false 2 (.agg [.ref 1 0 s3.2.2.2.1.length,.int .u64 s3.2.2.1]),oR true 1 (AV.int .u64) s3.2.2.2.1,oR true 2 (fun x:(Int × Int)=>AV.agg [vI x.1,vI x.2]) s3.2.2.2.2],30⟩) ?_
   refine recH (f:=79) (fn:=Tryd.f79) (N:=2) (as0:=[.ptr 0 0 0,vI a6]) (a6,s3.2.2.1,s3.2.2.2.1) (fun v=>[(0,oX false false 2 (.agg [.ref 1 0 v.2.2.length,.int .u64 v.2.1])),(1,oR true 1 (AV.int .u64) v.2.2)]) (fun x10=>⟨[(4,.ref 2 0 s3.2.2.2.2.length),(5,vI (if x8 > s3.1 then x8 else s3.1)),(6,.ptr 0 0 0),(11,z1 p1),(12,vI (zn p1)),(13,vI s3.2.1),(8,vI a6),(22,.ref 2 0 s3.2.2.2.2.length),(23,.ptr 0 0 0),(24,vI a6),(25,eL true (fun x:(Int × Int)=>AV.agg [vI x.1,vI x.2]) x10.1)],[oX false false 2 (.agg [.ref 1 0 x10.2.2.length,.int .u64 x10.2.1]),oR true 1 (AV.int .u64) x10.2.2,oR true 2 (fun x:(Int × Int)=>AV.agg [vI x.1,vI x.2]) s3.2.2.2.2],30⟩) [0,1] kr Tryd.func79 rfl (by decide +kernel) rfl kr rfl kr kr (ok_all kr) (fun _=>kr) (fun v=>ok_all kr) kr (fun _=>kr) (fun _=>rfl) kr g_order_graph_eliminate_m0_ok h (fun _=>kr) (fun x10 h=>?_)
   refine appR (enc:=(fun x:(Int × Int)=>AV.agg [vI x.1,vI x.2])) (l:=s3.2.2.2.2) (m:=x10.1) (w:=2) (bytes:=16) (ob:=2) (nr:=true) (fl:=true) (nr':=true) (fl':=true) (b:=eL true (fun x:(Int × Int)=>AV.agg [vI x.1,vI x.2]) x10.1) (rds:=[]) false kr kr (elems_lst (fun _=>rfl)) rfl gE kr h (fun h=>?_)
   refine sz 1 6 (reg_end rfl (wg [4,5,6,11,12,13] [0,1,3] (rn ?_)))
   cases h
   exact ⟨_,rfl,(wk_gc (live:=[4,5,6,11,12,13]) (keep:=[0,1,2]) kr)⟩
  refine wcF (wg [4,5] [2] ?_)
  refine wp_exit ?_
  cases h
  exact ⟨kr,rfl⟩
 intro x12 h out hx
 subst hx
 refine sq (wg [4,5] [0] ?_)
 cases h
 exact wp_ret (show fnOut _ _ _ _=_ from by kernel_rfl)
theorem g_cmp_Or_int_ok (p0:(List Int)) (x:Int) (h:g_cmp_Or_int p0=some x):CallOk Tryd.prog 51 [z1 p0] (.ret (vI x) []):=by
 refine fn_ok [] Tryd.func51 rfl (by decide +kernel) rfl ?_
 unfold g_cmp_Or_int at h
 refine wp_eqB (base':=0) (st':=⟨[(0,z1 p0)],[],18⟩) kr kr ?_
 refine sq (sq (wp_seq (wp_seq (reg_in (sz 1 1 ?_)))))
 refine lenL (enc:=eI) (l:=p0) (fl:=true) kr gE ?_
 refine sz 1 3 (reg_end rfl (wp_block ?_))
 refine wwh h (fun s1=>⟨[(3,vI 0),(6,z1 p0),(7,vI (zn p0)),(8,vI s1)],[],18⟩) (fun x out=>out=match x with | .inl v=>.go (.ret) ⟨[(2,vI v)],[],18⟩ | .inr v=>.go (.exit 0) ⟨[(3,vI 0)],[],18⟩) (wk_gc (live:=[3,6,7,8]) (keep:=[]) kr) ?_ ?_
 ·intro s1 o h
  unfold g_cmp_Or_int_b0 at h
  refine sq (wp_seq ?_)
  refine wb [9] h (fun q3 h=>?_) (fun q3 h=>?_)
  ·refine wcT (wp_skip (wp_seq (wp_block (wp_seq (reg_in ?_)))))
   refine bind_elim h (fun a4 q5 h=>?_)
   refine idxL' (enc:=eI) (l:=p0) (n:=s1) (fl:=true) (w:=1) (a:=a4) kr rfl gE q5 ?_
   refine sz 2 3 (reg_end rfl (sq ?_))
   refine wbz h (fun q7 h=>?_) (fun q7 h=>?_)
   ·refine wp_seq ?_
    refine wgc [5] [] ⟨[(5,vI a4)],[],18⟩ ?_
    refine rn (wg [2] [] ?_)
    refine wp_ret ?_
    cases h
    exact ⟨kr,rfl⟩
   refine wp_skip ?_
   refine wgc [3,6,7,8] [] ⟨[(3,vI 0),(6,z1 p0),(7,vI (zn p0)),(8,vI s1)],[],18⟩ ?_
   refine rn ?_
   cases h
   exact ⟨_,rfl,(wk_gc (live:=[3,6,7,8]) (keep:=[]) kr)⟩
  refine wcF (wg [3] [] ?_)
  refine wp_exit ?_
  cases h
  exact ⟨kr,rfl⟩
 intro x8 h out hx
 subst hx
 rcases x8 with x9 | x10
 ·dsimp only at h ⊢
  cases h
  show fnOut _ _ _ _=_
  kernel_rfl
 ·dsimp only at h ⊢
  refine sq (wg [2] [] ?_)
  cases h
  exact wp_ret (show fnOut _ _ _ _=_ from by kernel_rfl)
theorem g_cmp_isNaN_int_ok (p0:Int) (x:Bool) (h:g_cmp_isNaN_int p0=some x):CallOk Tryd.prog 82 [vI p0] (.ret (vB x) []):=by
 refine fn_ok [] Tryd.func82 rfl (by decide +kernel) rfl ?_
 unfold g_cmp_isNaN_int at h
 refine wp_eqB (base':=0) (st':=⟨[(0,vI p0)],[],6⟩) kr kr ?_
 refine sq (sq (wg [2] [] ?_))
 cases h
 exact wp_ret (show fnOut _ _ _ _=_ from by kernel_rfl)
theorem g_cmp_Compare_int_ok (p0:Int) (p1:Int) (x:Int) (h:g_cmp_Compare_int p0 p1=some x):CallOk Tryd.prog 52 [vI p0,vI p1] (.ret (vI x) []):=by
 refine fn_ok [] Tryd.func52 rfl (by decide +kernel) rfl ?_
 unfold g_cmp_Compare_int at h
 refine wp_eqB (base':=0) (st':=⟨[(0,vI p0),(1,vI p1)],[],20⟩) kr kr ?_
 refine sq (wp_seq (reg_in (sz 1 1 ?_)))
 refine callW bodyB_82 (g_cmp_isNaN_int_ok p0) h (fun x1 _ h=>?_)
 refine sz 1 3 (reg_end rfl (wp_seq (reg_in (sz 1 1 ?_))))
 refine callW bodyB_82 (g_cmp_isNaN_int_ok p1) h (fun x3 _ h=>?_)
 refine sz 1 3 (reg_end rfl (wp_seq (wp_seq (wg [0,1,5,6] [] (rn ?_)))))
 refine wb [5,11] h (fun q6 h=>?_) (fun q6 h=>?_)
 ·refine wcT (wp_seq (sq ?_))
  refine wbz h (fun q8 h=>?_) (fun q8 h=>?_)
  ·refine wp_seq ?_
   refine wgc [] [] ⟨[],[],20⟩ ?_
   refine rn (wg [4] [] ?_)
   cases h
   exact wp_ret (show fnOut _ _ _ _=_ from by kernel_rfl)
  refine wp_skip (wp_seq ?_)
  refine wgc [] [] ⟨[],[],20⟩ ?_
  refine rn (wg [4] [] ?_)
  cases h
  exact wp_ret (show fnOut _ _ _ _=_ from by kernel_rfl)
 refine wcF (wp_skip (wp_seq (sq ?_)))
 refine wb [6,13] h (fun q10 h=>?_) (fun q10 h=>?_)
 ·refine wcT (wp_seq ?_)
  refine wgc [] [] ⟨[],[],20⟩ ?_
  refine rn (wg [4] [] ?_)
  cases h
  exact wp_ret (show fnOut _ _ _ _=_ from by kernel_rfl)
 refine wcF (wp_skip (wp_seq (sq ?_)))
 refine wbz h (fun q12 h=>?_) (fun q12 h=>?_)
 ·refine wp_seq ?_
  refine wgc [] [] ⟨[],[],20⟩ ?_
  refine rn (wg [4] [] ?_)
  cases h
  exact wp_ret (show fnOut _ _ _ _=_ from by kernel_rfl)
 refine wp_skip (wp_seq (wp_seq ?_))
 refine wgc [0,1] [] ⟨[(0,vI p0),(1,vI p1)],[],20⟩ ?_
 refine rn ?_
 refine wbz h (fun q14 h=>?_) (fun q14 h=>?_)
 ·refine wp_seq (wg [] [] (rn (wg [4] [] ?_)))
  cases h
  exact wp_ret (show fnOut _ _ _ _=_ from by kernel_rfl)
 refine wp_skip (wp_seq (wg [] [] (rn (wg [4] [] ?_))))
 cases h
 exact wp_ret (show fnOut _ _ _ _=_ from by kernel_rfl)
theorem g_order_Fill_1_ok (p0:(Int × Int)) (p1:(Int × Int)) (x:Int) (h:g_order_Fill_1 p0 p1=some x):CallOk Tryd.prog 50 [.agg [vI p0.1,vI p0.2],.agg [vI p1.1,vI p1.2]] (.ret (vI x) []):=by
 refine fn_ok [] Tryd.func50 rfl (by decide +kernel) rfl ?_
 unfold g_order_Fill_1 at h
 refine wp_eqB (base':=0) (st':=⟨[(0,.agg [vI p0.1,vI p0.2]),(1,.agg [vI p1.1,vI p1.2])],[],17⟩) kr kr ?_
 refine sq (wp_seq (rga hfol (sy 4 4 ?_)))
 refine callW bodyB_52 (g_cmp_Compare_int_ok p0.1 p1.1) h (fun x1 _ h=>?_)
 refine sy 4 9 ?_
 refine callW bodyB_52 (g_cmp_Compare_int_ok p0.2 p1.2) h (fun x3 _ h=>?_)
 refine sgL false [] [] true gE ?_
 refine callR (as0:=[.ref 2 0 2]) (ids:=[2]) kr bodyB_51 (msnap_cons (show snap _ _ _=some (_,[2]) from kr) msnap_nil (by rfl)) (fun x5 q6=>g_cmp_Or_int_ok [x1,x3] x5 q6) gF h (fun x5 q6 h=>?_)
 refine sy 1 13 (rgd ?_)
 refine wgc [4] [] ⟨[(4,vI x5)],[],17⟩ ?_
 cases h
 exact wp_ret (show fnOut _ _ _ _=_ from by kernel_rfl)
theorem g_order_Fill_ok (p0:(List Int)) (p1:(List Int)) (x:((List (Int × Int)) × Int)) (h:g_order_Fill p0 p1=some x):CallOk Tryd.prog 16 [eL true (AV.int .u64) p0,z1 p1] (.ret (.tup [.ref 0 0 x.1.length,vI x.2]) [oR true 2 (fun x:(Int × Int)=>AV.agg [vI x.1,vI x.2]) x.1]):=by
 refine fn_ok [] Tryd.func16 rfl (by decide +kernel) rfl ?_
 unfold g_order_Fill at h
 refine wp_eqB (base':=0) (st':=⟨[(0,eL true (AV.int .u64) p0),(1,z1 p1)],[],24⟩) kr kr ?_
 refine sq (wp_seq (wp_seq (reg_in (sz 2 2 ?_))))
 refine callW bodyB_47 (g_order_read_ok p0 p1) h (fun x1 _ h=>?_)
 refine sz 1 4 (reg_end rfl (wp_seq (wg [0,1,6] [] (rn ?_))))
 refine wb [13] h (fun q4 h=>?_) (fun q4 h=>?_)
 ·refine wcT (sq ?_)
  refine wgc [4,5] [] ⟨[(4,.nils),(5,vI x1)],[],24⟩ ?_
  refine wp_wk (wk_nil 4 2 true true gE) ?_
  cases h
  exact wp_ret (show fnOut _ _ _ _=_ from by kernel_rfl)
 refine wcF (wp_skip (wp_seq (reg_in (sz 2 2 ?_))))
 refine callW bodyB_48 (g_order_run_ok p0 p1) h (fun x5 _ h=>?_)
 refine sz 5 8 (reg_end rfl (wp_seq ?_))
 refine wgc [7] [0] ⟨[(7,.ref 0 0 x5.1.length)],[oR true 2 (fun x:(Int × Int)=>AV.agg [vI x.1,vI x.2]) x5.1],24⟩ ?_
 refine reg_in ?_
 refine sgz 1 1 (S:=⟨[(7,.ref 0 0 x5.1.length),(21,.ref 0 0 x5.1.length)],[oR true 2 (fun x:(Int × Int)=>AV.agg [vI x.1,vI x.2]) x5.1],24⟩) ?_
 refine sortR (enc:=(fun x:(Int × Int)=>AV.agg [vI x.1,vI x.2])) (k:=2) (o:=0) (fl:=true) (l:=x5.1) (fn:=Tryd.f49) (gfn:=Tryd.f50) (S:=fun n8 x7=>⟨[(7,.ref 0 0 n8),(21,.ref 0 0 n8),(22,.tup [])],[oR true 2 (fun x:(Int × Int)=>AV.agg [vI x.1,vI x.2]) x7],24⟩) Go.Proofs.sort08 order08 (fun x y r h=>g_order_Fill_1_ok x y r h) kr kr kr (fun _=>by as_aux_lemma=>kernel_rfl) Tryd.func49 rfl (by decide +kernel) Tryd.func50 rfl (by decide +kernel) Tryd.isAgg70 Tryd.sizeOf70 (fun _=>rfl) (fun _=>rfl) (by intro x y hy; simp [AV.flat] at hy; rcases hy with rfl | rfl <;> rfl) h (fun x7 h=>?_)
 refine reg_end rfl (sq (wg [4,5] [0] ?_))
 cases h
 exact wp_ret (show fnOut _ _ _ _=_ from by kernel_rfl)
theorem g_order_Width_ok (p0:(List Int)) (p1:(List Int)) (x:(Int × Int)) (h:g_order_Width p0 p1=some x):CallOk Tryd.prog 17 [eL true (AV.int .u64) p0,z1 p1] (.ret (.tup [vI x.1,vI x.2]) []):=by
 refine fn_ok [] Tryd.func17 rfl (by decide +kernel) rfl ?_
 unfold g_order_Width at h
 refine wp_eqB (base':=0) (st':=⟨[(0,eL true (AV.int .u64) p0),(1,z1 p1)],[],22⟩) kr kr ?_
 refine sq (wp_seq (wp_seq (reg_in (sz 2 2 ?_))))
 refine callW bodyB_47 (g_order_read_ok p0 p1) h (fun x1 _ h=>?_)
 refine sz 1 4 (reg_end rfl (wp_seq (wg [0,1,6] [] (rn ?_))))
 refine wb [13] h (fun q4 h=>?_) (fun q4 h=>?_)
 ·refine wcT (sq ?_)
  refine wgc [4,5] [] ⟨[(4,vI 0),(5,vI x1)],[],22⟩ ?_
  cases h
  exact wp_ret (show fnOut _ _ _ _=_ from by kernel_rfl)
 refine wcF (wp_skip (wp_seq (reg_in (sz 2 2 ?_))))
 refine callW bodyB_48 (g_order_run_ok p0 p1) h (fun x5 _ h=>?_)
 refine sz 5 8 (reg_end rfl (wp_seq ?_))
 refine wgc [8] [] ⟨[(8,vI x5.2)],[],22⟩ ?_
 refine rn (wg [4,5] [] ?_)
 cases h
 exact wp_ret (show fnOut _ _ _ _=_ from by kernel_rfl)
end Go.Ab
