/- What functions compute. No conditions. -/
import Derived.Test.YtjhfdojgaoapcaaDoorProg
import Derived.Shelf.SlSortCmp.NoneTotal
import Derived.Test.YtjhfdojgaoapcaaDoorW9
import Derived.KernelRfl
set_option linter.all false
namespace Go.Proofs
open Go.Shelf
def sort08_ren:Go.Shelf.Ren:=⟨fun | 6=>49 | 15=>81 | 14=>80 | 28=>96 | 29=>97 | 20=>88 | 21=>89 | 22=>90 | 23=>91 | 24=>92 | 25=>93 | 26=>94 | 27=>95 | 46=>102 | 47=>103 | 48=>104 | 49=>105 | 50=>106 | 57=>107 | n=>n,fun | 22=>36 | 24=>70 | 25=>85 | 3=>3 | 39=>62 | 0=>0 | 53=>126 | 55=>128 | 4=>4 | 46=>120 | 45=>119 | 50=>106 | 5=>5 | 9=>9 | 66=>129 | 70=>133 | 76=>137 | 77=>138 | n=>n,fun | n=>n⟩
theorem sort08:Go.Proofs.SlLaysF0.n6 Tryd.prog sort08_ren:={
 mixed:=by kernel_rfl,
 f6:=⟨Tryd.f49.name,by decide,Tryd.func49.trans (congrArg some (by kernel_rfl))⟩,
 f14:=⟨Tryd.f80.name,by decide,Tryd.func80.trans (congrArg some (by kernel_rfl))⟩,
 f15:=Tryd.func81.trans (congrArg some (by kernel_rfl)),
 f20:=⟨Tryd.f88.name,by decide,Tryd.func88.trans (congrArg some (by kernel_rfl))⟩,
 f21:=⟨Tryd.f89.name,by decide,Tryd.func89.trans (congrArg some (by kernel_rfl))⟩,
 f22:=⟨Tryd.f90.name,by decide,Tryd.func90.trans (congrArg some (by kernel_rfl))⟩,
 f23:=⟨Tryd.f91.name,by decide,Tryd.func91.trans (congrArg some (by kernel_rfl))⟩,
 f24:=⟨Tryd.f92.name,by decide,Tryd.func92.trans (congrArg some (by kernel_rfl))⟩,
 f25:=⟨Tryd.f93.name,by decide,Tryd.func93.trans (congrArg some (by kernel_rfl))⟩,
 f26:=⟨Tryd.f94.name,by decide,Tryd.func94.trans (congrArg some (by kernel_rfl))⟩,
 f27:=⟨Tryd.f95.name,by decide,Tryd.func95.trans (congrArg some (by kernel_rfl))⟩,
 f28:=Tryd.func96.trans (congrArg some (by kernel_rfl)),
 f29:=Tryd.func97.trans (congrArg some (by kernel_rfl)),
 f46:=⟨Tryd.f102.name,by decide,Tryd.func102.trans (congrArg some (by kernel_rfl))⟩,
 f47:=Tryd.func103.trans (congrArg some (by kernel_rfl)),
 f48:=Tryd.func104.trans (congrArg some (by kernel_rfl)),
 f49:=⟨Tryd.f105.name,by decide,Tryd.func105.trans (congrArg some (by kernel_rfl))⟩,
 f50:=⟨Tryd.f106.name,by decide,Tryd.func106.trans (congrArg some (by kernel_rfl))⟩,
 f57:=⟨Tryd.f107.name,by decide,Tryd.func107.trans (congrArg some (by kernel_rfl))⟩,
 t0:=Tryd.underlying0,
 a0:=Tryd.isAgg0,
 z0:=Tryd.sizeOf0,
 v0:=Tryd.zeroValue0,
 t3:=Tryd.underlying3,
 a3:=Tryd.isAgg3,
 z3:=Tryd.sizeOf3,
 v3:=Tryd.zeroValue3,
 t4:=Tryd.underlying4,
 a4:=Tryd.isAgg4,
 z4:=Tryd.sizeOf4,
 v4:=Tryd.zeroValue4,
 t5:=Tryd.underlying5,
 a5:=Tryd.isAgg5,
 z5:=Tryd.sizeOf5,
 v5:=Tryd.zeroValue5,
 t9:=Tryd.underlying9,
 a9:=Tryd.isAgg9,
 z9:=Tryd.sizeOf9,
 v9:=Tryd.zeroValue9,
 t22:=Tryd.underlying36,
 a22:=Tryd.isAgg36,
 z22:=Tryd.sizeOf36,
 v22:=Tryd.zeroValue36,
 t25:=Tryd.underlying85,
 a25:=Tryd.isAgg85,
 z25:=Tryd.sizeOf85,
 v25:=Tryd.zeroValue85,
 t39:=Tryd.underlying62,
 a39:=Tryd.isAgg62,
 z39:=Tryd.sizeOf62,
 v39:=Tryd.zeroValue62,
 t45:=Tryd.underlying119,
 a45:=Tryd.isAgg119,
 z45:=Tryd.sizeOf119,
 v45:=Tryd.zeroValue119,
 t46:=Tryd.underlying120,
 a46:=Tryd.isAgg120,
 z46:=Tryd.sizeOf120,
 v46:=Tryd.zeroValue120,
 t50:=Tryd.underlying106,
 a50:=Tryd.isAgg106,
 z50:=Tryd.sizeOf106,
 v50:=Tryd.zeroValue106,
 t53:=Tryd.underlying126,
 a53:=Tryd.isAgg126,
 z53:=Tryd.sizeOf126,
 v53:=Tryd.zeroValue126,
 t55:=Tryd.underlying128,
 a55:=Tryd.isAgg128,
 z55:=Tryd.sizeOf128,
 v55:=Tryd.zeroValue128,
 t66:=Tryd.underlying129,
 a66:=Tryd.isAgg129,
 z66:=Tryd.sizeOf129,
 v66:=Tryd.zeroValue129,
 t70:=Tryd.underlying133,
 a70:=Tryd.isAgg133,
 z70:=Tryd.sizeOf133,
 v70:=Tryd.zeroValue133,
 t76:=Tryd.underlying137,
 a76:=Tryd.isAgg137,
 z76:=Tryd.sizeOf137,
 v76:=Tryd.zeroValue137,
 t77:=Tryd.underlying138,
 a77:=Tryd.isAgg138,
 z77:=Tryd.sizeOf138,
 v77:=Tryd.zeroValue138 }
end Go.Proofs
namespace Go.Ab
open Go
theorem cmp_val (a b:Int):g_cmp_Compare_int a b=some (if a < b then -1 else if b < a then 1 else 0):=by
 unfold g_cmp_Compare_int g_cmp_isNaN_int
 simp only [bne_self_eq_false,Option.bind_some,Bool.false_eq_true,if_false]
 by_cases h1:a < b
 ·simp [h1]
 ·by_cases h2:b < a
  ·simp [h1,h2]
  ·simp [h1,h2]
theorem or_val (a b:Int) (ha:a=-1∨a=1∨a=0) (hb:b=-1∨b=1∨b=0):g_cmp_Or_int [a,b]=some (if a=0 then b else a):=by
 rcases ha with rfl | rfl | rfl <;> rcases hb with rfl | rfl | rfl <;> kernel_rfl
theorem fill_val (x y:Int × Int):g_order_Fill_1 x y=some (if x.1 < y.1 then -1 else if y.1 < x.1 then 1 else if x.2 < y.2 then -1 else if y.2 < x.2 then 1 else 0):=by
 have tri:∀a b:Int,(if a < b then (-1:Int) else if b < a then 1 else 0)=-1∨(if a < b then (-1:Int) else if b < a then 1 else 0)=1∨(if a < b then (-1:Int) else if b < a then 1 else 0)=0:=fun a b=>by
  by_cases h1:a < b
  ·exact .inl (by rw [if_pos h1])
  ·by_cases h2:b < a
   ·exact .inr (.inl (by rw [if_neg h1,if_pos h2]))
   ·exact .inr (.inr (by rw [if_neg h1,if_neg h2]))
 unfold g_order_Fill_1
 rw [cmp_val,cmp_val]
 simp only [Option.bind_some]
 rw [or_val _ _ (tri _ _) (tri _ _)]
 simp only [Option.bind_some,Option.some.injEq]
 by_cases h1:x.1 < y.1
 ·simp [h1]
 ·by_cases h2:y.1 < x.1
  ·simp [h1,h2]
  ·simp [h1,h2]
theorem order08:CmpOk goodP g_order_Fill_1 leP where
 tot x y _ _:=⟨_,fill_val x y,by
  unfold leP
  by_cases h1:x.1 < y.1
  ·simp [h1]; omega
  ·by_cases h2:y.1 < x.1
   ·simp [h1,h2]
   ·have e:y.1=x.1:=by omega
    by_cases h3:x.2 < y.2
    ·simp [e,h3]
    ·by_cases h4:y.2 < x.2
     ·simp [e,h3,h4]
     ·simp [e,h3,h4]⟩
 trans x y z h1 h2:=by
  unfold leP at *
  simp only [Bool.or_eq_true,Bool.and_eq_true,decide_eq_true_eq,beq_iff_eq] at *
  omega
 total x y:=by
  unfold leP
  simp only [Bool.or_eq_true,Bool.and_eq_true,decide_eq_true_eq,beq_iff_eq]
  omega
 anti x y h1 h2:=by
  unfold leP at *
  simp only [Bool.or_eq_true,Bool.and_eq_true,decide_eq_true_eq,beq_iff_eq] at *
  obtain ⟨a,b⟩:=x; obtain ⟨c,d⟩:=y
  simp only [Prod.mk.injEq] at *
  omega
end Go.Ab
namespace Go.Ab
open Go Go.Proofs
set_option maxRecDepth 100000
set_option maxHeartbeats 4000000
theorem hfol:(Tryd.prog.follows .mixedOrders)=true:=by kernel_rfl
theorem bodyB_11:bodyB Tryd.prog 11=true:=by kernel_rfl
theorem bodyB_14:bodyB Tryd.prog 14=true:=by kernel_rfl
theorem bodyB_16:bodyB Tryd.prog 16=true:=by kernel_rfl
theorem bodyB_17:bodyB Tryd.prog 17=true:=by kernel_rfl
theorem bodyB_22:bodyB Tryd.prog 22=true:=by kernel_rfl
theorem bodyB_23:bodyB Tryd.prog 23=true:=by kernel_rfl
theorem bodyB_24:bodyB Tryd.prog 24=true:=by kernel_rfl
theorem bodyB_25:bodyB Tryd.prog 25=true:=by kernel_rfl
theorem bodyB_31:bodyB Tryd.prog 31=true:=by kernel_rfl
theorem bodyB_34:bodyB Tryd.prog 34=true:=by kernel_rfl
theorem bodyB_35:bodyB Tryd.prog 35=true:=by kernel_rfl
theorem bodyB_38:bodyB Tryd.prog 38=true:=by kernel_rfl
theorem bodyB_47:bodyB Tryd.prog 47=true:=by kernel_rfl
theorem bodyB_48:bodyB Tryd.prog 48=true:=by kernel_rfl
theorem bodyB_51:bodyB Tryd.prog 51=true:=by kernel_rfl
theorem bodyB_52:bodyB Tryd.prog 52=true:=by kernel_rfl
theorem bodyB_59:bodyB Tryd.prog 59=true:=by kernel_rfl
theorem bodyB_60:bodyB Tryd.prog 60=true:=by kernel_rfl
theorem bodyB_69:bodyB Tryd.prog 69=true:=by kernel_rfl
theorem bodyB_71:bodyB Tryd.prog 71=true:=by kernel_rfl
theorem bodyB_75:bodyB Tryd.prog 75=true:=by kernel_rfl
theorem bodyB_82:bodyB Tryd.prog 82=true:=by kernel_rfl
theorem bodyB_84:bodyB Tryd.prog 84=true:=by kernel_rfl
theorem bodyB_86:bodyB Tryd.prog 86=true:=by kernel_rfl
theorem bodyB_99:bodyB Tryd.prog 99=true:=by kernel_rfl
theorem bodyB_101:bodyB Tryd.prog 101=true:=by kernel_rfl
theorem g_order_Check_ok (p0:(List Int)) (x:Int) (h:g_order_Check p0=some x):CallOk Tryd.prog 14 [eL true (AV.int .u64) p0] (.ret (vI x) []):=by
 refine fn_ok [] Tryd.func14 rfl (by decide +kernel) rfl ?_
 unfold g_order_Check at h
 refine wp_eqB (base':=0) (st':=⟨[(0,eL true (AV.int .u64) p0)],[],52⟩) kr kr ?_
 refine sq (wp_seq (wp_seq (reg_in (sz 1 1 ?_))))
 refine lenL (enc:=(AV.int .u64)) (l:=p0) (fl:=true) kr gE ?_
 refine sz 2 4 (rwg [0,9] [] ?_)
 refine rb [9] h (fun q2 h=>?_) (fun q2 h=>?_)
 ·refine sz 4 8 (reg_end rfl (wcT (wp_seq ?_)))
  refine wgc [] [] ⟨[],[],52⟩ ?_
  refine rn (wg [2] [] ?_)
  cases h
  exact wp_ret (show fnOut _ _ _ _=_ from by kernel_rfl)
 refine sz 1 5 ?_
 refine lenL (enc:=(AV.int .u64)) (l:=p0) (fl:=true) kr gE ?_
 refine sz 2 8 (reg_end rfl ?_)
 refine wbz h (fun q4 h=>?_) (fun q4 h=>?_)
 ·refine wp_seq ?_
  refine wgc [] [] ⟨[],[],52⟩ ?_
  refine rn (wg [2] [] ?_)
  cases h
  exact wp_ret (show fnOut _ _ _ _=_ from by kernel_rfl)
 refine wp_skip (wp_seq (wp_seq ?_))
 refine wgc [0] [] ⟨[(0,eL true (AV.int .u64) p0)],[],52⟩ ?_
 refine reg_in (sz 1 1 ?_)
 refine lenL (enc:=(AV.int .u64)) (l:=p0) (fl:=true) kr gE ?_
 refine sz 1 3 (reg_end rfl (wp_block ?_))
 refine wwh h (fun s5=>⟨[(0,eL true (AV.int .u64) p0),(14,eL true (AV.int .u64) p0),(15,vI (zn p0)),(16,vI s5)],[],52⟩) (fun x out=>out=match x with | .inl v=>.go (.ret) ⟨[(2,vI 80)],[],52⟩ | .inr v=>.go (.exit 0) ⟨[],[],52⟩) (wk_gc (live:=[0,14,15,16]) (keep:=[]) kr) ?_ ?_
 ·intro s5 o h
  unfold g_order_Check_b1 at h
  refine sq (wp_seq ?_)
  refine wb [17] h (fun q7 h=>?_) (fun q7 h=>?_)
  ·refine wcT (wp_skip (wp_seq (wp_block (wp_seq (reg_in (sz 1 1 ?_))))))
   refine bind_elim h (fun a8 q9 h=>?_)
   refine idxL' (enc:=(AV.int .u64)) (l:=p0) (n:=s5) (fl:=true) (w:=1) (a:=a8) kr rfl gE q9 ?_
   refine sz 3 5 (reg_end rfl (wp_seq (wp_seq (reg_in (sz 2 2 ?_)))))
   refine lenL (enc:=(AV.int .u64)) (l:=p0) (fl:=true) kr gE ?_
   refine shrR (k:=.u64) (k':=.i64) (a:=a8) (b:=(zn p0)) kr gE h (fun h=>?_)
   refine sz 2 6 ?_
   refine rw_wk (wk_gc (live:=[0,14,15,16,3,4,26]) (keep:=[]) (st':=⟨[(0,eL true (AV.int .u64) p0),(14,eL true (AV.int .u64) p0),(15,vI (zn p0)),(16,vI s5),(3,vI s5),(4,.int .u64 a8),(26,vB ((Int.fdiv a8 (2^min (zt (zn p0)) (IntKind.bits .u64))) != 0))],[],52⟩) kr) ?_
   refine rb [26] h (fun q11 h=>?_) (fun q11 h=>?_)
   ·refine sz 6 12 (reg_end rfl (wcT (wp_seq (wg [] [] (rn (wg [2] [] ?_))))))
    refine wp_ret ?_
    cases h
    exact ⟨kr,rfl⟩
   refine sz 2 8 ?_
   refine shrR (k:=.u64) (k':=.i64) (a:=a8) (b:=s5) kr gE h (fun h=>?_)
   refine sz 3 12 (reg_end rfl ?_)
   refine wbz h (fun q13 h=>?_) (fun q13 h=>?_)
   ·refine wp_seq (wg [] [] (rn (wg [2] [] ?_)))
    refine wp_ret ?_
    cases h
    exact ⟨kr,rfl⟩
   refine wp_skip (wp_seq (wg [0,14,15,16,3,4] [] (reg_in (sz 1 1 ?_))))
   refine lenL (enc:=(AV.int .u64)) (l:=p0) (fl:=true) kr gE ?_
   refine sz 1 3 (reg_end rfl (wp_block ?_))
   refine wwh h (fun s14=>⟨[(0,eL true (AV.int .u64) p0),(3,vI s5),(4,.int .u64 a8),(14,eL true (AV.int .u64) p0),(15,vI (zn p0)),(16,vI s5),(34,vI (zn p0)),(35,vI s14)],[],52⟩) (fun x out=>out=match x with | .inl v=>.go (.ret) ⟨[(2,vI 80)],[],52⟩ | .inr v=>.go (.exit 2) ⟨[(0,eL true (AV.int .u64) p0),(14,eL true (AV.int .u64) p0),(15,vI (zn p0)),(16,vI s5)],[],52⟩) (wk_gc (live:=[0,3,4,14,15,16,34,35]) (keep:=[]) kr) ?_ ?_
   ·intro s14 o h
    unfold g_order_Check_b0 at h
    refine sq (wp_seq ?_)
    refine wb [36] h (fun q16 h=>?_) (fun q16 h=>?_)
    ·refine wcT (wp_skip (wp_seq (wp_block (sq (wp_seq (rga hfol (sy 2 2 ?_)))))))
     refine shrR (k:=.u64) (k':=.i64) (a:=a8) (b:=s14) kr gE h (fun h=>?_)
     refine sy 3 6 ?_
     refine bind_elim h (fun a17 q18 h=>?_)
     refine idxL' (enc:=(AV.int .u64)) (l:=p0) (n:=s14) (fl:=true) (w:=1) (a:=a17) kr rfl gE q18 ?_
     refine sy 2 9 ?_
     refine shrR (k:=.u64) (k':=.i64) (a:=a17) (b:=s5) kr gE h (fun h=>?_)
     refine sy 2 12 (rgd ?_)
     refine wbz h (fun q20 h=>?_) (fun q20 h=>?_)
     ·refine wp_seq ?_
      refine wgc [] [] ⟨[],[],52⟩ ?_
      refine rn (wg [2] [] ?_)
      refine wp_ret ?_
      cases h
      exact ⟨kr,rfl⟩
     refine wp_skip ?_
     refine wgc [0,3,4,14,15,16,34,35] [] ⟨[(0,eL true (AV.int .u64) p0),(3,vI s5),(4,.int .u64 a8),(14,eL true (AV.int .u64) p0),(15,vI (zn p0)),(16,vI s5),(34,vI (zn p0)),(35,vI s14)],[],52⟩ ?_
     refine rn ?_
     cases h
     exact ⟨_,rfl,(wk_gc (live:=[0,3,4,14,15,16,34,35]) (keep:=[]) kr)⟩
    refine wcF (wg [0,14,15,16] [] ?_)
    refine wp_exit ?_
    cases h
    exact ⟨kr,rfl⟩
   intro x21 h out hx
   subst hx
   rcases x21 with x22 | x23
   ·dsimp only at h ⊢
    cases h
    exact ⟨kr,rfl⟩
   ·dsimp only at h ⊢
    refine rn ?_
    cases h
    exact ⟨_,rfl,(wk_gc (live:=[0,14,15,16]) (keep:=[]) kr)⟩
  refine wcF (wg [] [] ?_)
  refine wp_exit ?_
  cases h
  exact ⟨kr,rfl⟩
 intro x24 h out hx
 subst hx
 rcases x24 with x25 | x26
 ·dsimp only at h ⊢
  cases h
  show fnOut _ _ _ _=_
  kernel_rfl
 ·dsimp only at h ⊢
  refine sq (wg [2] [] ?_)
  cases h
  exact wp_ret (show fnOut _ _ _ _=_ from by kernel_rfl)
theorem g_order_read_ok (p0:(List Int)) (p1:(List Int)) (x:Int) (h:g_order_read p0 p1=some x):CallOk Tryd.prog 47 [eL true (AV.int .u64) p0,z1 p1] (.ret (vI x) []):=by
 refine fn_ok [] Tryd.func47 rfl (by decide +kernel) rfl ?_
 unfold g_order_read at h
 refine wp_eqB (base':=0) (st':=⟨[(0,eL true (AV.int .u64) p0),(1,z1 p1)],[],45⟩) kr kr ?_
 refine sq (wp_seq (wp_seq (reg_in (sz 1 1 ?_))))
 refine callW bodyB_14 (g_order_Check_ok p0) h (fun x1 _ h=>?_)
 refine sz 1 3 (reg_end rfl (sq ?_))
 refine wbz h (fun q4 h=>?_) (fun q4 h=>?_)
 ·refine wp_seq (wg [5] [] (rn ?_))
  refine wgc [4] [] ⟨[(4,vI x1)],[],45⟩ ?_
  cases h
  exact wp_ret (show fnOut _ _ _ _=_ from by kernel_rfl)
 refine wp_skip (wp_seq (wp_seq ?_))
 refine wgc [0,1] [] ⟨[(0,eL true (AV.int .u64) p0),(1,z1 p1)],[],45⟩ ?_
 refine reg_in (sz 1 1 ?_)
 refine lenL (enc:=eI) (l:=p1) (fl:=true) kr gE ?_
 refine sz 1 3 ?_
 refine lenL (enc:=(AV.int .u64)) (l:=p0) (fl:=true) kr gE ?_
 refine sz 1 5 (reg_end rfl ?_)
 refine wbz h (fun q6 h=>?_) (fun q6 h=>?_)
 ·refine wp_seq (wg [] [] (rn (wg [4] [] ?_)))
  cases h
  exact wp_ret (show fnOut _ _ _ _=_ from by kernel_rfl)
 refine wp_skip (wp_seq (wg [0,1] [] (rn (wp_seq (wp_seq (reg_in (sz 1 1 ?_)))))))
 refine lenL (enc:=eI) (l:=p1) (fl:=true) kr gE ?_
 refine sz 1 3 (reg_end rfl (wp_block ?_))
 refine wwh h (fun s7=>⟨[(0,eL true (AV.int .u64) p0),(6,.int .u64 s7.1),(19,z1 p1),(20,vI (zn p1)),(21,vI s7.2)],[],45⟩) (fun x out=>out=match x with | .inl v=>.go (.ret) ⟨[(4,vI 81)],[],45⟩ | .inr v=>.go (.exit 0) ⟨[],[],45⟩) (wk_gc (live:=[0,6,19,20,21]) (keep:=[]) kr) ?_ ?_
 ·intro s7 o h
  unfold g_order_read_b0 at h
  refine sq (wp_seq ?_)
  refine wb [22] h (fun q9 h=>?_) (fun q9 h=>?_)
  ·refine wcT (wp_skip (wp_seq (wp_block (wp_seq (reg_in ?_)))))
   refine bind_elim h (fun a10 q11 h=>?_)
   refine idxL' (enc:=eI) (l:=p1) (n:=s7.2) (fl:=true) (w:=1) (a:=a10) kr rfl gE q11 ?_
   refine sz 2 3 (reg_end rfl (wp_seq (wp_seq (reg_in (sz 3 3 ?_)))))
   refine rw_wk (wk_gc (live:=[0,6,19,20,21,8,27]) (keep:=[]) (st':=⟨[(0,eL true (AV.int .u64) p0),(6,.int .u64 s7.1),(19,z1 p1),(20,vI (zn p1)),(21,vI s7.2),(8,vI a10),(27,vB (decide (a10 < 0)))],[],45⟩) kr) ?_
   refine rb [27] h (fun q13 h=>?_) (fun q13 h=>?_)
   ·refine sz 12 15 (reg_end rfl (wcT (wp_seq (wg [] [] (rn ?_)))))
    refine wgc [4] [] ⟨[(4,vI 81)],[],45⟩ ?_
    refine wp_ret ?_
    cases h
    exact ⟨kr,rfl⟩
   refine sz 2 5 ?_
   refine lenL (enc:=(AV.int .u64)) (l:=p0) (fl:=true) kr gE ?_
   refine sz 3 9 (rwg [0,6,19,20,21,8,33] [] ?_)
   refine rb [33] h (fun q15 h=>?_) (fun q15 h=>?_)
   ·refine sz 6 15 (reg_end rfl (wcT (wp_seq (wg [] [] (rn ?_)))))
    refine wgc [4] [] ⟨[(4,vI 81)],[],45⟩ ?_
    refine wp_ret ?_
    cases h
    exact ⟨kr,rfl⟩
   refine sz 2 11 ?_
   refine shrR (k:=.u64) (k':=.i64) (a:=s7.1) (b:=a10) kr gE h (fun h=>?_)
   refine sz 3 15 (reg_end rfl ?_)
   refine wbz h (fun q17 h=>?_) (fun q17 h=>?_)
   ·refine wp_seq (wg [] [] (rn ?_))
    refine wgc [4] [] ⟨[(4,vI 81)],[],45⟩ ?_
    refine wp_ret ?_
    cases h
    exact ⟨kr,rfl⟩
   refine wp_skip (wg [0,6,19,20,21,8] [] (reg_in (sz 2 2 ?_)))
   refine shlR (k:=.u64) (k':=.i64) (a:=1) (b:=a10) kr gE h (fun h=>?_)
   refine sz 2 5 (reg_end rfl ?_)
   refine wgc [0,6,19,20,21] [] ⟨[(0,eL true (AV.int .u64) p0),(6,.int .u64 (zv (BitVec.ofInt (IntKind.bits .u64) s7.1 ||| BitVec.ofInt (IntKind.bits .u64) (zv (1*2^min (zt a10) (IntKind.bits .u64)))).toNat)),(19,z1 p1),(20,vI (zn p1)),(21,vI s7.2)],[],45⟩ ?_
   refine rn ?_
   cases h
   exact ⟨_,rfl,(wk_gc (live:=[0,6,19,20,21]) (keep:=[]) kr)⟩
  refine wcF (wg [] [] ?_)
  refine wp_exit ?_
  cases h
  exact ⟨kr,rfl⟩
 intro x18 h out hx
 subst hx
 rcases x18 with x19 | x20
 ·dsimp only at h ⊢
  cases h
  show fnOut _ _ _ _=_
  kernel_rfl
 ·dsimp only at h ⊢
  refine sq (wg [4] [] ?_)
  cases h
  exact wp_ret (show fnOut _ _ _ _=_ from by kernel_rfl)
theorem g_slices_Clone_uint_uint_c_ok (c0:Int) (d0:(List Int)) (x:(List Int)) (h:g_slices_Clone_uint_uint_c c0 d0=some x):CallOk Tryd.prog 38 [eL true (AV.int .u64) (c0::d0)] (.ret (.ref 0 0 x.length) [oR true 1 (AV.int .u64) x]):=by
 refine fn_ok [] Tryd.func38 rfl (by decide +kernel) rfl ?_
 unfold g_slices_Clone_uint_uint_c at h
 refine wp_eqB (base':=0) (st':=⟨[(0,eL true (AV.int .u64) (c0::d0))],[],8⟩) kr kr ?_
 refine sq (wp_seq (sq (wcF (wp_skip (wp_seq (reg_in (sz 2 2 ?_)))))))
 refine appN (enc:=(AV.int .u64)) (m:=(c0::d0)) (w:=1) (bytes:=8) (nr':=true) (fl':=true) (a:=.emp) (b:=eL true (AV.int .u64) (c0::d0)) (rds:=[]) false kr (.inr rfl) (elems_lst (fun _=>rfl)) rfl gE kr h (fun h=>?_)
 refine sz 1 4 (reg_end rfl (wg [2] [0] ?_))
 cases h
 exact wp_ret (show fnOut _ _ _ _=_ from by kernel_rfl)
theorem g_slices_Clone_uint_uint_e_ok  (x:(List Int)) (h:g_slices_Clone_uint_uint_e=some x):CallOk Tryd.prog 38 [.emn] (.ret (.ref 0 0 x.length) [oR true 1 (AV.int .u64) x]):=by
 refine fn_ok [] Tryd.func38 rfl (by decide +kernel) rfl ?_
 unfold g_slices_Clone_uint_uint_e at h
 refine wp_eqB (base':=0) (st':=⟨[(0,.emn)],[],8⟩) kr kr ?_
 refine sq (wp_seq (sq (wcF (wp_skip (wp_seq (reg_in (sz 2 2 (sz 1 3 (sz 1 4 ?_)))))))))
 refine reg_end rfl (wg [2] [0] ?_)
 cases h
 exact wp_ret (show fnOut _ _ _ _=_ from by kernel_rfl)
theorem g_slices_Clone_uint_uint_n_ok  (x:(List Int)) (h:g_slices_Clone_uint_uint_n=some x):CallOk Tryd.prog 38 [.nils] (.ret (.ref 0 0 x.length) [oR true 1 (AV.int .u64) x]):=by
 refine fn_ok [] Tryd.func38 rfl (by decide +kernel) rfl ?_
 unfold g_slices_Clone_uint_uint_n at h
 refine wp_eqB (base':=0) (st':=⟨[(0,.nils)],[],8⟩) kr kr ?_
 refine sq (wp_seq (sq (wcT (sq (wg [2] [] ?_)))))
 refine wp_wk (wk_nil 2 1 true true gE) ?_
 cases h
 exact wp_ret (show fnOut _ _ _ _=_ from by kernel_rfl)
theorem g_slices_Clone_uint_uint_ok (p0:(List Int)) (x:(List Int)) (h:g_slices_Clone_uint_uint p0=some x):CallOk Tryd.prog 38 [eL true (AV.int .u64) p0] (.ret (.ref 0 0 x.length) [oR true 1 (AV.int .u64) x]):=by
 cases p0 with
 | cons c0 d0=>exact g_slices_Clone_uint_uint_c_ok c0 d0 x h
 | nil =>
  cases h1:g_slices_Clone_uint_uint_n with
  | none=>simp [g_slices_Clone_uint_uint,h1] at h
  | some y =>
   cases h2:g_slices_Clone_uint_uint_e with
   | none=>simp [g_slices_Clone_uint_uint,h1,h2] at h
   | some z =>
    by_cases e:y=z
    ·subst e
     simp [g_slices_Clone_uint_uint,h1,h2] at h
     subst h
     exact CallOk.nil (l1:=[]) (l2:=[]) (g_slices_Clone_uint_uint_n_ok y h1) (g_slices_Clone_uint_uint_e_ok y h2)
    ·simp [g_slices_Clone_uint_uint,h1,h2,e] at h
theorem g_math_bits_OnesCount64_ok (p0:Int) (x:Int) (h:g_math_bits_OnesCount64 p0=some x):CallOk Tryd.prog 99 [.int .u64 p0] (.ret (vI x) []):=by
 refine fn_ok [] Tryd.func99 rfl (by decide +kernel) rfl ?_
 unfold g_math_bits_OnesCount64 at h
 refine wp_eqB (base':=0) (st':=⟨[(0,.int .u64 p0)],[],35⟩) kr kr ?_
 refine sq (sq (wp_seq (wg [0] [] (rn (wp_seq (wg [0] [] (rn (wp_seq ?_))))))))
 refine wgc [0] [] ⟨[(0,.int .u64 (zv (BitVec.ofInt (IntKind.bits .u64) (zv ((Int.fdiv (zv ((zv (BitVec.ofInt (IntKind.bits .u64) (Int.fdiv (zv ((zv (BitVec.ofInt (IntKind.bits .u64) (Int.fdiv p0 (2^min (zt 1) (IntKind.bits .u64))) &&& BitVec.ofInt (IntKind.bits .u64) 6148914691236517205).toNat)+(zv (BitVec.ofInt (IntKind.bits .u64) p0 &&& BitVec.ofInt (IntKind.bits .u64) 6148914691236517205).toNat))) (2^min (zt 2) (IntKind.bits .u64))) &&& BitVec.ofInt (IntKind.bits .u64) 3689348814741910323).toNat)+(zv (BitVec.ofInt (IntKind.bits .u64) (zv ((zv (BitVec.ofInt (IntKind.bits .u64) (Int.fdiv p0 (2^min (zt 1) (IntKind.bits .u64))) &&& BitVec.ofInt (IntKind.bits .u64) 6148914691236517205).toNat)+(zv (BitVec.ofInt (IntKind.bits .u64) p0 &&& BitVec.ofInt (IntKind.bits .u64) 6148914691236517205).toNat))) &&& BitVec.ofInt (IntKind.bits .u64) 3689348814741910323).toNat))) (2^min (zt 4) (IntKind.bits .u64)))+(zv ((zv (BitVec.ofInt (IntKind.bits .u64) (Int.fdiv (zv ((zv (BitVec.ofInt (IntKind.bits .u64) (Int.fdiv p0 (2^min (zt 1) (IntKind.bits .u64))) &&& BitVec.ofInt (IntKind.bits .u64) 6148914691236517205).toNat)+(zv (BitVec.ofInt (IntKind.bits .u64) p0 &&& BitVec.ofInt (IntKind.bits .u64) 6148914691236517205).toNat))) (2^min (zt 2) (IntKind.bits .u64))) &&& BitVec.ofInt (IntKind.bits .u64) 3689348814741910323).toNat)+(zv (BitVec.ofInt (IntKind.bits .u64) (zv ((zv (BitVec.ofInt (IntKind.bits .u64) (Int.fdiv p0 (2^min (zt 1) (IntKind.bits .u64))) &&& BitVec.ofInt (IntKind.bits .u64) 6148914691236517205).toNat)+(zv (BitVec.ofInt (IntKind.bits .u64) p0 &&& BitVec.ofInt (IntKind.bits .u64) 6148914691236517205).toNat))) &&& BitVec.ofInt (IntKind.bits .u64) 3689348814741910323).toNat))))) &&& BitVec.ofInt (IntKind.bits .u64) 1085102592571150095).toNat))],[],35⟩ ?_
 refine rn (sq (wp_seq (wg [0] [] (rn (sq (wg [2] [] ?_))))))
 cases h
 exact wp_ret (show fnOut _ _ _ _=_ from by kernel_rfl)
theorem g_math_bits_OnesCount_ok (p0:Int) (x:Int) (h:g_math_bits_OnesCount p0=some x):CallOk Tryd.prog 84 [.int .u64 p0] (.ret (vI x) []):=by
 refine fn_ok [] Tryd.func84 rfl (by decide +kernel) rfl ?_
 unfold g_math_bits_OnesCount at h
 refine wp_eqB (base':=0) (st':=⟨[(0,.int .u64 p0)],[],8⟩) kr kr ?_
 refine sq (wp_seq (wcF (wp_skip (wp_seq (reg_in (sz 1 1 ?_))))))
 refine callW bodyB_99 (g_math_bits_OnesCount64_ok p0) h (fun x1 _ h=>?_)
 refine sz 1 3 (reg_end rfl (wg [2] [] ?_))
 cases h
 exact wp_ret (show fnOut _ _ _ _=_ from by kernel_rfl)
theorem g_order_graph_degree_ok (p0:Torder_graph) (p1:Int) (x:Int) (h:g_order_graph_degree p0 p1=some x):CallOk Tryd.prog 60 [.fz [eL true (AV.int .u64) p0.neighbours.near,.int .u64 p0.left],vI p1] (.ret (vI x) []):=by
 refine fn_ok [] Tryd.func60 rfl (by decide +kernel) rfl ?_
 unfold g_order_graph_degree at h
 refine wp_eqB (base':=0) (st':=⟨[(0,.fz [eL true (AV.int .u64) p0.neighbours.near,.int .u64 p0.left]),(1,vI p1)],[],14⟩) kr kr ?_
 refine sq (wp_seq (reg_in (sz 6 6 ?_)))
 refine bind_elim h (fun a1 q2 h=>?_)
 refine idxL' (enc:=(AV.int .u64)) (l:=p0.neighbours.near) (n:=p1) (fl:=true) (w:=1) (a:=a1) kr rfl gE q2 ?_
 refine sz 1 8 ?_
 refine callW bodyB_84 (g_math_bits_OnesCount_ok a1) h (fun x3 _ h=>?_)
 refine sz 1 10 (reg_end rfl (wg [4] [] ?_))
 cases h
 exact wp_ret (show fnOut _ _ _ _=_ from by kernel_rfl)
theorem g_math_bits_TrailingZeros64_ok (p0:Int) (x:Int) (h:g_math_bits_TrailingZeros64 p0=some x):CallOk Tryd.prog 101 [.int .u64 p0] (.ret (vI x) []):=by
 refine fn_ok [] Tryd.func101 rfl (by decide +kernel) rfl ?_
 unfold g_math_bits_TrailingZeros64 at h
 refine wp_eqB (base':=0) (st':=⟨[(0,.int .u64 p0)],[],14⟩) kr kr ?_
 refine sq (wp_seq (sq ?_))
 refine wb [4] h (fun q2 h=>?_) (fun q2 h=>?_)
 ·refine wcT (sq (wg [2] [] ?_))
  cases h
  exact wp_ret (show fnOut _ _ _ _=_ from by kernel_rfl)
 refine wcF (wp_skip (wp_seq (reg_in ?_)))
 refine sgz 6 6 (S:=⟨[(0,.int .u64 p0),(2,vI 0),(3,.int .u64 p0),(4,vB false),(5,.int .u64 p0),(6,.int .u64 p0),(7,.int .u64 (zv (0 - p0))),(8,.int .u64 (zv (BitVec.ofInt (IntKind.bits .u64) p0 &&& BitVec.ofInt (IntKind.bits .u64) (zv (0 - p0))).toNat)),(9,.int .u64 (zv ((zv (BitVec.ofInt (IntKind.bits .u64) p0 &&& BitVec.ofInt (IntKind.bits .u64) (zv (0 - p0))).toNat)*285870213051353865))),(10,.int .u64 (Int.fdiv (zv ((zv (BitVec.ofInt (IntKind.bits .u64) p0 &&& BitVec.ofInt (IntKind.bits .u64) (zv (0 - p0))).toNat)*285870213051353865)) (2^min (zt 58) (IntKind.bits .u64))))],[],14⟩) ?_
 refine bind_elim h (fun a3 q4 h=>?_)
 refine tabR (l:=tab1) (n:=Int.fdiv (zv ((zv (BitVec.ofInt (IntKind.bits .u64) p0 &&& BitVec.ofInt (IntKind.bits .u64) (zv (0 - p0))).toNat)*285870213051353865)) (2^min (zt 58) (IntKind.bits .u64))) (a:=a3) (kk:=.u8) (len:=64) (cells:=List.map (AV.int .u8) tab1) (S1:=⟨[(0,.int .u64 p0),(2,vI 0),(3,.int .u64 p0),(4,vB false),(5,.int .u64 p0),(6,.int .u64 p0),(7,.int .u64 (zv (0 - p0))),(8,.int .u64 (zv (BitVec.ofInt (IntKind.bits .u64) p0 &&& BitVec.ofInt (IntKind.bits .u64) (zv (0 - p0))).toNat)),(9,.int .u64 (zv ((zv (BitVec.ofInt (IntKind.bits .u64) p0 &&& BitVec.ofInt (IntKind.bits .u64) (zv (0 - p0))).toNat)*285870213051353865))),(10,.int .u64 (Int.fdiv (zv ((zv (BitVec.ofInt (IntKind.bits .u64) p0 &&& BitVec.ofInt (IntKind.bits .u64) (zv (0 - p0))).toNat)*285870213051353865)) (2^min (zt 58) (IntKind.bits .u64))))]++[(11,.fz (List.drop (zt (Int.fdiv (zv ((zv (BitVec.ofInt (IntKind.bits .u64) p0 &&& BitVec.ofInt (IntKind.bits .u64) (zv (0 - p0))).toNat)*285870213051353865)) (2^min (zt 58) (IntKind.bits .u64)))) (List.map (AV.int .u8) tab1)))],[],14⟩) kr kr kr q4 kr kr gE ?_
 refine sz 2 10 (reg_end rfl (wg [2] [] ?_))
 cases h
 exact wp_ret (show fnOut _ _ _ _=_ from by kernel_rfl)
theorem g_math_bits_TrailingZeros_ok (p0:Int) (x:Int) (h:g_math_bits_TrailingZeros p0=some x):CallOk Tryd.prog 86 [.int .u64 p0] (.ret (vI x) []):=by
 refine fn_ok [] Tryd.func86 rfl (by decide +kernel) rfl ?_
 unfold g_math_bits_TrailingZeros at h
 refine wp_eqB (base':=0) (st':=⟨[(0,.int .u64 p0)],[],8⟩) kr kr ?_
 refine sq (wp_seq (wcF (wp_skip (wp_seq (reg_in (sz 1 1 ?_))))))
 refine callW bodyB_101 (g_math_bits_TrailingZeros64_ok p0) h (fun x1 _ h=>?_)
 refine sz 1 3 (reg_end rfl (wg [2] [] ?_))
 cases h
 exact wp_ret (show fnOut _ _ _ _=_ from by kernel_rfl)
noncomputable abbrev s48_84 (a6:Int):List (Nat × AV):=[(1,vI a6),(2,.ptr 3 0 0),(5,.ptr 4 0 0),(6,.ptr 5 0 0),(18,.fn (.func 85) [] [.ptr 6 0 0])]
noncomputable abbrev o48_0:AObj:=oX false false 1 (.ptr 1 0 0)
theorem g_order_run_ok (p0:(List Int)) (p1:(List Int)) (x:((List (Int × Int)) × Int)) (h:g_order_run p0 p1=some x):CallOk Tryd.prog 48 [eL true (AV.int .u64) p0,z1 p1] (.ret (.tup [.ref 0 0 x.1.length,vI x.2]) [oR true 2 (fun x:(Int × Int)=>AV.agg [vI x.1,vI x.2]) x.1]):=by
 refine fn_ok [] Tryd.func48 rfl (by decide +kernel) rfl ?_
 unfold g_order_run at h
 refine wp_eqB (base':=0) (st':=⟨[(0,eL true (AV.int .u64) p0),(1,z1 p1)],[],30⟩) kr kr ?_
 refine sq (wp_seq (reg_in (sz 1 1 ?_)))
 refine inlR (f:=57) (fn:=Tryd.f57) (as0:=[eL true (AV.int .u64) p0]) kr Tryd.func57 rfl (by decide +kernel) rfl ?_
 refine wp_eqB (base':=0) (st':=⟨[(0,eL true (AV.int .u64) p0)],[],12⟩) kr kr ?_
 refine sq (wp_seq (rga hfol (sy 1 1 ?_)))
 refine callW bodyB_38 (g_slices_Clone_uint_uint_ok p0) h (fun x1 _ h=>?_)
 refine sy 2 4 ?_
 refine lenL (enc:=(AV.int .u64)) (l:=p0) (fl:=true) kr gE ?_
 refine shlR (k:=.u64) (k':=.i64) (a:=1) (b:=(zn p0)) kr gE h (fun h=>?_)
 refine sy 2 8 ?_
 refine sgL false [] [] false gE ?_
 refine sy 1 10 (rgd (wg [2] [1,0] ?_))
 refine wp_ret ?_
 refine ⟨⟨[(0,eL true (AV.int .u64) p0),(1,z1 p1),(4,.nils),(5,vI 0),(9,eL true (AV.int .u64) p0),(10,.ptr 0 0 0)],[oX false false 2 (.agg [.ref 1 0 x1.length,.int .u64 (zv ((zv (1*2^min (zt (zn p0)) (IntKind.bits .u64))) - 1))]),oR true 1 (AV.int .u64) x1],30⟩,by as_aux_lemma=>kernel_rfl,?_⟩
 refine sz 1 3 (reg_end rfl (wp_seq (wp_seq (reg_in (sz 1 1 ?_)))))
 refine lenL (enc:=eI) (l:=p1) (fl:=true) kr gE ?_
 refine sz 1 3 (reg_end rfl (wp_block ?_))
 refine wwh h (fun s3=>⟨[(4,.ref 0 0 s3.2.2.1.length),(5,vI s3.1),(6,.ptr 1 0 0),(11,z1 p1),(12,vI (zn p1)),(13,vI s3.2.1)],[oR true 2 (fun x:(Int × Int)=>AV.agg [vI x.1,vI x.2]) s3.2.2.1,oX false false 2 (.agg [.ref 2 0 s3.2.2.2.2.length,.int .u64 s3.2.2.2.1]),oR true 1 (AV.int .u64) s3.2.2.2.2],30⟩) (fun v out=>out=.go (.exit 0) ⟨[(4,.ref 0 0 v.2.length),(5,vI v.1)],[oR true 2 (fun x:(Int × Int)=>AV.agg [vI x.1,vI x.2]) v.2],30⟩) (wk_trans (wk_gc (live:=[4,5,6,11,12,13]) (keep:=[0,1]) (st':=⟨[(4,.nils),(5,vI 0),(6,.ptr 0 0 0),(11,z1 p1),(12,vI (zn p1)),(13,vI 0)],[oX false false 2 (.agg [.ref 1 0 x1.length,.int .u64 (zv ((zv (1*2^min (zt (zn p0)) (IntKind.bits .u64))) - 1))]),oR true 1 (AV.int .u64) x1],30⟩) kr) (wk_trans (wk_nil 4 2 true true (st':=⟨[(4,.ref 2 0 0),(5,vI 0),(6,.ptr 0 0 0),(11,z1 p1),(12,vI (zn p1)),(13,vI 0)],[oX false false 2 (.agg [.ref 1 0 x1.length,.int .u64 (zv ((zv (1*2^min (zt (zn p0)) (IntKind.bits .u64))) - 1))]),oR true 1 (AV.int .u64) x1,.row false false true true 2 []],30⟩) kr) (wk_gc (live:=[4,5,6,11,12,13]) (keep:=[2,0,1]) kr))) ?_ ?_
 ·intro s3 o h
  unfold g_order_run_b3 at h
  refine sq (wp_seq ?_)
  refine wb [14] h (fun q5 h=>?_) (fun q5 h=>?_)
  ·refine wcT (wp_skip (wp_seq (wp_block (wp_seq (reg_in ?_)))))
   refine bind_elim h (fun a6 q7 h=>?_)
   refine idxL' (enc:=eI) (l:=p1) (n:=s3.2.1) (fl:=true) (w:=1) (a:=a6) kr rfl gE q7 ?_
   refine sz 2 3 (reg_end rfl (wp_seq (reg_in ?_)))
   refine sgz 3 3 (S:=⟨[(4,.ref 0 0 s3.2.2.1.length),(5,vI s3.1),(6,.ptr 1 0 0),(11,z1 p1),(12,vI (zn p1)),(13,vI s3.2.1)]++[(14,vB true),(15,.fz [vI a6]),(16,vI a6),(8,vI a6),(17,vI s3.1),(18,.ptr 1 0 0),(19,vI a6)],[oR true 2 (fun x:(Int × Int)=>AV.agg [vI x.1,vI x.2]) s3.2.2.1,oX false false 2 (.agg [.ref 2 0 s3.2.2.2.2.length,.int .u64 s3.2.2.2.1]),oR true 1 (AV.int .u64) s3.2.2.2.2],30⟩) ?_
   refine callR (as0:=[.ptr 1 0 0,vI a6]) (ids:=[1,2]) kr bodyB_60 (msnap_cons (snap_ptr rfl (msnap_cons (snap_agg (msnap_cons (snap_full (w:=1) (bx:=false) (ro:=false) (enc:=(AV.int .u64)) (l:=s3.2.2.2.2) (fl:=true) kr) (msnap_cons rfl msnap_nil (by rfl)) (by rfl))) msnap_nil (by rfl)) (by rfl) (by rfl)) (msnap_cons rfl msnap_nil (by rfl)) (by rfl)) (fun x8 q9=>g_order_graph_degree_ok (Torder_graph.mk (Torder_neighbours.mk s3.2.2.2.2) s3.2.2.2.1) a6 x8 q9) gF h (fun x8 q9 h=>?_)
   refine sz 2 6 (reg_end rfl (wg [4,5,6,11,12,13,8] [0,1,2] (reg_in (sz 3 3 ?_))))
   refine inlR (f:=79) (fn:=Tryd.f79) (as0:=[.ptr 1 0 0,vI a6]) kr Tryd.func79 rfl (by decide +kernel) rfl ?_
   refine wp_eqB (base':=3) (st':=⟨[(0,.ptr 1 0 0),(1,vI a6)],[oR true 2 (fun x:(Int × Int)=>AV.agg [vI x.1,vI x.2]) s3.2.2.1,oX false false 2 (.agg [.ref 2 0 s3.2.2.2.2.length,.int .u64 s3.2.2.2.1]),oR true 1 (AV.int .u64) s3.2.2.2.2],71⟩) kr kr ?_
   refine wp_seq (reg_in ?_)
   refine sgL false [] [] false gE ?_
   refine sz 1 2 (reg_end rfl (wp_seq (reg_in ?_)))
   refine sgL false [] [] false gE ?_
   refine reg_end rfl (wp_seq (reg_in (sz 6 6 ?_)))
   refine bind_elim h (fun a10 q11 h=>?_)
   refine idxR' (enc:=(AV.int .u64)) (l:=s3.2.2.2.2) (n:=a6) (w:=1) (ob:=2) (ro:=false) (nr:=true) (fl:=true) (a:=a10) kr kr gE q11 ?_
   refine loadR (enc:=(AV.int .u64)) (l:=s3.2.2.2.2) (n:=a6) (w:=1) (ob:=2) (c:=0) (bx:=false) (ro:=false) (nr:=true) (fl:=true) (a:=a10) kr kr q11 gE ?_
   refine sz 2 10 (reg_end rfl (wp_seq (wp_seq ?_)))
   refine wgc [1,2,5,6] [3,4,5] ⟨[(1,vI a6),(2,.ptr 3 0 0),(5,.ptr 4 0 0),(6,.ptr 5 0 0)],[oR true 2 (fun x:(Int × Int)=>AV.agg [vI x.1,vI x.2]) s3.2.2.1,oX false false 2 (.agg [.ref 2 0 s3.2.2.2.2.length,.int .u64 s3.2.2.2.1]),oR true 1 (AV.int .u64) s3.2.2.2.2,o48_0,oX true false 1 (.nils),oX true true 1 (.int .u64 a10)],71⟩ ?_
   refine reg_in (sz 1 1 ?_)
   refine inlR (f:=68) (fn:=Tryd.f68) (as0:=[.int .u64 a10]) kr Tryd.func68 rfl (by decide +kernel) rfl ?_
   refine wp_eqB (base':=6) (st':=⟨[(0,.int .u64 a10)],[oR true 2 (fun x:(Int × Int)=>AV.agg [vI x.1,vI x.2]) s3.2.2.1,oX false false 2 (.agg [.ref 2 0 s3.2.2.2.2.length,.int .u64 s3.2.2.2.1]),oR true 1 (AV.int .u64) s3.2.2.2.2,o48_0,oX true false 1 (.nils),oX true true 1 (.int .u64 a10)],4⟩) kr kr ?_
   refine sq (sq (wg [2] [6] ?_))
   refine wp_ret ?_
   refine ⟨⟨[(1,vI a6),(2,.ptr 3 0 0),(5,.ptr 4 0 0),(6,.ptr 5 0 0),(17,.int .u64 a10),(18,.fn (.func 85) [] [.ptr 6 0 0])],[oR true 2 (fun x:(Int × Int)=>AV.agg [vI x.1,vI x.2]) s3.2.2.1,oX false false 2 (.agg [.ref 2 0 s3.2.2.2.2.length,.int .u64 s3.2.2.2.1]),oR true 1 (AV.int .u64) s3.2.2.2.2,o48_0,oX true false 1 (.nils),oX true true 1 (.int .u64 a10),oX true true 1 (.int .u64 a10)],71⟩,by as_aux_lemma=>kernel_rfl,?_⟩
   refine reg_end rfl (wp_block ?_)
   refine wgc [1,2,5,6,18] [3,4,5,6] ⟨(s48_84 a6),[oR true 2 (fun x:(Int × Int)=>AV.agg [vI x.1,vI x.2]) s3.2.2.1,oX false false 2 (.agg [.ref 2 0 s3.2.2.2.2.length,.int .u64 s3.2.2.2.1]),oR true 1 (AV.int .u64) s3.2.2.2.2,o48_0,oX true false 1 (.nils),oX true true 1 (.int .u64 a10),oX true true 1 (.int .u64 a10)],71⟩ ?_
   refine wp_range (f:=85) (fn:=Tryd.f85) (first:=[]) (caps:=[.ptr 6 0 0]) rfl Tryd.func85 rfl (by decide +kernel) rfl rfl ?_
   refine wp_eqB (base':=8) (st':=⟨[(0,.yld 7),(1,.ptr 6 0 0)],[oR true 2 (fun x:(Int × Int)=>AV.agg [vI x.1,vI x.2]) s3.2.2.1,oX false false 2 (.agg [.ref 2 0 s3.2.2.2.2.length,.int .u64 s3.2.2.2.1]),oR true 1 (AV.int .u64) s3.2.2.2.2,o48_0,oX true false 1 (.nils),oX true true 1 (.int .u64 a10),oX true true 1 (.int .u64 a10),.loop 71 [(1,vI a6),(2,.ptr 3 0 0),(5,.ptr 4 0 0),(6,.ptr 5 0 0),(18,.fn (.func 85) [] [.ptr 6 0 0])] [19] (cA Tryd.f79 [true,true,true,false,true,true]) (cB Tryd.f79 [true,true,true,false,true,true]) .ready none],16⟩) kr kr ?_
   refine sq (wp_block ?_)
   refine wwh h (fun s12=>⟨[(0,.yld 7),(3,.int .u64 s12.1)],[oR true 2 (fun x:(Int × Int)=>AV.agg [vI x.1,vI x.2]) s3.2.2.1,oX false false 2 (.agg [.ref 2 0 s12.2.1.length,.int .u64 s3.2.2.2.1]),oR true 1 (AV.int .u64) s12.2.1,o48_0,oX false false 1 (.ref 8 0 s12.2.2.length),oX true true 1 (.int .u64 a10),oX true true 1 (.int .u64 a10),.loop 71 [(1,vI a6),(2,.ptr 3 0 0),(5,.ptr 4 0 0),(6,.ptr 5 0 0),(18,.fn (.func 85) [] [.ptr 6 0 0])] [19] (cA Tryd.f79 [true,true,true,false,true,true]) (cB Tryd.f79 [true,true,true,false,true,true]) .ready none,oR true 2 (fun x:(Int × Int)=>AV.agg [vI x.1,vI x.2]) s12.2.2],16⟩) (fun v out=>out=.go (.exit 0) ⟨[],[oR true 2 (fun x:(Int × Int)=>AV.agg [vI x.1,vI x.2]) s3.2.2.1,oX false false 2 (.agg [.ref 2 0 v.1.length,.int .u64 s3.2.2.2.1]),oR true 1 (AV.int .u64) v.1,o48_0,oX false false 1 (.ref 8 0 v.2.length),oX true true 1 (.int .u64 a10),oX true true 1 (.int .u64 a10),.loop 71 [(1,vI a6),(2,.ptr 3 0 0),(5,.ptr 4 0 0),(6,.ptr 5 0 0),(18,.fn (.func 85) [] [.ptr 6 0 0])] [19] (cA Tryd.f79 [true,true,true,false,true,true]) (cB Tryd.f79 [true,true,true,false,true,true]) .ready none,oR true 2 (fun x:(Int × Int)=>AV.agg [vI x.1,vI x.2]) v.2],16⟩) (wk_trans (wk_gc (live:=[0,3]) (keep:=[]) (st':=⟨[(0,.yld 7),(3,.int .u64 a10)],[oR true 2 (fun x:(Int × Int)=>AV.agg [vI x.1,vI x.2]) s3.2.2.1,oX false false 2 (.agg [.ref 2 0 s3.2.2.2.2.length,.int .u64 s3.2.2.2.1]),oR true 1 (AV.int .u64) s3.2.2.2.2,o48_0,oX true false 1 (.nils),oX true true 1 (.int .u64 a10),oX true true 1 (.int .u64 a10),.loop 71 [(1,vI a6),(2,.ptr 3 0 0),(5,.ptr 4 0 0),(6,.ptr 5 0 0),(18,.fn (.func 85) [] [.ptr 6 0 0])] [19] (cA Tryd.f79 [true,true,true,false,true,true]) (cB Tryd.f79 [true,true,true,false,true,true]) .ready none],16⟩) kr) (wk_trans (wk_nilO 4 0 0 2 true true (st':=⟨[(0,.yld 7),(3,.int .u64 a10)],[oR true 2 (fun x:(Int × Int)=>AV.agg [vI x.1,vI x.2]) s3.2.2.1,oX false false 2 (.agg [.ref 2 0 s3.2.2.2.2.length,.int .u64 s3.2.2.2.1]),oR true 1 (AV.int .u64) s3.2.2.2.2,o48_0,oX false false 1 (.ref 8 0 0),oX true true 1 (.int .u64 a10),oX true true 1 (.int .u64 a10),.loop 71 [(1,vI a6),(2,.ptr 3 0 0),(5,.ptr 4 0 0),(6,.ptr 5 0 0),(18,.fn (.func 85) [] [.ptr 6 0 0])] [19] (cA Tryd.f79 [true,true,true,false,true,true]) (cB Tryd.f79 [true,true,true,false,true,true]) .ready none,.row false false true true 2 []],16⟩) kr) (wk_gc (live:=[0,3]) (keep:=[8]) kr))) ?_ ?_
   ·intro s12 o h
    unfold g_order_run_b1 at h
    refine wp_seq (sq ?_)
    refine wb [6] h (fun q14 h=>?_) (fun q14 h=>?_)
    ·refine wcT (wp_skip (wp_seq (wp_block (wp_seq (reg_in (sz 2 2 ?_))))))
     refine callW bodyB_86 (g_math_bits_TrailingZeros_ok s12.1) h (fun x15 _ h=>?_)
     refine yldR (l:=7) (nt:=71) (us:=[vI x15]) (sl:=[(1,vI a6),(2,.ptr 3 0 0),(5,.ptr 4 0 0),(6,.ptr 5 0 0),(18,.fn (.func 85) [] [.ptr 6 0 0])]) (ps:=[19]) (assign:=cA Tryd.f79 [true,true,true,false,true,true]) (body:=cB Tryd.f79 [true,true,true,false,true,true]) (pe:=none) kr kr rfl ?_
     refine wp_eqB (base':=9) (st':=⟨(s48_84 a6)++[(19,vI x15)],[oR true 2 (fun x:(Int × Int)=>AV.agg [vI x.1,vI x.2]) s3.2.2.1,oX false false 2 (.agg [.ref 2 0 s12.2.1.length,.int .u64 s3.2.2.2.1]),oR true 1 (AV.int .u64) s12.2.1,o48_0,oX false false 1 (.ref 8 0 s12.2.2.length),oX true true 1 (.int .u64 a10),oX true true 1 (.int .u64 a10),.loop 71 [(1,vI a6),(2,.ptr 3 0 0),(5,.ptr 4 0 0),(6,.ptr 5 0 0),(18,.fn (.func 85) [] [.ptr 6 0 0])] [19] (cA Tryd.f79 [true,true,true,false,true,true]) (cB Tryd.f79 [true,true,true,false,true,true]) .ready none,oR true 2 (fun x:(Int × Int)=>AV.agg [vI x.1,vI x.2]) s12.2.2],71⟩) kr kr ?_
     refine rn ?_
     refine ⟨⟨(s48_84 a6)++[(19,vI x15),(7,.ptr 9 0 0)],[oR true 2 (fun x:(Int × Int)=>AV.agg [vI x.1,vI x.2]) s3.2.2.1,oX false false 2 (.agg [.ref 2 0 s12.2.1.length,.int .u64 s3.2.2.2.1]),oR true 1 (AV.int .u64) s12.2.1,o48_0,oX false false 1 (.ref 8 0 s12.2.2.length),oX true true 1 (.int .u64 a10),oX true true 1 (.int .u64 a10),.loop 71 [(1,vI a6),(2,.ptr 3 0 0),(5,.ptr 4 0 0),(6,.ptr 5 0 0),(18,.fn (.func 85) [] [.ptr 6 0 0])] [19] (cA Tryd.f79 [true,true,true,false,true,true]) (cB Tryd.f79 [true,true,true,false,true,true]) .busy none,oR true 2 (fun x:(Int × Int)=>AV.agg [vI x.1,vI x.2]) s12.2.2,oX true true 1 (vI x15)],71⟩,by as_aux_lemma=>kernel_rfl,?_⟩
     refine wp_block (wp_seq (rga hfol (sy 7 7 ?_)))
     refine bind_elim h (fun a17 q18 h=>?_)
     refine idxR' (enc:=(AV.int .u64)) (l:=s12.2.1) (n:=x15) (w:=1) (ob:=2) (ro:=false) (nr:=true) (fl:=true) (a:=a17) kr kr gE q18 ?_
     refine loadR (enc:=(AV.int .u64)) (l:=s12.2.1) (n:=x15) (w:=1) (ob:=2) (c:=0) (bx:=false) (ro:=false) (nr:=true) (fl:=true) (a:=a17) kr kr q18 gE ?_
     refine sy 3 12 ?_
     refine shlR (k:=.u64) (k':=.i64) (a:=1) (b:=zw (x15+1)) kr gE h (fun h=>?_)
     refine sy 2 15 ?_
     refine inlN (f:=68) (fn:=Tryd.f68) (as0:=[.int .u64 (zv (BitVec.ofInt (IntKind.bits .u64) (zv (BitVec.ofInt (IntKind.bits .u64) a10 &&& ~~~ BitVec.ofInt (IntKind.bits .u64) a17).toNat) &&& ~~~ BitVec.ofInt (IntKind.bits .u64) (zv ((zv (1*2^min (zt (zw (x15+1))) (IntKind.bits .u64))) - 1))).toNat)]) kr kr Tryd.func68 rfl (by decide +kernel) rfl ?_
     refine wp_eqB (base':=10) (st':=⟨[(0,.int .u64 (zv (BitVec.ofInt (IntKind.bits .u64) (zv (BitVec.ofInt (IntKind.bits .u64) a10 &&& ~~~ BitVec.ofInt (IntKind.bits .u64) a17).toNat) &&& ~~~ BitVec.ofInt (IntKind.bits .u64) (zv ((zv (1*2^min (zt (zw (x15+1))) (IntKind.bits .u64))) - 1))).toNat))],[.dead,.dead,.dead,.dead,.dead,.dead,.dead,.dead,.dead,.dead],4⟩) kr kr ?_
     refine sq (sq (wg [2] [10] ?_))
     refine wp_ret ?_
     refine ⟨⟨(s48_84 a6)++[(19,vI x15),(7,.ptr 9 0 0),(20,.int .u64 a10),(21,.ptr 1 0 0),(22,.ptr 1 0 0),(23,.ptr 1 0 0),(24,.ptr 1 0 0),(25,.ref 2 0 s12.2.1.length),(26,vI x15),(27,.ptr 2 (zt x15) 0),(28,.int .u64 a17),(29,.int .u64 (zv (BitVec.ofInt (IntKind.bits .u64) a10 &&& ~~~ BitVec.ofInt (IntKind.bits .u64) a17).toNat)),(30,vI x15),(31,vI (zw (x15+1)))]++[(32,.int .u64 (zv (1*2^min (zt (zw (x15+1))) (IntKind.bits .u64)))),(33,.int .u64 (zv ((zv (1*2^min (zt (zw (x15+1))) (IntKind.bits .u64))) - 1))),(34,.int .u64 (zv (BitVec.ofInt (IntKind.bits .u64) (zv (BitVec.ofInt (IntKind.bits .u64) a10 &&& ~~~ BitVec.ofInt (IntKind.bits .u64) a17).toNat) &&& ~~~ BitVec.ofInt (IntKind.bits .u64) (zv ((zv (1*2^min (zt (zw (x15+1))) (IntKind.bits .u64))) - 1))).toNat))]++[(35,.fn (.func 85) [] [.ptr 10 0 0])],[oR true 2 (fun x:(Int × Int)=>AV.agg [vI x.1,vI x.2]) s3.2.2.1,oX false false 2 (.agg [.ref 2 0 s12.2.1.length,.int .u64 s3.2.2.2.1]),oR true 1 (AV.int .u64) s12.2.1,o48_0,oX false false 1 (.ref 8 0 s12.2.2.length),oX true true 1 (.int .u64 a10),oX true true 1 (.int .u64 a10),.loop 71 [(1,vI a6),(2,.ptr 3 0 0),(5,.ptr 4 0 0),(6,.ptr 5 0 0),(18,.fn (.func 85) [] [.ptr 6 0 0])] [19] (cA Tryd.f79 [true,true,true,false,true,true]) (cB Tryd.f79 [true,true,true,false,true,true]) .busy none,oR true 2 (fun x:(Int × Int)=>AV.agg [vI x.1,vI x.2]) s12.2.2,oX true true 1 (vI x15),oX true true 1 (.int .u64 (zv (BitVec.ofInt (IntKind.bits .u64) (zv (BitVec.ofInt (IntKind.bits .u64) a10 &&& ~~~ BitVec.ofInt (IntKind.bits .u64) a17).toNat) &&& ~~~ BitVec.ofInt (IntKind.bits .u64) (zv ((zv (1*2^min (zt (zw (x15+1))) (IntKind.bits .u64))) - 1))).toNat))],71⟩,by as_aux_lemma=>kernel_rfl,?_⟩
     refine rgd (wp_block ?_)
     refine wgc [2,5,7,35] [9,10] ⟨[(2,.ptr 3 0 0),(5,.ptr 4 0 0),(7,.ptr 9 0 0),(35,.fn (.func 85) [] [.ptr 10 0 0])],[oR true 2 (fun x:(Int × Int)=>AV.agg [vI x.1,vI x.2]) s3.2.2.1,oX false false 2 (.agg [.ref 2 0 s12.2.1.length,.int .u64 s3.2.2.2.1]),oR true 1 (AV.int .u64) s12.2.1,o48_0,oX false false 1 (.ref 8 0 s12.2.2.length),oX true true 1 (.int .u64 a10),oX true true 1 (.int .u64 a10),.loop 71 [(1,vI a6),(2,.ptr 3 0 0),(5,.ptr 4 0 0),(6,.ptr 5 0 0),(18,.fn (.func 85) [] [.ptr 6 0 0])] [19] (cA Tryd.f79 [true,true,true,false,true,true]) (cB Tryd.f79 [true,true,true,false,true,true]) .busy none,oR true 2 (fun x:(Int × Int)=>AV.agg [vI x.1,vI x.2]) s12.2.2,oX true true 1 (vI x15),oX true true 1 (.int .u64 (zv (BitVec.ofInt (IntKind.bits .u64) (zv (BitVec.ofInt (IntKind.bits .u64) a10 &&& ~~~ BitVec.ofInt (IntKind.bits .u64) a17).toNat) &&& ~~~ BitVec.ofInt (IntKind.bits .u64) (zv ((zv (1*2^min (zt (zw (x15+1))) (IntKind.bits .u64))) - 1))).toNat))],71⟩ ?_
     refine wp_range (f:=85) (fn:=Tryd.f85) (first:=[]) (caps:=[.ptr 10 0 0]) rfl Tryd.func85 rfl (by decide +kernel) rfl rfl ?_
     refine wp_eqB (base':=12) (st':=⟨[(0,.yld 11),(1,.ptr 10 0 0)],[oR true 2 (fun x:(Int × Int)=>AV.agg [vI x.1,vI x.2]) s3.2.2.1,oX false false 2 (.agg [.ref 2 0 s12.2.1.length,.int .u64 s3.2.2.2.1]),oR true 1 (AV.int .u64) s12.2.1,o48_0,oX false false 1 (.ref 8 0 s12.2.2.length),oX true true 1 (.int .u64 a10),oX true true 1 (.int .u64 a10),.loop 71 [(1,vI a6),(2,.ptr 3 0 0),(5,.ptr 4 0 0),(6,.ptr 5 0 0),(18,.fn (.func 85) [] [.ptr 6 0 0])] [19] (cA Tryd.f79 [true,true,true,false,true,true]) (cB Tryd.f79 [true,true,true,false,true,true]) .busy none,oR true 2 (fun x:(Int × Int)=>AV.agg [vI x.1,vI x.2]) s12.2.2,oX true true 1 (vI x15),oX true true 1 (.int .u64 (zv (BitVec.ofInt (IntKind.bits .u64) (zv (BitVec.ofInt (IntKind.bits .u64) a10 &&& ~~~ BitVec.ofInt (IntKind.bits .u64) a17).toNat) &&& ~~~ BitVec.ofInt (IntKind.bits .u64) (zv ((zv (1*2^min (zt (zw (x15+1))) (IntKind.bits .u64))) - 1))).toNat)),.loop 71 [(2,.ptr 3 0 0),(5,.ptr 4 0 0),(7,.ptr 9 0 0),(35,.fn (.func 85) [] [.ptr 10 0 0])] [36] (cA Tryd.f79 [true,true,true,false,true,true,true,true,true,true]) (cB Tryd.f79 [true,true,true,false,true,true,true,true,true,true]) .ready none],16⟩) kr kr ?_
     refine sq (wp_block ?_)
     refine wwh h (fun s19=>⟨[(0,.yld 11),(3,.int .u64 s19.1)],[oR true 2 (fun x:(Int × Int)=>AV.agg [vI x.1,vI x.2]) s3.2.2.1,oX false false 2 (.agg [.ref 2 0 s19.2.1.length,.int .u64 s3.2.2.2.1]),oR true 1 (AV.int .u64) s19.2.1,o48_0,oX false false 1 (.ref 12 0 s19.2.2.length),oX true true 1 (.int .u64 a10),oX true true 1 (.int .u64 a10),.loop 71 [(1,vI a6),(2,.ptr 3 0 0),(5,.ptr 4 0 0),(6,.ptr 5 0 0),(18,.fn (.func 85) [] [.ptr 6 0 0])] [19] (cA Tryd.f79 [true,true,true,false,true,true]) (cB Tryd.f79 [true,true,true,false,true,true]) .busy none,.dead,oX true true 1 (vI x15),oX true true 1 (.int .u64 (zv (BitVec.ofInt (IntKind.bits .u64) (zv (BitVec.ofInt (IntKind.bits .u64) a10 &&& ~~~ BitVec.ofInt (IntKind.bits .u64) a17).toNat) &&& ~~~ BitVec.ofInt (IntKind.bits .u64) (zv ((zv (1*2^min (zt (zw (x15+1))) (IntKind.bits .u64))) - 1))).toNat)),.loop 71 [(2,.ptr 3 0 0),(5,.ptr 4 0 0),(7,.ptr 9 0 0),(35,.fn (.func 85) [] [.ptr 10 0 0])] [36] (cA Tryd.f79 [true,true,true,false,true,true,true,true,true,true]) (cB Tryd.f79 [true,true,true,false,true,true,true,true,true,true]) .ready none,oR true 2 (fun x:(Int × Int)=>AV.agg [vI x.1,vI x.2]) s19.2.2],16⟩) (fun v out=>out=.go (.exit 0) ⟨[],[oR true 2 (fun x:(Int × Int)=>AV.agg [vI x.1,vI x.2]) s3.2.2.1,oX false false 2 (.agg [.ref 2 0 v.1.length,.int .u64 s3.2.2.2.1]),oR true 1 (AV.int .u64) v.1,o48_0,oX false false 1 (.ref 12 0 v.2.length),oX true true 1 (.int .u64 a10),oX true true 1 (.int .u64 a10),.loop 71 [(1,vI a6),(2,.ptr 3 0 0),(5,.ptr 4 0 0),(6,.ptr 5 0 0),(18,.fn (.func 85) [] [.ptr 6 0 0])] [19] (cA Tryd.f79 [true,true,true,false,true,true]) (cB Tryd.f79 [true,true,true,false,true,true]) .busy none,.dead,oX true true 1 (vI x15),oX true true 1 (.int .u64 (zv (BitVec.ofInt (IntKind.bits .u64) (zv (BitVec.ofInt (IntKind.bits .u64) a10 &&& ~~~ BitVec.ofInt (IntKind.bits .u64) a17).toNat) &&& ~~~ BitVec.ofInt (IntKind.bits .u64) (zv ((zv (1*2^min (zt (zw (x15+1))) (IntKind.bits .u64))) - 1))).toNat)),.loop 71 [(2,.ptr 3 0 0),(5,.ptr 4 0 0),(7,.ptr 9 0 0),(35,.fn (.func 85) [] [.ptr 10 0 0])] [36] (cA Tryd.f79 [true,true,true,false,true,true,true,true,true,true]) (cB Tryd.f79 [true,true,true,false,true,true,true,true,true,true]) .ready none,oR true 2 (fun x:(Int × Int)=>AV.agg [vI x.1,vI x.2]) v.2],16⟩) (wk_trans (wk_gc (live:=[0,3]) (keep:=[]) (st':=⟨[(0,.yld 11),(3,.int .u64 (zv (BitVec.ofInt (IntKind.bits .u64) (zv (BitVec.ofInt (IntKind.bits .u64) a10 &&& ~~~ BitVec.ofInt (IntKind.bits .u64) a17).toNat) &&& ~~~ BitVec.ofInt (IntKind.bits .u64) (zv ((zv (1*2^min (zt (zw (x15+1))) (IntKind.bits .u64))) - 1))).toNat))],[oR true 2 (fun x:(Int × Int)=>AV.agg [vI x.1,vI x.2]) s3.2.2.1,oX false false 2 (.agg [.ref 2 0 s12.2.1.length,.int .u64 s3.2.2.2.1]),oR true 1 (AV.int .u64) s12.2.1,o48_0,oX false false 1 (.ref 8 0 s12.2.2.length),oX true true 1 (.int .u64 a10),oX true true 1 (.int .u64 a10),.loop 71 [(1,vI a6),(2,.ptr 3 0 0),(5,.ptr 4 0 0),(6,.ptr 5 0 0),(18,.fn (.func 85) [] [.ptr 6 0 0])] [19] (cA Tryd.f79 [true,true,true,false,true,true]) (cB Tryd.f79 [true,true,true,false,true,true]) .busy none,oR true 2 (fun x:(Int × Int)=>AV.agg [vI x.1,vI x.2]) s12.2.2,oX true true 1 (vI x15),oX true true 1 (.int .u64 (zv (BitVec.ofInt (IntKind.bits .u64) (zv (BitVec.ofInt (IntKind.bits .u64) a10 &&& ~~~ BitVec.ofInt (IntKind.bits .u64) a17).toNat) &&& ~~~ BitVec.ofInt (IntKind.bits .u64) (zv ((zv (1*2^min (zt (zw (x15+1))) (IntKind.bits .u64))) - 1))).toNat)),.loop 71 [(2,.ptr 3 0 0),(5,.ptr 4 0 0),(7,.ptr 9 0 0),(35,.fn (.func 85) [] [.ptr 10 0 0])] [36] (cA Tryd.f79 [true,true,true,false,true,true,true,true,true,true]) (cB Tryd.f79 [true,true,true,false,true,true,true,true,true,true]) .ready none],16⟩) kr) (wk_trans (wk_mv 8 (st':=⟨[(0,.yld 11),(3,.int .u64 (zv (BitVec.ofInt (IntKind.bits .u64) (zv (BitVec.ofInt (IntKind.bits .u64) a10 &&& ~~~ BitVec.ofInt (IntKind.bits .u64) a17).toNat) &&& ~~~ BitVec.ofInt (IntKind.bits .u64) (zv ((zv (1*2^min (zt (zw (x15+1))) (IntKind.bits .u64))) - 1))).toNat))],[oR true 2 (fun x:(Int × Int)=>AV.agg [vI x.1,vI x.2]) s3.2.2.1,oX false false 2 (.agg [.ref 2 0 s12.2.1.length,.int .u64 s3.2.2.2.1]),oR true 1 (AV.int .u64) s12.2.1,o48_0,oX false false 1 (.ref 12 0 s12.2.2.length),oX true true 1 (.int .u64 a10),oX true true 1 (.int .u64 a10),.loop 71 [(1,vI a6),(2,.ptr 3 0 0),(5,.ptr 4 0 0),(6,.ptr 5 0 0),(18,.fn (.func 85) [] [.ptr 6 0 0])] [19] (cA Tryd.f79 [true,true,true,false,true,true]) (cB Tryd.f79 [true,true,true,false,true,true]) .busy none,.dead,oX true true 1 (vI x15),oX true true 1 (.int .u64 (zv (BitVec.ofInt (IntKind.bits .u64) (zv (BitVec.ofInt (IntKind.bits .u64) a10 &&& ~~~ BitVec.ofInt (IntKind.bits .u64) a17).toNat) &&& ~~~ BitVec.ofInt (IntKind.bits .u64) (zv ((zv (1*2^min (zt (zw (x15+1))) (IntKind.bits .u64))) - 1))).toNat)),.loop 71 [(2,.ptr 3 0 0),(5,.ptr 4 0 0),(7,.ptr 9 0 0),(35,.fn (.func 85) [] [.ptr 10 0 0])] [36] (cA Tryd.f79 [true,true,true,false,true,true,true,true,true,true]) (cB Tryd.f79 [true,true,true,false,true,true,true,true,true,true]) .ready none,oR true 2 (fun x:(Int × Int)=>AV.agg [vI x.1,vI x.2]) s12.2.2],16⟩) kr kr kr kr) (wk_gc (live:=[0,3]) (keep:=[12]) kr))) ?_ ?_
     ·intro s19 o h
      unfold g_order_run_b0 at h
      refine wp_seq (sq ?_)
      refine wb [6] h (fun q21 h=>?_) (fun q21 h=>?_)
      ·refine wcT (wp_skip (wp_seq (wp_block (wp_seq (reg_in (sz 2 2 ?_))))))
       refine callW bodyB_86 (g_math_bits_TrailingZeros_ok s19.1) h (fun x22 _ h=>?_)
       refine yldR (l:=11) (nt:=71) (us:=[vI x22]) (sl:=[(2,.ptr 3 0 0),(5,.ptr 4 0 0),(7,.ptr 9 0 0),(35,.fn (.func 85) [] [.ptr 10 0 0])]) (ps:=[36]) (assign:=cA Tryd.f79 [true,true,true,false,true,true,true,true,true,true]) (body:=cB Tryd.f79 [true,true,true,false,true,true,true,true,true,true]) (pe:=none) kr kr rfl ?_
       refine wp_eqB (base':=13) (st':=⟨[(2,.ptr 3 0 0),(5,.ptr 4 0 0),(7,.ptr 9 0 0),(35,.fn (.func 85) [] [.ptr 10 0 0]),(36,vI x22)],[oR true 2 (fun x:(Int × Int)=>AV.agg [vI x.1,vI x.2]) s3.2.2.1,oX false false 2 (.agg [.ref 2 0 s19.2.1.length,.int .u64 s3.2.2.2.1]),oR true 1 (AV.int .u64) s19.2.1,o48_0,oX false false 1 (.ref 12 0 s19.2.2.length),oX true true 1 (.int .u64 a10),oX true true 1 (.int .u64 a10),.loop 71 [(1,vI a6),(2,.ptr 3 0 0),(5,.ptr 4 0 0),(6,.ptr 5 0 0),(18,.fn (.func 85) [] [.ptr 6 0 0])] [19] (cA Tryd.f79 [true,true,true,false,true,true]) (cB Tryd.f79 [true,true,true,false,true,true]) .busy none,.dead,oX true true 1 (vI x15),oX true true 1 (.int .u64 (zv (BitVec.ofInt (IntKind.bits .u64) (zv (BitVec.ofInt (IntKind.bits .u64) a10 &&& ~~~ BitVec.ofInt (IntKind.bits .u64) a17).toNat) &&& ~~~ BitVec.ofInt (IntKind.bits .u64) (zv ((zv (1*2^min (zt (zw (x15+1))) (IntKind.bits .u64))) - 1))).toNat)),.loop 71 [(2,.ptr 3 0 0),(5,.ptr 4 0 0),(7,.ptr 9 0 0),(35,.fn (.func 85) [] [.ptr 10 0 0])] [36] (cA Tryd.f79 [true,true,true,false,true,true,true,true,true,true]) (cB Tryd.f79 [true,true,true,false,true,true,true,true,true,true]) .ready none,oR true 2 (fun x:(Int × Int)=>AV.agg [vI x.1,vI x.2]) s19.2.2],71⟩) kr kr ?_
       refine rn ?_
       refine ⟨⟨[(2,.ptr 3 0 0),(5,.ptr 4 0 0),(7,.ptr 9 0 0),(35,.fn (.func 85) [] [.ptr 10 0 0]),(36,vI x22),(8,vI x22)],[oR true 2 (fun x:(Int × Int)=>AV.agg [vI x.1,vI x.2]) s3.2.2.1,oX false false 2 (.agg [.ref 2 0 s19.2.1.length,.int .u64 s3.2.2.2.1]),oR true 1 (AV.int .u64) s19.2.1,o48_0,oX false false 1 (.ref 12 0 s19.2.2.length),oX true true 1 (.int .u64 a10),oX true true 1 (.int .u64 a10),.loop 71 [(1,vI a6),(2,.ptr 3 0 0),(5,.ptr 4 0 0),(6,.ptr 5 0 0),(18,.fn (.func 85) [] [.ptr 6 0 0])] [19] (cA Tryd.f79 [true,true,true,false,true,true]) (cB Tryd.f79 [true,true,true,false,true,true]) .busy none,.dead,oX true true 1 (vI x15),oX true true 1 (.int .u64 (zv (BitVec.ofInt (IntKind.bits .u64) (zv (BitVec.ofInt (IntKind.bits .u64) a10 &&& ~~~ BitVec.ofInt (IntKind.bits .u64) a17).toNat) &&& ~~~ BitVec.ofInt (IntKind.bits .u64) (zv ((zv (1*2^min (zt (zw (x15+1))) (IntKind.bits .u64))) - 1))).toNat)),.loop 71 [(2,.ptr 3 0 0),(5,.ptr 4 0 0),(7,.ptr 9 0 0),(35,.fn (.func 85) [] [.ptr 10 0 0])] [36] (cA Tryd.f79 [true,true,true,false,true,true,true,true,true,true]) (cB Tryd.f79 [true,true,true,false,true,true,true,true,true,true]) .busy none,oR true 2 (fun x:(Int × Int)=>AV.agg [vI x.1,vI x.2]) s19.2.2],71⟩,by as_aux_lemma=>kernel_rfl,?_⟩
       refine wp_block (wp_seq (reg_in (sz 4 4 ?_)))
       refine sgL false [] [] true gE ?_
       refine appR (enc:=(fun x:(Int × Int)=>AV.agg [vI x.1,vI x.2])) (l:=s19.2.2) (m:=([(x15,x22)]:(List (Int × Int)))) (w:=2) (bytes:=16) (ob:=12) (nr:=true) (fl:=true) (nr':=true) (fl':=true) (b:=.ref 13 0 1) (rds:=[13]) false kr kr kr rfl gE kr h (fun h=>?_)
       refine sz 1 7 (reg_end rfl (wp_seq (wg [2,7,8] [14] (rga hfol (sy 6 6 ?_)))))
       refine bind_elim h (fun a24 q25 h=>?_)
       refine idxR' (enc:=(AV.int .u64)) (l:=s19.2.1) (n:=x15) (w:=1) (ob:=2) (ro:=false) (nr:=true) (fl:=true) (a:=a24) kr kr gE q25 ?_
       refine loadR (enc:=(AV.int .u64)) (l:=s19.2.1) (n:=x15) (w:=1) (ob:=2) (c:=0) (bx:=false) (ro:=false) (nr:=true) (fl:=true) (a:=a24) kr kr q25 gE ?_
       refine sy 1 9 ?_
       refine shlR (k:=.u64) (k':=.i64) (a:=1) (b:=x22) kr gE h (fun h=>?_)
       refine sy 1 11 ?_
       refine idxR' (enc:=(AV.int .u64)) (l:=s19.2.1) (n:=x15) (w:=1) (ob:=2) (ro:=false) (nr:=true) (fl:=true) (a:=a24) kr kr gE q25 ?_
       refine storeR (enc:=(AV.int .u64)) (l:=s19.2.1) (n:=x15) (ob:=2) (w:=1) (bx:=false) (nr:=true) (fl:=true) (c:=0) (a:=a24) (a':=zv (BitVec.ofInt (IntKind.bits .u64) a24 ||| BitVec.ofInt (IntKind.bits .u64) (zv (1*2^min (zt x22) (IntKind.bits .u64)))).toNat) (v:=.int .u64 (zv (BitVec.ofInt (IntKind.bits .u64) a24 ||| BitVec.ofInt (IntKind.bits .u64) (zv (1*2^min (zt x22) (IntKind.bits .u64)))).toNat)) false kr kr q25 kr rfl kr gE kr ?_
       refine rknN (n:=s19.2.1.length) (m:=(List.set s19.2.1 (zt x15) (zv (BitVec.ofInt (IntKind.bits .u64) a24 ||| BitVec.ofInt (IntKind.bits .u64) (zv (1*2^min (zt x22) (IntKind.bits .u64)))).toNat)).length) (S:=fun n29=>⟨[(2,.ptr 3 0 0),(7,.ptr 9 0 0),(8,vI x22),(43,.ptr 1 0 0),(44,.ptr 1 0 0),(45,.ptr 1 0 0),(46,.ptr 1 0 0),(47,.ref 2 0 n29),(48,vI x15),(49,.ptr 2 (zt x15) 0),(50,.int .u64 a24),(51,vI x22),(52,.int .u64 (zv (1*2^min (zt x22) (IntKind.bits .u64)))),(53,.int .u64 (zv (BitVec.ofInt (IntKind.bits .u64) a24 ||| BitVec.ofInt (IntKind.bits .u64) (zv (1*2^min (zt x22) (IntKind.bits .u64)))).toNat)),(54,.ptr 2 (zt x15) 0)],[oR true 2 (fun x:(Int × Int)=>AV.agg [vI x.1,vI x.2]) s3.2.2.1,oX false false 2 (.agg [.ref 2 0 n29,.int .u64 s3.2.2.2.1]),oR true 1 (AV.int .u64) (List.set s19.2.1 (zt x15) (zv (BitVec.ofInt (IntKind.bits .u64) a24 ||| BitVec.ofInt (IntKind.bits .u64) (zv (1*2^min (zt x22) (IntKind.bits .u64)))).toNat)),o48_0,oX false false 1 (.ref 13 0 ((s19.2.2++([(x15,x22)]:(List (Int × Int)))).length)),oX true true 1 (.int .u64 a10),oX true true 1 (.int .u64 a10),.loop 71 [(1,vI a6),(2,.ptr 3 0 0),(5,.ptr 4 0 0),(6,.ptr 5 0 0),(18,.fn (.func 85) [] [.ptr 6 0 0])] [19] (cA Tryd.f79 [true,true,true,false,true,true]) (cB Tryd.f79 [true,true,true,false,true,true]) .busy none,.dead,oX true true 1 (vI x15),oX true true 1 (.int .u64 (zv (BitVec.ofInt (IntKind.bits .u64) (zv (BitVec.ofInt (IntKind.bits .u64) a10 &&& ~~~ BitVec.ofInt (IntKind.bits .u64) a17).toNat) &&& ~~~ BitVec.ofInt (IntKind.bits .u64) (zv ((zv (1*2^min (zt (zw (x15+1))) (IntKind.bits .u64))) - 1))).toNat)),.loop 71 [(2,.ptr 3 0 0),(5,.ptr 4 0 0),(7,.ptr 9 0 0),(35,.fn (.func 85) [] [.ptr 10 0 0])] [36] (cA Tryd.f79 [true,true,true,false,true,true,true,true,true,true]) (cB Tryd.f79 [true,true,true,false,true,true,true,true,true,true]) .busy none,.dead,oR true 2 (fun x:(Int × Int)=>AV.agg [vI x.1,vI x.2]) (s19.2.2++([(x15,x22)]:(List (Int × Int))))],71⟩) (by simp only [List.length_set]) ?_
       refine rgd (wg [2,7,8] [13] (rga hfol (sy 6 6 ?_)))
       refine bind_elim h (fun a26 q27 h=>?_)
       refine idxR' (enc:=(AV.int .u64)) (l:=(List.set s19.2.1 (zt x15) (zv (BitVec.ofInt (IntKind.bits .u64) a24 ||| BitVec.ofInt (IntKind.bits .u64) (zv (1*2^min (zt x22) (IntKind.bits .u64)))).toNat))) (n:=x22) (w:=1) (ob:=2) (ro:=false) (nr:=true) (fl:=true) (a:=a26) kr kr gE q27 ?_
       refine loadR (enc:=(AV.int .u64)) (l:=(List.set s19.2.1 (zt x15) (zv (BitVec.ofInt (IntKind.bits .u64) a24 ||| BitVec.ofInt (IntKind.bits .u64) (zv (1*2^min (zt x22) (IntKind.bits .u64)))).toNat))) (n:=x22) (w:=1) (ob:=2) (c:=0) (bx:=false) (ro:=false) (nr:=true) (fl:=true) (a:=a26) kr kr q27 gE ?_
       refine sy 1 9 ?_
       refine shlR (k:=.u64) (k':=.i64) (a:=1) (b:=x15) kr gE h (fun h=>?_)
       refine sy 1 11 ?_
       refine idxR' (enc:=(AV.int .u64)) (l:=(List.set s19.2.1 (zt x15) (zv (BitVec.ofInt (IntKind.bits .u64) a24 ||| BitVec.ofInt (IntKind.bits .u64) (zv (1*2^min (zt x22) (IntKind.bits .u64)))).toNat))) (n:=x22) (w:=1) (ob:=2) (ro:=false) (nr:=true) (fl:=true) (a:=a26) kr kr gE q27 ?_
       refine storeR (enc:=(AV.int .u64)) (l:=(List.set s19.2.1 (zt x15) (zv (BitVec.ofInt (IntKind.bits .u64) a24 ||| BitVec.ofInt (IntKind.bits .u64) (zv (1*2^min (zt x22) (IntKind.bits .u64)))).toNat))) (n:=x22) (ob:=2) (w:=1) (bx:=false) (nr:=true) (fl:=true) (c:=0) (a:=a26) (a':=zv (BitVec.ofInt (IntKind.bits .u64) a26 ||| BitVec.ofInt (IntKind.bits .u64) (zv (1*2^min (zt x15) (IntKind.bits .u64)))).toNat) (v:=.int .u64 (zv (BitVec.ofInt (IntKind.bits .u64) a26 ||| BitVec.ofInt (IntKind.bits .u64) (zv (1*2^min (zt x15) (IntKind.bits .u64)))).toNat)) false kr kr q27 kr rfl kr gE kr ?_
       refine rknN (n:=(List.set s19.2.1 (zt x15) (zv (BitVec.ofInt (IntKind.bits .u64) a24 ||| BitVec.ofInt (IntKind.bits .u64) (zv (1*2^min (zt x22) (IntKind.bits .u64)))).toNat)).length) (m:=(List.set (List.set s19.2.1 (zt x15) (zv (BitVec.ofInt (IntKind.bits .u64) a24 ||| BitVec.ofInt (IntKind.bits .u64) (zv (1*2^min (zt x22) (IntKind.bits .u64)))).toNat)) (zt x22) (zv (BitVec.ofInt (IntKind.bits .u64) a26 ||| BitVec.ofInt (IntKind.bits .u64) (zv (1*2^min (zt x15) (IntKind.bits .u64)))).toNat)).length) (S:=fun n28=>⟨[(2,.ptr 3 0 0),(7,.ptr 9 0 0),(8,vI x22),(55,.ptr 1 0 0),(56,.ptr 1 0 0),(57,.ptr 1 0 0),(58,.ptr 1 0 0),(59,.ref 2 0 n28),(60,vI x22),(61,.ptr 2 (zt x22) 0),(62,.int .u64 a26),(63,vI x15),(64,.int .u64 (zv (1*2^min (zt x15) (IntKind.bits .u64)))),(65,.int .u64 (zv (BitVec.ofInt (IntKind.bits .u64) a26 ||| BitVec.ofInt (IntKind.bits .u64) (zv (1*2^min (zt x15) (IntKind.bits .u64)))).toNat)),(66,.ptr 2 (zt x22) 0)],[oR true 2 (fun x:(Int × Int)=>AV.agg [vI x.1,vI x.2]) s3.2.2.1,oX false false 2 (.agg [.ref 2 0 n28,.int .u64 s3.2.2.2.1]),oR true 1 (AV.int .u64) (List.set (List.set s19.2.1 (zt x15) (zv (BitVec.ofInt (IntKind.bits .u64) a24 ||| BitVec.ofInt (IntKind.bits .u64) (zv (1*2^min (zt x22) (IntKind.bits .u64)))).toNat)) (zt x22) (zv (BitVec.ofInt (IntKind.bits .u64) a26 ||| BitVec.ofInt (IntKind.bits .u64) (zv (1*2^min (zt x15) (IntKind.bits .u64)))).toNat)),o48_0,oX false false 1 (.ref 13 0 ((s19.2.2++([(x15,x22)]:(List (Int × Int)))).length)),oX true true 1 (.int .u64 a10),oX true true 1 (.int .u64 a10),.loop 71 [(1,vI a6),(2,.ptr 3 0 0),(5,.ptr 4 0 0),(6,.ptr 5 0 0),(18,.fn (.func 85) [] [.ptr 6 0 0])] [19] (cA Tryd.f79 [true,true,true,false,true,true]) (cB Tryd.f79 [true,true,true,false,true,true]) .busy none,.dead,oX true true 1 (vI x15),oX true true 1 (.int .u64 (zv (BitVec.ofInt (IntKind.bits .u64) (zv (BitVec.ofInt (IntKind.bits .u64) a10 &&& ~~~ BitVec.ofInt (IntKind.bits .u64) a17).toNat) &&& ~~~ BitVec.ofInt (IntKind.bits .u64) (zv ((zv (1*2^min (zt (zw (x15+1))) (IntKind.bits .u64))) - 1))).toNat)),.loop 71 [(2,.ptr 3 0 0),(5,.ptr 4 0 0),(7,.ptr 9 0 0),(35,.fn (.func 85) [] [.ptr 10 0 0])] [36] (cA Tryd.f79 [true,true,true,false,true,true,true,true,true,true]) (cB Tryd.f79 [true,true,true,false,true,true,true,true,true,true]) .busy none,.dead,oR true 2 (fun x:(Int × Int)=>AV.agg [vI x.1,vI x.2]) (s19.2.2++([(x15,x22)]:(List (Int × Int))))],71⟩) (by simp only [List.length_set]) ?_
       refine rgd ?_
       refine ⟨⟨[(0,.yld 11),(3,.int .u64 s19.1),(5,.int .u64 s19.1),(6,vB true),(11,.yld 11),(12,.int .u64 s19.1),(13,vI x22),(14,vB true)],[oR true 2 (fun x:(Int × Int)=>AV.agg [vI x.1,vI x.2]) s3.2.2.1,oX false false 2 (.agg [.ref 2 0 ((List.set (List.set s19.2.1 (zt x15) (zv (BitVec.ofInt (IntKind.bits .u64) a24 ||| BitVec.ofInt (IntKind.bits .u64) (zv (1*2^min (zt x22) (IntKind.bits .u64)))).toNat)) (zt x22) (zv (BitVec.ofInt (IntKind.bits .u64) a26 ||| BitVec.ofInt (IntKind.bits .u64) (zv (1*2^min (zt x15) (IntKind.bits .u64)))).toNat)).length),.int .u64 s3.2.2.2.1]),oR true 1 (AV.int .u64) (List.set (List.set s19.2.1 (zt x15) (zv (BitVec.ofInt (IntKind.bits .u64) a24 ||| BitVec.ofInt (IntKind.bits .u64) (zv (1*2^min (zt x22) (IntKind.bits .u64)))).toNat)) (zt x22) (zv (BitVec.ofInt (IntKind.bits .u64) a26 ||| BitVec.ofInt (IntKind.bits .u64) (zv (1*2^min (zt x15) (IntKind.bits .u64)))).toNat)),o48_0,oX false false 1 (.ref 13 0 ((s19.2.2++([(x15,x22)]:(List (Int × Int)))).length)),oX true true 1 (.int .u64 a10),oX true true 1 (.int .u64 a10),.loop 71 [(1,vI a6),(2,.ptr 3 0 0),(5,.ptr 4 0 0),(6,.ptr 5 0 0),(18,.fn (.func 85) [] [.ptr 6 0 0])] [19] (cA Tryd.f79 [true,true,true,false,true,true]) (cB Tryd.f79 [true,true,true,false,true,true]) .busy none,.dead,oX true true 1 (vI x15),oX true true 1 (.int .u64 (zv (BitVec.ofInt (IntKind.bits .u64) (zv (BitVec.ofInt (IntKind.bits .u64) a10 &&& ~~~ BitVec.ofInt (IntKind.bits .u64) a17).toNat) &&& ~~~ BitVec.ofInt (IntKind.bits .u64) (zv ((zv (1*2^min (zt (zw (x15+1))) (IntKind.bits .u64))) - 1))).toNat)),.loop 71 [(2,.ptr 3 0 0),(5,.ptr 4 0 0),(7,.ptr 9 0 0),(35,.fn (.func 85) [] [.ptr 10 0 0])] [36] (cA Tryd.f79 [true,true,true,false,true,true,true,true,true,true]) (cB Tryd.f79 [true,true,true,false,true,true,true,true,true,true]) .ready none,.dead,oR true 2 (fun x:(Int × Int)=>AV.agg [vI x.1,vI x.2]) (s19.2.2++([(x15,x22)]:(List (Int × Int))))],16⟩,by as_aux_lemma=>kernel_rfl,?_⟩
       refine sz 1 5 (reg_end rfl (wcF (wp_skip (wg [0,3] [13] (rn ?_)))))
       cases h
       exact ⟨_,rfl,(wk_gc (live:=[0,3]) (keep:=[12]) kr)⟩
      refine wcF (wg [] [12] ?_)
      refine wp_exit ?_
      cases h
      exact ⟨kr,rfl⟩
     intro x31 h out hx
     subst hx
     refine ⟨.go .normal ⟨[(2,.ptr 3 0 0),(5,.ptr 4 0 0),(7,.ptr 9 0 0),(35,.fn (.func 85) [] [.ptr 10 0 0])],[oR true 2 (fun x:(Int × Int)=>AV.agg [vI x.1,vI x.2]) s3.2.2.1,oX false false 2 (.agg [.ref 2 0 x31.1.length,.int .u64 s3.2.2.2.1]),oR true 1 (AV.int .u64) x31.1,o48_0,oX false false 1 (.ref 12 0 x31.2.length),oX true true 1 (.int .u64 a10),oX true true 1 (.int .u64 a10),.loop 71 [(1,vI a6),(2,.ptr 3 0 0),(5,.ptr 4 0 0),(6,.ptr 5 0 0),(18,.fn (.func 85) [] [.ptr 6 0 0])] [19] (cA Tryd.f79 [true,true,true,false,true,true]) (cB Tryd.f79 [true,true,true,false,true,true]) .busy none,.dead,oX true true 1 (vI x15),oX true true 1 (.int .u64 (zv (BitVec.ofInt (IntKind.bits .u64) (zv (BitVec.ofInt (IntKind.bits .u64) a10 &&& ~~~ BitVec.ofInt (IntKind.bits .u64) a17).toNat) &&& ~~~ BitVec.ofInt (IntKind.bits .u64) (zv ((zv (1*2^min (zt (zw (x15+1))) (IntKind.bits .u64))) - 1))).toNat)),.dead,oR true 2 (fun x:(Int × Int)=>AV.agg [vI x.1,vI x.2]) x31.2],71⟩,by as_aux_lemma=>kernel_rfl,?_⟩
     refine ⟨⟨[(0,.yld 7),(3,.int .u64 s12.1),(5,.int .u64 s12.1),(6,vB true),(11,.yld 7),(12,.int .u64 s12.1),(13,vI x15),(14,vB true)],[oR true 2 (fun x:(Int × Int)=>AV.agg [vI x.1,vI x.2]) s3.2.2.1,oX false false 2 (.agg [.ref 2 0 x31.1.length,.int .u64 s3.2.2.2.1]),oR true 1 (AV.int .u64) x31.1,o48_0,oX false false 1 (.ref 12 0 x31.2.length),oX true true 1 (.int .u64 a10),oX true true 1 (.int .u64 a10),.loop 71 [(1,vI a6),(2,.ptr 3 0 0),(5,.ptr 4 0 0),(6,.ptr 5 0 0),(18,.fn (.func 85) [] [.ptr 6 0 0])] [19] (cA Tryd.f79 [true,true,true,false,true,true]) (cB Tryd.f79 [true,true,true,false,true,true]) .ready none,.dead,oX true true 1 (vI x15),oX true true 1 (.int .u64 (zv (BitVec.ofInt (IntKind.bits .u64) (zv (BitVec.ofInt (IntKind.bits .u64) a10 &&& ~~~ BitVec.ofInt (IntKind.bits .u64) a17).toNat) &&& ~~~ BitVec.ofInt (IntKind.bits .u64) (zv ((zv (1*2^min (zt (zw (x15+1))) (IntKind.bits .u64))) - 1))).toNat)),.dead,oR true 2 (fun x:(Int × Int)=>AV.agg [vI x.1,vI x.2]) x31.2],16⟩,by as_aux_lemma=>kernel_rfl,?_⟩
     refine sz 1 5 (reg_end rfl (wcF (wp_skip (wg [0,3] [12] (rn ?_)))))
     cases h
     exact ⟨_,rfl,(wk_gc (live:=[0,3]) (keep:=[8]) kr)⟩
    refine wcF (wg [] [8] ?_)
    refine wp_exit ?_
    cases h
    exact ⟨kr,rfl⟩
   intro x33 h out hx
   subst hx
   refine ⟨.go .normal ⟨(s48_84 a6),[oR true 2 (fun x:(Int × Int)=>AV.agg [vI x.1,vI x.2]) s3.2.2.1,oX false false 2 (.agg [.ref 2 0 x33.1.length,.int .u64 s3.2.2.2.1]),oR true 1 (AV.int .u64) x33.1,o48_0,oX false false 1 (.ref 8 0 x33.2.length),oX true true 1 (.int .u64 a10),oX true true 1 (.int .u64 a10),.dead,oR true 2 (fun x:(Int × Int)=>AV.agg [vI x.1,vI x.2]) x33.2],71⟩,by as_aux_lemma=>kernel_rfl,?_⟩
   refine wp_seq (reg_in (sz 2 2 ?_))
   refine inlR (f:=63) (fn:=Tryd.f63) (as0:=[.ptr 1 0 0,vI a6]) kr Tryd.func63 rfl (by decide +kernel) rfl ?_
   refine wp_eqB (base':=9) (st':=⟨[(0,.ptr 1 0 0),(1,vI a6)],[oR true 2 (fun x:(Int × Int)=>AV.agg [vI x.1,vI x.2]) s3.2.2.1,oX false false 2 (.agg [.ref 2 0 x33.1.length,.int .u64 s3.2.2.2.1]),oR true 1 (AV.int .u64) x33.1,o48_0,oX false false 1 (.ref 8 0 x33.2.length),oX true true 1 (.int .u64 a10),oX true true 1 (.int .u64 a10),.dead,oR true 2 (fun x:(Int × Int)=>AV.agg [vI x.1,vI x.2]) x33.2],39⟩) kr kr ?_
   refine wp_seq (reg_in ?_)
   refine sgL false [] [] false gE ?_
   refine sz 1 2 (reg_end rfl (wp_seq (rga hfol (sy 5 5 ?_))))
   refine shlR (k:=.u64) (k':=.i64) (a:=1) (b:=a6) kr gE h (fun h=>?_)
   refine sy 4 10 (rgd (wp_seq (wp_seq ?_)))
   refine wgc [2,3] [9,10] ⟨[(2,.ptr 9 0 0),(3,.ptr 10 0 0)],[oR true 2 (fun x:(Int × Int)=>AV.agg [vI x.1,vI x.2]) s3.2.2.1,oX false false 2 (.agg [.ref 2 0 x33.1.length,.int .u64 (zv (BitVec.ofInt (IntKind.bits .u64) s3.2.2.2.1 &&& ~~~ BitVec.ofInt (IntKind.bits .u64) (zv (1*2^min (zt a6) (IntKind.bits .u64)))).toNat)]),oR true 1 (AV.int .u64) x33.1,o48_0,oX false false 1 (.ref 8 0 x33.2.length),oX true true 1 (.int .u64 a10),oX true true 1 (.int .u64 a10),.dead,oR true 2 (fun x:(Int × Int)=>AV.agg [vI x.1,vI x.2]) x33.2,o48_0,oX true true 1 (vI a6)],39⟩ ?_
   refine reg_in (sz 4 4 ?_)
   refine inlR (f:=68) (fn:=Tryd.f68) (as0:=[.int .u64 (zv (BitVec.ofInt (IntKind.bits .u64) s3.2.2.2.1 &&& ~~~ BitVec.ofInt (IntKind.bits .u64) (zv (1*2^min (zt a6) (IntKind.bits .u64)))).toNat)]) kr Tryd.func68 rfl (by decide +kernel) rfl ?_
   refine wp_eqB (base':=11) (st':=⟨[(0,.int .u64 (zv (BitVec.ofInt (IntKind.bits .u64) s3.2.2.2.1 &&& ~~~ BitVec.ofInt (IntKind.bits .u64) (zv (1*2^min (zt a6) (IntKind.bits .u64)))).toNat))],[oR true 2 (fun x:(Int × Int)=>AV.agg [vI x.1,vI x.2]) s3.2.2.1,oX false false 2 (.agg [.ref 2 0 x33.1.length,.int .u64 (zv (BitVec.ofInt (IntKind.bits .u64) s3.2.2.2.1 &&& ~~~ BitVec.ofInt (IntKind.bits .u64) (zv (1*2^min (zt a6) (IntKind.bits .u64)))).toNat)]),oR true 1 (AV.int .u64) x33.1,o48_0,oX false false 1 (.ref 8 0 x33.2.length),oX true true 1 (.int .u64 a10),oX true true 1 (.int .u64 a10),.dead,oR true 2 (fun x:(Int × Int)=>AV.agg [vI x.1,vI x.2]) x33.2,o48_0,oX true true 1 (vI a6)],4⟩) kr kr ?_
   refine sq (sq (wg [2] [11] ?_))
   refine wp_ret ?_
   refine ⟨⟨[(2,.ptr 9 0 0),(3,.ptr 10 0 0),(14,.ptr 1 0 0),(15,.ptr 1 0 0),(16,.ptr 1 0 1),(17,.int .u64 (zv (BitVec.ofInt (IntKind.bits .u64) s3.2.2.2.1 &&& ~~~ BitVec.ofInt (IntKind.bits .u64) (zv (1*2^min (zt a6) (IntKind.bits .u64)))).toNat))]++[(18,.fn (.func 85) [] [.ptr 11 0 0])],[oR true 2 (fun x:(Int × Int)=>AV.agg [vI x.1,vI x.2]) s3.2.2.1,oX false false 2 (.agg [.ref 2 0 x33.1.length,.int .u64 (zv (BitVec.ofInt (IntKind.bits .u64) s3.2.2.2.1 &&& ~~~ BitVec.ofInt (IntKind.bits .u64) (zv (1*2^min (zt a6) (IntKind.bits .u64)))).toNat)]),oR true 1 (AV.int .u64) x33.1,o48_0,oX false false 1 (.ref 8 0 x33.2.length),oX true true 1 (.int .u64 a10),oX true true 1 (.int .u64 a10),.dead,oR true 2 (fun x:(Int × Int)=>AV.agg [vI x.1,vI x.2]) x33.2,o48_0,oX true true 1 (vI a6),oX true true 1 (.int .u64 (zv (BitVec.ofInt (IntKind.bits .u64) s3.2.2.2.1 &&& ~~~ BitVec.ofInt (IntKind.bits .u64) (zv (1*2^min (zt a6) (IntKind.bits .u64)))).toNat))],39⟩,by as_aux_lemma=>kernel_rfl,?_⟩
   refine reg_end rfl (wp_block ?_)
   refine wgc [2,3,18] [9,10,11] ⟨[(2,.ptr 9 0 0),(3,.ptr 10 0 0),(18,.fn (.func 85) [] [.ptr 11 0 0])],[oR true 2 (fun x:(Int × Int)=>AV.agg [vI x.1,vI x.2]) s3.2.2.1,oX false false 2 (.agg [.ref 2 0 x33.1.length,.int .u64 (zv (BitVec.ofInt (IntKind.bits .u64) s3.2.2.2.1 &&& ~~~ BitVec.ofInt (IntKind.bits .u64) (zv (1*2^min (zt a6) (IntKind.bits .u64)))).toNat)]),oR true 1 (AV.int .u64) x33.1,o48_0,oX false false 1 (.ref 8 0 x33.2.length),oX true true 1 (.int .u64 a10),oX true true 1 (.int .u64 a10),.dead,oR true 2 (fun x:(Int × Int)=>AV.agg [vI x.1,vI x.2]) x33.2,o48_0,oX true true 1 (vI a6),oX true true 1 (.int .u64 (zv (BitVec.ofInt (IntKind.bits .u64) s3.2.2.2.1 &&& ~~~ BitVec.ofInt (IntKind.bits .u64) (zv (1*2^min (zt a6) (IntKind.bits .u64)))).toNat))],39⟩ ?_
   refine wp_range (f:=85) (fn:=Tryd.f85) (first:=[]) (caps:=[.ptr 11 0 0]) rfl Tryd.func85 rfl (by decide +kernel) rfl rfl ?_
   refine wp_eqB (base':=13) (st':=⟨[(0,.yld 12),(1,.ptr 11 0 0)],[oR true 2 (fun x:(Int × Int)=>AV.agg [vI x.1,vI x.2]) s3.2.2.1,oX false false 2 (.agg [.ref 2 0 x33.1.length,.int .u64 (zv (BitVec.ofInt (IntKind.bits .u64) s3.2.2.2.1 &&& ~~~ BitVec.ofInt (IntKind.bits .u64) (zv (1*2^min (zt a6) (IntKind.bits .u64)))).toNat)]),oR true 1 (AV.int .u64) x33.1,o48_0,oX false false 1 (.ref 8 0 x33.2.length),oX true true 1 (.int .u64 a10),oX true true 1 (.int .u64 a10),.dead,oR true 2 (fun x:(Int × Int)=>AV.agg [vI x.1,vI x.2]) x33.2,o48_0,oX true true 1 (vI a6),oX true true 1 (.int .u64 (zv (BitVec.ofInt (IntKind.bits .u64) s3.2.2.2.1 &&& ~~~ BitVec.ofInt (IntKind.bits .u64) (zv (1*2^min (zt a6) (IntKind.bits .u64)))).toNat)),.loop 39 [(2,.ptr 9 0 0),(3,.ptr 10 0 0),(18,.fn (.func 85) [] [.ptr 11 0 0])] [19] (cA Tryd.f63 [true,true,false,true,true]) (cB Tryd.f63 [true,true,false,true,true]) .ready none],16⟩) kr kr ?_
   refine sq (wp_block ?_)
   refine wwh h (fun s34=>⟨[(0,.yld 12),(3,.int .u64 s34.1)],[oR true 2 (fun x:(Int × Int)=>AV.agg [vI x.1,vI x.2]) s3.2.2.1,oX false false 2 (.agg [.ref 2 0 s34.2.length,.int .u64 (zv (BitVec.ofInt (IntKind.bits .u64) s3.2.2.2.1 &&& ~~~ BitVec.ofInt (IntKind.bits .u64) (zv (1*2^min (zt a6) (IntKind.bits .u64)))).toNat)]),oR true 1 (AV.int .u64) s34.2,o48_0,oX false false 1 (.ref 8 0 x33.2.length),oX true true 1 (.int .u64 a10),oX true true 1 (.int .u64 a10),.dead,oR true 2 (fun x:(Int × Int)=>AV.agg [vI x.1,vI x.2]) x33.2,o48_0,oX true true 1 (vI a6),oX true true 1 (.int .u64 (zv (BitVec.ofInt (IntKind.bits .u64) s3.2.2.2.1 &&& ~~~ BitVec.ofInt (IntKind.bits .u64) (zv (1*2^min (zt a6) (IntKind.bits .u64)))).toNat)),.loop 39 [(2,.ptr 9 0 0),(3,.ptr 10 0 0),(18,.fn (.func 85) [] [.ptr 11 0 0])] [19] (cA Tryd.f63 [true,true,false,true,true]) (cB Tryd.f63 [true,true,false,true,true]) .ready none],16⟩) (fun v out=>out=.go (.exit 0) ⟨[],[oR true 2 (fun x:(Int × Int)=>AV.agg [vI x.1,vI x.2]) s3.2.2.1,oX false false 2 (.agg [.ref 2 0 v.length,.int .u64 (zv (BitVec.ofInt (IntKind.bits .u64) s3.2.2.2.1 &&& ~~~ BitVec.ofInt (IntKind.bits .u64) (zv (1*2^min (zt a6) (IntKind.bits .u64)))).toNat)]),oR true 1 (AV.int .u64) v,o48_0,oX false false 1 (.ref 8 0 x33.2.length),oX true true 1 (.int .u64 a10),oX true true 1 (.int .u64 a10),.dead,oR true 2 (fun x:(Int × Int)=>AV.agg [vI x.1,vI x.2]) x33.2,o48_0,oX true true 1 (vI a6),oX true true 1 (.int .u64 (zv (BitVec.ofInt (IntKind.bits .u64) s3.2.2.2.1 &&& ~~~ BitVec.ofInt (IntKind.bits .u64) (zv (1*2^min (zt a6) (IntKind.bits .u64)))).toNat)),.loop 39 [(2,.ptr 9 0 0),(3,.ptr 10 0 0),(18,.fn (.func 85) [] [.ptr 11 0 0])] [19] (cA Tryd.f63 [true,true,false,true,true]) (cB Tryd.f63 [true,true,false,true,true]) .ready none],16⟩) (wk_gc (live:=[0,3]) (keep:=[]) kr) ?_ ?_
   ·intro s34 o h
    unfold g_order_run_b2 at h
    refine wp_seq (sq ?_)
    refine wb [6] h (fun q36 h=>?_) (fun q36 h=>?_)
    ·refine wcT (wp_skip (wp_seq (wp_block (wp_seq (reg_in (sz 2 2 ?_))))))
     refine callW bodyB_86 (g_math_bits_TrailingZeros_ok s34.1) h (fun x37 _ h=>?_)
     refine yldR (l:=12) (nt:=39) (us:=[vI x37]) (sl:=[(2,.ptr 9 0 0),(3,.ptr 10 0 0),(18,.fn (.func 85) [] [.ptr 11 0 0])]) (ps:=[19]) (assign:=cA Tryd.f63 [true,true,false,true,true]) (body:=cB Tryd.f63 [true,true,false,true,true]) (pe:=none) kr kr rfl ?_
     refine wp_eqB (base':=13) (st':=⟨[(2,.ptr 9 0 0),(3,.ptr 10 0 0),(18,.fn (.func 85) [] [.ptr 11 0 0]),(19,vI x37)],[oR true 2 (fun x:(Int × Int)=>AV.agg [vI x.1,vI x.2]) s3.2.2.1,oX false false 2 (.agg [.ref 2 0 s34.2.length,.int .u64 (zv (BitVec.ofInt (IntKind.bits .u64) s3.2.2.2.1 &&& ~~~ BitVec.ofInt (IntKind.bits .u64) (zv (1*2^min (zt a6) (IntKind.bits .u64)))).toNat)]),oR true 1 (AV.int .u64) s34.2,o48_0,oX false false 1 (.ref 8 0 x33.2.length),oX true true 1 (.int .u64 a10),oX true true 1 (.int .u64 a10),.dead,oR true 2 (fun x:(Int × Int)=>AV.agg [vI x.1,vI x.2]) x33.2,o48_0,oX true true 1 (vI a6),oX true true 1 (.int .u64 (zv (BitVec.ofInt (IntKind.bits .u64) s3.2.2.2.1 &&& ~~~ BitVec.ofInt (IntKind.bits .u64) (zv (1*2^min (zt a6) (IntKind.bits .u64)))).toNat)),.loop 39 [(2,.ptr 9 0 0),(3,.ptr 10 0 0),(18,.fn (.func 85) [] [.ptr 11 0 0])] [19] (cA Tryd.f63 [true,true,false,true,true]) (cB Tryd.f63 [true,true,false,true,true]) .ready none],39⟩) kr kr ?_
     refine rn ?_
     refine ⟨⟨[(2,.ptr 9 0 0),(3,.ptr 10 0 0),(18,.fn (.func 85) [] [.ptr 11 0 0]),(19,vI x37),(4,vI x37)],[oR true 2 (fun x:(Int × Int)=>AV.agg [vI x.1,vI x.2]) s3.2.2.1,oX false false 2 (.agg [.ref 2 0 s34.2.length,.int .u64 (zv (BitVec.ofInt (IntKind.bits .u64) s3.2.2.2.1 &&& ~~~ BitVec.ofInt (IntKind.bits .u64) (zv (1*2^min (zt a6) (IntKind.bits .u64)))).toNat)]),oR true 1 (AV.int .u64) s34.2,o48_0,oX false false 1 (.ref 8 0 x33.2.length),oX true true 1 (.int .u64 a10),oX true true 1 (.int .u64 a10),.dead,oR true 2 (fun x:(Int × Int)=>AV.agg [vI x.1,vI x.2]) x33.2,o48_0,oX true true 1 (vI a6),oX true true 1 (.int .u64 (zv (BitVec.ofInt (IntKind.bits .u64) s3.2.2.2.1 &&& ~~~ BitVec.ofInt (IntKind.bits .u64) (zv (1*2^min (zt a6) (IntKind.bits .u64)))).toNat)),.loop 39 [(2,.ptr 9 0 0),(3,.ptr 10 0 0),(18,.fn (.func 85) [] [.ptr 11 0 0])] [19] (cA Tryd.f63 [true,true,false,true,true]) (cB Tryd.f63 [true,true,false,true,true]) .busy none],39⟩,by as_aux_lemma=>kernel_rfl,?_⟩
     refine wp_block (rga hfol (sy 6 6 ?_))
     refine bind_elim h (fun a39 q40 h=>?_)
     refine idxR' (enc:=(AV.int .u64)) (l:=s34.2) (n:=x37) (w:=1) (ob:=2) (ro:=false) (nr:=true) (fl:=true) (a:=a39) kr kr gE q40 ?_
     refine loadR (enc:=(AV.int .u64)) (l:=s34.2) (n:=x37) (w:=1) (ob:=2) (c:=0) (bx:=false) (ro:=false) (nr:=true) (fl:=true) (a:=a39) kr kr q40 gE ?_
     refine sy 1 9 ?_
     refine shlR (k:=.u64) (k':=.i64) (a:=1) (b:=a6) kr gE h (fun h=>?_)
     refine sy 1 11 ?_
     refine idxR' (enc:=(AV.int .u64)) (l:=s34.2) (n:=x37) (w:=1) (ob:=2) (ro:=false) (nr:=true) (fl:=true) (a:=a39) kr kr gE q40 ?_
     refine storeR (enc:=(AV.int .u64)) (l:=s34.2) (n:=x37) (ob:=2) (w:=1) (bx:=false) (nr:=true) (fl:=true) (c:=0) (a:=a39) (a':=zv (BitVec.ofInt (IntKind.bits .u64) a39 &&& ~~~ BitVec.ofInt (IntKind.bits .u64) (zv (1*2^min (zt a6) (IntKind.bits .u64)))).toNat) (v:=.int .u64 (zv (BitVec.ofInt (IntKind.bits .u64) a39 &&& ~~~ BitVec.ofInt (IntKind.bits .u64) (zv (1*2^min (zt a6) (IntKind.bits .u64)))).toNat)) false kr kr q40 kr rfl kr gE kr ?_
     refine rknN (n:=s34.2.length) (m:=(List.set s34.2 (zt x37) (zv (BitVec.ofInt (IntKind.bits .u64) a39 &&& ~~~ BitVec.ofInt (IntKind.bits .u64) (zv (1*2^min (zt a6) (IntKind.bits .u64)))).toNat)).length) (S:=fun n41=>⟨[(2,.ptr 9 0 0),(3,.ptr 10 0 0),(18,.fn (.func 85) [] [.ptr 11 0 0]),(19,vI x37),(4,vI x37),(20,.ptr 1 0 0),(21,.ptr 1 0 0),(22,.ptr 1 0 0),(23,.ptr 1 0 0),(24,.ref 2 0 n41),(25,vI x37),(26,.ptr 2 (zt x37) 0),(27,.int .u64 a39),(28,vI a6),(29,.int .u64 (zv (1*2^min (zt a6) (IntKind.bits .u64)))),(30,.int .u64 (zv (BitVec.ofInt (IntKind.bits .u64) a39 &&& ~~~ BitVec.ofInt (IntKind.bits .u64) (zv (1*2^min (zt a6) (IntKind.bits .u64)))).toNat)),(31,.ptr 2 (zt x37) 0)],[oR true 2 (fun x:(Int × Int)=>AV.agg [vI x.1,vI x.2]) s3.2.2.1,oX false false 2 (.agg [.ref 2 0 n41,.int .u64 (zv (BitVec.ofInt (IntKind.bits .u64) s3.2.2.2.1 &&& ~~~ BitVec.ofInt (IntKind.bits .u64) (zv (1*2^min (zt a6) (IntKind.bits .u64)))).toNat)]),oR true 1 (AV.int .u64) (List.set s34.2 (zt x37) (zv (BitVec.ofInt (IntKind.bits .u64) a39 &&& ~~~ BitVec.ofInt (IntKind.bits .u64) (zv (1*2^min (zt a6) (IntKind.bits .u64)))).toNat)),o48_0,oX false false 1 (.ref 8 0 x33.2.length),oX true true 1 (.int .u64 a10),oX true true 1 (.int .u64 a10),.dead,oR true 2 (fun x:(Int × Int)=>AV.agg [vI x.1,vI x.2]) x33.2,o48_0,oX true true 1 (vI a6),oX true true 1 (.int .u64 (zv (BitVec.ofInt (IntKind.bits .u64) s3.2.2.2.1 &&& ~~~ BitVec.ofInt (IntKind.bits .u64) (zv (1*2^min (zt a6) (IntKind.bits .u64)))).toNat)),.loop 39 [(2,.ptr 9 0 0),(3,.ptr 10 0 0),(18,.fn (.func 85) [] [.ptr 11 0 0])] [19] (cA Tryd.f63 [true,true,false,true,true]) (cB Tryd.f63 [true,true,false,true,true]) .busy none],39⟩) (by simp only [List.length_set]) ?_
     refine rgd ?_
     refine ⟨⟨[(0,.yld 12),(3,.int .u64 s34.1),(5,.int .u64 s34.1),(6,vB true),(11,.yld 12),(12,.int .u64 s34.1),(13,vI x37),(14,vB true)],[oR true 2 (fun x:(Int × Int)=>AV.agg [vI x.1,vI x.2]) s3.2.2.1,oX false false 2 (.agg [.ref 2 0 ((List.set s34.2 (zt x37) (zv (BitVec.ofInt (IntKind.bits .u64) a39 &&& ~~~ BitVec.ofInt (IntKind.bits .u64) (zv (1*2^min (zt a6) (IntKind.bits .u64)))).toNat)).length),.int .u64 (zv (BitVec.ofInt (IntKind.bits .u64) s3.2.2.2.1 &&& ~~~ BitVec.ofInt (IntKind.bits .u64) (zv (1*2^min (zt a6) (IntKind.bits .u64)))).toNat)]),oR true 1 (AV.int .u64) (List.set s34.2 (zt x37) (zv (BitVec.ofInt (IntKind.bits .u64) a39 &&& ~~~ BitVec.ofInt (IntKind.bits .u64) (zv (1*2^min (zt a6) (IntKind.bits .u64)))).toNat)),o48_0,oX false false 1 (.ref 8 0 x33.2.length),oX true true 1 (.int .u64 a10),oX true true 1 (.int .u64 a10),.dead,oR true 2 (fun x:(Int × Int)=>AV.agg [vI x.1,vI x.2]) x33.2,o48_0,oX true true 1 (vI a6),oX true true 1 (.int .u64 (zv (BitVec.ofInt (IntKind.bits .u64) s3.2.2.2.1 &&& ~~~ BitVec.ofInt (IntKind.bits .u64) (zv (1*2^min (zt a6) (IntKind.bits .u64)))).toNat)),.loop 39 [(2,.ptr 9 0 0),(3,.ptr 10 0 0),(18,.fn (.func 85) [] [.ptr 11 0 0])] [19] (cA Tryd.f63 [true,true,false,true,true]) (cB Tryd.f63 [true,true,false,true,true]) .ready none],16⟩,by as_aux_lemma=>kernel_rfl,?_⟩
     refine sz 1 5 (reg_end rfl (wcF (wp_skip (wg [0,3] [] (rn ?_)))))
     cases h
     exact ⟨_,rfl,(wk_gc (live:=[0,3]) (keep:=[]) kr)⟩
    refine wcF (wg [] [] ?_)
    refine wp_exit ?_
    cases h
    exact ⟨kr,rfl⟩
   intro x43 h out hx
   subst hx
   refine ⟨.go .normal ⟨[(2,.ptr 9 0 0),(3,.ptr 10 0 0),(18,.fn (.func 85) [] [.ptr 11 0 0])],[oR true 2 (fun x:(Int × Int)=>AV.agg [vI x.1,vI x.2]) s3.2.2.1,oX false false 2 (.agg [.ref 2 0 x43.length,.int .u64 (zv (BitVec.ofInt (IntKind.bits .u64) s3.2.2.2.1 &&& ~~~ BitVec.ofInt (IntKind.bits .u64) (zv (1*2^min (zt a6) (IntKind.bits .u64)))).toNat)]),oR true 1 (AV.int .u64) x43,o48_0,oX false false 1 (.ref 8 0 x33.2.length),oX true true 1 (.int .u64 a10),oX true true 1 (.int .u64 a10),.dead,oR true 2 (fun x:(Int × Int)=>AV.agg [vI x.1,vI x.2]) x33.2,o48_0,oX true true 1 (vI a6),oX true true 1 (.int .u64 (zv (BitVec.ofInt (IntKind.bits .u64) s3.2.2.2.1 &&& ~~~ BitVec.ofInt (IntKind.bits .u64) (zv (1*2^min (zt a6) (IntKind.bits .u64)))).toNat)),.dead],39⟩,by as_aux_lemma=>kernel_rfl,?_⟩
   refine rga hfol (sy 6 6 ?_)
   refine bind_elim h (fun a44 q45 h=>?_)
   refine idxR' (enc:=(AV.int .u64)) (l:=x43) (n:=a6) (w:=1) (ob:=2) (ro:=false) (nr:=true) (fl:=true) (a:=a44) kr kr gE q45 ?_
   refine storeR (enc:=(AV.int .u64)) (l:=x43) (n:=a6) (ob:=2) (w:=1) (bx:=false) (nr:=true) (fl:=true) (c:=0) (a:=a44) (a':=0) (v:=.int .u64 0) false kr kr q45 kr rfl kr gE kr ?_
   refine rknN (n:=x43.length) (m:=(List.set x43 (zt a6) 0).length) (S:=fun n46=>⟨[(2,.ptr 9 0 0),(3,.ptr 10 0 0),(18,.fn (.func 85) [] [.ptr 11 0 0]),(32,.ptr 1 0 0),(33,.ptr 1 0 0),(34,.ptr 1 0 0),(35,.ptr 1 0 0),(36,.ref 2 0 n46),(37,vI a6),(38,.ptr 2 (zt a6) 0)],[oR true 2 (fun x:(Int × Int)=>AV.agg [vI x.1,vI x.2]) s3.2.2.1,oX false false 2 (.agg [.ref 2 0 n46,.int .u64 (zv (BitVec.ofInt (IntKind.bits .u64) s3.2.2.2.1 &&& ~~~ BitVec.ofInt (IntKind.bits .u64) (zv (1*2^min (zt a6) (IntKind.bits .u64)))).toNat)]),oR true 1 (AV.int .u64) (List.set x43 (zt a6) 0),o48_0,oX false false 1 (.ref 8 0 x33.2.length),oX true true 1 (.int .u64 a10),oX true true 1 (.int .u64 a10),.dead,oR true 2 (fun x:(Int × Int)=>AV.agg [vI x.1,vI x.2]) x33.2,o48_0,oX true true 1 (vI a6),oX true true 1 (.int .u64 (zv (BitVec.ofInt (IntKind.bits .u64) s3.2.2.2.1 &&& ~~~ BitVec.ofInt (IntKind.bits .u64) (zv (1*2^min (zt a6) (IntKind.bits .u64)))).toNat)),.dead],39⟩) (by simp only [List.length_set]) ?_
   refine rgd ?_
   refine ⟨⟨(s48_84 a6)++[(67,.ptr 1 0 0),(68,vI a6),(69,.tup [])],[oR true 2 (fun x:(Int × Int)=>AV.agg [vI x.1,vI x.2]) s3.2.2.1,oX false false 2 (.agg [.ref 2 0 ((List.set x43 (zt a6) 0).length),.int .u64 (zv (BitVec.ofInt (IntKind.bits .u64) s3.2.2.2.1 &&& ~~~ BitVec.ofInt (IntKind.bits .u64) (zv (1*2^min (zt a6) (IntKind.bits .u64)))).toNat)]),oR true 1 (AV.int .u64) (List.set x43 (zt a6) 0),o48_0,oX false false 1 (.ref 8 0 x33.2.length),oX true true 1 (.int .u64 a10),oX true true 1 (.int .u64 a10),.dead,oR true 2 (fun x:(Int × Int)=>AV.agg [vI x.1,vI x.2]) x33.2,o48_0,oX true true 1 (vI a6),oX true true 1 (.int .u64 (zv (BitVec.ofInt (IntKind.bits .u64) s3.2.2.2.1 &&& ~~~ BitVec.ofInt (IntKind.bits .u64) (zv (1*2^min (zt a6) (IntKind.bits .u64)))).toNat)),.dead],71⟩,by as_aux_lemma=>kernel_rfl,?_⟩
   refine reg_end rfl (wp_seq (wg [5] [4,8] (rn (wg [4] [4] ?_))))
   refine wp_ret ?_
   refine ⟨⟨[(4,.ref 0 0 s3.2.2.1.length),(5,vI (if x8 > s3.1 then x8 else s3.1)),(6,.ptr 1 0 0),(11,z1 p1),(12,vI (zn p1)),(13,vI s3.2.1),(8,vI a6)]++[(22,.ref 0 0 s3.2.2.1.length),(23,.ptr 1 0 0),(24,vI a6),(25,.ref 3 0 x33.2.length)],[oR true 2 (fun x:(Int × Int)=>AV.agg [vI x.1,vI x.2]) s3.2.2.1,oX false false 2 (.agg [.ref 2 0 ((List.set x43 (zt a6) 0).length),.int .u64 (zv (BitVec.ofInt (IntKind.bits .u64) s3.2.2.2.1 &&& ~~~ BitVec.ofInt (IntKind.bits .u64) (zv (1*2^min (zt a6) (IntKind.bits .u64)))).toNat)]),oR true 1 (AV.int .u64) (List.set x43 (zt a6) 0),oR true 2 (fun x:(Int × Int)=>AV.agg [vI x.1,vI x.2]) x33.2],30⟩,by as_aux_lemma=>kernel_rfl,?_⟩
   refine appR (enc:=(fun x:(Int × Int)=>AV.agg [vI x.1,vI x.2])) (l:=s3.2.2.1) (m:=x33.2) (w:=2) (bytes:=16) (ob:=0) (nr:=true) (fl:=true) (nr':=true) (fl':=true) (b:=.ref 3 0 x33.2.length) (rds:=[3]) false kr kr (elems_ref (ro:=false) kr) rfl gE kr h (fun h=>?_)
   refine sz 1 6 (reg_end rfl (wg [4,5,6,11,12,13] [4,1,2] (rn ?_)))
   cases h
   exact ⟨_,rfl,(wk_gc (live:=[4,5,6,11,12,13]) (keep:=[0,1,2]) kr)⟩
  refine wcF (wg [4,5] [0] ?_)
  refine wp_exit ?_
  cases h
  exact ⟨kr,rfl⟩
 intro x48 h out hx
 subst hx
 refine sq (wg [4,5] [0] ?_)
 cases h
 exact wp_ret (show fnOut _ _ _ _=_ from by kernel_rfl)
theorem g_cmp_Or_int_ok (p0:(List Int)) (x:Int) (h:g_cmp_Or_int p0=some x):CallOk Tryd.prog 51 [z1 p0] (.ret (vI x) []):=by
 refine fn_ok [] Tryd.func51 rfl (by decide +kernel) rfl ?_
 unfold g_cmp_Or_int at h
 refine wp_eqB (base':=0) (st':=⟨[(0,z1 p0)],[],18⟩) kr kr ?_
 refine sq (sq (wp_seq (wp_seq (reg_in (sz 1 1 ?_)))))
 refine lenL (enc:=eI) (l:=p0) (fl:=true) kr gE ?_
 refine sz 1 3 (reg_end rfl (wp_block ?_))
 refine wwh h (fun s1=>⟨[(3,vI 0),(6,z1 p0),(7,vI (zn p0)),(8,vI s1)],[],18⟩) (fun x out=>out=match x with | .inl v=>.go (.ret) ⟨[(2,vI v)],[],18⟩ | .inr v=>.go (.exit 0) ⟨[(3,vI 0)],[],18⟩) (wk_gc (live:=[3,6,7,8]) (keep:=[]) kr) ?_ ?_
 ·intro s1 o h
  unfold g_cmp_Or_int_b0 at h
  refine sq (wp_seq ?_)
  refine wb [9] h (fun q3 h=>?_) (fun q3 h=>?_)
  ·refine wcT (wp_skip (wp_seq (wp_block (wp_seq (reg_in ?_)))))
   refine bind_elim h (fun a4 q5 h=>?_)
   refine idxL' (enc:=eI) (l:=p0) (n:=s1) (fl:=true) (w:=1) (a:=a4) kr rfl gE q5 ?_
   refine sz 2 3 (reg_end rfl (sq ?_))
   refine wbz h (fun q7 h=>?_) (fun q7 h=>?_)
   ·refine wp_seq ?_
    refine wgc [5] [] ⟨[(5,vI a4)],[],18⟩ ?_
    refine rn (wg [2] [] ?_)
    refine wp_ret ?_
    cases h
    exact ⟨kr,rfl⟩
   refine wp_skip ?_
   refine wgc [3,6,7,8] [] ⟨[(3,vI 0),(6,z1 p0),(7,vI (zn p0)),(8,vI s1)],[],18⟩ ?_
   refine rn ?_
   cases h
   exact ⟨_,rfl,(wk_gc (live:=[3,6,7,8]) (keep:=[]) kr)⟩
  refine wcF (wg [3] [] ?_)
  refine wp_exit ?_
  cases h
  exact ⟨kr,rfl⟩
 intro x8 h out hx
 subst hx
 rcases x8 with x9 | x10
 ·dsimp only at h ⊢
  cases h
  show fnOut _ _ _ _=_
  kernel_rfl
 ·dsimp only at h ⊢
  refine sq (wg [2] [] ?_)
  cases h
  exact wp_ret (show fnOut _ _ _ _=_ from by kernel_rfl)
theorem g_cmp_isNaN_int_ok (p0:Int) (x:Bool) (h:g_cmp_isNaN_int p0=some x):CallOk Tryd.prog 82 [vI p0] (.ret (vB x) []):=by
 refine fn_ok [] Tryd.func82 rfl (by decide +kernel) rfl ?_
 unfold g_cmp_isNaN_int at h
 refine wp_eqB (base':=0) (st':=⟨[(0,vI p0)],[],6⟩) kr kr ?_
 refine sq (sq (wg [2] [] ?_))
 cases h
 exact wp_ret (show fnOut _ _ _ _=_ from by kernel_rfl)
theorem g_cmp_Compare_int_ok (p0:Int) (p1:Int) (x:Int) (h:g_cmp_Compare_int p0 p1=some x):CallOk Tryd.prog 52 [vI p0,vI p1] (.ret (vI x) []):=by
 refine fn_ok [] Tryd.func52 rfl (by decide +kernel) rfl ?_
 unfold g_cmp_Compare_int at h
 refine wp_eqB (base':=0) (st':=⟨[(0,vI p0),(1,vI p1)],[],20⟩) kr kr ?_
 refine sq (wp_seq (reg_in (sz 1 1 ?_)))
 refine callW bodyB_82 (g_cmp_isNaN_int_ok p0) h (fun x1 _ h=>?_)
 refine sz 1 3 (reg_end rfl (wp_seq (reg_in (sz 1 1 ?_))))
 refine callW bodyB_82 (g_cmp_isNaN_int_ok p1) h (fun x3 _ h=>?_)
 refine sz 1 3 (reg_end rfl (wp_seq (wp_seq (wg [0,1,5,6] [] (rn ?_)))))
 refine wb [5,11] h (fun q6 h=>?_) (fun q6 h=>?_)
 ·refine wcT (wp_seq (sq ?_))
  refine wbz h (fun q8 h=>?_) (fun q8 h=>?_)
  ·refine wp_seq ?_
   refine wgc [] [] ⟨[],[],20⟩ ?_
   refine rn (wg [4] [] ?_)
   cases h
   exact wp_ret (show fnOut _ _ _ _=_ from by kernel_rfl)
  refine wp_skip (wp_seq ?_)
  refine wgc [] [] ⟨[],[],20⟩ ?_
  refine rn (wg [4] [] ?_)
  cases h
  exact wp_ret (show fnOut _ _ _ _=_ from by kernel_rfl)
 refine wcF (wp_skip (wp_seq (sq ?_)))
 refine wb [6,13] h (fun q10 h=>?_) (fun q10 h=>?_)
 ·refine wcT (wp_seq ?_)
  refine wgc [] [] ⟨[],[],20⟩ ?_
  refine rn (wg [4] [] ?_)
  cases h
  exact wp_ret (show fnOut _ _ _ _=_ from by kernel_rfl)
 refine wcF (wp_skip (wp_seq (sq ?_)))
 refine wbz h (fun q12 h=>?_) (fun q12 h=>?_)
 ·refine wp_seq ?_
  refine wgc [] [] ⟨[],[],20⟩ ?_
  refine rn (wg [4] [] ?_)
  cases h
  exact wp_ret (show fnOut _ _ _ _=_ from by kernel_rfl)
 refine wp_skip (wp_seq (wp_seq ?_))
 refine wgc [0,1] [] ⟨[(0,vI p0),(1,vI p1)],[],20⟩ ?_
 refine rn ?_
 refine wbz h (fun q14 h=>?_) (fun q14 h=>?_)
 ·refine wp_seq (wg [] [] (rn (wg [4] [] ?_)))
  cases h
  exact wp_ret (show fnOut _ _ _ _=_ from by kernel_rfl)
 refine wp_skip (wp_seq (wg [] [] (rn (wg [4] [] ?_))))
 cases h
 exact wp_ret (show fnOut _ _ _ _=_ from by kernel_rfl)
theorem g_order_Fill_1_ok (p0:(Int × Int)) (p1:(Int × Int)) (x:Int) (h:g_order_Fill_1 p0 p1=some x):CallOk Tryd.prog 50 [.agg [vI p0.1,vI p0.2],.agg [vI p1.1,vI p1.2]] (.ret (vI x) []):=by
 refine fn_ok [] Tryd.func50 rfl (by decide +kernel) rfl ?_
 unfold g_order_Fill_1 at h
 refine wp_eqB (base':=0) (st':=⟨[(0,.agg [vI p0.1,vI p0.2]),(1,.agg [vI p1.1,vI p1.2])],[],17⟩) kr kr ?_
 refine sq (wp_seq (rga hfol (sy 4 4 ?_)))
 refine callW bodyB_52 (g_cmp_Compare_int_ok p0.1 p1.1) h (fun x1 _ h=>?_)
 refine sy 4 9 ?_
 refine callW bodyB_52 (g_cmp_Compare_int_ok p0.2 p1.2) h (fun x3 _ h=>?_)
 refine sgL false [] [] true gE ?_
 refine callR (as0:=[.ref 2 0 2]) (ids:=[2]) kr bodyB_51 (msnap_cons (show snap _ _ _=some (_,[2]) from kr) msnap_nil (by rfl)) (fun x5 q6=>g_cmp_Or_int_ok [x1,x3] x5 q6) gF h (fun x5 q6 h=>?_)
 refine sy 1 13 (rgd ?_)
 refine wgc [4] [] ⟨[(4,vI x5)],[],17⟩ ?_
 cases h
 exact wp_ret (show fnOut _ _ _ _=_ from by kernel_rfl)
theorem g_order_Fill_ok (p0:(List Int)) (p1:(List Int)) (x:((List (Int × Int)) × Int)) (h:g_order_Fill p0 p1=some x):CallOk Tryd.prog 16 [eL true (AV.int .u64) p0,z1 p1] (.ret (.tup [.ref 0 0 x.1.length,vI x.2]) [oR true 2 (fun x:(Int × Int)=>AV.agg [vI x.1,vI x.2]) x.1]):=by
 refine fn_ok [] Tryd.func16 rfl (by decide +kernel) rfl ?_
 unfold g_order_Fill at h
 refine wp_eqB (base':=0) (st':=⟨[(0,eL true (AV.int .u64) p0),(1,z1 p1)],[],24⟩) kr kr ?_
 refine sq (wp_seq (wp_seq (reg_in (sz 2 2 ?_))))
 refine callW bodyB_47 (g_order_read_ok p0 p1) h (fun x1 _ h=>?_)
 refine sz 1 4 (reg_end rfl (wp_seq (wg [0,1,6] [] (rn ?_))))
 refine wb [13] h (fun q4 h=>?_) (fun q4 h=>?_)
 ·refine wcT (sq ?_)
  refine wgc [4,5] [] ⟨[(4,.nils),(5,vI x1)],[],24⟩ ?_
  refine wp_wk (wk_nil 4 2 true true gE) ?_
  cases h
  exact wp_ret (show fnOut _ _ _ _=_ from by kernel_rfl)
 refine wcF (wp_skip (wp_seq (reg_in (sz 2 2 ?_))))
 refine callW bodyB_48 (g_order_run_ok p0 p1) h (fun x5 _ h=>?_)
 refine sz 5 8 (reg_end rfl (wp_seq ?_))
 refine wgc [7] [0] ⟨[(7,.ref 0 0 x5.1.length)],[oR true 2 (fun x:(Int × Int)=>AV.agg [vI x.1,vI x.2]) x5.1],24⟩ ?_
 refine reg_in ?_
 refine sgz 1 1 (S:=⟨[(7,.ref 0 0 x5.1.length),(21,.ref 0 0 x5.1.length)],[oR true 2 (fun x:(Int × Int)=>AV.agg [vI x.1,vI x.2]) x5.1],24⟩) ?_
 refine sortR (enc:=(fun x:(Int × Int)=>AV.agg [vI x.1,vI x.2])) (k:=2) (o:=0) (fl:=true) (l:=x5.1) (fn:=Tryd.f49) (gfn:=Tryd.f50) (S:=fun n8 x7=>⟨[(7,.ref 0 0 n8),(21,.ref 0 0 n8),(22,.tup [])],[oR true 2 (fun x:(Int × Int)=>AV.agg [vI x.1,vI x.2]) x7],24⟩) Go.Proofs.sort08 order08 (fun x y r h=>g_order_Fill_1_ok x y r h) kr kr kr (fun _=>by as_aux_lemma=>kernel_rfl) Tryd.func49 rfl (by decide +kernel) Tryd.func50 rfl (by decide +kernel) Tryd.isAgg70 Tryd.sizeOf70 (fun _=>rfl) (fun _=>rfl) (by intro x y hy; simp [AV.flat] at hy; rcases hy with rfl | rfl <;> rfl) h (fun x7 h=>?_)
 refine reg_end rfl (sq (wg [4,5] [0] ?_))
 cases h
 exact wp_ret (show fnOut _ _ _ _=_ from by kernel_rfl)
theorem g_order_Width_ok (p0:(List Int)) (p1:(List Int)) (x:(Int × Int)) (h:g_order_Width p0 p1=some x):CallOk Tryd.prog 17 [eL true (AV.int .u64) p0,z1 p1] (.ret (.tup [vI x.1,vI x.2]) []):=by
 refine fn_ok [] Tryd.func17 rfl (by decide +kernel) rfl ?_
 unfold g_order_Width at h
 refine wp_eqB (base':=0) (st':=⟨[(0,eL true (AV.int .u64) p0),(1,z1 p1)],[],22⟩) kr kr ?_
 refine sq (wp_seq (wp_seq (reg_in (sz 2 2 ?_))))
 refine callW bodyB_47 (g_order_read_ok p0 p1) h (fun x1 _ h=>?_)
 refine sz 1 4 (reg_end rfl (wp_seq (wg [0,1,6] [] (rn ?_))))
 refine wb [13] h (fun q4 h=>?_) (fun q4 h=>?_)
 ·refine wcT (sq ?_)
  refine wgc [4,5] [] ⟨[(4,vI 0),(5,vI x1)],[],22⟩ ?_
  cases h
  exact wp_ret (show fnOut _ _ _ _=_ from by kernel_rfl)
 refine wcF (wp_skip (wp_seq (reg_in (sz 2 2 ?_))))
 refine callW bodyB_48 (g_order_run_ok p0 p1) h (fun x5 _ h=>?_)
 refine sz 5 8 (reg_end rfl (wp_seq ?_))
 refine wgc [8] [] ⟨[(8,vI x5.2)],[],22⟩ ?_
 refine rn (wg [4,5] [] ?_)
 cases h
 exact wp_ret (show fnOut _ _ _ _=_ from by kernel_rfl)
theorem g_order_graph_lacking_ok (p0:Torder_graph) (p1:Int) (x:Int) (h:g_order_graph_lacking p0 p1=some x):CallOk Tryd.prog 59 [.fz [eL true (AV.int .u64) p0.neighbours.near,.int .u64 p0.left],vI p1] (.ret (vI x) []):=by
 refine fn_ok [] Tryd.func59 rfl (by decide +kernel) rfl ?_
 unfold g_order_graph_lacking at h
 refine wp_eqB (base':=0) (st':=⟨[(0,.fz [eL true (AV.int .u64) p0.neighbours.near,.int .u64 p0.left]),(1,vI p1)],[],42⟩) kr kr ?_
 refine wp_seq (reg_in ?_)
 refine sgL false [] [] false gE ?_
 refine sz 2 3 (reg_end rfl (sq (wp_seq (wp_seq (rga hfol (sy 6 6 ?_))))))
 refine bind_elim h (fun a1 q2 h=>?_)
 refine idxL' (enc:=(AV.int .u64)) (l:=p0.neighbours.near) (n:=p1) (fl:=true) (w:=1) (a:=a1) kr rfl gE q2 ?_
 refine sy 1 8 ?_
 refine inlN (f:=68) (fn:=Tryd.f68) (as0:=[.int .u64 a1]) kr kr Tryd.func68 rfl (by decide +kernel) rfl ?_
 refine wp_eqB (base':=3) (st':=⟨[(0,.int .u64 a1)],[.dead,.dead,.dead],4⟩) kr kr ?_
 refine sq (sq (wg [2] [3] ?_))
 refine wp_ret ?_
 refine ⟨⟨[(0,.fz [eL true (AV.int .u64) p0.neighbours.near,.int .u64 p0.left]),(1,vI p1),(2,.ptr 0 0 0),(3,.ptr 1 0 0),(4,vI 0),(5,.ptr 2 0 0),(7,.fz [eL true (AV.int .u64) p0.neighbours.near,.int .u64 p0.left]),(8,.fz [eL true (AV.int .u64) p0.neighbours.near,.int .u64 p0.left]),(9,.fz [eL true (AV.int .u64) p0.neighbours.near,.int .u64 p0.left]),(10,.fz [eL true (AV.int .u64) p0.neighbours.near,.int .u64 p0.left]),(11,eL true (AV.int .u64) p0.neighbours.near),(12,vI p1)]++[(13,.fz [.int .u64 a1]),(14,.int .u64 a1),(15,.fn (.func 85) [] [.ptr 3 0 0])],[oX true false 1 (.fz [eL true (AV.int .u64) p0.neighbours.near,.int .u64 p0.left]),oX true true 1 (vI p1),oX true true 1 (vI 0),oX true true 1 (.int .u64 a1)],42⟩,by as_aux_lemma=>kernel_rfl,?_⟩
 refine rgd (wp_block ?_)
 refine wgc [2,3,5,15] [0,1,2,3] ⟨[(2,.ptr 0 0 0),(3,.ptr 1 0 0),(5,.ptr 2 0 0),(15,.fn (.func 85) [] [.ptr 3 0 0])],[oX true false 1 (.fz [eL true (AV.int .u64) p0.neighbours.near,.int .u64 p0.left]),oX true true 1 (vI p1),oX true true 1 (vI 0),oX true true 1 (.int .u64 a1)],42⟩ ?_
 refine wp_range (f:=85) (fn:=Tryd.f85) (first:=[]) (caps:=[.ptr 3 0 0]) rfl Tryd.func85 rfl (by decide +kernel) rfl rfl ?_
 refine wp_eqB (base':=5) (st':=⟨[(0,.yld 4),(1,.ptr 3 0 0)],[oX true false 1 (.fz [eL true (AV.int .u64) p0.neighbours.near,.int .u64 p0.left]),oX true true 1 (vI p1),oX true true 1 (vI 0),oX true true 1 (.int .u64 a1),.loop 42 [(2,.ptr 0 0 0),(3,.ptr 1 0 0),(5,.ptr 2 0 0),(15,.fn (.func 85) [] [.ptr 3 0 0])] [16] (cA Tryd.f59 [true,true,false,true,true]) (cB Tryd.f59 [true,true,false,true,true]) .ready none],16⟩) kr kr ?_
 refine sq (wp_block ?_)
 refine wwh h (fun s3=>⟨[(0,.yld 4),(3,.int .u64 s3.1)],[oX true false 1 (.fz [eL true (AV.int .u64) p0.neighbours.near,.int .u64 p0.left]),oX true true 1 (vI p1),oX true true 1 (vI s3.2),oX true true 1 (.int .u64 a1),.loop 42 [(2,.ptr 0 0 0),(3,.ptr 1 0 0),(5,.ptr 2 0 0),(15,.fn (.func 85) [] [.ptr 3 0 0])] [16] (cA Tryd.f59 [true,true,false,true,true]) (cB Tryd.f59 [true,true,false,true,true]) .ready none],16⟩) (fun v out=>out=.go (.exit 0) ⟨[],[oX true false 1 (.fz [eL true (AV.int .u64) p0.neighbours.near,.int .u64 p0.left]),oX true true 1 (vI p1),oX true true 1 (vI v),oX true true 1 (.int .u64 a1),.loop 42 [(2,.ptr 0 0 0),(3,.ptr 1 0 0),(5,.ptr 2 0 0),(15,.fn (.func 85) [] [.ptr 3 0 0])] [16] (cA Tryd.f59 [true,true,false,true,true]) (cB Tryd.f59 [true,true,false,true,true]) .ready none],16⟩) (wk_gc (live:=[0,3]) (keep:=[]) kr) ?_ ?_
 ·intro s3 o h
  unfold g_order_graph_lacking_b0 at h
  refine wp_seq (sq ?_)
  refine wb [6] h (fun q5 h=>?_) (fun q5 h=>?_)
  ·refine wcT (wp_skip (wp_seq (wp_block (wp_seq (reg_in (sz 2 2 ?_))))))
   refine callW bodyB_86 (g_math_bits_TrailingZeros_ok s3.1) h (fun x6 _ h=>?_)
   refine yldR (l:=4) (nt:=42) (us:=[vI x6]) (sl:=[(2,.ptr 0 0 0),(3,.ptr 1 0 0),(5,.ptr 2 0 0),(15,.fn (.func 85) [] [.ptr 3 0 0])]) (ps:=[16]) (assign:=cA Tryd.f59 [true,true,false,true,true]) (body:=cB Tryd.f59 [true,true,false,true,true]) (pe:=none) kr kr rfl ?_
   refine wp_eqB (base':=5) (st':=⟨[(2,.ptr 0 0 0),(3,.ptr 1 0 0),(5,.ptr 2 0 0),(15,.fn (.func 85) [] [.ptr 3 0 0]),(16,vI x6)],[oX true false 1 (.fz [eL true (AV.int .u64) p0.neighbours.near,.int .u64 p0.left]),oX true true 1 (vI p1),oX true true 1 (vI s3.2),oX true true 1 (.int .u64 a1),.loop 42 [(2,.ptr 0 0 0),(3,.ptr 1 0 0),(5,.ptr 2 0 0),(15,.fn (.func 85) [] [.ptr 3 0 0])] [16] (cA Tryd.f59 [true,true,false,true,true]) (cB Tryd.f59 [true,true,false,true,true]) .ready none],42⟩) kr kr ?_
   refine rn ?_
   refine ⟨⟨[(2,.ptr 0 0 0),(3,.ptr 1 0 0),(5,.ptr 2 0 0),(15,.fn (.func 85) [] [.ptr 3 0 0]),(16,vI x6),(6,vI x6)],[oX true false 1 (.fz [eL true (AV.int .u64) p0.neighbours.near,.int .u64 p0.left]),oX true true 1 (vI p1),oX true true 1 (vI s3.2),oX true true 1 (.int .u64 a1),.loop 42 [(2,.ptr 0 0 0),(3,.ptr 1 0 0),(5,.ptr 2 0 0),(15,.fn (.func 85) [] [.ptr 3 0 0])] [16] (cA Tryd.f59 [true,true,false,true,true]) (cB Tryd.f59 [true,true,false,true,true]) .busy none],42⟩,by as_aux_lemma=>kernel_rfl,?_⟩
   refine wp_block (rga hfol (sy 7 7 ?_))
   refine idxL' (enc:=(AV.int .u64)) (l:=p0.neighbours.near) (n:=p1) (fl:=true) (w:=1) (a:=a1) kr rfl gE q2 ?_
   refine sy 7 15 ?_
   refine bind_elim h (fun a8 q9 h=>?_)
   refine idxL' (enc:=(AV.int .u64)) (l:=p0.neighbours.near) (n:=x6) (fl:=true) (w:=1) (a:=a8) kr rfl gE q9 ?_
   refine sy 3 19 ?_
   refine shlR (k:=.u64) (k':=.i64) (a:=1) (b:=x6) kr gE h (fun h=>?_)
   refine sy 1 21 ?_
   refine callW bodyB_84 (g_math_bits_OnesCount_ok (zv (BitVec.ofInt (IntKind.bits .u64) (zv (BitVec.ofInt (IntKind.bits .u64) a1 &&& ~~~ BitVec.ofInt (IntKind.bits .u64) a8).toNat) &&& ~~~ BitVec.ofInt (IntKind.bits .u64) (zv (1*2^min (zt x6) (IntKind.bits .u64)))).toNat)) h (fun x10 _ h=>?_)
   refine sy 2 24 (rgd ?_)
   refine ⟨⟨[(0,.yld 4),(3,.int .u64 s3.1),(5,.int .u64 s3.1),(6,vB true),(11,.yld 4),(12,.int .u64 s3.1),(13,vI x6),(14,vB true)],[oX true false 1 (.fz [eL true (AV.int .u64) p0.neighbours.near,.int .u64 p0.left]),oX true true 1 (vI p1),oX true true 1 (vI (zw (s3.2+x10))),oX true true 1 (.int .u64 a1),.loop 42 [(2,.ptr 0 0 0),(3,.ptr 1 0 0),(5,.ptr 2 0 0),(15,.fn (.func 85) [] [.ptr 3 0 0])] [16] (cA Tryd.f59 [true,true,false,true,true]) (cB Tryd.f59 [true,true,false,true,true]) .ready none],16⟩,by as_aux_lemma=>kernel_rfl,?_⟩
   refine sz 1 5 (reg_end rfl (wcF (wp_skip ?_)))
   refine wgc [0,3] [] ⟨[(0,.yld 4),(3,.int .u64 s3.1)],[oX true false 1 (.fz [eL true (AV.int .u64) p0.neighbours.near,.int .u64 p0.left]),oX true true 1 (vI p1),oX true true 1 (vI (zw (s3.2+x10))),oX true true 1 (.int .u64 a1),.loop 42 [(2,.ptr 0 0 0),(3,.ptr 1 0 0),(5,.ptr 2 0 0),(15,.fn (.func 85) [] [.ptr 3 0 0])] [16] (cA Tryd.f59 [true,true,false,true,true]) (cB Tryd.f59 [true,true,false,true,true]) .ready none],16⟩ ?_
   refine rn ?_
   cases h
   exact ⟨_,rfl,(wk_gc (live:=[0,3]) (keep:=[]) kr)⟩
  refine wcF (wg [] [] ?_)
  refine wp_exit ?_
  cases h
  exact ⟨kr,rfl⟩
 intro x13 h out hx
 subst hx
 refine ⟨.go .normal ⟨[(2,.ptr 0 0 0),(3,.ptr 1 0 0),(5,.ptr 2 0 0),(15,.fn (.func 85) [] [.ptr 3 0 0])],[oX true false 1 (.fz [eL true (AV.int .u64) p0.neighbours.near,.int .u64 p0.left]),oX true true 1 (vI p1),oX true true 1 (vI x13),oX true true 1 (.int .u64 a1),.dead],42⟩,by as_aux_lemma=>kernel_rfl,?_⟩
 refine sq (wg [4] [] ?_)
 cases h
 exact wp_ret (show fnOut _ _ _ _=_ from by kernel_rfl)
end Go.Ab
