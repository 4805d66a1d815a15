/- What functions compute. No conditions. -/
import Derived.Test.YtjhfdojgaoapcaaDoorProg
import Derived.Test.YtjhfdojgaoapcaaDoorW10
import Derived.KernelRfl
import Derived.Test.YtjhfdojgaoapcaaDoorW11
import Derived.Test.YtjhfdojgaoapcaaDoorW13
import Derived.Test.YtjhfdojgaoapcaaDoorW12
import Derived.Test.YtjhfdojgaoapcaaDoorEng7
import Derived.IntWalk
set_option linter.all false
namespace Go.Ab
open Go Go.Proofs
set_option maxRecDepth 100000
set_option maxHeartbeats 4000000
theorem g_slices_Equal_int_int_ok (p0:(List Int)) (p1:(List Int)) (x:Bool) (h:g_slices_Equal_int_int p0 p1=some x):CallOk Tryd.prog 71 [z1 p0,z1 p1] (.ret (vB x) []):=by
 refine fn_ok [] Tryd.func71 rfl (by decide +kernel) rfl ?_
 unfold g_slices_Equal_int_int at h
 refine wp_eqB (base':=0) (st':=⟨[(0,z1 p0),(1,z1 p1)],[],26⟩) kr kr ?_
 refine sq (wp_seq (wp_seq (reg_in (sz 1 1 ?_))))
 refine lenL (enc:=eI) (l:=p0) (fl:=true) kr gE ?_
 refine sz 1 3 ?_
 refine lenL (enc:=eI) (l:=p1) (fl:=true) kr gE ?_
 refine sz 1 5 (reg_end rfl ?_)
 refine wbz h (fun q2 h=>?_) (fun q2 h=>?_)
 ·refine wp_seq (wg [] [] (rn ?_))
  refine wgc [4] [] ⟨[(4,vB false)],[],26⟩ ?_
  cases h
  exact wp_ret (show fnOut _ _ _ _=_ from by kernel_rfl)
 refine wp_skip (wp_seq (wp_seq (wg [0,1] [] (reg_in (sz 1 1 ?_)))))
 refine lenL (enc:=eI) (l:=p0) (fl:=true) kr gE ?_
 refine sz 1 3 (reg_end rfl (wp_block ?_))
 refine wwh h (fun s3=>⟨[(0,z1 p0),(1,z1 p1),(12,vI (zn p0)),(13,vI s3)],[],26⟩) (fun x out=>out=match x with | .inl v=>.go (.ret) ⟨[(4,vB false)],[],26⟩ | .inr v=>.go (.exit 0) ⟨[],[],26⟩) (wk_gc (live:=[0,1,12,13]) (keep:=[]) kr) ?_ ?_
 ·intro s3 o h
  unfold g_slices_Equal_int_int_b0 at h
  refine sq (wp_seq ?_)
  refine wb [14] h (fun q5 h=>?_) (fun q5 h=>?_)
  ·refine wcT (wp_skip (wp_seq (wp_block (sq (wp_seq (rga hfol (sy 2 2 ?_)))))))
   refine bind_elim h (fun a6 q7 h=>?_)
   refine idxL' (enc:=eI) (l:=p0) (n:=s3) (fl:=true) (w:=1) (a:=a6) kr rfl gE q7 ?_
   refine sy 3 6 ?_
   refine bind_elim h (fun a8 q9 h=>?_)
   refine idxL' (enc:=eI) (l:=p1) (n:=s3) (fl:=true) (w:=1) (a:=a8) kr rfl gE q9 ?_
   refine sy 2 9 (rgd ?_)
   refine wbz h (fun q11 h=>?_) (fun q11 h=>?_)
   ·refine wp_seq ?_
    refine wgc [] [] ⟨[],[],26⟩ ?_
    refine rn (wg [4] [] ?_)
    refine wp_ret ?_
    cases h
    exact ⟨kr,rfl⟩
   refine wp_skip ?_
   refine wgc [0,1,12,13] [] ⟨[(0,z1 p0),(1,z1 p1),(12,vI (zn p0)),(13,vI s3)],[],26⟩ ?_
   refine rn ?_
   cases h
   exact ⟨_,rfl,(wk_gc (live:=[0,1,12,13]) (keep:=[]) kr)⟩
  refine wcF (wg [] [] ?_)
  refine wp_exit ?_
  cases h
  exact ⟨kr,rfl⟩
 intro x12 h out hx
 subst hx
 rcases x12 with x13 | x14
 ·dsimp only at h ⊢
  cases h
  show fnOut _ _ _ _=_
  kernel_rfl
 ·dsimp only at h ⊢
  refine sq (wg [4] [] ?_)
  cases h
  exact wp_ret (show fnOut _ _ _ _=_ from by kernel_rfl)
theorem g_law08_best_ok (p0:(List Int)) (p1:Int) (p2:(List Int)) (x:Bool) (h:g_law08_best p0 p1 p2=some x):CallOk Tryd.prog 35 [eL true (AV.int .u64) p0,vI p1,z1 p2] (.ret (vB x) []):=by
 refine fn_ok [] Tryd.func35 rfl (by decide +kernel) rfl ?_
 unfold g_law08_best at h
 refine wp_eqB (base':=0) (st':=⟨[(0,eL true (AV.int .u64) p0),(1,vI p1),(2,z1 p2)],[],28⟩) kr kr ?_
 refine sq (wp_seq (reg_in (sz 1 1 ?_)))
 refine callW bodyB_31 (g_order_Best_ok p0) h (fun x1 _ h=>?_)
 refine sz 7 9 (reg_end rfl (wp_seq (wg [1,2,7,8,9] [0] (reg_in (sz 4 4 ?_)))))
 refine rw_wk (wk_gc (live:=[2,7,9,19]) (keep:=[0]) (st':=⟨[(2,z1 p2),(7,.ref 0 0 x1.1.length),(9,vI x1.2.2),(19,vB (x1.2.1==p1))],[oR true 1 eI x1.1],28⟩) kr) ?_
 refine rb [19] h (fun q4 h=>?_) (fun q4 h=>?_)
 ·refine sz 4 8 (rwg [2,7,23] [0] ?_)
  refine rb [23] h (fun q6 h=>?_) (fun q6 h=>?_)
  ·refine sz 2 10 ?_
   refine callR (as0:=[.ref 0 0 x1.1.length,z1 p2]) (ids:=[0]) kr bodyB_71 (msnap_cons (snap_full (w:=1) (bx:=false) (ro:=false) (enc:=eI) (l:=x1.1) (fl:=true) kr) (msnap_cons rfl msnap_nil (by rfl)) (by rfl)) (fun x7 q8=>g_slices_Equal_int_int_ok x1.1 p2 x7 q8) gF h (fun x7 q8 h=>?_)
   refine sz 2 13 (reg_end rfl (wg [6] [] ?_))
   cases h
   exact wp_ret (show fnOut _ _ _ _=_ from by kernel_rfl)
  refine sz 5 13 (reg_end rfl (wg [6] [] ?_))
  cases h
  exact wp_ret (show fnOut _ _ _ _=_ from by kernel_rfl)
 refine sz 9 13 (reg_end rfl (wg [6] [] ?_))
 cases h
 exact wp_ret (show fnOut _ _ _ _=_ from by kernel_rfl)
noncomputable abbrev u35_153 (p0 p1:(List (Int × Int))) (s3:Int):St:=⟨[(0,eL true (fun x:(Int × Int)=>AV.agg [vI x.1,vI x.2]) p0),(1,eL true (fun x:(Int × Int)=>AV.agg [vI x.1,vI x.2]) p1),(12,vI (zn p0)),(13,vI s3)],[],26⟩
theorem g_slices_Equal_2_int_2_int_ok (p0:(List (Int × Int))) (p1:(List (Int × Int))) (x:Bool) (h:g_slices_Equal_2_int_2_int p0 p1=some x):CallOk Tryd.prog 75 [eL true (fun x:(Int × Int)=>AV.agg [vI x.1,vI x.2]) p0,eL true (fun x:(Int × Int)=>AV.agg [vI x.1,vI x.2]) p1] (.ret (vB x) []):=by
 refine fn_ok [] Tryd.func75 rfl (by decide +kernel) rfl ?_
 unfold g_slices_Equal_2_int_2_int at h
 refine wp_eqB (base':=0) (st':=⟨[(0,eL true (fun x:(Int × Int)=>AV.agg [vI x.1,vI x.2]) p0),(1,eL true (fun x:(Int × Int)=>AV.agg [vI x.1,vI x.2]) p1)],[],26⟩) kr kr ?_
 refine sq (wp_seq (wp_seq (reg_in (sz 1 1 ?_))))
 refine lenL (enc:=(fun x:(Int × Int)=>AV.agg [vI x.1,vI x.2])) (l:=p0) (fl:=true) kr gE ?_
 refine sz 1 3 ?_
 refine lenL (enc:=(fun x:(Int × Int)=>AV.agg [vI x.1,vI x.2])) (l:=p1) (fl:=true) kr gE ?_
 refine sz 1 5 (reg_end rfl ?_)
 refine wbz h (fun q2 h=>?_) (fun q2 h=>?_)
 ·refine wp_seq (wg [] [] (rn ?_))
  refine wgc [4] [] ⟨[(4,vB false)],[],26⟩ ?_
  cases h
  exact wp_ret (show fnOut _ _ _ _=_ from by kernel_rfl)
 refine wp_skip (wp_seq (wp_seq (wg [0,1] [] (reg_in (sz 1 1 ?_)))))
 refine lenL (enc:=(fun x:(Int × Int)=>AV.agg [vI x.1,vI x.2])) (l:=p0) (fl:=true) kr gE ?_
 refine sz 1 3 (reg_end rfl (wp_block ?_))
 refine wwh h (fun s3=>(u35_153 p0 p1 s3)) (fun x out=>out=match x with | .inl v=>.go (.ret) ⟨[(4,vB false)],[],26⟩ | .inr v=>.go (.exit 0) ⟨[],[],26⟩) (wk_gc (live:=[0,1,12,13]) (keep:=[]) kr) ?_ ?_
 ·intro s3 o h
  unfold g_slices_Equal_2_int_2_int_b0 at h
  refine sq (wp_seq ?_)
  refine wb [14] h (fun q5 h=>?_) (fun q5 h=>?_)
  ·refine wcT (wp_skip (wp_seq (wp_block (sq (wp_seq (rga hfol (sy 2 2 ?_)))))))
   refine bind_elim h (fun a6 q7 h=>?_)
   refine idxL' (enc:=(fun x:(Int × Int)=>AV.agg [vI x.1,vI x.2])) (l:=p0) (n:=s3) (fl:=true) (w:=2) (a:=a6) kr rfl gE q7 ?_
   refine sy 3 6 ?_
   refine bind_elim h (fun a8 q9 h=>?_)
   refine idxL' (enc:=(fun x:(Int × Int)=>AV.agg [vI x.1,vI x.2])) (l:=p1) (n:=s3) (fl:=true) (w:=2) (a:=a8) kr rfl gE q9 ?_
   refine sy 2 9 (rgd ?_)
   refine wbz h (fun q11 h=>?_) (fun q11 h=>?_)
   ·refine wp_seq ?_
    refine wgc [] [] ⟨[],[],26⟩ ?_
    refine rn (wg [4] [] ?_)
    refine wp_ret ?_
    cases h
    exact ⟨kr,rfl⟩
   refine wp_skip ?_
   refine wgc [0,1,12,13] [] (u35_153 p0 p1 s3) ?_
   refine rn ?_
   cases h
   exact ⟨_,rfl,(wk_gc (live:=[0,1,12,13]) (keep:=[]) kr)⟩
  refine wcF (wg [] [] ?_)
  refine wp_exit ?_
  cases h
  exact ⟨kr,rfl⟩
 intro x12 h out hx
 subst hx
 rcases x12 with x13 | x14
 ·dsimp only at h ⊢
  cases h
  show fnOut _ _ _ _=_
  kernel_rfl
 ·dsimp only at h ⊢
  refine sq (wg [4] [] ?_)
  cases h
  exact wp_ret (show fnOut _ _ _ _=_ from by kernel_rfl)
theorem g_law08_are_2_int_1_k0_ok (p0:(List (Int × Int))) (p1:Int) (c0:Int) (c1:Int) (x:Bool) (h:g_law08_are_2_int_1_k0 p0 p1 c0 c1=some x):CallOk Tryd.prog 74 [eL true (fun x:(Int × Int)=>AV.agg [vI x.1,vI x.2]) p0,vI p1,.fz [.lst true [.agg [vI c0,vI c1]]]] (.ret (vB x) []):=by
 refine fn_ok [] Tryd.func74 rfl (by decide +kernel) rfl ?_
 unfold g_law08_are_2_int_1_k0 at h
 refine wp_eqB (base':=0) (st':=⟨[(0,eL true (fun x:(Int × Int)=>AV.agg [vI x.1,vI x.2]) p0),(1,vI p1),(2,.fz [.lst true [.agg [vI c0,vI c1]]])],[],13⟩) kr kr ?_
 refine sq (wp_seq (reg_in (sz 3 3 (rwg [0,2,8] [] ?_))))
 refine rb [8] h (fun q2 h=>?_) (fun q2 h=>?_)
 ·refine sz 2 5 ?_
  refine callW bodyB_75 (g_slices_Equal_2_int_2_int_ok p0 [(c0,c1)]) h (fun x3 _ h=>?_)
  refine sz 2 8 (reg_end rfl (wg [5] [] ?_))
  cases h
  exact wp_ret (show fnOut _ _ _ _=_ from by kernel_rfl)
 refine sz 5 8 (reg_end rfl (wg [5] [] ?_))
 cases h
 exact wp_ret (show fnOut _ _ _ _=_ from by kernel_rfl)
theorem g_law08_are_2_int_1_k1_ok (p0:(List (Int × Int))) (p1:Int) (x:Bool) (h:g_law08_are_2_int_1_k1 p0 p1=some x):CallOk Tryd.prog 74 [eL true (fun x:(Int × Int)=>AV.agg [vI x.1,vI x.2]) p0,vI p1,.fz [.nils]] (.ret (vB x) []):=by
 refine fn_ok [] Tryd.func74 rfl (by decide +kernel) rfl ?_
 unfold g_law08_are_2_int_1_k1 at h
 refine wp_eqB (base':=0) (st':=⟨[(0,eL true (fun x:(Int × Int)=>AV.agg [vI x.1,vI x.2]) p0),(1,vI p1),(2,.fz [.nils])],[],13⟩) kr kr ?_
 refine sq (wp_seq (reg_in (sz 3 3 (rwg [0,2,8] [] ?_))))
 refine rb [8] h (fun q2 h=>?_) (fun q2 h=>?_)
 ·refine sz 2 5 ?_
  refine callR (as0:=[eL true (fun x:(Int × Int)=>AV.agg [vI x.1,vI x.2]) p0,.nils]) (us:=[eL true (fun x:(Int × Int)=>AV.agg [vI x.1,vI x.2]) p0,.nils]) (ids:=[]) kr bodyB_75 (msnap_cons rfl (msnap_cons rfl msnap_nil)) (fun x3 q4=>CallOk.args [[.keep],[.lst true]] (g_slices_Equal_2_int_2_int_ok p0 [] x3 q4)) gF h (fun x3 q4 h=>?_)
  refine sz 2 8 (reg_end rfl (wg [5] [] ?_))
  cases h
  exact wp_ret (show fnOut _ _ _ _=_ from by kernel_rfl)
 refine sz 5 8 (reg_end rfl (wg [5] [] ?_))
 cases h
 exact wp_ret (show fnOut _ _ _ _=_ from by kernel_rfl)
theorem g_law08_is_int_1_k2_ok (p0:Int) (p1:Int) (c0:Int) (x:Bool) (h:g_law08_is_int_1_k2 p0 p1 c0=some x):CallOk Tryd.prog 72 [vI p0,vI p1,.fz [vI c0]] (.ret (vB x) []):=by
 refine fn_ok [] Tryd.func72 rfl (by decide +kernel) rfl ?_
 unfold g_law08_is_int_1_k2 at h
 refine wp_eqB (base':=0) (st':=⟨[(0,vI p0),(1,vI p1),(2,.fz [vI c0])],[],13⟩) kr kr ?_
 refine sq (wp_seq (reg_in (sz 4 4 (rwg [1,9] [] ?_))))
 refine rb [9] h (fun q2 h=>?_) (fun q2 h=>?_)
 ·refine sz 4 8 (reg_end rfl (wg [5] [] ?_))
  cases h
  exact wp_ret (show fnOut _ _ _ _=_ from by kernel_rfl)
 refine sz 4 8 (reg_end rfl (wg [5] [] ?_))
 cases h
 exact wp_ret (show fnOut _ _ _ _=_ from by kernel_rfl)
theorem g_law08_are_int_1_k3_ok (p0:(List Int)) (p1:Int) (c0:Int) (c1:Int) (c2:Int) (c3:Int) (x:Bool) (h:g_law08_are_int_1_k3 p0 p1 c0 c1 c2 c3=some x):CallOk Tryd.prog 78 [z1 p0,vI p1,.fz [.lst true [vI c0,vI c1,vI c2,vI c3]]] (.ret (vB x) []):=by
 refine fn_ok [] Tryd.func78 rfl (by decide +kernel) rfl ?_
 unfold g_law08_are_int_1_k3 at h
 refine wp_eqB (base':=0) (st':=⟨[(0,z1 p0),(1,vI p1),(2,.fz [.lst true [vI c0,vI c1,vI c2,vI c3]])],[],13⟩) kr kr ?_
 refine sq (wp_seq (reg_in (sz 3 3 (rwg [0,2,8] [] ?_))))
 refine rb [8] h (fun q2 h=>?_) (fun q2 h=>?_)
 ·refine sz 2 5 ?_
  refine callW bodyB_71 (g_slices_Equal_int_int_ok p0 [c0,c1,c2,c3]) h (fun x3 _ h=>?_)
  refine sz 2 8 (reg_end rfl (wg [5] [] ?_))
  cases h
  exact wp_ret (show fnOut _ _ _ _=_ from by kernel_rfl)
 refine sz 5 8 (reg_end rfl (wg [5] [] ?_))
 cases h
 exact wp_ret (show fnOut _ _ _ _=_ from by kernel_rfl)
theorem g_law08_are_int_1_k4_ok (p0:(List Int)) (p1:Int) (c0:Int) (c1:Int) (c2:Int) (x:Bool) (h:g_law08_are_int_1_k4 p0 p1 c0 c1 c2=some x):CallOk Tryd.prog 78 [z1 p0,vI p1,.fz [.lst true [vI c0,vI c1,vI c2]]] (.ret (vB x) []):=by
 refine fn_ok [] Tryd.func78 rfl (by decide +kernel) rfl ?_
 unfold g_law08_are_int_1_k4 at h
 refine wp_eqB (base':=0) (st':=⟨[(0,z1 p0),(1,vI p1),(2,.fz [.lst true [vI c0,vI c1,vI c2]])],[],13⟩) kr kr ?_
 refine sq (wp_seq (reg_in (sz 3 3 (rwg [0,2,8] [] ?_))))
 refine rb [8] h (fun q2 h=>?_) (fun q2 h=>?_)
 ·refine sz 2 5 ?_
  refine callW bodyB_71 (g_slices_Equal_int_int_ok p0 [c0,c1,c2]) h (fun x3 _ h=>?_)
  refine sz 2 8 (reg_end rfl (wg [5] [] ?_))
  cases h
  exact wp_ret (show fnOut _ _ _ _=_ from by kernel_rfl)
 refine sz 5 8 (reg_end rfl (wg [5] [] ?_))
 cases h
 exact wp_ret (show fnOut _ _ _ _=_ from by kernel_rfl)
theorem g_law08_is_bool_1_k5_ok (p0:Bool) (p1:Int) (c0:Bool) (x:Bool) (h:g_law08_is_bool_1_k5 p0 p1 c0=some x):CallOk Tryd.prog 73 [vB p0,vI p1,.fz [vB c0]] (.ret (vB x) []):=by
 refine fn_ok [] Tryd.func73 rfl (by decide +kernel) rfl ?_
 unfold g_law08_is_bool_1_k5 at h
 refine wp_eqB (base':=0) (st':=⟨[(0,vB p0),(1,vI p1),(2,.fz [vB c0])],[],13⟩) kr kr ?_
 refine sq (wp_seq (reg_in (sz 4 4 (rwg [1,9] [] ?_))))
 refine rb [9] h (fun q2 h=>?_) (fun q2 h=>?_)
 ·refine sz 4 8 (reg_end rfl (wg [5] [] ?_))
  cases h
  exact wp_ret (show fnOut _ _ _ _=_ from by kernel_rfl)
 refine sz 4 8 (reg_end rfl (wg [5] [] ?_))
 cases h
 exact wp_ret (show fnOut _ _ _ _=_ from by kernel_rfl)
noncomputable abbrev o42_154:AObj:=.row false false true true 1 [.int .u64 10,.int .u64 5,.int .u64 10,.int .u64 5]
noncomputable abbrev o42_155:AObj:=.row false false true true 1 [.int .u64 2,.int .u64 5,.int .u64 2]
noncomputable abbrev o42_156:AObj:=.row false false true true 1 [.int .u64 14,.int .u64 13,.int .u64 11,.int .u64 7]
noncomputable abbrev o42_157:AObj:=.row false false true true 2 [.agg [vI 1,vI 3]]
noncomputable abbrev o42_158:AObj:=oX false false 1 (.ref 3 0 1)
noncomputable abbrev o42_159:AObj:=.row false false true true 1 [vI 0,vI 1,vI 2,vI 3]
noncomputable abbrev o42_160:AObj:=.row false false true true 2 [.agg [vI 0,vI 2]]
noncomputable abbrev o42_161:AObj:=.row false false true true 1 [vI 0,vI 1,vI 2]
noncomputable abbrev o42_162:AObj:=.row false true true true 1 [.int .u64 10,.int .u64 5,.int .u64 10,.int .u64 5]
noncomputable abbrev o42_163:AObj:=.row false true true true 1 [.int .u64 2,.int .u64 5,.int .u64 2]
noncomputable abbrev e42_164:Nat×AV:=(1,.ref 0 0 4)
noncomputable abbrev e42_165:Nat×AV:=(2,.ref 1 0 3)
noncomputable abbrev e42_166:Nat×AV:=(3,.ref 2 0 4)
noncomputable abbrev l42_167:List AObj:=[o42_154,o42_155,o42_156]
noncomputable abbrev l42_168:List AObj:=[o42_162,o42_163,o42_156]
noncomputable abbrev s42_169 (x1 x3:(Int × Int)):List (Nat×AV):=[e42_164,e42_165,e42_166,(5,vI x1.2),(7,vI x3.2)]
noncomputable abbrev u42_170 (x1 x3:(Int × Int)):St:=⟨[(5,vI x1.2),(7,vI x3.2),(8,vB false)],[],206⟩
theorem g_law08_works_ok  (x:Bool) (h:g_law08_works=some x):CallOk Tryd.prog 11 [] (.ret (vB x) []):=by
 refine fn_ok [] Tryd.func11 rfl (by decide +kernel) rfl ?_
 unfold g_law08_works at h
 refine wp_eqB (base':=0) (st':=⟨[],[],206⟩) kr kr ?_
 refine sq (wp_seq (reg_in ?_))
 refine sgL false [] [] true gE ?_
 refine sgL false [] [] true gE ?_
 refine sgL false [] [] true gE ?_
 refine sz 3 6 (reg_end rfl (wp_seq (reg_in (sz 1 1 ?_))))
 refine sgL false [] [] true gE ?_
 refine callR (as0:=[.ref 0 0 4,.ref 3 0 3]) (ids:=[0,3]) kr bodyB_17 (msnap_cons (show snap _ _ _=some (_,[0]) from kr) (msnap_cons (show snap _ _ _=some (_,[3]) from kr) msnap_nil (by rfl)) (by rfl)) (fun x1 q2=>g_order_Width_ok [10,5,10,5] [0,1,2] x1 q2) gF h (fun x1 q2 h=>?_)
 refine sz 5 8 (reg_end rfl (wp_seq ?_))
 refine wgc [1,2,3,5] [0,1,2] ⟨[e42_164,e42_165,e42_166,(5,vI x1.2)],l42_167,206⟩ ?_
 refine reg_in (sz 1 1 ?_)
 refine sgL false [] [] true gE ?_
 refine callR (as0:=[.ref 0 0 4,.ref 3 0 4]) (ids:=[0,3]) kr bodyB_17 (msnap_cons (show snap _ _ _=some (_,[0]) from kr) (msnap_cons (show snap _ _ _=some (_,[3]) from kr) msnap_nil (by rfl)) (by rfl)) (fun x3 q4=>g_order_Width_ok [10,5,10,5] [0,1,2,2] x3 q4) gF h (fun x3 q4 h=>?_)
 refine sz 5 8 (reg_end rfl (wp_seq (wg [1,2,3,5,7] [0,1,2] (reg_in (sz 1 1 ?_)))))
 refine sgL false [] [] true gE ?_
 refine inlR (f:=40) (fn:=Tryd.f40) (as0:=[.ref 3 0 1]) kr Tryd.func40 rfl (by decide +kernel) rfl ?_
 refine wp_eqB (base':=4) (st':=⟨[(0,.ref 3 0 1)],l42_167++[o42_157],4⟩) kr kr ?_
 refine wp_seq (reg_in ?_)
 refine sgL false [] [] false gE ?_
 refine sz 1 2 (reg_end rfl (sq (wg [2] [4] ?_)))
 refine wp_ret ?_
 refine ⟨⟨(s42_169 x1 x3)++[(24,.agg [vI 1,vI 3]),(25,.ref 3 0 1),(26,.fn (.func 74) [] [.ptr 4 0 0])],l42_167++[o42_157,o42_158],206⟩,by as_aux_lemma=>kernel_rfl,?_⟩
 refine sz 1 4 ?_
 refine sgL false [] [] true gE ?_
 refine callR (as0:=[.ref 0 0 4,.ref 5 0 4]) (ids:=[0,5]) kr bodyB_16 (msnap_cons (show snap _ _ _=some (_,[0]) from kr) (msnap_cons (show snap _ _ _=some (_,[5]) from kr) msnap_nil (by rfl)) (by rfl)) (fun x5 q6=>g_order_Fill_ok [10,5,10,5] [0,1,2,3] x5 q6) gF h (fun x5 q6 h=>?_)
 refine sgz 2 8 (S:=⟨(s42_169 x1 x3)++[(24,.agg [vI 1,vI 3]),(25,.ref 3 0 1),(26,.fn (.func 74) [] [.ptr 4 0 0]),(27,.ref 0 0 4),(28,.ref 5 0 4),(29,.tup [.ref 6 0 x5.1.length,vI x5.2]),(30,.ref 6 0 x5.1.length),(31,vI x5.2)],l42_167++[o42_157,o42_158,o42_159,oR true 2 (fun x:(Int × Int)=>AV.agg [vI x.1,vI x.2]) x5.1],206⟩) ?_
 refine callR (as0:=[.ref 6 0 x5.1.length,vI x5.2,.ptr 4 0 0]) (ids:=[6,4,3]) kr bodyB_74 (msnap_cons (snap_full (w:=2) (bx:=false) (ro:=false) (enc:=(fun x:(Int × Int)=>AV.agg [vI x.1,vI x.2])) (l:=x5.1) (fl:=true) kr) (msnap_cons rfl (msnap_cons (snap_ptr rfl (msnap_cons (show snap _ _ _=some (.lst true [.agg [vI 1,vI 3]],[3]) from kr) msnap_nil (by rfl)) (by rfl) (by rfl)) msnap_nil (by rfl)) (by rfl)) (by rfl)) (fun x7 q8=>g_law08_are_2_int_1_k0_ok x5.1 x5.2 1 3 x7 q8) gF h (fun x7 q8 h=>?_)
 refine sz 1 10 (rwg [1,2,3,5,7,33] [0,1,2] ?_)
 refine rb [33] h (fun q10 h=>?_) (fun q10 h=>?_)
 ·refine sz 1 11 ?_
  refine sgL false [] [] true gE ?_
  refine inlR (f:=40) (fn:=Tryd.f40) (as0:=[.ref 3 0 1]) kr Tryd.func40 rfl (by decide +kernel) rfl ?_
  refine wp_eqB (base':=4) (st':=⟨[(0,.ref 3 0 1)],l42_167++[o42_157],4⟩) kr kr ?_
  refine wp_seq (reg_in ?_)
  refine sgL false [] [] false gE ?_
  refine sz 1 2 (reg_end rfl (sq (wg [2] [4] ?_)))
  refine wp_ret ?_
  refine ⟨⟨(s42_169 x1 x3)++[(33,vB true),(34,.agg [vI 1,vI 3]),(35,.ref 3 0 1),(36,.fn (.func 74) [] [.ptr 4 0 0])],l42_167++[o42_157,o42_158],206⟩,by as_aux_lemma=>kernel_rfl,?_⟩
  refine sz 1 14 ?_
  refine sgL false [] [] true gE ?_
  refine callR (as0:=[.ref 0 0 4,.ref 5 0 4]) (ids:=[0,5]) kr bodyB_16 (msnap_cons (show snap _ _ _=some (_,[0]) from kr) (msnap_cons (show snap _ _ _=some (_,[5]) from kr) msnap_nil (by rfl)) (by rfl)) (fun x11 q12=>g_order_Fill_ok [10,5,10,5] [0,2,1,3] x11 q12) gF h (fun x11 q12 h=>?_)
  refine sgz 2 18 (S:=⟨(s42_169 x1 x3)++[(33,vB true),(34,.agg [vI 1,vI 3]),(35,.ref 3 0 1),(36,.fn (.func 74) [] [.ptr 4 0 0]),(37,.ref 0 0 4),(38,.ref 5 0 4),(39,.tup [.ref 6 0 x11.1.length,vI x11.2]),(40,.ref 6 0 x11.1.length),(41,vI x11.2)],l42_167++[o42_157,o42_158,.row false false true true 1 [vI 0,vI 2,vI 1,vI 3],oR true 2 (fun x:(Int × Int)=>AV.agg [vI x.1,vI x.2]) x11.1],206⟩) ?_
  refine callR (as0:=[.ref 6 0 x11.1.length,vI x11.2,.ptr 4 0 0]) (ids:=[6,4,3]) kr bodyB_74 (msnap_cons (snap_full (w:=2) (bx:=false) (ro:=false) (enc:=(fun x:(Int × Int)=>AV.agg [vI x.1,vI x.2])) (l:=x11.1) (fl:=true) kr) (msnap_cons rfl (msnap_cons (snap_ptr rfl (msnap_cons (show snap _ _ _=some (.lst true [.agg [vI 1,vI 3]],[3]) from kr) msnap_nil (by rfl)) (by rfl) (by rfl)) msnap_nil (by rfl)) (by rfl)) (by rfl)) (fun x13 q14=>g_law08_are_2_int_1_k0_ok x11.1 x11.2 1 3 x13 q14) gF h (fun x13 q14 h=>?_)
  refine sz 2 21 (rwg [1,2,3,5,7,44] [0,1,2] ?_)
  refine rb [44] h (fun q16 h=>?_) (fun q16 h=>?_)
  ·refine sz 1 22 ?_
   refine sgL false [] [] true gE ?_
   refine inlR (f:=40) (fn:=Tryd.f40) (as0:=[.ref 3 0 1]) kr Tryd.func40 rfl (by decide +kernel) rfl ?_
   refine wp_eqB (base':=4) (st':=⟨[(0,.ref 3 0 1)],l42_167++[o42_160],4⟩) kr kr ?_
   refine wp_seq (reg_in ?_)
   refine sgL false [] [] false gE ?_
   refine sz 1 2 (reg_end rfl (sq (wg [2] [4] ?_)))
   refine wp_ret ?_
   refine ⟨⟨(s42_169 x1 x3)++[(44,vB true),(45,.agg [vI 0,vI 2]),(46,.ref 3 0 1),(47,.fn (.func 74) [] [.ptr 4 0 0])],l42_167++[o42_160,o42_158],206⟩,by as_aux_lemma=>kernel_rfl,?_⟩
   refine sz 1 25 ?_
   refine sgL false [] [] true gE ?_
   refine callR (as0:=[.ref 1 0 3,.ref 5 0 3]) (ids:=[1,5]) kr bodyB_16 (msnap_cons (show snap _ _ _=some (_,[1]) from kr) (msnap_cons (show snap _ _ _=some (_,[5]) from kr) msnap_nil (by rfl)) (by rfl)) (fun x17 q18=>g_order_Fill_ok [2,5,2] [1,0,2] x17 q18) gF h (fun x17 q18 h=>?_)
   refine sgz 2 29 (S:=⟨(s42_169 x1 x3)++[(44,vB true),(45,.agg [vI 0,vI 2]),(46,.ref 3 0 1),(47,.fn (.func 74) [] [.ptr 4 0 0]),(48,.ref 1 0 3),(49,.ref 5 0 3),(50,.tup [.ref 6 0 x17.1.length,vI x17.2]),(51,.ref 6 0 x17.1.length),(52,vI x17.2)],l42_167++[o42_160,o42_158,.row false false true true 1 [vI 1,vI 0,vI 2],oR true 2 (fun x:(Int × Int)=>AV.agg [vI x.1,vI x.2]) x17.1],206⟩) ?_
   refine callR (as0:=[.ref 6 0 x17.1.length,vI x17.2,.ptr 4 0 0]) (ids:=[6,4,3]) kr bodyB_74 (msnap_cons (snap_full (w:=2) (bx:=false) (ro:=false) (enc:=(fun x:(Int × Int)=>AV.agg [vI x.1,vI x.2])) (l:=x17.1) (fl:=true) kr) (msnap_cons rfl (msnap_cons (snap_ptr rfl (msnap_cons (show snap _ _ _=some (.lst true [.agg [vI 0,vI 2]],[3]) from kr) msnap_nil (by rfl)) (by rfl) (by rfl)) msnap_nil (by rfl)) (by rfl)) (by rfl)) (fun x19 q20=>g_law08_are_2_int_1_k0_ok x17.1 x17.2 0 2 x19 q20) gF h (fun x19 q20 h=>?_)
   refine sz 2 32 (rwg [1,2,3,5,7,55] [0,1,2] ?_)
   refine rb [55] h (fun q22 h=>?_) (fun q22 h=>?_)
   ·refine inlR (f:=40) (fn:=Tryd.f40) (as0:=[.nils]) kr Tryd.func40 rfl (by decide +kernel) rfl ?_
    refine wp_eqB (base':=3) (st':=⟨[(0,.nils)],l42_167,4⟩) kr kr ?_
    refine wp_seq (reg_in ?_)
    refine sgL false [] [] false gE ?_
    refine sz 1 2 (reg_end rfl (sq (wg [2] [3] ?_)))
    refine wp_ret ?_
    refine ⟨⟨(s42_169 x1 x3)++[(55,vB true),(56,.fn (.func 74) [] [.ptr 3 0 0])],l42_167++[oX true false 1 (.nils)],206⟩,by as_aux_lemma=>kernel_rfl,?_⟩
    refine sz 1 34 ?_
    refine sgL false [] [] true gE ?_
    refine callR (as0:=[.ref 1 0 3,.ref 4 0 3]) (ids:=[1,4]) kr bodyB_16 (msnap_cons (show snap _ _ _=some (_,[1]) from kr) (msnap_cons (show snap _ _ _=some (_,[4]) from kr) msnap_nil (by rfl)) (by rfl)) (fun x23 q24=>g_order_Fill_ok [2,5,2] [0,1,2] x23 q24) gF h (fun x23 q24 h=>?_)
    refine sgz 2 38 (S:=⟨(s42_169 x1 x3)++[(55,vB true),(56,.fn (.func 74) [] [.ptr 3 0 0]),(57,.ref 1 0 3),(58,.ref 4 0 3),(59,.tup [.ref 5 0 x23.1.length,vI x23.2]),(60,.ref 5 0 x23.1.length),(61,vI x23.2)],l42_167++[oX true false 1 (.nils),o42_161,oR true 2 (fun x:(Int × Int)=>AV.agg [vI x.1,vI x.2]) x23.1],206⟩) ?_
    refine callR (as0:=[.ref 5 0 x23.1.length,vI x23.2,.ptr 3 0 0]) (ids:=[5,3]) kr bodyB_74 (msnap_cons (snap_full (w:=2) (bx:=false) (ro:=false) (enc:=(fun x:(Int × Int)=>AV.agg [vI x.1,vI x.2])) (l:=x23.1) (fl:=true) kr) (msnap_cons rfl (msnap_cons (snap_ptr rfl (msnap_cons rfl msnap_nil (by rfl)) (by rfl) (by rfl)) msnap_nil (by rfl)) (by rfl)) (by rfl)) (fun x25 q26=>g_law08_are_2_int_1_k1_ok x23.1 x23.2 x25 q26) gF h (fun x25 q26 h=>?_)
    refine sz 2 41 (rwg [1,2,3,5,7,64] [0,1,2] ?_)
    refine rb [64] h (fun q28 h=>?_) (fun q28 h=>?_)
    ·refine inlR (f:=36) (fn:=Tryd.f36) (as0:=[vI 2]) kr Tryd.func36 rfl (by decide +kernel) rfl ?_
     refine wp_eqB (base':=3) (st':=⟨[(0,vI 2)],l42_167,4⟩) kr kr ?_
     refine sq (sq (wg [2] [3] ?_))
     refine wp_ret ?_
     refine ⟨⟨(s42_169 x1 x3)++[(64,vB true),(65,.fn (.func 72) [] [.ptr 3 0 0])],l42_167++[oX true true 1 (vI 2)],206⟩,by as_aux_lemma=>kernel_rfl,?_⟩
     refine sz 1 43 ?_
     refine sgL false [] [] true gE ?_
     refine callR (as0:=[.ref 0 0 4,.ref 4 0 4]) (ids:=[0,4]) kr bodyB_17 (msnap_cons (show snap _ _ _=some (_,[0]) from kr) (msnap_cons (show snap _ _ _=some (_,[4]) from kr) msnap_nil (by rfl)) (by rfl)) (fun x29 q30=>g_order_Width_ok [10,5,10,5] [0,1,2,3] x29 q30) gF h (fun x29 q30 h=>?_)
     refine sgz 2 47 (S:=⟨(s42_169 x1 x3)++[(64,vB true),(65,.fn (.func 72) [] [.ptr 3 0 0]),(66,.ref 0 0 4),(67,.ref 4 0 4),(68,.tup [vI x29.1,vI x29.2]),(69,vI x29.1),(70,vI x29.2)],l42_167++[oX true true 1 (vI 2),o42_159],206⟩) ?_
     refine callR (as0:=[vI x29.1,vI x29.2,.ptr 3 0 0]) (ids:=[3]) kr bodyB_72 (msnap_cons rfl (msnap_cons rfl (msnap_cons (snap_ptr rfl (msnap_cons rfl msnap_nil (by rfl)) (by rfl) (by rfl)) msnap_nil (by rfl)) (by rfl)) (by rfl)) (fun x31 q32=>g_law08_is_int_1_k2_ok x29.1 x29.2 2 x31 q32) gF h (fun x31 q32 h=>?_)
     refine sz 2 50 (rwg [1,2,3,5,7,73] [0,1,2] ?_)
     refine rb [73] h (fun q34 h=>?_) (fun q34 h=>?_)
     ·refine inlR (f:=36) (fn:=Tryd.f36) (as0:=[vI 2]) kr Tryd.func36 rfl (by decide +kernel) rfl ?_
      refine wp_eqB (base':=3) (st':=⟨[(0,vI 2)],l42_167,4⟩) kr kr ?_
      refine sq (sq (wg [2] [3] ?_))
      refine wp_ret ?_
      refine ⟨⟨(s42_169 x1 x3)++[(73,vB true),(74,.fn (.func 72) [] [.ptr 3 0 0])],l42_167++[oX true true 1 (vI 2)],206⟩,by as_aux_lemma=>kernel_rfl,?_⟩
      refine sz 1 52 ?_
      refine sgL false [] [] true gE ?_
      refine callR (as0:=[.ref 1 0 3,.ref 4 0 3]) (ids:=[1,4]) kr bodyB_17 (msnap_cons (show snap _ _ _=some (_,[1]) from kr) (msnap_cons (show snap _ _ _=some (_,[4]) from kr) msnap_nil (by rfl)) (by rfl)) (fun x35 q36=>g_order_Width_ok [2,5,2] [1,0,2] x35 q36) gF h (fun x35 q36 h=>?_)
      refine sgz 2 56 (S:=⟨(s42_169 x1 x3)++[(73,vB true),(74,.fn (.func 72) [] [.ptr 3 0 0]),(75,.ref 1 0 3),(76,.ref 4 0 3),(77,.tup [vI x35.1,vI x35.2]),(78,vI x35.1),(79,vI x35.2)],l42_167++[oX true true 1 (vI 2),.row false false true true 1 [vI 1,vI 0,vI 2]],206⟩) ?_
      refine callR (as0:=[vI x35.1,vI x35.2,.ptr 3 0 0]) (ids:=[3]) kr bodyB_72 (msnap_cons rfl (msnap_cons rfl (msnap_cons (snap_ptr rfl (msnap_cons rfl msnap_nil (by rfl)) (by rfl) (by rfl)) msnap_nil (by rfl)) (by rfl)) (by rfl)) (fun x37 q38=>g_law08_is_int_1_k2_ok x35.1 x35.2 2 x37 q38) gF h (fun x37 q38 h=>?_)
      refine sz 2 59 (rwg [1,2,3,5,7,82] [0,1,2] ?_)
      refine rb [82] h (fun q40 h=>?_) (fun q40 h=>?_)
      ·refine inlR (f:=36) (fn:=Tryd.f36) (as0:=[vI 1]) kr Tryd.func36 rfl (by decide +kernel) rfl ?_
       refine wp_eqB (base':=3) (st':=⟨[(0,vI 1)],l42_167,4⟩) kr kr ?_
       refine sq (sq (wg [2] [3] ?_))
       refine wp_ret ?_
       refine ⟨⟨(s42_169 x1 x3)++[(82,vB true),(83,.fn (.func 72) [] [.ptr 3 0 0])],l42_167++[oX true true 1 (vI 1)],206⟩,by as_aux_lemma=>kernel_rfl,?_⟩
       refine sz 1 61 ?_
       refine sgL false [] [] true gE ?_
       refine callR (as0:=[.ref 1 0 3,.ref 4 0 3]) (ids:=[1,4]) kr bodyB_17 (msnap_cons (show snap _ _ _=some (_,[1]) from kr) (msnap_cons (show snap _ _ _=some (_,[4]) from kr) msnap_nil (by rfl)) (by rfl)) (fun x41 q42=>g_order_Width_ok [2,5,2] [2,1,0] x41 q42) gF h (fun x41 q42 h=>?_)
       refine sgz 2 65 (S:=⟨(s42_169 x1 x3)++[(82,vB true),(83,.fn (.func 72) [] [.ptr 3 0 0]),(84,.ref 1 0 3),(85,.ref 4 0 3),(86,.tup [vI x41.1,vI x41.2]),(87,vI x41.1),(88,vI x41.2)],l42_167++[oX true true 1 (vI 1),.row false false true true 1 [vI 2,vI 1,vI 0]],206⟩) ?_
       refine callR (as0:=[vI x41.1,vI x41.2,.ptr 3 0 0]) (ids:=[3]) kr bodyB_72 (msnap_cons rfl (msnap_cons rfl (msnap_cons (snap_ptr rfl (msnap_cons rfl msnap_nil (by rfl)) (by rfl) (by rfl)) msnap_nil (by rfl)) (by rfl)) (by rfl)) (fun x43 q44=>g_law08_is_int_1_k2_ok x41.1 x41.2 1 x43 q44) gF h (fun x43 q44 h=>?_)
       refine sz 2 68 (rwg [1,2,3,5,7,91] [0,1,2] ?_)
       refine rb [91] h (fun q46 h=>?_) (fun q46 h=>?_)
       ·refine inlR (f:=36) (fn:=Tryd.f36) (as0:=[vI 3]) kr Tryd.func36 rfl (by decide +kernel) rfl ?_
        refine wp_eqB (base':=3) (st':=⟨[(0,vI 3)],l42_167,4⟩) kr kr ?_
        refine sq (sq (wg [2] [3] ?_))
        refine wp_ret ?_
        refine ⟨⟨(s42_169 x1 x3)++[(91,vB true),(92,.fn (.func 72) [] [.ptr 3 0 0])],l42_167++[oX true true 1 (vI 3)],206⟩,by as_aux_lemma=>kernel_rfl,?_⟩
        refine sz 1 70 ?_
        refine sgL false [] [] true gE ?_
        refine callR (as0:=[.ref 2 0 4,.ref 4 0 4]) (ids:=[2,4]) kr bodyB_17 (msnap_cons (show snap _ _ _=some (_,[2]) from kr) (msnap_cons (show snap _ _ _=some (_,[4]) from kr) msnap_nil (by rfl)) (by rfl)) (fun x47 q48=>g_order_Width_ok [14,13,11,7] [3,2,1,0] x47 q48) gF h (fun x47 q48 h=>?_)
        refine sgz 2 74 (S:=⟨(s42_169 x1 x3)++[(91,vB true),(92,.fn (.func 72) [] [.ptr 3 0 0]),(93,.ref 2 0 4),(94,.ref 4 0 4),(95,.tup [vI x47.1,vI x47.2]),(96,vI x47.1),(97,vI x47.2)],l42_167++[oX true true 1 (vI 3),.row false false true true 1 [vI 3,vI 2,vI 1,vI 0]],206⟩) ?_
        refine callR (as0:=[vI x47.1,vI x47.2,.ptr 3 0 0]) (ids:=[3]) kr bodyB_72 (msnap_cons rfl (msnap_cons rfl (msnap_cons (snap_ptr rfl (msnap_cons rfl msnap_nil (by rfl)) (by rfl) (by rfl)) msnap_nil (by rfl)) (by rfl)) (by rfl)) (fun x49 q50=>g_law08_is_int_1_k2_ok x47.1 x47.2 3 x49 q50) gF h (fun x49 q50 h=>?_)
        refine sz 2 77 (reg_end rfl (wp_seq (wg [1,2,3,5,7,8] [0,1,2] (reg_in (sz 2 2 ?_)))))
        refine rb [8,100,101] h (fun q52 h=>?_) (fun q52 h=>?_)
        ·refine sgL false [] [] true gE ?_
         refine inlR (f:=44) (fn:=Tryd.f44) (as0:=[.ref 3 0 4]) kr Tryd.func44 rfl (by decide +kernel) rfl ?_
         refine wp_eqB (base':=4) (st':=⟨[(0,.ref 3 0 4)],l42_167++[o42_159],4⟩) kr kr ?_
         refine wp_seq (reg_in ?_)
         refine sgL false [] [] false gE ?_
         refine sz 1 2 (reg_end rfl (sq (wg [2] [4] ?_)))
         refine wp_ret ?_
         refine ⟨⟨(s42_169 x1 x3)++[(8,vB true),(100,vB true),(101,vB true),(102,.ref 3 0 4),(103,.fn (.func 78) [] [.ptr 4 0 0])],l42_167++[o42_159,oX false false 1 (.ref 3 0 4)],206⟩,by as_aux_lemma=>kernel_rfl,?_⟩
         refine sz 1 5 ?_
         refine callR (as0:=[.ref 0 0 4]) (ids:=[0]) kr bodyB_22 (msnap_cons (show snap _ _ _=some (_,[0]) from kr) msnap_nil (by rfl)) (fun x53 q54=>g_order_LeastFill_ok [10,5,10,5] x53 q54) gF h (fun x53 q54 h=>?_)
         refine sgz 2 8 (S:=⟨(s42_169 x1 x3)++[(8,vB true),(100,vB true),(101,vB true),(102,.ref 3 0 4),(103,.fn (.func 78) [] [.ptr 4 0 0]),(104,.ref 0 0 4),(105,.tup [z1 x53.1,vI x53.2]),(106,z1 x53.1),(107,vI x53.2)],[o42_162,o42_155,o42_156,o42_159,oX false false 1 (.ref 3 0 4)],206⟩) ?_
         refine callR (as0:=[z1 x53.1,vI x53.2,.ptr 4 0 0]) (ids:=[4,3]) kr bodyB_78 (msnap_cons rfl (msnap_cons rfl (msnap_cons (snap_ptr rfl (msnap_cons (show snap _ _ _=some (.lst true [vI 0,vI 1,vI 2,vI 3],[3]) from kr) msnap_nil (by rfl)) (by rfl) (by rfl)) msnap_nil (by rfl)) (by rfl)) (by rfl)) (fun x55 q56=>g_law08_are_int_1_k3_ok x53.1 x53.2 0 1 2 3 x55 q56) gF h (fun x55 q56 h=>?_)
         refine sz 2 11 (rwg [1,2,3,5,7,110] [0,1,2] ?_)
         refine rb [110] h (fun q58 h=>?_) (fun q58 h=>?_)
         ·refine sgL false [] [] true gE ?_
          refine inlR (f:=44) (fn:=Tryd.f44) (as0:=[.ref 3 0 3]) kr Tryd.func44 rfl (by decide +kernel) rfl ?_
          refine wp_eqB (base':=4) (st':=⟨[(0,.ref 3 0 3)],[o42_162,o42_155,o42_156,o42_161],4⟩) kr kr ?_
          refine wp_seq (reg_in ?_)
          refine sgL false [] [] false gE ?_
          refine sz 1 2 (reg_end rfl (sq (wg [2] [4] ?_)))
          refine wp_ret ?_
          refine ⟨⟨(s42_169 x1 x3)++[(110,vB true),(111,.ref 3 0 3),(112,.fn (.func 78) [] [.ptr 4 0 0])],[o42_162,o42_155,o42_156,o42_161,oX false false 1 (.ref 3 0 3)],206⟩,by as_aux_lemma=>kernel_rfl,?_⟩
          refine sz 1 14 ?_
          refine callR (as0:=[.ref 1 0 3]) (ids:=[1]) kr bodyB_22 (msnap_cons (show snap _ _ _=some (_,[1]) from kr) msnap_nil (by rfl)) (fun x59 q60=>g_order_LeastFill_ok [2,5,2] x59 q60) gF h (fun x59 q60 h=>?_)
          refine sgz 2 17 (S:=⟨(s42_169 x1 x3)++[(110,vB true),(111,.ref 3 0 3),(112,.fn (.func 78) [] [.ptr 4 0 0]),(113,.ref 1 0 3),(114,.tup [z1 x59.1,vI x59.2]),(115,z1 x59.1),(116,vI x59.2)],l42_168++[o42_161,oX false false 1 (.ref 3 0 3)],206⟩) ?_
          refine callR (as0:=[z1 x59.1,vI x59.2,.ptr 4 0 0]) (ids:=[4,3]) kr bodyB_78 (msnap_cons rfl (msnap_cons rfl (msnap_cons (snap_ptr rfl (msnap_cons (show snap _ _ _=some (.lst true [vI 0,vI 1,vI 2],[3]) from kr) msnap_nil (by rfl)) (by rfl) (by rfl)) msnap_nil (by rfl)) (by rfl)) (by rfl)) (fun x61 q62=>g_law08_are_int_1_k4_ok x59.1 x59.2 0 1 2 x61 q62) gF h (fun x61 q62 h=>?_)
          refine sz 2 20 (rwg [1,2,3,5,7,119] [0,1,2] ?_)
          refine rb [119] h (fun q64 h=>?_) (fun q64 h=>?_)
          ·refine sgL false [] [] true gE ?_
           refine inlR (f:=44) (fn:=Tryd.f44) (as0:=[.ref 3 0 3]) kr Tryd.func44 rfl (by decide +kernel) rfl ?_
           refine wp_eqB (base':=4) (st':=⟨[(0,.ref 3 0 3)],l42_168++[o42_161],4⟩) kr kr ?_
           refine wp_seq (reg_in ?_)
           refine sgL false [] [] false gE ?_
           refine sz 1 2 (reg_end rfl (sq (wg [2] [4] ?_)))
           refine wp_ret ?_
           refine ⟨⟨(s42_169 x1 x3)++[(119,vB true),(120,.ref 3 0 3),(121,.fn (.func 78) [] [.ptr 4 0 0])],l42_168++[o42_161,oX false false 1 (.ref 3 0 3)],206⟩,by as_aux_lemma=>kernel_rfl,?_⟩
           refine sz 1 23 ?_
           refine callR (as0:=[.ref 1 0 3]) (ids:=[1]) kr bodyB_23 (msnap_cons (show snap _ _ _=some (_,[1]) from kr) msnap_nil (by rfl)) (fun x65 q66=>g_order_LeastDegree_ok [2,5,2] x65 q66) gF h (fun x65 q66 h=>?_)
           refine sgz 2 26 (S:=⟨(s42_169 x1 x3)++[(119,vB true),(120,.ref 3 0 3),(121,.fn (.func 78) [] [.ptr 4 0 0]),(122,.ref 1 0 3),(123,.tup [z1 x65.1,vI x65.2]),(124,z1 x65.1),(125,vI x65.2)],l42_168++[o42_161,oX false false 1 (.ref 3 0 3)],206⟩) ?_
           refine callR (as0:=[z1 x65.1,vI x65.2,.ptr 4 0 0]) (ids:=[4,3]) kr bodyB_78 (msnap_cons rfl (msnap_cons rfl (msnap_cons (snap_ptr rfl (msnap_cons (show snap _ _ _=some (.lst true [vI 0,vI 1,vI 2],[3]) from kr) msnap_nil (by rfl)) (by rfl) (by rfl)) msnap_nil (by rfl)) (by rfl)) (by rfl)) (fun x67 q68=>g_law08_are_int_1_k4_ok x65.1 x65.2 0 1 2 x67 q68) gF h (fun x67 q68 h=>?_)
           refine sz 2 29 (rwg [1,2,3,5,7,128] [0,1,2] ?_)
           refine rb [128] h (fun q70 h=>?_) (fun q70 h=>?_)
           ·refine sz 1 30 ?_
            refine sgL false [] [] true gE ?_
            refine callR (as0:=[.ref 0 0 4,vI 2,.ref 3 0 4]) (ids:=[0,3]) kr bodyB_35 (msnap_cons (show snap _ _ _=some (_,[0]) from kr) (msnap_cons rfl (msnap_cons (show snap _ _ _=some (_,[3]) from kr) msnap_nil (by rfl)) (by rfl)) (by rfl)) (fun x71 q72=>g_law08_best_ok [10,5,10,5] 2 [0,1,2,3] x71 q72) gF h (fun x71 q72 h=>?_)
            refine sz 2 34 (rwg [1,2,3,5,7,133] [0,1,2] ?_)
            refine rb [133] h (fun q74 h=>?_) (fun q74 h=>?_)
            ·refine sz 1 35 ?_
             refine sgL false [] [] true gE ?_
             refine callR (as0:=[.ref 1 0 3,vI 1,.ref 3 0 3]) (ids:=[1,3]) kr bodyB_35 (msnap_cons (show snap _ _ _=some (_,[1]) from kr) (msnap_cons rfl (msnap_cons (show snap _ _ _=some (_,[3]) from kr) msnap_nil (by rfl)) (by rfl)) (by rfl)) (fun x75 q76=>g_law08_best_ok [2,5,2] 1 [0,1,2] x75 q76) gF h (fun x75 q76 h=>?_)
             refine sz 2 39 (rwg [1,2,3,5,7,138] [0,1,2] ?_)
             refine rb [138] h (fun q78 h=>?_) (fun q78 h=>?_)
             ·refine sz 1 40 ?_
              refine sgL false [] [] true gE ?_
              refine callR (as0:=[.ref 2 0 4,vI 3,.ref 3 0 4]) (ids:=[2,3]) kr bodyB_35 (msnap_cons (show snap _ _ _=some (_,[2]) from kr) (msnap_cons rfl (msnap_cons (show snap _ _ _=some (_,[3]) from kr) msnap_nil (by rfl)) (by rfl)) (by rfl)) (fun x79 q80=>g_law08_best_ok [14,13,11,7] 3 [0,1,2,3] x79 q80) gF h (fun x79 q80 h=>?_)
              refine sz 2 44 ?_
              refine rw_wk (wk_gc (live:=[1,2,3,5,7,143]) (keep:=[0,1,2]) (st':=⟨(s42_169 x1 x3)++[(143,vB x79)],l42_168,206⟩) kr) ?_
              refine rb [143] h (fun q82 h=>?_) (fun q82 h=>?_)
              ·refine inlR (f:=36) (fn:=Tryd.f36) (as0:=[vI 2]) kr Tryd.func36 rfl (by decide +kernel) rfl ?_
               refine wp_eqB (base':=3) (st':=⟨[(0,vI 2)],l42_168,4⟩) kr kr ?_
               refine sq (sq (wg [2] [3] ?_))
               refine wp_ret ?_
               refine ⟨⟨(s42_169 x1 x3)++[(143,vB true),(144,.fn (.func 72) [] [.ptr 3 0 0])],l42_168++[oX true true 1 (vI 2)],206⟩,by as_aux_lemma=>kernel_rfl,?_⟩
               refine sz 1 46 ?_
               refine callR (as0:=[.ref 0 0 4]) (ids:=[0]) kr bodyB_24 (msnap_cons (show snap _ _ _=some (_,[0]) from kr) msnap_nil (by rfl)) (fun x83 q84=>g_order_Low_ok [10,5,10,5] x83 q84) gF h (fun x83 q84 h=>?_)
               refine sgz 2 49 (S:=⟨(s42_169 x1 x3)++[(143,vB true),(144,.fn (.func 72) [] [.ptr 3 0 0]),(145,.ref 0 0 4),(146,.tup [vI x83.1,vI x83.2]),(147,vI x83.1),(148,vI x83.2)],l42_168++[oX true true 1 (vI 2)],206⟩) ?_
               refine callR (as0:=[vI x83.1,vI x83.2,.ptr 3 0 0]) (ids:=[3]) kr bodyB_72 (msnap_cons rfl (msnap_cons rfl (msnap_cons (snap_ptr rfl (msnap_cons rfl msnap_nil (by rfl)) (by rfl) (by rfl)) msnap_nil (by rfl)) (by rfl)) (by rfl)) (fun x85 q86=>g_law08_is_int_1_k2_ok x83.1 x83.2 2 x85 q86) gF h (fun x85 q86 h=>?_)
               refine sz 2 52 (rwg [1,2,3,5,7,151] [0,1,2] ?_)
               refine rb [151] h (fun q88 h=>?_) (fun q88 h=>?_)
               ·refine inlR (f:=36) (fn:=Tryd.f36) (as0:=[vI 1]) kr Tryd.func36 rfl (by decide +kernel) rfl ?_
                refine wp_eqB (base':=3) (st':=⟨[(0,vI 1)],l42_168,4⟩) kr kr ?_
                refine sq (sq (wg [2] [3] ?_))
                refine wp_ret ?_
                refine ⟨⟨(s42_169 x1 x3)++[(151,vB true),(152,.fn (.func 72) [] [.ptr 3 0 0])],l42_168++[oX true true 1 (vI 1)],206⟩,by as_aux_lemma=>kernel_rfl,?_⟩
                refine sz 1 54 ?_
                refine callR (as0:=[.ref 1 0 3]) (ids:=[1]) kr bodyB_24 (msnap_cons (show snap _ _ _=some (_,[1]) from kr) msnap_nil (by rfl)) (fun x89 q90=>g_order_Low_ok [2,5,2] x89 q90) gF h (fun x89 q90 h=>?_)
                refine sgz 2 57 (S:=⟨(s42_169 x1 x3)++[(151,vB true),(152,.fn (.func 72) [] [.ptr 3 0 0]),(153,.ref 1 0 3),(154,.tup [vI x89.1,vI x89.2]),(155,vI x89.1),(156,vI x89.2)],l42_168++[oX true true 1 (vI 1)],206⟩) ?_
                refine callR (as0:=[vI x89.1,vI x89.2,.ptr 3 0 0]) (ids:=[3]) kr bodyB_72 (msnap_cons rfl (msnap_cons rfl (msnap_cons (snap_ptr rfl (msnap_cons rfl msnap_nil (by rfl)) (by rfl) (by rfl)) msnap_nil (by rfl)) (by rfl)) (by rfl)) (fun x91 q92=>g_law08_is_int_1_k2_ok x89.1 x89.2 1 x91 q92) gF h (fun x91 q92 h=>?_)
                refine sz 2 60 (rwg [1,2,3,5,7,159] [0,1,2] ?_)
                refine rb [159] h (fun q94 h=>?_) (fun q94 h=>?_)
                ·refine inlR (f:=36) (fn:=Tryd.f36) (as0:=[vI 3]) kr Tryd.func36 rfl (by decide +kernel) rfl ?_
                 refine wp_eqB (base':=3) (st':=⟨[(0,vI 3)],l42_168,4⟩) kr kr ?_
                 refine sq (sq (wg [2] [3] ?_))
                 refine wp_ret ?_
                 refine ⟨⟨(s42_169 x1 x3)++[(159,vB true),(160,.fn (.func 72) [] [.ptr 3 0 0])],l42_168++[oX true true 1 (vI 3)],206⟩,by as_aux_lemma=>kernel_rfl,?_⟩
                 refine sz 1 62 ?_
                 refine callR (as0:=[.ref 2 0 4]) (ids:=[2]) kr bodyB_24 (msnap_cons (show snap _ _ _=some (_,[2]) from kr) msnap_nil (by rfl)) (fun x95 q96=>g_order_Low_ok [14,13,11,7] x95 q96) gF h (fun x95 q96 h=>?_)
                 refine sgz 2 65 (S:=⟨(s42_169 x1 x3)++[(159,vB true),(160,.fn (.func 72) [] [.ptr 3 0 0]),(161,.ref 2 0 4),(162,.tup [vI x95.1,vI x95.2]),(163,vI x95.1),(164,vI x95.2)],l42_168++[oX true true 1 (vI 3)],206⟩) ?_
                 refine callR (as0:=[vI x95.1,vI x95.2,.ptr 3 0 0]) (ids:=[3]) kr bodyB_72 (msnap_cons rfl (msnap_cons rfl (msnap_cons (snap_ptr rfl (msnap_cons rfl msnap_nil (by rfl)) (by rfl) (by rfl)) msnap_nil (by rfl)) (by rfl)) (by rfl)) (fun x97 q98=>g_law08_is_int_1_k2_ok x95.1 x95.2 3 x97 q98) gF h (fun x97 q98 h=>?_)
                 refine sz 2 68 (rwg [1,2,5,7,167] [0,1] ?_)
                 refine rb [167] h (fun q100 h=>?_) (fun q100 h=>?_)
                 ·refine inlR (f:=37) (fn:=Tryd.f37) (as0:=[vB false]) kr Tryd.func37 rfl (by decide +kernel) rfl ?_
                  refine wp_eqB (base':=2) (st':=⟨[(0,vB false)],[o42_162,o42_163],4⟩) kr kr ?_
                  refine sq (sq (wg [2] [2] ?_))
                  refine wp_ret ?_
                  refine ⟨⟨[e42_164,e42_165,(5,vI x1.2),(7,vI x3.2),(167,vB true),(168,.fn (.func 73) [] [.ptr 2 0 0])],[o42_162,o42_163,oX true true 1 (vB false)],206⟩,by as_aux_lemma=>kernel_rfl,?_⟩
                  refine sz 1 70 ?_
                  refine callR (as0:=[.ref 0 0 4]) (ids:=[0]) kr bodyB_25 (msnap_cons (show snap _ _ _=some (_,[0]) from kr) msnap_nil (by rfl)) (fun x101 q102=>g_order_Chordal_ok [10,5,10,5] x101 q102) gF h (fun x101 q102 h=>?_)
                  refine sgz 2 73 (S:=⟨[e42_164,e42_165,(5,vI x1.2),(7,vI x3.2),(167,vB true),(168,.fn (.func 73) [] [.ptr 2 0 0]),(169,.ref 0 0 4),(170,.tup [vB x101.1,vI x101.2]),(171,vB x101.1),(172,vI x101.2)],[o42_162,o42_163,oX true true 1 (vB false)],206⟩) ?_
                  refine callR (as0:=[vB x101.1,vI x101.2,.ptr 2 0 0]) (ids:=[2]) kr bodyB_73 (msnap_cons rfl (msnap_cons rfl (msnap_cons (snap_ptr rfl (msnap_cons rfl msnap_nil (by rfl)) (by rfl) (by rfl)) msnap_nil (by rfl)) (by rfl)) (by rfl)) (fun x103 q104=>g_law08_is_bool_1_k5_ok x101.1 x101.2 false x103 q104) gF h (fun x103 q104 h=>?_)
                  refine sz 2 76 (rwg [2,5,7,175] [1] ?_)
                  refine rb [175] h (fun q106 h=>?_) (fun q106 h=>?_)
                  ·refine inlR (f:=37) (fn:=Tryd.f37) (as0:=[vB true]) kr Tryd.func37 rfl (by decide +kernel) rfl ?_
                   refine wp_eqB (base':=1) (st':=⟨[(0,vB true)],[o42_163],4⟩) kr kr ?_
                   refine sq (sq (wg [2] [1] ?_))
                   refine wp_ret ?_
                   refine ⟨⟨[(2,.ref 0 0 3),(5,vI x1.2),(7,vI x3.2),(175,vB true),(176,.fn (.func 73) [] [.ptr 1 0 0])],[o42_163,oX true true 1 (vB true)],206⟩,by as_aux_lemma=>kernel_rfl,?_⟩
                   refine sz 1 78 ?_
                   refine callR (as0:=[.ref 0 0 3]) (ids:=[0]) kr bodyB_25 (msnap_cons (show snap _ _ _=some (_,[0]) from kr) msnap_nil (by rfl)) (fun x107 q108=>g_order_Chordal_ok [2,5,2] x107 q108) gF h (fun x107 q108 h=>?_)
                   refine sgz 2 81 (S:=⟨[(2,.ref 0 0 3),(5,vI x1.2),(7,vI x3.2),(175,vB true),(176,.fn (.func 73) [] [.ptr 1 0 0]),(177,.ref 0 0 3),(178,.tup [vB x107.1,vI x107.2]),(179,vB x107.1),(180,vI x107.2)],[o42_163,oX true true 1 (vB true)],206⟩) ?_
                   refine callR (as0:=[vB x107.1,vI x107.2,.ptr 1 0 0]) (ids:=[1]) kr bodyB_73 (msnap_cons rfl (msnap_cons rfl (msnap_cons (snap_ptr rfl (msnap_cons rfl msnap_nil (by rfl)) (by rfl) (by rfl)) msnap_nil (by rfl)) (by rfl)) (by rfl)) (fun x109 q110=>g_law08_is_bool_1_k5_ok x107.1 x107.2 true x109 q110) gF h (fun x109 q110 h=>?_)
                   refine sz 2 84 (reg_end rfl (wp_seq (wg [5,7,8] [] (reg_in (sz 2 2 ?_)))))
                   refine rb [8,183,184] h (fun q112 h=>?_) (fun q112 h=>?_)
                   ·refine sz 4 6 (rwg [7,188] [] ?_)
                    refine rb [188] h (fun q114 h=>?_) (fun q114 h=>?_)
                    ·refine sz 4 10 ?_
                     refine rw_wk (wk_gc (live:=[192]) (keep:=[]) (st':=⟨[(192,vB (x3.2==81))],[],206⟩) kr) ?_
                     refine rb [192] h (fun q116 h=>?_) (fun q116 h=>?_)
                     ·refine sgL false [] [] true gE ?_
                      refine callR (as0:=[.ref 0 0 2]) (ids:=[0]) kr bodyB_14 (msnap_cons (show snap _ _ _=some (_,[0]) from kr) msnap_nil (by rfl)) (fun x117 q118=>g_order_Check_ok [2,0] x117 q118) gF h (fun x117 q118 h=>?_)
                      refine sz 3 15 (rwg [197] [] ?_)
                      refine rb [197] h (fun q120 h=>?_) (fun q120 h=>?_)
                      ·refine sgL false [] [] true gE ?_
                       refine callR (as0:=[.ref 0 0 1]) (ids:=[0]) kr bodyB_14 (msnap_cons (show snap _ _ _=some (_,[0]) from kr) msnap_nil (by rfl)) (fun x121 q122=>g_order_Check_ok [1] x121 q122) gF h (fun x121 q122 h=>?_)
                       refine sz 3 20 (rwg [202] [] ?_)
                       refine rb [202] h (fun q124 h=>?_) (fun q124 h=>?_)
                       ·refine callR (as0:=[.nils]) (us:=[.nils]) (ids:=[]) kr bodyB_14 (msnap_cons rfl msnap_nil) (fun x125 q126=>CallOk.args [[.lst true]] (g_order_Check_ok [] x125 q126)) gF h (fun x125 q126 h=>?_)
                        refine sz 3 24 (reg_end rfl ?_)
                        refine wgc [0] [] ⟨[(0,vB (x125==80))],[],206⟩ ?_
                        cases h
                        exact wp_ret (show fnOut _ _ _ _=_ from by kernel_rfl)
                       refine sz 4 24 (reg_end rfl ?_)
                       refine wgc [0] [] ⟨[(0,vB false)],[],206⟩ ?_
                       cases h
                       exact wp_ret (show fnOut _ _ _ _=_ from by kernel_rfl)
                      refine sz 9 24 (reg_end rfl (wg [0] [] ?_))
                      cases h
                      exact wp_ret (show fnOut _ _ _ _=_ from by kernel_rfl)
                     refine sz 14 24 (reg_end rfl (wg [0] [] ?_))
                     cases h
                     exact wp_ret (show fnOut _ _ _ _=_ from by kernel_rfl)
                    refine sz 18 24 (reg_end rfl ?_)
                    refine wgc [0] [] ⟨[(0,vB false)],[],206⟩ ?_
                    cases h
                    exact wp_ret (show fnOut _ _ _ _=_ from by kernel_rfl)
                   refine sz 22 24 (reg_end rfl ?_)
                   refine wgc [0] [] ⟨[(0,vB false)],[],206⟩ ?_
                   cases h
                   exact wp_ret (show fnOut _ _ _ _=_ from by kernel_rfl)
                  refine sz 8 84 (reg_end rfl (wp_seq (wg [5,7,8] [] (rn ?_))))
                  refine wgc [0] [] ⟨[(0,vB false)],[],206⟩ ?_
                  cases h
                  exact wp_ret (show fnOut _ _ _ _=_ from by kernel_rfl)
                 refine sz 16 84 (reg_end rfl (wp_seq ?_))
                 refine wgc [5,7,8] [] (u42_170 x1 x3) ?_
                 refine rn (wg [0] [] ?_)
                 cases h
                 exact wp_ret (show fnOut _ _ _ _=_ from by kernel_rfl)
                refine sz 24 84 (reg_end rfl (wp_seq ?_))
                refine wgc [5,7,8] [] (u42_170 x1 x3) ?_
                refine rn (wg [0] [] ?_)
                cases h
                exact wp_ret (show fnOut _ _ _ _=_ from by kernel_rfl)
               refine sz 32 84 (reg_end rfl (wp_seq ?_))
               refine wgc [5,7,8] [] (u42_170 x1 x3) ?_
               refine rn (wg [0] [] ?_)
               cases h
               exact wp_ret (show fnOut _ _ _ _=_ from by kernel_rfl)
              refine sgz 40 84 (S:=⟨(s42_169 x1 x3)++[(143,vB false),(144,.tup []),(145,.tup []),(146,.tup []),(147,.tup []),(148,.tup []),(149,.tup []),(150,vB false),(151,vB false),(152,.tup []),(153,.tup []),(154,.tup []),(155,.tup []),(156,.tup []),(157,.tup []),(158,vB false),(159,vB false),(160,.tup []),(161,.tup []),(162,.tup []),(163,.tup []),(164,.tup []),(165,.tup []),(166,vB false),(167,vB false),(168,.tup []),(169,.tup []),(170,.tup []),(171,.tup []),(172,.tup []),(173,.tup []),(174,vB false),(175,vB false),(176,.tup []),(177,.tup []),(178,.tup []),(179,.tup []),(180,.tup []),(181,.tup []),(182,vB false),(8,vB false)],l42_168,206⟩) ?_
              refine reg_end rfl (wp_seq (wg [5,7,8] [] (rn (wg [0] [] ?_))))
              cases h
              exact wp_ret (show fnOut _ _ _ _=_ from by kernel_rfl)
             refine sgz 45 84 (S:=⟨(s42_169 x1 x3)++[(138,vB false),(139,.tup []),(140,.tup []),(141,.tup []),(142,vB false),(143,vB false),(144,.tup []),(145,.tup []),(146,.tup []),(147,.tup []),(148,.tup []),(149,.tup []),(150,vB false),(151,vB false),(152,.tup []),(153,.tup []),(154,.tup []),(155,.tup []),(156,.tup []),(157,.tup []),(158,vB false),(159,vB false),(160,.tup []),(161,.tup []),(162,.tup []),(163,.tup []),(164,.tup []),(165,.tup []),(166,vB false),(167,vB false),(168,.tup []),(169,.tup []),(170,.tup []),(171,.tup []),(172,.tup []),(173,.tup []),(174,vB false),(175,vB false),(176,.tup []),(177,.tup []),(178,.tup []),(179,.tup []),(180,.tup []),(181,.tup []),(182,vB false),(8,vB false)],l42_168,206⟩) ?_
             refine reg_end rfl (wp_seq (wg [5,7,8] [] (rn (wg [0] [] ?_))))
             cases h
             exact wp_ret (show fnOut _ _ _ _=_ from by kernel_rfl)
            refine sgz 50 84 (S:=⟨(s42_169 x1 x3)++[(133,vB false),(134,.tup []),(135,.tup []),(136,.tup []),(137,vB false),(138,vB false),(139,.tup []),(140,.tup []),(141,.tup []),(142,vB false),(143,vB false),(144,.tup []),(145,.tup []),(146,.tup []),(147,.tup []),(148,.tup []),(149,.tup []),(150,vB false),(151,vB false),(152,.tup []),(153,.tup []),(154,.tup []),(155,.tup []),(156,.tup []),(157,.tup []),(158,vB false),(159,vB false),(160,.tup []),(161,.tup []),(162,.tup []),(163,.tup []),(164,.tup []),(165,.tup []),(166,vB false),(167,vB false),(168,.tup []),(169,.tup []),(170,.tup []),(171,.tup []),(172,.tup []),(173,.tup []),(174,vB false),(175,vB false),(176,.tup []),(177,.tup []),(178,.tup []),(179,.tup []),(180,.tup []),(181,.tup []),(182,vB false),(8,vB false)],l42_168,206⟩) ?_
            refine reg_end rfl (wp_seq (wg [5,7,8] [] (rn (wg [0] [] ?_))))
            cases h
            exact wp_ret (show fnOut _ _ _ _=_ from by kernel_rfl)
           refine sgz 55 84 (S:=⟨(s42_169 x1 x3)++[(128,vB false),(129,.tup []),(130,.tup []),(131,.tup []),(132,vB false),(133,vB false),(134,.tup []),(135,.tup []),(136,.tup []),(137,vB false),(138,vB false),(139,.tup []),(140,.tup []),(141,.tup []),(142,vB false),(143,vB false),(144,.tup []),(145,.tup []),(146,.tup []),(147,.tup []),(148,.tup []),(149,.tup []),(150,vB false),(151,vB false),(152,.tup []),(153,.tup []),(154,.tup []),(155,.tup []),(156,.tup []),(157,.tup []),(158,vB false),(159,vB false),(160,.tup []),(161,.tup []),(162,.tup []),(163,.tup []),(164,.tup []),(165,.tup []),(166,vB false),(167,vB false),(168,.tup []),(169,.tup []),(170,.tup []),(171,.tup []),(172,.tup []),(173,.tup []),(174,vB false),(175,vB false),(176,.tup []),(177,.tup []),(178,.tup []),(179,.tup []),(180,.tup []),(181,.tup []),(182,vB false),(8,vB false)],l42_168,206⟩) ?_
           refine reg_end rfl (wp_seq (wg [5,7,8] [] (rn (wg [0] [] ?_))))
           cases h
           exact wp_ret (show fnOut _ _ _ _=_ from by kernel_rfl)
          refine sgz 64 84 (S:=⟨(s42_169 x1 x3)++[(119,vB false),(120,.tup []),(121,.tup []),(122,.tup []),(123,.tup []),(124,.tup []),(125,.tup []),(126,.tup []),(127,vB false),(128,vB false),(129,.tup []),(130,.tup []),(131,.tup []),(132,vB false),(133,vB false),(134,.tup []),(135,.tup []),(136,.tup []),(137,vB false),(138,vB false),(139,.tup []),(140,.tup []),(141,.tup []),(142,vB false),(143,vB false),(144,.tup []),(145,.tup []),(146,.tup []),(147,.tup []),(148,.tup []),(149,.tup []),(150,vB false),(151,vB false),(152,.tup []),(153,.tup []),(154,.tup []),(155,.tup []),(156,.tup []),(157,.tup []),(158,vB false),(159,vB false),(160,.tup []),(161,.tup []),(162,.tup []),(163,.tup []),(164,.tup []),(165,.tup []),(166,vB false),(167,vB false),(168,.tup []),(169,.tup []),(170,.tup []),(171,.tup []),(172,.tup []),(173,.tup []),(174,vB false),(175,vB false),(176,.tup []),(177,.tup []),(178,.tup []),(179,.tup []),(180,.tup []),(181,.tup []),(182,vB false),(8,vB false)],l42_168,206⟩) ?_
          refine reg_end rfl (wp_seq (wg [5,7,8] [] (rn (wg [0] [] ?_))))
          cases h
          exact wp_ret (show fnOut _ _ _ _=_ from by kernel_rfl)
         refine sgz 73 84 (S:=⟨(s42_169 x1 x3)++[(110,vB false),(111,.tup []),(112,.tup []),(113,.tup []),(114,.tup []),(115,.tup []),(116,.tup []),(117,.tup []),(118,vB false),(119,vB false),(120,.tup []),(121,.tup []),(122,.tup []),(123,.tup []),(124,.tup []),(125,.tup []),(126,.tup []),(127,vB false),(128,vB false),(129,.tup []),(130,.tup []),(131,.tup []),(132,vB false),(133,vB false),(134,.tup []),(135,.tup []),(136,.tup []),(137,vB false),(138,vB false),(139,.tup []),(140,.tup []),(141,.tup []),(142,vB false),(143,vB false),(144,.tup []),(145,.tup []),(146,.tup []),(147,.tup []),(148,.tup []),(149,.tup []),(150,vB false),(151,vB false),(152,.tup []),(153,.tup []),(154,.tup []),(155,.tup []),(156,.tup []),(157,.tup []),(158,vB false),(159,vB false),(160,.tup []),(161,.tup []),(162,.tup []),(163,.tup []),(164,.tup []),(165,.tup []),(166,vB false),(167,vB false),(168,.tup []),(169,.tup []),(170,.tup []),(171,.tup []),(172,.tup []),(173,.tup []),(174,vB false),(175,vB false),(176,.tup []),(177,.tup []),(178,.tup []),(179,.tup []),(180,.tup []),(181,.tup []),(182,vB false),(8,vB false)],[o42_162,o42_155,o42_156],206⟩) ?_
         refine reg_end rfl (wp_seq (wg [5,7,8] [] (rn (wg [0] [] ?_))))
         cases h
         exact wp_ret (show fnOut _ _ _ _=_ from by kernel_rfl)
        refine sgz 82 84 (S:=⟨(s42_169 x1 x3)++[(8,vB false),(100,vB false),(101,vB false),(102,.tup []),(103,.tup []),(104,.tup []),(105,.tup []),(106,.tup []),(107,.tup []),(108,.tup []),(109,vB false),(110,vB false),(111,.tup []),(112,.tup []),(113,.tup []),(114,.tup []),(115,.tup []),(116,.tup []),(117,.tup []),(118,vB false),(119,vB false),(120,.tup []),(121,.tup []),(122,.tup []),(123,.tup []),(124,.tup []),(125,.tup []),(126,.tup []),(127,vB false),(128,vB false),(129,.tup []),(130,.tup []),(131,.tup []),(132,vB false),(133,vB false),(134,.tup []),(135,.tup []),(136,.tup []),(137,vB false),(138,vB false),(139,.tup []),(140,.tup []),(141,.tup []),(142,vB false),(143,vB false),(144,.tup []),(145,.tup []),(146,.tup []),(147,.tup []),(148,.tup []),(149,.tup []),(150,vB false),(151,vB false),(152,.tup []),(153,.tup []),(154,.tup []),(155,.tup []),(156,.tup []),(157,.tup []),(158,vB false),(159,vB false),(160,.tup []),(161,.tup []),(162,.tup []),(163,.tup []),(164,.tup []),(165,.tup []),(166,vB false),(167,vB false),(168,.tup []),(169,.tup []),(170,.tup []),(171,.tup []),(172,.tup []),(173,.tup []),(174,vB false),(175,vB false),(176,.tup []),(177,.tup []),(178,.tup []),(179,.tup []),(180,.tup []),(181,.tup []),(182,vB false)],l42_167,206⟩) ?_
        refine reg_end rfl (wp_seq (wg [5,7,8] [] (rn (wg [0] [] ?_))))
        cases h
        exact wp_ret (show fnOut _ _ _ _=_ from by kernel_rfl)
       refine sz 9 77 (reg_end rfl (wp_seq (wg [1,2,3,5,7,8] [0,1,2] (rn (wp_seq ?_)))))
       refine wgc [5,7,8] [] (u42_170 x1 x3) ?_
       refine rn (wg [0] [] ?_)
       cases h
       exact wp_ret (show fnOut _ _ _ _=_ from by kernel_rfl)
      refine sz 18 77 (reg_end rfl (wp_seq ?_))
      refine wgc [1,2,3,5,7,8] [0,1,2] ⟨(s42_169 x1 x3)++[(8,vB false)],l42_167,206⟩ ?_
      refine rn (wp_seq (wg [5,7,8] [] (rn (wg [0] [] ?_))))
      cases h
      exact wp_ret (show fnOut _ _ _ _=_ from by kernel_rfl)
     refine sz 27 77 (reg_end rfl (wp_seq ?_))
     refine wgc [1,2,3,5,7,8] [0,1,2] ⟨(s42_169 x1 x3)++[(8,vB false)],l42_167,206⟩ ?_
     refine rn (wp_seq (wg [5,7,8] [] (rn (wg [0] [] ?_))))
     cases h
     exact wp_ret (show fnOut _ _ _ _=_ from by kernel_rfl)
    refine sgz 36 77 (S:=⟨(s42_169 x1 x3)++[(64,vB false),(65,.tup []),(66,.tup []),(67,.tup []),(68,.tup []),(69,.tup []),(70,.tup []),(71,.tup []),(72,vB false),(73,vB false),(74,.tup []),(75,.tup []),(76,.tup []),(77,.tup []),(78,.tup []),(79,.tup []),(80,.tup []),(81,vB false),(82,vB false),(83,.tup []),(84,.tup []),(85,.tup []),(86,.tup []),(87,.tup []),(88,.tup []),(89,.tup []),(90,vB false),(91,vB false),(92,.tup []),(93,.tup []),(94,.tup []),(95,.tup []),(96,.tup []),(97,.tup []),(98,.tup []),(99,vB false),(8,vB false)],l42_167,206⟩) ?_
    refine reg_end rfl (wp_seq (wg [1,2,3,5,7,8] [0,1,2] (rn (wp_seq (wg [5,7,8] [] (rn (wg [0] [] ?_)))))))
    cases h
    exact wp_ret (show fnOut _ _ _ _=_ from by kernel_rfl)
   refine sgz 45 77 (S:=⟨(s42_169 x1 x3)++[(55,vB false),(56,.tup []),(57,.tup []),(58,.tup []),(59,.tup []),(60,.tup []),(61,.tup []),(62,.tup []),(63,vB false),(64,vB false),(65,.tup []),(66,.tup []),(67,.tup []),(68,.tup []),(69,.tup []),(70,.tup []),(71,.tup []),(72,vB false),(73,vB false),(74,.tup []),(75,.tup []),(76,.tup []),(77,.tup []),(78,.tup []),(79,.tup []),(80,.tup []),(81,vB false),(82,vB false),(83,.tup []),(84,.tup []),(85,.tup []),(86,.tup []),(87,.tup []),(88,.tup []),(89,.tup []),(90,vB false),(91,vB false),(92,.tup []),(93,.tup []),(94,.tup []),(95,.tup []),(96,.tup []),(97,.tup []),(98,.tup []),(99,vB false),(8,vB false)],l42_167,206⟩) ?_
   refine reg_end rfl (wp_seq (wg [1,2,3,5,7,8] [0,1,2] (rn (wp_seq (wg [5,7,8] [] (rn (wg [0] [] ?_)))))))
   cases h
   exact wp_ret (show fnOut _ _ _ _=_ from by kernel_rfl)
  refine sgz 56 77 (S:=⟨(s42_169 x1 x3)++[(44,vB false),(45,.tup []),(46,.tup []),(47,.tup []),(48,.tup []),(49,.tup []),(50,.tup []),(51,.tup []),(52,.tup []),(53,.tup []),(54,vB false),(55,vB false),(56,.tup []),(57,.tup []),(58,.tup []),(59,.tup []),(60,.tup []),(61,.tup []),(62,.tup []),(63,vB false),(64,vB false),(65,.tup []),(66,.tup []),(67,.tup []),(68,.tup []),(69,.tup []),(70,.tup []),(71,.tup []),(72,vB false),(73,vB false),(74,.tup []),(75,.tup []),(76,.tup []),(77,.tup []),(78,.tup []),(79,.tup []),(80,.tup []),(81,vB false),(82,vB false),(83,.tup []),(84,.tup []),(85,.tup []),(86,.tup []),(87,.tup []),(88,.tup []),(89,.tup []),(90,vB false),(91,vB false),(92,.tup []),(93,.tup []),(94,.tup []),(95,.tup []),(96,.tup []),(97,.tup []),(98,.tup []),(99,vB false),(8,vB false)],l42_167,206⟩) ?_
  refine reg_end rfl (wp_seq (wg [1,2,3,5,7,8] [0,1,2] (rn (wp_seq (wg [5,7,8] [] (rn (wg [0] [] ?_)))))))
  cases h
  exact wp_ret (show fnOut _ _ _ _=_ from by kernel_rfl)
 refine sgz 67 77 (S:=⟨(s42_169 x1 x3)++[(33,vB false),(34,.tup []),(35,.tup []),(36,.tup []),(37,.tup []),(38,.tup []),(39,.tup []),(40,.tup []),(41,.tup []),(42,.tup []),(43,vB false),(44,vB false),(45,.tup []),(46,.tup []),(47,.tup []),(48,.tup []),(49,.tup []),(50,.tup []),(51,.tup []),(52,.tup []),(53,.tup []),(54,vB false),(55,vB false),(56,.tup []),(57,.tup []),(58,.tup []),(59,.tup []),(60,.tup []),(61,.tup []),(62,.tup []),(63,vB false),(64,vB false),(65,.tup []),(66,.tup []),(67,.tup []),(68,.tup []),(69,.tup []),(70,.tup []),(71,.tup []),(72,vB false),(73,vB false),(74,.tup []),(75,.tup []),(76,.tup []),(77,.tup []),(78,.tup []),(79,.tup []),(80,.tup []),(81,vB false),(82,vB false),(83,.tup []),(84,.tup []),(85,.tup []),(86,.tup []),(87,.tup []),(88,.tup []),(89,.tup []),(90,vB false),(91,vB false),(92,.tup []),(93,.tup []),(94,.tup []),(95,.tup []),(96,.tup []),(97,.tup []),(98,.tup []),(99,vB false),(8,vB false)],l42_167,206⟩) ?_
 refine reg_end rfl (wp_seq (wg [1,2,3,5,7,8] [0,1,2] (rn (wp_seq (wg [5,7,8] [] (rn (wg [0] [] ?_)))))))
 cases h
 exact wp_ret (show fnOut _ _ _ _=_ from by kernel_rfl)
theorem g_slices_Clone_int_int_c_ok (c0:Int) (d0:(List Int)) (x:(List Int)) (h:g_slices_Clone_int_int_c c0 d0=some x):CallOk Tryd.prog 34 [z1 (c0::d0)] (.ret (.ref 0 0 x.length) [oR true 1 eI x]):=by
 refine fn_ok [] Tryd.func34 rfl (by decide +kernel) rfl ?_
 unfold g_slices_Clone_int_int_c at h
 refine wp_eqB (base':=0) (st':=⟨[(0,z1 (c0::d0))],[],8⟩) kr kr ?_
 refine sq (wp_seq (sq (wcF (wp_skip (wp_seq (reg_in (sz 2 2 ?_)))))))
 refine appN (enc:=eI) (m:=(c0::d0)) (w:=1) (bytes:=8) (nr':=true) (fl':=true) (a:=.emp) (b:=z1 (c0::d0)) (rds:=[]) false kr (.inr rfl) (elems_lst (fun _=>rfl)) rfl gE kr h (fun h=>?_)
 refine sz 1 4 (reg_end rfl (wg [2] [0] ?_))
 cases h
 exact wp_ret (show fnOut _ _ _ _=_ from by kernel_rfl)
theorem g_slices_Clone_int_int_e_ok  (x:(List Int)) (h:g_slices_Clone_int_int_e=some x):CallOk Tryd.prog 34 [.emn] (.ret (.ref 0 0 x.length) [oR true 1 eI x]):=by
 refine fn_ok [] Tryd.func34 rfl (by decide +kernel) rfl ?_
 unfold g_slices_Clone_int_int_e at h
 refine wp_eqB (base':=0) (st':=⟨[(0,.emn)],[],8⟩) kr kr ?_
 refine sq (wp_seq (sq (wcF (wp_skip (wp_seq (reg_in (sz 2 2 (sz 1 3 (sz 1 4 ?_)))))))))
 refine reg_end rfl (wg [2] [0] ?_)
 cases h
 exact wp_ret (show fnOut _ _ _ _=_ from by kernel_rfl)
theorem g_slices_Clone_int_int_n_ok  (x:(List Int)) (h:g_slices_Clone_int_int_n=some x):CallOk Tryd.prog 34 [.nils] (.ret (.ref 0 0 x.length) [oR true 1 eI x]):=by
 refine fn_ok [] Tryd.func34 rfl (by decide +kernel) rfl ?_
 unfold g_slices_Clone_int_int_n at h
 refine wp_eqB (base':=0) (st':=⟨[(0,.nils)],[],8⟩) kr kr ?_
 refine sq (wp_seq (sq (wcT (sq (wg [2] [] ?_)))))
 refine wp_wk (wk_nil 2 1 true true gE) ?_
 cases h
 exact wp_ret (show fnOut _ _ _ _=_ from by kernel_rfl)
theorem g_slices_Clone_int_int_ok (p0:(List Int)) (x:(List Int)) (h:g_slices_Clone_int_int p0=some x):CallOk Tryd.prog 34 [z1 p0] (.ret (.ref 0 0 x.length) [oR true 1 eI x]):=by
 cases p0 with
 | cons c0 d0=>exact g_slices_Clone_int_int_c_ok c0 d0 x h
 | nil =>
  cases h1:g_slices_Clone_int_int_n with
  | none=>simp [g_slices_Clone_int_int,h1] at h
  | some y =>
   cases h2:g_slices_Clone_int_int_e with
   | none=>simp [g_slices_Clone_int_int,h1,h2] at h
   | some z =>
    by_cases e:y=z
    ·subst e
     simp [g_slices_Clone_int_int,h1,h2] at h
     subst h
     exact CallOk.nil (l1:=[]) (l2:=[]) (g_slices_Clone_int_int_n_ok y h1) (g_slices_Clone_int_int_e_ok y h2)
    ·simp [g_slices_Clone_int_int,h1,h2,e] at h
theorem g_ref08_Copy_ok (p0:(List Int)) (x:(List Int)) (h:g_ref08_Copy p0=some x):CallOk Tryd.prog 83 [eL true (AV.int .u64) p0] (.ret (.ref 0 0 x.length) [oR true 1 (AV.int .u64) x]):=by
 refine fn_ok [] Tryd.func83 rfl (by decide +kernel) rfl ?_
 unfold g_ref08_Copy at h
 refine wp_eqB (base':=0) (st':=⟨[(0,eL true (AV.int .u64) p0)],[],7⟩) kr kr ?_
 refine sq (sq (wp_seq (reg_in (sz 2 2 ?_))))
 refine appN (enc:=(AV.int .u64)) (m:=p0) (w:=1) (bytes:=8) (nr':=true) (fl':=true) (a:=.nils) (b:=eL true (AV.int .u64) p0) (rds:=[]) false kr (.inl rfl) (elems_lst (fun _=>rfl)) rfl gE kr h (fun h=>?_)
 refine sz 1 4 (reg_end rfl (wg [2] [0] ?_))
 cases h
 exact wp_ret (show fnOut _ _ _ _=_ from by kernel_rfl)
noncomputable abbrev i48_171 (a8:Int) (a6:(Int × Int)):Int:=(zv (BitVec.ofInt (IntKind.bits .u64) a8 ||| BitVec.ofInt (IntKind.bits .u64) (zv (1*2^min (zt (zv (a6.2))) (IntKind.bits .u64)))).toNat)
noncomputable abbrev i48_172 (a10:Int) (a6:(Int × Int)):Int:=(zv (BitVec.ofInt (IntKind.bits .u64) a10 ||| BitVec.ofInt (IntKind.bits .u64) (zv (1*2^min (zt (zv (a6.1))) (IntKind.bits .u64)))).toNat)
noncomputable abbrev e48_173 (p1:(List (Int × Int))):Nat×AV:=(1,eL true (fun x:(Int × Int)=>AV.agg [vI x.1,vI x.2]) p1)
theorem g_ref08_Join_ok (p0:(List Int)) (p1:(List (Int × Int))) (x:(List Int)) (h:g_ref08_Join p0 p1=some x):CallOk Tryd.prog 53 [eL true (AV.int .u64) p0,eL true (fun x:(Int × Int)=>AV.agg [vI x.1,vI x.2]) p1] (.ret (.ref 0 0 x.length) [oR true 1 (AV.int .u64) x]):=by
 refine fn_ok [] Tryd.func53 rfl (by decide +kernel) rfl ?_
 unfold g_ref08_Join at h
 refine wp_eqB (base':=0) (st':=⟨[(0,eL true (AV.int .u64) p0),(e48_173 p1)],[],49⟩) kr kr ?_
 refine sq (wp_seq (reg_in (sz 1 1 ?_)))
 refine callW bodyB_83 (g_ref08_Copy_ok p0) h (fun x1 _ h=>?_)
 refine sz 1 3 (reg_end rfl (wp_seq (sq (wp_block ?_))))
 refine wwh h (fun s3=>⟨[(0,.ref 0 0 s3.2.length),(e48_173 p1),(5,vI s3.1)],[oR true 1 (AV.int .u64) s3.2],49⟩) (fun v out=>out=.go (.exit 0) ⟨[(0,.ref 0 0 v.length)],[oR true 1 (AV.int .u64) v],49⟩) (wk_gc (live:=[0,1,5]) (keep:=[0]) kr) ?_ ?_
 ·intro s3 o h
  unfold g_ref08_Join_b0 at h
  refine wp_seq (wp_seq (reg_in (sz 2 2 ?_)))
  refine lenL (enc:=(fun x:(Int × Int)=>AV.agg [vI x.1,vI x.2])) (l:=p1) (fl:=true) kr gE ?_
  refine sz 1 4 (reg_end rfl ?_)
  refine wb [13] h (fun q5 h=>?_) (fun q5 h=>?_)
  ·refine wcT (wp_skip (wp_seq (wp_block (wp_seq (rga hfol (sy 2 2 ?_))))))
   refine bind_elim h (fun a6 q7 h=>?_)
   refine idxL' (enc:=(fun x:(Int × Int)=>AV.agg [vI x.1,vI x.2])) (l:=p1) (n:=s3.1) (fl:=true) (w:=2) (a:=a6) kr rfl gE q7 ?_
   refine sy 4 7 ?_
   refine idxL' (enc:=(fun x:(Int × Int)=>AV.agg [vI x.1,vI x.2])) (l:=p1) (n:=s3.1) (fl:=true) (w:=2) (a:=a6) kr rfl gE q7 ?_
   refine sy 4 12 (rgd (wp_seq ?_))
   refine wgc [0,1,5,6,7] [0] ⟨[(0,.ref 0 0 s3.2.length),(e48_173 p1),(5,vI s3.1),(6,vI a6.1),(7,vI a6.2)],[oR true 1 (AV.int .u64) s3.2],49⟩ ?_
   refine reg_in (sz 4 4 ?_)
   refine bind_elim h (fun a8 q9 h=>?_)
   refine idxR' (enc:=(AV.int .u64)) (l:=s3.2) (n:=a6.1) (w:=1) (ob:=0) (ro:=false) (nr:=true) (fl:=true) (a:=a8) kr kr gE q9 ?_
   refine loadR (enc:=(AV.int .u64)) (l:=s3.2) (n:=a6.1) (w:=1) (ob:=0) (c:=0) (bx:=false) (ro:=false) (nr:=true) (fl:=true) (a:=a8) kr kr q9 gE ?_
   refine sz 2 8 ?_
   refine shlR (k:=.u64) (k':=.u64) (a:=1) (b:=zv (a6.2)) kr gE h (fun h=>?_)
   refine sz 1 10 ?_
   refine idxR' (enc:=(AV.int .u64)) (l:=s3.2) (n:=a6.1) (w:=1) (ob:=0) (ro:=false) (nr:=true) (fl:=true) (a:=a8) kr kr gE q9 ?_
   refine storeR (enc:=(AV.int .u64)) (l:=s3.2) (n:=a6.1) (ob:=0) (w:=1) (bx:=false) (nr:=true) (fl:=true) (c:=0) (a:=a8) (a':=zv (BitVec.ofInt (IntKind.bits .u64) a8 ||| BitVec.ofInt (IntKind.bits .u64) (zv (1*2^min (zt (zv (a6.2))) (IntKind.bits .u64)))).toNat) (v:=.int .u64 (i48_171 a8 a6)) false kr kr q9 kr rfl kr gE kr ?_
   refine rl [0,26,28] (n:=s3.2.length) (m:=(List.set s3.2 (zt a6.1) (i48_171 a8 a6)).length) (by simp only [List.length_set]) ?_
   refine reg_end rfl (wg [0,1,5,6,7] [0] (reg_in (sz 4 4 ?_)))
   refine bind_elim h (fun a10 q11 h=>?_)
   refine idxR' (enc:=(AV.int .u64)) (l:=(List.set s3.2 (zt a6.1) (i48_171 a8 a6))) (n:=a6.2) (w:=1) (ob:=0) (ro:=false) (nr:=true) (fl:=true) (a:=a10) kr kr gE q11 ?_
   refine loadR (enc:=(AV.int .u64)) (l:=(List.set s3.2 (zt a6.1) (i48_171 a8 a6))) (n:=a6.2) (w:=1) (ob:=0) (c:=0) (bx:=false) (ro:=false) (nr:=true) (fl:=true) (a:=a10) kr kr q11 gE ?_
   refine sz 2 8 ?_
   refine shlR (k:=.u64) (k':=.u64) (a:=1) (b:=zv (a6.1)) kr gE h (fun h=>?_)
   refine sz 1 10 ?_
   refine idxR' (enc:=(AV.int .u64)) (l:=(List.set s3.2 (zt a6.1) (i48_171 a8 a6))) (n:=a6.2) (w:=1) (ob:=0) (ro:=false) (nr:=true) (fl:=true) (a:=a10) kr kr gE q11 ?_
   refine storeR (enc:=(AV.int .u64)) (l:=(List.set s3.2 (zt a6.1) (i48_171 a8 a6))) (n:=a6.2) (ob:=0) (w:=1) (bx:=false) (nr:=true) (fl:=true) (c:=0) (a:=a10) (a':=zv (BitVec.ofInt (IntKind.bits .u64) a10 ||| BitVec.ofInt (IntKind.bits .u64) (zv (1*2^min (zt (zv (a6.1))) (IntKind.bits .u64)))).toNat) (v:=.int .u64 (i48_172 a10 a6)) false kr kr q11 kr rfl kr gE kr ?_
   refine rl [0,37,39] (n:=(List.set s3.2 (zt a6.1) (i48_171 a8 a6)).length) (m:=(List.set (List.set s3.2 (zt a6.1) (i48_171 a8 a6)) (zt a6.2) (i48_172 a10 a6)).length) (by simp only [List.length_set]) ?_
   refine reg_end rfl ?_
   refine wgc [0,1,5] [0] ⟨[(0,.ref 0 0 ((List.set (List.set s3.2 (zt a6.1) (i48_171 a8 a6)) (zt a6.2) (i48_172 a10 a6)).length)),(e48_173 p1),(5,vI s3.1)],[oR true 1 (AV.int .u64) (List.set (List.set s3.2 (zt a6.1) (i48_171 a8 a6)) (zt a6.2) (i48_172 a10 a6))],49⟩ ?_
   refine rn ?_
   cases h
   exact ⟨_,rfl,(wk_gc (live:=[0,1,5]) (keep:=[0]) kr)⟩
  refine wcF (wg [0] [0] ?_)
  refine wp_exit ?_
  cases h
  exact ⟨kr,rfl⟩
 intro x15 h out hx
 subst hx
 refine sq (wg [4] [0] ?_)
 cases h
 exact wp_ret (show fnOut _ _ _ _=_ from by kernel_rfl)
noncomputable abbrev i49_174 (p0:Tharuspexref08_Draft):Int:=(zw (1+(zw (Int.tmod p0.N 7))))
noncomputable abbrev o49_175 (p0:Tharuspexref08_Draft):AObj:=oX true false 3 (.agg [.int .u8 p0.N,eL true (fun x:(Int × Int)=>AV.agg [.int .u8 x.1,.int .u8 x.2]) p0.E,eL true (AV.int .u8) p0.Order])
theorem g_ref08_Draft_Graph_ok (p0:Tharuspexref08_Draft) (x:(List Int)) (h:g_ref08_Draft_Graph p0=some x):CallOk Tryd.prog 33 [.agg [.int .u8 p0.N,eL true (fun x:(Int × Int)=>AV.agg [.int .u8 x.1,.int .u8 x.2]) p0.E,eL true (AV.int .u8) p0.Order]] (.ret (.ref 0 0 x.length) [oR true 1 (AV.int .u64) x]):=by
 refine fn_ok [] Tryd.func33 rfl (by decide +kernel) rfl ?_
 unfold g_ref08_Draft_Graph at h
 refine wp_eqB (base':=0) (st':=⟨[(0,.agg [.int .u8 p0.N,eL true (fun x:(Int × Int)=>AV.agg [.int .u8 x.1,.int .u8 x.2]) p0.E,eL true (AV.int .u8) p0.Order])],[],54⟩) kr kr ?_
 refine wp_seq (reg_in ?_)
 refine sgL false [] [] false gE ?_
 refine sz 1 2 (reg_end rfl (sq (wp_seq (wg [1,3] [0] (reg_in (sz 1 1 ?_))))))
 refine mkL (enc:=(AV.int .u64)) (z:=(0:Int)) (z0:=.int .u64 0) (n:=zw (1+(zw (Int.tmod p0.N 7)))) (m:=zw (1+(zw (Int.tmod p0.N 7)))) (w:=1) (bytes:=8) [] true kr rfl gE kr h (fun h=>?_)
 refine sz 1 3 (reg_end rfl (wp_seq (sq (wp_block ?_))))
 refine wwh h (fun s1=>⟨[(1,.ptr 0 0 0),(3,vI (i49_174 p0)),(4,.ref 1 0 s1.2.length),(5,vI s1.1)],[(o49_175 p0),oR true 1 (AV.int .u64) s1.2],54⟩) (fun v out=>out=.go (.exit 0) ⟨[(4,.ref 0 0 v.length)],[oR true 1 (AV.int .u64) v],54⟩) (wk_gc (live:=[1,3,4,5]) (keep:=[0,1]) kr) ?_ ?_
 ·intro s1 o h
  unfold g_ref08_Draft_Graph_b0 at h
  refine wp_seq (wp_seq (reg_in (sz 3 3 ?_)))
  refine lenL (enc:=(fun x:(Int × Int)=>AV.agg [.int .u8 x.1,.int .u8 x.2])) (l:=p0.E) (fl:=true) kr gE ?_
  refine sz 2 6 (rwg [1,3,4,5,20] [0,1] ?_)
  refine rb [20] h (fun q3 h=>?_) (fun q3 h=>?_)
  ·refine sz 3 9 (reg_end rfl ?_)
   refine wb [22,23] h (fun q5 h=>?_) (fun q5 h=>?_)
   ·refine wcT (wp_skip (wp_seq (wp_block (wp_seq (rga hfol (sy 3 3 ?_))))))
    refine bind_elim h (fun a6 q7 h=>?_)
    refine idxL' (enc:=(fun x:(Int × Int)=>AV.agg [.int .u8 x.1,.int .u8 x.2])) (l:=p0.E) (n:=s1.1) (fl:=true) (w:=2) (a:=a6) kr rfl gE q7 ?_
    refine sy 4 8 ?_
    refine remR (k:=.i64) (a:=zw (a6.1)) (b:=zw (1+(zw (Int.tmod p0.N 7)))) kr gE h (fun h=>?_)
    refine sy 3 12 ?_
    refine idxL' (enc:=(fun x:(Int × Int)=>AV.agg [.int .u8 x.1,.int .u8 x.2])) (l:=p0.E) (n:=s1.1) (fl:=true) (w:=2) (a:=a6) kr rfl gE q7 ?_
    refine sgy 4 17 (S:=⟨[(1,.ptr 0 0 0),(3,vI (i49_174 p0)),(4,.ref 1 0 s1.2.length),(5,vI s1.1),(20,vB true),(21,vI s1.1),(22,vB true),(23,vB true),(26,.ptr 0 0 1),(27,eL true (fun x:(Int × Int)=>AV.agg [.int .u8 x.1,.int .u8 x.2]) p0.E),(28,vI s1.1),(29,.fz [.int .u8 a6.1,.int .u8 a6.2]),(30,.fz [.int .u8 a6.1,.int .u8 a6.2]),(31,.int .u8 a6.1),(32,vI (zw (a6.1))),(33,vI (i49_174 p0)),(34,vI (Int.tmod (zw (a6.1)) (i49_174 p0))),(35,.ptr 0 0 1),(36,eL true (fun x:(Int × Int)=>AV.agg [.int .u8 x.1,.int .u8 x.2]) p0.E),(37,vI s1.1),(38,.fz [.int .u8 a6.1,.int .u8 a6.2]),(39,.fz [.int .u8 a6.2]),(40,.int .u8 a6.2),(41,vI (zw (a6.2))),(42,vI (i49_174 p0))],[(o49_175 p0),oR true 1 (AV.int .u64) s1.2],54⟩) ?_
    refine remR (k:=.i64) (a:=zw (a6.2)) (b:=zw (1+(zw (Int.tmod p0.N 7)))) kr gE h (fun h=>?_)
    refine sy 2 20 (rgd (wp_seq (wg [1,3,4,5,6,7] [0,1] (rn ?_))))
    refine wb [46] h (fun q9 h=>?_) (fun q9 h=>?_)
    ·refine wcT (reg_in (sz 4 4 ?_))
     refine sgL false [] [] true gE ?_
     refine callR (as0:=[.ref 1 0 s1.2.length,.ref 2 0 1]) (ids:=[1,2]) kr bodyB_53 (msnap_cons (snap_full (w:=1) (bx:=false) (ro:=false) (enc:=(AV.int .u64)) (l:=s1.2) (fl:=true) kr) (msnap_cons (show snap _ _ _=some (_,[2]) from kr) msnap_nil (by rfl)) (by rfl)) (fun x10 q11=>g_ref08_Join_ok s1.2 [(Int.tmod (zw (a6.1)) (i49_174 p0),Int.tmod (zw (a6.2)) (i49_174 p0))] x10 q11) gF h (fun x10 q11 h=>?_)
     refine sz 1 7 (reg_end rfl ?_)
     refine wgc [1,3,4,5] [0,3] ⟨[(1,.ptr 0 0 0),(3,vI (i49_174 p0)),(4,.ref 1 0 x10.length),(5,vI s1.1)],[(o49_175 p0),oR true 1 (AV.int .u64) x10],54⟩ ?_
     refine rn ?_
     cases h
     exact ⟨_,rfl,(wk_gc (live:=[1,3,4,5]) (keep:=[0,1]) kr)⟩
    refine wcF (wp_skip (wg [1,3,4,5] [0,1] (rn ?_)))
    cases h
    exact ⟨_,rfl,(wk_gc (live:=[1,3,4,5]) (keep:=[0,1]) kr)⟩
   refine wcF (wg [4] [1] ?_)
   refine wp_exit ?_
   cases h
   exact ⟨kr,rfl⟩
  refine sz 3 9 (reg_end rfl (wcF (wg [4] [1] ?_)))
  refine wp_exit ?_
  cases h
  exact ⟨kr,rfl⟩
 intro x13 h out hx
 subst hx
 refine sq (wg [2] [0] ?_)
 cases h
 exact wp_ret (show fnOut _ _ _ _=_ from by kernel_rfl)
theorem g_slices_Compare_int_int_ok (p0:(List Int)) (p1:(List Int)) (x:Int) (h:g_slices_Compare_int_int p0 p1=some x):CallOk Tryd.prog 39 [z1 p0,z1 p1] (.ret (vI x) []):=by
 refine fn_ok [] Tryd.func39 rfl (by decide +kernel) rfl ?_
 unfold g_slices_Compare_int_int at h
 refine wp_eqB (base':=0) (st':=⟨[(0,z1 p0),(1,z1 p1)],[],36⟩) kr kr ?_
 refine sq (wp_seq (wp_seq (reg_in (sz 1 1 ?_))))
 refine lenL (enc:=eI) (l:=p0) (fl:=true) kr gE ?_
 refine sz 1 3 (reg_end rfl (wp_block ?_))
 refine wwh h (fun s1=>⟨[(0,z1 p0),(1,z1 p1),(9,z1 p0),(10,vI (zn p0)),(11,vI s1)],[],36⟩) (fun x out=>out=match x with | .inl v=>.go (.ret) ⟨[(4,vI v)],[],36⟩ | .inr v=>.go (.exit 0) ⟨[(0,z1 p0),(1,z1 p1)],[],36⟩) (wk_gc (live:=[0,1,9,10,11]) (keep:=[]) kr) ?_ ?_
 ·intro s1 o h
  unfold g_slices_Compare_int_int_b0 at h
  refine sq (wp_seq ?_)
  refine wb [12] h (fun q3 h=>?_) (fun q3 h=>?_)
  ·refine wcT (wp_skip (wp_seq (wp_block (wp_seq (reg_in (sz 1 1 ?_))))))
   refine bind_elim h (fun a4 q5 h=>?_)
   refine idxL' (enc:=eI) (l:=p0) (n:=s1) (fl:=true) (w:=1) (a:=a4) kr rfl gE q5 ?_
   refine sz 3 5 (reg_end rfl (wp_seq (wp_seq (reg_in (sz 2 2 ?_)))))
   refine lenL (enc:=eI) (l:=p1) (fl:=true) kr gE ?_
   refine sz 1 4 (reg_end rfl ?_)
   refine wbz h (fun q7 h=>?_) (fun q7 h=>?_)
   ·refine wp_seq ?_
    refine wgc [] [] ⟨[],[],36⟩ ?_
    refine rn (wg [4] [] ?_)
    refine wp_ret ?_
    cases h
    exact ⟨kr,rfl⟩
   refine wp_skip (wp_seq ?_)
   refine wgc [0,1,9,10,11,5,6] [] ⟨[(0,z1 p0),(1,z1 p1),(9,z1 p0),(10,vI (zn p0)),(11,vI s1),(5,vI s1),(6,vI a4)],[],36⟩ ?_
   refine reg_in (sz 2 2 ?_)
   refine bind_elim h (fun a8 q9 h=>?_)
   refine idxL' (enc:=eI) (l:=p1) (n:=s1) (fl:=true) (w:=1) (a:=a8) kr rfl gE q9 ?_
   refine sz 2 5 (reg_end rfl (wp_seq (wg [0,1,9,10,11,6,7] [] (reg_in (sz 2 2 ?_)))))
   refine callW bodyB_52 (g_cmp_Compare_int_ok a4 a8) h (fun x10 _ h=>?_)
   refine sz 1 4 (reg_end rfl (wp_seq (wg [0,1,9,10,11,8] [] (rn ?_))))
   refine wb [28] h (fun q13 h=>?_) (fun q13 h=>?_)
   ·refine wcT (wp_seq ?_)
    refine wgc [8] [] ⟨[(8,vI x10)],[],36⟩ ?_
    refine rn (wg [4] [] ?_)
    refine wp_ret ?_
    cases h
    exact ⟨kr,rfl⟩
   refine wcF (wp_skip (rn ?_))
   cases h
   exact ⟨_,rfl,(wk_gc (live:=[0,1,9,10,11]) (keep:=[]) kr)⟩
  refine wcF (wg [0,1] [] ?_)
  refine wp_exit ?_
  cases h
  exact ⟨kr,rfl⟩
 intro x14 h out hx
 subst hx
 rcases x14 with x15 | x16
 ·dsimp only at h ⊢
  cases h
  show fnOut _ _ _ _=_
  kernel_rfl
 ·dsimp only at h ⊢
  refine wp_seq (wp_seq (reg_in (sz 1 1 ?_)))
  refine lenL (enc:=eI) (l:=p0) (fl:=true) kr gE ?_
  refine sz 1 3 ?_
  refine lenL (enc:=eI) (l:=p1) (fl:=true) kr gE ?_
  refine sz 1 5 (reg_end rfl ?_)
  refine wbz h (fun q18 h=>?_) (fun q18 h=>?_)
  ·refine wp_seq (wg [] [] (rn (wg [4] [] ?_)))
   cases h
   exact wp_ret (show fnOut _ _ _ _=_ from by kernel_rfl)
  refine wp_skip (wp_seq (wg [] [] (rn (wg [4] [] ?_))))
  cases h
  exact wp_ret (show fnOut _ _ _ _=_ from by kernel_rfl)
theorem g_slices_Index_int_int_ok (p0:(List Int)) (p1:Int) (x:Int) (h:g_slices_Index_int_int p0 p1=some x):CallOk Tryd.prog 87 [z1 p0,vI p1] (.ret (vI x) []):=by
 refine fn_ok [] Tryd.func87 rfl (by decide +kernel) rfl ?_
 unfold g_slices_Index_int_int at h
 refine wp_eqB (base':=0) (st':=⟨[(0,z1 p0),(1,vI p1)],[],19⟩) kr kr ?_
 refine sq (wp_seq (wp_seq (reg_in (sz 1 1 ?_))))
 refine lenL (enc:=eI) (l:=p0) (fl:=true) kr gE ?_
 refine sz 1 3 (reg_end rfl (wp_block ?_))
 refine wwh h (fun s1=>⟨[(0,z1 p0),(1,vI p1),(7,vI (zn p0)),(8,vI s1)],[],19⟩) (fun x out=>out=match x with | .inl v=>.go (.ret) ⟨[(4,vI v)],[],19⟩ | .inr v=>.go (.exit 0) ⟨[],[],19⟩) (wk_gc (live:=[0,1,7,8]) (keep:=[]) kr) ?_ ?_
 ·intro s1 o h
  unfold g_slices_Index_int_int_b0 at h
  refine sq (wp_seq ?_)
  refine wb [9] h (fun q3 h=>?_) (fun q3 h=>?_)
  ·refine wcT (wp_skip (wp_seq (wp_block (sq (wp_seq (reg_in (sz 3 3 ?_)))))))
   refine bind_elim h (fun a4 q5 h=>?_)
   refine idxL' (enc:=eI) (l:=p0) (n:=s1) (fl:=true) (w:=1) (a:=a4) kr rfl gE q5 ?_
   refine sz 2 6 (reg_end rfl ?_)
   refine wbz h (fun q7 h=>?_) (fun q7 h=>?_)
   ·refine wp_seq ?_
    refine wgc [5] [] ⟨[(5,vI s1)],[],19⟩ ?_
    refine rn (wg [4] [] ?_)
    refine wp_ret ?_
    cases h
    exact ⟨kr,rfl⟩
   refine wp_skip ?_
   refine wgc [0,1,7,8] [] ⟨[(0,z1 p0),(1,vI p1),(7,vI (zn p0)),(8,vI s1)],[],19⟩ ?_
   refine rn ?_
   cases h
   exact ⟨_,rfl,(wk_gc (live:=[0,1,7,8]) (keep:=[]) kr)⟩
  refine wcF (wg [] [] ?_)
  refine wp_exit ?_
  cases h
  exact ⟨kr,rfl⟩
 intro x8 h out hx
 subst hx
 rcases x8 with x9 | x10
 ·dsimp only at h ⊢
  cases h
  show fnOut _ _ _ _=_
  kernel_rfl
 ·dsimp only at h ⊢
  refine sq (wg [4] [] ?_)
  cases h
  exact wp_ret (show fnOut _ _ _ _=_ from by kernel_rfl)
theorem g_slices_Contains_int_int_ok (p0:(List Int)) (p1:Int) (x:Bool) (h:g_slices_Contains_int_int p0 p1=some x):CallOk Tryd.prog 77 [z1 p0,vI p1] (.ret (vB x) []):=by
 refine fn_ok [] Tryd.func77 rfl (by decide +kernel) rfl ?_
 unfold g_slices_Contains_int_int at h
 refine wp_eqB (base':=0) (st':=⟨[(0,z1 p0),(1,vI p1)],[],9⟩) kr kr ?_
 refine sq (wp_seq (reg_in (sz 2 2 ?_)))
 refine callW bodyB_87 (g_slices_Index_int_int_ok p0 p1) h (fun x1 _ h=>?_)
 refine sz 2 5 (reg_end rfl (wg [4] [] ?_))
 cases h
 exact wp_ret (show fnOut _ _ _ _=_ from by kernel_rfl)
noncomputable abbrev o53_176 (x5:(List Int)):AObj:=oX false false 1 (.ref 3 0 x5.length)
noncomputable abbrev o53_177 (x7:((List Int) × Int × Int)):AObj:=oX false false 1 (.ref 4 0 x7.1.length)
noncomputable abbrev o53_178 (x7:((List Int) × Int × Int)):AObj:=oX true true 1 (vI x7.2.1)
noncomputable abbrev o53_179 (x5:(List Int)):AObj:=oR true 1 (AV.int .u64) x5
noncomputable abbrev o53_180 (x7:((List Int) × Int × Int)):AObj:=oR true 1 eI x7.1
noncomputable abbrev o53_181:AObj:=oX false false 1 (.fn (.func 76) [] [.ptr 6 0 0,.ptr 7 0 0,.ptr 5 0 0])
noncomputable abbrev o53_182 (x5:(List Int)):AObj:=oX true true 1 (vI (zn x5))
noncomputable abbrev o53_183:AObj:=oX false false 1 (.fn (.func 43) [] [.ptr 0 0 0,.ptr 2 0 0,.ptr 1 0 0])
noncomputable abbrev e53_184:Nat×AV:=(11,.fn (.func 43) [] [.ptr 0 0 0,.ptr 2 0 0,.ptr 1 0 0])
noncomputable abbrev e53_185:Nat×AV:=(23,.fn (.func 76) [] [.ptr 6 0 0,.ptr 7 0 0,.ptr 5 0 0])
noncomputable abbrev l53_186 (x5:(List Int)) (x7:((List Int) × Int × Int)):List AObj:=[(o53_176 x5),(o53_177 x7),(o53_178 x7),(o53_179 x5),(o53_180 x7),o53_181,(o53_182 x5),o53_183]
noncomputable abbrev l53_187 (x5:(List Int)) (x7:((List Int) × Int × Int)):List AObj:=[(o53_176 x5),(o53_177 x7),(o53_178 x7),(o53_179 x5),(o53_180 x7)]
noncomputable abbrev s53_188 (s19 x5:(List Int)) (s34:Int) (x37:Bool) (x41:(List Int)):List (Nat×AV):=[(0,z1 s19),(3,.ptr 5 0 0),(14,vI (zn x5)),(15,vI s34),(16,vB true),(17,vI s34),(6,vI s34),(18,z1 s19),(19,vI s34),(20,vB x37),(21,vB true),(22,vB true),e53_185,(24,z1 s19),(25,.ref 8 0 x41.length),(26,vI s34),(27,.ref 9 0 1)]
noncomputable abbrev s53_189 (x7:((List Int) × Int × Int)) (x5:(List Int)):List (Nat×AV):=[(3,.ptr 0 0 0),(4,.ptr 1 0 0),(5,.ptr 2 0 0),(6,vI x7.2.2),(21,vI x7.2.2),(22,vB false),(23,vB false),(24,.ref 4 0 x7.1.length),(25,vI (zn x7.1)),(26,.ref 3 0 x5.length),(27,vI (zn x5)),(28,vB false),(29,vB false),(30,vB false),(31,vI x7.2.1),(32,.fn (.func 72) [] [.ptr 5 0 0])]
noncomputable abbrev u53_190 (x5:(List Int)) (x7:((List Int) × Int × Int)):St:=⟨[(5,vB true)],(l53_186 x5 x7),33⟩
noncomputable abbrev u53_191 (x5:(List Int)) (x7:((List Int) × Int × Int)):St:=⟨[(5,vB false)],(l53_186 x5 x7),33⟩
theorem g_law08_OrderLeast_ok (p0:Tharuspexref08_Draft) (x:Bool) (h:g_law08_OrderLeast p0=some x):CallOk Tryd.prog 10 [.agg [.int .u8 p0.N,eL true (fun x:(Int × Int)=>AV.agg [.int .u8 x.1,.int .u8 x.2]) p0.E,eL true (AV.int .u8) p0.Order]] (.ret (vB x) []):=by
 refine fn_ok [] Tryd.func10 rfl (by decide +kernel) rfl ?_
 unfold g_law08_OrderLeast at h
 refine wp_eqB (base':=0) (st':=⟨[(0,.agg [.int .u8 p0.N,eL true (fun x:(Int × Int)=>AV.agg [.int .u8 x.1,.int .u8 x.2]) p0.E,eL true (AV.int .u8) p0.Order])],[],45⟩) kr kr ?_
 refine wp_seq (reg_in ?_)
 refine sgL false [] [] false gE ?_
 refine sz 1 2 (reg_end rfl (wp_seq (wp_seq (reg_in ?_))))
 refine callW bodyB_11 (g_law08_works_ok ) h (fun x1 _ h=>?_)
 refine sz 1 2 (reg_end rfl ?_)
 refine wb [8] h (fun q4 h=>?_) (fun q4 h=>?_)
 ·refine wcT (wp_seq (wg [] [] (rn ?_)))
  refine wgc [2] [] ⟨[(2,vB false)],[],45⟩ ?_
  cases h
  exact wp_ret (show fnOut _ _ _ _=_ from by kernel_rfl)
 refine wcF (wp_skip (sq (wp_seq ?_)))
 refine wgc [1] [0] ⟨[(1,.ptr 0 0 0)],[oX true false 3 (.agg [.int .u8 (Int.tmod p0.N 5),eL true (fun x:(Int × Int)=>AV.agg [.int .u8 x.1,.int .u8 x.2]) p0.E,eL true (AV.int .u8) p0.Order])],45⟩ ?_
 refine reg_in (sz 1 1 ?_)
 refine callW bodyB_33 (g_ref08_Draft_Graph_ok (Tharuspexref08_Draft.mk (Int.tmod p0.N 5) p0.E p0.Order)) h (fun x5 _ h=>?_)
 refine sgL false [] [] false gE ?_
 refine sz 1 4 (reg_end rfl (wp_seq (reg_in (sz 1 1 ?_))))
 refine callR (as0:=[.ref 1 0 x5.length]) (ids:=[1]) kr bodyB_31 (msnap_cons (snap_full (w:=1) (bx:=false) (ro:=false) (enc:=(AV.int .u64)) (l:=x5) (fl:=true) kr) msnap_nil (by rfl)) (fun x7 q8=>g_order_Best_ok x5 x7 q8) gF h (fun x7 q8 h=>?_)
 refine sz 4 6 ?_
 refine sgL false [] [] false gE ?_
 refine sz 4 11 (reg_end rfl (wp_seq (wp_seq ?_)))
 refine wgc [3,4,5,6] [2,4,5,1,3] ⟨[(3,.ptr 0 0 0),(4,.ptr 1 0 0),(5,.ptr 2 0 0),(6,vI x7.2.2)],(l53_187 x5 x7),45⟩ ?_
 refine rga hfol (sy 3 3 ?_)
 refine rb [22,23] h (fun q10 h=>?_) (fun q10 h=>?_)
 ·refine sy 17 20 (rgd (wcT (wp_seq ?_)))
  refine wgc [] [] ⟨[],[],45⟩ ?_
  refine rn (wg [2] [] ?_)
  cases h
  exact wp_ret (show fnOut _ _ _ _=_ from by kernel_rfl)
 refine sy 7 10 ?_
 refine rb [28,29,30] h (fun q12 h=>?_) (fun q12 h=>?_)
 ·refine sy 10 20 (rgd (wcT (wp_seq ?_)))
  refine wgc [] [] ⟨[],[],45⟩ ?_
  refine rn (wg [2] [] ?_)
  cases h
  exact wp_ret (show fnOut _ _ _ _=_ from by kernel_rfl)
 refine sy 1 11 ?_
 refine inlN (f:=36) (fn:=Tryd.f36) (as0:=[vI x7.2.1]) kr kr Tryd.func36 rfl (by decide +kernel) rfl ?_
 refine wp_eqB (base':=5) (st':=⟨[(0,vI x7.2.1)],[.dead,.dead,.dead,.dead,.dead],4⟩) kr kr ?_
 refine sq (sq (wg [2] [5] ?_))
 refine wp_ret ?_
 refine ⟨⟨(s53_189 x7 x5),(l53_187 x5 x7)++[(o53_178 x7)],45⟩,by as_aux_lemma=>kernel_rfl,?_⟩
 refine sy 2 14 ?_
 refine callR (as0:=[.ref 3 0 x5.length,.ref 4 0 x7.1.length]) (ids:=[3,4]) kr bodyB_17 (msnap_cons (snap_full (w:=1) (bx:=false) (ro:=false) (enc:=(AV.int .u64)) (l:=x5) (fl:=true) kr) (msnap_cons (snap_full (w:=1) (bx:=false) (ro:=false) (enc:=eI) (l:=x7.1) (fl:=true) kr) msnap_nil (by rfl)) (by rfl)) (fun x13 q14=>g_order_Width_ok x5 x7.1 x13 q14) gF h (fun x13 q14 h=>?_)
 refine sgy 2 17 (S:=⟨(s53_189 x7 x5)++[(33,.ref 3 0 x5.length),(34,.ref 4 0 x7.1.length),(35,.tup [vI x13.1,vI x13.2]),(36,vI x13.1),(37,vI x13.2)],(l53_187 x5 x7)++[(o53_178 x7)],45⟩) ?_
 refine callR (as0:=[vI x13.1,vI x13.2,.ptr 5 0 0]) (ids:=[5]) kr bodyB_72 (msnap_cons rfl (msnap_cons rfl (msnap_cons (snap_ptr rfl (msnap_cons rfl msnap_nil (by rfl)) (by rfl) (by rfl)) msnap_nil (by rfl)) (by rfl)) (by rfl)) (fun x15 q16=>g_law08_is_int_1_k2_ok x13.1 x13.2 x7.2.1 x15 q16) gF h (fun x15 q16 h=>?_)
 refine sy 2 20 (rgd ?_)
 refine wbz h (fun q18 h=>?_) (fun q18 h=>?_)
 ·refine wp_seq (wg [] [] (rn (wg [2] [] ?_)))
  cases h
  exact wp_ret (show fnOut _ _ _ _=_ from by kernel_rfl)
 refine wp_skip (wp_seq (wg [3,4,5] [0,1,2,3,4] (reg_in (sz 3 3 ?_))))
 refine inlR (f:=42) (fn:=Tryd.f42) (as0:=[vI (zn x5),.fn (.func 43) [] [.ptr 0 0 0,.ptr 2 0 0,.ptr 1 0 0]]) kr Tryd.func42 rfl (by decide +kernel) rfl ?_
 refine wp_eqB (base':=5) (st':=⟨[(0,vI (zn x5)),(1,.fn (.func 43) [] [.ptr 0 0 0,.ptr 2 0 0,.ptr 1 0 0])],(l53_187 x5 x7),9⟩) kr kr ?_
 refine wp_seq (reg_in (sz 1 1 ?_))
 refine sgL false [] [] false gE ?_
 refine sz 1 3 (reg_end rfl (wp_seq (reg_in ?_)))
 refine sgL false [] [] false gE ?_
 refine reg_end rfl (sq (wp_seq (wg [5] [7,5,6] (reg_in ?_))))
 refine sgz 1 1 (S:=⟨[(5,.ptr 5 0 0),(7,.fn (.func 76) [] [.ptr 6 0 0,.ptr 7 0 0,.ptr 5 0 0])],(l53_186 x5 x7),9⟩) ?_
 refine recRK (f:=76) (fn:=Tryd.f76) (as0:=[.nils,.ptr 6 0 0,.ptr 7 0 0,.ptr 5 0 0]) (N:=8) (I:=fun s19=>⟨[(0,z1 s19),(1,.ptr 6 0 0),(2,.ptr 7 0 0),(3,.ptr 5 0 0)],(l53_186 x5 x7),33⟩) (E:=fun v=>⟨[(5,vB v)],(l53_186 x5 x7),33⟩) (F:=(g_law08_OrderLeast_r1 x5 x7)) ([]:(List Int)) kr Tryd.func76 rfl (by decide +kernel) rfl (wk_slotK 0 [.lst true] kr) rfl h ?_ (fun x49 h=>?_)
 ·intro r20 i21 s19 y50 h
  unfold g_law08_OrderLeast_r1 at h
  refine wp_post ?_
  refine sq (wp_seq (wp_seq (reg_in (sz 1 1 ?_))))
  refine lenL (enc:=eI) (l:=s19) (fl:=true) kr gE ?_
  refine sz 2 4 (reg_end rfl ?_)
  refine wbz h (fun q23 h=>?_) (fun q23 h=>?_)
  ·refine wp_seq (wg [0,2] [] (reg_in (sz 2 2 ?_)))
   refine inlR (f:=43) (fn:=Tryd.f43) (as0:=[z1 s19,.ptr 0 0 0,.ptr 2 0 0,.ptr 1 0 0]) kr Tryd.func43 rfl (by decide +kernel) rfl ?_
   refine wp_eqB (base':=8) (st':=⟨[(0,z1 s19),(1,.ptr 0 0 0),(2,.ptr 2 0 0),(3,.ptr 1 0 0)],(l53_186 x5 x7),32⟩) kr kr ?_
   refine sq (wp_seq (reg_in (sz 2 2 ?_)))
   refine callR (as0:=[.ref 3 0 x5.length,z1 s19]) (ids:=[3]) kr bodyB_17 (msnap_cons (snap_full (w:=1) (bx:=false) (ro:=false) (enc:=(AV.int .u64)) (l:=x5) (fl:=true) kr) (msnap_cons rfl msnap_nil (by rfl)) (by rfl)) (fun x24 q25=>g_order_Width_ok x5 s19 x24 q25) gF h (fun x24 q25 h=>?_)
   refine sz 5 8 (reg_end rfl (wp_seq (wg [0,2,3,6,7] [] (reg_in (sz 3 3 ?_)))))
   refine rb [15,16] h (fun q27 h=>?_) (fun q27 h=>?_)
   ·refine sz 4 7 ?_
    refine rw_wk (wk_gc (live:=[0,2,3,6,16,20]) (keep:=[]) (st':=⟨[(0,z1 s19),(2,.ptr 2 0 0),(3,.ptr 1 0 0),(6,vI x24.1),(16,vB true),(20,vB (decide (x24.1 > x7.2.1)))],(l53_186 x5 x7),32⟩) kr) ?_
    refine rb [20] h (fun q29 h=>?_) (fun q29 h=>?_)
    ·refine sz 12 19 (reg_end rfl (wg [5] [] ?_))
     refine wp_ret ?_
     refine ⟨⟨[(0,z1 s19),(2,.ptr 7 0 0),e53_184,(12,z1 s19),(13,vB true)],(l53_186 x5 x7),33⟩,by as_aux_lemma=>kernel_rfl,?_⟩
     refine sz 1 4 (reg_end rfl ?_)
     refine wgc [5] [] (u53_190 x5 x7) ?_
     refine wp_ret ?_
     cases h
     refine ⟨(u53_190 x5 x7),(wk_gc (live:=[5]) (keep:=[]) (st':=(u53_190 x5 x7)) (by kernel_rfl)),?_⟩
     exact .inl (by kernel_rfl)
    refine sz 4 11 (rwg [0,3,16,20,24] [] ?_)
    refine rb [24] h (fun q31 h=>?_) (fun q31 h=>?_)
    ·refine sz 2 13 ?_
     refine callR (as0:=[.ref 4 0 x7.1.length,z1 s19]) (ids:=[4]) kr bodyB_39 (msnap_cons (snap_full (w:=1) (bx:=false) (ro:=false) (enc:=eI) (l:=x7.1) (fl:=true) kr) (msnap_cons rfl msnap_nil (by rfl)) (by rfl)) (fun x32 q33=>g_slices_Compare_int_int_ok x7.1 s19 x32 q33) gF h (fun x32 q33 h=>?_)
     refine sz 5 19 (reg_end rfl (wg [5] [] ?_))
     refine wp_ret ?_
     refine ⟨⟨[(0,z1 s19),(2,.ptr 7 0 0),e53_184,(12,z1 s19),(13,vB (decide (x32≤0)))],(l53_186 x5 x7),33⟩,by as_aux_lemma=>kernel_rfl,?_⟩
     refine sz 1 4 (reg_end rfl ?_)
     refine wgc [5] [] ⟨[(5,vB (decide (x32≤0)))],(l53_186 x5 x7),33⟩ ?_
     refine wp_ret ?_
     cases h
     refine ⟨⟨[(5,vB (decide (x32≤0)))],(l53_186 x5 x7),33⟩,(wk_gc (live:=[5]) (keep:=[]) (st':=⟨[(5,vB (decide (x32≤0)))],(l53_186 x5 x7),33⟩) (by kernel_rfl)),?_⟩
     exact .inl (by kernel_rfl)
    refine sz 8 19 (reg_end rfl (wg [5] [] ?_))
    refine wp_ret ?_
    refine ⟨⟨[(0,z1 s19),(2,.ptr 7 0 0),e53_184,(12,z1 s19),(13,vB false)],(l53_186 x5 x7),33⟩,by as_aux_lemma=>kernel_rfl,?_⟩
    refine sz 1 4 (reg_end rfl ?_)
    refine wgc [5] [] (u53_191 x5 x7) ?_
    refine wp_ret ?_
    cases h
    refine ⟨(u53_191 x5 x7),(wk_gc (live:=[5]) (keep:=[]) (st':=(u53_191 x5 x7)) (by kernel_rfl)),?_⟩
    exact .inl (by kernel_rfl)
   refine sz 16 19 (reg_end rfl ?_)
   refine wgc [5] [] ⟨[(5,vB false)],(l53_186 x5 x7),32⟩ ?_
   refine wp_ret ?_
   refine ⟨⟨[(0,z1 s19),(2,.ptr 7 0 0),e53_184,(12,z1 s19),(13,vB false)],(l53_186 x5 x7),33⟩,by as_aux_lemma=>kernel_rfl,?_⟩
   refine sz 1 4 (reg_end rfl ?_)
   refine wgc [5] [] (u53_191 x5 x7) ?_
   refine wp_ret ?_
   cases h
   refine ⟨(u53_191 x5 x7),(wk_gc (live:=[5]) (keep:=[]) (st':=(u53_191 x5 x7)) (by kernel_rfl)),?_⟩
   exact .inl (by kernel_rfl)
  refine wp_skip (wp_seq (wp_seq (wg [0,1,3] [] (rn (wp_block ?_)))))
  refine wwh h (fun s34=>⟨[(0,z1 s19),(3,.ptr 5 0 0),(14,vI (zn x5)),(15,vI s34)],(l53_186 x5 x7),33⟩) (fun x out=>out=match x with | .inl v=>.go (.ret) (u53_191 x5 x7) | .inr v=>.go (.exit 0) ⟨[],(l53_186 x5 x7),33⟩) (wk_gc (live:=[0,3,14,15]) (keep:=[]) kr) ?_ ?_
  ·intro s34 o h
   unfold g_law08_OrderLeast_b0 at h
   refine sq (wp_seq ?_)
   refine wb [16] h (fun q36 h=>?_) (fun q36 h=>?_)
   ·refine wcT (wp_skip (wp_seq (wp_block (sq (wp_seq (rga hfol (sy 2 2 ?_)))))))
    refine callW bodyB_77 (g_slices_Contains_int_int_ok s19 s34) h (fun x37 _ h=>?_)
    refine sy 2 5 ?_
    refine rb [21,22] h (fun q40 h=>?_) (fun q40 h=>?_)
    ·refine sy 2 7 ?_
     refine callW bodyB_34 (g_slices_Clone_int_int_ok s19) h (fun x41 _ h=>?_)
     refine sy 1 9 ?_
     refine sgL (S:=⟨(s53_188 s19 x5 s34 x37 x41),(l53_186 x5 x7)++[oR true 1 eI x41,.row false false true true 1 [vI s34]],33⟩) false [] [] true kr ?_
     refine appFz (enc:=eI) (l:=x41) (m:=([s34]:(List Int))) (w:=1) (bytes:=8) (ob:=8) (fl:=true) (fl':=true) (b:=.ref 9 0 1) (rds:=[9]) (S:=⟨(s53_188 s19 x5 s34 x37 x41)++[(28,z1 (x41++([s34]:(List Int))))],(l53_186 x5 x7)++[.dead,.row false false true true 1 [vI s34],.dead],33⟩) kr kr kr kr kr kr h (fun h=>?_)
     refine recH (f:=76) (fn:=Tryd.f76) (N:=8) (as0:=[z1 (x41++([s34]:(List Int))),.ptr 6 0 0,.ptr 7 0 0,.ptr 5 0 0]) (x41++([s34]:(List Int))) (fun v=>[]) (fun x43=>⟨(s53_188 s19 x5 s34 x37 x41)++[(28,z1 (x41++([s34]:(List Int)))),(29,vB x43)],(l53_186 x5 x7)++[.dead,.row false false true true 1 [vI s34],.dead],33⟩) [] kr Tryd.func76 rfl (by decide +kernel) rfl kr rfl kr kr (ok_all kr) (fun _=>kr) (fun v=>ok_all kr) kr (fun _=>kr) (fun _=>rfl) kr i21 h (fun _=>kr) (fun x43 h=>?_)
     refine sy 2 14 (rgd ?_)
     refine wbz h (fun q45 h=>?_) (fun q45 h=>?_)
     ·refine wp_seq (wg [] [] (rn (wg [5] [] ?_)))
      refine wp_ret ?_
      cases h
      exact ⟨kr,rfl⟩
     refine wp_skip (wg [0,3,14,15] [] (rn ?_))
     cases h
     exact ⟨_,rfl,(wk_gc (live:=[0,3,14,15]) (keep:=[]) kr)⟩
    refine sy 9 14 (rgd (wcF (wp_skip ?_)))
    refine wgc [0,3,14,15] [] ⟨[(0,z1 s19),(3,.ptr 5 0 0),(14,vI (zn x5)),(15,vI s34)],(l53_186 x5 x7),33⟩ ?_
    refine rn ?_
    cases h
    exact ⟨_,rfl,(wk_gc (live:=[0,3,14,15]) (keep:=[]) kr)⟩
   refine wcF (wg [] [] ?_)
   refine wp_exit ?_
   cases h
   exact ⟨kr,rfl⟩
  intro x46 h out hx
  subst hx
  rcases x46 with x47 | x48
  ·dsimp only at h ⊢
   cases h
   refine ⟨(u53_191 x5 x7),(wk_gc (live:=[5]) (keep:=[]) (st':=(u53_191 x5 x7)) (by kernel_rfl)),?_⟩
   exact .inl (by kernel_rfl)
  ·dsimp only at h ⊢
   refine sq ?_
   refine wgc [5] [] (u53_190 x5 x7) ?_
   refine wp_ret ?_
   cases h
   refine ⟨(u53_190 x5 x7),(wk_gc (live:=[5]) (keep:=[]) (st':=(u53_190 x5 x7)) (by kernel_rfl)),?_⟩
   exact .inl (by kernel_rfl)
 refine ⟨⟨[(5,.ptr 5 0 0),(7,.fn (.func 76) [] [.ptr 6 0 0,.ptr 7 0 0,.ptr 5 0 0]),(8,vB x49)],(l53_186 x5 x7),9⟩,by as_aux_lemma=>kernel_rfl,?_⟩
 refine sz 1 3 (reg_end rfl (wg [4] [] ?_))
 refine wp_ret ?_
 refine ⟨⟨[(3,.ptr 0 0 0),(4,.ptr 1 0 0),(5,.ptr 2 0 0),(41,.ref 3 0 x5.length),(42,vI (zn x5)),(43,.fn (.func 43) [] [.ptr 0 0 0,.ptr 2 0 0,.ptr 1 0 0]),(44,vB x49)],(l53_187 x5 x7),45⟩,by as_aux_lemma=>kernel_rfl,?_⟩
 refine sz 1 5 (reg_end rfl (wg [2] [] ?_))
 cases h
 exact wp_ret (show fnOut _ _ _ _=_ from by kernel_rfl)
end Go.Ab
namespace Go.Ab
open Go
theorem whileN_spec {σ ρ:Type} {body:σ→Option (Step σ ρ)} (I:σ→Prop) (m:σ→Nat) (Q:ρ→Prop)
  (step:∀s,I s→(∃s',body s=some (.next s')∧I s'∧m s' < m s)∨(∃r,body s=some (.done r)∧Q r)) :
  ∀(n:Nat) (s:σ),I s→m s < n→∃r,whileN n body s=some r∧Q r
 | 0,s,_,h=>by omega
 | n+1,s,hI,h=>by
  unfold whileN
  rcases step s hI with ⟨s',h1,h2,h3⟩ | ⟨r,h1,h2⟩
  ·rw [h1]
   exact whileN_spec I m Q step n s' h2 (by omega)
  ·rw [h1]
   exact ⟨r,rfl,h2⟩
theorem whileN_ex {σ ρ:Type} {body:σ→Option (Step σ ρ)} (I:σ→Prop) (m:σ→Nat) (Q:ρ→Prop)
  (step:∀s,I s→(∃s',body s=some (.next s')∧I s'∧m s' < m s)∨(∃r,body s=some (.done r)∧Q r)) (s:σ) (hI:I s) (hm:m s < 1152921504606846976):∃r,whileN fuel body s=some r∧Q r :=
 whileN_spec I m Q step fuel s hI hm
theorem w64 {n:Int} (h:-9223372036854775808≤n∧n≤9223372036854775807):IntKind.i64.wrap n=n:=by rw [IntKind.wrap_i64]; omega
theorem lkI_nat {α:Type} {l:List α} {k:Nat} (h:k < l.length):lkI l (k:Int)=some l[k]:=by
 unfold lkI
 rw [if_neg (by omega),Int.toNat_natCast,List.getElem?_eq_getElem h]
theorem tmod_pos {a b:Int} (h:0≤a):Int.tmod a b=a % b:=Int.tmod_eq_emod_of_nonneg h
end Go.Ab
