/- What functions compute. No conditions. -/
import Derived.Test.YtjhfdojgaoapcaaDoorProg
import Derived.Test.YtjhfdojgaoapcaaDoorW10
import Derived.KernelRfl
import Derived.Test.YtjhfdojgaoapcaaDoorW11
import Derived.Test.YtjhfdojgaoapcaaDoorW13
import Derived.Test.YtjhfdojgaoapcaaDoorW12
set_option linter.all false
namespace Go.Ab
open Go Go.Proofs
set_option maxRecDepth 100000
set_option maxHeartbeats 4000000
theorem g_slices_Equal_int_int_ok (p0:(List Int)) (p1:(List Int)) (x:Bool) (h:g_slices_Equal_int_int p0 p1=some x):CallOk Tryd.prog 71 [z1 p0,z1 p1] (.ret (vB x) []):=by
 refine fn_ok [] Tryd.func71 rfl (by decide +kernel) rfl ?_
 unfold g_slices_Equal_int_int at h
 refine wp_eqB (base':=0) (st':=⟨[(0,z1 p0),(1,z1 p1)],[],26⟩) kr kr ?_
 refine sq (wp_seq (wp_seq (reg_in (sz 1 1 ?_))))
 refine lenL (enc:=eI) (l:=p0) (fl:=true) kr gE ?_
 refine sz 1 3 ?_
 refine lenL (enc:=eI) (l:=p1) (fl:=true) kr gE ?_
 refine sz 1 5 (reg_end rfl ?_)
 refine wbz h (fun q2 h=>?_) (fun q2 h=>?_)
 ·refine wp_seq (wg [] [] (rn ?_))
  refine wgc [4] [] ⟨[(4,vB false)],[],26⟩ ?_
  cases h
  exact wp_ret (show fnOut _ _ _ _=_ from by kernel_rfl)
 refine wp_skip (wp_seq (wp_seq (wg [0,1] [] (reg_in (sz 1 1 ?_)))))
 refine lenL (enc:=eI) (l:=p0) (fl:=true) kr gE ?_
 refine sz 1 3 (reg_end rfl (wp_block ?_))
 refine wwh h (fun s3=>⟨[(0,z1 p0),(1,z1 p1),(12,vI (zn p0)),(13,vI s3)],[],26⟩) (fun x out=>out=match x with | .inl v=>.go (.ret) ⟨[(4,vB false)],[],26⟩ | .inr v=>.go (.exit 0) ⟨[],[],26⟩) (wk_gc (live:=[0,1,12,13]) (keep:=[]) kr) ?_ ?_
 ·intro s3 o h
  unfold g_slices_Equal_int_int_b0 at h
  refine sq (wp_seq ?_)
  refine wb [14] h (fun q5 h=>?_) (fun q5 h=>?_)
  ·refine wcT (wp_skip (wp_seq (wp_block (sq (wp_seq (rga hfol (sy 2 2 ?_)))))))
   refine bind_elim h (fun a6 q7 h=>?_)
   refine idxL' (enc:=eI) (l:=p0) (n:=s3) (fl:=true) (w:=1) (a:=a6) kr rfl gE q7 ?_
   refine sy 3 6 ?_
   refine bind_elim h (fun a8 q9 h=>?_)
   refine idxL' (enc:=eI) (l:=p1) (n:=s3) (fl:=true) (w:=1) (a:=a8) kr rfl gE q9 ?_
   refine sy 2 9 (rgd ?_)
   refine wbz h (fun q11 h=>?_) (fun q11 h=>?_)
   ·refine wp_seq ?_
    refine wgc [] [] ⟨[],[],26⟩ ?_
    refine rn (wg [4] [] ?_)
    refine wp_ret ?_
    cases h
    exact ⟨kr,rfl⟩
   refine wp_skip ?_
   refine wgc [0,1,12,13] [] ⟨[(0,z1 p0),(1,z1 p1),(12,vI (zn p0)),(13,vI s3)],[],26⟩ ?_
   refine rn ?_
   cases h
   exact ⟨_,rfl,(wk_gc (live:=[0,1,12,13]) (keep:=[]) kr)⟩
  refine wcF (wg [] [] ?_)
  refine wp_exit ?_
  cases h
  exact ⟨kr,rfl⟩
 intro x12 h out hx
 subst hx
 rcases x12 with x13 | x14
 ·dsimp only at h ⊢
  cases h
  show fnOut _ _ _ _=_
  kernel_rfl
 ·dsimp only at h ⊢
  refine sq (wg [4] [] ?_)
  cases h
  exact wp_ret (show fnOut _ _ _ _=_ from by kernel_rfl)
theorem g_law08_best_ok (p0:(List Int)) (p1:Int) (p2:(List Int)) (x:Bool) (h:g_law08_best p0 p1 p2=some x):CallOk Tryd.prog 35 [eL true (AV.int .u64) p0,vI p1,z1 p2] (.ret (vB x) []):=by
 refine fn_ok [] Tryd.func35 rfl (by decide +kernel) rfl ?_
 unfold g_law08_best at h
 refine wp_eqB (base':=0) (st':=⟨[(0,eL true (AV.int .u64) p0),(1,vI p1),(2,z1 p2)],[],28⟩) kr kr ?_
 refine sq (wp_seq (reg_in (sz 1 1 ?_)))
 refine callW bodyB_31 (g_order_Best_ok p0) h (fun x1 _ h=>?_)
 refine sz 7 9 (reg_end rfl (wp_seq (wg [1,2,7,8,9] [0] (reg_in (sz 4 4 ?_)))))
 refine rw_wk (wk_gc (live:=[2,7,9,19]) (keep:=[0]) (st':=⟨[(2,z1 p2),(7,.ref 0 0 x1.1.length),(9,vI x1.2.2),(19,vB (x1.2.1==p1))],[oR true 1 eI x1.1],28⟩) kr) ?_
 refine rb [19] h (fun q4 h=>?_) (fun q4 h=>?_)
 ·refine sz 4 8 (rwg [2,7,23] [0] ?_)
  refine rb [23] h (fun q6 h=>?_) (fun q6 h=>?_)
  ·refine sz 2 10 ?_
   refine callR (as0:=[.ref 0 0 x1.1.length,z1 p2]) (ids:=[0]) kr bodyB_71 (msnap_cons (snap_full (w:=1) (bx:=false) (ro:=false) (enc:=eI) (l:=x1.1) (fl:=true) kr) (msnap_cons rfl msnap_nil (by rfl)) (by rfl)) (fun x7 q8=>g_slices_Equal_int_int_ok x1.1 p2 x7 q8) gF h (fun x7 q8 h=>?_)
   refine sz 2 13 (reg_end rfl (wg [6] [] ?_))
   cases h
   exact wp_ret (show fnOut _ _ _ _=_ from by kernel_rfl)
  refine sz 5 13 (reg_end rfl (wg [6] [] ?_))
  cases h
  exact wp_ret (show fnOut _ _ _ _=_ from by kernel_rfl)
 refine sz 9 13 (reg_end rfl (wg [6] [] ?_))
 cases h
 exact wp_ret (show fnOut _ _ _ _=_ from by kernel_rfl)
noncomputable abbrev u35_153 (p0 p1:(List (Int × Int))) (s3:Int):St:=⟨[(0,eL true (fun x:(Int × Int)=>AV.agg [vI x.1,vI x.2]) p0),(1,eL true (fun x:(Int × Int)=>AV.agg [vI x.1,vI x.2]) p1),(12,vI (zn p0)),(13,vI s3)],[],26⟩
theorem g_slices_Equal_2_int_2_int_ok (p0:(List (Int × Int))) (p1:(List (Int × Int))) (x:Bool) (h:g_slices_Equal_2_int_2_int p0 p1=some x):CallOk Tryd.prog 75 [eL true (fun x:(Int × Int)=>AV.agg [vI x.1,vI x.2]) p0,eL true (fun x:(Int × Int)=>AV.agg [vI x.1,vI x.2]) p1] (.ret (vB x) []):=by
 refine fn_ok [] Tryd.func75 rfl (by decide +kernel) rfl ?_
 unfold g_slices_Equal_2_int_2_int at h
 refine wp_eqB (base':=0) (st':=⟨[(0,eL true (fun x:(Int × Int)=>AV.agg [vI x.1,vI x.2]) p0),(1,eL true (fun x:(Int × Int)=>AV.agg [vI x.1,vI x.2]) p1)],[],26⟩) kr kr ?_
 refine sq (wp_seq (wp_seq (reg_in (sz 1 1 ?_))))
 refine lenL (enc:=(fun x:(Int × Int)=>AV.agg [vI x.1,vI x.2])) (l:=p0) (fl:=true) kr gE ?_
 refine sz 1 3 ?_
 refine lenL (enc:=(fun x:(Int × Int)=>AV.agg [vI x.1,vI x.2])) (l:=p1) (fl:=true) kr gE ?_
 refine sz 1 5 (reg_end rfl ?_)
 refine wbz h (fun q2 h=>?_) (fun q2 h=>?_)
 ·refine wp_seq (wg [] [] (rn ?_))
  refine wgc [4] [] ⟨[(4,vB false)],[],26⟩ ?_
  cases h
  exact wp_ret (show fnOut _ _ _ _=_ from by kernel_rfl)
 refine wp_skip (wp_seq (wp_seq (wg [0,1] [] (reg_in (sz 1 1 ?_)))))
 refine lenL (enc:=(fun x:(Int × Int)=>AV.agg [vI x.1,vI x.2])) (l:=p0) (fl:=true) kr gE ?_
 refine sz 1 3 (reg_end rfl (wp_block ?_))
 refine wwh h (fun s3=>(u35_153 p0 p1 s3)) (fun x out=>out=match x with | .inl v=>.go (.ret) ⟨[(4,vB false)],[],26⟩ | .inr v=>.go (.exit 0) ⟨[],[],26⟩) (wk_gc (live:=[0,1,12,13]) (keep:=[]) kr) ?_ ?_
 ·intro s3 o h
  unfold g_slices_Equal_2_int_2_int_b0 at h
  refine sq (wp_seq ?_)
  refine wb [14] h (fun q5 h=>?_) (fun q5 h=>?_)
  ·refine wcT (wp_skip (wp_seq (wp_block (sq (wp_seq (rga hfol (sy 2 2 ?_)))))))
   refine bind_elim h (fun a6 q7 h=>?_)
   refine idxL' (enc:=(fun x:(Int × Int)=>AV.agg [vI x.1,vI x.2])) (l:=p0) (n:=s3) (fl:=true) (w:=2) (a:=a6) kr rfl gE q7 ?_
   refine sy 3 6 ?_
   refine bind_elim h (fun a8 q9 h=>?_)
   refine idxL' (enc:=(fun x:(Int × Int)=>AV.agg [vI x.1,vI x.2])) (l:=p1) (n:=s3) (fl:=true) (w:=2) (a:=a8) kr rfl gE q9 ?_
   refine sy 2 9 (rgd ?_)
   refine wbz h (fun q11 h=>?_) (fun q11 h=>?_)
   ·refine wp_seq ?_
    refine wgc [] [] ⟨[],[],26⟩ ?_
    refine rn (wg [4] [] ?_)
    refine wp_ret ?_
    cases h
    exact ⟨kr,rfl⟩
   refine wp_skip ?_
   refine wgc [0,1,12,13] [] (u35_153 p0 p1 s3) ?_
   refine rn ?_
   cases h
   exact ⟨_,rfl,(wk_gc (live:=[0,1,12,13]) (keep:=[]) kr)⟩
  refine wcF (wg [] [] ?_)
  refine wp_exit ?_
  cases h
  exact ⟨kr,rfl⟩
 intro x12 h out hx
 subst hx
 rcases x12 with x13 | x14
 ·dsimp only at h ⊢
  cases h
  show fnOut _ _ _ _=_
  kernel_rfl
 ·dsimp only at h ⊢
  refine sq (wg [4] [] ?_)
  cases h
  exact wp_ret (show fnOut _ _ _ _=_ from by kernel_rfl)
theorem g_law08_are_2_int_1_k0_ok (p0:(List (Int × Int))) (p1:Int) (c0:Int) (c1:Int) (x:Bool) (h:g_law08_are_2_int_1_k0 p0 p1 c0 c1=some x):CallOk Tryd.prog 74 [eL true (fun x:(Int × Int)=>AV.agg [vI x.1,vI x.2]) p0,vI p1,.fz [.lst true [.agg [vI c0,vI c1]]]] (.ret (vB x) []):=by
 refine fn_ok [] Tryd.func74 rfl (by decide +kernel) rfl ?_
 unfold g_law08_are_2_int_1_k0 at h
 refine wp_eqB (base':=0) (st':=⟨[(0,eL true (fun x:(Int × Int)=>AV.agg [vI x.1,vI x.2]) p0),(1,vI p1),(2,.fz [.lst true [.agg [vI c0,vI c1]]])],[],13⟩) kr kr ?_
 refine sq (wp_seq (reg_in (sz 3 3 (rwg [0,2,8] [] ?_))))
 refine rb [8] h (fun q2 h=>?_) (fun q2 h=>?_)
 ·refine sz 2 5 ?_
  refine callW bodyB_75 (g_slices_Equal_2_int_2_int_ok p0 [(c0,c1)]) h (fun x3 _ h=>?_)
  refine sz 2 8 (reg_end rfl (wg [5] [] ?_))
  cases h
  exact wp_ret (show fnOut _ _ _ _=_ from by kernel_rfl)
 refine sz 5 8 (reg_end rfl (wg [5] [] ?_))
 cases h
 exact wp_ret (show fnOut _ _ _ _=_ from by kernel_rfl)
theorem g_law08_are_2_int_1_k1_ok (p0:(List (Int × Int))) (p1:Int) (x:Bool) (h:g_law08_are_2_int_1_k1 p0 p1=some x):CallOk Tryd.prog 74 [eL true (fun x:(Int × Int)=>AV.agg [vI x.1,vI x.2]) p0,vI p1,.fz [.nils]] (.ret (vB x) []):=by
 refine fn_ok [] Tryd.func74 rfl (by decide +kernel) rfl ?_
 unfold g_law08_are_2_int_1_k1 at h
 refine wp_eqB (base':=0) (st':=⟨[(0,eL true (fun x:(Int × Int)=>AV.agg [vI x.1,vI x.2]) p0),(1,vI p1),(2,.fz [.nils])],[],13⟩) kr kr ?_
 refine sq (wp_seq (reg_in (sz 3 3 (rwg [0,2,8] [] ?_))))
 refine rb [8] h (fun q2 h=>?_) (fun q2 h=>?_)
 ·refine sz 2 5 ?_
  refine callR (as0:=[eL true (fun x:(Int × Int)=>AV.agg [vI x.1,vI x.2]) p0,.nils]) (us:=[eL true (fun x:(Int × Int)=>AV.agg [vI x.1,vI x.2]) p0,.nils]) (ids:=[]) kr bodyB_75 (msnap_cons rfl (msnap_cons rfl msnap_nil)) (fun x3 q4=>CallOk.args [[.keep],[.lst true]] (g_slices_Equal_2_int_2_int_ok p0 [] x3 q4)) gF h (fun x3 q4 h=>?_)
  refine sz 2 8 (reg_end rfl (wg [5] [] ?_))
  cases h
  exact wp_ret (show fnOut _ _ _ _=_ from by kernel_rfl)
 refine sz 5 8 (reg_end rfl (wg [5] [] ?_))
 cases h
 exact wp_ret (show fnOut _ _ _ _=_ from by kernel_rfl)
theorem g_law08_is_int_1_k2_ok (p0:Int) (p1:Int) (c0:Int) (x:Bool) (h:g_law08_is_int_1_k2 p0 p1 c0=some x):CallOk Tryd.prog 72 [vI p0,vI p1,.fz [vI c0]] (.ret (vB x) []):=by
 refine fn_ok [] Tryd.func72 rfl (by decide +kernel) rfl ?_
 unfold g_law08_is_int_1_k2 at h
 refine wp_eqB (base':=0) (st':=⟨[(0,vI p0),(1,vI p1),(2,.fz [vI c0])],[],13⟩) kr kr ?_
 refine sq (wp_seq (reg_in (sz 4 4 (rwg [1,9] [] ?_))))
 refine rb [9] h (fun q2 h=>?_) (fun q2 h=>?_)
 ·refine sz 4 8 (reg_end rfl (wg [5] [] ?_))
  cases h
  exact wp_ret (show fnOut _ _ _ _=_ from by kernel_rfl)
 refine sz 4 8 (reg_end rfl (wg [5] [] ?_))
 cases h
 exact wp_ret (show fnOut _ _ _ _=_ from by kernel_rfl)
theorem g_law08_are_int_1_k3_ok (p0:(List Int)) (p1:Int) (c0:Int) (c1:Int) (c2:Int) (c3:Int) (x:Bool) (h:g_law08_are_int_1_k3 p0 p1 c0 c1 c2 c3=some x):CallOk Tryd.prog 78 [z1 p0,vI p1,.fz [.lst true [vI c0,vI c1,vI c2,vI c3]]] (.ret (vB x) []):=by
 refine fn_ok [] Tryd.func78 rfl (by decide +kernel) rfl ?_
 unfold g_law08_are_int_1_k3 at h
 refine wp_eqB (base':=0) (st':=⟨[(0,z1 p0),(1,vI p1),(2,.fz [.lst true [vI c0,vI c1,vI c2,vI c3]])],[],13⟩) kr kr ?_
 refine sq (wp_seq (reg_in (sz 3 3 (rwg [0,2,8] [] ?_))))
 refine rb [8] h (fun q2 h=>?_) (fun q2 h=>?_)
 ·refine sz 2 5 ?_
  refine callW bodyB_71 (g_slices_Equal_int_int_ok p0 [c0,c1,c2,c3]) h (fun x3 _ h=>?_)
  refine sz 2 8 (reg_end rfl (wg [5] [] ?_))
  cases h
  exact wp_ret (show fnOut _ _ _ _=_ from by kernel_rfl)
 refine sz 5 8 (reg_end rfl (wg [5] [] ?_))
 cases h
 exact wp_ret (show fnOut _ _ _ _=_ from by kernel_rfl)
theorem g_law08_are_int_1_k4_ok (p0:(List Int)) (p1:Int) (c0:Int) (c1:Int) (c2:Int) (x:Bool) (h:g_law08_are_int_1_k4 p0 p1 c0 c1 c2=some x):CallOk Tryd.prog 78 [z1 p0,vI p1,.fz [.lst true [vI c0,vI c1,vI c2]]] (.ret (vB x) []):=by
 refine fn_ok [] Tryd.func78 rfl (by decide +kernel) rfl ?_
 unfold g_law08_are_int_1_k4 at h
 refine wp_eqB (base':=0) (st':=⟨[(0,z1 p0),(1,vI p1),(2,.fz [.lst true [vI c0,vI c1,vI c2]])],[],13⟩) kr kr ?_
 refine sq (wp_seq (reg_in (sz 3 3 (rwg [0,2,8] [] ?_))))
 refine rb [8] h (fun q2 h=>?_) (fun q2 h=>?_)
 ·refine sz 2 5 ?_
  refine callW bodyB_71 (g_slices_Equal_int_int_ok p0 [c0,c1,c2]) h (fun x3 _ h=>?_)
  refine sz 2 8 (reg_end rfl (wg [5] [] ?_))
  cases h
  exact wp_ret (show fnOut _ _ _ _=_ from by kernel_rfl)
 refine sz 5 8 (reg_end rfl (wg [5] [] ?_))
 cases h
 exact wp_ret (show fnOut _ _ _ _=_ from by kernel_rfl)
theorem g_law08_is_bool_1_k5_ok (p0:Bool) (p1:Int) (c0:Bool) (x:Bool) (h:g_law08_is_bool_1_k5 p0 p1 c0=some x):CallOk Tryd.prog 73 [vB p0,vI p1,.fz [vB c0]] (.ret (vB x) []):=by
 refine fn_ok [] Tryd.func73 rfl (by decide +kernel) rfl ?_
 unfold g_law08_is_bool_1_k5 at h
 refine wp_eqB (base':=0) (st':=⟨[(0,vB p0),(1,vI p1),(2,.fz [vB c0])],[],13⟩) kr kr ?_
 refine sq (wp_seq (reg_in (sz 4 4 (rwg [1,9] [] ?_))))
 refine rb [9] h (fun q2 h=>?_) (fun q2 h=>?_)
 ·refine sz 4 8 (reg_end rfl (wg [5] [] ?_))
  cases h
  exact wp_ret (show fnOut _ _ _ _=_ from by kernel_rfl)
 refine sz 4 8 (reg_end rfl (wg [5] [] ?_))
 cases h
 exact wp_ret (show fnOut _ _ _ _=_ from by kernel_rfl)
noncomputable abbrev o42_154:AObj:=.row false false true true 1 [.int .u64 10,.int .u64 5,.int .u64 10,.int .u64 5]
noncomputable abbrev o42_155:AObj:=.row false false true true 1 [.int .u64 2,.int .u64 5,.int .u64 2]
noncomputable abbrev o42_156:AObj:=.row false false true true 1 [.int .u64 14,.int .u64 13,.int .u64 11,.int .u64 7]
noncomputable abbrev o42_157:AObj:=.row false false true true 2 [.agg [vI 1,vI 3]]
noncomputable abbrev o42_158:AObj:=oX false false 1 (.ref 3 0 1)
noncomputable abbrev o42_159:AObj:=.row false false true true 1 [vI 0,vI 1,vI 2,vI 3]
noncomputable abbrev o42_160:AObj:=.row false false true true 2 [.agg [vI 0,vI 2]]
noncomputable abbrev o42_161:AObj:=.row false false true true 1 [vI 0,vI 1,vI 2]
noncomputable abbrev o42_162:AObj:=.row false true true true 1 [.int .u64 10,.int .u64 5,.int .u64 10,.int .u64 5]
noncomputable abbrev o42_163:AObj:=.row false true true true 1 [.int .u64 2,.int .u64 5,.int .u64 2]
noncomputable abbrev e42_164:Nat×AV:=(1,.ref 0 0 4)
noncomputable abbrev e42_165:Nat×AV:=(2,.ref 1 0 3)
noncomputable abbrev e42_166:Nat×AV:=(3,.ref 2 0 4)
noncomputable abbrev l42_167:List AObj:=[o42_154,o42_155,o42_156]
noncomputable abbrev l42_168:List AObj:=[o42_162,o42_163,o42_156]
noncomputable abbrev s42_169 (x1 x3:(Int × Int)):List (Nat×AV):=[e42_164,e42_165,e42_166,(5,vI x1.2),(7,vI x3.2)]
noncomputable abbrev u42_170 (x1 x3:(Int × Int)):St:=⟨[(5,vI x1.2),(7,vI x3.2),(8,vB false)],[],206⟩
theorem g_law08_works_ok  (x:Bool) (h:g_law08_works=some x):CallOk Tryd.prog 11 [] (.ret (vB x) []):=by
 refine fn_ok [] Tryd.func11 rfl (by decide +kernel) rfl ?_
 unfold g_law08_works at h
 refine wp_eqB (base':=0) (st':=⟨[],[],206⟩) kr kr ?_
 refine sq (wp_seq (reg_in ?_))
 refine sgL false [] [] true gE ?_
 refine sgL false [] [] true gE ?_
 refine sgL false [] [] true gE ?_
 refine sz 3 6 (reg_end rfl (wp_seq (reg_in (sz 1 1 ?_))))
 refine sgL false [] [] true gE ?_
 refine callR (as0:=[.ref 0 0 4,.ref 3 0 3]) (ids:=[0,3]) kr bodyB_17 (msnap_cons (show snap _ _ _=some (_,[0]) from kr) (msnap_cons (show snap _ _ _=some (_,[3]) from kr) msnap_nil (by rfl)) (by rfl)) (fun x1 q2=>g_order_Width_ok [10,5,10,5] [0,1,2] x1 q2) gF h (fun x1 q2 h=>?_)
 refine sz 5 8 (reg_end rfl (wp_seq ?_))
 refine wgc [1,2,3,5] [0,1,2] ⟨[e42_164,e42_165,e42_166,(5,vI x1.2)],l42_167,206⟩ ?_
 refine reg_in (sz 1 1 ?_)
 refine sgL false [] [] true gE ?_
 refine callR (as0:=[.ref 0 0 4,.ref 3 0 4]) (ids:=[0,3]) kr bodyB_17 (msnap_cons (show snap _ _ _=some (_,[0]) from kr) (msnap_cons (show snap _ _ _=some (_,[3]) from kr) msnap_nil (by rfl)) (by rfl)) (fun x3 q4=>g_order_Width_ok [10,5,10,5] [0,1,2,2] x3 q4) gF h (fun x3 q4 h=>?_)
 refine sz 5 8 (reg_end rfl (wp_seq (wg [1,2,3,5,7] [0,1,2] (reg_in (sz 1 1 ?_)))))
 refine sgL false [] [] true gE ?_
 refine inlR (f:=40) (fn:=Tryd.f40) (as0:=[.ref 3 0 1]) kr Tryd.func40 rfl (by decide +kernel) rfl ?_
 refine wp_eqB (base':=4) (st':=⟨[(0,.ref 3 0 1)],l42_167++[o42_157],4⟩) kr kr ?_
 refine wp_seq (reg_in ?_)
 refine sgL false [] [] false gE ?_
 refine sz 1 2 (reg_end rfl (sq (wg [2] [4] ?_)))
 refine wp_ret ?_
 refine ⟨⟨(s42_169 x1 x3)++[(24,.agg [vI 1,vI 3]),(25,.ref 3 0 1),(26,.fn (.func 74) [] [.ptr 4 0 0])],l42_167++[o42_157,o42_158],206⟩,by as_aux_lemma=>kernel_rfl,?_⟩
 refine sz 1 4 ?_
 refine sgL false [] [] true gE ?_
 refine callR (as0:=[.ref 0 0 4,.ref 5 0 4]) (ids:=[0,5]) kr bodyB_16 (msnap_cons (show snap _ _ _=some (_,[0]) from kr) (msnap_cons (show snap _ _ _=some (_,[5]) from kr) msnap_nil (by rfl)) (by rfl)) (fun x5 q6=>g_order_Fill_ok [10,5,10,5] [0,1,2,3] x5 q6) gF h (fun x5 q6 h=>?_)
 refine sgz 2 8 (S:=⟨(s42_169 x1 x3)++[(24,.agg [vI 1,vI 3]),(25,.ref 3 0 1),(26,.fn (.func 74) [] [.ptr 4 0 0]),(27,.ref 0 0 4),(28,.ref 5 0 4),(29,.tup [.ref 6 0 x5.1.length,vI x5.2]),(30,.ref 6 0 x5.1.length),(31,vI x5.2)],l42_167++[o42_157,o42_158,o42_159,oR true 2 (fun x:(Int × Int)=>AV.agg [vI x.1,vI x.2]) x5.1],206⟩) ?_
 refine callR (as0:=[.ref 6 0 x5.1.length,vI x5.2,.ptr 4 0 0]) (ids:=[6,4,3]) kr bodyB_74 (msnap_cons (snap_full (w:=2) (bx:=false) (ro:=false) (enc:=(fun x:(Int × Int)=>AV.agg [vI x.1,vI x.2])) (l:=x5.1) (fl:=true) kr) (msnap_cons rfl (msnap_cons (snap_ptr rfl (msnap_cons (show snap _ _ _=some (.lst true [.agg [vI 1,vI 3]],[3]) from kr) msnap_nil (by rfl)) (by rfl) (by rfl)) msnap_nil (by rfl)) (by rfl)) (by rfl)) (fun x7 q8=>g_law08_are_2_int_1_k0_ok x5.1 x5.2 1 3 x7 q8) gF h (fun x7 q8 h=>?_)
 refine sz 1 10 (rwg [1,2,3,5,7,33] [0,1,2] ?_)
 refine rb [33] h (fun q10 h=>?_) (fun q10 h=>?_)
 ·refine sz 1 11 ?_
  refine sgL false [] [] true gE ?_
  refine inlR (f:=40) (fn:=Tryd.f40) (as0:=[.ref 3 0 1]) kr Tryd.func40 rfl (by decide +kernel) rfl ?_
  refine wp_eqB (base':=4) (st':=⟨[(0,.ref 3 0 1)],l42_167++[o42_157],4⟩) kr kr ?_
  refine wp_seq (reg_in ?_)
  refine sgL false [] [] false gE ?_
  refine sz 1 2 (reg_end rfl (sq (wg [2] [4] ?_)))
  refine wp_ret ?_
  refine ⟨⟨(s42_169 x1 x3)++[(33,vB true),(34,.agg [vI 1,vI 3]),(35,.ref 3 0 1),(36,.fn (.func 74) [] [.ptr 4 0 0])],l42_167++[o42_157,o42_158],206⟩,by as_aux_lemma=>kernel_rfl,?_⟩
  refine sz 1 14 ?_
  refine sgL false [] [] true gE ?_
  refine callR (as0:=[.ref 0 0 4,.ref 5 0 4]) (ids:=[0,5]) kr bodyB_16 (msnap_cons (show snap _ _ _=some (_,[0]) from kr) (msnap_cons (show snap _ _ _=some (_,[5]) from kr) msnap_nil (by rfl)) (by rfl)) (fun x11 q12=>g_order_Fill_ok [10,5,10,5] [0,2,1,3] x11 q12) gF h (fun x11 q12 h=>?_)
  refine sgz 2 18 (S:=⟨(s42_169 x1 x3)++[(33,vB true),(34,.agg [vI 1,vI 3]),(35,.ref 3 0 1),(36,.fn (.func 74) [] [.ptr 4 0 0]),(37,.ref 0 0 4),(38,.ref 5 0 4),(39,.tup [.ref 6 0 x11.1.length,vI x11.2]),(40,.ref 6 0 x11.1.length),(41,vI x11.2)],l42_167++[o42_157,o42_158,.row false false true true 1 [vI 0,vI 2,vI 1,vI 3],oR true 2 (fun x:(Int × Int)=>AV.agg [vI x.1,vI x.2]) x11.1],206⟩) ?_
  refine callR (as0:=[.ref 6 0 x11.1.length,vI x11.2,.ptr 4 0 0]) (ids:=[6,4,3]) kr bodyB_74 (msnap_cons (snap_full (w:=2) (bx:=false) (ro:=false) (enc:=(fun x:(Int × Int)=>AV.agg [vI x.1,vI x.2])) (l:=x11.1) (fl:=true) kr) (msnap_cons rfl (msnap_cons (snap_ptr rfl (msnap_cons (show snap _ _ _=some (.lst true [.agg [vI 1,vI 3]],[3]) from kr) msnap_nil (by rfl)) (by rfl) (by rfl)) msnap_nil (by rfl)) (by rfl)) (by rfl)) (fun x13 q14=>g_law08_are_2_int_1_k0_ok x11.1 x11.2 1 3 x13 q14) gF h (fun x13 q14 h=>?_)
  refine sz 2 21 (rwg [1,2,3,5,7,44] [0,1,2] ?_)
  refine rb [44] h (fun q16 h=>?_) (fun q16 h=>?_)
  ·refine sz 1 22 ?_
   refine sgL false [] [] true gE ?_
   refine inlR (f:=40) (fn:=Tryd.f40) (as0:=[.ref 3 0 1]) kr Tryd.func40 rfl (by decide +kernel) rfl ?_
   refine wp_eqB (base':=4) (st':=⟨[(0,.ref 3 0 1)],l42_167++[o42_160],4⟩) kr kr ?_
   refine wp_seq (reg_in ?_)
   refine sgL false [] [] false gE ?_
   refine sz 1 2 (reg_end rfl (sq (wg [2] [4] ?_)))
   refine wp_ret ?_
   refine ⟨⟨(s42_169 x1 x3)++[(44,vB true),(45,.agg [vI 0,vI 2]),(46,.ref 3 0 1),(47,.fn (.func 74) [] [.ptr 4 0 0])],l42_167++[o42_160,o42_158],206⟩,by as_aux_lemma=>kernel_rfl,?_⟩
   refine sz 1 25 ?_
   refine sgL false [] [] true gE ?_
   refine callR (as0:=[.ref 1 0 3,.ref 5 0 3]) (ids:=[1,5]) kr bodyB_16 (msnap_cons (show snap _ _ _=some (_,[1]) from kr) (msnap_cons (show snap _ _ _=some (_,[5]) from kr) msnap_nil (by rfl)) (by rfl)) (fun x17 q18=>g_order_Fill_ok [2,5,2] [1,0,2] x17 q18) gF h (fun x17 q18 h=>?_)
   refine sgz 2 29 (S:=⟨(s42_169 x1 x3)++[(44,vB true),(45,.agg [vI 0,vI 2]),(46,.ref 3 0 1),(47,.fn (.func 74) [] [.ptr 4 0 0]),(48,.ref 1 0 3),(49,.ref 5 0 3),(50,.tup [.ref 6 0 x17.1.length,vI x17.2]),(51,.ref 6 0 x17.1.length),(52,vI x17.2)],l42_167++[o42_160,o42_158,.row false false true true 1 [vI 1,vI 0,vI 2],oR true 2 (fun x:(Int × Int)=>AV.agg [vI x.1,vI x.2]) x17.1],206⟩) ?_
   refine callR (as0:=[.ref 6 0 x17.1.length,vI x17.2,.ptr 4 0 0]) (ids:=[6,4,3]) kr bodyB_74 (msnap_cons (snap_full (w:=2) (bx:=false) (ro:=false) (enc:=(fun x:(Int × Int)=>AV.agg [vI x.1,vI x.2])) (l:=x17.1) (fl:=true) kr) (msnap_cons rfl (msnap_cons (snap_ptr rfl (msnap_cons (show snap _ _ _=some (.lst true [.agg [vI 0,vI 2]],[3]) from kr) msnap_nil (by rfl)) (by rfl) (by rfl)) msnap_nil (by rfl)) (by rfl)) (by rfl)) (fun x19 q20=>g_law08_are_2_int_1_k0_ok x17.1 x17.2 0 2 x19 q20) gF h (fun x19 q20 h=>?_)
   refine sz 2 32 (rwg [1,2,3,5,7,55] [0,1,2] ?_)
   refine rb [55] h (fun q22 h=>?_) (fun q22 h=>?_)
   ·refine inlR (f:=40) (fn:=Tryd.f40) (as0:=[.nils]) kr Tryd.func40 rfl (by decide +kernel) rfl ?_
    refine wp_eqB (base':=3) (st':=⟨[(0,.nils)],l42_167,4⟩) kr kr ?_
    refine wp_seq (reg_in ?_)
    refine sgL false [] [] false gE ?_
    refine sz 1 2 (reg_end rfl (sq (wg [2] [3] ?_)))
    refine wp_ret ?_
    refine ⟨⟨(s42_169 x1 x3)++[(55,vB true),(56,.fn (.func 74) [] [.ptr 3 0 0])],l42_167++[oX true false 1 (.nils)],206⟩,by as_aux_lemma=>kernel_rfl,?_⟩
    refine sz 1 34 ?_
    refine sgL false [] [] true gE ?_
    refine callR (as0:=[.ref 1 0 3,.ref 4 0 3]) (ids:=[1,4]) kr bodyB_16 (msnap_cons (show snap _ _ _=some (_,[1]) from kr) (msnap_cons (show snap _ _ _=some (_,[4]) from kr) msnap_nil (by rfl)) (by rfl)) (fun x23 q24=>g_order_Fill_ok [2,5,2] [0,1,2] x23 q24) gF h (fun x23 q24 h=>?_)
    refine sgz 2 38 (S:=⟨(s42_169 x1 x3)++[(55,vB true),(56,.fn (.func 74) [] [.ptr 3 0 0]),(57,.ref 1 0 3),(58,.ref 4 0 3),(59,.tup [.ref 5 0 x23.1.length,vI x23.2]),(60,.ref 5 0 x23.1.length),(61,vI x23.2)],l42_167++[oX true false 1 (.nils),o42_161,oR true 2 (fun x:(Int × Int)=>AV.agg [vI x.1,vI x.2]) x23.1],206⟩) ?_
    refine callR (as0:=[.ref 5 0 x23.1.length,vI x23.2,.ptr 3 0 0]) (ids:=[5,3]) kr bodyB_74 (msnap_cons (snap_full (w:=2) (bx:=false) (ro:=false) (enc:=(fun x:(Int × Int)=>AV.agg [vI x.1,vI x.2])) (l:=x23.1) (fl:=true) kr) (msnap_cons rfl (msnap_cons (snap_ptr rfl (msnap_cons rfl msnap_nil (by rfl)) (by rfl) (by rfl)) msnap_nil (by rfl)) (by rfl)) (by rfl)) (fun x25 q26=>g_law08_are_2_int_1_k1_ok x23.1 x23.2 x25 q26) gF h (fun x25 q26 h=>?_)
    refine sz 2 41 (rwg [1,2,3,5,7,64] [0,1,2] ?_)
    refine rb [64] h (fun q28 h=>?_) (fun q28 h=>?_)
    ·refine inlR (f:=36) (fn:=Tryd.f36) (as0:=[vI 2]) kr Tryd.func36 rfl (by decide +kernel) rfl ?_
     refine wp_eqB (base':=3) (st':=⟨[(0,vI 2)],l42_167,4⟩) kr kr ?_
     refine sq (sq (wg [2] [3] ?_))
     refine wp_ret ?_
     refine ⟨⟨(s42_169 x1 x3)++[(64,vB true),(65,.fn (.func 72) [] [.ptr 3 0 0])],l42_167++[oX true true 1 (vI 2)],206⟩,by as_aux_lemma=>kernel_rfl,?_⟩
     refine sz 1 43 ?_
     refine sgL false [] [] true gE ?_
     refine callR (as0:=[.ref 0 0 4,.ref 4 0 4]) (ids:=[0,4]) kr bodyB_17 (msnap_cons (show snap _ _ _=some (_,[0]) from kr) (msnap_cons (show snap _ _ _=some (_,[4]) from kr) msnap_nil (by rfl)) (by rfl)) (fun x29 q30=>g_order_Width_ok [10,5,10,5] [0,1,2,3] x29 q30) gF h (fun x29 q30 h=>?_)
     refine sgz 2 47 (S:=⟨(s42_169 x1 x3)++[(64,vB true),(65,.fn (.func 72) [] [.ptr 3 0 0]),(66,.ref 0 0 4),(67,.ref 4 0 4),(68,.tup [vI x29.1,vI x29.2]),(69,vI x29.1),(70,vI x29.2)],l42_167++[oX true true 1 (vI 2),o42_159],206⟩) ?_
     refine callR (as0:=[vI x29.1,vI x29.2,.ptr 3 0 0]) (ids:=[3]) kr bodyB_72 (msnap_cons rfl (msnap_cons rfl (msnap_cons (snap_ptr rfl (msnap_cons rfl msnap_nil (by rfl)) (by rfl) (by rfl)) msnap_nil (by rfl)) (by rfl)) (by rfl)) (fun x31 q32=>g_law08_is_int_1_k2_ok x29.1 x29.2 2 x31 q32) gF h (fun x31 q32 h=>?_)
     refine sz 2 50 (rwg [1,2,3,5,7,73] [0,1,2] ?_)
     refine rb [73] h (fun q34 h=>?_) (fun q34 h=>?_)
     ·refine inlR (f:=36) (fn:=Tryd.f36) (as0:=[vI 2]) kr Tryd.func36 rfl (by decide +kernel) rfl ?_
      refine wp_eqB (base':=3) (st':=⟨[(0,vI 2)],l42_167,4⟩) kr kr ?_
      refine sq (sq (wg [2] [3] ?_))
      refine wp_ret ?_
      refine ⟨⟨(s42_169 x1 x3)++[(73,vB true),(74,.fn (.func 72) [] [.ptr 3 0 0])],l42_167++[oX true true 1 (vI 2)],206⟩,by as_aux_lemma=>kernel_rfl,?_⟩
      refine sz 1 52 ?_
      refine sgL false [] [] true gE ?_
      refine callR (as0:=[.ref 1 0 3,.ref 4 0 3]) (ids:=[1,4]) kr bodyB_17 (msnap_cons (show snap _ _ _=some (_,[1]) from kr) (msnap_cons (show snap _ _ _=some (_,[4]) from kr) msnap_nil (by rfl)) (by rfl)) (fun x35 q36=>g_order_Width_ok [2,5,2] [1,0,2] x35 q36) gF h (fun x35 q36 h=>?_)
      refine sgz 2 56 (S:=⟨(s42_169 x1 x3)++[(73,vB true),(74,.fn (.func 72) [] [.ptr 3 0 0]),(75,.ref 1 0 3),(76,.ref 4 0 3),(77,.tup [vI x35.1,vI x35.2]),(78,vI x35.1),(79,vI x35.2)],l42_167++[oX true true 1 (vI 2),.row false false true true 1 [vI 1,vI 0,vI 2]],206⟩) ?_
      refine callR (as0:=[vI x35.1,vI x35.2,.ptr 3 0 0]) (ids:=[3]) kr bodyB_72 (msnap_cons rfl (msnap_cons rfl (msnap_cons (snap_ptr rfl (msnap_cons rfl msnap_nil (by rfl)) (by rfl) (by rfl)) msnap_nil (by rfl)) (by rfl)) (by rfl)) (fun x37 q38=>g_law08_is_int_1_k2_ok x35.1 x35.2 2 x37 q38) gF h (fun x37 q38 h=>?_)
      refine sz 2 59 (rwg [1,2,3,5,7,82] [0,1,2] ?_)
      refine rb [82] h (fun q40 h=>?_) (fun q40 h=>?_)
      ·refine inlR (f:=36) (fn:=Tryd.f36) (as0:=[vI 1]) kr Tryd.func36 rfl (by decide +kernel) rfl ?_
       refine wp_eqB (base':=3) (st':=⟨[(0,vI 1)],l42_167,4⟩) kr kr ?_
       refine sq (sq (wg [2] [3] ?_))
       refine wp_ret ?_
       refine ⟨⟨(s42_169 x1 x3)++[(82,vB true),(83,.fn (.func 72) [] [.ptr 3 0 0])],l42_167++[oX true true 1 (vI 1)],206⟩,by as_aux_lemma=>kernel_rfl,?_⟩
       refine sz 1 61 ?_
       refine sgL false [] [] true gE ?_
       refine callR (as0:=[.ref 1 0 3,.ref 4 0 3]) (ids:=[1,4]) kr bodyB_17 (msnap_cons (show snap _ _ _=some (_,[1]) from kr) (msnap_cons (show snap _ _ _=some (_,[4]) from kr) msnap_nil (by rfl)) (by rfl)) (fun x41 q42=>g_order_Width_ok [2,5,2] [2,1,0] x41 q42) gF h (fun x41 q42 h=>?_)
       refine sgz 2 65 (S:=⟨(s42_169 x1 x3)++[(82,vB true),(83,.fn (.func 72) [] [.ptr 3 0 0]),(84,.ref 1 0 3),(85,.ref 4 0 3),(86,.tup [vI x41.1,vI x41.2]),(87,vI x41.1),(88,vI x41.2)],l42_167++[oX true true 1 (vI 1),.row false false true true 1 [vI 2,vI 1,vI 0]],206⟩) ?_
       refine callR (as0:=[vI x41.1,vI x41.2,.ptr 3 0 0]) (ids:=[3]) kr bodyB_72 (msnap_cons rfl (msnap_cons rfl (msnap_cons (snap_ptr rfl (msnap_cons rfl msnap_nil (by rfl)) (by rfl) (by rfl)) msnap_nil (by rfl)) (by rfl)) (by rfl)) (fun x43 q44=>g_law08_is_int_1_k2_ok x41.1 x41.2 1 x43 q44) gF h (fun x43 q44 h=>?_)
       refine sz 2 68 (rwg [1,2,3,5,7,91] [0,1,2] ?_)
       refine rb [91] h (fun q46 h=>?_) (fun q46 h=>?_)
       ·refine inlR (f:=36) (fn:=Tryd.f36) (as0:=[vI 3]) kr Tryd.func36 rfl (by decide +kernel) rfl ?_
        refine wp_eqB (base':=3) (st':=⟨[(0,vI 3)],l42_167,4⟩) kr kr ?_
        refine sq (sq (wg [2] [3] ?_))
        refine wp_ret ?_
        refine ⟨⟨(s42_169 x1 x3)++[(91,vB true),(92,.fn (.func 72) [] [.ptr 3 0 0])],l42_167++[oX true true 1 (vI 3)],206⟩,by as_aux_lemma=>kernel_rfl,?_⟩
        refine sz 1 70 ?_
        refine sgL false [] [] true gE ?_
        refine callR (as0:=[.ref 2 0 4,.ref 4 0 4]) (ids:=[2,4]) kr bodyB_17 (msnap_cons (show snap _ _ _=some (_,[2]) from kr) (msnap_cons (show snap _ _ _=some (_,[4]) from kr) msnap_nil (by rfl)) (by rfl)) (fun x47 q48=>g_order_Width_ok [14,13,11,7] [3,2,1,0] x47 q48) gF h (fun x47 q48 h=>?_)
        refine sgz 2 74 (S:=⟨(s42_169 x1 x3)++[(91,vB true),(92,.fn (.func 72) [] [.ptr 3 0 0]),(93,.ref 2 0 4),(94,.ref 4 0 4),(95,.tup [vI x47.1,vI x47.2]),(96,vI x47.1),(97,vI x47.2)],l42_167++[oX true true 1 (vI 3),.row false false true true 1 [vI 3,vI 2,vI 1,vI 0]],206⟩) ?_
        refine callR (as0:=[vI x47.1,vI x47.2,.ptr 3 0 0]) (ids:=[3]) kr bodyB_72 (msnap_cons rfl (msnap_cons rfl (msnap_cons (snap_ptr rfl (msnap_cons rfl msnap_nil (by rfl)) (by rfl) (by rfl)) msnap_nil (by rfl)) (by rfl)) (by rfl)) (fun x49 q50=>g_law08_is_int_1_k2_ok x47.1 x47.2 3 x49 q50) gF h (fun x49 q50 h=>?_)
        refine sz 2 77 (reg_end rfl (wp_seq (wg [1,2,3,5,7,8] [0,1,2] (reg_in (sz 2 2 ?_)))))
        refine rb [8,100,101] h (fun q52 h=>?_) (fun q52 h=>?_)
        ·refine sgL false [] [] true gE ?_
         refine inlR (f:=44) (fn:=Tryd.f44) (as0:=[.ref 3 0 4]) kr Tryd.func44 rfl (by decide +kernel) rfl ?_
         refine wp_eqB (base':=4) (st':=⟨[(0,.ref 3 0 4)],l42_167++[o42_159],4⟩) kr kr ?_
         refine wp_seq (reg_in ?_)
         refine sgL false [] [] false gE ?_
         refine sz 1 2 (reg_end rfl (sq (wg [2] [4] ?_)))
         refine wp_ret ?_
         refine ⟨⟨(s42_169 x1 x3)++[(8,vB true),(100,vB true),(101,vB true),(102,.ref 3 0 4),(103,.fn (.func 78) [] [.ptr 4 0 0])],l42_167++[o42_159,oX false false 1 (.ref 3 0 4)],206⟩,by as_aux_lemma=>kernel_rfl,?_⟩
         refine sz 1 5 ?_
         refine callR (as0:=[.ref 0 0 4]) (ids:=[0]) kr bodyB_22 (msnap_cons (show snap _ _ _=some (_,[0]) from kr) msnap_nil (by rfl)) (fun x53 q54=>g_order_LeastFill_ok [10,5,10,5] x53 q54) gF h (fun x53 q54 h=>?_)
         refine sgz 2 8 (S:=⟨(s42_169 x1 x3)++[(8,vB true),(100,vB true),(101,vB true),(102,.ref 3 0 4),(103,.fn (.func 78) [] [.ptr 4 0 0]),(104,.ref 0 0 4),(105,.tup [z1 x53.1,vI x53.2]),(106,z1 x53.1),(107,vI x53.2)],[o42_162,o42_155,o42_156,o42_159,oX false false 1 (.ref 3 0 4)],206⟩) ?_
         refine callR (as0:=[z1 x53.1,vI x53.2,.ptr 4 0 0]) (ids:=[4,3]) kr bodyB_78 (msnap_cons rfl (msnap_cons rfl (msnap_cons (snap_ptr rfl (msnap_cons (show snap _ _ _=some (.lst true [vI 0,vI 1,vI 2,vI 3],[3]) from kr) msnap_nil (by rfl)) (by rfl) (by rfl)) msnap_nil (by rfl)) (by rfl)) (by rfl)) (fun x55 q56=>g_law08_are_int_1_k3_ok x53.1 x53.2 0 1 2 3 x55 q56) gF h (fun x55 q56 h=>?_)
         refine sz 2 11 (rwg [1,2,3,5,7,110] [0,1,2] ?_)
         refine rb [110] h (fun q58 h=>?_) (fun q58 h=>?_)
         ·refine sgL false [] [] true gE ?_
          refine inlR (f:=44) (fn:=Tryd.f44) (as0:=[.ref 3 0 3]) kr Tryd.func44 rfl (by decide +kernel) rfl ?_
          refine wp_eqB (base':=4) (st':=⟨[(0,.ref 3 0 3)],[o42_162,o42_155,o42_156,o42_161],4⟩) kr kr ?_
          refine wp_seq (reg_in ?_)
          refine sgL false [] [] false gE ?_
          refine sz 1 2 (reg_end rfl (sq (wg [2] [4] ?_)))
          refine wp_ret ?_
          refine ⟨⟨(s42_169 x1 x3)++[(110,vB true),(111,.ref 3 0 3),(112,.fn (.func 78) [] [.ptr 4 0 0])],[o42_162,o42_155,o42_156,o42_161,oX false false 1 (.ref 3 0 3)],206⟩,by as_aux_lemma=>kernel_rfl,?_⟩
          refine sz 1 14 ?_
          refine callR (as0:=[.ref 1 0 3]) (ids:=[1]) kr bodyB_22 (msnap_cons (show snap _ _ _=some (_,[1]) from kr) msnap_nil (by rfl)) (fun x59 q60=>g_order_LeastFill_ok [2,5,2] x59 q60) gF h (fun x59 q60 h=>?_)
          refine sgz 2 17 (S:=⟨(s42_169 x1 x3)++[(110,vB true),(111,.ref 3 0 3),(112,.fn (.func 78) [] [.ptr 4 0 0]),(113,.ref 1 0 3),(114,.tup [z1 x59.1,vI x59.2]),(115,z1 x59.1),(116,vI x59.2)],l42_168++[o42_161,oX false false 1 (.ref 3 0 3)],206⟩) ?_
          refine callR (as0:=[z1 x59.1,vI x59.2,.ptr 4 0 0]) (ids:=[4,3]) kr bodyB_78 (msnap_cons rfl (msnap_cons rfl (msnap_cons (snap_ptr rfl (msnap_cons (show snap _ _ _=some (.lst true [vI 0,vI 1,vI 2],[3]) from kr) msnap_nil (by rfl)) (by rfl) (by rfl)) msnap_nil (by rfl)) (by rfl)) (by rfl)) (fun x61 q62=>g_law08_are_int_1_k4_ok x59.1 x59.2 0 1 2 x61 q62) gF h (fun x61 q62 h=>?_)
          refine sz 2 20 (rwg [1,2,3,5,7,119] [0,1,2] ?_)
          refine rb [119] h (fun q64 h=>?_) (fun q64 h=>?_)
          ·refine sgL false [] [] true gE ?_
           refine inlR (f:=44) (fn:=Tryd.f44) (as0:=[.ref 3 0 3]) kr Tryd.func44 rfl (by decide +kernel) rfl ?_
           refine wp_eqB (base':=4) (st':=⟨[(0,.ref 3 0 3)],l42_168++[o42_161],4⟩) kr kr ?_
           refine wp_seq (reg_in ?_)
           refine sgL false [] [] false gE ?_
           refine sz 1 2 (reg_end rfl (sq (wg [2] [4] ?_)))
           refine wp_ret ?_
           refine ⟨⟨(s42_169 x1 x3)++[(119,vB true),(120,.ref 3 0 3),(121,.fn (.func 78) [] [.ptr 4 0 0])],l42_168++[o42_161,oX false false 1 (.ref 3 0 3)],206⟩,by as_aux_lemma=>kernel_rfl,?_⟩
           refine sz 1 23 ?_
           refine callR (as0:=[.ref 1 0 3]) (ids:=[1]) kr bodyB_23 (msnap_cons (show snap _ _ _=some (_,[1]) from kr) msnap_nil (by rfl)) (fun x65 q66=>g_order_LeastDegree_ok [2,5,2] x65 q66) gF h (fun x65 q66 h=>?_)
           refine sgz 2 26 (S:=⟨(s42_169 x1 x3)++[(119,vB true),(120,.ref 3 0 3),(121,.fn (.func 78) [] [.ptr 4 0 0]),(122,.ref 1 0 3),(123,.tup [z1 x65.1,vI x65.2]),(124,z1 x65.1),(125,vI x65.2)],l42_168++[o42_161,oX false false 1 (.ref 3 0 3)],206⟩) ?_
           refine callR (as0:=[z1 x65.1,vI x65.2,.ptr 4 0 0]) (ids:=[4,3]) kr bodyB_78 (msnap_cons rfl (msnap_cons rfl (msnap_cons (snap_ptr rfl (msnap_cons (show snap _ _ _=some (.lst true [vI 0,vI 1,vI 2],[3]) from kr) msnap_nil (by rfl)) (by rfl) (by rfl)) msnap_nil (by rfl)) (by rfl)) (by rfl)) (fun x67 q68=>g_law08_are_int_1_k4_ok x65.1 x65.2 0 1 2 x67 q68) gF h (fun x67 q68 h=>?_)
           refine sz 2 29 (rwg [1,2,3,5,7,128] [0,1,2] ?_)
           refine rb [128] h (fun q70 h=>?_) (fun q70 h=>?_)
           ·refine sz 1 30 ?_
            refine sgL false [] [] true gE ?_
            refine callR (as0:=[.ref 0 0 4,vI 2,.ref 3 0 4]) (ids:=[0,3]) kr bodyB_35 (msnap_cons (show snap _ _ _=some (_,[0]) from kr) (msnap_cons rfl (msnap_cons (show snap _ _ _=some (_,[3]) from kr) msnap_nil (by rfl)) (by rfl)) (by rfl)) (fun x71 q72=>g_law08_best_ok [10,5,10,5] 2 [0,1,2,3] x71 q72) gF h (fun x71 q72 h=>?_)
            refine sz 2 34 (rwg [1,2,3,5,7,133] [0,1,2] ?_)
            refine rb [133] h (fun q74 h=>?_) (fun q74 h=>?_)
            ·refine sz 1 35 ?_
             refine sgL false [] [] true gE ?_
             refine callR (as0:=[.ref 1 0 3,vI 1,.ref 3 0 3]) (ids:=[1,3]) kr bodyB_35 (msnap_cons (show snap _ _ _=some (_,[1]) from kr) (msnap_cons rfl (msnap_cons (show snap _ _ _=some (_,[3]) from kr) msnap_nil (by rfl)) (by rfl)) (by rfl)) (fun x75 q76=>g_law08_best_ok [2,5,2] 1 [0,1,2] x75 q76) gF h (fun x75 q76 h=>?_)
             refine sz 2 39 (rwg [1,2,3,5,7,138] [0,1,2] ?_)
             refine rb [138] h (fun q78 h=>?_) (fun q78 h=>?_)
             ·refine sz 1 40 ?_
              refine sgL false [] [] true gE ?_
              refine callR (as0:=[.ref 2 0 4,vI 3,.ref 3 0 4]) (ids:=[2,3]) kr bodyB_35 (msnap_cons (show snap _ _ _=some (_,[2]) from kr) (msnap_cons rfl (msnap_cons (show snap _ _ _=some (_,[3]) from kr) msnap_nil (by rfl)) (by rfl)) (by rfl)) (fun x79 q80=>g_law08_best_ok [14,13,11,7] 3 [0,1,2,3] x79 q80) gF h (fun x79 q80 h=>?_)
              refine sz 2 44 ?_
              refine rw_wk (wk_gc (live:=[1,2,3,5,7,143]) (keep:=[0,1,2]) (st':=⟨(s42_169 x1 x3)++[(143,vB x79)],l42_168,206⟩) kr) ?_
              refine rb [143] h (fun q82 h=>?_) (fun q82 h=>?_)
              ·refine inlR (f:=36) (fn:=Tryd.f36) (as0:=[vI 2]) kr Tryd.func36 rfl (by decide +kernel) rfl ?_
               refine wp_eqB (base':=3) (st':=⟨[(0,vI 2)],l42_168,4⟩) kr kr ?_
               refine sq (sq (wg [2] [3] ?_))
               refine wp_ret ?_
               refine ⟨⟨(s42_169 x1 x3)++[(143,vB true),(144,.fn (.func 72) [] [.ptr 3 0 0])],l42_168++[oX true true 1 (vI 2)],206⟩,by as_aux_lemma=>kernel_rfl,?_⟩
               refine sz 1 46 ?_
               refine callR (as0:=[.ref 0 0 4]) (ids:=[0]) kr bodyB_24 (msnap_cons (show snap _ _ _=some (_,[0]) from kr) msnap_nil (by rfl)) (fun x83 q84=>g_order_Low_ok [10,5,10,5] x83 q84) gF h (fun x83 q84 h=>?_)
               refine sgz 2 49 (S:=⟨(s42_169 x1 x3)++[(143,vB true),(144,.fn (.func 72) [] [.ptr 3 0 0]),(145,.ref 0 0 4),(146,.tup [vI x83.1,vI x83.2]),(147,vI x83.1),(148,vI x83.2)],l42_168++[oX true true 1 (vI 2)],206⟩) ?_
               refine callR (as0:=[vI x83.1,vI x83.2,.ptr 3 0 0]) (ids:=[3]) kr bodyB_72 (msnap_cons rfl (msnap_cons rfl (msnap_cons (snap_ptr rfl (msnap_cons rfl msnap_nil (by rfl)) (by rfl) (by rfl)) msnap_nil (by rfl)) (by rfl)) (by rfl)) (fun x85 q86=>g_law08_is_int_1_k2_ok x83.1 x83.2 2 x85 q86) gF h (fun x85 q86 h=>?_)
               refine sz 2 52 (rwg [1,2,3,5,7,151] [0,1,2] ?_)
               refine rb [151] h (fun q88 h=>?_) (fun q88 h=>?_)
               ·refine inlR (f:=36) (fn:=Tryd.f36) (as0:=[vI 1]) kr Tryd.func36 rfl (by decide +kernel) rfl ?_
                refine wp_eqB (base':=3) (st':=⟨[(0,vI 1)],l42_168,4⟩) kr kr ?_
                refine sq (sq (wg [2] [3] ?_))
                refine wp_ret ?_
                refine ⟨⟨(s42_169 x1 x3)++[(151,vB true),(152,.fn (.func 72) [] [.ptr 3 0 0])],l42_168++[oX true true 1 (vI 1)],206⟩,by as_aux_lemma=>kernel_rfl,?_⟩
                refine sz 1 54 ?_
                refine callR (as0:=[.ref 1 0 3]) (ids:=[1]) kr bodyB_24 (msnap_cons (show snap _ _ _=some (_,[1]) from kr) msnap_nil (by rfl)) (fun x89 q90=>g_order_Low_ok [2,5,2] x89 q90) gF h (fun x89 q90 h=>?_)
                refine sgz 2 57 (S:=⟨(s42_169 x1 x3)++[(151,vB true),(152,.fn (.func 72) [] [.ptr 3 0 0]),(153,.ref 1 0 3),(154,.tup [vI x89.1,vI x89.2]),(155,vI x89.1),(156,vI x89.2)],l42_168++[oX true true 1 (vI 1)],206⟩) ?_
                refine callR (as0:=[vI x89.1,vI x89.2,.ptr 3 0 0]) (ids:=[3]) kr bodyB_72 (msnap_cons rfl (msnap_cons rfl (msnap_cons (snap_ptr rfl (msnap_cons rfl msnap_nil (by rfl)) (by rfl) (by rfl)) msnap_nil (by rfl)) (by rfl)) (by rfl)) (fun x91 q92=>g_law08_is_int_1_k2_ok x89.1 x89.2 1 x91 q92) gF h (fun x91 q92 h=>?_)
                refine sz 2 60 (rwg [1,2,3,5,7,159] [0,1,2] ?_)
                refine rb [159] h (fun q94 h=>?_) (fun q94 h=>?_)
                ·refine inlR (f:=36) (fn:=Tryd.f36) (as0:=[vI 3]) kr Tryd.func36 rfl (by decide +kernel) rfl ?_
                 refine wp_eqB (base':=3) (st':=⟨[(0,vI 3)],l42_168,4⟩) kr kr ?_
                 refine sq (sq (wg [2] [3] ?_))
                 refine wp_ret ?_
                 refine ⟨⟨(s42_169 x1 x3)++[(159,vB true),(160,.fn (.func 72) [] [.ptr 3 0 0])],l42_168++[oX true true 1 (vI 3)],206⟩,by as_aux_lemma=>kernel_rfl,?_⟩
                 refine sz 1 62 ?_
                 refine callR (as0:=[.ref 2 0 4]) (ids:=[2]) kr bodyB_24 (msnap_cons (show snap _ _ _=some (_,[2]) from kr) msnap_nil (by rfl)) (fun x95 q96=>g_order_Low_ok [14,13,11,7] x95 q96) gF h (fun x95 q96 h=>?_)
                 refine sgz 2 65 (S:=⟨(s42_169 x1 x3)++[(159,vB true),(160,.fn (.func 72) [] [.ptr 3 0 0]),(161,.ref 2 0 4),(162,.tup [vI x95.1,vI x95.2]),(163,vI x95.1),(164,vI x95.2)],l42_168++[oX true true 1 (vI 3)],206⟩) ?_
                 refine callR (as0:=[vI x95.1,vI x95.2,.ptr 3 0 0]) (ids:=[3]) kr bodyB_72 (msnap_cons rfl (msnap_cons rfl (msnap_cons (snap_ptr rfl (msnap_cons rfl msnap_nil (by rfl)) (by rfl) (by rfl)) msnap_nil (by rfl)) (by rfl)) (by rfl)) (fun x97 q98=>g_law08_is_int_1_k2_ok x95.1 x95.2 3 x97 q98) gF h (fun x97 q98 h=>?_)
                 refine sz 2 68 (rwg [1,2,5,7,167] [0,1] ?_)
                 refine rb [167] h (fun q100 h=>?_) (fun q100 h=>?_)
                 ·refine inlR (f:=37) (fn:=Tryd.f37) (as0:=[vB false]) kr Tryd.func37 rfl (by decide +kernel) rfl ?_
                  refine wp_eqB (base':=2) (st':=⟨[(0,vB false)],[o42_162,o42_163],4⟩) kr kr ?_
                  refine sq (sq (wg [2] [2] ?_))
                  refine wp_ret ?_
                  refine ⟨⟨[e42_164,e42_165,(5,vI x1.2),(7,vI x3.2),(167,vB true),(168,.fn (.func 73) [] [.ptr 2 0 0])],[o42_162,o42_163,oX true true 1 (vB false)],206⟩,by as_aux_lemma=>kernel_rfl,?_⟩
                  refine sz 1 70 ?_
                  refine callR (as0:=[.ref 0 0 4]) (ids:=[0]) kr bodyB_25 (msnap_cons (show snap _ _ _=some (_,[0]) from kr) msnap_nil (by rfl)) (fun x101 q102=>g_order_Chordal_ok [10,5,10,5] x101 q102) gF h (fun x101 q102 h=>?_)
                  refine sgz 2 73 (S:=⟨[e42_164,e42_165,(5,vI x1.2),(7,vI x3.2),(167,vB true),(168,.fn (.func 73) [] [.ptr 2 0 0]),(169,.ref 0 0 4),(170,.tup [vB x101.1,vI x101.2]),(171,vB x101.1),(172,vI x101.2)],[o42_162,o42_163,oX true true 1 (vB false)],206⟩) ?_
                  refine callR (as0:=[vB x101.1,vI x101.2,.ptr 2 0 0]) (ids:=[2]) kr bodyB_73 (msnap_cons rfl (msnap_cons rfl (msnap_cons (snap_ptr rfl (msnap_cons rfl msnap_nil (by rfl)) (by rfl) (by rfl)) msnap_nil (by rfl)) (by rfl)) (by rfl)) (fun x103 q104=>g_law08_is_bool_1_k5_ok x101.1 x101.2 false x103 q104) gF h (fun x103 q104 h=>?_)
                  refine sz 2 76 (rwg [2,5,7,175] [1] ?_)
                  refine rb [175] h (fun q106 h=>?_) (fun q106 h=>?_)
                  ·refine inlR (f:=37) (fn:=Tryd.f37) (as0:=[vB true]) kr Tryd.func37 rfl (by decide +kernel) rfl ?_
                   refine wp_eqB (base':=1) (st':=⟨[(0,vB true)],[o42_163],4⟩) kr kr ?_
                   refine sq (sq (wg [2] [1] ?_))
                   refine wp_ret ?_
                   refine ⟨⟨[(2,.ref 0 0 3),(5,vI x1.2),(7,vI x3.2),(175,vB true),(176,.fn (.func 73) [] [.ptr 1 0 0])],[o42_163,oX true true 1 (vB true)],206⟩,by as_aux_lemma=>kernel_rfl,?_⟩
                   refine sz 1 78 ?_
                   refine callR (as0:=[.ref 0 0 3]) (ids:=[0]) kr bodyB_25 (msnap_cons (show snap _ _ _=some (_,[0]) from kr) msnap_nil (by rfl)) (fun x107 q108=>g_order_Chordal_ok [2,5,2] x107 q108) gF h (fun x107 q108 h=>?_)
                   refine sgz 2 81 (S:=⟨[(2,.ref 0 0 3),(5,vI x1.2),(7,vI x3.2),(175,vB true),(176,.fn (.func 73) [] [.ptr 1 0 0]),(177,.ref 0 0 3),(178,.tup [vB x107.1,vI x107.2]),(179,vB x107.1),(180,vI x107.2)],[o42_163,oX true true 1 (vB true)],206⟩) ?_
                   refine callR (as0:=[vB x107.1,vI x107.2,.ptr 1 0 0]) (ids:=[1]) kr bodyB_73 (msnap_cons rfl (msnap_cons rfl (msnap_cons (snap_ptr rfl (msnap_cons rfl msnap_nil (by rfl)) (by rfl) (by rfl)) msnap_nil (by rfl)) (by rfl)) (by rfl)) (fun x109 q110=>g_law08_is_bool_1_k5_ok x107.1 x107.2 true x109 q110) gF h (fun x109 q110 h=>?_)
                   refine sz 2 84 (reg_end rfl (wp_seq (wg [5,7,8] [] (reg_in (sz 2 2 ?_)))))
                   refine rb [8,183,184] h (fun q112 h=>?_) (fun q112 h=>?_)
                   ·refine sz 4 6 (rwg [7,188] [] ?_)
                    refine rb [188] h (fun q114 h=>?_) (fun q114 h=>?_)
                    ·refine sz 4 10 ?_
                     refine rw_wk (wk_gc (live:=[192]) (keep:=[]) (st':=⟨[(192,vB (x3.2==81))],[],206⟩) kr) ?_
                     refine rb [192] h (fun q116 h=>?_) (fun q116 h=>?_)
                     ·refine sgL false [] [] true gE ?_
                      refine callR (as0:=[.ref 0 0 2]) (ids:=[0]) kr bodyB_14 (msnap_cons (show snap _ _ _=some (_,[0]) from kr) msnap_nil (by rfl)) (fun x117 q118=>g_order_Check_ok [2,0] x117 q118) gF h (fun x117 q118 h=>?_)
                      refine sz 3 15 (rwg [197] [] ?_)
                      refine rb [197] h (fun q120 h=>?_) (fun q120 h=>?_)
                      ·refine sgL false [] [] true gE ?_
                       refine callR (as0:=[.ref 0 0 1]) (ids:=[0]) kr bodyB_14 (msnap_cons (show snap _ _ _=some (_,[0]) from kr) msnap_nil (by rfl)) (fun x121 q122=>g_order_Check_ok [1] x121 q122) gF h (fun x121 q122 h=>?_)
                       refine sz 3 20 (rwg [202] [] ?_)
                       refine rb [202] h (fun q124 h=>?_) (fun q124 h=>?_)
                       ·refine callR (as0:=[.nils]) (us:=[.nils]) (ids:=[]) kr bodyB_14 (msnap_cons rfl msnap_nil) (fun x125 q126=>CallOk.args [[.lst true]] (g_order_Check_ok [] x125 q126)) gF h (fun x125 q126 h=>?_)
                        refine sz 3 24 (reg_end rfl ?_)
                        refine wgc [0] [] ⟨[(0,vB (x125==80))],[],206⟩ ?_
                        cases h
                        exact wp_ret (show fnOut _ _ _ _=_ from by kernel_rfl)
                       refine sz 4 24 (reg_end rfl ?_)
                       refine wgc [0] [] ⟨[(0,vB false)],[],206⟩ ?_
                       cases h
                       exact wp_ret (show fnOut _ _ _ _=_ from by kernel_rfl)
                      refine sz 9 24 (reg_end rfl (wg [0] [] ?_))
                      cases h
                      exact wp_ret (show fnOut _ _ _ _=_ from by kernel_rfl)
                     refine sz 14 24 (reg_end rfl (wg [0] [] ?_))
                     cases h
                     exact wp_ret (show fnOut _ _ _ _=_ from by kernel_rfl)
                    refine sz 18 24 (reg_end rfl ?_)
                    refine wgc [0] [] ⟨[(0,vB false)],[],206⟩ ?_
                    cases h
                    exact wp_ret (show fnOut _ _ _ _=_ from by kernel_rfl)
                   refine sz 22 24 (reg_end rfl ?_)
                   refine wgc [0] [] ⟨[(0,vB false)],[],206⟩ ?_
                   cases h
                   exact wp_ret (show fnOut _ _ _ _=_ from by kernel_rfl)
                  refine sz 8 84 (reg_end rfl (wp_seq (wg [5,7,8] [] (rn ?_))))
                  refine wgc [0] [] ⟨[(0,vB false)],[],206⟩ ?_
                  cases h
                  exact wp_ret (show fnOut _ _ _ _=_ from by kernel_rfl)
                 refine sz 16 84 (reg_end rfl (wp_seq ?_))
                 refine wgc [5,7,8] [] (u42_170 x1 x3) ?_
                 refine rn (wg [0] [] ?_)
                 cases h
                 exact wp_ret (show fnOut _ _ _ _=_ from by kernel_rfl)
                refine sz 24 84 (reg_end rfl (wp_seq ?_))
                refine wgc [5,7,8] [] (u42_170 x1 x3) ?_
                refine rn (wg [0] [] ?_)
                cases h
                exact wp_ret (show fnOut _ _ _ _=_ from by kernel_rfl)
               refine sz 32 84 (reg_end rfl (wp_seq ?_))
               refine wgc [5,7,8] [] (u42_170 x1 x3) ?_
               refine rn (wg [0] [] ?_)
               cases h
               exact wp_ret (show fnOut _ _ _ _=_ from by kernel_rfl)
              refine sgz 40 84 (S:=⟨(s42_169 x1 x3)++[(143,vB false),(144,.tup []),(145,.tup []),(146,.tup []),(147,.tup []),(148,.tup []),(149,.tup []),(150,vB false),(151,vB false),(152,.tup []),(153,.tup []),(154,.tup []),(155,.tup []),(156,.tup []),(157,.tup []),(158,vB false),(159,vB false),(160,.tup []),(161,.tup []),(162,.tup []),(163,.tup []),(164,.tup []),(165,.tup []),(166,vB false),(167,vB false),(168,.tup []),(169,.tup []),(170,.tup []),(171,.tup []),(172,.tup []),(173,.tup []),(174,vB false),(175,vB false),(176,.tup []),(177,.tup []),(178,.tup []),(179,.tup []),(180,.tup []),(181,.tup []),(182,vB false),(8,vB false)],l42_168,206⟩) ?_
              refine reg_end rfl (wp_seq (wg [5,7,8] [] (rn (wg [0] [] ?_))))
              cases h
              exact wp_ret (show fnOut _ _ _ _=_ from by kernel_rfl)
             refine sgz 45 84 (S:=⟨(s42_169 x1 x3)++[(138,vB false),(139,.tup []),(140,.tup []),(141,.tup []),(142,vB false),(143,vB false),(144,.tup []),(145,.tup []),(146,.tup []),(147,.tup []),(148,.tup []),(149,.tup []),(150,vB false),(151,vB false),(152,.tup []),(153,.tup []),(154,.tup []),(155,.tup []),(156,.tup []),(157,.tup []),(158,vB false),(159,vB false),(160,.tup []),(161,.tup []),(162,.tup []),(163,.tup []),(164,.tup []),(165,.tup []),(166,vB false),(167,vB false),(168,.tup []),(169,.tup []),(170,.tup []),(171,.tup []),(172,.tup []),(173,.tup []),(174,vB false),(175,vB false),(176,.tup []),(177,.tup []),(178,.tup []),(179,.tup []),(180,.tup []),(181,.tup []),(182,vB false),(8,vB false)],l42_168,206⟩) ?_
             refine reg_end rfl (wp_seq (wg [5,7,8] [] (rn (wg [0] [] ?_))))
             cases h
             exact wp_ret (show fnOut _ _ _ _=_ from by kernel_rfl)
            refine sgz 50 84 (S:=⟨(s42_169 x1 x3)++[(133,vB false),(134,.tup []),(135,.tup []),(136,.tup []),(137,vB false),(138,vB false),(139,.tup []),(140,.tup []),(141,.tup []),(142,vB false),(143,vB false),(144,.tup []),(145,.tup []),(146,.tup []),(147,.tup []),(148,.tup []),(149,.tup []),(150,vB false),(151,vB false),(152,.tup []),(153,.tup []),(154,.tup []),(155,.tup []),(156,.tup []),(157,.tup []),(158,vB false),(159,vB false),(160,.tup []),(161,.tup []),(162,.tup []),(163,.tup []),(164,.tup []),(165,.tup []),(166,vB false),(167,vB false),(168,.tup []),(169,.tup []),(170,.tup []),(171,.tup []),(172,.tup []),(173,.tup []),(174,vB false),(175,vB false),(176,.tup []),(177,.tup []),(178,.tup []),(179,.tup []),(180,.tup []),(181,.tup []),(182,vB false),(8,vB false)],l42_168,206⟩) ?_
            refine reg_end rfl (wp_seq (wg [5,7,8] [] (rn (wg [0] [] ?_))))
            cases h
            exact wp_ret (show fnOut _ _ _ _=_ from by kernel_rfl)
           refine sgz 55 84 (S:=⟨(s42_169 x1 x3)++[(128,vB false),(129,.tup []),(130,.tup []),(131,.tup []),(132,vB false),(133,vB false),(134,.tup []),(135,.tup []),(136,.tup []),(137,vB false),(138,vB false),(139,.tup []),(140,.tup []),(141,.tup []),(142,vB false),(143,vB false),(144,.tup []),(145,.tup []),(146,.tup []),(147,.tup []),(148,.tup []),(149,.tup []),(150,vB false),(151,vB false),(152,.tup []),(153,.tup []),(154,.tup []),(155,.tup []),(156,.tup []),(157,.tup []),(158,vB false),(159,vB false),(160,.tup []),(161,.tup []),(162,.tup []),(163,.tup []),(164,.tup []),(165,.tup []),(166,vB false),(167,vB false),(168,.tup []),(169,.tup []),(170,.tup []),(171,.tup []),(172,.tup []),(173,.tup []),(174,vB false),(175,vB false),(176,.tup []),(177,.tup []),(178,.tup []),(179,.tup []),(180,.tup []),(181,.tup []),(182,vB false),(8,vB false)],l42_168,206⟩) ?_
           refine reg_end rfl (wp_seq (wg [5,7,8] [] (rn (wg [0] [] ?_))))
           cases h
           exact wp_ret (show fnOut _ _ _ _=_ from by kernel_rfl)
          refine sgz 64 84 (S:=⟨(s42_169 x1 x3)++[(119,vB false),(120,.tup []),(121,.tup []),(122,.tup []),(123,.tup []),(124,.tup []),(125,.tup []),(126,.tup []),(127,vB false),(128,vB false),(129,.tup []),(130,.tup []),(131,.tup []),(132,vB false),(133,vB false),(134,.tup []),(135,.tup []),(136,.tup []),(137,vB false),(138,vB false),(139,.tup []),(140,.tup []),(141,.tup []),(142,vB false),(143,vB false),(144,.tup []),(145,.tup []),(146,.tup []),(147,.tup []),(148,.tup []),(149,.tup []),(150,vB false),(151,vB false),(152,.tup []),(153,.tup []),(154,.tup []),(155,.tup []),(156,.tup []),(157,.tup []),(158,vB false),(159,vB false),(160,.tup []),(161,.tup []),(162,.tup []),(163,.tup []),(164,.tup []),(165,.tup []),(166,vB false),(167,vB false),(168,.tup []),(169,.tup []),(170,.tup []),(171,.tup []),(172,.tup []),(173,.tup []),(174,vB false),(175,vB false),(176,.tup []),(177,.tup []),(178,.tup []),(179,.tup []),(180,.tup []),(181,.tup []),(182,vB false),(8,vB false)],l42_168,206⟩) ?_
          refine reg_end rfl (wp_seq (wg [5,7,8] [] (rn (wg [0] [] ?_))))
          cases h
          exact wp_ret (show fnOut _ _ _ _=_ from by kernel_rfl)
         refine sgz 73 84 (S:=⟨(s42_169 x1 x3)++[(110,vB false),(111,.tup []),(112,.tup []),(113,.tup []),(114,.tup []),(115,.tup []),(116,.tup []),(117,.tup []),(118,vB false),(119,vB false),(120,.tup []),(121,.tup []),(122,.tup []),(123,.tup []),(124,.tup []),(125,.tup []),(126,.tup []),(127,vB false),(128,vB false),(129,.tup []),(130,.tup []),(131,.tup []),(132,vB false),(133,vB false),(134,.tup []),(135,.tup []),(136,.tup []),(137,vB false),(138,vB false),(139,.tup []),(140,.tup []),(141,.tup []),(142,vB false),(143,vB false),(144,.tup []),(145,.tup []),(146,.tup []),(147,.tup []),(148,.tup []),(149,.tup []),(150,vB false),(151,vB false),(152,.tup []),(153,.tup []),(154,.tup []),(155,.tup []),(156,.tup []),(157,.tup []),(158,vB false),(159,vB false),(160,.tup []),(161,.tup []),(162,.tup []),(163,.tup []),(164,.tup []),(165,.tup []),(166,vB false),(167,vB false),(168,.tup []),(169,.tup []),(170,.tup []),(171,.tup []),(172,.tup []),(173,.tup []),(174,vB false),(175,vB false),(176,.tup []),(177,.tup []),(178,.tup []),(179,.tup []),(180,.tup []),(181,.tup []),(182,vB false),(8,vB false)],[o42_162,o42_155,o42_156],206⟩) ?_
         refine reg_end rfl (wp_seq (wg [5,7,8] [] (rn (wg [0] [] ?_))))
         cases h
         exact wp_ret (show fnOut _ _ _ _=_ from by kernel_rfl)
        refine sgz 82 84 (S:=⟨(s42_169 x1 x3)++[(8,vB false),(100,vB false),(101,vB false),(102,.tup []),(103,.tup []),(104,.tup []),(105,.tup []),(106,.tup []),(107,.tup []),(108,.tup []),(109,vB false),(110,vB false),(111,.tup []),(112,.tup []),(113,.tup []),(114,.tup []),(115,.tup []),(116,.tup []),(117,.tup []),(118,vB false),(119,vB false),(120,.tup []),(121,.tup []),(122,.tup []),(123,.tup []),(124,.tup []),(125,.tup []),(126,.tup []),(127,vB false),(128,vB false),(129,.tup []),(130,.tup []),(131,.tup []),(132,vB false),(133,vB false),(134,.tup []),(135,.tup []),(136,.tup []),(137,vB false),(138,vB false),(139,.tup []),(140,.tup []),(141,.tup []),(142,vB false),(143,vB false),(144,.tup []),(145,.tup []),(146,.tup []),(147,.tup []),(148,.tup []),(149,.tup []),(150,vB false),(151,vB false),(152,.tup []),(153,.tup []),(154,.tup []),(155,.tup []),(156,.tup []),(157,.tup []),(158,vB false),(159,vB false),(160,.tup []),(161,.tup []),(162,.tup []),(163,.tup []),(164,.tup []),(165,.tup []),(166,vB false),(167,vB false),(168,.tup []),(169,.tup []),(170,.tup []),(171,.tup []),(172,.tup []),(173,.tup []),(174,vB false),(175,vB false),(176,.tup []),(177,.tup []),(178,.tup []),(179,.tup []),(180,.tup []),(181,.tup []),(182,vB false)],l42_167,206⟩) ?_
        refine reg_end rfl (wp_seq (wg [5,7,8] [] (rn (wg [0] [] ?_))))
        cases h
        exact wp_ret (show fnOut _ _ _ _=_ from by kernel_rfl)
       refine sz 9 77 (reg_end rfl (wp_seq (wg [1,2,3,5,7,8] [0,1,2] (rn (wp_seq ?_)))))
       refine wgc [5,7,8] [] (u42_170 x1 x3) ?_
       refine rn (wg [0] [] ?_)
       cases h
       exact wp_ret (show fnOut _ _ _ _=_ from by kernel_rfl)
      refine sz 18 77 (reg_end rfl (wp_seq ?_))
      refine wgc [1,2,3,5,7,8] [0,1,2] ⟨(s42_169 x1 x3)++[(8,vB false)],l42_167,206⟩ ?_
      refine rn (wp_seq (wg [5,7,8] [] (rn (wg [0] [] ?_))))
      cases h
      exact wp_ret (show fnOut _ _ _ _=_ from by kernel_rfl)
     refine sz 27 77 (reg_end rfl (wp_seq ?_))
     refine wgc [1,2,3,5,7,8] [0,1,2] ⟨(s42_169 x1 x3)++[(8,vB false)],l42_167,206⟩ ?_
     refine rn (wp_seq (wg [5,7,8] [] (rn (wg [0] [] ?_))))
     cases h
     exact wp_ret (show fnOut _ _ _ _=_ from by kernel_rfl)
    refine sgz 36 77 (S:=⟨(s42_169 x1 x3)++[(64,vB false),(65,.tup []),(66,.tup []),(67,.tup []),(68,.tup []),(69,.tup []),(70,.tup []),(71,.tup []),(72,vB false),(73,vB false),(74,.tup []),(75,.tup []),(76,.tup []),(77,.tup []),(78,.tup []),(79,.tup []),(80,.tup []),(81,vB false),(82,vB false),(83,.tup []),(84,.tup []),(85,.tup []),(86,.tup []),(87,.tup []),(88,.tup []),(89,.tup []),(90,vB false),(91,vB false),(92,.tup []),(93,.tup []),(94,.tup []),(95,.tup []),(96,.tup []),(97,.tup []),(98,.tup []),(99,vB false),(8,vB false)],l42_167,206⟩) ?_
    refine reg_end rfl (wp_seq (wg [1,2,3,5,7,8] [0,1,2] (rn (wp_seq (wg [5,7,8] [] (rn (wg [0] [] ?_)))))))
    cases h
    exact wp_ret (show fnOut _ _ _ _=_ from by kernel_rfl)
   refine sgz 45 77 (S:=⟨(s42_169 x1 x3)++[(55,vB false),(56,.tup []),(57,.tup []),(58,.tup []),(59,.tup []),(60,.tup []),(61,.tup []),(62,.tup []),(63,vB false),(64,vB false),(65,.tup []),(66,.tup []),(67,.tup []),(68,.tup []),(69,.tup []),(70,.tup []),(71,.tup []),(72,vB false),(73,vB false),(74,.tup []),(75,.tup []),(76,.tup []),(77,.tup []),(78,.tup []),(79,.tup []),(80,.tup []),(81,vB false),(82,vB false),(83,.tup []),(84,.tup []),(85,.tup []),(86,.tup []),(87,.tup []),(88,.tup []),(89,.tup []),(90,vB false),(91,vB false),(92,.tup []),(93,.tup []),(94,.tup []),(95,.tup []),(96,.tup []),(97,.tup []),(98,.tup []),(99,vB false),(8,vB false)],l42_167,206⟩) ?_
   refine reg_end rfl (wp_seq (wg [1,2,3,5,7,8] [0,1,2] (rn (wp_seq (wg [5,7,8] [] (rn (wg [0] [] ?_)))))))
   cases h
   exact wp_ret (show fnOut _ _ _ _=_ from by kernel_rfl)
  refine sgz 56 77 (S:=⟨(s42_169 x1 x3)++[(44,vB false),(45,.tup []),(46,.tup []),(47,.tup []),(48,.tup []),(49,.tup []),(50,.tup []),(51,.tup []),(52,.tup []),(53,.tup []),(54,vB false),(55,vB false),(56,.tup []),(57,.tup []),(58,.tup []),(59,.tup []),(60,.tup []),(61,.tup []),(62,.tup []),(63,vB false),(64,vB false),(65,.tup []),(66,.tup []),(67,.tup []),(68,.tup []),(69,.tup []),(70,.tup []),(71,.tup []),(72,vB false),(73,vB false),(74,.tup []),(75,.tup []),(76,.tup []),(77,.tup []),(78,.tup []),(79,.tup []),(80,.tup []),(81,vB false),(82,vB false),(83,.tup []),(84,.tup []),(85,.tup []),(86,.tup []),(87,.tup []),(88,.tup []),(89,.tup []),(90,vB false),(91,vB false),(92,.tup []),(93,.tup []),(94,.tup []),(95,.tup []),(96,.tup []),(97,.tup []),(98,.tup []),(99,vB false),(8,vB false)],l42_167,206⟩) ?_
  refine reg_end rfl (wp_seq (wg [1,2,3,5,7,8] [0,1,2] (rn (wp_seq (wg [5,7,8] [] (rn (wg [0] [] ?_)))))))
  cases h
  exact wp_ret (show fnOut _ _ _ _=_ from by kernel_rfl)
 refine sgz 67 77 (S:=⟨(s42_169 x1 x3)++[(33,vB false),(34,.tup []),(35,.tup []),(36,.tup []),(37,.tup []),(38,.tup []),(39,.tup []),(40,.tup []),(41,.tup []),(42,.tup []),(43,vB false),(44,vB false),(45,.tup []),(46,.tup []),(47,.tup []),(48,.tup []),(49,.tup []),(50,.tup []),(51,.tup []),(52,.tup []),(53,.tup []),(54,vB false),(55,vB false),(56,.tup []),(57,.tup []),(58,.tup []),(59,.tup []),(60,.tup []),(61,.tup []),(62,.tup []),(63,vB false),(64,vB false),(65,.tup []),(66,.tup []),(67,.tup []),(68,.tup []),(69,.tup []),(70,.tup []),(71,.tup []),(72,vB false),(73,vB false),(74,.tup []),(75,.tup []),(76,.tup []),(77,.tup []),(78,.tup []),(79,.tup []),(80,.tup []),(81,vB false),(82,vB false),(83,.tup []),(84,.tup []),(85,.tup []),(86,.tup []),(87,.tup []),(88,.tup []),(89,.tup []),(90,vB false),(91,vB false),(92,.tup []),(93,.tup []),(94,.tup []),(95,.tup []),(96,.tup []),(97,.tup []),(98,.tup []),(99,vB false),(8,vB false)],l42_167,206⟩) ?_
 refine reg_end rfl (wp_seq (wg [1,2,3,5,7,8] [0,1,2] (rn (wp_seq (wg [5,7,8] [] (rn (wg [0] [] ?_)))))))
 cases h
 exact wp_ret (show fnOut _ _ _ _=_ from by kernel_rfl)
theorem g_ref08_Copy_ok (p0:(List Int)) (x:(List Int)) (h:g_ref08_Copy p0=some x):CallOk Tryd.prog 83 [eL true (AV.int .u64) p0] (.ret (.ref 0 0 x.length) [oR true 1 (AV.int .u64) x]):=by
 refine fn_ok [] Tryd.func83 rfl (by decide +kernel) rfl ?_
 unfold g_ref08_Copy at h
 refine wp_eqB (base':=0) (st':=⟨[(0,eL true (AV.int .u64) p0)],[],7⟩) kr kr ?_
 refine sq (sq (wp_seq (reg_in (sz 2 2 ?_))))
 refine appN (enc:=(AV.int .u64)) (m:=p0) (w:=1) (bytes:=8) (nr':=true) (fl':=true) (a:=.nils) (b:=eL true (AV.int .u64) p0) (rds:=[]) false kr (.inl rfl) (elems_lst (fun _=>rfl)) rfl gE kr h (fun h=>?_)
 refine sz 1 4 (reg_end rfl (wg [2] [0] ?_))
 cases h
 exact wp_ret (show fnOut _ _ _ _=_ from by kernel_rfl)
noncomputable abbrev i44_171 (a8:Int) (a6:(Int × Int)):Int:=(zv (BitVec.ofInt (IntKind.bits .u64) a8 ||| BitVec.ofInt (IntKind.bits .u64) (zv (1*2^min (zt (zv (a6.2))) (IntKind.bits .u64)))).toNat)
noncomputable abbrev i44_172 (a10:Int) (a6:(Int × Int)):Int:=(zv (BitVec.ofInt (IntKind.bits .u64) a10 ||| BitVec.ofInt (IntKind.bits .u64) (zv (1*2^min (zt (zv (a6.1))) (IntKind.bits .u64)))).toNat)
noncomputable abbrev e44_173 (p1:(List (Int × Int))):Nat×AV:=(1,eL true (fun x:(Int × Int)=>AV.agg [vI x.1,vI x.2]) p1)
theorem g_ref08_Join_ok (p0:(List Int)) (p1:(List (Int × Int))) (x:(List Int)) (h:g_ref08_Join p0 p1=some x):CallOk Tryd.prog 53 [eL true (AV.int .u64) p0,eL true (fun x:(Int × Int)=>AV.agg [vI x.1,vI x.2]) p1] (.ret (.ref 0 0 x.length) [oR true 1 (AV.int .u64) x]):=by
 refine fn_ok [] Tryd.func53 rfl (by decide +kernel) rfl ?_
 unfold g_ref08_Join at h
 refine wp_eqB (base':=0) (st':=⟨[(0,eL true (AV.int .u64) p0),(e44_173 p1)],[],49⟩) kr kr ?_
 refine sq (wp_seq (reg_in (sz 1 1 ?_)))
 refine callW bodyB_83 (g_ref08_Copy_ok p0) h (fun x1 _ h=>?_)
 refine sz 1 3 (reg_end rfl (wp_seq (sq (wp_block ?_))))
 refine wwh h (fun s3=>⟨[(0,.ref 0 0 s3.2.length),(e44_173 p1),(5,vI s3.1)],[oR true 1 (AV.int .u64) s3.2],49⟩) (fun v out=>out=.go (.exit 0) ⟨[(0,.ref 0 0 v.length)],[oR true 1 (AV.int .u64) v],49⟩) (wk_gc (live:=[0,1,5]) (keep:=[0]) kr) ?_ ?_
 ·intro s3 o h
  unfold g_ref08_Join_b0 at h
  refine wp_seq (wp_seq (reg_in (sz 2 2 ?_)))
  refine lenL (enc:=(fun x:(Int × Int)=>AV.agg [vI x.1,vI x.2])) (l:=p1) (fl:=true) kr gE ?_
  refine sz 1 4 (reg_end rfl ?_)
  refine wb [13] h (fun q5 h=>?_) (fun q5 h=>?_)
  ·refine wcT (wp_skip (wp_seq (wp_block (wp_seq (rga hfol (sy 2 2 ?_))))))
   refine bind_elim h (fun a6 q7 h=>?_)
   refine idxL' (enc:=(fun x:(Int × Int)=>AV.agg [vI x.1,vI x.2])) (l:=p1) (n:=s3.1) (fl:=true) (w:=2) (a:=a6) kr rfl gE q7 ?_
   refine sy 4 7 ?_
   refine idxL' (enc:=(fun x:(Int × Int)=>AV.agg [vI x.1,vI x.2])) (l:=p1) (n:=s3.1) (fl:=true) (w:=2) (a:=a6) kr rfl gE q7 ?_
   refine sy 4 12 (rgd (wp_seq ?_))
   refine wgc [0,1,5,6,7] [0] ⟨[(0,.ref 0 0 s3.2.length),(e44_173 p1),(5,vI s3.1),(6,vI a6.1),(7,vI a6.2)],[oR true 1 (AV.int .u64) s3.2],49⟩ ?_
   refine reg_in (sz 4 4 ?_)
   refine bind_elim h (fun a8 q9 h=>?_)
   refine idxR' (enc:=(AV.int .u64)) (l:=s3.2) (n:=a6.1) (w:=1) (ob:=0) (ro:=false) (nr:=true) (fl:=true) (a:=a8) kr kr gE q9 ?_
   refine loadR (enc:=(AV.int .u64)) (l:=s3.2) (n:=a6.1) (w:=1) (ob:=0) (c:=0) (bx:=false) (ro:=false) (nr:=true) (fl:=true) (a:=a8) kr kr q9 gE ?_
   refine sz 2 8 ?_
   refine shlR (k:=.u64) (k':=.u64) (a:=1) (b:=zv (a6.2)) kr gE h (fun h=>?_)
   refine sz 1 10 ?_
   refine idxR' (enc:=(AV.int .u64)) (l:=s3.2) (n:=a6.1) (w:=1) (ob:=0) (ro:=false) (nr:=true) (fl:=true) (a:=a8) kr kr gE q9 ?_
   refine storeR (enc:=(AV.int .u64)) (l:=s3.2) (n:=a6.1) (ob:=0) (w:=1) (bx:=false) (nr:=true) (fl:=true) (c:=0) (a:=a8) (a':=zv (BitVec.ofInt (IntKind.bits .u64) a8 ||| BitVec.ofInt (IntKind.bits .u64) (zv (1*2^min (zt (zv (a6.2))) (IntKind.bits .u64)))).toNat) (v:=.int .u64 (i44_171 a8 a6)) false kr kr q9 kr rfl kr gE kr ?_
   refine rl [0,26,28] (n:=s3.2.length) (m:=(List.set s3.2 (zt a6.1) (i44_171 a8 a6)).length) (by simp only [List.length_set]) ?_
   refine reg_end rfl (wg [0,1,5,6,7] [0] (reg_in (sz 4 4 ?_)))
   refine bind_elim h (fun a10 q11 h=>?_)
   refine idxR' (enc:=(AV.int .u64)) (l:=(List.set s3.2 (zt a6.1) (i44_171 a8 a6))) (n:=a6.2) (w:=1) (ob:=0) (ro:=false) (nr:=true) (fl:=true) (a:=a10) kr kr gE q11 ?_
   refine loadR (enc:=(AV.int .u64)) (l:=(List.set s3.2 (zt a6.1) (i44_171 a8 a6))) (n:=a6.2) (w:=1) (ob:=0) (c:=0) (bx:=false) (ro:=false) (nr:=true) (fl:=true) (a:=a10) kr kr q11 gE ?_
   refine sz 2 8 ?_
   refine shlR (k:=.u64) (k':=.u64) (a:=1) (b:=zv (a6.1)) kr gE h (fun h=>?_)
   refine sz 1 10 ?_
   refine idxR' (enc:=(AV.int .u64)) (l:=(List.set s3.2 (zt a6.1) (i44_171 a8 a6))) (n:=a6.2) (w:=1) (ob:=0) (ro:=false) (nr:=true) (fl:=true) (a:=a10) kr kr gE q11 ?_
   refine storeR (enc:=(AV.int .u64)) (l:=(List.set s3.2 (zt a6.1) (i44_171 a8 a6))) (n:=a6.2) (ob:=0) (w:=1) (bx:=false) (nr:=true) (fl:=true) (c:=0) (a:=a10) (a':=zv (BitVec.ofInt (IntKind.bits .u64) a10 ||| BitVec.ofInt (IntKind.bits .u64) (zv (1*2^min (zt (zv (a6.1))) (IntKind.bits .u64)))).toNat) (v:=.int .u64 (i44_172 a10 a6)) false kr kr q11 kr rfl kr gE kr ?_
   refine rl [0,37,39] (n:=(List.set s3.2 (zt a6.1) (i44_171 a8 a6)).length) (m:=(List.set (List.set s3.2 (zt a6.1) (i44_171 a8 a6)) (zt a6.2) (i44_172 a10 a6)).length) (by simp only [List.length_set]) ?_
   refine reg_end rfl ?_
   refine wgc [0,1,5] [0] ⟨[(0,.ref 0 0 ((List.set (List.set s3.2 (zt a6.1) (i44_171 a8 a6)) (zt a6.2) (i44_172 a10 a6)).length)),(e44_173 p1),(5,vI s3.1)],[oR true 1 (AV.int .u64) (List.set (List.set s3.2 (zt a6.1) (i44_171 a8 a6)) (zt a6.2) (i44_172 a10 a6))],49⟩ ?_
   refine rn ?_
   cases h
   exact ⟨_,rfl,(wk_gc (live:=[0,1,5]) (keep:=[0]) kr)⟩
  refine wcF (wg [0] [0] ?_)
  refine wp_exit ?_
  cases h
  exact ⟨kr,rfl⟩
 intro x15 h out hx
 subst hx
 refine sq (wg [4] [0] ?_)
 cases h
 exact wp_ret (show fnOut _ _ _ _=_ from by kernel_rfl)
noncomputable abbrev i45_174 (p0:Tharuspexref08_Draft):Int:=(zw (1+(zw (Int.tmod p0.N 7))))
noncomputable abbrev o45_175 (p0:Tharuspexref08_Draft):AObj:=oX true false 3 (.agg [.int .u8 p0.N,eL true (fun x:(Int × Int)=>AV.agg [.int .u8 x.1,.int .u8 x.2]) p0.E,eL true (AV.int .u8) p0.Order])
theorem g_ref08_Draft_Graph_ok (p0:Tharuspexref08_Draft) (x:(List Int)) (h:g_ref08_Draft_Graph p0=some x):CallOk Tryd.prog 33 [.agg [.int .u8 p0.N,eL true (fun x:(Int × Int)=>AV.agg [.int .u8 x.1,.int .u8 x.2]) p0.E,eL true (AV.int .u8) p0.Order]] (.ret (.ref 0 0 x.length) [oR true 1 (AV.int .u64) x]):=by
 refine fn_ok [] Tryd.func33 rfl (by decide +kernel) rfl ?_
 unfold g_ref08_Draft_Graph at h
 refine wp_eqB (base':=0) (st':=⟨[(0,.agg [.int .u8 p0.N,eL true (fun x:(Int × Int)=>AV.agg [.int .u8 x.1,.int .u8 x.2]) p0.E,eL true (AV.int .u8) p0.Order])],[],54⟩) kr kr ?_
 refine wp_seq (reg_in ?_)
 refine sgL false [] [] false gE ?_
 refine sz 1 2 (reg_end rfl (sq (wp_seq (wg [1,3] [0] (reg_in (sz 1 1 ?_))))))
 refine mkL (enc:=(AV.int .u64)) (z:=(0:Int)) (z0:=.int .u64 0) (n:=zw (1+(zw (Int.tmod p0.N 7)))) (m:=zw (1+(zw (Int.tmod p0.N 7)))) (w:=1) (bytes:=8) [] true kr rfl gE kr h (fun h=>?_)
 refine sz 1 3 (reg_end rfl (wp_seq (sq (wp_block ?_))))
 refine wwh h (fun s1=>⟨[(1,.ptr 0 0 0),(3,vI (i45_174 p0)),(4,.ref 1 0 s1.2.length),(5,vI s1.1)],[(o45_175 p0),oR true 1 (AV.int .u64) s1.2],54⟩) (fun v out=>out=.go (.exit 0) ⟨[(4,.ref 0 0 v.length)],[oR true 1 (AV.int .u64) v],54⟩) (wk_gc (live:=[1,3,4,5]) (keep:=[0,1]) kr) ?_ ?_
 ·intro s1 o h
  unfold g_ref08_Draft_Graph_b0 at h
  refine wp_seq (wp_seq (reg_in (sz 3 3 ?_)))
  refine lenL (enc:=(fun x:(Int × Int)=>AV.agg [.int .u8 x.1,.int .u8 x.2])) (l:=p0.E) (fl:=true) kr gE ?_
  refine sz 2 6 (rwg [1,3,4,5,20] [0,1] ?_)
  refine rb [20] h (fun q3 h=>?_) (fun q3 h=>?_)
  ·refine sz 3 9 (reg_end rfl ?_)
   refine wb [22,23] h (fun q5 h=>?_) (fun q5 h=>?_)
   ·refine wcT (wp_skip (wp_seq (wp_block (wp_seq (rga hfol (sy 3 3 ?_))))))
    refine bind_elim h (fun a6 q7 h=>?_)
    refine idxL' (enc:=(fun x:(Int × Int)=>AV.agg [.int .u8 x.1,.int .u8 x.2])) (l:=p0.E) (n:=s1.1) (fl:=true) (w:=2) (a:=a6) kr rfl gE q7 ?_
    refine sy 4 8 ?_
    refine remR (k:=.i64) (a:=zw (a6.1)) (b:=zw (1+(zw (Int.tmod p0.N 7)))) kr gE h (fun h=>?_)
    refine sy 3 12 ?_
    refine idxL' (enc:=(fun x:(Int × Int)=>AV.agg [.int .u8 x.1,.int .u8 x.2])) (l:=p0.E) (n:=s1.1) (fl:=true) (w:=2) (a:=a6) kr rfl gE q7 ?_
    refine sgy 4 17 (S:=⟨[(1,.ptr 0 0 0),(3,vI (i45_174 p0)),(4,.ref 1 0 s1.2.length),(5,vI s1.1),(20,vB true),(21,vI s1.1),(22,vB true),(23,vB true),(26,.ptr 0 0 1),(27,eL true (fun x:(Int × Int)=>AV.agg [.int .u8 x.1,.int .u8 x.2]) p0.E),(28,vI s1.1),(29,.fz [.int .u8 a6.1,.int .u8 a6.2]),(30,.fz [.int .u8 a6.1,.int .u8 a6.2]),(31,.int .u8 a6.1),(32,vI (zw (a6.1))),(33,vI (i45_174 p0)),(34,vI (Int.tmod (zw (a6.1)) (i45_174 p0))),(35,.ptr 0 0 1),(36,eL true (fun x:(Int × Int)=>AV.agg [.int .u8 x.1,.int .u8 x.2]) p0.E),(37,vI s1.1),(38,.fz [.int .u8 a6.1,.int .u8 a6.2]),(39,.fz [.int .u8 a6.2]),(40,.int .u8 a6.2),(41,vI (zw (a6.2))),(42,vI (i45_174 p0))],[(o45_175 p0),oR true 1 (AV.int .u64) s1.2],54⟩) ?_
    refine remR (k:=.i64) (a:=zw (a6.2)) (b:=zw (1+(zw (Int.tmod p0.N 7)))) kr gE h (fun h=>?_)
    refine sy 2 20 (rgd (wp_seq (wg [1,3,4,5,6,7] [0,1] (rn ?_))))
    refine wb [46] h (fun q9 h=>?_) (fun q9 h=>?_)
    ·refine wcT (reg_in (sz 4 4 ?_))
     refine sgL false [] [] true gE ?_
     refine callR (as0:=[.ref 1 0 s1.2.length,.ref 2 0 1]) (ids:=[1,2]) kr bodyB_53 (msnap_cons (snap_full (w:=1) (bx:=false) (ro:=false) (enc:=(AV.int .u64)) (l:=s1.2) (fl:=true) kr) (msnap_cons (show snap _ _ _=some (_,[2]) from kr) msnap_nil (by rfl)) (by rfl)) (fun x10 q11=>g_ref08_Join_ok s1.2 [(Int.tmod (zw (a6.1)) (i45_174 p0),Int.tmod (zw (a6.2)) (i45_174 p0))] x10 q11) gF h (fun x10 q11 h=>?_)
     refine sz 1 7 (reg_end rfl ?_)
     refine wgc [1,3,4,5] [0,3] ⟨[(1,.ptr 0 0 0),(3,vI (i45_174 p0)),(4,.ref 1 0 x10.length),(5,vI s1.1)],[(o45_175 p0),oR true 1 (AV.int .u64) x10],54⟩ ?_
     refine rn ?_
     cases h
     exact ⟨_,rfl,(wk_gc (live:=[1,3,4,5]) (keep:=[0,1]) kr)⟩
    refine wcF (wp_skip (wg [1,3,4,5] [0,1] (rn ?_)))
    cases h
    exact ⟨_,rfl,(wk_gc (live:=[1,3,4,5]) (keep:=[0,1]) kr)⟩
   refine wcF (wg [4] [1] ?_)
   refine wp_exit ?_
   cases h
   exact ⟨kr,rfl⟩
  refine sz 3 9 (reg_end rfl (wcF (wg [4] [1] ?_)))
  refine wp_exit ?_
  cases h
  exact ⟨kr,rfl⟩
 intro x13 h out hx
 subst hx
 refine sq (wg [2] [0] ?_)
 cases h
 exact wp_ret (show fnOut _ _ _ _=_ from by kernel_rfl)
noncomputable abbrev o46_176 (p0:Tharuspexref08_Draft):AObj:=oX true false 3 (.agg [.int .u8 p0.N,eL true (fun x:(Int × Int)=>AV.agg [.int .u8 x.1,.int .u8 x.2]) p0.E,eL true (AV.int .u8) p0.Order])
theorem g_ref08_Draft_List_ok (p0:Tharuspexref08_Draft) (x:(List Int)) (h:g_ref08_Draft_List p0=some x):CallOk Tryd.prog 15 [.agg [.int .u8 p0.N,eL true (fun x:(Int × Int)=>AV.agg [.int .u8 x.1,.int .u8 x.2]) p0.E,eL true (AV.int .u8) p0.Order]] (.ret (.ref 0 0 x.length) [oR true 1 eI x]):=by
 refine fn_ok [] Tryd.func15 rfl (by decide +kernel) rfl ?_
 unfold g_ref08_Draft_List at h
 refine wp_eqB (base':=0) (st':=⟨[(0,.agg [.int .u8 p0.N,eL true (fun x:(Int × Int)=>AV.agg [.int .u8 x.1,.int .u8 x.2]) p0.E,eL true (AV.int .u8) p0.Order])],[],42⟩) kr kr ?_
 refine wp_seq (reg_in ?_)
 refine sgL false [] [] false gE ?_
 refine sz 1 2 (reg_end rfl (sq (wp_seq (sq (wp_block ?_)))))
 refine wwh h (fun s1=>⟨[(1,.ptr 0 0 0),(3,.ref 1 0 s1.2.length),(4,vI s1.1)],[(o46_176 p0),oR true 1 eI s1.2],42⟩) (fun v out=>out=.go (.exit 0) ⟨[(3,.ref 0 0 v.length)],[oR true 1 eI v],42⟩) (wk_trans (wk_gc (live:=[1,3,4]) (keep:=[0]) (st':=⟨[(1,.ptr 0 0 0),(3,.nils),(4,vI 0)],[(o46_176 p0)],42⟩) kr) (wk_trans (wk_nil 3 1 true true (st':=⟨[(1,.ptr 0 0 0),(3,.ref 1 0 0),(4,vI 0)],[(o46_176 p0),.row false false true true 1 []],42⟩) kr) (wk_gc (live:=[1,3,4]) (keep:=[0,1]) kr))) ?_ ?_
 ·intro s1 o h
  unfold g_ref08_Draft_List_b0 at h
  refine wp_seq (wp_seq (reg_in (sz 2 2 ?_)))
  refine callW bodyB_33 (g_ref08_Draft_Graph_ok p0) h (fun x2 _ h=>?_)
  refine sz 2 5 (reg_end rfl ?_)
  refine wbz h (fun q5 h=>?_) (fun q5 h=>?_)
  ·refine wp_skip (wp_seq (wp_block (wp_seq (wg [1,3,4] [0,1] (rn (wp_seq (wp_seq (reg_in (sz 3 3 ?_)))))))))
   refine lenL (enc:=(AV.int .u8)) (l:=p0.Order) (fl:=true) kr gE ?_
   refine sz 1 5 (reg_end rfl ?_)
   refine wbz h (fun q7 h=>?_) (fun q7 h=>?_)
   ·refine wgc [1,3,4] [0,1] ⟨[(1,.ptr 0 0 0),(3,.ref 1 0 s1.2.length),(4,vI s1.1)],[(o46_176 p0),oR true 1 eI s1.2],42⟩ ?_
    refine reg_in (sz 3 3 ?_)
    refine bind_elim h (fun a8 q9 h=>?_)
    refine idxL' (enc:=(AV.int .u8)) (l:=p0.Order) (n:=s1.1) (fl:=true) (w:=1) (a:=a8) kr rfl gE q9 ?_
    refine sz 4 8 ?_
    refine remR (k:=.i64) (a:=zw (a8)) (b:=zw (s1.1+1)) kr gE h (fun h=>?_)
    refine sz 1 10 (reg_end rfl (wp_seq (wg [1,3,4,5] [0,1] (rn (wp_seq (reg_in (sz 3 3 ?_)))))))
    refine sliceP (enc:=eI) (l:=s1.2) (ob:=1) (ro:=false) (nr:=true) (fl:=true) (lo:=none) (hi:=(some (vI (Int.tmod (zw (a8)) (zw (s1.1+1)))))) (a:=0) (b:=Int.tmod (zw (a8)) (zw (s1.1+1))) (w:=1) kr kr rfl rfl gE h (fun q10 h=>?_)
    refine appN (enc:=eI) (m:=(sub s1.2 0 (Int.tmod (zw (a8)) (zw (s1.1+1))))) (w:=1) (bytes:=8) (nr':=true) (fl':=true) (a:=.nils) (b:=.ref 1 0 (zt (Int.tmod (zw (a8)) (zw (s1.1+1))) - zt (0:Int))) (rds:=[1]) false kr (.inl rfl) (elems_part (a:=0) (b:=Int.tmod (zw (a8)) (zw (s1.1+1))) (ro:=false) kr q10) rfl gE kr h (fun h=>?_)
    refine sz 1 6 ?_
    refine sgL false [] [] true gE ?_
    refine appR (enc:=eI) (l:=(sub s1.2 0 (Int.tmod (zw (a8)) (zw (s1.1+1))))) (m:=([s1.1]:(List Int))) (w:=1) (bytes:=8) (ob:=2) (nr:=true) (fl:=true) (nr':=true) (fl':=true) (b:=.ref 3 0 1) (rds:=[3]) false kr kr kr rfl gE kr h (fun h=>?_)
    refine sz 1 9 (reg_end rfl ?_)
    refine wgc [1,3,4,5,6] [0,1,4] ⟨[(1,.ptr 0 0 0),(3,.ref 1 0 s1.2.length),(4,vI s1.1),(5,vI (Int.tmod (zw (a8)) (zw (s1.1+1)))),(6,.ref 2 0 (((sub s1.2 0 (Int.tmod (zw (a8)) (zw (s1.1+1))))++([s1.1]:(List Int))).length))],[(o46_176 p0),oR true 1 eI s1.2,oR true 1 eI ((sub s1.2 0 (Int.tmod (zw (a8)) (zw (s1.1+1))))++([s1.1]:(List Int)))],42⟩ ?_
    refine reg_in (sz 3 3 ?_)
    refine sliceP (enc:=eI) (l:=s1.2) (ob:=1) (ro:=false) (nr:=true) (fl:=true) (lo:=(some (vI (Int.tmod (zw (a8)) (zw (s1.1+1)))))) (hi:=none) (a:=Int.tmod (zw (a8)) (zw (s1.1+1))) (b:=(zn s1.2)) (w:=1) kr kr rfl rfl gE h (fun q11 h=>?_)
    refine appR (enc:=eI) (l:=((sub s1.2 0 (Int.tmod (zw (a8)) (zw (s1.1+1))))++([s1.1]:(List Int)))) (m:=(sub s1.2 (Int.tmod (zw (a8)) (zw (s1.1+1))) (zn s1.2))) (w:=1) (bytes:=8) (ob:=2) (nr:=true) (fl:=true) (nr':=true) (fl':=true) (b:=.ref 1 (zt (Int.tmod (zw (a8)) (zw (s1.1+1)))) (zt (zn s1.2) - zt (Int.tmod (zw (a8)) (zw (s1.1+1))))) (rds:=[1]) false kr kr (elems_part (a:=Int.tmod (zw (a8)) (zw (s1.1+1))) (b:=(zn s1.2)) (ro:=false) kr q11) rfl gE kr h (fun h=>?_)
    refine sz 1 6 (reg_end rfl (wg [1,3,4] [0,3] (rn ?_)))
    cases h
    exact ⟨_,rfl,(wk_gc (live:=[1,3,4]) (keep:=[0,1]) kr)⟩
   refine wp_skip (wp_seq ?_)
   refine wgc [1,3,4,5] [0,1] ⟨[(1,.ptr 0 0 0),(3,.ref 1 0 s1.2.length),(4,vI s1.1),(5,vI 0)],[(o46_176 p0),oR true 1 eI s1.2],42⟩ ?_
   refine rn (wp_seq (reg_in (sz 3 3 ?_)))
   refine sliceP (enc:=eI) (l:=s1.2) (ob:=1) (ro:=false) (nr:=true) (fl:=true) (lo:=none) (hi:=(some (vI 0))) (a:=0) (b:=0) (w:=1) kr kr rfl rfl gE h (fun q12 h=>?_)
   refine appN (enc:=eI) (m:=(sub s1.2 0 0)) (w:=1) (bytes:=8) (nr':=true) (fl':=true) (a:=.nils) (b:=.ref 1 0 0) (rds:=[1]) false kr (.inl rfl) (elems_part (a:=0) (b:=0) (ro:=false) kr q12) rfl gE kr h (fun h=>?_)
   refine sz 1 6 ?_
   refine sgL false [] [] true gE ?_
   refine appR (enc:=eI) (l:=(sub s1.2 0 0)) (m:=([s1.1]:(List Int))) (w:=1) (bytes:=8) (ob:=2) (nr:=true) (fl:=true) (nr':=true) (fl':=true) (b:=.ref 3 0 1) (rds:=[3]) false kr kr kr rfl gE kr h (fun h=>?_)
   refine sz 1 9 (reg_end rfl (wg [1,3,4,5,6] [0,1,4] (reg_in (sz 3 3 ?_))))
   refine sliceP (enc:=eI) (l:=s1.2) (ob:=1) (ro:=false) (nr:=true) (fl:=true) (lo:=(some (vI 0))) (hi:=none) (a:=0) (b:=(zn s1.2)) (w:=1) kr kr rfl rfl gE h (fun q13 h=>?_)
   refine appR (enc:=eI) (l:=((sub s1.2 0 0)++([s1.1]:(List Int)))) (m:=(sub s1.2 0 (zn s1.2))) (w:=1) (bytes:=8) (ob:=2) (nr:=true) (fl:=true) (nr':=true) (fl':=true) (b:=.ref 1 0 (zt (zn s1.2) - zt (0:Int))) (rds:=[1]) false kr kr (elems_part (a:=0) (b:=(zn s1.2)) (ro:=false) kr q13) rfl gE kr h (fun h=>?_)
   refine sz 1 6 (reg_end rfl ?_)
   refine wgc [1,3,4] [0,3] ⟨[(1,.ptr 0 0 0),(3,.ref 1 0 ((((sub s1.2 0 0)++([s1.1]:(List Int)))++(sub s1.2 0 (zn s1.2))).length)),(4,vI s1.1)],[(o46_176 p0),oR true 1 eI (((sub s1.2 0 0)++([s1.1]:(List Int)))++(sub s1.2 0 (zn s1.2)))],42⟩ ?_
   refine rn ?_
   cases h
   exact ⟨_,rfl,(wk_gc (live:=[1,3,4]) (keep:=[0,1]) kr)⟩
  refine wg [3] [1] ?_
  refine wp_exit ?_
  cases h
  exact ⟨kr,rfl⟩
 intro x15 h out hx
 subst hx
 refine sq (wg [2] [0] ?_)
 cases h
 exact wp_ret (show fnOut _ _ _ _=_ from by kernel_rfl)
theorem g_slices_Compare_int_int_ok (p0:(List Int)) (p1:(List Int)) (x:Int) (h:g_slices_Compare_int_int p0 p1=some x):CallOk Tryd.prog 39 [z1 p0,z1 p1] (.ret (vI x) []):=by
 refine fn_ok [] Tryd.func39 rfl (by decide +kernel) rfl ?_
 unfold g_slices_Compare_int_int at h
 refine wp_eqB (base':=0) (st':=⟨[(0,z1 p0),(1,z1 p1)],[],36⟩) kr kr ?_
 refine sq (wp_seq (wp_seq (reg_in (sz 1 1 ?_))))
 refine lenL (enc:=eI) (l:=p0) (fl:=true) kr gE ?_
 refine sz 1 3 (reg_end rfl (wp_block ?_))
 refine wwh h (fun s1=>⟨[(0,z1 p0),(1,z1 p1),(9,z1 p0),(10,vI (zn p0)),(11,vI s1)],[],36⟩) (fun x out=>out=match x with | .inl v=>.go (.ret) ⟨[(4,vI v)],[],36⟩ | .inr v=>.go (.exit 0) ⟨[(0,z1 p0),(1,z1 p1)],[],36⟩) (wk_gc (live:=[0,1,9,10,11]) (keep:=[]) kr) ?_ ?_
 ·intro s1 o h
  unfold g_slices_Compare_int_int_b0 at h
  refine sq (wp_seq ?_)
  refine wb [12] h (fun q3 h=>?_) (fun q3 h=>?_)
  ·refine wcT (wp_skip (wp_seq (wp_block (wp_seq (reg_in (sz 1 1 ?_))))))
   refine bind_elim h (fun a4 q5 h=>?_)
   refine idxL' (enc:=eI) (l:=p0) (n:=s1) (fl:=true) (w:=1) (a:=a4) kr rfl gE q5 ?_
   refine sz 3 5 (reg_end rfl (wp_seq (wp_seq (reg_in (sz 2 2 ?_)))))
   refine lenL (enc:=eI) (l:=p1) (fl:=true) kr gE ?_
   refine sz 1 4 (reg_end rfl ?_)
   refine wbz h (fun q7 h=>?_) (fun q7 h=>?_)
   ·refine wp_seq ?_
    refine wgc [] [] ⟨[],[],36⟩ ?_
    refine rn (wg [4] [] ?_)
    refine wp_ret ?_
    cases h
    exact ⟨kr,rfl⟩
   refine wp_skip (wp_seq ?_)
   refine wgc [0,1,9,10,11,5,6] [] ⟨[(0,z1 p0),(1,z1 p1),(9,z1 p0),(10,vI (zn p0)),(11,vI s1),(5,vI s1),(6,vI a4)],[],36⟩ ?_
   refine reg_in (sz 2 2 ?_)
   refine bind_elim h (fun a8 q9 h=>?_)
   refine idxL' (enc:=eI) (l:=p1) (n:=s1) (fl:=true) (w:=1) (a:=a8) kr rfl gE q9 ?_
   refine sz 2 5 (reg_end rfl (wp_seq (wg [0,1,9,10,11,6,7] [] (reg_in (sz 2 2 ?_)))))
   refine callW bodyB_52 (g_cmp_Compare_int_ok a4 a8) h (fun x10 _ h=>?_)
   refine sz 1 4 (reg_end rfl (wp_seq (wg [0,1,9,10,11,8] [] (rn ?_))))
   refine wb [28] h (fun q13 h=>?_) (fun q13 h=>?_)
   ·refine wcT (wp_seq ?_)
    refine wgc [8] [] ⟨[(8,vI x10)],[],36⟩ ?_
    refine rn (wg [4] [] ?_)
    refine wp_ret ?_
    cases h
    exact ⟨kr,rfl⟩
   refine wcF (wp_skip (rn ?_))
   cases h
   exact ⟨_,rfl,(wk_gc (live:=[0,1,9,10,11]) (keep:=[]) kr)⟩
  refine wcF (wg [0,1] [] ?_)
  refine wp_exit ?_
  cases h
  exact ⟨kr,rfl⟩
 intro x14 h out hx
 subst hx
 rcases x14 with x15 | x16
 ·dsimp only at h ⊢
  cases h
  show fnOut _ _ _ _=_
  kernel_rfl
 ·dsimp only at h ⊢
  refine wp_seq (wp_seq (reg_in (sz 1 1 ?_)))
  refine lenL (enc:=eI) (l:=p0) (fl:=true) kr gE ?_
  refine sz 1 3 ?_
  refine lenL (enc:=eI) (l:=p1) (fl:=true) kr gE ?_
  refine sz 1 5 (reg_end rfl ?_)
  refine wbz h (fun q18 h=>?_) (fun q18 h=>?_)
  ·refine wp_seq (wg [] [] (rn (wg [4] [] ?_)))
   cases h
   exact wp_ret (show fnOut _ _ _ _=_ from by kernel_rfl)
  refine wp_skip (wp_seq (wg [] [] (rn (wg [4] [] ?_))))
  cases h
  exact wp_ret (show fnOut _ _ _ _=_ from by kernel_rfl)
theorem g_law08_chordal_ok (p0:(List Int)) (x:Bool) (h:g_law08_chordal p0=some x):CallOk Tryd.prog 41 [eL true (AV.int .u64) p0] (.ret (vB x) []):=by
 refine fn_ok [] Tryd.func41 rfl (by decide +kernel) rfl ?_
 unfold g_law08_chordal at h
 refine wp_eqB (base':=0) (st':=⟨[(0,eL true (AV.int .u64) p0)],[],29⟩) kr kr ?_
 refine sq (wp_seq (reg_in (sz 1 1 ?_)))
 refine callW bodyB_22 (g_order_LeastFill_ok p0) h (fun x1 _ h=>?_)
 refine sz 5 7 (reg_end rfl (wp_seq (wg [0,3,4] [] (reg_in (sz 2 2 ?_)))))
 refine callW bodyB_16 (g_order_Fill_ok p0 x1.1) h (fun x3 _ h=>?_)
 refine sz 5 8 (reg_end rfl (wp_seq ?_))
 refine wgc [4,5,6] [0] ⟨[(4,vI x1.2),(5,.ref 0 0 x3.1.length),(6,vI x3.2)],[oR true 2 (fun x:(Int × Int)=>AV.agg [vI x.1,vI x.2]) x3.1],29⟩ ?_
 refine reg_in (sz 3 3 ?_)
 refine rb [19,20] h (fun q6 h=>?_) (fun q6 h=>?_)
 ·refine sz 4 7 (rwg [5,24] [0] ?_)
  refine rb [24] h (fun q8 h=>?_) (fun q8 h=>?_)
  ·refine sz 5 12 (reg_end rfl (wg [2] [] ?_))
   cases h
   exact wp_ret (show fnOut _ _ _ _=_ from by kernel_rfl)
  refine sz 5 12 (reg_end rfl (wg [2] [] ?_))
  cases h
  exact wp_ret (show fnOut _ _ _ _=_ from by kernel_rfl)
 refine sz 9 12 (reg_end rfl (wg [2] [] ?_))
 cases h
 exact wp_ret (show fnOut _ _ _ _=_ from by kernel_rfl)
end Go.Ab
