/- What functions compute. No conditions. -/
import Derived.Test.YtjhfdojgaoapcaaDoorProg
import Derived.Test.YtjhfdojgaoapcaaDoorW9
import Derived.KernelRfl
import Derived.Test.YtjhfdojgaoapcaaDoorW10
import Derived.Test.YtjhfdojgaoapcaaDoorW15
import Derived.Test.YtjhfdojgaoapcaaDoorW11
import Derived.Test.YtjhfdojgaoapcaaDoorW12
import Derived.Test.YtjhfdojgaoapcaaDoorW13
import Derived.Test.YtjhfdojgaoapcaaDoorW14
set_option linter.all false
namespace Go.Ab
open Go Go.Proofs
set_option maxRecDepth 100000
set_option maxHeartbeats 4000000
noncomputable abbrev s11_4 (x1:(Int × Int)) (x3:(Int × Int)) (x5:((List (Int × Int)) × Int)):List (Nat × AV):=[(1,.ref 0 0 4),(2,.ref 1 0 3),(3,.ref 2 0 4),(5,vI x1.2),(7,vI x3.2),(24,.agg [vI 1,vI 3]),(25,.ref 3 0 1),(26,.fn (.func 74) [] [.ptr 4 0 0]),(27,.ref 0 0 4),(28,.ref 5 0 4),(29,.tup [.ref 6 0 x5.1.length,vI x5.2]),(30,.ref 6 0 x5.1.length),(31,vI x5.2)]
noncomputable abbrev s11_6 (x1:(Int × Int)) (x3:(Int × Int)):List (Nat × AV):=[(1,.ref 0 0 4),(2,.ref 1 0 3),(3,.ref 2 0 4),(5,vI x1.2),(7,vI x3.2),(33,vB true),(34,.agg [vI 1,vI 3]),(35,.ref 3 0 1),(36,.fn (.func 74) [] [.ptr 4 0 0]),(37,.ref 0 0 4)]
noncomputable abbrev s11_10 (x1:(Int × Int)) (x3:(Int × Int)):List (Nat × AV):=[(1,.ref 0 0 4),(2,.ref 1 0 3),(3,.ref 2 0 4),(5,vI x1.2),(7,vI x3.2),(44,vB true),(45,.agg [vI 0,vI 2]),(46,.ref 3 0 1),(47,.fn (.func 74) [] [.ptr 4 0 0]),(48,.ref 1 0 3)]
noncomputable abbrev s11_13 (x1:(Int × Int)) (x3:(Int × Int)) (x29:((List (Int × Int)) × Int)):List (Nat × AV):=[(1,.ref 0 0 4),(2,.ref 1 0 3),(3,.ref 2 0 4),(5,vI x1.2),(7,vI x3.2),(55,vB true),(56,.fn (.func 74) [] [.ptr 3 0 0]),(57,.ref 1 0 3),(58,.ref 4 0 3),(59,.tup [.ref 5 0 x29.1.length,vI x29.2]),(60,.ref 5 0 x29.1.length),(61,vI x29.2)]
noncomputable abbrev s11_16 (x1:(Int × Int)) (x3:(Int × Int)) (x37:(Int × Int)):List (Nat × AV):=[(1,.ref 0 0 4),(2,.ref 1 0 3),(3,.ref 2 0 4),(5,vI x1.2),(7,vI x3.2),(64,vB true),(65,.fn (.func 72) [] [.ptr 3 0 0]),(66,.ref 0 0 4),(67,.ref 4 0 4),(68,.tup [vI x37.1,vI x37.2]),(69,vI x37.1),(70,vI x37.2)]
noncomputable abbrev s11_19 (x1:(Int × Int)) (x3:(Int × Int)) (x43:(Int × Int)):List (Nat × AV):=[(1,.ref 0 0 4),(2,.ref 1 0 3),(3,.ref 2 0 4),(5,vI x1.2),(7,vI x3.2),(73,vB true),(74,.fn (.func 72) [] [.ptr 3 0 0]),(75,.ref 1 0 3),(76,.ref 4 0 3),(77,.tup [vI x43.1,vI x43.2]),(78,vI x43.1),(79,vI x43.2)]
noncomputable abbrev s11_23 (x1:(Int × Int)) (x3:(Int × Int)) (x49:(Int × Int)):List (Nat × AV):=[(1,.ref 0 0 4),(2,.ref 1 0 3),(3,.ref 2 0 4),(5,vI x1.2),(7,vI x3.2),(82,vB true),(83,.fn (.func 72) [] [.ptr 3 0 0]),(84,.ref 1 0 3),(85,.ref 4 0 3),(86,.tup [vI x49.1,vI x49.2]),(87,vI x49.1),(88,vI x49.2)]
noncomputable abbrev s11_27 (x1:(Int × Int)) (x3:(Int × Int)) (x55:(Int × Int)):List (Nat × AV):=[(1,.ref 0 0 4),(2,.ref 1 0 3),(3,.ref 2 0 4),(5,vI x1.2),(7,vI x3.2),(91,vB true),(92,.fn (.func 72) [] [.ptr 3 0 0]),(93,.ref 2 0 4),(94,.ref 4 0 4),(95,.tup [vI x55.1,vI x55.2]),(96,vI x55.1),(97,vI x55.2)]
noncomputable abbrev s11_32 (x1:(Int × Int)) (x3:(Int × Int)):List (Nat × AV):=[(1,.ref 0 0 4),(2,.ref 1 0 3),(3,.ref 2 0 4),(5,vI x1.2),(7,vI x3.2),(8,vB true),(100,vB true),(101,vB true),(102,.ref 3 0 4),(103,.fn (.func 78) [] [.ptr 4 0 0]),(104,.ref 0 0 4)]
noncomputable abbrev s11_36 (x1:(Int × Int)) (x3:(Int × Int)) (x69:((List Int) × Int)):List (Nat × AV):=[(1,.ref 0 0 4),(2,.ref 1 0 3),(3,.ref 2 0 4),(5,vI x1.2),(7,vI x3.2),(110,vB true),(111,.ref 3 0 3),(112,.fn (.func 78) [] [.ptr 4 0 0]),(113,.ref 1 0 3),(114,.tup [.ref 5 0 x69.1.length,vI x69.2]),(115,.ref 5 0 x69.1.length),(116,vI x69.2)]
noncomputable abbrev s11_38 (x1:(Int × Int)) (x3:(Int × Int)) (x77:((List Int) × Int)):List (Nat × AV):=[(1,.ref 0 0 4),(2,.ref 1 0 3),(3,.ref 2 0 4),(5,vI x1.2),(7,vI x3.2),(119,vB true),(120,.ref 3 0 3),(121,.fn (.func 78) [] [.ptr 4 0 0]),(122,.ref 1 0 3),(123,.tup [.ref 5 0 x77.1.length,vI x77.2]),(124,.ref 5 0 x77.1.length),(125,vI x77.2)]
noncomputable abbrev s11_40 (x1:(Int × Int)) (x3:(Int × Int)) (x97:(Int × Int)):List (Nat × AV):=[(1,.ref 0 0 4),(2,.ref 1 0 3),(3,.ref 2 0 4),(5,vI x1.2),(7,vI x3.2),(143,vB true),(144,.fn (.func 72) [] [.ptr 3 0 0]),(145,.ref 0 0 4),(146,.tup [vI x97.1,vI x97.2]),(147,vI x97.1),(148,vI x97.2)]
noncomputable abbrev s11_42 (x1:(Int × Int)) (x3:(Int × Int)) (x103:(Int × Int)):List (Nat × AV):=[(1,.ref 0 0 4),(2,.ref 1 0 3),(3,.ref 2 0 4),(5,vI x1.2),(7,vI x3.2),(151,vB true),(152,.fn (.func 72) [] [.ptr 3 0 0]),(153,.ref 1 0 3),(154,.tup [vI x103.1,vI x103.2]),(155,vI x103.1),(156,vI x103.2)]
noncomputable abbrev s11_44 (x1:(Int × Int)) (x3:(Int × Int)) (x109:(Int × Int)):List (Nat × AV):=[(1,.ref 0 0 4),(2,.ref 1 0 3),(3,.ref 2 0 4),(5,vI x1.2),(7,vI x3.2),(159,vB true),(160,.fn (.func 72) [] [.ptr 3 0 0]),(161,.ref 2 0 4),(162,.tup [vI x109.1,vI x109.2]),(163,vI x109.1),(164,vI x109.2)]
noncomputable abbrev s11_47 (x1:(Int × Int)) (x3:(Int × Int)) (x115:(Bool × Int)):List (Nat × AV):=[(1,.ref 0 0 4),(2,.ref 1 0 3),(5,vI x1.2),(7,vI x3.2),(167,vB true),(168,.fn (.func 73) [] [.ptr 2 0 0]),(169,.ref 0 0 4),(170,.tup [vB x115.1,vI x115.2]),(171,vB x115.1),(172,vI x115.2)]
noncomputable abbrev s11_50 (x1:(Int × Int)) (x3:(Int × Int)) (x121:(Bool × Int)):List (Nat × AV):=[(2,.ref 0 0 3),(5,vI x1.2),(7,vI x3.2),(175,vB true),(176,.fn (.func 73) [] [.ptr 1 0 0]),(177,.ref 0 0 3),(178,.tup [vB x121.1,vI x121.2]),(179,vB x121.1),(180,vI x121.2)]
noncomputable abbrev o11_27:AObj:=oX false false 1 (.ref 3 0 1)
noncomputable abbrev o11_28:AObj:=oX false false 1 (.ref 3 0 3)
theorem g_law08_works_ok  (x:Bool) (h:g_law08_works=some x):CallOk Tryd.prog 11 [] (.ret (vB x) []):=by
 refine fn_ok [] Tryd.func11 rfl (by decide +kernel) rfl ?_
 unfold g_law08_works at h
 refine wp_eqB (base':=0) (st':=⟨[],[],206⟩) kr kr ?_
 refine sq (wp_seq (reg_in ?_))
 refine sgL false [] [] true gE ?_
 refine sgL false [] [] true gE ?_
 refine sgL false [] [] true gE ?_
 refine sz 3 6 (reg_end rfl (wp_seq (reg_in (sz 1 1 ?_))))
 refine sgL false [] [] true gE ?_
 refine callR (as0:=[.ref 0 0 4,.ref 3 0 3]) (ids:=[0,3]) kr bodyB_17 (msnap_cons (show snap _ _ _=some (_,[0]) from kr) (msnap_cons (show snap _ _ _=some (_,[3]) from kr) msnap_nil (by rfl)) (by rfl)) (fun x1 q2=>g_order_Width_ok [10,5,10,5] [0,1,2] x1 q2) gF h (fun x1 q2 h=>?_)
 refine sz 5 8 (reg_end rfl (wp_seq ?_))
 refine wgc [1,2,3,5] [0,1,2] ⟨[(1,.ref 0 0 4),(2,.ref 1 0 3),(3,.ref 2 0 4),(5,vI x1.2)],[.row false false true true 1 [.int .u64 10,.int .u64 5,.int .u64 10,.int .u64 5],.row false false true true 1 [.int .u64 2,.int .u64 5,.int .u64 2],.row false false true true 1 [.int .u64 14,.int .u64 13,.int .u64 11,.int .u64 7]],206⟩ ?_
 refine reg_in (sz 1 1 ?_)
 refine sgL false [] [] true gE ?_
 refine callR (as0:=[.ref 0 0 4,.ref 3 0 4]) (ids:=[0,3]) kr bodyB_17 (msnap_cons (show snap _ _ _=some (_,[0]) from kr) (msnap_cons (show snap _ _ _=some (_,[3]) from kr) msnap_nil (by rfl)) (by rfl)) (fun x3 q4=>g_order_Width_ok [10,5,10,5] [0,1,2,2] x3 q4) gF h (fun x3 q4 h=>?_)
 refine sz 5 8 (reg_end rfl (wp_seq (wg [1,2,3,5,7] [0,1,2] (reg_in (sz 1 1 ?_)))))
 refine sgL false [] [] true gE ?_
 refine inlR (f:=40) (fn:=Tryd.f40) (as0:=[.ref 3 0 1]) kr Tryd.func40 rfl (by decide +kernel) rfl ?_
 refine wp_eqB (base':=4) (st':=⟨[(0,.ref 3 0 1)],[.row false false true true 1 [.int .u64 10,.int .u64 5,.int .u64 10,.int .u64 5],.row false false true true 1 [.int .u64 2,.int .u64 5,.int .u64 2],.row false false true true 1 [.int .u64 14,.int .u64 13,.int .u64 11,.int .u64 7],.row false false true true 2 [.agg [vI 1,vI 3]]],4⟩) kr kr ?_
 refine wp_seq (reg_in ?_)
 refine sgL false [] [] false gE ?_
 refine sz 1 2 (reg_end rfl (sq (wg [2] [4] ?_)))
 refine wp_ret ?_
 refine ⟨⟨[(1,.ref 0 0 4),(2,.ref 1 0 3),(3,.ref 2 0 4),(5,vI x1.2),(7,vI x3.2),(24,.agg [vI 1,vI 3]),(25,.ref 3 0 1),(26,.fn (.func 74) [] [.ptr 4 0 0])],[.row false false true true 1 [.int .u64 10,.int .u64 5,.int .u64 10,.int .u64 5],.row false false true true 1 [.int .u64 2,.int .u64 5,.int .u64 2],.row false false true true 1 [.int .u64 14,.int .u64 13,.int .u64 11,.int .u64 7],.row false false true true 2 [.agg [vI 1,vI 3]],o11_27],206⟩,by as_aux_lemma=>kernel_rfl,?_⟩
 refine sz 1 4 ?_
 refine sgL false [] [] true gE ?_
 refine callR (as0:=[.ref 0 0 4,.ref 5 0 4]) (ids:=[0,5]) kr bodyB_16 (msnap_cons (show snap _ _ _=some (_,[0]) from kr) (msnap_cons (show snap _ _ _=some (_,[5]) from kr) msnap_nil (by rfl)) (by rfl)) (fun x5 q6=>g_order_Fill_ok [10,5,10,5] [0,1,2,3] x5 q6) gF h (fun x5 q6 h=>?_)
 refine sz 2 8 ?_
 refine inlR (f:=74) (fn:=Tryd.f74) (as0:=[.ref 6 0 x5.1.length,vI x5.2,.ptr 4 0 0]) kr Tryd.func74 rfl (by decide +kernel) rfl ?_
 refine wp_eqB (base':=7) (st':=⟨[(0,.ref 6 0 x5.1.length),(1,vI x5.2),(2,.ptr 4 0 0)],[.row false false true true 1 [.int .u64 10,.int .u64 5,.int .u64 10,.int .u64 5],.row false false true true 1 [.int .u64 2,.int .u64 5,.int .u64 2],.row false false true true 1 [.int .u64 14,.int .u64 13,.int .u64 11,.int .u64 7],.row false false true true 2 [.agg [vI 1,vI 3]],o11_27,.row false false true true 1 [vI 0,vI 1,vI 2,vI 3],oR true 2 (fun x:(Int × Int)=>AV.agg [vI x.1,vI x.2]) x5.1],13⟩) kr kr ?_
 refine sq (wp_seq (reg_in (sz 3 3 (rwg [0,2,8] [] ?_))))
 refine rb [8] h (fun q8 h=>?_) (fun q8 h=>?_)
 ·refine sz 2 5 ?_
  refine callR (as0:=[.ref 6 0 x5.1.length,.ref 3 0 1]) (ids:=[6,3]) kr bodyB_75 (msnap_cons (snap_full (w:=2) (bx:=false) (ro:=false) (enc:=(fun x:(Int × Int)=>AV.agg [vI x.1,vI x.2])) (l:=x5.1) (fl:=true) kr) (msnap_cons (show snap _ _ _=some (_,[3]) from kr) msnap_nil (by rfl)) (by rfl)) (fun x9 q10=>g_slices_Equal_2_int_2_int_ok x5.1 [(1,3)] x9 q10) gF h (fun x9 q10 h=>?_)
  refine sz 2 8 (reg_end rfl (wg [5] [] ?_))
  refine wp_ret ?_
  refine ⟨⟨(s11_4 x1 x3 x5)++[(32,vB x9)],[.row false false true true 1 [.int .u64 10,.int .u64 5,.int .u64 10,.int .u64 5],.row false false true true 1 [.int .u64 2,.int .u64 5,.int .u64 2],.row false false true true 1 [.int .u64 14,.int .u64 13,.int .u64 11,.int .u64 7],.row false false true true 2 [.agg [vI 1,vI 3]],o11_27,.row false false true true 1 [vI 0,vI 1,vI 2,vI 3],oR true 2 (fun x:(Int × Int)=>AV.agg [vI x.1,vI x.2]) x5.1],206⟩,by as_aux_lemma=>kernel_rfl,?_⟩
  refine sz 1 10 ?_
  refine rw_wk (wk_gc (live:=[1,2,3,5,7,33]) (keep:=[0,1,2]) (st':=⟨[(1,.ref 0 0 4),(2,.ref 1 0 3),(3,.ref 2 0 4),(5,vI x1.2),(7,vI x3.2),(33,vB x9)],[.row false false true true 1 [.int .u64 10,.int .u64 5,.int .u64 10,.int .u64 5],.row false false true true 1 [.int .u64 2,.int .u64 5,.int .u64 2],.row false false true true 1 [.int .u64 14,.int .u64 13,.int .u64 11,.int .u64 7]],206⟩) kr) ?_
  refine rb [33] h (fun q12 h=>?_) (fun q12 h=>?_)
  ·refine sz 1 11 ?_
   refine sgL false [] [] true gE ?_
   refine inlR (f:=40) (fn:=Tryd.f40) (as0:=[.ref 3 0 1]) kr Tryd.func40 rfl (by decide +kernel) rfl ?_
   refine wp_eqB (base':=4) (st':=⟨[(0,.ref 3 0 1)],[.row false false true true 1 [.int .u64 10,.int .u64 5,.int .u64 10,.int .u64 5],.row false false true true 1 [.int .u64 2,.int .u64 5,.int .u64 2],.row false false true true 1 [.int .u64 14,.int .u64 13,.int .u64 11,.int .u64 7],.row false false true true 2 [.agg [vI 1,vI 3]]],4⟩) kr kr ?_
   refine wp_seq (reg_in ?_)
   refine sgL false [] [] false gE ?_
   refine sz 1 2 (reg_end rfl (sq (wg [2] [4] ?_)))
   refine wp_ret ?_
   refine ⟨⟨[(1,.ref 0 0 4),(2,.ref 1 0 3),(3,.ref 2 0 4),(5,vI x1.2),(7,vI x3.2),(33,vB true),(34,.agg [vI 1,vI 3]),(35,.ref 3 0 1),(36,.fn (.func 74) [] [.ptr 4 0 0])],[.row false false true true 1 [.int .u64 10,.int .u64 5,.int .u64 10,.int .u64 5],.row false false true true 1 [.int .u64 2,.int .u64 5,.int .u64 2],.row false false true true 1 [.int .u64 14,.int .u64 13,.int .u64 11,.int .u64 7],.row false false true true 2 [.agg [vI 1,vI 3]],o11_27],206⟩,by as_aux_lemma=>kernel_rfl,?_⟩
   refine sz 1 14 ?_
   refine sgL false [] [] true gE ?_
   refine callR (as0:=[.ref 0 0 4,.ref 5 0 4]) (ids:=[0,5]) kr bodyB_16 (msnap_cons (show snap _ _ _=some (_,[0]) from kr) (msnap_cons (show snap _ _ _=some (_,[5]) from kr) msnap_nil (by rfl)) (by rfl)) (fun x13 q14=>g_order_Fill_ok [10,5,10,5] [0,2,1,3] x13 q14) gF h (fun x13 q14 h=>?_)
   refine sz 2 18 ?_
   refine inlR (f:=74) (fn:=Tryd.f74) (as0:=[.ref 6 0 x13.1.length,vI x13.2,.ptr 4 0 0]) kr Tryd.func74 rfl (by decide +kernel) rfl ?_
   refine wp_eqB (base':=7) (st':=⟨[(0,.ref 6 0 x13.1.length),(1,vI x13.2),(2,.ptr 4 0 0)],[.row false false true true 1 [.int .u64 10,.int .u64 5,.int .u64 10,.int .u64 5],.row false false true true 1 [.int .u64 2,.int .u64 5,.int .u64 2],.row false false true true 1 [.int .u64 14,.int .u64 13,.int .u64 11,.int .u64 7],.row false false true true 2 [.agg [vI 1,vI 3]],o11_27,.row false false true true 1 [vI 0,vI 2,vI 1,vI 3],oR true 2 (fun x:(Int × Int)=>AV.agg [vI x.1,vI x.2]) x13.1],13⟩) kr kr ?_
   refine sq (wp_seq (reg_in (sz 3 3 (rwg [0,2,8] [] ?_))))
   refine rb [8] h (fun q16 h=>?_) (fun q16 h=>?_)
   ·refine sz 2 5 ?_
    refine callR (as0:=[.ref 6 0 x13.1.length,.ref 3 0 1]) (ids:=[6,3]) kr bodyB_75 (msnap_cons (snap_full (w:=2) (bx:=false) (ro:=false) (enc:=(fun x:(Int × Int)=>AV.agg [vI x.1,vI x.2])) (l:=x13.1) (fl:=true) kr) (msnap_cons (show snap _ _ _=some (_,[3]) from kr) msnap_nil (by rfl)) (by rfl)) (fun x17 q18=>g_slices_Equal_2_int_2_int_ok x13.1 [(1,3)] x17 q18) gF h (fun x17 q18 h=>?_)
    refine sz 2 8 (reg_end rfl (wg [5] [] ?_))
    refine wp_ret ?_
    refine ⟨⟨(s11_6 x1 x3)++[(38,.ref 5 0 4),(39,.tup [.ref 6 0 x13.1.length,vI x13.2]),(40,.ref 6 0 x13.1.length),(41,vI x13.2),(42,vB x17)],[.row false false true true 1 [.int .u64 10,.int .u64 5,.int .u64 10,.int .u64 5],.row false false true true 1 [.int .u64 2,.int .u64 5,.int .u64 2],.row false false true true 1 [.int .u64 14,.int .u64 13,.int .u64 11,.int .u64 7],.row false false true true 2 [.agg [vI 1,vI 3]],o11_27,.row false false true true 1 [vI 0,vI 2,vI 1,vI 3],oR true 2 (fun x:(Int × Int)=>AV.agg [vI x.1,vI x.2]) x13.1],206⟩,by as_aux_lemma=>kernel_rfl,?_⟩
    refine sz 2 21 ?_
    refine rw_wk (wk_gc (live:=[1,2,3,5,7,44]) (keep:=[0,1,2]) (st':=⟨[(1,.ref 0 0 4),(2,.ref 1 0 3),(3,.ref 2 0 4),(5,vI x1.2),(7,vI x3.2),(44,vB x17)],[.row false false true true 1 [.int .u64 10,.int .u64 5,.int .u64 10,.int .u64 5],.row false false true true 1 [.int .u64 2,.int .u64 5,.int .u64 2],.row false false true true 1 [.int .u64 14,.int .u64 13,.int .u64 11,.int .u64 7]],206⟩) kr) ?_
    refine rb [44] h (fun q20 h=>?_) (fun q20 h=>?_)
    ·refine sz 1 22 ?_
     refine sgL false [] [] true gE ?_
     refine inlR (f:=40) (fn:=Tryd.f40) (as0:=[.ref 3 0 1]) kr Tryd.func40 rfl (by decide +kernel) rfl ?_
     refine wp_eqB (base':=4) (st':=⟨[(0,.ref 3 0 1)],[.row false false true true 1 [.int .u64 10,.int .u64 5,.int .u64 10,.int .u64 5],.row false false true true 1 [.int .u64 2,.int .u64 5,.int .u64 2],.row false false true true 1 [.int .u64 14,.int .u64 13,.int .u64 11,.int .u64 7],.row false false true true 2 [.agg [vI 0,vI 2]]],4⟩) kr kr ?_
     refine wp_seq (reg_in ?_)
     refine sgL false [] [] false gE ?_
     refine sz 1 2 (reg_end rfl (sq (wg [2] [4] ?_)))
     refine wp_ret ?_
     refine ⟨⟨[(1,.ref 0 0 4),(2,.ref 1 0 3),(3,.ref 2 0 4),(5,vI x1.2),(7,vI x3.2),(44,vB true),(45,.agg [vI 0,vI 2]),(46,.ref 3 0 1),(47,.fn (.func 74) [] [.ptr 4 0 0])],[.row false false true true 1 [.int .u64 10,.int .u64 5,.int .u64 10,.int .u64 5],.row false false true true 1 [.int .u64 2,.int .u64 5,.int .u64 2],.row false false true true 1 [.int .u64 14,.int .u64 13,.int .u64 11,.int .u64 7],.row false false true true 2 [.agg [vI 0,vI 2]],o11_27],206⟩,by as_aux_lemma=>kernel_rfl,?_⟩
     refine sz 1 25 ?_
     refine sgL false [] [] true gE ?_
     refine callR (as0:=[.ref 1 0 3,.ref 5 0 3]) (ids:=[1,5]) kr bodyB_16 (msnap_cons (show snap _ _ _=some (_,[1]) from kr) (msnap_cons (show snap _ _ _=some (_,[5]) from kr) msnap_nil (by rfl)) (by rfl)) (fun x21 q22=>g_order_Fill_ok [2,5,2] [1,0,2] x21 q22) gF h (fun x21 q22 h=>?_)
     refine sz 2 29 ?_
     refine inlR (f:=74) (fn:=Tryd.f74) (as0:=[.ref 6 0 x21.1.length,vI x21.2,.ptr 4 0 0]) kr Tryd.func74 rfl (by decide +kernel) rfl ?_
     refine wp_eqB (base':=7) (st':=⟨[(0,.ref 6 0 x21.1.length),(1,vI x21.2),(2,.ptr 4 0 0)],[.row false false true true 1 [.int .u64 10,.int .u64 5,.int .u64 10,.int .u64 5],.row false false true true 1 [.int .u64 2,.int .u64 5,.int .u64 2],.row false false true true 1 [.int .u64 14,.int .u64 13,.int .u64 11,.int .u64 7],.row false false true true 2 [.agg [vI 0,vI 2]],o11_27,.row false false true true 1 [vI 1,vI 0,vI 2],oR true 2 (fun x:(Int × Int)=>AV.agg [vI x.1,vI x.2]) x21.1],13⟩) kr kr ?_
     refine sq (wp_seq (reg_in (sz 3 3 (rwg [0,2,8] [] ?_))))
     refine rb [8] h (fun q24 h=>?_) (fun q24 h=>?_)
     ·refine sz 2 5 ?_
      refine callR (as0:=[.ref 6 0 x21.1.length,.ref 3 0 1]) (ids:=[6,3]) kr bodyB_75 (msnap_cons (snap_full (w:=2) (bx:=false) (ro:=false) (enc:=(fun x:(Int × Int)=>AV.agg [vI x.1,vI x.2])) (l:=x21.1) (fl:=true) kr) (msnap_cons (show snap _ _ _=some (_,[3]) from kr) msnap_nil (by rfl)) (by rfl)) (fun x25 q26=>g_slices_Equal_2_int_2_int_ok x21.1 [(0,2)] x25 q26) gF h (fun x25 q26 h=>?_)
      refine sz 2 8 (reg_end rfl (wg [5] [] ?_))
      refine wp_ret ?_
      refine ⟨⟨(s11_10 x1 x3)++[(49,.ref 5 0 3),(50,.tup [.ref 6 0 x21.1.length,vI x21.2]),(51,.ref 6 0 x21.1.length),(52,vI x21.2),(53,vB x25)],[.row false false true true 1 [.int .u64 10,.int .u64 5,.int .u64 10,.int .u64 5],.row false false true true 1 [.int .u64 2,.int .u64 5,.int .u64 2],.row false false true true 1 [.int .u64 14,.int .u64 13,.int .u64 11,.int .u64 7],.row false false true true 2 [.agg [vI 0,vI 2]],o11_27,.row false false true true 1 [vI 1,vI 0,vI 2],oR true 2 (fun x:(Int × Int)=>AV.agg [vI x.1,vI x.2]) x21.1],206⟩,by as_aux_lemma=>kernel_rfl,?_⟩
      refine sz 2 32 ?_
      refine rw_wk (wk_gc (live:=[1,2,3,5,7,55]) (keep:=[0,1,2]) (st':=⟨[(1,.ref 0 0 4),(2,.ref 1 0 3),(3,.ref 2 0 4),(5,vI x1.2),(7,vI x3.2),(55,vB x25)],[.row false false true true 1 [.int .u64 10,.int .u64 5,.int .u64 10,.int .u64 5],.row false false true true 1 [.int .u64 2,.int .u64 5,.int .u64 2],.row false false true true 1 [.int .u64 14,.int .u64 13,.int .u64 11,.int .u64 7]],206⟩) kr) ?_
      refine rb [55] h (fun q28 h=>?_) (fun q28 h=>?_)
      ·refine inlR (f:=40) (fn:=Tryd.f40) (as0:=[.nils]) kr Tryd.func40 rfl (by decide +kernel) rfl ?_
       refine wp_eqB (base':=3) (st':=⟨[(0,.nils)],[.row false false true true 1 [.int .u64 10,.int .u64 5,.int .u64 10,.int .u64 5],.row false false true true 1 [.int .u64 2,.int .u64 5,.int .u64 2],.row false false true true 1 [.int .u64 14,.int .u64 13,.int .u64 11,.int .u64 7]],4⟩) kr kr ?_
       refine wp_seq (reg_in ?_)
       refine sgL false [] [] false gE ?_
       refine sz 1 2 (reg_end rfl (sq (wg [2] [3] ?_)))
       refine wp_ret ?_
       refine ⟨⟨[(1,.ref 0 0 4),(2,.ref 1 0 3),(3,.ref 2 0 4),(5,vI x1.2),(7,vI x3.2),(55,vB true),(56,.fn (.func 74) [] [.ptr 3 0 0])],[.row false false true true 1 [.int .u64 10,.int .u64 5,.int .u64 10,.int .u64 5],.row false false true true 1 [.int .u64 2,.int .u64 5,.int .u64 2],.row false false true true 1 [.int .u64 14,.int .u64 13,.int .u64 11,.int .u64 7],oX true false 1 (.nils)],206⟩,by as_aux_lemma=>kernel_rfl,?_⟩
       refine sz 1 34 ?_
       refine sgL false [] [] true gE ?_
       refine callR (as0:=[.ref 1 0 3,.ref 4 0 3]) (ids:=[1,4]) kr bodyB_16 (msnap_cons (show snap _ _ _=some (_,[1]) from kr) (msnap_cons (show snap _ _ _=some (_,[4]) from kr) msnap_nil (by rfl)) (by rfl)) (fun x29 q30=>g_order_Fill_ok [2,5,2] [0,1,2] x29 q30) gF h (fun x29 q30 h=>?_)
       refine sz 2 38 ?_
       refine inlR (f:=74) (fn:=Tryd.f74) (as0:=[.ref 5 0 x29.1.length,vI x29.2,.ptr 3 0 0]) kr Tryd.func74 rfl (by decide +kernel) rfl ?_
       refine wp_eqB (base':=6) (st':=⟨[(0,.ref 5 0 x29.1.length),(1,vI x29.2),(2,.ptr 3 0 0)],[.row false false true true 1 [.int .u64 10,.int .u64 5,.int .u64 10,.int .u64 5],.row false false true true 1 [.int .u64 2,.int .u64 5,.int .u64 2],.row false false true true 1 [.int .u64 14,.int .u64 13,.int .u64 11,.int .u64 7],oX true false 1 (.nils),.row false false true true 1 [vI 0,vI 1,vI 2],oR true 2 (fun x:(Int × Int)=>AV.agg [vI x.1,vI x.2]) x29.1],13⟩) kr kr ?_
       refine sq (wp_seq (reg_in (sz 3 3 (rwg [0,2,8] [] ?_))))
       refine rb [8] h (fun q32 h=>?_) (fun q32 h=>?_)
       ·refine sz 2 5 ?_
        refine callR (as0:=[.ref 5 0 x29.1.length,.nils]) (us:=[eL true (fun x:(Int × Int)=>AV.agg [vI x.1,vI x.2]) x29.1,.nils]) (ids:=[5]) kr bodyB_75 (msnap_cons (snap_full (w:=2) (bx:=false) (ro:=false) (enc:=(fun x:(Int × Int)=>AV.agg [vI x.1,vI x.2])) (l:=x29.1) (fl:=true) kr) (msnap_cons rfl msnap_nil (by rfl)) (by rfl)) (fun x33 q34=>CallOk.args [[.keep],[.lst true]] (g_slices_Equal_2_int_2_int_ok x29.1 [] x33 q34)) gF h (fun x33 q34 h=>?_)
        refine sz 2 8 (reg_end rfl (wg [5] [] ?_))
        refine wp_ret ?_
        refine ⟨⟨(s11_13 x1 x3 x29)++[(62,vB x33)],[.row false false true true 1 [.int .u64 10,.int .u64 5,.int .u64 10,.int .u64 5],.row false false true true 1 [.int .u64 2,.int .u64 5,.int .u64 2],.row false false true true 1 [.int .u64 14,.int .u64 13,.int .u64 11,.int .u64 7],oX true false 1 (.nils),.row false false true true 1 [vI 0,vI 1,vI 2],oR true 2 (fun x:(Int × Int)=>AV.agg [vI x.1,vI x.2]) x29.1],206⟩,by as_aux_lemma=>kernel_rfl,?_⟩
        refine sz 2 41 ?_
        refine rw_wk (wk_gc (live:=[1,2,3,5,7,64]) (keep:=[0,1,2]) (st':=⟨[(1,.ref 0 0 4),(2,.ref 1 0 3),(3,.ref 2 0 4),(5,vI x1.2),(7,vI x3.2),(64,vB x33)],[.row false false true true 1 [.int .u64 10,.int .u64 5,.int .u64 10,.int .u64 5],.row false false true true 1 [.int .u64 2,.int .u64 5,.int .u64 2],.row false false true true 1 [.int .u64 14,.int .u64 13,.int .u64 11,.int .u64 7]],206⟩) kr) ?_
        refine rb [64] h (fun q36 h=>?_) (fun q36 h=>?_)
        ·refine inlR (f:=36) (fn:=Tryd.f36) (as0:=[vI 2]) kr Tryd.func36 rfl (by decide +kernel) rfl ?_
         refine wp_eqB (base':=3) (st':=⟨[(0,vI 2)],[.row false false true true 1 [.int .u64 10,.int .u64 5,.int .u64 10,.int .u64 5],.row false false true true 1 [.int .u64 2,.int .u64 5,.int .u64 2],.row false false true true 1 [.int .u64 14,.int .u64 13,.int .u64 11,.int .u64 7]],4⟩) kr kr ?_
         refine sq (sq (wg [2] [3] ?_))
         refine wp_ret ?_
         refine ⟨⟨[(1,.ref 0 0 4),(2,.ref 1 0 3),(3,.ref 2 0 4),(5,vI x1.2),(7,vI x3.2),(64,vB true),(65,.fn (.func 72) [] [.ptr 3 0 0])],[.row false false true true 1 [.int .u64 10,.int .u64 5,.int .u64 10,.int .u64 5],.row false false true true 1 [.int .u64 2,.int .u64 5,.int .u64 2],.row false false true true 1 [.int .u64 14,.int .u64 13,.int .u64 11,.int .u64 7],oX true true 1 (vI 2)],206⟩,by as_aux_lemma=>kernel_rfl,?_⟩
         refine sz 1 43 ?_
         refine sgL false [] [] true gE ?_
         refine callR (as0:=[.ref 0 0 4,.ref 4 0 4]) (ids:=[0,4]) kr bodyB_17 (msnap_cons (show snap _ _ _=some (_,[0]) from kr) (msnap_cons (show snap _ _ _=some (_,[4]) from kr) msnap_nil (by rfl)) (by rfl)) (fun x37 q38=>g_order_Width_ok [10,5,10,5] [0,1,2,3] x37 q38) gF h (fun x37 q38 h=>?_)
         refine sz 2 47 ?_
         refine inlR (f:=72) (fn:=Tryd.f72) (as0:=[vI x37.1,vI x37.2,.ptr 3 0 0]) kr Tryd.func72 rfl (by decide +kernel) rfl ?_
         refine wp_eqB (base':=5) (st':=⟨[(0,vI x37.1),(1,vI x37.2),(2,.ptr 3 0 0)],[.row false false true true 1 [.int .u64 10,.int .u64 5,.int .u64 10,.int .u64 5],.row false false true true 1 [.int .u64 2,.int .u64 5,.int .u64 2],.row false false true true 1 [.int .u64 14,.int .u64 13,.int .u64 11,.int .u64 7],oX true true 1 (vI 2),.row false false true true 1 [vI 0,vI 1,vI 2,vI 3]],13⟩) kr kr ?_
         refine sq (wp_seq (reg_in (sz 4 4 (rwg [1,9] [] ?_))))
         refine rb [9] h (fun q40 h=>?_) (fun q40 h=>?_)
         ·refine sz 4 8 (reg_end rfl (wg [5] [] ?_))
          refine wp_ret ?_
          refine ⟨⟨(s11_16 x1 x3 x37)++[(71,vB (x37.2==0))],[.row false false true true 1 [.int .u64 10,.int .u64 5,.int .u64 10,.int .u64 5],.row false false true true 1 [.int .u64 2,.int .u64 5,.int .u64 2],.row false false true true 1 [.int .u64 14,.int .u64 13,.int .u64 11,.int .u64 7],oX true true 1 (vI 2),.row false false true true 1 [vI 0,vI 1,vI 2,vI 3]],206⟩,by as_aux_lemma=>kernel_rfl,?_⟩
          refine sz 2 50 ?_
          refine rw_wk (wk_gc (live:=[1,2,3,5,7,73]) (keep:=[0,1,2]) (st':=⟨[(1,.ref 0 0 4),(2,.ref 1 0 3),(3,.ref 2 0 4),(5,vI x1.2),(7,vI x3.2),(73,vB (x37.2==0))],[.row false false true true 1 [.int .u64 10,.int .u64 5,.int .u64 10,.int .u64 5],.row false false true true 1 [.int .u64 2,.int .u64 5,.int .u64 2],.row false false true true 1 [.int .u64 14,.int .u64 13,.int .u64 11,.int .u64 7]],206⟩) kr) ?_
          refine rb [73] h (fun q42 h=>?_) (fun q42 h=>?_)
          ·refine inlR (f:=36) (fn:=Tryd.f36) (as0:=[vI 2]) kr Tryd.func36 rfl (by decide +kernel) rfl ?_
           refine wp_eqB (base':=3) (st':=⟨[(0,vI 2)],[.row false false true true 1 [.int .u64 10,.int .u64 5,.int .u64 10,.int .u64 5],.row false false true true 1 [.int .u64 2,.int .u64 5,.int .u64 2],.row false false true true 1 [.int .u64 14,.int .u64 13,.int .u64 11,.int .u64 7]],4⟩) kr kr ?_
           refine sq (sq (wg [2] [3] ?_))
           refine wp_ret ?_
           refine ⟨⟨[(1,.ref 0 0 4),(2,.ref 1 0 3),(3,.ref 2 0 4),(5,vI x1.2),(7,vI x3.2),(73,vB true),(74,.fn (.func 72) [] [.ptr 3 0 0])],[.row false false true true 1 [.int .u64 10,.int .u64 5,.int .u64 10,.int .u64 5],.row false false true true 1 [.int .u64 2,.int .u64 5,.int .u64 2],.row false false true true 1 [.int .u64 14,.int .u64 13,.int .u64 11,.int .u64 7],oX true true 1 (vI 2)],206⟩,by as_aux_lemma=>kernel_rfl,?_⟩
           refine sz 1 52 ?_
           refine sgL false [] [] true gE ?_
           refine callR (as0:=[.ref 1 0 3,.ref 4 0 3]) (ids:=[1,4]) kr bodyB_17 (msnap_cons (show snap _ _ _=some (_,[1]) from kr) (msnap_cons (show snap _ _ _=some (_,[4]) from kr) msnap_nil (by rfl)) (by rfl)) (fun x43 q44=>g_order_Width_ok [2,5,2] [1,0,2] x43 q44) gF h (fun x43 q44 h=>?_)
           refine sz 2 56 ?_
           refine inlR (f:=72) (fn:=Tryd.f72) (as0:=[vI x43.1,vI x43.2,.ptr 3 0 0]) kr Tryd.func72 rfl (by decide +kernel) rfl ?_
           refine wp_eqB (base':=5) (st':=⟨[(0,vI x43.1),(1,vI x43.2),(2,.ptr 3 0 0)],[.row false false true true 1 [.int .u64 10,.int .u64 5,.int .u64 10,.int .u64 5],.row false false true true 1 [.int .u64 2,.int .u64 5,.int .u64 2],.row false false true true 1 [.int .u64 14,.int .u64 13,.int .u64 11,.int .u64 7],oX true true 1 (vI 2),.row false false true true 1 [vI 1,vI 0,vI 2]],13⟩) kr kr ?_
           refine sq (wp_seq (reg_in (sz 4 4 (rwg [1,9] [] ?_))))
           refine rb [9] h (fun q46 h=>?_) (fun q46 h=>?_)
           ·refine sz 4 8 (reg_end rfl (wg [5] [] ?_))
            refine wp_ret ?_
            refine ⟨⟨(s11_19 x1 x3 x43)++[(80,vB (x43.2==0))],[.row false false true true 1 [.int .u64 10,.int .u64 5,.int .u64 10,.int .u64 5],.row false false true true 1 [.int .u64 2,.int .u64 5,.int .u64 2],.row false false true true 1 [.int .u64 14,.int .u64 13,.int .u64 11,.int .u64 7],oX true true 1 (vI 2),.row false false true true 1 [vI 1,vI 0,vI 2]],206⟩,by as_aux_lemma=>kernel_rfl,?_⟩
            refine sz 2 59 ?_
            refine rw_wk (wk_gc (live:=[1,2,3,5,7,82]) (keep:=[0,1,2]) (st':=⟨[(1,.ref 0 0 4),(2,.ref 1 0 3),(3,.ref 2 0 4),(5,vI x1.2),(7,vI x3.2),(82,vB (x43.2==0))],[.row false false true true 1 [.int .u64 10,.int .u64 5,.int .u64 10,.int .u64 5],.row false false true true 1 [.int .u64 2,.int .u64 5,.int .u64 2],.row false false true true 1 [.int .u64 14,.int .u64 13,.int .u64 11,.int .u64 7]],206⟩) kr) ?_
            refine rb [82] h (fun q48 h=>?_) (fun q48 h=>?_)
            ·refine inlR (f:=36) (fn:=Tryd.f36) (as0:=[vI 1]) kr Tryd.func36 rfl (by decide +kernel) rfl ?_
             refine wp_eqB (base':=3) (st':=⟨[(0,vI 1)],[.row false false true true 1 [.int .u64 10,.int .u64 5,.int .u64 10,.int .u64 5],.row false false true true 1 [.int .u64 2,.int .u64 5,.int .u64 2],.row false false true true 1 [.int .u64 14,.int .u64 13,.int .u64 11,.int .u64 7]],4⟩) kr kr ?_
             refine sq (sq (wg [2] [3] ?_))
             refine wp_ret ?_
             refine ⟨⟨[(1,.ref 0 0 4),(2,.ref 1 0 3),(3,.ref 2 0 4),(5,vI x1.2),(7,vI x3.2),(82,vB true),(83,.fn (.func 72) [] [.ptr 3 0 0])],[.row false false true true 1 [.int .u64 10,.int .u64 5,.int .u64 10,.int .u64 5],.row false false true true 1 [.int .u64 2,.int .u64 5,.int .u64 2],.row false false true true 1 [.int .u64 14,.int .u64 13,.int .u64 11,.int .u64 7],oX true true 1 (vI 1)],206⟩,by as_aux_lemma=>kernel_rfl,?_⟩
             refine sz 1 61 ?_
             refine sgL false [] [] true gE ?_
             refine callR (as0:=[.ref 1 0 3,.ref 4 0 3]) (ids:=[1,4]) kr bodyB_17 (msnap_cons (show snap _ _ _=some (_,[1]) from kr) (msnap_cons (show snap _ _ _=some (_,[4]) from kr) msnap_nil (by rfl)) (by rfl)) (fun x49 q50=>g_order_Width_ok [2,5,2] [2,1,0] x49 q50) gF h (fun x49 q50 h=>?_)
             refine sz 2 65 ?_
             refine inlR (f:=72) (fn:=Tryd.f72) (as0:=[vI x49.1,vI x49.2,.ptr 3 0 0]) kr Tryd.func72 rfl (by decide +kernel) rfl ?_
             refine wp_eqB (base':=5) (st':=⟨[(0,vI x49.1),(1,vI x49.2),(2,.ptr 3 0 0)],[.row false false true true 1 [.int .u64 10,.int .u64 5,.int .u64 10,.int .u64 5],.row false false true true 1 [.int .u64 2,.int .u64 5,.int .u64 2],.row false false true true 1 [.int .u64 14,.int .u64 13,.int .u64 11,.int .u64 7],oX true true 1 (vI 1),.row false false true true 1 [vI 2,vI 1,vI 0]],13⟩) kr kr ?_
             refine sq (wp_seq (reg_in (sz 4 4 (rwg [1,9] [] ?_))))
             refine rb [9] h (fun q52 h=>?_) (fun q52 h=>?_)
             ·refine sz 4 8 (reg_end rfl (wg [5] [] ?_))
              refine wp_ret ?_
              refine ⟨⟨(s11_23 x1 x3 x49)++[(89,vB (x49.2==0))],[.row false false true true 1 [.int .u64 10,.int .u64 5,.int .u64 10,.int .u64 5],.row false false true true 1 [.int .u64 2,.int .u64 5,.int .u64 2],.row false false true true 1 [.int .u64 14,.int .u64 13,.int .u64 11,.int .u64 7],oX true true 1 (vI 1),.row false false true true 1 [vI 2,vI 1,vI 0]],206⟩,by as_aux_lemma=>kernel_rfl,?_⟩
              refine sz 2 68 ?_
              refine rw_wk (wk_gc (live:=[1,2,3,5,7,91]) (keep:=[0,1,2]) (st':=⟨[(1,.ref 0 0 4),(2,.ref 1 0 3),(3,.ref 2 0 4),(5,vI x1.2),(7,vI x3.2),(91,vB (x49.2==0))],[.row false false true true 1 [.int .u64 10,.int .u64 5,.int .u64 10,.int .u64 5],.row false false true true 1 [.int .u64 2,.int .u64 5,.int .u64 2],.row false false true true 1 [.int .u64 14,.int .u64 13,.int .u64 11,.int .u64 7]],206⟩) kr) ?_
              refine rb [91] h (fun q54 h=>?_) (fun q54 h=>?_)
              ·refine inlR (f:=36) (fn:=Tryd.f36) (as0:=[vI 3]) kr Tryd.func36 rfl (by decide +kernel) rfl ?_
               refine wp_eqB (base':=3) (st':=⟨[(0,vI 3)],[.row false false true true 1 [.int .u64 10,.int .u64 5,.int .u64 10,.int .u64 5],.row false false true true 1 [.int .u64 2,.int .u64 5,.int .u64 2],.row false false true true 1 [.int .u64 14,.int .u64 13,.int .u64 11,.int .u64 7]],4⟩) kr kr ?_
               refine sq (sq (wg [2] [3] ?_))
               refine wp_ret ?_
               refine ⟨⟨[(1,.ref 0 0 4),(2,.ref 1 0 3),(3,.ref 2 0 4),(5,vI x1.2),(7,vI x3.2),(91,vB true),(92,.fn (.func 72) [] [.ptr 3 0 0])],[.row false false true true 1 [.int .u64 10,.int .u64 5,.int .u64 10,.int .u64 5],.row false false true true 1 [.int .u64 2,.int .u64 5,.int .u64 2],.row false false true true 1 [.int .u64 14,.int .u64 13,.int .u64 11,.int .u64 7],oX true true 1 (vI 3)],206⟩,by as_aux_lemma=>kernel_rfl,?_⟩
               refine sz 1 70 ?_
               refine sgL false [] [] true gE ?_
               refine callR (as0:=[.ref 2 0 4,.ref 4 0 4]) (ids:=[2,4]) kr bodyB_17 (msnap_cons (show snap _ _ _=some (_,[2]) from kr) (msnap_cons (show snap _ _ _=some (_,[4]) from kr) msnap_nil (by rfl)) (by rfl)) (fun x55 q56=>g_order_Width_ok [14,13,11,7] [3,2,1,0] x55 q56) gF h (fun x55 q56 h=>?_)
               refine sz 2 74 ?_
               refine inlR (f:=72) (fn:=Tryd.f72) (as0:=[vI x55.1,vI x55.2,.ptr 3 0 0]) kr Tryd.func72 rfl (by decide +kernel) rfl ?_
               refine wp_eqB (base':=5) (st':=⟨[(0,vI x55.1),(1,vI x55.2),(2,.ptr 3 0 0)],[.row false false true true 1 [.int .u64 10,.int .u64 5,.int .u64 10,.int .u64 5],.row false false true true 1 [.int .u64 2,.int .u64 5,.int .u64 2],.row false false true true 1 [.int .u64 14,.int .u64 13,.int .u64 11,.int .u64 7],oX true true 1 (vI 3),.row false false true true 1 [vI 3,vI 2,vI 1,vI 0]],13⟩) kr kr ?_
               refine sq (wp_seq (reg_in (sz 4 4 (rwg [1,9] [] ?_))))
               refine rb [9] h (fun q58 h=>?_) (fun q58 h=>?_)
               ·refine sz 4 8 (reg_end rfl (wg [5] [] ?_))
                refine wp_ret ?_
                refine ⟨⟨(s11_27 x1 x3 x55)++[(98,vB (x55.2==0))],[.row false false true true 1 [.int .u64 10,.int .u64 5,.int .u64 10,.int .u64 5],.row false false true true 1 [.int .u64 2,.int .u64 5,.int .u64 2],.row false false true true 1 [.int .u64 14,.int .u64 13,.int .u64 11,.int .u64 7],oX true true 1 (vI 3),.row false false true true 1 [vI 3,vI 2,vI 1,vI 0]],206⟩,by as_aux_lemma=>kernel_rfl,?_⟩
                refine sz 2 77 (reg_end rfl (wp_seq ?_))
                refine wgc [1,2,3,5,7,8] [0,1,2] ⟨[(1,.ref 0 0 4),(2,.ref 1 0 3),(3,.ref 2 0 4),(5,vI x1.2),(7,vI x3.2),(8,vB (x55.2==0))],[.row false false true true 1 [.int .u64 10,.int .u64 5,.int .u64 10,.int .u64 5],.row false false true true 1 [.int .u64 2,.int .u64 5,.int .u64 2],.row false false true true 1 [.int .u64 14,.int .u64 13,.int .u64 11,.int .u64 7]],206⟩ ?_
                refine reg_in (sz 2 2 ?_)
                refine rb [8,100,101] h (fun q60 h=>?_) (fun q60 h=>?_)
                ·refine sgL false [] [] true gE ?_
                 refine inlR (f:=44) (fn:=Tryd.f44) (as0:=[.ref 3 0 4]) kr Tryd.func44 rfl (by decide +kernel) rfl ?_
                 refine wp_eqB (base':=4) (st':=⟨[(0,.ref 3 0 4)],[.row false false true true 1 [.int .u64 10,.int .u64 5,.int .u64 10,.int .u64 5],.row false false true true 1 [.int .u64 2,.int .u64 5,.int .u64 2],.row false false true true 1 [.int .u64 14,.int .u64 13,.int .u64 11,.int .u64 7],.row false false true true 1 [vI 0,vI 1,vI 2,vI 3]],4⟩) kr kr ?_
                 refine wp_seq (reg_in ?_)
                 refine sgL false [] [] false gE ?_
                 refine sz 1 2 (reg_end rfl (sq (wg [2] [4] ?_)))
                 refine wp_ret ?_
                 refine ⟨⟨[(1,.ref 0 0 4),(2,.ref 1 0 3),(3,.ref 2 0 4),(5,vI x1.2),(7,vI x3.2),(8,vB true),(100,vB true),(101,vB true),(102,.ref 3 0 4),(103,.fn (.func 78) [] [.ptr 4 0 0])],[.row false false true true 1 [.int .u64 10,.int .u64 5,.int .u64 10,.int .u64 5],.row false false true true 1 [.int .u64 2,.int .u64 5,.int .u64 2],.row false false true true 1 [.int .u64 14,.int .u64 13,.int .u64 11,.int .u64 7],.row false false true true 1 [vI 0,vI 1,vI 2,vI 3],oX false false 1 (.ref 3 0 4)],206⟩,by as_aux_lemma=>kernel_rfl,?_⟩
                 refine sz 1 5 ?_
                 refine callR (as0:=[.ref 0 0 4]) (ids:=[0]) kr bodyB_22 (msnap_cons (show snap _ _ _=some (_,[0]) from kr) msnap_nil (by rfl)) (fun x61 q62=>g_order_LeastFill_ok [10,5,10,5] x61 q62) gF h (fun x61 q62 h=>?_)
                 refine sz 2 8 ?_
                 refine inlR (f:=78) (fn:=Tryd.f78) (as0:=[.ref 5 0 x61.1.length,vI x61.2,.ptr 4 0 0]) kr Tryd.func78 rfl (by decide +kernel) rfl ?_
                 refine wp_eqB (base':=6) (st':=⟨[(0,.ref 5 0 x61.1.length),(1,vI x61.2),(2,.ptr 4 0 0)],[.row false false true true 1 [.int .u64 10,.int .u64 5,.int .u64 10,.int .u64 5],.row false false true true 1 [.int .u64 2,.int .u64 5,.int .u64 2],.row false false true true 1 [.int .u64 14,.int .u64 13,.int .u64 11,.int .u64 7],.row false false true true 1 [vI 0,vI 1,vI 2,vI 3],oX false false 1 (.ref 3 0 4),oR true 1 eI x61.1],13⟩) kr kr ?_
                 refine sq (wp_seq (reg_in (sz 3 3 (rwg [0,2,8] [] ?_))))
                 refine rb [8] h (fun q64 h=>?_) (fun q64 h=>?_)
                 ·refine sz 2 5 ?_
                  refine callR (as0:=[.ref 5 0 x61.1.length,.ref 3 0 4]) (ids:=[5,3]) kr bodyB_71 (msnap_cons (snap_full (w:=1) (bx:=false) (ro:=false) (enc:=eI) (l:=x61.1) (fl:=true) kr) (msnap_cons (show snap _ _ _=some (_,[3]) from kr) msnap_nil (by rfl)) (by rfl)) (fun x65 q66=>g_slices_Equal_int_int_ok x61.1 [0,1,2,3] x65 q66) gF h (fun x65 q66 h=>?_)
                  refine sz 2 8 (reg_end rfl (wg [5] [] ?_))
                  refine wp_ret ?_
                  refine ⟨⟨(s11_32 x1 x3)++[(105,.tup [.ref 5 0 x61.1.length,vI x61.2]),(106,.ref 5 0 x61.1.length),(107,vI x61.2),(108,vB x65)],[.row false false true true 1 [.int .u64 10,.int .u64 5,.int .u64 10,.int .u64 5],.row false false true true 1 [.int .u64 2,.int .u64 5,.int .u64 2],.row false false true true 1 [.int .u64 14,.int .u64 13,.int .u64 11,.int .u64 7],.row false false true true 1 [vI 0,vI 1,vI 2,vI 3],oX false false 1 (.ref 3 0 4),oR true 1 eI x61.1],206⟩,by as_aux_lemma=>kernel_rfl,?_⟩
                  refine sz 2 11 ?_
                  refine rw_wk (wk_gc (live:=[1,2,3,5,7,110]) (keep:=[0,1,2]) (st':=⟨[(1,.ref 0 0 4),(2,.ref 1 0 3),(3,.ref 2 0 4),(5,vI x1.2),(7,vI x3.2),(110,vB x65)],[.row false false true true 1 [.int .u64 10,.int .u64 5,.int .u64 10,.int .u64 5],.row false false true true 1 [.int .u64 2,.int .u64 5,.int .u64 2],.row false false true true 1 [.int .u64 14,.int .u64 13,.int .u64 11,.int .u64 7]],206⟩) kr) ?_
                  refine rb [110] h (fun q68 h=>?_) (fun q68 h=>?_)
                  ·refine sgL false [] [] true gE ?_
                   refine inlR (f:=44) (fn:=Tryd.f44) (as0:=[.ref 3 0 3]) kr Tryd.func44 rfl (by decide +kernel) rfl ?_
                   refine wp_eqB (base':=4) (st':=⟨[(0,.ref 3 0 3)],[.row false false true true 1 [.int .u64 10,.int .u64 5,.int .u64 10,.int .u64 5],.row false false true true 1 [.int .u64 2,.int .u64 5,.int .u64 2],.row false false true true 1 [.int .u64 14,.int .u64 13,.int .u64 11,.int .u64 7],.row false false true true 1 [vI 0,vI 1,vI 2]],4⟩) kr kr ?_
                   refine wp_seq (reg_in ?_)
                   refine sgL false [] [] false gE ?_
                   refine sz 1 2 (reg_end rfl (sq (wg [2] [4] ?_)))
                   refine wp_ret ?_
                   refine ⟨⟨[(1,.ref 0 0 4),(2,.ref 1 0 3),(3,.ref 2 0 4),(5,vI x1.2),(7,vI x3.2),(110,vB true),(111,.ref 3 0 3),(112,.fn (.func 78) [] [.ptr 4 0 0])],[.row false false true true 1 [.int .u64 10,.int .u64 5,.int .u64 10,.int .u64 5],.row false false true true 1 [.int .u64 2,.int .u64 5,.int .u64 2],.row false false true true 1 [.int .u64 14,.int .u64 13,.int .u64 11,.int .u64 7],.row false false true true 1 [vI 0,vI 1,vI 2],o11_28],206⟩,by as_aux_lemma=>kernel_rfl,?_⟩
                   refine sz 1 14 ?_
                   refine callR (as0:=[.ref 1 0 3]) (ids:=[1]) kr bodyB_22 (msnap_cons (show snap _ _ _=some (_,[1]) from kr) msnap_nil (by rfl)) (fun x69 q70=>g_order_LeastFill_ok [2,5,2] x69 q70) gF h (fun x69 q70 h=>?_)
                   refine sz 2 17 ?_
                   refine inlR (f:=78) (fn:=Tryd.f78) (as0:=[.ref 5 0 x69.1.length,vI x69.2,.ptr 4 0 0]) kr Tryd.func78 rfl (by decide +kernel) rfl ?_
                   refine wp_eqB (base':=6) (st':=⟨[(0,.ref 5 0 x69.1.length),(1,vI x69.2),(2,.ptr 4 0 0)],[.row false false true true 1 [.int .u64 10,.int .u64 5,.int .u64 10,.int .u64 5],.row false false true true 1 [.int .u64 2,.int .u64 5,.int .u64 2],.row false false true true 1 [.int .u64 14,.int .u64 13,.int .u64 11,.int .u64 7],.row false false true true 1 [vI 0,vI 1,vI 2],o11_28,oR true 1 eI x69.1],13⟩) kr kr ?_
                   refine sq (wp_seq (reg_in (sz 3 3 (rwg [0,2,8] [] ?_))))
                   refine rb [8] h (fun q72 h=>?_) (fun q72 h=>?_)
                   ·refine sz 2 5 ?_
                    refine callR (as0:=[.ref 5 0 x69.1.length,.ref 3 0 3]) (ids:=[5,3]) kr bodyB_71 (msnap_cons (snap_full (w:=1) (bx:=false) (ro:=false) (enc:=eI) (l:=x69.1) (fl:=true) kr) (msnap_cons (show snap _ _ _=some (_,[3]) from kr) msnap_nil (by rfl)) (by rfl)) (fun x73 q74=>g_slices_Equal_int_int_ok x69.1 [0,1,2] x73 q74) gF h (fun x73 q74 h=>?_)
                    refine sz 2 8 (reg_end rfl (wg [5] [] ?_))
                    refine wp_ret ?_
                    refine ⟨⟨(s11_36 x1 x3 x69)++[(117,vB x73)],[.row false false true true 1 [.int .u64 10,.int .u64 5,.int .u64 10,.int .u64 5],.row false false true true 1 [.int .u64 2,.int .u64 5,.int .u64 2],.row false false true true 1 [.int .u64 14,.int .u64 13,.int .u64 11,.int .u64 7],.row false false true true 1 [vI 0,vI 1,vI 2],o11_28,oR true 1 eI x69.1],206⟩,by as_aux_lemma=>kernel_rfl,?_⟩
                    refine sz 2 20 ?_
                    refine rw_wk (wk_gc (live:=[1,2,3,5,7,119]) (keep:=[0,1,2]) (st':=⟨[(1,.ref 0 0 4),(2,.ref 1 0 3),(3,.ref 2 0 4),(5,vI x1.2),(7,vI x3.2),(119,vB x73)],[.row false false true true 1 [.int .u64 10,.int .u64 5,.int .u64 10,.int .u64 5],.row false false true true 1 [.int .u64 2,.int .u64 5,.int .u64 2],.row false false true true 1 [.int .u64 14,.int .u64 13,.int .u64 11,.int .u64 7]],206⟩) kr) ?_
                    refine rb [119] h (fun q76 h=>?_) (fun q76 h=>?_)
                    ·refine sgL false [] [] true gE ?_
                     refine inlR (f:=44) (fn:=Tryd.f44) (as0:=[.ref 3 0 3]) kr Tryd.func44 rfl (by decide +kernel) rfl ?_
                     refine wp_eqB (base':=4) (st':=⟨[(0,.ref 3 0 3)],[.row false false true true 1 [.int .u64 10,.int .u64 5,.int .u64 10,.int .u64 5],.row false false true true 1 [.int .u64 2,.int .u64 5,.int .u64 2],.row false false true true 1 [.int .u64 14,.int .u64 13,.int .u64 11,.int .u64 7],.row false false true true 1 [vI 0,vI 1,vI 2]],4⟩) kr kr ?_
                     refine wp_seq (reg_in ?_)
                     refine sgL false [] [] false gE ?_
                     refine sz 1 2 (reg_end rfl (sq (wg [2] [4] ?_)))
                     refine wp_ret ?_
                     refine ⟨⟨[(1,.ref 0 0 4),(2,.ref 1 0 3),(3,.ref 2 0 4),(5,vI x1.2),(7,vI x3.2),(119,vB true),(120,.ref 3 0 3),(121,.fn (.func 78) [] [.ptr 4 0 0])],[.row false false true true 1 [.int .u64 10,.int .u64 5,.int .u64 10,.int .u64 5],.row false false true true 1 [.int .u64 2,.int .u64 5,.int .u64 2],.row false false true true 1 [.int .u64 14,.int .u64 13,.int .u64 11,.int .u64 7],.row false false true true 1 [vI 0,vI 1,vI 2],o11_28],206⟩,by as_aux_lemma=>kernel_rfl,?_⟩
                     refine sz 1 23 ?_
                     refine callR (as0:=[.ref 1 0 3]) (ids:=[1]) kr bodyB_23 (msnap_cons (show snap _ _ _=some (_,[1]) from kr) msnap_nil (by rfl)) (fun x77 q78=>g_order_LeastDegree_ok [2,5,2] x77 q78) gF h (fun x77 q78 h=>?_)
                     refine sz 2 26 ?_
                     refine inlR (f:=78) (fn:=Tryd.f78) (as0:=[.ref 5 0 x77.1.length,vI x77.2,.ptr 4 0 0]) kr Tryd.func78 rfl (by decide +kernel) rfl ?_
                     refine wp_eqB (base':=6) (st':=⟨[(0,.ref 5 0 x77.1.length),(1,vI x77.2),(2,.ptr 4 0 0)],[.row false false true true 1 [.int .u64 10,.int .u64 5,.int .u64 10,.int .u64 5],.row false false true true 1 [.int .u64 2,.int .u64 5,.int .u64 2],.row false false true true 1 [.int .u64 14,.int .u64 13,.int .u64 11,.int .u64 7],.row false false true true 1 [vI 0,vI 1,vI 2],o11_28,oR true 1 eI x77.1],13⟩) kr kr ?_
                     refine sq (wp_seq (reg_in (sz 3 3 (rwg [0,2,8] [] ?_))))
                     refine rb [8] h (fun q80 h=>?_) (fun q80 h=>?_)
                     ·refine sz 2 5 ?_
                      refine callR (as0:=[.ref 5 0 x77.1.length,.ref 3 0 3]) (ids:=[5,3]) kr bodyB_71 (msnap_cons (snap_full (w:=1) (bx:=false) (ro:=false) (enc:=eI) (l:=x77.1) (fl:=true) kr) (msnap_cons (show snap _ _ _=some (_,[3]) from kr) msnap_nil (by rfl)) (by rfl)) (fun x81 q82=>g_slices_Equal_int_int_ok x77.1 [0,1,2] x81 q82) gF h (fun x81 q82 h=>?_)
                      refine sz 2 8 (reg_end rfl (wg [5] [] ?_))
                      refine wp_ret ?_
                      refine ⟨⟨(s11_38 x1 x3 x77)++[(126,vB x81)],[.row false false true true 1 [.int .u64 10,.int .u64 5,.int .u64 10,.int .u64 5],.row false false true true 1 [.int .u64 2,.int .u64 5,.int .u64 2],.row false false true true 1 [.int .u64 14,.int .u64 13,.int .u64 11,.int .u64 7],.row false false true true 1 [vI 0,vI 1,vI 2],o11_28,oR true 1 eI x77.1],206⟩,by as_aux_lemma=>kernel_rfl,?_⟩
                      refine sz 2 29 ?_
                      refine rw_wk (wk_gc (live:=[1,2,3,5,7,128]) (keep:=[0,1,2]) (st':=⟨[(1,.ref 0 0 4),(2,.ref 1 0 3),(3,.ref 2 0 4),(5,vI x1.2),(7,vI x3.2),(128,vB x81)],[.row false false true true 1 [.int .u64 10,.int .u64 5,.int .u64 10,.int .u64 5],.row false false true true 1 [.int .u64 2,.int .u64 5,.int .u64 2],.row false false true true 1 [.int .u64 14,.int .u64 13,.int .u64 11,.int .u64 7]],206⟩) kr) ?_
                      refine rb [128] h (fun q84 h=>?_) (fun q84 h=>?_)
                      ·refine sz 1 30 ?_
                       refine sgL false [] [] true gE ?_
                       refine callR (as0:=[.ref 0 0 4,vI 2,.ref 3 0 4]) (ids:=[0,3]) kr bodyB_35 (msnap_cons (show snap _ _ _=some (_,[0]) from kr) (msnap_cons rfl (msnap_cons (show snap _ _ _=some (_,[3]) from kr) msnap_nil (by rfl)) (by rfl)) (by rfl)) (fun x85 q86=>g_law08_best_ok [10,5,10,5] 2 [0,1,2,3] x85 q86) gF h (fun x85 q86 h=>?_)
                       refine sz 2 34 (rwg [1,2,3,5,7,133] [0,1,2] ?_)
                       refine rb [133] h (fun q88 h=>?_) (fun q88 h=>?_)
                       ·refine sz 1 35 ?_
                        refine sgL false [] [] true gE ?_
                        refine callR (as0:=[.ref 1 0 3,vI 1,.ref 3 0 3]) (ids:=[1,3]) kr bodyB_35 (msnap_cons (show snap _ _ _=some (_,[1]) from kr) (msnap_cons rfl (msnap_cons (show snap _ _ _=some (_,[3]) from kr) msnap_nil (by rfl)) (by rfl)) (by rfl)) (fun x89 q90=>g_law08_best_ok [2,5,2] 1 [0,1,2] x89 q90) gF h (fun x89 q90 h=>?_)
                        refine sz 2 39 (rwg [1,2,3,5,7,138] [0,1,2] ?_)
                        refine rb [138] h (fun q92 h=>?_) (fun q92 h=>?_)
                        ·refine sz 1 40 ?_
                         refine sgL false [] [] true gE ?_
                         refine callR (as0:=[.ref 2 0 4,vI 3,.ref 3 0 4]) (ids:=[2,3]) kr bodyB_35 (msnap_cons (show snap _ _ _=some (_,[2]) from kr) (msnap_cons rfl (msnap_cons (show snap _ _ _=some (_,[3]) from kr) msnap_nil (by rfl)) (by rfl)) (by rfl)) (fun x93 q94=>g_law08_best_ok [14,13,11,7] 3 [0,1,2,3] x93 q94) gF h (fun x93 q94 h=>?_)
                         refine sz 2 44 ?_
                         refine rw_wk (wk_gc (live:=[1,2,3,5,7,143]) (keep:=[0,1,2]) (st':=⟨[(1,.ref 0 0 4),(2,.ref 1 0 3),(3,.ref 2 0 4),(5,vI x1.2),(7,vI x3.2),(143,vB x93)],[.row false false true true 1 [.int .u64 10,.int .u64 5,.int .u64 10,.int .u64 5],.row false false true true 1 [.int .u64 2,.int .u64 5,.int .u64 2],.row false false true true 1 [.int .u64 14,.int .u64 13,.int .u64 11,.int .u64 7]],206⟩) kr) ?_
                         refine rb [143] h (fun q96 h=>?_) (fun q96 h=>?_)
                         ·refine inlR (f:=36) (fn:=Tryd.f36) (as0:=[vI 2]) kr Tryd.func36 rfl (by decide +kernel) rfl ?_
                          refine wp_eqB (base':=3) (st':=⟨[(0,vI 2)],[.row false false true true 1 [.int .u64 10,.int .u64 5,.int .u64 10,.int .u64 5],.row false false true true 1 [.int .u64 2,.int .u64 5,.int .u64 2],.row false false true true 1 [.int .u64 14,.int .u64 13,.int .u64 11,.int .u64 7]],4⟩) kr kr ?_
                          refine sq (sq (wg [2] [3] ?_))
                          refine wp_ret ?_
                          refine ⟨⟨[(1,.ref 0 0 4),(2,.ref 1 0 3),(3,.ref 2 0 4),(5,vI x1.2),(7,vI x3.2),(143,vB true),(144,.fn (.func 72) [] [.ptr 3 0 0])],[.row false false true true 1 [.int .u64 10,.int .u64 5,.int .u64 10,.int .u64 5],.row false false true true 1 [.int .u64 2,.int .u64 5,.int .u64 2],.row false false true true 1 [.int .u64 14,.int .u64 13,.int .u64 11,.int .u64 7],oX true true 1 (vI 2)],206⟩,by as_aux_lemma=>kernel_rfl,?_⟩
                          refine sz 1 46 ?_
                          refine callR (as0:=[.ref 0 0 4]) (ids:=[0]) kr bodyB_24 (msnap_cons (show snap _ _ _=some (_,[0]) from kr) msnap_nil (by rfl)) (fun x97 q98=>g_order_Low_ok [10,5,10,5] x97 q98) gF h (fun x97 q98 h=>?_)
                          refine sz 2 49 ?_
                          refine inlR (f:=72) (fn:=Tryd.f72) (as0:=[vI x97.1,vI x97.2,.ptr 3 0 0]) kr Tryd.func72 rfl (by decide +kernel) rfl ?_
                          refine wp_eqB (base':=4) (st':=⟨[(0,vI x97.1),(1,vI x97.2),(2,.ptr 3 0 0)],[.row false false true true 1 [.int .u64 10,.int .u64 5,.int .u64 10,.int .u64 5],.row false false true true 1 [.int .u64 2,.int .u64 5,.int .u64 2],.row false false true true 1 [.int .u64 14,.int .u64 13,.int .u64 11,.int .u64 7],oX true true 1 (vI 2)],13⟩) kr kr ?_
                          refine sq (wp_seq (reg_in (sz 4 4 (rwg [1,9] [] ?_))))
                          refine rb [9] h (fun q100 h=>?_) (fun q100 h=>?_)
                          ·refine sz 4 8 (reg_end rfl (wg [5] [] ?_))
                           refine wp_ret ?_
                           refine ⟨⟨(s11_40 x1 x3 x97)++[(149,vB (x97.2==0))],[.row false false true true 1 [.int .u64 10,.int .u64 5,.int .u64 10,.int .u64 5],.row false false true true 1 [.int .u64 2,.int .u64 5,.int .u64 2],.row false false true true 1 [.int .u64 14,.int .u64 13,.int .u64 11,.int .u64 7],oX true true 1 (vI 2)],206⟩,by as_aux_lemma=>kernel_rfl,?_⟩
                           refine sz 2 52 ?_
                           refine rw_wk (wk_gc (live:=[1,2,3,5,7,151]) (keep:=[0,1,2]) (st':=⟨[(1,.ref 0 0 4),(2,.ref 1 0 3),(3,.ref 2 0 4),(5,vI x1.2),(7,vI x3.2),(151,vB (x97.2==0))],[.row false false true true 1 [.int .u64 10,.int .u64 5,.int .u64 10,.int .u64 5],.row false false true true 1 [.int .u64 2,.int .u64 5,.int .u64 2],.row false false true true 1 [.int .u64 14,.int .u64 13,.int .u64 11,.int .u64 7]],206⟩) kr) ?_
                           refine rb [151] h (fun q102 h=>?_) (fun q102 h=>?_)
                           ·refine inlR (f:=36) (fn:=Tryd.f36) (as0:=[vI 1]) kr Tryd.func36 rfl (by decide +kernel) rfl ?_
                            refine wp_eqB (base':=3) (st':=⟨[(0,vI 1)],[.row false false true true 1 [.int .u64 10,.int .u64 5,.int .u64 10,.int .u64 5],.row false false true true 1 [.int .u64 2,.int .u64 5,.int .u64 2],.row false false true true 1 [.int .u64 14,.int .u64 13,.int .u64 11,.int .u64 7]],4⟩) kr kr ?_
                            refine sq (sq (wg [2] [3] ?_))
                            refine wp_ret ?_
                            refine ⟨⟨[(1,.ref 0 0 4),(2,.ref 1 0 3),(3,.ref 2 0 4),(5,vI x1.2),(7,vI x3.2),(151,vB true),(152,.fn (.func 72) [] [.ptr 3 0 0])],[.row false false true true 1 [.int .u64 10,.int .u64 5,.int .u64 10,.int .u64 5],.row false false true true 1 [.int .u64 2,.int .u64 5,.int .u64 2],.row false false true true 1 [.int .u64 14,.int .u64 13,.int .u64 11,.int .u64 7],oX true true 1 (vI 1)],206⟩,by as_aux_lemma=>kernel_rfl,?_⟩
                            refine sz 1 54 ?_
                            refine callR (as0:=[.ref 1 0 3]) (ids:=[1]) kr bodyB_24 (msnap_cons (show snap _ _ _=some (_,[1]) from kr) msnap_nil (by rfl)) (fun x103 q104=>g_order_Low_ok [2,5,2] x103 q104) gF h (fun x103 q104 h=>?_)
                            refine sz 2 57 ?_
                            refine inlR (f:=72) (fn:=Tryd.f72) (as0:=[vI x103.1,vI x103.2,.ptr 3 0 0]) kr Tryd.func72 rfl (by decide +kernel) rfl ?_
                            refine wp_eqB (base':=4) (st':=⟨[(0,vI x103.1),(1,vI x103.2),(2,.ptr 3 0 0)],[.row false false true true 1 [.int .u64 10,.int .u64 5,.int .u64 10,.int .u64 5],.row false false true true 1 [.int .u64 2,.int .u64 5,.int .u64 2],.row false false true true 1 [.int .u64 14,.int .u64 13,.int .u64 11,.int .u64 7],oX true true 1 (vI 1)],13⟩) kr kr ?_
                            refine sq (wp_seq (reg_in (sz 4 4 (rwg [1,9] [] ?_))))
                            refine rb [9] h (fun q106 h=>?_) (fun q106 h=>?_)
                            ·refine sz 4 8 (reg_end rfl (wg [5] [] ?_))
                             refine wp_ret ?_
                             refine ⟨⟨(s11_42 x1 x3 x103)++[(157,vB (x103.2==0))],[.row false false true true 1 [.int .u64 10,.int .u64 5,.int .u64 10,.int .u64 5],.row false false true true 1 [.int .u64 2,.int .u64 5,.int .u64 2],.row false false true true 1 [.int .u64 14,.int .u64 13,.int .u64 11,.int .u64 7],oX true true 1 (vI 1)],206⟩,by as_aux_lemma=>kernel_rfl,?_⟩
                             refine sz 2 60 ?_
                             refine rw_wk (wk_gc (live:=[1,2,3,5,7,159]) (keep:=[0,1,2]) (st':=⟨[(1,.ref 0 0 4),(2,.ref 1 0 3),(3,.ref 2 0 4),(5,vI x1.2),(7,vI x3.2),(159,vB (x103.2==0))],[.row false false true true 1 [.int .u64 10,.int .u64 5,.int .u64 10,.int .u64 5],.row false false true true 1 [.int .u64 2,.int .u64 5,.int .u64 2],.row false false true true 1 [.int .u64 14,.int .u64 13,.int .u64 11,.int .u64 7]],206⟩) kr) ?_
                             refine rb [159] h (fun q108 h=>?_) (fun q108 h=>?_)
                             ·refine inlR (f:=36) (fn:=Tryd.f36) (as0:=[vI 3]) kr Tryd.func36 rfl (by decide +kernel) rfl ?_
                              refine wp_eqB (base':=3) (st':=⟨[(0,vI 3)],[.row false false true true 1 [.int .u64 10,.int .u64 5,.int .u64 10,.int .u64 5],.row false false true true 1 [.int .u64 2,.int .u64 5,.int .u64 2],.row false false true true 1 [.int .u64 14,.int .u64 13,.int .u64 11,.int .u64 7]],4⟩) kr kr ?_
                              refine sq (sq (wg [2] [3] ?_))
                              refine wp_ret ?_
                              refine ⟨⟨[(1,.ref 0 0 4),(2,.ref 1 0 3),(3,.ref 2 0 4),(5,vI x1.2),(7,vI x3.2),(159,vB true),(160,.fn (.func 72) [] [.ptr 3 0 0])],[.row false false true true 1 [.int .u64 10,.int .u64 5,.int .u64 10,.int .u64 5],.row false false true true 1 [.int .u64 2,.int .u64 5,.int .u64 2],.row false false true true 1 [.int .u64 14,.int .u64 13,.int .u64 11,.int .u64 7],oX true true 1 (vI 3)],206⟩,by as_aux_lemma=>kernel_rfl,?_⟩
                              refine sz 1 62 ?_
                              refine callR (as0:=[.ref 2 0 4]) (ids:=[2]) kr bodyB_24 (msnap_cons (show snap _ _ _=some (_,[2]) from kr) msnap_nil (by rfl)) (fun x109 q110=>g_order_Low_ok [14,13,11,7] x109 q110) gF h (fun x109 q110 h=>?_)
                              refine sz 2 65 ?_
                              refine inlR (f:=72) (fn:=Tryd.f72) (as0:=[vI x109.1,vI x109.2,.ptr 3 0 0]) kr Tryd.func72 rfl (by decide +kernel) rfl ?_
                              refine wp_eqB (base':=4) (st':=⟨[(0,vI x109.1),(1,vI x109.2),(2,.ptr 3 0 0)],[.row false false true true 1 [.int .u64 10,.int .u64 5,.int .u64 10,.int .u64 5],.row false false true true 1 [.int .u64 2,.int .u64 5,.int .u64 2],.row false false true true 1 [.int .u64 14,.int .u64 13,.int .u64 11,.int .u64 7],oX true true 1 (vI 3)],13⟩) kr kr ?_
                              refine sq (wp_seq (reg_in (sz 4 4 (rwg [1,9] [] ?_))))
                              refine rb [9] h (fun q112 h=>?_) (fun q112 h=>?_)
                              ·refine sz 4 8 (reg_end rfl (wg [5] [] ?_))
                               refine wp_ret ?_
                               refine ⟨⟨(s11_44 x1 x3 x109)++[(165,vB (x109.2==0))],[.row false false true true 1 [.int .u64 10,.int .u64 5,.int .u64 10,.int .u64 5],.row false false true true 1 [.int .u64 2,.int .u64 5,.int .u64 2],.row false false true true 1 [.int .u64 14,.int .u64 13,.int .u64 11,.int .u64 7],oX true true 1 (vI 3)],206⟩,by as_aux_lemma=>kernel_rfl,?_⟩
                               refine sz 2 68 ?_
                               refine rw_wk (wk_gc (live:=[1,2,5,7,167]) (keep:=[0,1]) (st':=⟨[(1,.ref 0 0 4),(2,.ref 1 0 3),(5,vI x1.2),(7,vI x3.2),(167,vB (x109.2==0))],[.row false false true true 1 [.int .u64 10,.int .u64 5,.int .u64 10,.int .u64 5],.row false false true true 1 [.int .u64 2,.int .u64 5,.int .u64 2]],206⟩) kr) ?_
                               refine rb [167] h (fun q114 h=>?_) (fun q114 h=>?_)
                               ·refine inlR (f:=37) (fn:=Tryd.f37) (as0:=[vB false]) kr Tryd.func37 rfl (by decide +kernel) rfl ?_
                                refine wp_eqB (base':=2) (st':=⟨[(0,vB false)],[.row false false true true 1 [.int .u64 10,.int .u64 5,.int .u64 10,.int .u64 5],.row false false true true 1 [.int .u64 2,.int .u64 5,.int .u64 2]],4⟩) kr kr ?_
                                refine sq (sq (wg [2] [2] ?_))
                                refine wp_ret ?_
                                refine ⟨⟨[(1,.ref 0 0 4),(2,.ref 1 0 3),(5,vI x1.2),(7,vI x3.2),(167,vB true),(168,.fn (.func 73) [] [.ptr 2 0 0])],[.row false false true true 1 [.int .u64 10,.int .u64 5,.int .u64 10,.int .u64 5],.row false false true true 1 [.int .u64 2,.int .u64 5,.int .u64 2],oX true true 1 (vB false)],206⟩,by as_aux_lemma=>kernel_rfl,?_⟩
                                refine sz 1 70 ?_
                                refine callR (as0:=[.ref 0 0 4]) (ids:=[0]) kr bodyB_25 (msnap_cons (show snap _ _ _=some (_,[0]) from kr) msnap_nil (by rfl)) (fun x115 q116=>g_order_Chordal_ok [10,5,10,5] x115 q116) gF h (fun x115 q116 h=>?_)
                                refine sz 2 73 ?_
                                refine inlR (f:=73) (fn:=Tryd.f73) (as0:=[vB x115.1,vI x115.2,.ptr 2 0 0]) kr Tryd.func73 rfl (by decide +kernel) rfl ?_
                                refine wp_eqB (base':=3) (st':=⟨[(0,vB x115.1),(1,vI x115.2),(2,.ptr 2 0 0)],[.row false false true true 1 [.int .u64 10,.int .u64 5,.int .u64 10,.int .u64 5],.row false false true true 1 [.int .u64 2,.int .u64 5,.int .u64 2],oX true true 1 (vB false)],13⟩) kr kr ?_
                                refine sq (wp_seq (reg_in (sz 4 4 (rwg [1,9] [] ?_))))
                                refine rb [9] h (fun q118 h=>?_) (fun q118 h=>?_)
                                ·refine sz 4 8 (reg_end rfl (wg [5] [] ?_))
                                 refine wp_ret ?_
                                 refine ⟨⟨(s11_47 x1 x3 x115)++[(173,vB (x115.2==0))],[.row false false true true 1 [.int .u64 10,.int .u64 5,.int .u64 10,.int .u64 5],.row false false true true 1 [.int .u64 2,.int .u64 5,.int .u64 2],oX true true 1 (vB false)],206⟩,by as_aux_lemma=>kernel_rfl,?_⟩
                                 refine sz 2 76 ?_
                                 refine rw_wk (wk_gc (live:=[2,5,7,175]) (keep:=[1]) (st':=⟨[(2,.ref 0 0 3),(5,vI x1.2),(7,vI x3.2),(175,vB (x115.2==0))],[.row false false true true 1 [.int .u64 2,.int .u64 5,.int .u64 2]],206⟩) kr) ?_
                                 refine rb [175] h (fun q120 h=>?_) (fun q120 h=>?_)
                                 ·refine inlR (f:=37) (fn:=Tryd.f37) (as0:=[vB true]) kr Tryd.func37 rfl (by decide +kernel) rfl ?_
                                  refine wp_eqB (base':=1) (st':=⟨[(0,vB true)],[.row false false true true 1 [.int .u64 2,.int .u64 5,.int .u64 2]],4⟩) kr kr ?_
                                  refine sq (sq (wg [2] [1] ?_))
                                  refine wp_ret ?_
                                  refine ⟨⟨[(2,.ref 0 0 3),(5,vI x1.2),(7,vI x3.2),(175,vB true),(176,.fn (.func 73) [] [.ptr 1 0 0])],[.row false false true true 1 [.int .u64 2,.int .u64 5,.int .u64 2],oX true true 1 (vB true)],206⟩,by as_aux_lemma=>kernel_rfl,?_⟩
                                  refine sz 1 78 ?_
                                  refine callR (as0:=[.ref 0 0 3]) (ids:=[0]) kr bodyB_25 (msnap_cons (show snap _ _ _=some (_,[0]) from kr) msnap_nil (by rfl)) (fun x121 q122=>g_order_Chordal_ok [2,5,2] x121 q122) gF h (fun x121 q122 h=>?_)
                                  refine sz 2 81 ?_
                                  refine inlR (f:=73) (fn:=Tryd.f73) (as0:=[vB x121.1,vI x121.2,.ptr 1 0 0]) kr Tryd.func73 rfl (by decide +kernel) rfl ?_
                                  refine wp_eqB (base':=2) (st':=⟨[(0,vB x121.1),(1,vI x121.2),(2,.ptr 1 0 0)],[.row false false true true 1 [.int .u64 2,.int .u64 5,.int .u64 2],oX true true 1 (vB true)],13⟩) kr kr ?_
                                  refine sq (wp_seq (reg_in (sz 4 4 (rwg [1,9] [] ?_))))
                                  refine rb [9] h (fun q124 h=>?_) (fun q124 h=>?_)
                                  ·refine sz 4 8 (reg_end rfl (wg [5] [] ?_))
                                   refine wp_ret ?_
                                   refine ⟨⟨(s11_50 x1 x3 x121)++[(181,vB (x121.2==0))],[.row false false true true 1 [.int .u64 2,.int .u64 5,.int .u64 2],oX true true 1 (vB true)],206⟩,by as_aux_lemma=>kernel_rfl,?_⟩
                                   refine sz 2 84 (reg_end rfl (wp_seq ?_))
                                   refine wgc [5,7,8] [] ⟨[(5,vI x1.2),(7,vI x3.2),(8,vB (x121.2==0))],[],206⟩ ?_
                                   refine reg_in (sz 2 2 ?_)
                                   refine rb [8,183,184] h (fun q126 h=>?_) (fun q126 h=>?_)
                                   ·refine sz 4 6 (rwg [7,188] [] ?_)
                                    refine rb [188] h (fun q128 h=>?_) (fun q128 h=>?_)
                                    ·refine sz 4 10 (rwg [192] [] ?_)
                                     refine rb [192] h (fun q130 h=>?_) (fun q130 h=>?_)
                                     ·refine sgL false [] [] true gE ?_
                                      refine callR (as0:=[.ref 0 0 2]) (ids:=[0]) kr bodyB_14 (msnap_cons (show snap _ _ _=some (_,[0]) from kr) msnap_nil (by rfl)) (fun x131 q132=>g_order_Check_ok [2,0] x131 q132) gF h (fun x131 q132 h=>?_)
                                      refine sz 3 15 ?_
                                      refine rw_wk (wk_gc (live:=[197]) (keep:=[]) (st':=⟨[(197,vB (x131==80))],[],206⟩) kr) ?_
                                      refine rb [197] h (fun q134 h=>?_) (fun q134 h=>?_)
                                      ·refine sgL false [] [] true gE ?_
                                       refine callR (as0:=[.ref 0 0 1]) (ids:=[0]) kr bodyB_14 (msnap_cons (show snap _ _ _=some (_,[0]) from kr) msnap_nil (by rfl)) (fun x135 q136=>g_order_Check_ok [1] x135 q136) gF h (fun x135 q136 h=>?_)
                                       refine sz 3 20 (rwg [202] [] ?_)
                                       refine rb [202] h (fun q138 h=>?_) (fun q138 h=>?_)
                                       ·refine callR (as0:=[.nils]) (us:=[.nils]) (ids:=[]) kr bodyB_14 (msnap_cons rfl msnap_nil) (fun x139 q140=>CallOk.args [[.lst true]] (g_order_Check_ok [] x139 q140)) gF h (fun x139 q140 h=>?_)
                                        refine sz 3 24 (reg_end rfl (wg [0] [] ?_))
                                        cases h
                                        exact wp_ret (show fnOut _ _ _ _=_ from by kernel_rfl)
                                       refine sz 4 24 (reg_end rfl (wg [0] [] ?_))
                                       cases h
                                       exact wp_ret (show fnOut _ _ _ _=_ from by kernel_rfl)
                                      refine sz 9 24 (reg_end rfl (wg [0] [] ?_))
                                      cases h
                                      exact wp_ret (show fnOut _ _ _ _=_ from by kernel_rfl)
                                     refine sz 14 24 (reg_end rfl ?_)
                                     refine wgc [0] [] ⟨[(0,vB false)],[],206⟩ ?_
                                     cases h
                                     exact wp_ret (show fnOut _ _ _ _=_ from by kernel_rfl)
                                    refine sz 18 24 (reg_end rfl ?_)
                                    refine wgc [0] [] ⟨[(0,vB false)],[],206⟩ ?_
                                    cases h
                                    exact wp_ret (show fnOut _ _ _ _=_ from by kernel_rfl)
                                   refine sz 22 24 (reg_end rfl ?_)
                                   refine wgc [0] [] ⟨[(0,vB false)],[],206⟩ ?_
                                   cases h
                                   exact wp_ret (show fnOut _ _ _ _=_ from by kernel_rfl)
                                  refine sz 4 8 (reg_end rfl (wg [5] [] ?_))
                                  refine wp_ret ?_
                                  refine ⟨⟨(s11_50 x1 x3 x121)++[(181,vB false)],[.row false false true true 1 [.int .u64 2,.int .u64 5,.int .u64 2],oX true true 1 (vB true)],206⟩,by as_aux_lemma=>kernel_rfl,?_⟩
                                  refine sz 2 84 (reg_end rfl (wp_seq ?_))
                                  refine wgc [5,7,8] [] ⟨[(5,vI x1.2),(7,vI x3.2),(8,vB false)],[],206⟩ ?_
                                  refine rn (wg [0] [] ?_)
                                  cases h
                                  exact wp_ret (show fnOut _ _ _ _=_ from by kernel_rfl)
                                 refine sz 8 84 (reg_end rfl (wp_seq (wg [5,7,8] [] (rn (wg [0] [] ?_)))))
                                 cases h
                                 exact wp_ret (show fnOut _ _ _ _=_ from by kernel_rfl)
                                refine sz 4 8 (reg_end rfl (wg [5] [] ?_))
                                refine wp_ret ?_
                                refine ⟨⟨(s11_47 x1 x3 x115)++[(173,vB false)],[.row false false true true 1 [.int .u64 10,.int .u64 5,.int .u64 10,.int .u64 5],.row false false true true 1 [.int .u64 2,.int .u64 5,.int .u64 2],oX true true 1 (vB false)],206⟩,by as_aux_lemma=>kernel_rfl,?_⟩
                                refine sz 10 84 (reg_end rfl (wp_seq ?_))
                                refine wgc [5,7,8] [] ⟨[(5,vI x1.2),(7,vI x3.2),(8,vB false)],[],206⟩ ?_
                                refine rn (wg [0] [] ?_)
                                cases h
                                exact wp_ret (show fnOut _ _ _ _=_ from by kernel_rfl)
                               refine sz 16 84 (reg_end rfl (wp_seq ?_))
                               refine wgc [5,7,8] [] ⟨[(5,vI x1.2),(7,vI x3.2),(8,vB false)],[],206⟩ ?_
                               refine rn (wg [0] [] ?_)
                               cases h
                               exact wp_ret (show fnOut _ _ _ _=_ from by kernel_rfl)
                              refine sz 4 8 (reg_end rfl (wg [5] [] ?_))
                              refine wp_ret ?_
                              refine ⟨⟨(s11_44 x1 x3 x109)++[(165,vB false)],[.row false false true true 1 [.int .u64 10,.int .u64 5,.int .u64 10,.int .u64 5],.row false false true true 1 [.int .u64 2,.int .u64 5,.int .u64 2],.row false false true true 1 [.int .u64 14,.int .u64 13,.int .u64 11,.int .u64 7],oX true true 1 (vI 3)],206⟩,by as_aux_lemma=>kernel_rfl,?_⟩
                              refine sz 18 84 (reg_end rfl (wp_seq ?_))
                              refine wgc [5,7,8] [] ⟨[(5,vI x1.2),(7,vI x3.2),(8,vB false)],[],206⟩ ?_
                              refine rn (wg [0] [] ?_)
                              cases h
                              exact wp_ret (show fnOut _ _ _ _=_ from by kernel_rfl)
                             refine sz 24 84 (reg_end rfl (wp_seq ?_))
                             refine wgc [5,7,8] [] ⟨[(5,vI x1.2),(7,vI x3.2),(8,vB false)],[],206⟩ ?_
                             refine rn (wg [0] [] ?_)
                             cases h
                             exact wp_ret (show fnOut _ _ _ _=_ from by kernel_rfl)
                            refine sz 4 8 (reg_end rfl (wg [5] [] ?_))
                            refine wp_ret ?_
                            refine ⟨⟨(s11_42 x1 x3 x103)++[(157,vB false)],[.row false false true true 1 [.int .u64 10,.int .u64 5,.int .u64 10,.int .u64 5],.row false false true true 1 [.int .u64 2,.int .u64 5,.int .u64 2],.row false false true true 1 [.int .u64 14,.int .u64 13,.int .u64 11,.int .u64 7],oX true true 1 (vI 1)],206⟩,by as_aux_lemma=>kernel_rfl,?_⟩
                            refine sgz 26 84 (S:=⟨(s11_42 x1 x3 x103)++[(157,vB false),(158,vB false),(159,vB false),(160,.tup []),(161,.tup []),(162,.tup []),(163,.tup []),(164,.tup []),(165,.tup []),(166,vB false),(167,vB false),(168,.tup []),(169,.tup []),(170,.tup []),(171,.tup []),(172,.tup []),(173,.tup []),(174,vB false),(175,vB false),(176,.tup []),(177,.tup []),(178,.tup []),(179,.tup []),(180,.tup []),(181,.tup []),(182,vB false),(8,vB false)],[.row false false true true 1 [.int .u64 10,.int .u64 5,.int .u64 10,.int .u64 5],.row false false true true 1 [.int .u64 2,.int .u64 5,.int .u64 2],.row false false true true 1 [.int .u64 14,.int .u64 13,.int .u64 11,.int .u64 7],oX true true 1 (vI 1)],206⟩) ?_
                            refine reg_end rfl (wp_seq (wg [5,7,8] [] (rn (wg [0] [] ?_))))
                            cases h
                            exact wp_ret (show fnOut _ _ _ _=_ from by kernel_rfl)
                           refine sz 32 84 (reg_end rfl (wp_seq ?_))
                           refine wgc [5,7,8] [] ⟨[(5,vI x1.2),(7,vI x3.2),(8,vB false)],[],206⟩ ?_
                           refine rn (wg [0] [] ?_)
                           cases h
                           exact wp_ret (show fnOut _ _ _ _=_ from by kernel_rfl)
                          refine sz 4 8 (reg_end rfl (wg [5] [] ?_))
                          refine wp_ret ?_
                          refine ⟨⟨(s11_40 x1 x3 x97)++[(149,vB false)],[.row false false true true 1 [.int .u64 10,.int .u64 5,.int .u64 10,.int .u64 5],.row false false true true 1 [.int .u64 2,.int .u64 5,.int .u64 2],.row false false true true 1 [.int .u64 14,.int .u64 13,.int .u64 11,.int .u64 7],oX true true 1 (vI 2)],206⟩,by as_aux_lemma=>kernel_rfl,?_⟩
                          refine sgz 34 84 (S:=⟨(s11_40 x1 x3 x97)++[(149,vB false),(150,vB false),(151,vB false),(152,.tup []),(153,.tup []),(154,.tup []),(155,.tup []),(156,.tup []),(157,.tup []),(158,vB false),(159,vB false),(160,.tup []),(161,.tup []),(162,.tup []),(163,.tup []),(164,.tup []),(165,.tup []),(166,vB false),(167,vB false),(168,.tup []),(169,.tup []),(170,.tup []),(171,.tup []),(172,.tup []),(173,.tup []),(174,vB false),(175,vB false),(176,.tup []),(177,.tup []),(178,.tup []),(179,.tup []),(180,.tup []),(181,.tup []),(182,vB false),(8,vB false)],[.row false false true true 1 [.int .u64 10,.int .u64 5,.int .u64 10,.int .u64 5],.row false false true true 1 [.int .u64 2,.int .u64 5,.int .u64 2],.row false false true true 1 [.int .u64 14,.int .u64 13,.int .u64 11,.int .u64 7],oX true true 1 (vI 2)],206⟩) ?_
                          refine reg_end rfl (wp_seq (wg [5,7,8] [] (rn (wg [0] [] ?_))))
                          cases h
                          exact wp_ret (show fnOut _ _ _ _=_ from by kernel_rfl)
                         refine sgz 40 84 (S:=⟨[(1,.ref 0 0 4),(2,.ref 1 0 3),(3,.ref 2 0 4),(5,vI x1.2),(7,vI x3.2),(143,vB false),(144,.tup []),(145,.tup []),(146,.tup []),(147,.tup []),(148,.tup []),(149,.tup []),(150,vB false),(151,vB false),(152,.tup []),(153,.tup []),(154,.tup []),(155,.tup []),(156,.tup []),(157,.tup []),(158,vB false),(159,vB false),(160,.tup []),(161,.tup []),(162,.tup []),(163,.tup []),(164,.tup []),(165,.tup []),(166,vB false),(167,vB false),(168,.tup []),(169,.tup []),(170,.tup []),(171,.tup []),(172,.tup []),(173,.tup []),(174,vB false),(175,vB false),(176,.tup []),(177,.tup []),(178,.tup []),(179,.tup []),(180,.tup []),(181,.tup []),(182,vB false),(8,vB false)],[.row false false true true 1 [.int .u64 10,.int .u64 5,.int .u64 10,.int .u64 5],.row false false true true 1 [.int .u64 2,.int .u64 5,.int .u64 2],.row false false true true 1 [.int .u64 14,.int .u64 13,.int .u64 11,.int .u64 7]],206⟩) ?_
                         refine reg_end rfl (wp_seq (wg [5,7,8] [] (rn (wg [0] [] ?_))))
                         cases h
                         exact wp_ret (show fnOut _ _ _ _=_ from by kernel_rfl)
                        refine sgz 45 84 (S:=⟨[(1,.ref 0 0 4),(2,.ref 1 0 3),(3,.ref 2 0 4),(5,vI x1.2),(7,vI x3.2),(138,vB false),(139,.tup []),(140,.tup []),(141,.tup []),(142,vB false),(143,vB false),(144,.tup []),(145,.tup []),(146,.tup []),(147,.tup []),(148,.tup []),(149,.tup []),(150,vB false),(151,vB false),(152,.tup []),(153,.tup []),(154,.tup []),(155,.tup []),(156,.tup []),(157,.tup []),(158,vB false),(159,vB false),(160,.tup []),(161,.tup []),(162,.tup []),(163,.tup []),(164,.tup []),(165,.tup []),(166,vB false),(167,vB false),(168,.tup []),(169,.tup []),(170,.tup []),(171,.tup []),(172,.tup []),(173,.tup []),(174,vB false),(175,vB false),(176,.tup []),(177,.tup []),(178,.tup []),(179,.tup []),(180,.tup []),(181,.tup []),(182,vB false),(8,vB false)],[.row false false true true 1 [.int .u64 10,.int .u64 5,.int .u64 10,.int .u64 5],.row false false true true 1 [.int .u64 2,.int .u64 5,.int .u64 2],.row false false true true 1 [.int .u64 14,.int .u64 13,.int .u64 11,.int .u64 7]],206⟩) ?_
                        refine reg_end rfl (wp_seq (wg [5,7,8] [] (rn (wg [0] [] ?_))))
                        cases h
                        exact wp_ret (show fnOut _ _ _ _=_ from by kernel_rfl)
                       refine sgz 50 84 (S:=⟨[(1,.ref 0 0 4),(2,.ref 1 0 3),(3,.ref 2 0 4),(5,vI x1.2),(7,vI x3.2),(133,vB false),(134,.tup []),(135,.tup []),(136,.tup []),(137,vB false),(138,vB false),(139,.tup []),(140,.tup []),(141,.tup []),(142,vB false),(143,vB false),(144,.tup []),(145,.tup []),(146,.tup []),(147,.tup []),(148,.tup []),(149,.tup []),(150,vB false),(151,vB false),(152,.tup []),(153,.tup []),(154,.tup []),(155,.tup []),(156,.tup []),(157,.tup []),(158,vB false),(159,vB false),(160,.tup []),(161,.tup []),(162,.tup []),(163,.tup []),(164,.tup []),(165,.tup []),(166,vB false),(167,vB false),(168,.tup []),(169,.tup []),(170,.tup []),(171,.tup []),(172,.tup []),(173,.tup []),(174,vB false),(175,vB false),(176,.tup []),(177,.tup []),(178,.tup []),(179,.tup []),(180,.tup []),(181,.tup []),(182,vB false),(8,vB false)],[.row false false true true 1 [.int .u64 10,.int .u64 5,.int .u64 10,.int .u64 5],.row false false true true 1 [.int .u64 2,.int .u64 5,.int .u64 2],.row false false true true 1 [.int .u64 14,.int .u64 13,.int .u64 11,.int .u64 7]],206⟩) ?_
                       refine reg_end rfl (wp_seq (wg [5,7,8] [] (rn (wg [0] [] ?_))))
                       cases h
                       exact wp_ret (show fnOut _ _ _ _=_ from by kernel_rfl)
                      refine sgz 55 84 (S:=⟨[(1,.ref 0 0 4),(2,.ref 1 0 3),(3,.ref 2 0 4),(5,vI x1.2),(7,vI x3.2),(128,vB false),(129,.tup []),(130,.tup []),(131,.tup []),(132,vB false),(133,vB false),(134,.tup []),(135,.tup []),(136,.tup []),(137,vB false),(138,vB false),(139,.tup []),(140,.tup []),(141,.tup []),(142,vB false),(143,vB false),(144,.tup []),(145,.tup []),(146,.tup []),(147,.tup []),(148,.tup []),(149,.tup []),(150,vB false),(151,vB false),(152,.tup []),(153,.tup []),(154,.tup []),(155,.tup []),(156,.tup []),(157,.tup []),(158,vB false),(159,vB false),(160,.tup []),(161,.tup []),(162,.tup []),(163,.tup []),(164,.tup []),(165,.tup []),(166,vB false),(167,vB false),(168,.tup []),(169,.tup []),(170,.tup []),(171,.tup []),(172,.tup []),(173,.tup []),(174,vB false),(175,vB false),(176,.tup []),(177,.tup []),(178,.tup []),(179,.tup []),(180,.tup []),(181,.tup []),(182,vB false),(8,vB false)],[.row false false true true 1 [.int .u64 10,.int .u64 5,.int .u64 10,.int .u64 5],.row false false true true 1 [.int .u64 2,.int .u64 5,.int .u64 2],.row false false true true 1 [.int .u64 14,.int .u64 13,.int .u64 11,.int .u64 7]],206⟩) ?_
                      refine reg_end rfl (wp_seq (wg [5,7,8] [] (rn (wg [0] [] ?_))))
                      cases h
                      exact wp_ret (show fnOut _ _ _ _=_ from by kernel_rfl)
                     refine sz 5 8 (reg_end rfl (wg [5] [] ?_))
                     refine wp_ret ?_
                     refine ⟨⟨(s11_38 x1 x3 x77)++[(126,vB false)],[.row false false true true 1 [.int .u64 10,.int .u64 5,.int .u64 10,.int .u64 5],.row false false true true 1 [.int .u64 2,.int .u64 5,.int .u64 2],.row false false true true 1 [.int .u64 14,.int .u64 13,.int .u64 11,.int .u64 7],.row false false true true 1 [vI 0,vI 1,vI 2],o11_28,oR true 1 eI x77.1],206⟩,by as_aux_lemma=>kernel_rfl,?_⟩
                     refine sgz 57 84 (S:=⟨(s11_38 x1 x3 x77)++[(126,vB false),(127,vB false),(128,vB false),(129,.tup []),(130,.tup []),(131,.tup []),(132,vB false),(133,vB false),(134,.tup []),(135,.tup []),(136,.tup []),(137,vB false),(138,vB false),(139,.tup []),(140,.tup []),(141,.tup []),(142,vB false),(143,vB false),(144,.tup []),(145,.tup []),(146,.tup []),(147,.tup []),(148,.tup []),(149,.tup []),(150,vB false),(151,vB false),(152,.tup []),(153,.tup []),(154,.tup []),(155,.tup []),(156,.tup []),(157,.tup []),(158,vB false),(159,vB false),(160,.tup []),(161,.tup []),(162,.tup []),(163,.tup []),(164,.tup []),(165,.tup []),(166,vB false),(167,vB false),(168,.tup []),(169,.tup []),(170,.tup []),(171,.tup []),(172,.tup []),(173,.tup []),(174,vB false),(175,vB false),(176,.tup []),(177,.tup []),(178,.tup []),(179,.tup []),(180,.tup []),(181,.tup []),(182,vB false),(8,vB false)],[.row false false true true 1 [.int .u64 10,.int .u64 5,.int .u64 10,.int .u64 5],.row false false true true 1 [.int .u64 2,.int .u64 5,.int .u64 2],.row false false true true 1 [.int .u64 14,.int .u64 13,.int .u64 11,.int .u64 7],.row false false true true 1 [vI 0,vI 1,vI 2],o11_28,oR true 1 eI x77.1],206⟩) ?_
                     refine reg_end rfl (wp_seq (wg [5,7,8] [] (rn (wg [0] [] ?_))))
                     cases h
                     exact wp_ret (show fnOut _ _ _ _=_ from by kernel_rfl)
                    refine sgz 64 84 (S:=⟨[(1,.ref 0 0 4),(2,.ref 1 0 3),(3,.ref 2 0 4),(5,vI x1.2),(7,vI x3.2),(119,vB false),(120,.tup []),(121,.tup []),(122,.tup []),(123,.tup []),(124,.tup []),(125,.tup []),(126,.tup []),(127,vB false),(128,vB false),(129,.tup []),(130,.tup []),(131,.tup []),(132,vB false),(133,vB false),(134,.tup []),(135,.tup []),(136,.tup []),(137,vB false),(138,vB false),(139,.tup []),(140,.tup []),(141,.tup []),(142,vB false),(143,vB false),(144,.tup []),(145,.tup []),(146,.tup []),(147,.tup []),(148,.tup []),(149,.tup []),(150,vB false),(151,vB false),(152,.tup []),(153,.tup []),(154,.tup []),(155,.tup []),(156,.tup []),(157,.tup []),(158,vB false),(159,vB false),(160,.tup []),(161,.tup []),(162,.tup []),(163,.tup []),(164,.tup []),(165,.tup []),(166,vB false),(167,vB false),(168,.tup []),(169,.tup []),(170,.tup []),(171,.tup []),(172,.tup []),(173,.tup []),(174,vB false),(175,vB false),(176,.tup []),(177,.tup []),(178,.tup []),(179,.tup []),(180,.tup []),(181,.tup []),(182,vB false),(8,vB false)],[.row false false true true 1 [.int .u64 10,.int .u64 5,.int .u64 10,.int .u64 5],.row false false true true 1 [.int .u64 2,.int .u64 5,.int .u64 2],.row false false true true 1 [.int .u64 14,.int .u64 13,.int .u64 11,.int .u64 7]],206⟩) ?_
                    refine reg_end rfl (wp_seq (wg [5,7,8] [] (rn (wg [0] [] ?_))))
                    cases h
                    exact wp_ret (show fnOut _ _ _ _=_ from by kernel_rfl)
                   refine sz 5 8 (reg_end rfl (wg [5] [] ?_))
                   refine wp_ret ?_
                   refine ⟨⟨(s11_36 x1 x3 x69)++[(117,vB false)],[.row false false true true 1 [.int .u64 10,.int .u64 5,.int .u64 10,.int .u64 5],.row false false true true 1 [.int .u64 2,.int .u64 5,.int .u64 2],.row false false true true 1 [.int .u64 14,.int .u64 13,.int .u64 11,.int .u64 7],.row false false true true 1 [vI 0,vI 1,vI 2],o11_28,oR true 1 eI x69.1],206⟩,by as_aux_lemma=>kernel_rfl,?_⟩
                   refine sgz 66 84 (S:=⟨(s11_36 x1 x3 x69)++[(117,vB false),(118,vB false),(119,vB false),(120,.tup []),(121,.tup []),(122,.tup []),(123,.tup []),(124,.tup []),(125,.tup []),(126,.tup []),(127,vB false),(128,vB false),(129,.tup []),(130,.tup []),(131,.tup []),(132,vB false),(133,vB false),(134,.tup []),(135,.tup []),(136,.tup []),(137,vB false),(138,vB false),(139,.tup []),(140,.tup []),(141,.tup []),(142,vB false),(143,vB false),(144,.tup []),(145,.tup []),(146,.tup []),(147,.tup []),(148,.tup []),(149,.tup []),(150,vB false),(151,vB false),(152,.tup []),(153,.tup []),(154,.tup []),(155,.tup []),(156,.tup []),(157,.tup []),(158,vB false),(159,vB false),(160,.tup []),(161,.tup []),(162,.tup []),(163,.tup []),(164,.tup []),(165,.tup []),(166,vB false),(167,vB false),(168,.tup []),(169,.tup []),(170,.tup []),(171,.tup []),(172,.tup []),(173,.tup []),(174,vB false),(175,vB false),(176,.tup []),(177,.tup []),(178,.tup []),(179,.tup []),(180,.tup []),(181,.tup []),(182,vB false),(8,vB false)],[.row false false true true 1 [.int .u64 10,.int .u64 5,.int .u64 10,.int .u64 5],.row false false true true 1 [.int .u64 2,.int .u64 5,.int .u64 2],.row false false true true 1 [.int .u64 14,.int .u64 13,.int .u64 11,.int .u64 7],.row false false true true 1 [vI 0,vI 1,vI 2],o11_28,oR true 1 eI x69.1],206⟩) ?_
                   refine reg_end rfl (wp_seq (wg [5,7,8] [] (rn (wg [0] [] ?_))))
                   cases h
                   exact wp_ret (show fnOut _ _ _ _=_ from by kernel_rfl)
                  refine sgz 73 84 (S:=⟨[(1,.ref 0 0 4),(2,.ref 1 0 3),(3,.ref 2 0 4),(5,vI x1.2),(7,vI x3.2),(110,vB false),(111,.tup []),(112,.tup []),(113,.tup []),(114,.tup []),(115,.tup []),(116,.tup []),(117,.tup []),(118,vB false),(119,vB false),(120,.tup []),(121,.tup []),(122,.tup []),(123,.tup []),(124,.tup []),(125,.tup []),(126,.tup []),(127,vB false),(128,vB false),(129,.tup []),(130,.tup []),(131,.tup []),(132,vB false),(133,vB false),(134,.tup []),(135,.tup []),(136,.tup []),(137,vB false),(138,vB false),(139,.tup []),(140,.tup []),(141,.tup []),(142,vB false),(143,vB false),(144,.tup []),(145,.tup []),(146,.tup []),(147,.tup []),(148,.tup []),(149,.tup []),(150,vB false),(151,vB false),(152,.tup []),(153,.tup []),(154,.tup []),(155,.tup []),(156,.tup []),(157,.tup []),(158,vB false),(159,vB false),(160,.tup []),(161,.tup []),(162,.tup []),(163,.tup []),(164,.tup []),(165,.tup []),(166,vB false),(167,vB false),(168,.tup []),(169,.tup []),(170,.tup []),(171,.tup []),(172,.tup []),(173,.tup []),(174,vB false),(175,vB false),(176,.tup []),(177,.tup []),(178,.tup []),(179,.tup []),(180,.tup []),(181,.tup []),(182,vB false),(8,vB false)],[.row false false true true 1 [.int .u64 10,.int .u64 5,.int .u64 10,.int .u64 5],.row false false true true 1 [.int .u64 2,.int .u64 5,.int .u64 2],.row false false true true 1 [.int .u64 14,.int .u64 13,.int .u64 11,.int .u64 7]],206⟩) ?_
                  refine reg_end rfl (wp_seq (wg [5,7,8] [] (rn (wg [0] [] ?_))))
                  cases h
                  exact wp_ret (show fnOut _ _ _ _=_ from by kernel_rfl)
                 refine sz 5 8 (reg_end rfl (wg [5] [] ?_))
                 refine wp_ret ?_
                 refine ⟨⟨(s11_32 x1 x3)++[(105,.tup [.ref 5 0 x61.1.length,vI x61.2]),(106,.ref 5 0 x61.1.length),(107,vI x61.2),(108,vB false)],[.row false false true true 1 [.int .u64 10,.int .u64 5,.int .u64 10,.int .u64 5],.row false false true true 1 [.int .u64 2,.int .u64 5,.int .u64 2],.row false false true true 1 [.int .u64 14,.int .u64 13,.int .u64 11,.int .u64 7],.row false false true true 1 [vI 0,vI 1,vI 2,vI 3],oX false false 1 (.ref 3 0 4),oR true 1 eI x61.1],206⟩,by as_aux_lemma=>kernel_rfl,?_⟩
                 refine sgz 75 84 (S:=⟨[(1,.ref 0 0 4),(2,.ref 1 0 3),(3,.ref 2 0 4),(5,vI x1.2),(7,vI x3.2),(8,vB false),(100,vB true),(101,vB true),(102,.ref 3 0 4),(103,.fn (.func 78) [] [.ptr 4 0 0]),(104,.ref 0 0 4),(105,.tup [.ref 5 0 x61.1.length,vI x61.2]),(106,.ref 5 0 x61.1.length),(107,vI x61.2),(108,vB false),(109,vB false),(110,vB false),(111,.tup []),(112,.tup []),(113,.tup []),(114,.tup []),(115,.tup []),(116,.tup []),(117,.tup []),(118,vB false),(119,vB false),(120,.tup []),(121,.tup []),(122,.tup []),(123,.tup []),(124,.tup []),(125,.tup []),(126,.tup []),(127,vB false),(128,vB false),(129,.tup []),(130,.tup []),(131,.tup []),(132,vB false),(133,vB false),(134,.tup []),(135,.tup []),(136,.tup []),(137,vB false),(138,vB false),(139,.tup []),(140,.tup []),(141,.tup []),(142,vB false),(143,vB false),(144,.tup []),(145,.tup []),(146,.tup []),(147,.tup []),(148,.tup []),(149,.tup []),(150,vB false),(151,vB false),(152,.tup []),(153,.tup []),(154,.tup []),(155,.tup []),(156,.tup []),(157,.tup []),(158,vB false),(159,vB false),(160,.tup []),(161,.tup []),(162,.tup []),(163,.tup []),(164,.tup []),(165,.tup []),(166,vB false),(167,vB false),(168,.tup []),(169,.tup []),(170,.tup []),(171,.tup []),(172,.tup []),(173,.tup []),(174,vB false),(175,vB false),(176,.tup []),(177,.tup []),(178,.tup []),(179,.tup []),(180,.tup []),(181,.tup []),(182,vB false)],[.row false false true true 1 [.int .u64 10,.int .u64 5,.int .u64 10,.int .u64 5],.row false false true true 1 [.int .u64 2,.int .u64 5,.int .u64 2],.row false false true true 1 [.int .u64 14,.int .u64 13,.int .u64 11,.int .u64 7],.row false false true true 1 [vI 0,vI 1,vI 2,vI 3],oX false false 1 (.ref 3 0 4),oR true 1 eI x61.1],206⟩) ?_
                 refine reg_end rfl (wp_seq (wg [5,7,8] [] (rn (wg [0] [] ?_))))
                 cases h
                 exact wp_ret (show fnOut _ _ _ _=_ from by kernel_rfl)
                refine sgz 82 84 (S:=⟨[(1,.ref 0 0 4),(2,.ref 1 0 3),(3,.ref 2 0 4),(5,vI x1.2),(7,vI x3.2),(8,vB false),(100,vB false),(101,vB false),(102,.tup []),(103,.tup []),(104,.tup []),(105,.tup []),(106,.tup []),(107,.tup []),(108,.tup []),(109,vB false),(110,vB false),(111,.tup []),(112,.tup []),(113,.tup []),(114,.tup []),(115,.tup []),(116,.tup []),(117,.tup []),(118,vB false),(119,vB false),(120,.tup []),(121,.tup []),(122,.tup []),(123,.tup []),(124,.tup []),(125,.tup []),(126,.tup []),(127,vB false),(128,vB false),(129,.tup []),(130,.tup []),(131,.tup []),(132,vB false),(133,vB false),(134,.tup []),(135,.tup []),(136,.tup []),(137,vB false),(138,vB false),(139,.tup []),(140,.tup []),(141,.tup []),(142,vB false),(143,vB false),(144,.tup []),(145,.tup []),(146,.tup []),(147,.tup []),(148,.tup []),(149,.tup []),(150,vB false),(151,vB false),(152,.tup []),(153,.tup []),(154,.tup []),(155,.tup []),(156,.tup []),(157,.tup []),(158,vB false),(159,vB false),(160,.tup []),(161,.tup []),(162,.tup []),(163,.tup []),(164,.tup []),(165,.tup []),(166,vB false),(167,vB false),(168,.tup []),(169,.tup []),(170,.tup []),(171,.tup []),(172,.tup []),(173,.tup []),(174,vB false),(175,vB false),(176,.tup []),(177,.tup []),(178,.tup []),(179,.tup []),(180,.tup []),(181,.tup []),(182,vB false)],[.row false false true true 1 [.int .u64 10,.int .u64 5,.int .u64 10,.int .u64 5],.row false false true true 1 [.int .u64 2,.int .u64 5,.int .u64 2],.row false false true true 1 [.int .u64 14,.int .u64 13,.int .u64 11,.int .u64 7]],206⟩) ?_
                refine reg_end rfl (wp_seq (wg [5,7,8] [] (rn (wg [0] [] ?_))))
                cases h
                exact wp_ret (show fnOut _ _ _ _=_ from by kernel_rfl)
               refine sz 4 8 (reg_end rfl (wg [5] [] ?_))
               refine wp_ret ?_
               refine ⟨⟨(s11_27 x1 x3 x55)++[(98,vB false)],[.row false false true true 1 [.int .u64 10,.int .u64 5,.int .u64 10,.int .u64 5],.row false false true true 1 [.int .u64 2,.int .u64 5,.int .u64 2],.row false false true true 1 [.int .u64 14,.int .u64 13,.int .u64 11,.int .u64 7],oX true true 1 (vI 3),.row false false true true 1 [vI 3,vI 2,vI 1,vI 0]],206⟩,by as_aux_lemma=>kernel_rfl,?_⟩
               refine sz 2 77 (reg_end rfl (wp_seq ?_))
               refine wgc [1,2,3,5,7,8] [0,1,2] ⟨[(1,.ref 0 0 4),(2,.ref 1 0 3),(3,.ref 2 0 4),(5,vI x1.2),(7,vI x3.2),(8,vB false)],[.row false false true true 1 [.int .u64 10,.int .u64 5,.int .u64 10,.int .u64 5],.row false false true true 1 [.int .u64 2,.int .u64 5,.int .u64 2],.row false false true true 1 [.int .u64 14,.int .u64 13,.int .u64 11,.int .u64 7]],206⟩ ?_
               refine rn (wp_seq (wg [5,7,8] [] (rn (wg [0] [] ?_))))
               cases h
               exact wp_ret (show fnOut _ _ _ _=_ from by kernel_rfl)
              refine sz 9 77 (reg_end rfl (wp_seq (wg [1,2,3,5,7,8] [0,1,2] (rn (wp_seq (wg [5,7,8] [] (rn ?_)))))))
              refine wgc [0] [] ⟨[(0,vB false)],[],206⟩ ?_
              cases h
              exact wp_ret (show fnOut _ _ _ _=_ from by kernel_rfl)
             refine sz 4 8 (reg_end rfl (wg [5] [] ?_))
             refine wp_ret ?_
             refine ⟨⟨(s11_23 x1 x3 x49)++[(89,vB false)],[.row false false true true 1 [.int .u64 10,.int .u64 5,.int .u64 10,.int .u64 5],.row false false true true 1 [.int .u64 2,.int .u64 5,.int .u64 2],.row false false true true 1 [.int .u64 14,.int .u64 13,.int .u64 11,.int .u64 7],oX true true 1 (vI 1),.row false false true true 1 [vI 2,vI 1,vI 0]],206⟩,by as_aux_lemma=>kernel_rfl,?_⟩
             refine sz 11 77 (reg_end rfl (wp_seq ?_))
             refine wgc [1,2,3,5,7,8] [0,1,2] ⟨[(1,.ref 0 0 4),(2,.ref 1 0 3),(3,.ref 2 0 4),(5,vI x1.2),(7,vI x3.2),(8,vB false)],[.row false false true true 1 [.int .u64 10,.int .u64 5,.int .u64 10,.int .u64 5],.row false false true true 1 [.int .u64 2,.int .u64 5,.int .u64 2],.row false false true true 1 [.int .u64 14,.int .u64 13,.int .u64 11,.int .u64 7]],206⟩ ?_
             refine rn (wp_seq (wg [5,7,8] [] (rn (wg [0] [] ?_))))
             cases h
             exact wp_ret (show fnOut _ _ _ _=_ from by kernel_rfl)
            refine sz 18 77 (reg_end rfl (wp_seq ?_))
            refine wgc [1,2,3,5,7,8] [0,1,2] ⟨[(1,.ref 0 0 4),(2,.ref 1 0 3),(3,.ref 2 0 4),(5,vI x1.2),(7,vI x3.2),(8,vB false)],[.row false false true true 1 [.int .u64 10,.int .u64 5,.int .u64 10,.int .u64 5],.row false false true true 1 [.int .u64 2,.int .u64 5,.int .u64 2],.row false false true true 1 [.int .u64 14,.int .u64 13,.int .u64 11,.int .u64 7]],206⟩ ?_
            refine rn (wp_seq (wg [5,7,8] [] (rn (wg [0] [] ?_))))
            cases h
            exact wp_ret (show fnOut _ _ _ _=_ from by kernel_rfl)
           refine sz 4 8 (reg_end rfl (wg [5] [] ?_))
           refine wp_ret ?_
           refine ⟨⟨(s11_19 x1 x3 x43)++[(80,vB false)],[.row false false true true 1 [.int .u64 10,.int .u64 5,.int .u64 10,.int .u64 5],.row false false true true 1 [.int .u64 2,.int .u64 5,.int .u64 2],.row false false true true 1 [.int .u64 14,.int .u64 13,.int .u64 11,.int .u64 7],oX true true 1 (vI 2),.row false false true true 1 [vI 1,vI 0,vI 2]],206⟩,by as_aux_lemma=>kernel_rfl,?_⟩
           refine sz 20 77 (reg_end rfl (wp_seq ?_))
           refine wgc [1,2,3,5,7,8] [0,1,2] ⟨[(1,.ref 0 0 4),(2,.ref 1 0 3),(3,.ref 2 0 4),(5,vI x1.2),(7,vI x3.2),(8,vB false)],[.row false false true true 1 [.int .u64 10,.int .u64 5,.int .u64 10,.int .u64 5],.row false false true true 1 [.int .u64 2,.int .u64 5,.int .u64 2],.row false false true true 1 [.int .u64 14,.int .u64 13,.int .u64 11,.int .u64 7]],206⟩ ?_
           refine rn (wp_seq (wg [5,7,8] [] (rn (wg [0] [] ?_))))
           cases h
           exact wp_ret (show fnOut _ _ _ _=_ from by kernel_rfl)
          refine sz 27 77 (reg_end rfl (wp_seq ?_))
          refine wgc [1,2,3,5,7,8] [0,1,2] ⟨[(1,.ref 0 0 4),(2,.ref 1 0 3),(3,.ref 2 0 4),(5,vI x1.2),(7,vI x3.2),(8,vB false)],[.row false false true true 1 [.int .u64 10,.int .u64 5,.int .u64 10,.int .u64 5],.row false false true true 1 [.int .u64 2,.int .u64 5,.int .u64 2],.row false false true true 1 [.int .u64 14,.int .u64 13,.int .u64 11,.int .u64 7]],206⟩ ?_
          refine rn (wp_seq (wg [5,7,8] [] (rn (wg [0] [] ?_))))
          cases h
          exact wp_ret (show fnOut _ _ _ _=_ from by kernel_rfl)
         refine sz 4 8 (reg_end rfl (wg [5] [] ?_))
         refine wp_ret ?_
         refine ⟨⟨(s11_16 x1 x3 x37)++[(71,vB false)],[.row false false true true 1 [.int .u64 10,.int .u64 5,.int .u64 10,.int .u64 5],.row false false true true 1 [.int .u64 2,.int .u64 5,.int .u64 2],.row false false true true 1 [.int .u64 14,.int .u64 13,.int .u64 11,.int .u64 7],oX true true 1 (vI 2),.row false false true true 1 [vI 0,vI 1,vI 2,vI 3]],206⟩,by as_aux_lemma=>kernel_rfl,?_⟩
         refine sgz 29 77 (S:=⟨(s11_16 x1 x3 x37)++[(71,vB false),(72,vB false),(73,vB false),(74,.tup []),(75,.tup []),(76,.tup []),(77,.tup []),(78,.tup []),(79,.tup []),(80,.tup []),(81,vB false),(82,vB false),(83,.tup []),(84,.tup []),(85,.tup []),(86,.tup []),(87,.tup []),(88,.tup []),(89,.tup []),(90,vB false),(91,vB false),(92,.tup []),(93,.tup []),(94,.tup []),(95,.tup []),(96,.tup []),(97,.tup []),(98,.tup []),(99,vB false),(8,vB false)],[.row false false true true 1 [.int .u64 10,.int .u64 5,.int .u64 10,.int .u64 5],.row false false true true 1 [.int .u64 2,.int .u64 5,.int .u64 2],.row false false true true 1 [.int .u64 14,.int .u64 13,.int .u64 11,.int .u64 7],oX true true 1 (vI 2),.row false false true true 1 [vI 0,vI 1,vI 2,vI 3]],206⟩) ?_
         refine reg_end rfl (wp_seq (wg [1,2,3,5,7,8] [0,1,2] (rn (wp_seq (wg [5,7,8] [] (rn (wg [0] [] ?_)))))))
         cases h
         exact wp_ret (show fnOut _ _ _ _=_ from by kernel_rfl)
        refine sz 36 77 (reg_end rfl (wp_seq ?_))
        refine wgc [1,2,3,5,7,8] [0,1,2] ⟨[(1,.ref 0 0 4),(2,.ref 1 0 3),(3,.ref 2 0 4),(5,vI x1.2),(7,vI x3.2),(8,vB false)],[.row false false true true 1 [.int .u64 10,.int .u64 5,.int .u64 10,.int .u64 5],.row false false true true 1 [.int .u64 2,.int .u64 5,.int .u64 2],.row false false true true 1 [.int .u64 14,.int .u64 13,.int .u64 11,.int .u64 7]],206⟩ ?_
        refine rn (wp_seq (wg [5,7,8] [] (rn (wg [0] [] ?_))))
        cases h
        exact wp_ret (show fnOut _ _ _ _=_ from by kernel_rfl)
       refine sz 5 8 (reg_end rfl (wg [5] [] ?_))
       refine wp_ret ?_
       refine ⟨⟨(s11_13 x1 x3 x29)++[(62,vB false)],[.row false false true true 1 [.int .u64 10,.int .u64 5,.int .u64 10,.int .u64 5],.row false false true true 1 [.int .u64 2,.int .u64 5,.int .u64 2],.row false false true true 1 [.int .u64 14,.int .u64 13,.int .u64 11,.int .u64 7],oX true false 1 (.nils),.row false false true true 1 [vI 0,vI 1,vI 2],oR true 2 (fun x:(Int × Int)=>AV.agg [vI x.1,vI x.2]) x29.1],206⟩,by as_aux_lemma=>kernel_rfl,?_⟩
       refine sgz 38 77 (S:=⟨(s11_13 x1 x3 x29)++[(62,vB false),(63,vB false),(64,vB false),(65,.tup []),(66,.tup []),(67,.tup []),(68,.tup []),(69,.tup []),(70,.tup []),(71,.tup []),(72,vB false),(73,vB false),(74,.tup []),(75,.tup []),(76,.tup []),(77,.tup []),(78,.tup []),(79,.tup []),(80,.tup []),(81,vB false),(82,vB false),(83,.tup []),(84,.tup []),(85,.tup []),(86,.tup []),(87,.tup []),(88,.tup []),(89,.tup []),(90,vB false),(91,vB false),(92,.tup []),(93,.tup []),(94,.tup []),(95,.tup []),(96,.tup []),(97,.tup []),(98,.tup []),(99,vB false),(8,vB false)],[.row false false true true 1 [.int .u64 10,.int .u64 5,.int .u64 10,.int .u64 5],.row false false true true 1 [.int .u64 2,.int .u64 5,.int .u64 2],.row false false true true 1 [.int .u64 14,.int .u64 13,.int .u64 11,.int .u64 7],oX true false 1 (.nils),.row false false true true 1 [vI 0,vI 1,vI 2],oR true 2 (fun x:(Int × Int)=>AV.agg [vI x.1,vI x.2]) x29.1],206⟩) ?_
       refine reg_end rfl (wp_seq (wg [1,2,3,5,7,8] [0,1,2] (rn (wp_seq (wg [5,7,8] [] (rn (wg [0] [] ?_)))))))
       cases h
       exact wp_ret (show fnOut _ _ _ _=_ from by kernel_rfl)
      refine sgz 45 77 (S:=⟨[(1,.ref 0 0 4),(2,.ref 1 0 3),(3,.ref 2 0 4),(5,vI x1.2),(7,vI x3.2),(55,vB false),(56,.tup []),(57,.tup []),(58,.tup []),(59,.tup []),(60,.tup []),(61,.tup []),(62,.tup []),(63,vB false),(64,vB false),(65,.tup []),(66,.tup []),(67,.tup []),(68,.tup []),(69,.tup []),(70,.tup []),(71,.tup []),(72,vB false),(73,vB false),(74,.tup []),(75,.tup []),(76,.tup []),(77,.tup []),(78,.tup []),(79,.tup []),(80,.tup []),(81,vB false),(82,vB false),(83,.tup []),(84,.tup []),(85,.tup []),(86,.tup []),(87,.tup []),(88,.tup []),(89,.tup []),(90,vB false),(91,vB false),(92,.tup []),(93,.tup []),(94,.tup []),(95,.tup []),(96,.tup []),(97,.tup []),(98,.tup []),(99,vB false),(8,vB false)],[.row false false true true 1 [.int .u64 10,.int .u64 5,.int .u64 10,.int .u64 5],.row false false true true 1 [.int .u64 2,.int .u64 5,.int .u64 2],.row false false true true 1 [.int .u64 14,.int .u64 13,.int .u64 11,.int .u64 7]],206⟩) ?_
      refine reg_end rfl (wp_seq (wg [1,2,3,5,7,8] [0,1,2] (rn (wp_seq (wg [5,7,8] [] (rn (wg [0] [] ?_)))))))
      cases h
      exact wp_ret (show fnOut _ _ _ _=_ from by kernel_rfl)
     refine sz 5 8 (reg_end rfl (wg [5] [] ?_))
     refine wp_ret ?_
     refine ⟨⟨(s11_10 x1 x3)++[(49,.ref 5 0 3),(50,.tup [.ref 6 0 x21.1.length,vI x21.2]),(51,.ref 6 0 x21.1.length),(52,vI x21.2),(53,vB false)],[.row false false true true 1 [.int .u64 10,.int .u64 5,.int .u64 10,.int .u64 5],.row false false true true 1 [.int .u64 2,.int .u64 5,.int .u64 2],.row false false true true 1 [.int .u64 14,.int .u64 13,.int .u64 11,.int .u64 7],.row false false true true 2 [.agg [vI 0,vI 2]],o11_27,.row false false true true 1 [vI 1,vI 0,vI 2],oR true 2 (fun x:(Int × Int)=>AV.agg [vI x.1,vI x.2]) x21.1],206⟩,by as_aux_lemma=>kernel_rfl,?_⟩
     refine sgz 47 77 (S:=⟨(s11_10 x1 x3)++[(49,.ref 5 0 3),(50,.tup [.ref 6 0 x21.1.length,vI x21.2]),(51,.ref 6 0 x21.1.length),(52,vI x21.2),(53,vB false),(54,vB false),(55,vB false),(56,.tup []),(57,.tup []),(58,.tup []),(59,.tup []),(60,.tup []),(61,.tup []),(62,.tup []),(63,vB false),(64,vB false),(65,.tup []),(66,.tup []),(67,.tup []),(68,.tup []),(69,.tup []),(70,.tup []),(71,.tup []),(72,vB false),(73,vB false),(74,.tup []),(75,.tup []),(76,.tup []),(77,.tup []),(78,.tup []),(79,.tup []),(80,.tup []),(81,vB false),(82,vB false),(83,.tup []),(84,.tup []),(85,.tup []),(86,.tup []),(87,.tup []),(88,.tup []),(89,.tup []),(90,vB false),(91,vB false),(92,.tup []),(93,.tup []),(94,.tup []),(95,.tup []),(96,.tup []),(97,.tup []),(98,.tup []),(99,vB false),(8,vB false)],[.row false false true true 1 [.int .u64 10,.int .u64 5,.int .u64 10,.int .u64 5],.row false false true true 1 [.int .u64 2,.int .u64 5,.int .u64 2],.row false false true true 1 [.int .u64 14,.int .u64 13,.int .u64 11,.int .u64 7],.row false false true true 2 [.agg [vI 0,vI 2]],o11_27,.row false false true true 1 [vI 1,vI 0,vI 2],oR true 2 (fun x:(Int × Int)=>AV.agg [vI x.1,vI x.2]) x21.1],206⟩) ?_
     refine reg_end rfl (wp_seq (wg [1,2,3,5,7,8] [0,1,2] (rn (wp_seq (wg [5,7,8] [] (rn (wg [0] [] ?_)))))))
     cases h
     exact wp_ret (show fnOut _ _ _ _=_ from by kernel_rfl)
    refine sgz 56 77 (S:=⟨[(1,.ref 0 0 4),(2,.ref 1 0 3),(3,.ref 2 0 4),(5,vI x1.2),(7,vI x3.2),(44,vB false),(45,.tup []),(46,.tup []),(47,.tup []),(48,.tup []),(49,.tup []),(50,.tup []),(51,.tup []),(52,.tup []),(53,.tup []),(54,vB false),(55,vB false),(56,.tup []),(57,.tup []),(58,.tup []),(59,.tup []),(60,.tup []),(61,.tup []),(62,.tup []),(63,vB false),(64,vB false),(65,.tup []),(66,.tup []),(67,.tup []),(68,.tup []),(69,.tup []),(70,.tup []),(71,.tup []),(72,vB false),(73,vB false),(74,.tup []),(75,.tup []),(76,.tup []),(77,.tup []),(78,.tup []),(79,.tup []),(80,.tup []),(81,vB false),(82,vB false),(83,.tup []),(84,.tup []),(85,.tup []),(86,.tup []),(87,.tup []),(88,.tup []),(89,.tup []),(90,vB false),(91,vB false),(92,.tup []),(93,.tup []),(94,.tup []),(95,.tup []),(96,.tup []),(97,.tup []),(98,.tup []),(99,vB false),(8,vB false)],[.row false false true true 1 [.int .u64 10,.int .u64 5,.int .u64 10,.int .u64 5],.row false false true true 1 [.int .u64 2,.int .u64 5,.int .u64 2],.row false false true true 1 [.int .u64 14,.int .u64 13,.int .u64 11,.int .u64 7]],206⟩) ?_
    refine reg_end rfl (wp_seq (wg [1,2,3,5,7,8] [0,1,2] (rn (wp_seq (wg [5,7,8] [] (rn (wg [0] [] ?_)))))))
    cases h
    exact wp_ret (show fnOut _ _ _ _=_ from by kernel_rfl)
   refine sz 5 8 (reg_end rfl (wg [5] [] ?_))
   refine wp_ret ?_
   refine ⟨⟨(s11_6 x1 x3)++[(38,.ref 5 0 4),(39,.tup [.ref 6 0 x13.1.length,vI x13.2]),(40,.ref 6 0 x13.1.length),(41,vI x13.2),(42,vB false)],[.row false false true true 1 [.int .u64 10,.int .u64 5,.int .u64 10,.int .u64 5],.row false false true true 1 [.int .u64 2,.int .u64 5,.int .u64 2],.row false false true true 1 [.int .u64 14,.int .u64 13,.int .u64 11,.int .u64 7],.row false false true true 2 [.agg [vI 1,vI 3]],o11_27,.row false false true true 1 [vI 0,vI 2,vI 1,vI 3],oR true 2 (fun x:(Int × Int)=>AV.agg [vI x.1,vI x.2]) x13.1],206⟩,by as_aux_lemma=>kernel_rfl,?_⟩
   refine sgz 58 77 (S:=⟨(s11_6 x1 x3)++[(38,.ref 5 0 4),(39,.tup [.ref 6 0 x13.1.length,vI x13.2]),(40,.ref 6 0 x13.1.length),(41,vI x13.2),(42,vB false),(43,vB false),(44,vB false),(45,.tup []),(46,.tup []),(47,.tup []),(48,.tup []),(49,.tup []),(50,.tup []),(51,.tup []),(52,.tup []),(53,.tup []),(54,vB false),(55,vB false),(56,.tup []),(57,.tup []),(58,.tup []),(59,.tup []),(60,.tup []),(61,.tup []),(62,.tup []),(63,vB false),(64,vB false),(65,.tup []),(66,.tup []),(67,.tup []),(68,.tup []),(69,.tup []),(70,.tup []),(71,.tup []),(72,vB false),(73,vB false),(74,.tup []),(75,.tup []),(76,.tup []),(77,.tup []),(78,.tup []),(79,.tup []),(80,.tup []),(81,vB false),(82,vB false),(83,.tup []),(84,.tup []),(85,.tup []),(86,.tup []),(87,.tup []),(88,.tup []),(89,.tup []),(90,vB false),(91,vB false),(92,.tup []),(93,.tup []),(94,.tup []),(95,.tup []),(96,.tup []),(97,.tup []),(98,.tup []),(99,vB false),(8,vB false)],[.row false false true true 1 [.int .u64 10,.int .u64 5,.int .u64 10,.int .u64 5],.row false false true true 1 [.int .u64 2,.int .u64 5,.int .u64 2],.row false false true true 1 [.int .u64 14,.int .u64 13,.int .u64 11,.int .u64 7],.row false false true true 2 [.agg [vI 1,vI 3]],o11_27,.row false false true true 1 [vI 0,vI 2,vI 1,vI 3],oR true 2 (fun x:(Int × Int)=>AV.agg [vI x.1,vI x.2]) x13.1],206⟩) ?_
   refine reg_end rfl (wp_seq (wg [1,2,3,5,7,8] [0,1,2] (rn (wp_seq (wg [5,7,8] [] (rn (wg [0] [] ?_)))))))
   cases h
   exact wp_ret (show fnOut _ _ _ _=_ from by kernel_rfl)
  refine sgz 67 77 (S:=⟨[(1,.ref 0 0 4),(2,.ref 1 0 3),(3,.ref 2 0 4),(5,vI x1.2),(7,vI x3.2),(33,vB false),(34,.tup []),(35,.tup []),(36,.tup []),(37,.tup []),(38,.tup []),(39,.tup []),(40,.tup []),(41,.tup []),(42,.tup []),(43,vB false),(44,vB false),(45,.tup []),(46,.tup []),(47,.tup []),(48,.tup []),(49,.tup []),(50,.tup []),(51,.tup []),(52,.tup []),(53,.tup []),(54,vB false),(55,vB false),(56,.tup []),(57,.tup []),(58,.tup []),(59,.tup []),(60,.tup []),(61,.tup []),(62,.tup []),(63,vB false),(64,vB false),(65,.tup []),(66,.tup []),(67,.tup []),(68,.tup []),(69,.tup []),(70,.tup []),(71,.tup []),(72,vB false),(73,vB false),(74,.tup []),(75,.tup []),(76,.tup []),(77,.tup []),(78,.tup []),(79,.tup []),(80,.tup []),(81,vB false),(82,vB false),(83,.tup []),(84,.tup []),(85,.tup []),(86,.tup []),(87,.tup []),(88,.tup []),(89,.tup []),(90,vB false),(91,vB false),(92,.tup []),(93,.tup []),(94,.tup []),(95,.tup []),(96,.tup []),(97,.tup []),(98,.tup []),(99,vB false),(8,vB false)],[.row false false true true 1 [.int .u64 10,.int .u64 5,.int .u64 10,.int .u64 5],.row false false true true 1 [.int .u64 2,.int .u64 5,.int .u64 2],.row false false true true 1 [.int .u64 14,.int .u64 13,.int .u64 11,.int .u64 7]],206⟩) ?_
  refine reg_end rfl (wp_seq (wg [1,2,3,5,7,8] [0,1,2] (rn (wp_seq (wg [5,7,8] [] (rn (wg [0] [] ?_)))))))
  cases h
  exact wp_ret (show fnOut _ _ _ _=_ from by kernel_rfl)
 refine sz 5 8 (reg_end rfl (wg [5] [] ?_))
 refine wp_ret ?_
 refine ⟨⟨(s11_4 x1 x3 x5)++[(32,vB false)],[.row false false true true 1 [.int .u64 10,.int .u64 5,.int .u64 10,.int .u64 5],.row false false true true 1 [.int .u64 2,.int .u64 5,.int .u64 2],.row false false true true 1 [.int .u64 14,.int .u64 13,.int .u64 11,.int .u64 7],.row false false true true 2 [.agg [vI 1,vI 3]],o11_27,.row false false true true 1 [vI 0,vI 1,vI 2,vI 3],oR true 2 (fun x:(Int × Int)=>AV.agg [vI x.1,vI x.2]) x5.1],206⟩,by as_aux_lemma=>kernel_rfl,?_⟩
 refine sgz 68 77 (S:=⟨(s11_4 x1 x3 x5)++[(32,vB false),(33,vB false),(34,.tup []),(35,.tup []),(36,.tup []),(37,.tup []),(38,.tup []),(39,.tup []),(40,.tup []),(41,.tup []),(42,.tup []),(43,vB false),(44,vB false),(45,.tup []),(46,.tup []),(47,.tup []),(48,.tup []),(49,.tup []),(50,.tup []),(51,.tup []),(52,.tup []),(53,.tup []),(54,vB false),(55,vB false),(56,.tup []),(57,.tup []),(58,.tup []),(59,.tup []),(60,.tup []),(61,.tup []),(62,.tup []),(63,vB false),(64,vB false),(65,.tup []),(66,.tup []),(67,.tup []),(68,.tup []),(69,.tup []),(70,.tup []),(71,.tup []),(72,vB false),(73,vB false),(74,.tup []),(75,.tup []),(76,.tup []),(77,.tup []),(78,.tup []),(79,.tup []),(80,.tup []),(81,vB false),(82,vB false),(83,.tup []),(84,.tup []),(85,.tup []),(86,.tup []),(87,.tup []),(88,.tup []),(89,.tup []),(90,vB false),(91,vB false),(92,.tup []),(93,.tup []),(94,.tup []),(95,.tup []),(96,.tup []),(97,.tup []),(98,.tup []),(99,vB false),(8,vB false)],[.row false false true true 1 [.int .u64 10,.int .u64 5,.int .u64 10,.int .u64 5],.row false false true true 1 [.int .u64 2,.int .u64 5,.int .u64 2],.row false false true true 1 [.int .u64 14,.int .u64 13,.int .u64 11,.int .u64 7],.row false false true true 2 [.agg [vI 1,vI 3]],o11_27,.row false false true true 1 [vI 0,vI 1,vI 2,vI 3],oR true 2 (fun x:(Int × Int)=>AV.agg [vI x.1,vI x.2]) x5.1],206⟩) ?_
 refine reg_end rfl (wp_seq (wg [1,2,3,5,7,8] [0,1,2] (rn (wp_seq (wg [5,7,8] [] (rn (wg [0] [] ?_)))))))
 cases h
 exact wp_ret (show fnOut _ _ _ _=_ from by kernel_rfl)
theorem g_slices_Clone_int_int_c_ok (c0:Int) (d0:(List Int)) (x:(List Int)) (h:g_slices_Clone_int_int_c c0 d0=some x):CallOk Tryd.prog 34 [z1 (c0::d0)] (.ret (.ref 0 0 x.length) [oR true 1 eI x]):=by
 refine fn_ok [] Tryd.func34 rfl (by decide +kernel) rfl ?_
 unfold g_slices_Clone_int_int_c at h
 refine wp_eqB (base':=0) (st':=⟨[(0,z1 (c0::d0))],[],8⟩) kr kr ?_
 refine sq (wp_seq (sq (wcF (wp_skip (wp_seq (reg_in (sz 2 2 ?_)))))))
 refine appN (enc:=eI) (m:=(c0::d0)) (w:=1) (bytes:=8) (nr':=true) (fl':=true) (a:=.emp) (b:=z1 (c0::d0)) (rds:=[]) false kr (.inr rfl) (elems_lst (fun _=>rfl)) rfl gE kr h (fun h=>?_)
 refine sz 1 4 (reg_end rfl (wg [2] [0] ?_))
 cases h
 exact wp_ret (show fnOut _ _ _ _=_ from by kernel_rfl)
theorem g_slices_Clone_int_int_e_ok  (x:(List Int)) (h:g_slices_Clone_int_int_e=some x):CallOk Tryd.prog 34 [.emn] (.ret (.ref 0 0 x.length) [oR true 1 eI x]):=by
 refine fn_ok [] Tryd.func34 rfl (by decide +kernel) rfl ?_
 unfold g_slices_Clone_int_int_e at h
 refine wp_eqB (base':=0) (st':=⟨[(0,.emn)],[],8⟩) kr kr ?_
 refine sq (wp_seq (sq (wcF (wp_skip (wp_seq (reg_in (sz 2 2 (sz 1 3 (sz 1 4 ?_)))))))))
 refine reg_end rfl (wg [2] [0] ?_)
 cases h
 exact wp_ret (show fnOut _ _ _ _=_ from by kernel_rfl)
theorem g_slices_Clone_int_int_n_ok  (x:(List Int)) (h:g_slices_Clone_int_int_n=some x):CallOk Tryd.prog 34 [.nils] (.ret (.ref 0 0 x.length) [oR true 1 eI x]):=by
 refine fn_ok [] Tryd.func34 rfl (by decide +kernel) rfl ?_
 unfold g_slices_Clone_int_int_n at h
 refine wp_eqB (base':=0) (st':=⟨[(0,.nils)],[],8⟩) kr kr ?_
 refine sq (wp_seq (sq (wcT (sq (wg [2] [] ?_)))))
 refine wp_wk (wk_nil 2 1 true true gE) ?_
 cases h
 exact wp_ret (show fnOut _ _ _ _=_ from by kernel_rfl)
theorem g_slices_Clone_int_int_ok (p0:(List Int)) (x:(List Int)) (h:g_slices_Clone_int_int p0=some x):CallOk Tryd.prog 34 [z1 p0] (.ret (.ref 0 0 x.length) [oR true 1 eI x]):=by
 cases p0 with
 | cons c0 d0=>exact g_slices_Clone_int_int_c_ok c0 d0 x h
 | nil =>
  cases h1:g_slices_Clone_int_int_n with
  | none=>simp [g_slices_Clone_int_int,h1] at h
  | some y =>
   cases h2:g_slices_Clone_int_int_e with
   | none=>simp [g_slices_Clone_int_int,h1,h2] at h
   | some z =>
    by_cases e:y=z
    ·subst e
     simp [g_slices_Clone_int_int,h1,h2] at h
     subst h
     exact CallOk.nil (l1:=[]) (l2:=[]) (g_slices_Clone_int_int_n_ok y h1) (g_slices_Clone_int_int_e_ok y h2)
    ·simp [g_slices_Clone_int_int,h1,h2,e] at h
end Go.Ab
