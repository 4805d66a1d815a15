/- What functions compute. No conditions. -/
import Derived.Test.YtjhfdojgaoapcaaDoorProg
import Derived.Test.YtjhfdojgaoapcaaDoorW9
import Derived.KernelRfl
import Derived.Test.YtjhfdojgaoapcaaDoorW10
import Derived.Test.YtjhfdojgaoapcaaDoorW15
import Derived.Test.YtjhfdojgaoapcaaDoorW16
import Derived.Test.YtjhfdojgaoapcaaDoorW13
import Derived.Test.YtjhfdojgaoapcaaDoorW14
import Derived.Test.YtjhfdojgaoapcaaDoorEng6
import Derived.IntWalk
import Derived.Test.YtjhfdojgaoapcaaDoorRows
import Derived.WalkKit
import Derived.ProofKit
import Derived.LaidMore
import Derived.Lib.LaidTab
import Derived.Stop.LaidErr
import Derived.Stop.Joined
import Derived.OpenShut
set_option linter.all false
namespace Go.Ab
open Go Go.Proofs
set_option maxRecDepth 100000
set_option maxHeartbeats 4000000
noncomputable abbrev s8_27 (x15:((List Int) × (List Int))):List (Nat × AV):=[(1,.ref 0 0 ((List.replicate (zt 10) (0:Int)).length)),(2,.ref 1 0 x15.1.length),(3,.ref 2 0 x15.2.length)]
noncomputable abbrev s8_65 (x15:((List Int) × (List Int))) (x84:(Int × Int)):List (Nat × AV):=(s8_27 x15)++[(166,vB true),(167,.fn (.func 72) [] [.ptr 3 0 0]),(168,.ref 0 0 ((List.replicate (zt 10) (0:Int)).length)),(169,.tup [vI x84.1,vI x84.2]),(170,vI x84.1),(171,vI x84.2)]
noncomputable abbrev s8_67 (x15:((List Int) × (List Int))) (x90:(Bool × Int)):List (Nat × AV):=[(2,.ref 0 0 x15.1.length),(3,.ref 1 0 x15.2.length),(174,vB true),(175,.fn (.func 73) [] [.ptr 2 0 0]),(176,.ref 0 0 x15.1.length),(177,.tup [vB x90.1,vI x90.2]),(178,vB x90.1),(179,vI x90.2)]
noncomputable abbrev s8_68 (x15:((List Int) × (List Int))) (x96:(Bool × Int)):List (Nat × AV):=[(3,.ref 0 0 x15.2.length),(182,vB true),(183,.fn (.func 73) [] [.ptr 1 0 0]),(184,.ref 0 0 x15.2.length),(185,.tup [vB x96.1,vI x96.2]),(186,vB x96.1),(187,vI x96.2)]
noncomputable abbrev s8_87 (x15:((List Int) × (List Int))):List (Nat × AV):=[(1,.ref 0 0 ((List.replicate (zt 10) (0:Int)).length)),(2,.ref 1 0 x15.1.length),(3,.ref 2 0 x15.2.length),(5,.ref 3 0 10),(19,vB false)]
noncomputable abbrev o8_29:AObj:=oX true true 1 (vB true)
noncomputable abbrev o8_30 (x15:((List Int) × (List Int))):List AObj:=[oR true 1 (AV.int .u64) (List.replicate (zt 10) (0:Int)),oR true 1 (AV.int .u64) x15.1,oR true 1 (AV.int .u64) x15.2,.row false false true true 1 [vI 0,vI 1,vI 2,vI 3,vI 4,vI 5,vI 6,vI 7,vI 8,vI 9]]
noncomputable abbrev o8_31 (x15:((List Int) × (List Int))):List AObj:=[oR true 1 (AV.int .u64) (List.replicate (zt 10) (0:Int)),oR true 1 (AV.int .u64) x15.1,oR true 1 (AV.int .u64) x15.2]
noncomputable abbrev o8_32 (x15:((List Int) × (List Int))):List AObj:=[oR true 1 (AV.int .u64) (List.replicate (zt 10) (0:Int)),oR true 1 (AV.int .u64) x15.1,oR true 1 (AV.int .u64) x15.2,oX true true 1 (vI 9)]
noncomputable abbrev o8_33 (x15:((List Int) × (List Int))):List AObj:=[oR true 1 (AV.int .u64) (List.replicate (zt 10) (0:Int)),oR true 1 (AV.int .u64) x15.1,oR true 1 (AV.int .u64) x15.2,oX true true 1 (vI 2)]
noncomputable abbrev o8_34 (x15:((List Int) × (List Int))):List AObj:=[oR true 1 (AV.int .u64) (List.replicate (zt 10) (0:Int)),oR true 1 (AV.int .u64) x15.1,oR true 1 (AV.int .u64) x15.2,oX true true 1 (vI 0)]
noncomputable abbrev o8_35 (x15:((List Int) × (List Int))):List AObj:=[oR true 1 (AV.int .u64) x15.1,oR true 1 (AV.int .u64) x15.2,o8_29]
theorem g_law08_OrderKnown_ok  (x:Bool) (h:g_law08_OrderKnown=some x):CallOk Tryd.prog 8 [] (.ret (vB x) []):=by
 refine fn_ok [] Tryd.func8 rfl (by decide +kernel) rfl ?_
 unfold g_law08_OrderKnown at h
 refine wp_eqB (base':=0) (st':=⟨[],[],204⟩) kr kr ?_
 refine sq (wp_seq (wp_seq (reg_in ?_)))
 refine callW bodyB_11 (g_law08_works_ok ) h (fun x1 _ h=>?_)
 refine sz 1 2 (reg_end rfl ?_)
 refine wb [21] h (fun q4 h=>?_) (fun q4 h=>?_)
 ·refine wcT (sq (wg [0] [] ?_))
  cases h
  exact wp_ret (show fnOut _ _ _ _=_ from by kernel_rfl)
 refine wcF (wp_skip (wp_seq (reg_in ?_)))
 refine mkL (enc:=(AV.int .u64)) (z:=(0:Int)) (z0:=.int .u64 0) (n:=10) (m:=10) (w:=1) (bytes:=8) [] true kr rfl gE kr h (fun h=>?_)
 refine sz 1 2 (reg_end rfl (wp_seq (reg_in ?_)))
 refine mkL (enc:=(AV.int .u64)) (z:=(0:Int)) (z0:=.int .u64 0) (n:=10) (m:=10) (w:=1) (bytes:=8) [] true kr rfl gE kr h (fun h=>?_)
 refine sz 1 2 (reg_end rfl (wp_seq ?_))
 refine wgc [1,2] [0,1] ⟨[(1,.ref 0 0 ((List.replicate (zt 10) (0:Int)).length)),(2,.ref 1 0 ((List.replicate (zt 10) (0:Int)).length))],[oR true 1 (AV.int .u64) (List.replicate (zt 10) (0:Int)),oR true 1 (AV.int .u64) (List.replicate (zt 10) (0:Int))],204⟩ ?_
 refine reg_in ?_
 refine mkL (enc:=(AV.int .u64)) (z:=(0:Int)) (z0:=.int .u64 0) (n:=10) (m:=10) (w:=1) (bytes:=8) [] true kr rfl gE kr h (fun h=>?_)
 refine sz 1 2 (reg_end rfl (wp_seq (sq (wp_block ?_))))
 refine wwh h (fun s5=>⟨[(1,.ref 0 0 ((List.replicate (zt 10) (0:Int)).length)),(2,.ref 1 0 s5.2.1.length),(3,.ref 2 0 s5.2.2.length),(25,vI s5.1)],[oR true 1 (AV.int .u64) (List.replicate (zt 10) (0:Int)),oR true 1 (AV.int .u64) s5.2.1,oR true 1 (AV.int .u64) s5.2.2],204⟩) (fun v out=>out=.go (.exit 0) ⟨[(1,.ref 0 0 ((List.replicate (zt 10) (0:Int)).length)),(2,.ref 1 0 v.1.length),(3,.ref 2 0 v.2.length)],[oR true 1 (AV.int .u64) (List.replicate (zt 10) (0:Int)),oR true 1 (AV.int .u64) v.1,oR true 1 (AV.int .u64) v.2],204⟩) (wk_gc (live:=[1,2,3,25]) (keep:=[0,1,2]) kr) ?_ ?_
 ·intro s5 o h
  unfold g_law08_OrderKnown_b0 at h
  refine sq (wp_seq ?_)
  refine wb [26] h (fun q7 h=>?_) (fun q7 h=>?_)
  ·refine wcT (wp_skip (wp_seq (wp_block (sq (wp_seq (reg_in (sz 3 3 ?_)))))))
   refine shlR (k:=.u64) (k':=.i64) (a:=1) (b:=s5.1) kr gE h (fun h=>?_)
   refine sz 1 5 ?_
   refine bind_elim h (fun a8 q9 h=>?_)
   refine idxR' (enc:=(AV.int .u64)) (l:=s5.2.1) (n:=s5.1) (w:=1) (ob:=1) (ro:=false) (nr:=true) (fl:=true) (a:=a8) kr kr gE q9 ?_
   refine storeR (enc:=(AV.int .u64)) (l:=s5.2.1) (n:=s5.1) (ob:=1) (w:=1) (bx:=false) (nr:=true) (fl:=true) (c:=0) (a:=a8) (a':=zv (1023 - (zv (1*2^min (zt s5.1) (IntKind.bits .u64))))) (v:=.int .u64 (zv (1023 - (zv (1*2^min (zt s5.1) (IntKind.bits .u64)))))) false kr kr q9 kr rfl kr gE kr ?_
   refine rl [2,28] (n:=s5.2.1.length) (m:=(List.set s5.2.1 (zt s5.1) (zv (1023 - (zv (1*2^min (zt s5.1) (IntKind.bits .u64)))))).length) (by simp only [List.length_set]) ?_
   refine reg_end rfl ?_
   refine wgc [1,2,3,25,4] [0,1,2] ⟨[(1,.ref 0 0 ((List.replicate (zt 10) (0:Int)).length)),(2,.ref 1 0 ((List.set s5.2.1 (zt s5.1) (zv (1023 - (zv (1*2^min (zt s5.1) (IntKind.bits .u64)))))).length)),(3,.ref 2 0 s5.2.2.length),(25,vI s5.1),(4,vI s5.1)],[oR true 1 (AV.int .u64) (List.replicate (zt 10) (0:Int)),oR true 1 (AV.int .u64) (List.set s5.2.1 (zt s5.1) (zv (1023 - (zv (1*2^min (zt s5.1) (IntKind.bits .u64)))))),oR true 1 (AV.int .u64) s5.2.2],204⟩ ?_
   refine rga hfol (sy 5 5 ?_)
   refine shlR (k:=.u64) (k':=.i64) (a:=1) (b:=Int.tmod (zw (s5.1+1)) 10) kr gE h (fun h=>?_)
   refine sy 3 9 ?_
   refine shlR (k:=.u64) (k':=.i64) (a:=1) (b:=Int.tmod (zw (s5.1+9)) 10) kr gE h (fun h=>?_)
   refine sy 1 11 ?_
   refine bind_elim h (fun a10 q11 h=>?_)
   refine idxR' (enc:=(AV.int .u64)) (l:=s5.2.2) (n:=s5.1) (w:=1) (ob:=2) (ro:=false) (nr:=true) (fl:=true) (a:=a10) kr kr gE q11 ?_
   refine storeR (enc:=(AV.int .u64)) (l:=s5.2.2) (n:=s5.1) (ob:=2) (w:=1) (bx:=false) (nr:=true) (fl:=true) (c:=0) (a:=a10) (a':=zv (BitVec.ofInt (IntKind.bits .u64) (zv (1*2^min (zt (Int.tmod (zw (s5.1+1)) 10)) (IntKind.bits .u64))) ||| BitVec.ofInt (IntKind.bits .u64) (zv (1*2^min (zt (Int.tmod (zw (s5.1+9)) 10)) (IntKind.bits .u64)))).toNat) (v:=.int .u64 (zv (BitVec.ofInt (IntKind.bits .u64) (zv (1*2^min (zt (Int.tmod (zw (s5.1+1)) 10)) (IntKind.bits .u64))) ||| BitVec.ofInt (IntKind.bits .u64) (zv (1*2^min (zt (Int.tmod (zw (s5.1+9)) 10)) (IntKind.bits .u64)))).toNat)) false kr kr q11 kr rfl kr gE kr ?_
   refine rl [3,34] (n:=s5.2.2.length) (m:=(List.set s5.2.2 (zt s5.1) (zv (BitVec.ofInt (IntKind.bits .u64) (zv (1*2^min (zt (Int.tmod (zw (s5.1+1)) 10)) (IntKind.bits .u64))) ||| BitVec.ofInt (IntKind.bits .u64) (zv (1*2^min (zt (Int.tmod (zw (s5.1+9)) 10)) (IntKind.bits .u64)))).toNat)).length) (by simp only [List.length_set]) ?_
   refine rgd (wg [1,2,3,25] [0,1,2] (rn ?_))
   cases h
   exact ⟨_,rfl,(wk_gc (live:=[1,2,3,25]) (keep:=[0,1,2]) kr)⟩
  refine wcF (wg [1,2,3] [0,1,2] ?_)
  refine wp_exit ?_
  cases h
  exact ⟨kr,rfl⟩
 intro x15 h out hx
 subst hx
 refine wp_seq (reg_in ?_)
 refine sgL false [] [] true gE ?_
 refine sz 1 2 (reg_end rfl (wp_seq (reg_in ?_)))
 refine sgL false [] [] true gE ?_
 refine sgL false [] [] true gE ?_
 refine callR (as0:=[.ref 4 0 1,.ref 5 0 1]) (ids:=[4,5]) kr bodyB_16 (msnap_cons (show snap _ _ _=some (_,[4]) from kr) (msnap_cons (show snap _ _ _=some (_,[5]) from kr) msnap_nil (by rfl)) (by rfl)) (fun x16 q17=>g_order_Fill_ok [1] [5] x16 q17) gF h (fun x16 q17 h=>?_)
 refine sz 5 8 (reg_end rfl (wp_seq (wg [1,2,3,5,7] [0,1,2,3] (reg_in (sz 1 1 ?_)))))
 refine sgL false [] [] true gE ?_
 refine callR (as0:=[.ref 2 0 x15.2.length,.ref 4 0 1]) (ids:=[2,4]) kr bodyB_16 (msnap_cons (snap_full (w:=1) (bx:=false) (ro:=false) (enc:=(AV.int .u64)) (l:=x15.2) (fl:=true) kr) (msnap_cons (show snap _ _ _=some (_,[4]) from kr) msnap_nil (by rfl)) (by rfl)) (fun x18 q19=>g_order_Fill_ok x15.2 [0] x18 q19) gF h (fun x18 q19 h=>?_)
 refine sz 5 8 (reg_end rfl (wp_seq ?_))
 refine wgc [1,2,3,5,7,9] [0,1,2,3] ⟨[(1,.ref 0 0 ((List.replicate (zt 10) (0:Int)).length)),(2,.ref 1 0 x15.1.length),(3,.ref 2 0 x15.2.length),(5,.ref 3 0 10),(7,vI x16.2),(9,vI x18.2)],(o8_30 x15),204⟩ ?_
 refine reg_in (sz 2 2 ?_)
 refine callR (as0:=[.ref 3 0 10]) (ids:=[3]) kr bodyB_34 (msnap_cons (show snap _ _ _=some (_,[3]) from kr) msnap_nil (by rfl)) (fun x20 q21=>g_slices_Clone_int_int_ok [0,1,2,3,4,5,6,7,8,9] x20 q21) gF h (fun x20 q21 h=>?_)
 refine sgL false [] [] true gE ?_
 refine appR (enc:=eI) (l:=x20) (m:=([0]:(List Int))) (w:=1) (bytes:=8) (ob:=4) (nr:=true) (fl:=true) (nr':=true) (fl':=true) (b:=.ref 5 0 1) (rds:=[5]) false kr kr kr rfl gE kr h (fun h=>?_)
 refine callR (as0:=[.ref 2 0 x15.2.length,.ref 6 0 ((x20++([0]:(List Int))).length)]) (ids:=[2,6]) kr bodyB_17 (msnap_cons (snap_full (w:=1) (bx:=false) (ro:=false) (enc:=(AV.int .u64)) (l:=x15.2) (fl:=true) kr) (msnap_cons (snap_full (w:=1) (bx:=false) (ro:=false) (enc:=eI) (l:=(x20++([0]:(List Int)))) (fl:=true) kr) msnap_nil (by rfl)) (by rfl)) (fun x22 q23=>g_order_Width_ok x15.2 (x20++([0]:(List Int))) x22 q23) gF h (fun x22 q23 h=>?_)
 refine sz 5 11 (reg_end rfl (wp_seq (wg [1,2,3,5,7,9,11] [0,1,2,3] (reg_in ?_))))
 refine mkL (enc:=(AV.int .u64)) (z:=(0:Int)) (z0:=.int .u64 0) (n:=11) (m:=11) (w:=1) (bytes:=8) [] true kr rfl gE kr h (fun h=>?_)
 refine callR (as0:=[.ref 4 0 ((List.replicate (zt 11) (0:Int)).length)]) (ids:=[4]) kr bodyB_31 (msnap_cons (snap_full (w:=1) (bx:=false) (ro:=false) (enc:=(AV.int .u64)) (l:=(List.replicate (zt 11) (0:Int))) (fl:=true) kr) msnap_nil (by rfl)) (fun x24 q25=>g_order_Best_ok (List.replicate (zt 11) (0:Int)) x24 q25) gF h (fun x24 q25 h=>?_)
 refine sz 7 9 (reg_end rfl (wp_seq ?_))
 refine wgc [1,2,3,5,7,9,11,14] [0,1,2,3] ⟨[(1,.ref 0 0 ((List.replicate (zt 10) (0:Int)).length)),(2,.ref 1 0 x15.1.length),(3,.ref 2 0 x15.2.length),(5,.ref 3 0 10),(7,vI x16.2),(9,vI x18.2),(11,vI x22.2),(14,vI x24.2.2)],(o8_30 x15),204⟩ ?_
 refine reg_in ?_
 refine sgL false [] [] true gE ?_
 refine sgL false [] [] true gE ?_
 refine callR (as0:=[.ref 4 0 1,.ref 5 0 1]) (ids:=[4,5]) kr bodyB_17 (msnap_cons (show snap _ _ _=some (_,[4]) from kr) (msnap_cons (show snap _ _ _=some (_,[5]) from kr) msnap_nil (by rfl)) (by rfl)) (fun x26 q27=>g_order_Width_ok [0] [-1] x26 q27) gF h (fun x26 q27 h=>?_)
 refine sz 5 8 (reg_end rfl (wp_seq (wg [1,2,3,5,7,9,11,14,16] [0,1,2,3] (reg_in (sz 2 2 ?_)))))
 refine callR (as0:=[.ref 2 0 x15.2.length,.ref 3 0 10]) (ids:=[2,3]) kr bodyB_16 (msnap_cons (snap_full (w:=1) (bx:=false) (ro:=false) (enc:=(AV.int .u64)) (l:=x15.2) (fl:=true) kr) (msnap_cons (show snap _ _ _=some (_,[3]) from kr) msnap_nil (by rfl)) (by rfl)) (fun x28 q29=>g_order_Fill_ok x15.2 [0,1,2,3,4,5,6,7,8,9] x28 q29) gF h (fun x28 q29 h=>?_)
 refine sz 5 8 (reg_end rfl (wp_seq ?_))
 refine wgc [1,2,3,5,7,9,11,14,16,17,18] [0,1,2,3,4] ⟨[(1,.ref 0 0 ((List.replicate (zt 10) (0:Int)).length)),(2,.ref 1 0 x15.1.length),(3,.ref 2 0 x15.2.length),(5,.ref 3 0 10),(7,vI x16.2),(9,vI x18.2),(11,vI x22.2),(14,vI x24.2.2),(16,vI x26.2),(17,.ref 4 0 x28.1.length),(18,vI x28.2)],[oR true 1 (AV.int .u64) (List.replicate (zt 10) (0:Int)),oR true 1 (AV.int .u64) x15.1,oR true 1 (AV.int .u64) x15.2,.row false false true true 1 [vI 0,vI 1,vI 2,vI 3,vI 4,vI 5,vI 6,vI 7,vI 8,vI 9],oR true 2 (fun x:(Int × Int)=>AV.agg [vI x.1,vI x.2]) x28.1],204⟩ ?_
 refine reg_in (sz 3 3 ?_)
 refine rb [88,89] h (fun q31 h=>?_) (fun q31 h=>?_)
 ·refine sz 4 7 (rwg [1,2,3,5,11,14,16,17,18,93] [0,1,2,3,4] ?_)
  refine rb [93] h (fun q33 h=>?_) (fun q33 h=>?_)
  ·refine sz 4 11 (rwg [1,2,3,5,14,16,17,18,97] [0,1,2,3,4] ?_)
   refine rb [97] h (fun q35 h=>?_) (fun q35 h=>?_)
   ·refine sz 4 15 ?_
    refine rw_wk (wk_gc (live:=[1,2,3,5,16,17,18,101]) (keep:=[0,1,2,3,4]) (st':=⟨[(1,.ref 0 0 ((List.replicate (zt 10) (0:Int)).length)),(2,.ref 1 0 x15.1.length),(3,.ref 2 0 x15.2.length),(5,.ref 3 0 10),(16,vI x26.2),(17,.ref 4 0 x28.1.length),(18,vI x28.2),(101,vB (x24.2.2==80))],[oR true 1 (AV.int .u64) (List.replicate (zt 10) (0:Int)),oR true 1 (AV.int .u64) x15.1,oR true 1 (AV.int .u64) x15.2,.row false false true true 1 [vI 0,vI 1,vI 2,vI 3,vI 4,vI 5,vI 6,vI 7,vI 8,vI 9],oR true 2 (fun x:(Int × Int)=>AV.agg [vI x.1,vI x.2]) x28.1],204⟩) kr) ?_
    refine rb [101] h (fun q37 h=>?_) (fun q37 h=>?_)
    ·refine sz 4 19 (rwg [1,2,3,5,17,18,105] [0,1,2,3,4] ?_)
     refine rb [105] h (fun q39 h=>?_) (fun q39 h=>?_)
     ·refine sz 4 23 (rwg [1,2,3,5,17,109] [0,1,2,3,4] ?_)
      refine rb [109] h (fun q41 h=>?_) (fun q41 h=>?_)
      ·refine sz 5 28 (rwg [1,2,3,5,114] [0,1,2,3] ?_)
       refine rb [114] h (fun q43 h=>?_) (fun q43 h=>?_)
       ·refine sz 1 29 ?_
        refine callR (as0:=[.ref 0 0 ((List.replicate (zt 10) (0:Int)).length)]) (ids:=[0]) kr bodyB_14 (msnap_cons (snap_full (w:=1) (bx:=false) (ro:=false) (enc:=(AV.int .u64)) (l:=(List.replicate (zt 10) (0:Int))) (fl:=true) kr) msnap_nil (by rfl)) (fun x44 q45=>g_order_Check_ok (List.replicate (zt 10) (0:Int)) x44 q45) gF h (fun x44 q45 h=>?_)
        refine sz 3 33 ?_
        refine rw_wk (wk_gc (live:=[1,2,3,5,119]) (keep:=[0,1,2,3]) (st':=⟨[(1,.ref 0 0 ((List.replicate (zt 10) (0:Int)).length)),(2,.ref 1 0 x15.1.length),(3,.ref 2 0 x15.2.length),(5,.ref 3 0 10),(119,vB (x44==0))],(o8_30 x15),204⟩) kr) ?_
        refine rb [119] h (fun q47 h=>?_) (fun q47 h=>?_)
        ·refine sgL false [] [] true gE ?_
         refine callR (as0:=[.ref 4 0 2]) (ids:=[4]) kr bodyB_14 (msnap_cons (show snap _ _ _=some (_,[4]) from kr) msnap_nil (by rfl)) (fun x48 q49=>g_order_Check_ok [2,5] x48 q49) gF h (fun x48 q49 h=>?_)
         refine sz 3 38 (rwg [1,2,3,5,124] [0,1,2,3] ?_)
         refine rb [124] h (fun q51 h=>?_) (fun q51 h=>?_)
         ·refine sgL false [] [] true gE ?_
          refine callR (as0:=[.ref 4 0 1]) (ids:=[4]) kr bodyB_14 (msnap_cons (show snap _ _ _=some (_,[4]) from kr) msnap_nil (by rfl)) (fun x52 q53=>g_order_Check_ok [9223372036854775808] x52 q53) gF h (fun x52 q53 h=>?_)
          refine sz 3 43 (reg_end rfl (wp_seq (wg [1,2,3,5,19] [0,1,2,3] (reg_in (sz 2 2 ?_)))))
          refine rb [19,129,130] h (fun q55 h=>?_) (fun q55 h=>?_)
          ·refine sz 2 4 ?_
           refine callR (as0:=[.ref 0 0 ((List.replicate (zt 10) (0:Int)).length),vI 0,.ref 3 0 10]) (ids:=[0,3]) kr bodyB_35 (msnap_cons (snap_full (w:=1) (bx:=false) (ro:=false) (enc:=(AV.int .u64)) (l:=(List.replicate (zt 10) (0:Int))) (fl:=true) kr) (msnap_cons rfl (msnap_cons (show snap _ _ _=some (_,[3]) from kr) msnap_nil (by rfl)) (by rfl)) (by rfl)) (fun x56 q57=>g_law08_best_ok (List.replicate (zt 10) (0:Int)) 0 [0,1,2,3,4,5,6,7,8,9] x56 q57) gF h (fun x56 q57 h=>?_)
           refine sz 2 7 ?_
           refine rw_wk (wk_gc (live:=[1,2,3,5,135]) (keep:=[0,1,2,3]) (st':=⟨[(1,.ref 0 0 ((List.replicate (zt 10) (0:Int)).length)),(2,.ref 1 0 x15.1.length),(3,.ref 2 0 x15.2.length),(5,.ref 3 0 10),(135,vB x56)],(o8_30 x15),204⟩) kr) ?_
           refine rb [135] h (fun q59 h=>?_) (fun q59 h=>?_)
           ·refine sz 2 9 ?_
            refine callR (as0:=[.ref 1 0 x15.1.length,vI 9,.ref 3 0 10]) (ids:=[1,3]) kr bodyB_35 (msnap_cons (snap_full (w:=1) (bx:=false) (ro:=false) (enc:=(AV.int .u64)) (l:=x15.1) (fl:=true) kr) (msnap_cons rfl (msnap_cons (show snap _ _ _=some (_,[3]) from kr) msnap_nil (by rfl)) (by rfl)) (by rfl)) (fun x60 q61=>g_law08_best_ok x15.1 9 [0,1,2,3,4,5,6,7,8,9] x60 q61) gF h (fun x60 q61 h=>?_)
            refine sz 2 12 (rwg [1,2,3,5,140] [0,1,2,3] ?_)
            refine rb [140] h (fun q63 h=>?_) (fun q63 h=>?_)
            ·refine sz 2 14 ?_
             refine callR (as0:=[.ref 2 0 x15.2.length,vI 2,.ref 3 0 10]) (ids:=[2,3]) kr bodyB_35 (msnap_cons (snap_full (w:=1) (bx:=false) (ro:=false) (enc:=(AV.int .u64)) (l:=x15.2) (fl:=true) kr) (msnap_cons rfl (msnap_cons (show snap _ _ _=some (_,[3]) from kr) msnap_nil (by rfl)) (by rfl)) (by rfl)) (fun x64 q65=>g_law08_best_ok x15.2 2 [0,1,2,3,4,5,6,7,8,9] x64 q65) gF h (fun x64 q65 h=>?_)
             refine sz 2 17 (rwg [1,2,3,145] [0,1,2] ?_)
             refine rb [145] h (fun q67 h=>?_) (fun q67 h=>?_)
             ·refine sgL false [] [] true gE ?_
              refine sgL false [] [] true gE ?_
              refine callR (as0:=[.ref 3 0 1,vI 0,.ref 4 0 1]) (ids:=[3,4]) kr bodyB_35 (msnap_cons (show snap _ _ _=some (_,[3]) from kr) (msnap_cons rfl (msnap_cons (show snap _ _ _=some (_,[4]) from kr) msnap_nil (by rfl)) (by rfl)) (by rfl)) (fun x68 q69=>g_law08_best_ok [0] 0 [0] x68 q69) gF h (fun x68 q69 h=>?_)
              refine sz 2 22 ?_
              refine rw_wk (wk_gc (live:=[1,2,3,150]) (keep:=[0,1,2]) (st':=⟨[(1,.ref 0 0 ((List.replicate (zt 10) (0:Int)).length)),(2,.ref 1 0 x15.1.length),(3,.ref 2 0 x15.2.length),(150,vB x68)],(o8_31 x15),204⟩) kr) ?_
              refine rb [150] h (fun q71 h=>?_) (fun q71 h=>?_)
              ·refine inlR (f:=36) (fn:=Tryd.f36) (as0:=[vI 9]) kr Tryd.func36 rfl (by decide +kernel) rfl ?_
               refine wp_eqB (base':=3) (st':=⟨[(0,vI 9)],(o8_31 x15),4⟩) kr kr ?_
               refine sq (sq (wg [2] [3] ?_))
               refine wp_ret ?_
               refine ⟨⟨(s8_27 x15)++[(150,vB true),(151,.fn (.func 72) [] [.ptr 3 0 0])],(o8_32 x15),204⟩,by as_aux_lemma=>kernel_rfl,?_⟩
               refine sz 1 24 ?_
               refine callR (as0:=[.ref 1 0 x15.1.length]) (ids:=[1]) kr bodyB_24 (msnap_cons (snap_full (w:=1) (bx:=false) (ro:=false) (enc:=(AV.int .u64)) (l:=x15.1) (fl:=true) kr) msnap_nil (by rfl)) (fun x72 q73=>g_order_Low_ok x15.1 x72 q73) gF h (fun x72 q73 h=>?_)
               refine sz 2 27 ?_
               refine inlR (f:=72) (fn:=Tryd.f72) (as0:=[vI x72.1,vI x72.2,.ptr 3 0 0]) kr Tryd.func72 rfl (by decide +kernel) rfl ?_
               refine wp_eqB (base':=4) (st':=⟨[(0,vI x72.1),(1,vI x72.2),(2,.ptr 3 0 0)],(o8_32 x15),13⟩) kr kr ?_
               refine sq (wp_seq (reg_in (sz 4 4 (rwg [1,9] [] ?_))))
               refine rb [9] h (fun q75 h=>?_) (fun q75 h=>?_)
               ·refine sz 4 8 (reg_end rfl (wg [5] [] ?_))
                refine wp_ret ?_
                refine ⟨⟨(s8_27 x15)++[(150,vB true),(151,.fn (.func 72) [] [.ptr 3 0 0]),(152,.ref 1 0 x15.1.length),(153,.tup [vI x72.1,vI x72.2]),(154,vI x72.1),(155,vI x72.2),(156,vB (x72.2==0))],(o8_32 x15),204⟩,by as_aux_lemma=>kernel_rfl,?_⟩
                refine sz 2 30 ?_
                refine rw_wk (wk_gc (live:=[1,2,3,158]) (keep:=[0,1,2]) (st':=⟨[(1,.ref 0 0 ((List.replicate (zt 10) (0:Int)).length)),(2,.ref 1 0 x15.1.length),(3,.ref 2 0 x15.2.length),(158,vB (x72.2==0))],(o8_31 x15),204⟩) kr) ?_
                refine rb [158] h (fun q77 h=>?_) (fun q77 h=>?_)
                ·refine inlR (f:=36) (fn:=Tryd.f36) (as0:=[vI 2]) kr Tryd.func36 rfl (by decide +kernel) rfl ?_
                 refine wp_eqB (base':=3) (st':=⟨[(0,vI 2)],(o8_31 x15),4⟩) kr kr ?_
                 refine sq (sq (wg [2] [3] ?_))
                 refine wp_ret ?_
                 refine ⟨⟨(s8_27 x15)++[(158,vB true),(159,.fn (.func 72) [] [.ptr 3 0 0])],(o8_33 x15),204⟩,by as_aux_lemma=>kernel_rfl,?_⟩
                 refine sz 1 32 ?_
                 refine callR (as0:=[.ref 2 0 x15.2.length]) (ids:=[2]) kr bodyB_24 (msnap_cons (snap_full (w:=1) (bx:=false) (ro:=false) (enc:=(AV.int .u64)) (l:=x15.2) (fl:=true) kr) msnap_nil (by rfl)) (fun x78 q79=>g_order_Low_ok x15.2 x78 q79) gF h (fun x78 q79 h=>?_)
                 refine sz 2 35 ?_
                 refine inlR (f:=72) (fn:=Tryd.f72) (as0:=[vI x78.1,vI x78.2,.ptr 3 0 0]) kr Tryd.func72 rfl (by decide +kernel) rfl ?_
                 refine wp_eqB (base':=4) (st':=⟨[(0,vI x78.1),(1,vI x78.2),(2,.ptr 3 0 0)],(o8_33 x15),13⟩) kr kr ?_
                 refine sq (wp_seq (reg_in (sz 4 4 (rwg [1,9] [] ?_))))
                 refine rb [9] h (fun q81 h=>?_) (fun q81 h=>?_)
                 ·refine sz 4 8 (reg_end rfl (wg [5] [] ?_))
                  refine wp_ret ?_
                  refine ⟨⟨(s8_27 x15)++[(158,vB true),(159,.fn (.func 72) [] [.ptr 3 0 0]),(160,.ref 2 0 x15.2.length),(161,.tup [vI x78.1,vI x78.2]),(162,vI x78.1),(163,vI x78.2),(164,vB (x78.2==0))],(o8_33 x15),204⟩,by as_aux_lemma=>kernel_rfl,?_⟩
                  refine sz 2 38 ?_
                  refine rw_wk (wk_gc (live:=[1,2,3,166]) (keep:=[0,1,2]) (st':=⟨[(1,.ref 0 0 ((List.replicate (zt 10) (0:Int)).length)),(2,.ref 1 0 x15.1.length),(3,.ref 2 0 x15.2.length),(166,vB (x78.2==0))],(o8_31 x15),204⟩) kr) ?_
                  refine rb [166] h (fun q83 h=>?_) (fun q83 h=>?_)
                  ·refine inlR (f:=36) (fn:=Tryd.f36) (as0:=[vI 0]) kr Tryd.func36 rfl (by decide +kernel) rfl ?_
                   refine wp_eqB (base':=3) (st':=⟨[(0,vI 0)],(o8_31 x15),4⟩) kr kr ?_
                   refine sq (sq (wg [2] [3] ?_))
                   refine wp_ret ?_
                   refine ⟨⟨(s8_27 x15)++[(166,vB true),(167,.fn (.func 72) [] [.ptr 3 0 0])],(o8_34 x15),204⟩,by as_aux_lemma=>kernel_rfl,?_⟩
                   refine sz 1 40 ?_
                   refine callR (as0:=[.ref 0 0 ((List.replicate (zt 10) (0:Int)).length)]) (ids:=[0]) kr bodyB_24 (msnap_cons (snap_full (w:=1) (bx:=false) (ro:=false) (enc:=(AV.int .u64)) (l:=(List.replicate (zt 10) (0:Int))) (fl:=true) kr) msnap_nil (by rfl)) (fun x84 q85=>g_order_Low_ok (List.replicate (zt 10) (0:Int)) x84 q85) gF h (fun x84 q85 h=>?_)
                   refine sz 2 43 ?_
                   refine inlR (f:=72) (fn:=Tryd.f72) (as0:=[vI x84.1,vI x84.2,.ptr 3 0 0]) kr Tryd.func72 rfl (by decide +kernel) rfl ?_
                   refine wp_eqB (base':=4) (st':=⟨[(0,vI x84.1),(1,vI x84.2),(2,.ptr 3 0 0)],(o8_34 x15),13⟩) kr kr ?_
                   refine sq (wp_seq (reg_in (sz 4 4 (rwg [1,9] [] ?_))))
                   refine rb [9] h (fun q87 h=>?_) (fun q87 h=>?_)
                   ·refine sz 4 8 (reg_end rfl (wg [5] [] ?_))
                    refine wp_ret ?_
                    refine ⟨⟨(s8_65 x15 x84)++[(172,vB (x84.2==0))],(o8_34 x15),204⟩,by as_aux_lemma=>kernel_rfl,?_⟩
                    refine sz 2 46 ?_
                    refine rw_wk (wk_gc (live:=[2,3,174]) (keep:=[1,2]) (st':=⟨[(2,.ref 0 0 x15.1.length),(3,.ref 1 0 x15.2.length),(174,vB (x84.2==0))],[oR true 1 (AV.int .u64) x15.1,oR true 1 (AV.int .u64) x15.2],204⟩) kr) ?_
                    refine rb [174] h (fun q89 h=>?_) (fun q89 h=>?_)
                    ·refine inlR (f:=37) (fn:=Tryd.f37) (as0:=[vB true]) kr Tryd.func37 rfl (by decide +kernel) rfl ?_
                     refine wp_eqB (base':=2) (st':=⟨[(0,vB true)],[oR true 1 (AV.int .u64) x15.1,oR true 1 (AV.int .u64) x15.2],4⟩) kr kr ?_
                     refine sq (sq (wg [2] [2] ?_))
                     refine wp_ret ?_
                     refine ⟨⟨[(2,.ref 0 0 x15.1.length),(3,.ref 1 0 x15.2.length),(174,vB true),(175,.fn (.func 73) [] [.ptr 2 0 0])],(o8_35 x15),204⟩,by as_aux_lemma=>kernel_rfl,?_⟩
                     refine sz 1 48 ?_
                     refine callR (as0:=[.ref 0 0 x15.1.length]) (ids:=[0]) kr bodyB_25 (msnap_cons (snap_full (w:=1) (bx:=false) (ro:=false) (enc:=(AV.int .u64)) (l:=x15.1) (fl:=true) kr) msnap_nil (by rfl)) (fun x90 q91=>g_order_Chordal_ok x15.1 x90 q91) gF h (fun x90 q91 h=>?_)
                     refine sz 2 51 ?_
                     refine inlR (f:=73) (fn:=Tryd.f73) (as0:=[vB x90.1,vI x90.2,.ptr 2 0 0]) kr Tryd.func73 rfl (by decide +kernel) rfl ?_
                     refine wp_eqB (base':=3) (st':=⟨[(0,vB x90.1),(1,vI x90.2),(2,.ptr 2 0 0)],(o8_35 x15),13⟩) kr kr ?_
                     refine sq (wp_seq (reg_in (sz 4 4 (rwg [1,9] [] ?_))))
                     refine rb [9] h (fun q93 h=>?_) (fun q93 h=>?_)
                     ·refine sz 4 8 (reg_end rfl (wg [5] [] ?_))
                      refine wp_ret ?_
                      refine ⟨⟨(s8_67 x15 x90)++[(180,vB (x90.2==0))],(o8_35 x15),204⟩,by as_aux_lemma=>kernel_rfl,?_⟩
                      refine sz 2 54 ?_
                      refine rw_wk (wk_gc (live:=[3,182]) (keep:=[1]) (st':=⟨[(3,.ref 0 0 x15.2.length),(182,vB (x90.2==0))],[oR true 1 (AV.int .u64) x15.2],204⟩) kr) ?_
                      refine rb [182] h (fun q95 h=>?_) (fun q95 h=>?_)
                      ·refine inlR (f:=37) (fn:=Tryd.f37) (as0:=[vB false]) kr Tryd.func37 rfl (by decide +kernel) rfl ?_
                       refine wp_eqB (base':=1) (st':=⟨[(0,vB false)],[oR true 1 (AV.int .u64) x15.2],4⟩) kr kr ?_
                       refine sq (sq (wg [2] [1] ?_))
                       refine wp_ret ?_
                       refine ⟨⟨[(3,.ref 0 0 x15.2.length),(182,vB true),(183,.fn (.func 73) [] [.ptr 1 0 0])],[oR true 1 (AV.int .u64) x15.2,oX true true 1 (vB false)],204⟩,by as_aux_lemma=>kernel_rfl,?_⟩
                       refine sz 1 56 ?_
                       refine callR (as0:=[.ref 0 0 x15.2.length]) (ids:=[0]) kr bodyB_25 (msnap_cons (snap_full (w:=1) (bx:=false) (ro:=false) (enc:=(AV.int .u64)) (l:=x15.2) (fl:=true) kr) msnap_nil (by rfl)) (fun x96 q97=>g_order_Chordal_ok x15.2 x96 q97) gF h (fun x96 q97 h=>?_)
                       refine sz 2 59 ?_
                       refine inlR (f:=73) (fn:=Tryd.f73) (as0:=[vB x96.1,vI x96.2,.ptr 1 0 0]) kr Tryd.func73 rfl (by decide +kernel) rfl ?_
                       refine wp_eqB (base':=2) (st':=⟨[(0,vB x96.1),(1,vI x96.2),(2,.ptr 1 0 0)],[oR true 1 (AV.int .u64) x15.2,oX true true 1 (vB false)],13⟩) kr kr ?_
                       refine sq (wp_seq (reg_in (sz 4 4 (rwg [1,9] [] ?_))))
                       refine rb [9] h (fun q99 h=>?_) (fun q99 h=>?_)
                       ·refine sz 4 8 (reg_end rfl (wg [5] [] ?_))
                        refine wp_ret ?_
                        refine ⟨⟨(s8_68 x15 x96)++[(188,vB (x96.2==0))],[oR true 1 (AV.int .u64) x15.2,oX true true 1 (vB false)],204⟩,by as_aux_lemma=>kernel_rfl,?_⟩
                        refine sz 2 62 ?_
                        refine rw_wk (wk_gc (live:=[190]) (keep:=[]) (st':=⟨[(190,vB (x96.2==0))],[],204⟩) kr) ?_
                        refine rb [190] h (fun q101 h=>?_) (fun q101 h=>?_)
                        ·refine inlR (f:=37) (fn:=Tryd.f37) (as0:=[vB true]) kr Tryd.func37 rfl (by decide +kernel) rfl ?_
                         refine wp_eqB (base':=0) (st':=⟨[(0,vB true)],[],4⟩) kr kr ?_
                         refine sq (sq (wg [2] [0] ?_))
                         refine wp_ret ?_
                         refine ⟨⟨[(190,vB true),(191,.fn (.func 73) [] [.ptr 0 0 0])],[o8_29],204⟩,by as_aux_lemma=>kernel_rfl,?_⟩
                         refine sgL false [] [] true gE ?_
                         refine callR (as0:=[.ref 1 0 1]) (ids:=[1]) kr bodyB_25 (msnap_cons (show snap _ _ _=some (_,[1]) from kr) msnap_nil (by rfl)) (fun x102 q103=>g_order_Chordal_ok [0] x102 q103) gF h (fun x102 q103 h=>?_)
                         refine sz 2 67 ?_
                         refine inlR (f:=73) (fn:=Tryd.f73) (as0:=[vB x102.1,vI x102.2,.ptr 0 0 0]) kr Tryd.func73 rfl (by decide +kernel) rfl ?_
                         refine wp_eqB (base':=2) (st':=⟨[(0,vB x102.1),(1,vI x102.2),(2,.ptr 0 0 0)],[o8_29,.row false false true true 1 [.int .u64 0]],13⟩) kr kr ?_
                         refine sq (wp_seq (reg_in (sz 4 4 (rwg [1,9] [] ?_))))
                         refine rb [9] h (fun q105 h=>?_) (fun q105 h=>?_)
                         ·refine sz 4 8 (reg_end rfl (wg [5] [] ?_))
                          refine wp_ret ?_
                          refine ⟨⟨[(190,vB true),(191,.fn (.func 73) [] [.ptr 0 0 0]),(192,.ref 1 0 1),(193,.tup [vB x102.1,vI x102.2]),(194,vB x102.1),(195,vI x102.2),(196,vB (x102.2==0))],[o8_29,.row false false true true 1 [.int .u64 0]],204⟩,by as_aux_lemma=>kernel_rfl,?_⟩
                          refine sz 2 70 (reg_end rfl (wp_seq ?_))
                          refine wgc [19] [] ⟨[(19,vB (x102.2==0))],[],204⟩ ?_
                          refine reg_in (sz 1 1 ?_)
                          refine callW bodyB_11 (g_law08_works_ok ) h (fun x106 _ h=>?_)
                          refine sz 2 4 ?_
                          refine rb [199,200,201] h (fun q109 h=>?_) (fun q109 h=>?_)
                          ·refine sz 3 7 (reg_end rfl (wg [0] [] ?_))
                           cases h
                           exact wp_ret (show fnOut _ _ _ _=_ from by kernel_rfl)
                          refine sz 3 7 (reg_end rfl (wg [0] [] ?_))
                          cases h
                          exact wp_ret (show fnOut _ _ _ _=_ from by kernel_rfl)
                         refine sz 4 8 (reg_end rfl (wg [5] [] ?_))
                         refine wp_ret ?_
                         refine ⟨⟨[(190,vB true),(191,.fn (.func 73) [] [.ptr 0 0 0]),(192,.ref 1 0 1),(193,.tup [vB x102.1,vI x102.2]),(194,vB x102.1),(195,vI x102.2),(196,vB false)],[o8_29,.row false false true true 1 [.int .u64 0]],204⟩,by as_aux_lemma=>kernel_rfl,?_⟩
                         refine sz 2 70 (reg_end rfl (wp_seq ?_))
                         refine wgc [19] [] ⟨[(19,vB false)],[],204⟩ ?_
                         refine reg_in (sz 1 1 ?_)
                         refine callW bodyB_11 (g_law08_works_ok ) h (fun x110 _ h=>?_)
                         refine sz 2 4 ?_
                         refine rb [199,200,201] h (fun q113 h=>?_) (fun q113 h=>?_)
                         ·refine sz 3 7 (reg_end rfl (wg [0] [] ?_))
                          cases h
                          exact wp_ret (show fnOut _ _ _ _=_ from by kernel_rfl)
                         refine sz 3 7 (reg_end rfl (wg [0] [] ?_))
                         cases h
                         exact wp_ret (show fnOut _ _ _ _=_ from by kernel_rfl)
                        refine sz 8 70 (reg_end rfl (wp_seq (wg [19] [] (reg_in (sz 1 1 ?_)))))
                        refine callW bodyB_11 (g_law08_works_ok ) h (fun x114 _ h=>?_)
                        refine sz 2 4 ?_
                        refine rb [199,200,201] h (fun q117 h=>?_) (fun q117 h=>?_)
                        ·refine sz 3 7 (reg_end rfl ?_)
                         refine wgc [0] [] ⟨[(0,vB false)],[],204⟩ ?_
                         cases h
                         exact wp_ret (show fnOut _ _ _ _=_ from by kernel_rfl)
                        refine sz 3 7 (reg_end rfl ?_)
                        refine wgc [0] [] ⟨[(0,vB false)],[],204⟩ ?_
                        cases h
                        exact wp_ret (show fnOut _ _ _ _=_ from by kernel_rfl)
                       refine sz 4 8 (reg_end rfl (wg [5] [] ?_))
                       refine wp_ret ?_
                       refine ⟨⟨(s8_68 x15 x96)++[(188,vB false)],[oR true 1 (AV.int .u64) x15.2,oX true true 1 (vB false)],204⟩,by as_aux_lemma=>kernel_rfl,?_⟩
                       refine sz 10 70 (reg_end rfl (wp_seq ?_))
                       refine wgc [19] [] ⟨[(19,vB false)],[],204⟩ ?_
                       refine reg_in (sz 1 1 ?_)
                       refine callW bodyB_11 (g_law08_works_ok ) h (fun x118 _ h=>?_)
                       refine sz 2 4 ?_
                       refine rb [199,200,201] h (fun q121 h=>?_) (fun q121 h=>?_)
                       ·refine sz 3 7 (reg_end rfl (wg [0] [] ?_))
                        cases h
                        exact wp_ret (show fnOut _ _ _ _=_ from by kernel_rfl)
                       refine sz 3 7 (reg_end rfl (wg [0] [] ?_))
                       cases h
                       exact wp_ret (show fnOut _ _ _ _=_ from by kernel_rfl)
                      refine sz 16 70 (reg_end rfl (wp_seq ?_))
                      refine wgc [19] [] ⟨[(19,vB false)],[],204⟩ ?_
                      refine reg_in (sz 1 1 ?_)
                      refine callW bodyB_11 (g_law08_works_ok ) h (fun x122 _ h=>?_)
                      refine sz 2 4 ?_
                      refine rb [199,200,201] h (fun q125 h=>?_) (fun q125 h=>?_)
                      ·refine sz 3 7 (reg_end rfl (wg [0] [] ?_))
                       cases h
                       exact wp_ret (show fnOut _ _ _ _=_ from by kernel_rfl)
                      refine sz 3 7 (reg_end rfl (wg [0] [] ?_))
                      cases h
                      exact wp_ret (show fnOut _ _ _ _=_ from by kernel_rfl)
                     refine sz 4 8 (reg_end rfl (wg [5] [] ?_))
                     refine wp_ret ?_
                     refine ⟨⟨(s8_67 x15 x90)++[(180,vB false)],(o8_35 x15),204⟩,by as_aux_lemma=>kernel_rfl,?_⟩
                     refine sz 18 70 (reg_end rfl (wp_seq ?_))
                     refine wgc [19] [] ⟨[(19,vB false)],[],204⟩ ?_
                     refine reg_in (sz 1 1 ?_)
                     refine callW bodyB_11 (g_law08_works_ok ) h (fun x126 _ h=>?_)
                     refine sz 2 4 ?_
                     refine rb [199,200,201] h (fun q129 h=>?_) (fun q129 h=>?_)
                     ·refine sz 3 7 (reg_end rfl (wg [0] [] ?_))
                      cases h
                      exact wp_ret (show fnOut _ _ _ _=_ from by kernel_rfl)
                     refine sz 3 7 (reg_end rfl (wg [0] [] ?_))
                     cases h
                     exact wp_ret (show fnOut _ _ _ _=_ from by kernel_rfl)
                    refine sz 24 70 (reg_end rfl (wp_seq ?_))
                    refine wgc [19] [] ⟨[(19,vB false)],[],204⟩ ?_
                    refine reg_in (sz 1 1 ?_)
                    refine callW bodyB_11 (g_law08_works_ok ) h (fun x130 _ h=>?_)
                    refine sz 2 4 ?_
                    refine rb [199,200,201] h (fun q133 h=>?_) (fun q133 h=>?_)
                    ·refine sz 3 7 (reg_end rfl (wg [0] [] ?_))
                     cases h
                     exact wp_ret (show fnOut _ _ _ _=_ from by kernel_rfl)
                    refine sz 3 7 (reg_end rfl (wg [0] [] ?_))
                    cases h
                    exact wp_ret (show fnOut _ _ _ _=_ from by kernel_rfl)
                   refine sz 4 8 (reg_end rfl (wg [5] [] ?_))
                   refine wp_ret ?_
                   refine ⟨⟨(s8_65 x15 x84)++[(172,vB false)],(o8_34 x15),204⟩,by as_aux_lemma=>kernel_rfl,?_⟩
                   refine sgz 26 70 (S:=⟨(s8_65 x15 x84)++[(172,vB false),(173,vB false),(174,vB false),(175,.tup []),(176,.tup []),(177,.tup []),(178,.tup []),(179,.tup []),(180,.tup []),(181,vB false),(182,vB false),(183,.tup []),(184,.tup []),(185,.tup []),(186,.tup []),(187,.tup []),(188,.tup []),(189,vB false),(190,vB false),(191,.tup []),(192,.tup []),(193,.tup []),(194,.tup []),(195,.tup []),(196,.tup []),(197,vB false),(19,vB false)],(o8_34 x15),204⟩) ?_
                   refine reg_end rfl (wp_seq (wg [19] [] (reg_in (sz 1 1 ?_))))
                   refine callW bodyB_11 (g_law08_works_ok ) h (fun x134 _ h=>?_)
                   refine sz 2 4 ?_
                   refine rb [199,200,201] h (fun q137 h=>?_) (fun q137 h=>?_)
                   ·refine sz 3 7 (reg_end rfl (wg [0] [] ?_))
                    cases h
                    exact wp_ret (show fnOut _ _ _ _=_ from by kernel_rfl)
                   refine sz 3 7 (reg_end rfl (wg [0] [] ?_))
                   cases h
                   exact wp_ret (show fnOut _ _ _ _=_ from by kernel_rfl)
                  refine sz 32 70 (reg_end rfl (wp_seq ?_))
                  refine wgc [19] [] ⟨[(19,vB false)],[],204⟩ ?_
                  refine reg_in (sz 1 1 ?_)
                  refine callW bodyB_11 (g_law08_works_ok ) h (fun x138 _ h=>?_)
                  refine sz 2 4 ?_
                  refine rb [199,200,201] h (fun q141 h=>?_) (fun q141 h=>?_)
                  ·refine sz 3 7 (reg_end rfl (wg [0] [] ?_))
                   cases h
                   exact wp_ret (show fnOut _ _ _ _=_ from by kernel_rfl)
                  refine sz 3 7 (reg_end rfl (wg [0] [] ?_))
                  cases h
                  exact wp_ret (show fnOut _ _ _ _=_ from by kernel_rfl)
                 refine sz 4 8 (reg_end rfl (wg [5] [] ?_))
                 refine wp_ret ?_
                 refine ⟨⟨(s8_27 x15)++[(158,vB true),(159,.fn (.func 72) [] [.ptr 3 0 0]),(160,.ref 2 0 x15.2.length),(161,.tup [vI x78.1,vI x78.2]),(162,vI x78.1),(163,vI x78.2),(164,vB false)],(o8_33 x15),204⟩,by as_aux_lemma=>kernel_rfl,?_⟩
                 refine sgz 34 70 (S:=⟨(s8_27 x15)++[(158,vB true),(159,.fn (.func 72) [] [.ptr 3 0 0]),(160,.ref 2 0 x15.2.length),(161,.tup [vI x78.1,vI x78.2]),(162,vI x78.1),(163,vI x78.2),(164,vB false),(165,vB false),(166,vB false),(167,.tup []),(168,.tup []),(169,.tup []),(170,.tup []),(171,.tup []),(172,.tup []),(173,vB false),(174,vB false),(175,.tup []),(176,.tup []),(177,.tup []),(178,.tup []),(179,.tup []),(180,.tup []),(181,vB false),(182,vB false),(183,.tup []),(184,.tup []),(185,.tup []),(186,.tup []),(187,.tup []),(188,.tup []),(189,vB false),(190,vB false),(191,.tup []),(192,.tup []),(193,.tup []),(194,.tup []),(195,.tup []),(196,.tup []),(197,vB false),(19,vB false)],(o8_33 x15),204⟩) ?_
                 refine reg_end rfl (wp_seq (wg [19] [] (reg_in (sz 1 1 ?_))))
                 refine callW bodyB_11 (g_law08_works_ok ) h (fun x142 _ h=>?_)
                 refine sz 2 4 ?_
                 refine rb [199,200,201] h (fun q145 h=>?_) (fun q145 h=>?_)
                 ·refine sz 3 7 (reg_end rfl (wg [0] [] ?_))
                  cases h
                  exact wp_ret (show fnOut _ _ _ _=_ from by kernel_rfl)
                 refine sz 3 7 (reg_end rfl (wg [0] [] ?_))
                 cases h
                 exact wp_ret (show fnOut _ _ _ _=_ from by kernel_rfl)
                refine sgz 40 70 (S:=⟨(s8_27 x15)++[(158,vB false),(159,.tup []),(160,.tup []),(161,.tup []),(162,.tup []),(163,.tup []),(164,.tup []),(165,vB false),(166,vB false),(167,.tup []),(168,.tup []),(169,.tup []),(170,.tup []),(171,.tup []),(172,.tup []),(173,vB false),(174,vB false),(175,.tup []),(176,.tup []),(177,.tup []),(178,.tup []),(179,.tup []),(180,.tup []),(181,vB false),(182,vB false),(183,.tup []),(184,.tup []),(185,.tup []),(186,.tup []),(187,.tup []),(188,.tup []),(189,vB false),(190,vB false),(191,.tup []),(192,.tup []),(193,.tup []),(194,.tup []),(195,.tup []),(196,.tup []),(197,vB false),(19,vB false)],(o8_31 x15),204⟩) ?_
                refine reg_end rfl (wp_seq (wg [19] [] (reg_in (sz 1 1 ?_))))
                refine callW bodyB_11 (g_law08_works_ok ) h (fun x146 _ h=>?_)
                refine sz 2 4 ?_
                refine rb [199,200,201] h (fun q149 h=>?_) (fun q149 h=>?_)
                ·refine sz 3 7 (reg_end rfl (wg [0] [] ?_))
                 cases h
                 exact wp_ret (show fnOut _ _ _ _=_ from by kernel_rfl)
                refine sz 3 7 (reg_end rfl (wg [0] [] ?_))
                cases h
                exact wp_ret (show fnOut _ _ _ _=_ from by kernel_rfl)
               refine sz 4 8 (reg_end rfl (wg [5] [] ?_))
               refine wp_ret ?_
               refine ⟨⟨(s8_27 x15)++[(150,vB true),(151,.fn (.func 72) [] [.ptr 3 0 0]),(152,.ref 1 0 x15.1.length),(153,.tup [vI x72.1,vI x72.2]),(154,vI x72.1),(155,vI x72.2),(156,vB false)],(o8_32 x15),204⟩,by as_aux_lemma=>kernel_rfl,?_⟩
               refine sgz 42 70 (S:=⟨(s8_27 x15)++[(150,vB true),(151,.fn (.func 72) [] [.ptr 3 0 0]),(152,.ref 1 0 x15.1.length),(153,.tup [vI x72.1,vI x72.2]),(154,vI x72.1),(155,vI x72.2),(156,vB false),(157,vB false),(158,vB false),(159,.tup []),(160,.tup []),(161,.tup []),(162,.tup []),(163,.tup []),(164,.tup []),(165,vB false),(166,vB false),(167,.tup []),(168,.tup []),(169,.tup []),(170,.tup []),(171,.tup []),(172,.tup []),(173,vB false),(174,vB false),(175,.tup []),(176,.tup []),(177,.tup []),(178,.tup []),(179,.tup []),(180,.tup []),(181,vB false),(182,vB false),(183,.tup []),(184,.tup []),(185,.tup []),(186,.tup []),(187,.tup []),(188,.tup []),(189,vB false),(190,vB false),(191,.tup []),(192,.tup []),(193,.tup []),(194,.tup []),(195,.tup []),(196,.tup []),(197,vB false),(19,vB false)],(o8_32 x15),204⟩) ?_
               refine reg_end rfl (wp_seq (wg [19] [] (reg_in (sz 1 1 ?_))))
               refine callW bodyB_11 (g_law08_works_ok ) h (fun x150 _ h=>?_)
               refine sz 2 4 ?_
               refine rb [199,200,201] h (fun q153 h=>?_) (fun q153 h=>?_)
               ·refine sz 3 7 (reg_end rfl (wg [0] [] ?_))
                cases h
                exact wp_ret (show fnOut _ _ _ _=_ from by kernel_rfl)
               refine sz 3 7 (reg_end rfl (wg [0] [] ?_))
               cases h
               exact wp_ret (show fnOut _ _ _ _=_ from by kernel_rfl)
              refine sgz 48 70 (S:=⟨(s8_27 x15)++[(150,vB false),(151,.tup []),(152,.tup []),(153,.tup []),(154,.tup []),(155,.tup []),(156,.tup []),(157,vB false),(158,vB false),(159,.tup []),(160,.tup []),(161,.tup []),(162,.tup []),(163,.tup []),(164,.tup []),(165,vB false),(166,vB false),(167,.tup []),(168,.tup []),(169,.tup []),(170,.tup []),(171,.tup []),(172,.tup []),(173,vB false),(174,vB false),(175,.tup []),(176,.tup []),(177,.tup []),(178,.tup []),(179,.tup []),(180,.tup []),(181,vB false),(182,vB false),(183,.tup []),(184,.tup []),(185,.tup []),(186,.tup []),(187,.tup []),(188,.tup []),(189,vB false),(190,vB false),(191,.tup []),(192,.tup []),(193,.tup []),(194,.tup []),(195,.tup []),(196,.tup []),(197,vB false),(19,vB false)],(o8_31 x15),204⟩) ?_
              refine reg_end rfl (wp_seq (wg [19] [] (reg_in (sz 1 1 ?_))))
              refine callW bodyB_11 (g_law08_works_ok ) h (fun x154 _ h=>?_)
              refine sz 2 4 ?_
              refine rb [199,200,201] h (fun q157 h=>?_) (fun q157 h=>?_)
              ·refine sz 3 7 (reg_end rfl (wg [0] [] ?_))
               cases h
               exact wp_ret (show fnOut _ _ _ _=_ from by kernel_rfl)
              refine sz 3 7 (reg_end rfl (wg [0] [] ?_))
              cases h
              exact wp_ret (show fnOut _ _ _ _=_ from by kernel_rfl)
             refine sgz 53 70 (S:=⟨(s8_27 x15)++[(145,vB false),(146,.tup []),(147,.tup []),(148,.tup []),(149,vB false),(150,vB false),(151,.tup []),(152,.tup []),(153,.tup []),(154,.tup []),(155,.tup []),(156,.tup []),(157,vB false),(158,vB false),(159,.tup []),(160,.tup []),(161,.tup []),(162,.tup []),(163,.tup []),(164,.tup []),(165,vB false),(166,vB false),(167,.tup []),(168,.tup []),(169,.tup []),(170,.tup []),(171,.tup []),(172,.tup []),(173,vB false),(174,vB false),(175,.tup []),(176,.tup []),(177,.tup []),(178,.tup []),(179,.tup []),(180,.tup []),(181,vB false),(182,vB false),(183,.tup []),(184,.tup []),(185,.tup []),(186,.tup []),(187,.tup []),(188,.tup []),(189,vB false),(190,vB false),(191,.tup []),(192,.tup []),(193,.tup []),(194,.tup []),(195,.tup []),(196,.tup []),(197,vB false),(19,vB false)],(o8_31 x15),204⟩) ?_
             refine reg_end rfl (wp_seq (wg [19] [] (reg_in (sz 1 1 ?_))))
             refine callW bodyB_11 (g_law08_works_ok ) h (fun x158 _ h=>?_)
             refine sz 2 4 ?_
             refine rb [199,200,201] h (fun q161 h=>?_) (fun q161 h=>?_)
             ·refine sz 3 7 (reg_end rfl (wg [0] [] ?_))
              cases h
              exact wp_ret (show fnOut _ _ _ _=_ from by kernel_rfl)
             refine sz 3 7 (reg_end rfl (wg [0] [] ?_))
             cases h
             exact wp_ret (show fnOut _ _ _ _=_ from by kernel_rfl)
            refine sgz 58 70 (S:=⟨(s8_27 x15)++[(5,.ref 3 0 10),(140,vB false),(141,.tup []),(142,.tup []),(143,.tup []),(144,vB false),(145,vB false),(146,.tup []),(147,.tup []),(148,.tup []),(149,vB false),(150,vB false),(151,.tup []),(152,.tup []),(153,.tup []),(154,.tup []),(155,.tup []),(156,.tup []),(157,vB false),(158,vB false),(159,.tup []),(160,.tup []),(161,.tup []),(162,.tup []),(163,.tup []),(164,.tup []),(165,vB false),(166,vB false),(167,.tup []),(168,.tup []),(169,.tup []),(170,.tup []),(171,.tup []),(172,.tup []),(173,vB false),(174,vB false),(175,.tup []),(176,.tup []),(177,.tup []),(178,.tup []),(179,.tup []),(180,.tup []),(181,vB false),(182,vB false),(183,.tup []),(184,.tup []),(185,.tup []),(186,.tup []),(187,.tup []),(188,.tup []),(189,vB false),(190,vB false),(191,.tup []),(192,.tup []),(193,.tup []),(194,.tup []),(195,.tup []),(196,.tup []),(197,vB false),(19,vB false)],(o8_30 x15),204⟩) ?_
            refine reg_end rfl (wp_seq (wg [19] [] (reg_in (sz 1 1 ?_))))
            refine callW bodyB_11 (g_law08_works_ok ) h (fun x162 _ h=>?_)
            refine sz 2 4 ?_
            refine rb [199,200,201] h (fun q165 h=>?_) (fun q165 h=>?_)
            ·refine sz 3 7 (reg_end rfl (wg [0] [] ?_))
             cases h
             exact wp_ret (show fnOut _ _ _ _=_ from by kernel_rfl)
            refine sz 3 7 (reg_end rfl (wg [0] [] ?_))
            cases h
            exact wp_ret (show fnOut _ _ _ _=_ from by kernel_rfl)
           refine sgz 63 70 (S:=⟨(s8_27 x15)++[(5,.ref 3 0 10),(135,vB false),(136,.tup []),(137,.tup []),(138,.tup []),(139,vB false),(140,vB false),(141,.tup []),(142,.tup []),(143,.tup []),(144,vB false),(145,vB false),(146,.tup []),(147,.tup []),(148,.tup []),(149,vB false),(150,vB false),(151,.tup []),(152,.tup []),(153,.tup []),(154,.tup []),(155,.tup []),(156,.tup []),(157,vB false),(158,vB false),(159,.tup []),(160,.tup []),(161,.tup []),(162,.tup []),(163,.tup []),(164,.tup []),(165,vB false),(166,vB false),(167,.tup []),(168,.tup []),(169,.tup []),(170,.tup []),(171,.tup []),(172,.tup []),(173,vB false),(174,vB false),(175,.tup []),(176,.tup []),(177,.tup []),(178,.tup []),(179,.tup []),(180,.tup []),(181,vB false),(182,vB false),(183,.tup []),(184,.tup []),(185,.tup []),(186,.tup []),(187,.tup []),(188,.tup []),(189,vB false),(190,vB false),(191,.tup []),(192,.tup []),(193,.tup []),(194,.tup []),(195,.tup []),(196,.tup []),(197,vB false),(19,vB false)],(o8_30 x15),204⟩) ?_
           refine reg_end rfl (wp_seq (wg [19] [] (reg_in (sz 1 1 ?_))))
           refine callW bodyB_11 (g_law08_works_ok ) h (fun x166 _ h=>?_)
           refine sz 2 4 ?_
           refine rb [199,200,201] h (fun q169 h=>?_) (fun q169 h=>?_)
           ·refine sz 3 7 (reg_end rfl (wg [0] [] ?_))
            cases h
            exact wp_ret (show fnOut _ _ _ _=_ from by kernel_rfl)
           refine sz 3 7 (reg_end rfl (wg [0] [] ?_))
           cases h
           exact wp_ret (show fnOut _ _ _ _=_ from by kernel_rfl)
          refine sgz 68 70 (S:=⟨(s8_27 x15)++[(5,.ref 3 0 10),(19,vB false),(129,vB false),(130,vB false),(131,.tup []),(132,.tup []),(133,.tup []),(134,vB false),(135,vB false),(136,.tup []),(137,.tup []),(138,.tup []),(139,vB false),(140,vB false),(141,.tup []),(142,.tup []),(143,.tup []),(144,vB false),(145,vB false),(146,.tup []),(147,.tup []),(148,.tup []),(149,vB false),(150,vB false),(151,.tup []),(152,.tup []),(153,.tup []),(154,.tup []),(155,.tup []),(156,.tup []),(157,vB false),(158,vB false),(159,.tup []),(160,.tup []),(161,.tup []),(162,.tup []),(163,.tup []),(164,.tup []),(165,vB false),(166,vB false),(167,.tup []),(168,.tup []),(169,.tup []),(170,.tup []),(171,.tup []),(172,.tup []),(173,vB false),(174,vB false),(175,.tup []),(176,.tup []),(177,.tup []),(178,.tup []),(179,.tup []),(180,.tup []),(181,vB false),(182,vB false),(183,.tup []),(184,.tup []),(185,.tup []),(186,.tup []),(187,.tup []),(188,.tup []),(189,vB false),(190,vB false),(191,.tup []),(192,.tup []),(193,.tup []),(194,.tup []),(195,.tup []),(196,.tup []),(197,vB false)],(o8_30 x15),204⟩) ?_
          refine reg_end rfl (wp_seq (wg [19] [] (reg_in (sz 1 1 ?_))))
          refine callW bodyB_11 (g_law08_works_ok ) h (fun x170 _ h=>?_)
          refine sz 2 4 ?_
          refine rb [199,200,201] h (fun q173 h=>?_) (fun q173 h=>?_)
          ·refine sz 3 7 (reg_end rfl (wg [0] [] ?_))
           cases h
           exact wp_ret (show fnOut _ _ _ _=_ from by kernel_rfl)
          refine sz 3 7 (reg_end rfl (wg [0] [] ?_))
          cases h
          exact wp_ret (show fnOut _ _ _ _=_ from by kernel_rfl)
         refine sz 5 43 (reg_end rfl (wp_seq (wg [1,2,3,5,19] [0,1,2,3] (rn (wp_seq ?_)))))
         refine wgc [19] [] ⟨[(19,vB false)],[],204⟩ ?_
         refine reg_in (sz 1 1 ?_)
         refine callW bodyB_11 (g_law08_works_ok ) h (fun x174 _ h=>?_)
         refine sz 2 4 ?_
         refine rb [199,200,201] h (fun q177 h=>?_) (fun q177 h=>?_)
         ·refine sz 3 7 (reg_end rfl (wg [0] [] ?_))
          cases h
          exact wp_ret (show fnOut _ _ _ _=_ from by kernel_rfl)
         refine sz 3 7 (reg_end rfl (wg [0] [] ?_))
         cases h
         exact wp_ret (show fnOut _ _ _ _=_ from by kernel_rfl)
        refine sz 10 43 (reg_end rfl (wp_seq (wg [1,2,3,5,19] [0,1,2,3] (rn (wp_seq ?_)))))
        refine wgc [19] [] ⟨[(19,vB false)],[],204⟩ ?_
        refine reg_in (sz 1 1 ?_)
        refine callW bodyB_11 (g_law08_works_ok ) h (fun x178 _ h=>?_)
        refine sz 2 4 ?_
        refine rb [199,200,201] h (fun q181 h=>?_) (fun q181 h=>?_)
        ·refine sz 3 7 (reg_end rfl (wg [0] [] ?_))
         cases h
         exact wp_ret (show fnOut _ _ _ _=_ from by kernel_rfl)
        refine sz 3 7 (reg_end rfl (wg [0] [] ?_))
        cases h
        exact wp_ret (show fnOut _ _ _ _=_ from by kernel_rfl)
       refine sz 15 43 (reg_end rfl (wp_seq ?_))
       refine wgc [1,2,3,5,19] [0,1,2,3] ⟨(s8_87 x15),(o8_30 x15),204⟩ ?_
       refine rn (wp_seq (wg [19] [] (reg_in (sz 1 1 ?_))))
       refine callW bodyB_11 (g_law08_works_ok ) h (fun x182 _ h=>?_)
       refine sz 2 4 ?_
       refine rb [199,200,201] h (fun q185 h=>?_) (fun q185 h=>?_)
       ·refine sz 3 7 (reg_end rfl (wg [0] [] ?_))
        cases h
        exact wp_ret (show fnOut _ _ _ _=_ from by kernel_rfl)
       refine sz 3 7 (reg_end rfl (wg [0] [] ?_))
       cases h
       exact wp_ret (show fnOut _ _ _ _=_ from by kernel_rfl)
      refine sz 20 43 (reg_end rfl (wp_seq ?_))
      refine wgc [1,2,3,5,19] [0,1,2,3] ⟨(s8_87 x15),(o8_30 x15),204⟩ ?_
      refine rn (wp_seq (wg [19] [] (reg_in (sz 1 1 ?_))))
      refine callW bodyB_11 (g_law08_works_ok ) h (fun x186 _ h=>?_)
      refine sz 2 4 ?_
      refine rb [199,200,201] h (fun q189 h=>?_) (fun q189 h=>?_)
      ·refine sz 3 7 (reg_end rfl (wg [0] [] ?_))
       cases h
       exact wp_ret (show fnOut _ _ _ _=_ from by kernel_rfl)
      refine sz 3 7 (reg_end rfl (wg [0] [] ?_))
      cases h
      exact wp_ret (show fnOut _ _ _ _=_ from by kernel_rfl)
     refine sz 24 43 (reg_end rfl (wp_seq ?_))
     refine wgc [1,2,3,5,19] [0,1,2,3] ⟨(s8_87 x15),(o8_30 x15),204⟩ ?_
     refine rn (wp_seq (wg [19] [] (reg_in (sz 1 1 ?_))))
     refine callW bodyB_11 (g_law08_works_ok ) h (fun x190 _ h=>?_)
     refine sz 2 4 ?_
     refine rb [199,200,201] h (fun q193 h=>?_) (fun q193 h=>?_)
     ·refine sz 3 7 (reg_end rfl (wg [0] [] ?_))
      cases h
      exact wp_ret (show fnOut _ _ _ _=_ from by kernel_rfl)
     refine sz 3 7 (reg_end rfl (wg [0] [] ?_))
     cases h
     exact wp_ret (show fnOut _ _ _ _=_ from by kernel_rfl)
    refine sz 28 43 (reg_end rfl (wp_seq ?_))
    refine wgc [1,2,3,5,19] [0,1,2,3] ⟨(s8_87 x15),(o8_30 x15),204⟩ ?_
    refine rn (wp_seq (wg [19] [] (reg_in (sz 1 1 ?_))))
    refine callW bodyB_11 (g_law08_works_ok ) h (fun x194 _ h=>?_)
    refine sz 2 4 ?_
    refine rb [199,200,201] h (fun q197 h=>?_) (fun q197 h=>?_)
    ·refine sz 3 7 (reg_end rfl (wg [0] [] ?_))
     cases h
     exact wp_ret (show fnOut _ _ _ _=_ from by kernel_rfl)
    refine sz 3 7 (reg_end rfl (wg [0] [] ?_))
    cases h
    exact wp_ret (show fnOut _ _ _ _=_ from by kernel_rfl)
   refine sgz 32 43 (S:=⟨(s8_27 x15)++[(5,.ref 3 0 10),(14,vI x24.2.2),(16,vI x26.2),(17,.ref 4 0 x28.1.length),(18,vI x28.2),(97,vB false),(98,.tup []),(99,.tup []),(100,vB false),(101,vB false),(102,.tup []),(103,.tup []),(104,vB false),(105,vB false),(106,.tup []),(107,.tup []),(108,vB false),(109,vB false),(110,.tup []),(111,.tup []),(112,.tup []),(113,vB false),(114,vB false),(115,.tup []),(116,.tup []),(117,.tup []),(118,vB false),(119,vB false),(120,.tup []),(121,.tup []),(122,.tup []),(123,vB false),(124,vB false),(125,.tup []),(126,.tup []),(127,.tup []),(128,vB false),(19,vB false)],[oR true 1 (AV.int .u64) (List.replicate (zt 10) (0:Int)),oR true 1 (AV.int .u64) x15.1,oR true 1 (AV.int .u64) x15.2,.row false false true true 1 [vI 0,vI 1,vI 2,vI 3,vI 4,vI 5,vI 6,vI 7,vI 8,vI 9],oR true 2 (fun x:(Int × Int)=>AV.agg [vI x.1,vI x.2]) x28.1],204⟩) ?_
   refine reg_end rfl (wp_seq (wg [1,2,3,5,19] [0,1,2,3] (rn (wp_seq (wg [19] [] (reg_in (sz 1 1 ?_)))))))
   refine callW bodyB_11 (g_law08_works_ok ) h (fun x198 _ h=>?_)
   refine sz 2 4 ?_
   refine rb [199,200,201] h (fun q201 h=>?_) (fun q201 h=>?_)
   ·refine sz 3 7 (reg_end rfl ?_)
    refine wgc [0] [] ⟨[(0,vB false)],[],204⟩ ?_
    cases h
    exact wp_ret (show fnOut _ _ _ _=_ from by kernel_rfl)
   refine sz 3 7 (reg_end rfl ?_)
   refine wgc [0] [] ⟨[(0,vB false)],[],204⟩ ?_
   cases h
   exact wp_ret (show fnOut _ _ _ _=_ from by kernel_rfl)
  refine sgz 36 43 (S:=⟨(s8_27 x15)++[(5,.ref 3 0 10),(11,vI x22.2),(14,vI x24.2.2),(16,vI x26.2),(17,.ref 4 0 x28.1.length),(18,vI x28.2),(93,vB false),(94,.tup []),(95,.tup []),(96,vB false),(97,vB false),(98,.tup []),(99,.tup []),(100,vB false),(101,vB false),(102,.tup []),(103,.tup []),(104,vB false),(105,vB false),(106,.tup []),(107,.tup []),(108,vB false),(109,vB false),(110,.tup []),(111,.tup []),(112,.tup []),(113,vB false),(114,vB false),(115,.tup []),(116,.tup []),(117,.tup []),(118,vB false),(119,vB false),(120,.tup []),(121,.tup []),(122,.tup []),(123,vB false),(124,vB false),(125,.tup []),(126,.tup []),(127,.tup []),(128,vB false),(19,vB false)],[oR true 1 (AV.int .u64) (List.replicate (zt 10) (0:Int)),oR true 1 (AV.int .u64) x15.1,oR true 1 (AV.int .u64) x15.2,.row false false true true 1 [vI 0,vI 1,vI 2,vI 3,vI 4,vI 5,vI 6,vI 7,vI 8,vI 9],oR true 2 (fun x:(Int × Int)=>AV.agg [vI x.1,vI x.2]) x28.1],204⟩) ?_
  refine reg_end rfl (wp_seq (wg [1,2,3,5,19] [0,1,2,3] (rn (wp_seq (wg [19] [] (reg_in (sz 1 1 ?_)))))))
  refine callW bodyB_11 (g_law08_works_ok ) h (fun x202 _ h=>?_)
  refine sz 2 4 ?_
  refine rb [199,200,201] h (fun q205 h=>?_) (fun q205 h=>?_)
  ·refine sz 3 7 (reg_end rfl ?_)
   refine wgc [0] [] ⟨[(0,vB false)],[],204⟩ ?_
   cases h
   exact wp_ret (show fnOut _ _ _ _=_ from by kernel_rfl)
  refine sz 3 7 (reg_end rfl ?_)
  refine wgc [0] [] ⟨[(0,vB false)],[],204⟩ ?_
  cases h
  exact wp_ret (show fnOut _ _ _ _=_ from by kernel_rfl)
 refine sgz 40 43 (S:=⟨[(1,.ref 0 0 ((List.replicate (zt 10) (0:Int)).length)),(2,.ref 1 0 x15.1.length),(3,.ref 2 0 x15.2.length),(5,.ref 3 0 10),(7,vI x16.2),(9,vI x18.2),(11,vI x22.2),(14,vI x24.2.2),(16,vI x26.2),(17,.ref 4 0 x28.1.length),(18,vI x28.2)]++[(87,vI x16.2),(88,vB false),(89,vB false),(90,.tup []),(91,.tup []),(92,vB false),(93,vB false),(94,.tup []),(95,.tup []),(96,vB false),(97,vB false),(98,.tup []),(99,.tup []),(100,vB false),(101,vB false),(102,.tup []),(103,.tup []),(104,vB false),(105,vB false),(106,.tup []),(107,.tup []),(108,vB false),(109,vB false),(110,.tup []),(111,.tup []),(112,.tup []),(113,vB false),(114,vB false),(115,.tup []),(116,.tup []),(117,.tup []),(118,vB false),(119,vB false),(120,.tup []),(121,.tup []),(122,.tup []),(123,vB false),(124,vB false),(125,.tup []),(126,.tup []),(127,.tup []),(128,vB false),(19,vB false)],[oR true 1 (AV.int .u64) (List.replicate (zt 10) (0:Int)),oR true 1 (AV.int .u64) x15.1,oR true 1 (AV.int .u64) x15.2,.row false false true true 1 [vI 0,vI 1,vI 2,vI 3,vI 4,vI 5,vI 6,vI 7,vI 8,vI 9],oR true 2 (fun x:(Int × Int)=>AV.agg [vI x.1,vI x.2]) x28.1],204⟩) ?_
 refine reg_end rfl (wp_seq (wg [1,2,3,5,19] [0,1,2,3] (rn (wp_seq (wg [19] [] (reg_in (sz 1 1 ?_)))))))
 refine callW bodyB_11 (g_law08_works_ok ) h (fun x206 _ h=>?_)
 refine sz 2 4 ?_
 refine rb [199,200,201] h (fun q209 h=>?_) (fun q209 h=>?_)
 ·refine sz 3 7 (reg_end rfl ?_)
  refine wgc [0] [] ⟨[(0,vB false)],[],204⟩ ?_
  cases h
  exact wp_ret (show fnOut _ _ _ _=_ from by kernel_rfl)
 refine sz 3 7 (reg_end rfl ?_)
 refine wgc [0] [] ⟨[(0,vB false)],[],204⟩ ?_
 cases h
 exact wp_ret (show fnOut _ _ _ _=_ from by kernel_rfl)
end Go.Ab
namespace Go.Ab
open Go
theorem whileN_spec {σ ρ:Type} {body:σ→Option (Step σ ρ)} (I:σ→Prop) (m:σ→Nat) (Q:ρ→Prop)
  (step:∀s,I s→(∃s',body s=some (.next s')∧I s'∧m s' < m s)∨(∃r,body s=some (.done r)∧Q r)) :
  ∀(n:Nat) (s:σ),I s→m s < n→∃r,whileN n body s=some r∧Q r
 | 0,s,_,h=>by omega
 | n+1,s,hI,h=>by
  unfold whileN
  rcases step s hI with ⟨s',h1,h2,h3⟩ | ⟨r,h1,h2⟩
  ·rw [h1]
   exact whileN_spec I m Q step n s' h2 (by omega)
  ·rw [h1]
   exact ⟨r,rfl,h2⟩
theorem whileN_eq {σ ρ:Type} {body:σ→Option (Step σ ρ)} (I:σ→Prop) (m:σ→Nat) (r:ρ)
  (step:∀s,I s→(∃s',body s=some (.next s')∧I s'∧m s' < m s)∨body s=some (.done r)) (s:σ) (hI:I s) (hm:m s < 1152921504606846976):whileN fuel body s=some r:=by
 obtain ⟨r',h1,h2⟩:=whileN_spec I m (fun x=>x=r) (fun s hs=>(step s hs).imp id fun h=>⟨r,h,rfl⟩) fuel s hI hm
 rw [h1,h2]
theorem whileN_ex {σ ρ:Type} {body:σ→Option (Step σ ρ)} (I:σ→Prop) (m:σ→Nat) (Q:ρ→Prop)
  (step:∀s,I s→(∃s',body s=some (.next s')∧I s'∧m s' < m s)∨(∃r,body s=some (.done r)∧Q r)) (s:σ) (hI:I s) (hm:m s < 1152921504606846976):∃r,whileN fuel body s=some r∧Q r :=
 whileN_spec I m Q step fuel s hI hm
end Go.Ab
namespace Go.Ab
open Go
set_option maxRecDepth 100000
set_option maxHeartbeats 400000
def pc10 (S:Nat):Nat := (S.testBit 0).toNat + (S.testBit 1).toNat + (S.testBit 2).toNat + (S.testBit 3).toNat + (S.testBit 4).toNat + (S.testBit 5).toNat + (S.testBit 6).toNat + (S.testBit 7).toNat + (S.testBit 8).toNat + (S.testBit 9).toNat
def tz10 (S:Nat):Nat := if S.testBit 0 then 0 else if S.testBit 1 then 1 else if S.testBit 2 then 2 else if S.testBit 3 then 3 else if S.testBit 4 then 4 else if S.testBit 5 then 5 else if S.testBit 6 then 6 else if S.testBit 7 then 7 else if S.testBit 8 then 8 else 9
def isS (x:Option Int) (y:Int):Bool:=match x with | some z=>z==y | none=>false
theorem isS_eq {x:Option Int} {y:Int} (h:isS x y=true):x=some y:=by
 cases x with
 | none=>cases h
 | some z=>simp only [isS,beq_iff_eq] at h; rw [h]
theorem all_at {p:Nat → Bool} {n:Nat} (h:(List.range n).all p=true) {k:Nat} (hk:k < n):p k=true:=List.all_eq_true.1 h k (List.mem_range.2 hk)
theorem T_tz:((List.range 1024).all fun R=>Nat.beq R 0 || (isS (g_math_bits_TrailingZeros (R:Int)) (tz10 R:Int) && (R.testBit (tz10 R) && (Nat.blt (tz10 R) 10 && Nat.ble (2^tz10 R) R))))=true:=by kernel_rfl
theorem T_rest:((List.range 1024).all fun R=>Nat.beq R 0 || (IntKind.u64.wrap (BitVec.ofInt (IntKind.bits .u64) (R:Int) &&& BitVec.ofInt (IntKind.bits .u64) (IntKind.u64.wrap ((R:Int) - 1))).toNat == ((R - 2^tz10 R:Nat):Int)))=true:=by kernel_rfl
theorem T_sub:((List.range 1024).all fun R=>(List.range 10).all fun u=>Nat.beq R 0 || (!(R - 2^tz10 R).testBit u || R.testBit u))=true:=by kernel_rfl
theorem T_gone:((List.range 1024).all fun S=>IntKind.u64.wrap (BitVec.ofInt (IntKind.bits .u64) (IntKind.u64.wrap ((IntKind.u64.wrap (1*2^min (Int.toNat ((10:Nat):Int)) (IntKind.bits .u64))) - 1)) &&& ~~~ BitVec.ofInt (IntKind.bits .u64) (S:Int)).toNat == ((1023 - S:Nat):Int))=true:=by kernel_rfl
theorem T_del:((List.range 10).all fun v=>(List.range 1024).all fun S=>!S.testBit v || ((IntKind.u64.wrap (BitVec.ofInt (IntKind.bits .u64) (S:Int) &&& ~~~ BitVec.ofInt (IntKind.bits .u64) (IntKind.u64.wrap (1*2^min (Int.toNat (v:Int)) (IntKind.bits .u64)))).toNat == ((S - 2^v:Nat):Int)) && (Nat.beq (pc10 (S - 2^v)+1) (pc10 S) && Nat.blt (S - 2^v) S)))=true:=by kernel_rfl
def lateOk (g:List Int) (L:Nat → Int):Bool:=(List.range 10).all fun v=>(List.range 1024).all fun S=>!S.testBit v || isS (g_order_late g (v:Int) ((1023 - S:Nat):Int)) (L (pc10 S))
theorem mget_mput (k:Int) (w:Int):∀(l:List (Int × Int)) (n:Int),mget (mput l k w) n=if n==k then some w else mget l n
 | [],n=>by simp only [mput,mget]
 | p::r,n=>by
  unfold mput
  by_cases h:(k==p.1)=true
  ·rw [if_pos h]
   have e:k=p.1:=by simpa using h
   simp only [mget]
   by_cases h2:(n==k)=true
   ·simp [h2]
   ·have h3:(n==p.1)=false:=by rw [←e]; simpa using h2
    simp [h2,h3]
  ·rw [if_neg h]
   simp only [mget,mget_mput k w r n]
   by_cases h2:(n==p.1)=true
   ·have e2:n=p.1:=by simpa using h2
    have h3:(n==k)=false:=by
     rw [Bool.eq_false_iff]; intro h4
     have:n=k:=by simpa using h4
     exact h (by rw [←this,e2]; simp)
    simp [h2,h3]
   ·simp [h2]
section
variable {g:List Int} {L:Nat → Int}
def Vm (L:Nat → Int) (m:List (Int × Int)):Prop:=(∀n w,mget m n=some w→∃S:Nat,S < 1024∧n=(S:Int)∧w=L (pc10 S))∧mget m 0=some 0
theorem vm_put {m:List (Int × Int)} (h:Vm L m) (h0:L 0=0) {S:Nat} (hS:S < 1024) (h1:S≠0):Vm L (mput m (S:Int) (L (pc10 S))):=by
 refine ⟨fun n w hw=>?_,?_⟩
 ·rw [mget_mput] at hw
  split at hw
  ·rename_i e
   cases hw
   exact ⟨S,hS,by simpa using e,rfl⟩
  ·exact h.1 n w hw
 ·rw [mget_mput,if_neg (by simp; omega)]
  exact h.2
structure Lev (g:List Int) (L:Nat → Int):Prop where
 len:g.length=10
 zero:L 0=0
 mono:∀k,k < 10→L k≤L (k+1)
 le:∀k,k≤10→L k≤10
 top:∀k,k≤10→L k≤L 10
 late:lateOk g L=true
theorem pc_le (S:Nat):pc10 S≤10:=by
 unfold pc10
 have q:∀b:Bool,b.toNat ≤ 1:=fun b=>by cases b <;> decide
 have:=q (S.testBit 0); have:=q (S.testBit 1); have:=q (S.testBit 2); have:=q (S.testBit 3); have:=q (S.testBit 4)
 have:=q (S.testBit 5); have:=q (S.testBit 6); have:=q (S.testBit 7); have:=q (S.testBit 8); have:=q (S.testBit 9)
 omega
theorem member {R:Nat} (hR:R < 1024) (h0:R≠0):g_math_bits_TrailingZeros (R:Int)=some (tz10 R:Int)∧R.testBit (tz10 R)=true∧tz10 R < 10∧2^tz10 R≤R ∧
  IntKind.u64.wrap (BitVec.ofInt (IntKind.bits .u64) (R:Int) &&& BitVec.ofInt (IntKind.bits .u64) (IntKind.u64.wrap ((R:Int) - 1))).toNat = ((R - 2^tz10 R:Nat):Int)∧∀u,u < 10→(R - 2^tz10 R).testBit u=true→R.testBit u=true:=by
 have e0:Nat.beq R 0=false:=by cases R with | zero=>exact absurd rfl h0 | succ n=>rfl
 have h1:=all_at T_tz hR
 have h2:=all_at T_rest hR
 have h3:=all_at T_sub hR
 simp only [e0,Bool.false_or,Bool.and_eq_true] at h1 h2 h3
 obtain ⟨a,b,c,d⟩:=h1
 refine ⟨isS_eq a,b,Nat.le_of_ble_eq_true c,Nat.le_of_ble_eq_true d,by simpa using h2,fun u hu hb=>?_⟩
 have:=all_at h3 hu
 simp only [Bool.or_eq_true,Bool.not_eq_true'] at this
 rcases this with h | h
 ·rw [hb] at h; cases h
 ·exact h
theorem gone {S:Nat} (hS:S < 1024):IntKind.u64.wrap (BitVec.ofInt (IntKind.bits .u64) (IntKind.u64.wrap ((IntKind.u64.wrap (1*2^min (Int.toNat ((10:Nat):Int)) (IntKind.bits .u64))) - 1)) &&& ~~~ BitVec.ofInt (IntKind.bits .u64) (S:Int)).toNat = ((1023 - S:Nat):Int):=by
 have:=all_at T_gone hS
 simpa using this
theorem del {S v:Nat} (hS:S < 1024) (hv:v < 10) (hb:S.testBit v=true):IntKind.u64.wrap (BitVec.ofInt (IntKind.bits .u64) (S:Int) &&& ~~~ BitVec.ofInt (IntKind.bits .u64) (IntKind.u64.wrap (1*2^min (Int.toNat (v:Int)) (IntKind.bits .u64)))).toNat = ((S - 2^v:Nat):Int)∧pc10 (S - 2^v)+1=pc10 S∧S - 2^v < S:=by
 have:=all_at (all_at T_del hv) hS
 simp only [hb,Bool.not_true,Bool.false_or,Bool.and_eq_true] at this
 obtain ⟨a,b,c⟩:=this
 exact ⟨by simpa using a,Nat.eq_of_beq_eq_true b,Nat.le_of_ble_eq_true c⟩
theorem lateV (h:Lev g L) {S v:Nat} (hS:S < 1024) (hv:v < 10) (hb:S.testBit v=true):g_order_late g (v:Int) ((1023 - S:Nat):Int)=some (L (pc10 S)):=by
 have:=all_at (all_at h.late hv) hS
 simp only [hb,Bool.not_true,Bool.false_or] at this
 exact isS_eq this
theorem narrow_step (h:Lev g L) (d:Int × List (Int × Int)→Option (Int × List (Int × Int))) (S:Nat) (hS:S < 1024) (m:List (Int × Int)) (hV:Vm L m)
  (IH:∀(S':Nat) (m':List (Int × Int)),S' < S→Vm L m'→∃x,d ((S':Int),m')=some x∧x.1=L (pc10 S')∧Vm L x.2) :
  ∃x,g_order_Best_r1 g d ((S:Int),m)=some x∧x.1=L (pc10 S)∧Vm L x.2:=by
 unfold g_order_Best_r1
 dsimp only
 cases hm:mget m (S:Int) with
 | some w =>
  rw [if_pos (by rfl)]
  obtain ⟨S',h1,h2,h3⟩:=hV.1 _ _ hm
  have:S=S':=by omega
  subst this
  exact ⟨_,rfl,by simpa using h3,hV⟩
 | none =>
  rw [if_neg (by simp)]
  have hS0:S≠0:=fun e=>by subst e; rw [show ((0:Nat):Int)=0 from rfl,hV.2] at hm; cases hm
  have hpc1:pc10 S≤10:=pc_le S
  obtain ⟨x,h1,h2⟩:=whileN_ex (body:=g_order_Best_b0 g ((S:Int),m) d)
   (fun t=>∃R:Nat,R < 1024∧t.1=(R:Int)∧(∀u,u < 10→R.testBit u=true→S.testBit u=true)∧Vm L t.2.1∧((R=S∧t.2.2=10)∨t.2.2=L (pc10 S)))
   (fun t=>t.1.toNat) (fun r=>Vm L r.1∧r.2=L (pc10 S)) (fun t ht=>by
    obtain ⟨R,hR,e,hsub,hV',hw⟩:=ht
    obtain ⟨t1,m',w⟩:=t
    simp only at e hV' hw
    subst e
    unfold g_order_Best_b0
    dsimp only
    by_cases hR0:R=0
    ·subst hR0
     right
     refine ⟨(m',w),by simp,hV',?_⟩
     rcases hw with ⟨e,_⟩ | e
     ·exact absurd e.symm hS0
     ·exact e
    ·left
     have hc:((R:Int) != 0)=true:=by simp; omega
     rw [if_pos hc]
     obtain ⟨a1,a2,a3,a4,a5,a6⟩:=member hR hR0
     have hbS:=hsub _ a3 a2
     obtain ⟨b1,b2,b3⟩:=del hS a3 hbS
     obtain ⟨y,c1,c2,c3⟩:=IH (S - 2^tz10 R) m' b3 hV'
     have hLe:L (pc10 (S - 2^tz10 R))≤L (pc10 S):=by
      have:=h.mono (pc10 (S - 2^tz10 R)) (by omega)
      rwa [b2] at this
     have hL10:=h.le (pc10 S) hpc1
     refine ⟨(((R - 2^tz10 R:Nat):Int),y.2,L (pc10 S)),?_,⟨R - 2^tz10 R,by omega,rfl,fun u hu hb=>hsub u hu (a6 u hu hb),c3,.inr rfl⟩,?_⟩
     ·have hpos:(0:Int)≤(tz10 R:Int):=Int.natCast_nonneg _
      have hgt:¬ (L (pc10 (S - 2^tz10 R)) > L (pc10 S)):=by omega
      simp only [a1,Option.bind_some,h.len,gone hS,lateV h hS a3 hbS,b1,c1,a5,c2,if_pos hpos,if_neg hgt]
      congr 4
      rcases hw with ⟨_,e⟩ | e
      ·rw [e]
       by_cases h10:L (pc10 S) < 10
       ·rw [if_pos h10]
       ·rw [if_neg h10]; omega
      ·rw [e,if_neg (by omega)]
     ·simp only [Int.toNat_natCast]
      have:=Nat.two_pow_pos (tz10 R)
      omega)
   ((S:Int),m,(g.length:Int)) ⟨S,hS,rfl,fun _ _ h=>h,hV,.inl ⟨rfl,by rw [h.len]; rfl⟩⟩ (by simp only [Int.toNat_natCast]; omega)
  rw [h1]
  refine ⟨(x.2,mput x.1 (S:Int) x.2),rfl,?_,?_⟩
  ·exact h2.2
  ·have:=vm_put h2.1 h.zero hS hS0
   rw [←h2.2] at this
   exact this
theorem narrow_spec (h:Lev g L) (n:Nat) (S:Nat) (hS:S < 1024) (m:List (Int × Int)) (hV:Vm L m) (hn:S < n):∃x,recN (g_order_Best_r1 g) n ((S:Int),m)=some x∧x.1=L (pc10 S)∧Vm L x.2:=by
 induction n generalizing S m with
 | zero=>omega
 | succ n ih =>
  exact narrow_step h (recN (g_order_Best_r1 g) n) S hS m hV fun S' m' h1 h2=>ih S' (by omega) m' h2 (by omega)
end
end Go.Ab
namespace Go.Ab
open Go
set_option maxRecDepth 100000
set_option maxHeartbeats 0
def emp10:List Int:=[0,0,0,0,0,0,0,0,0,0]
def full10:List Int:=[1022,1021,1019,1015,1007,991,959,895,767,511]
def ring10:List Int:=[514,5,10,20,40,80,160,320,640,257]
def all10:List Int:=[0,1,2,3,4,5,6,7,8,9]
def bestT (g:List Int):Option (List Int × Int × Int) :=
 if g==emp10 then some (all10,0,0) else if g==full10 then some (all10,9,0) else if g==ring10 then some (all10,2,0) else g_order_Best g
theorem known_of (hB:g_order_Best=bestT):g_law08_OrderKnown=some true:=by
 unfold g_law08_OrderKnown g_law08_works g_law08_best
 rw [hB]
 kernel_rfl
end Go.Ab
namespace Go.Ab
open Go
set_option maxRecDepth 100000
set_option maxHeartbeats 400000
def ordN (i:Nat):List Int:=(List.range i).map fun k:Nat => (k:Int)
theorem ordN_succ (i:Nat):ordN (i+1)=ordN i++[(i:Int)]:=by simp [ordN,List.range_succ]
theorem ordN_len (i:Nat):(ordN i).length=i:=by simp [ordN]
theorem r31:g_order_Best_r3=g_order_Best_r1:=rfl
theorem T_lev:((List.range 10).all fun i=>Nat.beq (tz10 (1024 - 2^i)) i && (Nat.beq (1024 - 2^i - 2^i) (1024 - 2^(i+1)) && Nat.blt 0 (1024 - 2^i)))=true:=by kernel_rfl
theorem e1023:IntKind.u64.wrap ((IntKind.u64.wrap (1*2^min (Int.toNat ((10:Nat):Int)) (IntKind.bits .u64))) - 1)=((1023:Nat):Int):=by kernel_rfl
section
variable {g:List Int} {L:Nat → Int}
theorem vm0 (h:Lev g L):Vm L (mput [] (0:Int) (0:Int)):=by
 refine ⟨fun n w hw=>?_,rfl⟩
 rw [mget_mput] at hw
 split at hw
 ·rename_i e
  cases hw
  exact ⟨0,by omega,by simpa using e,by rw [show pc10 0=0 from rfl,h.zero]⟩
 ·cases hw
theorem place_step (h:Lev g L) {i:Nat} (hi:i < 10) (m:List (Int × Int)) (hV:Vm L m) (x20:Int × List (Int × Int)) (hx:x20.1=L 10) :
  ∃m',g_order_Best_b5 g x20 (((1024 - 2^i:Nat):Int),ordN i,m)=some (.next (((1024 - 2^(i+1):Nat):Int),ordN (i+1),m'))∧Vm L m':=by
 have ht:=all_at T_lev hi
 simp only [Bool.and_eq_true] at ht
 obtain ⟨t1,t2,t3⟩:=ht
 have t1:=Nat.eq_of_beq_eq_true t1
 have t2:=Nat.eq_of_beq_eq_true t2
 have t3:0 < 1024 - 2^i:=Nat.le_of_ble_eq_true t3
 have hp:0 < 2^i:=Nat.two_pow_pos i
 generalize hS:1024 - 2^i=S at *
 have hS1:S < 1024:=by omega
 obtain ⟨a1,a2,a3,a4,a5,a6⟩:=member hS1 (by omega)
 rw [t1] at a1 a2 a3 a4 a5
 obtain ⟨b1,b2,b3⟩:=del hS1 hi a2
 obtain ⟨y,c1,c2,c3⟩:=narrow_spec h fuel (S - 2^i) (by omega) m hV (by show S - 2^i < 1152921504606846976; omega)
 refine ⟨y.2,?_,c3⟩
 have hc:((S:Int) != 0)=true:=by simp; omega
 have hpos:(0:Int)≤(i:Int):=Int.natCast_nonneg _
 have l1:decide (L (pc10 S)≤x20.1)=true:=decide_eq_true (by rw [hx]; exact h.top _ (pc_le S))
 have l2:decide (y.1≤x20.1)=true:=decide_eq_true (by rw [hx,c2]; exact h.top _ (pc_le _))
 have l3:(ordN i++([(i:Int)]:List Int)).length*8≤140737488355328:=by rw [List.length_append,ordN_len]; simp; omega
 have hin:whileN fuel (g_order_Best_b4 g ((S:Int),ordN i,m) x20) ((S:Int),m)=some (Sum.inl (((S - 2^i:Nat):Int),y.2,ordN i++[(i:Int)])):=by
  refine whileN_eq (fun t=>t=((S:Int),m)) (fun _=>0) _ (fun t ht=>.inr ?_) _ rfl (by omega)
  subst ht
  unfold g_order_Best_b4
  simp only [hc,if_true,a1,Option.bind_some,h.len,gone hS1,lateV h hS1 hi a2,l1,if_pos hpos,b1,r31,c1,l2,if_pos l3]
 unfold g_order_Best_b5
 simp only [hc,if_true,hin,Option.bind_some]
 rw [ordN_succ,←t2]
theorem best_level (h:Lev g L) (hc:g_order_Check g=some 0):g_order_Best g=some (all10,L 10,0):=by
 obtain ⟨x,c1,c2,c3⟩:=narrow_spec h fuel 1023 (by omega) _ (vm0 h) (by show 1023 < 1152921504606846976; omega)
 rw [show pc10 1023=10 from rfl] at c2
 obtain ⟨r,d1,d2⟩:=whileN_ex (body:=g_order_Best_b5 g x) (fun t=>∃i:Nat,i≤10∧t.1=((1024 - 2^i:Nat):Int)∧t.2.1=ordN i∧Vm L t.2.2) (fun t=>t.1.toNat) (fun r=>r=all10) (fun t ht=>by
   obtain ⟨i,hi,e1,e2,hV⟩:=ht
   obtain ⟨t1,t2,m⟩:=t
   simp only at e1 e2 hV
   subst e1; subst e2
   by_cases h10:i=10
   ·subst h10
    right
    exact ⟨_,rfl,rfl⟩
   ·left
    obtain ⟨m',p1,p2⟩:=place_step h (show i < 10 by omega) m hV x c2
    refine ⟨_,p1,⟨i+1,by omega,rfl,rfl,p2⟩,?_⟩
    simp only [Int.toNat_natCast]
    have ht:=all_at T_lev (show i < 10 by omega)
    simp only [Bool.and_eq_true] at ht
    have t2:=Nat.eq_of_beq_eq_true ht.2.1
    have t3:0 < 1024 - 2^i:=Nat.le_of_ble_eq_true ht.2.2
    have:=Nat.two_pow_pos i
    omega) (((1023:Nat):Int),([]:List Int),x.2) ⟨0,by omega,rfl,rfl,c3⟩ (by simp only [Int.toNat_natCast]; omega)
 subst d2
 unfold g_order_Best
 have hz:¬ (((0:Int) != 0)=true):=by decide
 have hp:(0:Int)≤((10:Nat):Int):=by omega
 simp only [hc,Option.bind_some,if_neg hz,h.len,if_pos hp,e1023,c1,d1,c2]
end
end Go.Ab
namespace Go.Ab
open Go
set_option maxRecDepth 100000
set_option maxHeartbeats 0
def lE (k:Nat):Int:=0
def lF (k:Nat):Int:=if Nat.beq k 0 then 0 else (k:Int) - 1
def lR (k:Nat):Int:=if Nat.beq k 0 then 0 else if Nat.ble k 2 then (k:Int) - 1 else 2
theorem late_E:lateOk emp10 lE=true:=by kernel_rfl
theorem late_F:lateOk full10 lF=true:=by kernel_rfl
theorem late_R:lateOk ring10 lR=true:=by kernel_rfl
theorem upto10 {p:Nat → Prop} (h:p 0∧p 1∧p 2∧p 3∧p 4∧p 5∧p 6∧p 7∧p 8∧p 9∧p 10):∀k,k≤10→p k:=by
 intro k hk
 obtain ⟨h0,h1,h2,h3,h4,h5,h6,h7,h8,h9,h10⟩:=h
 match k,hk with
 | 0,_=>exact h0
 | 1,_=>exact h1
 | 2,_=>exact h2
 | 3,_=>exact h3
 | 4,_=>exact h4
 | 5,_=>exact h5
 | 6,_=>exact h6
 | 7,_=>exact h7
 | 8,_=>exact h8
 | 9,_=>exact h9
 | 10,_=>exact h10
 | n+11,hk=>omega
theorem lev_E:Lev emp10 lE:=⟨rfl,rfl,fun k _=>Int.le_refl _,fun k _=>(show (0:Int)≤10 by decide),fun k _=>Int.le_refl _,late_E⟩
theorem lev_F:Lev full10 lF:=⟨rfl,rfl,fun k hk=>upto10 (p:=fun k=>k < 10→lF k≤lF (k+1)) (by decide) k (by omega) hk,upto10 (by decide),upto10 (by decide),late_F⟩
theorem lev_R:Lev ring10 lR:=⟨rfl,rfl,fun k hk=>upto10 (p:=fun k=>k < 10→lR k≤lR (k+1)) (by decide) k (by omega) hk,upto10 (by decide),upto10 (by decide),late_R⟩
theorem best_eq:g_order_Best=bestT:=by
 funext g
 unfold bestT
 by_cases h1:(g==emp10)=true
 ·rw [if_pos h1]
  have e:g=emp10:=by simpa using h1
  subst e
  exact best_level lev_E (by kernel_rfl)
 ·rw [if_neg h1]
  by_cases h2:(g==full10)=true
  ·rw [if_pos h2]
   have e:g=full10:=by simpa using h2
   subst e
   exact best_level lev_F (by kernel_rfl)
  ·rw [if_neg h2]
   by_cases h3:(g==ring10)=true
   ·rw [if_pos h3]
    have e:g=ring10:=by simpa using h3
    subst e
    exact best_level lev_R (by kernel_rfl)
   ·rw [if_neg h3]
theorem ok_true:g_law08_OrderKnown=some true:=known_of best_eq
end Go.Ab
namespace Go.Ab
open Go Go.Proofs Go.Proofs.YtjhfdojgaoapcaaDoor
open Go.ChangeShapes Go.WideShapes Go.ChangeAt Go.RowKit
abbrev dr_laid:List (String × DataW Unit):=[("math/bits.deBruijn32tab",Rows.laid_math_bits_deBruijn32tab),("math/bits.deBruijn64tab",Rows.laid_math_bits_deBruijn64tab)]
theorem dr_own:ownKnob Tryd.prog.godebug=none:=by kernel_rfl
theorem dr_g0:Tryd.prog.globalNamed "math/bits.deBruijn32tab" = some 0:=by kernel_rfl
theorem dr_g1:Tryd.prog.globalNamed "math/bits.deBruijn64tab" = some 1:=by kernel_rfl
theorem dr_met (os:Os) (args:Array Value):laidMetH Tryd.prog dr_laid ((World.doorLaid Tryd.prog 19 os).forCall (fun _ _=>0) ⟨#[],args,[]⟩).memory :=
 laidMetH_of_parts3 (fuel:=8) (laidMet_of_run' 8 (by kernel_rfl) (by kernel_rfl)) (by kernel_rfl) (by kernel_rfl)
theorem dr_glob {W:World} (h:laidMetH Tryd.prog dr_laid W):Go.Ab.GlobIn W:=by
 rw [MakeChecks.laidMetH_plain _ _ _ (by kernel_rfl)] at h
 have h0:=Lib.tabIs_of_head (k:=.u8) (zs:=Go.Ab.tab0) (t:=135) (e:=5) (n:=32) dr_g0 (by kernel_rfl) (by kernel_rfl) (by kernel_rfl) (by kernel_rfl) (by kernel_rfl) h
 have h1:=Lib.tabIs_of_head (k:=.u8) (zs:=Go.Ab.tab1) (t:=136) (e:=5) (n:=64) dr_g1 (by kernel_rfl) (by kernel_rfl) (by kernel_rfl) (by kernel_rfl) (by kernel_rfl) h.tail
 intro g xs hg i v hv
 match g,hg with
 | 0,hg =>
  cases hg
  have hi:i < Go.Ab.tab0.length:=by have:=(List.getElem?_eq_some_iff.1 hv).1; simpa using this
  have:=h0.cell dr_g0 i hi
  rw [this]
  rw [List.getElem?_map] at hv
  simpa [List.getD,hi] using hv
 | 1,hg =>
  cases hg
  have hi:i < Go.Ab.tab1.length:=by have:=(List.getElem?_eq_some_iff.1 hv).1; simpa using this
  have:=h1.cell dr_g1 i hi
  rw [this]
  rw [List.getElem?_map] at hv
  simpa [List.getD,hi] using hv
 | n+2,hg=>cases hg
end Go.Ab
