/- What functions compute. No conditions. -/
import Derived.Test.YtjhfdojgaoapcaaDoorProg
import Derived.Test.YtjhfdojgaoapcaaDoorW10
import Derived.KernelRfl
import Derived.Test.YtjhfdojgaoapcaaDoorW11
import Derived.Test.YtjhfdojgaoapcaaDoorW14
import Derived.Test.YtjhfdojgaoapcaaDoorW12
import Derived.Test.YtjhfdojgaoapcaaDoorW13
import Derived.Test.YtjhfdojgaoapcaaDoorEng7
import Derived.IntWalk
set_option linter.all false
namespace Go.Ab
open Go Go.Proofs
set_option maxRecDepth 100000
set_option maxHeartbeats 4000000
noncomputable abbrev e53_183 (p0:(List Int)):Nat×AV:=(0,eL true (AV.int .u64) p0)
theorem g_ref08_Missing_ok (p0:(List Int)) (p1:Int) (x:(List (Int × Int))) (h:g_ref08_Missing p0 p1=some x):CallOk Tryd.prog 54 [eL true (AV.int .u64) p0,vI p1] (.ret (.ref 0 0 x.length) [oR true 2 (fun x:(Int × Int)=>AV.agg [vI x.1,vI x.2]) x]):=by
 refine fn_ok [] Tryd.func54 rfl (by decide +kernel) rfl ?_
 unfold g_ref08_Missing at h
 refine wp_eqB (base':=0) (st':=⟨[(e53_183 p0),(1,vI p1)],[],52⟩) kr kr ?_
 refine sq (sq (wp_seq (sq (wp_block ?_))))
 refine wwh h (fun s1=>⟨[(e53_183 p0),(1,vI p1),(5,.ref 0 0 s1.2.length),(6,vI s1.1)],[oR true 2 (fun x:(Int × Int)=>AV.agg [vI x.1,vI x.2]) s1.2],52⟩) (fun v out=>out=.go (.exit 0) ⟨[(5,.ref 0 0 v.length)],[oR true 2 (fun x:(Int × Int)=>AV.agg [vI x.1,vI x.2]) v],52⟩) (wk_trans (wk_gc (live:=[0,1,5,6]) (keep:=[]) (st':=⟨[(e53_183 p0),(1,vI p1),(5,.nils),(6,vI 0)],[],52⟩) kr) (wk_trans (wk_nil 5 2 true true (st':=⟨[(e53_183 p0),(1,vI p1),(5,.ref 0 0 0),(6,vI 0)],[.row false false true true 2 []],52⟩) kr) (wk_gc (live:=[0,1,5,6]) (keep:=[0]) kr))) ?_ ?_
 ·intro s1 o h
  unfold g_ref08_Missing_b1 at h
  refine wp_seq (wp_seq (reg_in (sz 2 2 ?_)))
  refine lenL (enc:=(AV.int .u64)) (l:=p0) (fl:=true) kr gE ?_
  refine sz 1 4 (reg_end rfl ?_)
  refine wb [11] h (fun q3 h=>?_) (fun q3 h=>?_)
  ·refine wcT (wp_skip (wp_seq (wp_block (sq (wp_block ?_)))))
   refine wwh h (fun s4=>⟨[(e53_183 p0),(1,vI p1),(5,.ref 0 0 s4.2.length),(6,vI s1.1),(7,vI s4.1)],[oR true 2 (fun x:(Int × Int)=>AV.agg [vI x.1,vI x.2]) s4.2],52⟩) (fun v out=>out=.go (.exit 2) ⟨[(e53_183 p0),(1,vI p1),(5,.ref 0 0 v.length),(6,vI s1.1)],[oR true 2 (fun x:(Int × Int)=>AV.agg [vI x.1,vI x.2]) v],52⟩) (wk_gc (live:=[0,1,5,6,7]) (keep:=[0]) kr) ?_ ?_
   ·intro s4 o h
    unfold g_ref08_Missing_b0 at h
    refine wp_seq (wp_seq (reg_in (sz 2 2 ?_)))
    refine lenL (enc:=(AV.int .u64)) (l:=p0) (fl:=true) kr gE ?_
    refine sz 1 4 (reg_end rfl ?_)
    refine wb [19] h (fun q6 h=>?_) (fun q6 h=>?_)
    ·refine wcT (wp_skip (wp_seq (wp_block (wp_seq (reg_in (sz 2 2 ?_))))))
     refine bind_elim h (fun a7 q8 h=>?_)
     refine idxL' (enc:=(AV.int .u64)) (l:=p0) (n:=p1) (fl:=true) (w:=1) (a:=a7) kr rfl gE q8 ?_
     refine sz 2 5 ?_
     refine callW bodyB_46 (g_ref05_In_ok a7 s1.1) h (fun x9 _ h=>?_)
     refine sz 1 7 ?_
     refine rw_wk (wk_gc (live:=[0,1,5,6,7,28]) (keep:=[0]) (st':=⟨[(e53_183 p0),(1,vI p1),(5,.ref 0 0 s4.2.length),(6,vI s1.1),(7,vI s4.1),(28,vB x9)],[oR true 2 (fun x:(Int × Int)=>AV.agg [vI x.1,vI x.2]) s4.2],52⟩) kr) ?_
     refine rb [28] h (fun q12 h=>?_) (fun q12 h=>?_)
     ·refine sz 2 9 ?_
      refine idxL' (enc:=(AV.int .u64)) (l:=p0) (n:=p1) (fl:=true) (w:=1) (a:=a7) kr rfl gE q8 ?_
      refine sz 2 12 ?_
      refine callW bodyB_46 (g_ref05_In_ok a7 s4.1) h (fun x13 _ h=>?_)
      refine sz 2 15 (rwg [0,1,5,6,7,36] [0] ?_)
      refine rb [36] h (fun q16 h=>?_) (fun q16 h=>?_)
      ·refine sz 2 17 ?_
       refine bind_elim h (fun a17 q18 h=>?_)
       refine idxL' (enc:=(AV.int .u64)) (l:=p0) (n:=s1.1) (fl:=true) (w:=1) (a:=a17) kr rfl gE q18 ?_
       refine sz 2 20 ?_
       refine callW bodyB_46 (g_ref05_In_ok a17 s4.1) h (fun x19 _ h=>?_)
       refine sz 2 23 (reg_end rfl ?_)
       refine wbz h (fun q22 h=>?_) (fun q22 h=>?_)
       ·refine wgc [0,1,5,6,7] [0] ⟨[(e53_183 p0),(1,vI p1),(5,.ref 0 0 s4.2.length),(6,vI s1.1),(7,vI s4.1)],[oR true 2 (fun x:(Int × Int)=>AV.agg [vI x.1,vI x.2]) s4.2],52⟩ ?_
        refine reg_in (sz 4 4 ?_)
        refine sgL false [] [] true gE ?_
        refine appR (enc:=(fun x:(Int × Int)=>AV.agg [vI x.1,vI x.2])) (l:=s4.2) (m:=([(s1.1,s4.1)]:(List (Int × Int)))) (w:=2) (bytes:=16) (ob:=0) (nr:=true) (fl:=true) (nr':=true) (fl':=true) (b:=.ref 1 0 1) (rds:=[1]) false kr kr kr rfl gE kr h (fun h=>?_)
        refine sz 1 7 (reg_end rfl (wg [0,1,5,6,7] [2] (rn ?_)))
        cases h
        exact ⟨_,rfl,(wk_gc (live:=[0,1,5,6,7]) (keep:=[0]) kr)⟩
       refine wp_skip ?_
       refine wgc [0,1,5,6,7] [0] ⟨[(e53_183 p0),(1,vI p1),(5,.ref 0 0 s4.2.length),(6,vI s1.1),(7,vI s4.1)],[oR true 2 (fun x:(Int × Int)=>AV.agg [vI x.1,vI x.2]) s4.2],52⟩ ?_
       refine rn ?_
       cases h
       exact ⟨_,rfl,(wk_gc (live:=[0,1,5,6,7]) (keep:=[0]) kr)⟩
      refine sz 8 23 (reg_end rfl (wcF (wp_skip ?_)))
      refine wgc [0,1,5,6,7] [0] ⟨[(e53_183 p0),(1,vI p1),(5,.ref 0 0 s4.2.length),(6,vI s1.1),(7,vI s4.1)],[oR true 2 (fun x:(Int × Int)=>AV.agg [vI x.1,vI x.2]) s4.2],52⟩ ?_
      refine rn ?_
      cases h
      exact ⟨_,rfl,(wk_gc (live:=[0,1,5,6,7]) (keep:=[0]) kr)⟩
     refine sz 16 23 (reg_end rfl (wcF (wp_skip ?_)))
     refine wgc [0,1,5,6,7] [0] ⟨[(e53_183 p0),(1,vI p1),(5,.ref 0 0 s4.2.length),(6,vI s1.1),(7,vI s4.1)],[oR true 2 (fun x:(Int × Int)=>AV.agg [vI x.1,vI x.2]) s4.2],52⟩ ?_
     refine rn ?_
     cases h
     exact ⟨_,rfl,(wk_gc (live:=[0,1,5,6,7]) (keep:=[0]) kr)⟩
    refine wcF (wg [0,1,5,6] [0] ?_)
    refine wp_exit ?_
    cases h
    exact ⟨kr,rfl⟩
   intro x24 h out hx
   subst hx
   refine rn ?_
   cases h
   exact ⟨_,rfl,(wk_gc (live:=[0,1,5,6]) (keep:=[0]) kr)⟩
  refine wcF (wg [5] [0] ?_)
  refine wp_exit ?_
  cases h
  exact ⟨kr,rfl⟩
 intro x26 h out hx
 subst hx
 refine sq (wg [4] [0] ?_)
 cases h
 exact wp_ret (show fnOut _ _ _ _=_ from by kernel_rfl)
noncomputable abbrev i54_184 (a8 p1:Int):Int:=(zv (BitVec.ofInt (IntKind.bits .u64) a8 &&& ~~~ BitVec.ofInt (IntKind.bits .u64) (zv (1*2^min (zt (zv (p1))) (IntKind.bits .u64)))).toNat)
theorem g_ref08_Remove_ok (p0:(List Int)) (p1:Int) (x:(List Int)) (h:g_ref08_Remove p0 p1=some x):CallOk Tryd.prog 66 [eL true (AV.int .u64) p0,vI p1] (.ret (.ref 0 0 x.length) [oR true 1 (AV.int .u64) x]):=by
 refine fn_ok [] Tryd.func66 rfl (by decide +kernel) rfl ?_
 unfold g_ref08_Remove at h
 refine wp_eqB (base':=0) (st':=⟨[(0,eL true (AV.int .u64) p0),(1,vI p1)],[],29⟩) kr kr ?_
 refine sq (wp_seq (reg_in (sz 1 1 ?_)))
 refine callW bodyB_83 (g_ref08_Copy_ok p0) h (fun x1 _ h=>?_)
 refine sz 1 3 (reg_end rfl (wp_seq (reg_in (sz 2 2 ?_))))
 refine bind_elim h (fun a3 q4 h=>?_)
 refine idxR' (enc:=(AV.int .u64)) (l:=x1) (n:=p1) (w:=1) (ob:=0) (ro:=false) (nr:=true) (fl:=true) (a:=a3) kr kr gE q4 ?_
 refine storeR (enc:=(AV.int .u64)) (l:=x1) (n:=p1) (ob:=0) (w:=1) (bx:=false) (nr:=true) (fl:=true) (c:=0) (a:=a3) (a':=0) (v:=.int .u64 0) false kr kr q4 kr rfl kr gE kr ?_
 refine rl [0,7,8] (n:=x1.length) (m:=(List.set x1 (zt p1) 0).length) (by simp only [List.length_set]) ?_
 refine reg_end rfl (wp_seq (wp_seq ?_))
 refine wgc [0,1] [0] ⟨[(0,.ref 0 0 ((List.set x1 (zt p1) 0).length)),(1,vI p1)],[oR true 1 (AV.int .u64) (List.set x1 (zt p1) 0)],29⟩ ?_
 refine rn (wp_block ?_)
 refine wwh h (fun s5=>⟨[(0,.ref 0 0 s5.2.length),(1,vI p1),(5,vI s5.1)],[oR true 1 (AV.int .u64) s5.2],29⟩) (fun v out=>out=.go (.exit 0) ⟨[(0,.ref 0 0 v.length)],[oR true 1 (AV.int .u64) v],29⟩) (wk_gc (live:=[0,1,5]) (keep:=[0]) kr) ?_ ?_
 ·intro s5 o h
  unfold g_ref08_Remove_b0 at h
  refine wp_seq (sq ?_)
  refine wb [14] h (fun q7 h=>?_) (fun q7 h=>?_)
  ·refine wcT (wp_skip (wp_seq (wp_block (reg_in (sz 4 4 ?_)))))
   refine bind_elim h (fun a8 q9 h=>?_)
   refine idxR' (enc:=(AV.int .u64)) (l:=s5.2) (n:=s5.1) (w:=1) (ob:=0) (ro:=false) (nr:=true) (fl:=true) (a:=a8) kr kr gE q9 ?_
   refine loadR (enc:=(AV.int .u64)) (l:=s5.2) (n:=s5.1) (w:=1) (ob:=0) (c:=0) (bx:=false) (ro:=false) (nr:=true) (fl:=true) (a:=a8) kr kr q9 gE ?_
   refine sz 2 8 ?_
   refine shlR (k:=.u64) (k':=.u64) (a:=1) (b:=zv (p1)) kr gE h (fun h=>?_)
   refine sz 1 10 ?_
   refine idxR' (enc:=(AV.int .u64)) (l:=s5.2) (n:=s5.1) (w:=1) (ob:=0) (ro:=false) (nr:=true) (fl:=true) (a:=a8) kr kr gE q9 ?_
   refine storeR (enc:=(AV.int .u64)) (l:=s5.2) (n:=s5.1) (ob:=0) (w:=1) (bx:=false) (nr:=true) (fl:=true) (c:=0) (a:=a8) (a':=zv (BitVec.ofInt (IntKind.bits .u64) a8 &&& ~~~ BitVec.ofInt (IntKind.bits .u64) (zv (1*2^min (zt (zv (p1))) (IntKind.bits .u64)))).toNat) (v:=.int .u64 (i54_184 a8 p1)) false kr kr q9 kr rfl kr gE kr ?_
   refine rl [0,12,17,19] (n:=s5.2.length) (m:=(List.set s5.2 (zt s5.1) (i54_184 a8 p1)).length) (by simp only [List.length_set]) ?_
   refine reg_end rfl ?_
   refine wgc [0,1,5] [0] ⟨[(0,.ref 0 0 ((List.set s5.2 (zt s5.1) (i54_184 a8 p1)).length)),(1,vI p1),(5,vI s5.1)],[oR true 1 (AV.int .u64) (List.set s5.2 (zt s5.1) (i54_184 a8 p1))],29⟩ ?_
   refine rn ?_
   cases h
   exact ⟨_,rfl,(wk_gc (live:=[0,1,5]) (keep:=[0]) kr)⟩
  refine wcF (wg [0] [0] ?_)
  refine wp_exit ?_
  cases h
  exact ⟨kr,rfl⟩
 intro x12 h out hx
 subst hx
 refine sq (wg [4] [0] ?_)
 cases h
 exact wp_ret (show fnOut _ _ _ _=_ from by kernel_rfl)
theorem g_ref08_Eliminate_ok (p0:(List Int)) (p1:Int) (x:(List Int)) (h:g_ref08_Eliminate p0 p1=some x):CallOk Tryd.prog 55 [eL true (AV.int .u64) p0,vI p1] (.ret (.ref 0 0 x.length) [oR true 1 (AV.int .u64) x]):=by
 refine fn_ok [] Tryd.func55 rfl (by decide +kernel) rfl ?_
 unfold g_ref08_Eliminate at h
 refine wp_eqB (base':=0) (st':=⟨[(0,eL true (AV.int .u64) p0),(1,vI p1)],[],12⟩) kr kr ?_
 refine sq (wp_seq (reg_in (sz 3 3 ?_)))
 refine callW bodyB_54 (g_ref08_Missing_ok p0 p1) h (fun x1 _ h=>?_)
 refine callR (as0:=[eL true (AV.int .u64) p0,.ref 0 0 x1.length]) (ids:=[0]) kr bodyB_53 (msnap_cons rfl (msnap_cons (snap_full (w:=2) (bx:=false) (ro:=false) (enc:=(fun x:(Int × Int)=>AV.agg [vI x.1,vI x.2])) (l:=x1) (fl:=true) kr) msnap_nil (by rfl)) (by rfl)) (fun x3 q4=>g_ref08_Join_ok p0 x1 x3 q4) gF h (fun x3 q4 h=>?_)
 refine sz 1 6 ?_
 refine callR (as0:=[.ref 1 0 x3.length,vI p1]) (ids:=[1]) kr bodyB_66 (msnap_cons (snap_full (w:=1) (bx:=false) (ro:=false) (enc:=(AV.int .u64)) (l:=x3) (fl:=true) kr) (msnap_cons rfl msnap_nil (by rfl)) (by rfl)) (fun x5 q6=>g_ref08_Remove_ok x3 p1 x5 q6) gF h (fun x5 q6 h=>?_)
 refine sz 1 8 (reg_end rfl (wg [4] [2] ?_))
 cases h
 exact wp_ret (show fnOut _ _ _ _=_ from by kernel_rfl)
noncomputable abbrev e56_185 (p0:(List Int)):Nat×AV:=(5,eL true (AV.int .u64) p0)
noncomputable abbrev e56_186 (x13:((List Int) × (List Int))):Nat×AV:=(0,eL true (AV.int .u64) x13.1)
noncomputable abbrev e56_187 (x13:((List Int) × (List Int))):Nat×AV:=(6,eL true (AV.int .u64) x13.2)
theorem g_ref08_Fill_ok (p0:(List Int)) (p1:(List Int)) (x:(List (Int × Int))) (h:g_ref08_Fill p0 p1=some x):CallOk Tryd.prog 20 [eL true (AV.int .u64) p0,z1 p1] (.ret (.ref 0 0 x.length) [oR true 2 (fun x:(Int × Int)=>AV.agg [vI x.1,vI x.2]) x]):=by
 refine fn_ok [] Tryd.func20 rfl (by decide +kernel) rfl ?_
 unfold g_ref08_Fill at h
 refine wp_eqB (base':=0) (st':=⟨[(0,eL true (AV.int .u64) p0),(1,z1 p1)],[],69⟩) kr kr ?_
 refine sq (sq (sq (wp_seq (sq (wp_block ?_)))))
 refine wwh h (fun s1=>⟨[(0,eL true (AV.int .u64) s1.1),(1,z1 p1),(e56_185 p0),(6,eL true (AV.int .u64) s1.2.1),(7,vI s1.2.2)],[],69⟩) (fun v out=>out=.go (.exit 0) ⟨[(0,eL true (AV.int .u64) v.1),(e56_185 p0),(6,eL true (AV.int .u64) v.2)],[],69⟩) (wk_gc (live:=[0,1,5,6,7]) (keep:=[]) kr) ?_ ?_
 ·intro s1 o h
  unfold g_ref08_Fill_b0 at h
  refine wp_seq (wp_seq (reg_in (sz 2 2 ?_)))
  refine lenL (enc:=eI) (l:=p1) (fl:=true) kr gE ?_
  refine sz 1 4 (reg_end rfl ?_)
  refine wb [16] h (fun q3 h=>?_) (fun q3 h=>?_)
  ·refine wcT (wp_skip (wp_seq (wp_block (wp_seq (reg_in (sz 4 4 ?_))))))
   refine bind_elim h (fun a4 q5 h=>?_)
   refine idxL' (enc:=eI) (l:=p1) (n:=s1.2.2) (fl:=true) (w:=1) (a:=a4) kr rfl gE q5 ?_
   refine sz 1 6 ?_
   refine callW bodyB_54 (g_ref08_Missing_ok s1.1 a4) h (fun x6 _ h=>?_)
   refine callR (as0:=[eL true (AV.int .u64) s1.2.1,.ref 0 0 x6.length]) (ids:=[0]) kr bodyB_53 (msnap_cons rfl (msnap_cons (snap_full (w:=2) (bx:=false) (ro:=false) (enc:=(fun x:(Int × Int)=>AV.agg [vI x.1,vI x.2])) (l:=x6) (fl:=true) kr) msnap_nil (by rfl)) (by rfl)) (fun x8 q9=>g_ref08_Join_ok s1.2.1 x6 x8 q9) gF h (fun x8 q9 h=>?_)
   refine sz 1 9 (reg_end rfl ?_)
   refine wgc [0,1,5,6,7] [1] ⟨[(0,eL true (AV.int .u64) s1.1),(1,z1 p1),(e56_185 p0),(6,.ref 0 0 x8.length),(7,vI s1.2.2)],[oR true 1 (AV.int .u64) x8],69⟩ ?_
   refine reg_in (sz 3 3 ?_)
   refine idxL' (enc:=eI) (l:=p1) (n:=s1.2.2) (fl:=true) (w:=1) (a:=a4) kr rfl gE q5 ?_
   refine sz 1 5 ?_
   refine callW bodyB_55 (g_ref08_Eliminate_ok s1.1 a4) h (fun x10 _ h=>?_)
   refine sz 1 7 (reg_end rfl (wg [0,1,5,6,7] [1,0] ?_))
   refine rgN (S:=⟨[(0,.ref 0 0 x10.length),(1,z1 p1),(e56_185 p0),(6,.ref 1 0 x8.length),(7,vI (zw (s1.2.2+1))),(17,vI s1.2.2),(18,vI (zw (s1.2.2+1)))],[oR true 1 (AV.int .u64) x10,oR true 1 (AV.int .u64) x8],69⟩) ?_
   cases h
   exact ⟨_,rfl,(wk_trans (wk_gc (live:=[0,1,5,6,7]) (keep:=[0,1]) (st':=⟨[(0,.ref 0 0 x10.length),(1,z1 p1),(e56_185 p0),(6,.ref 1 0 x8.length),(7,vI (zw (s1.2.2+1)))],[oR true 1 (AV.int .u64) x10,oR true 1 (AV.int .u64) x8],69⟩) kr) (wk_trans (wk_snap (st':=⟨[(0,eL true (AV.int .u64) x10),(1,z1 p1),(e56_185 p0),(6,.ref 1 0 x8.length),(7,vI (zw (s1.2.2+1)))],[.row false true true true 1 (List.map (AV.int .u64) x10),oR true 1 (AV.int .u64) x8],69⟩) 0 (y:=eL true (AV.int .u64) x10) (ids:=[0]) rfl (snap_full (w:=1) (bx:=false) (ro:=false) (enc:=(AV.int .u64)) (l:=x10) (fl:=true) kr) kr) (wk_trans (wk_snap (st':=⟨[(0,eL true (AV.int .u64) x10),(1,z1 p1),(e56_185 p0),(6,eL true (AV.int .u64) x8),(7,vI (zw (s1.2.2+1)))],[.row false true true true 1 (List.map (AV.int .u64) x10),.row false true true true 1 (List.map (AV.int .u64) x8)],69⟩) 6 (y:=eL true (AV.int .u64) x8) (ids:=[1]) rfl (snap_full (w:=1) (bx:=false) (ro:=false) (enc:=(AV.int .u64)) (l:=x8) (fl:=true) kr) kr) (wk_gc (live:=[0,1,5,6,7]) (keep:=[]) kr))))⟩
  refine wcF (wg [0,5,6] [] ?_)
  refine wp_exit ?_
  cases h
  exact ⟨kr,rfl⟩
 intro x13 h out hx
 subst hx
 refine sq (wp_seq (sq (wp_block ?_)))
 refine wwh h (fun s14=>⟨[(e56_186 x13),(e56_185 p0),(e56_187 x13),(8,.ref 0 0 s14.2.length),(9,vI s14.1)],[oR true 2 (fun x:(Int × Int)=>AV.agg [vI x.1,vI x.2]) s14.2],69⟩) (fun v out=>out=.go (.exit 2) ⟨[(8,.ref 0 0 v.length)],[oR true 2 (fun x:(Int × Int)=>AV.agg [vI x.1,vI x.2]) v],69⟩) (wk_trans (wk_gc (live:=[0,5,6,8,9]) (keep:=[]) (st':=⟨[(e56_186 x13),(e56_185 p0),(e56_187 x13),(8,.nils),(9,vI 0)],[],69⟩) kr) (wk_trans (wk_nil 8 2 true true (st':=⟨[(e56_186 x13),(e56_185 p0),(e56_187 x13),(8,.ref 0 0 0),(9,vI 0)],[.row false false true true 2 []],69⟩) kr) (wk_gc (live:=[0,5,6,8,9]) (keep:=[0]) kr))) ?_ ?_
 ·intro s14 o h
  unfold g_ref08_Fill_b2 at h
  refine wp_seq (wp_seq (reg_in (sz 2 2 ?_)))
  refine lenL (enc:=(AV.int .u64)) (l:=x13.1) (fl:=true) kr gE ?_
  refine sz 1 4 (reg_end rfl ?_)
  refine wb [36] h (fun q16 h=>?_) (fun q16 h=>?_)
  ·refine wcT (wp_skip (wp_seq (wp_block (sq (wp_block ?_)))))
   refine wwh h (fun s17=>⟨[(e56_186 x13),(e56_185 p0),(e56_187 x13),(8,.ref 0 0 s17.2.length),(9,vI s14.1),(10,vI s17.1)],[oR true 2 (fun x:(Int × Int)=>AV.agg [vI x.1,vI x.2]) s17.2],69⟩) (fun v out=>out=.go (.exit 4) ⟨[(e56_186 x13),(e56_185 p0),(e56_187 x13),(8,.ref 0 0 v.length),(9,vI s14.1)],[oR true 2 (fun x:(Int × Int)=>AV.agg [vI x.1,vI x.2]) v],69⟩) (wk_gc (live:=[0,5,6,8,9,10]) (keep:=[0]) kr) ?_ ?_
   ·intro s17 o h
    unfold g_ref08_Fill_b1 at h
    refine wp_seq (wp_seq (reg_in (sz 2 2 ?_)))
    refine lenL (enc:=(AV.int .u64)) (l:=x13.1) (fl:=true) kr gE ?_
    refine sz 1 4 (reg_end rfl ?_)
    refine wb [44] h (fun q19 h=>?_) (fun q19 h=>?_)
    ·refine wcT (wp_skip (wp_seq (wp_block (wp_seq (reg_in (sz 2 2 ?_))))))
     refine bind_elim h (fun a20 q21 h=>?_)
     refine idxL' (enc:=(AV.int .u64)) (l:=x13.2) (n:=s14.1) (fl:=true) (w:=1) (a:=a20) kr rfl gE q21 ?_
     refine sz 2 5 ?_
     refine callW bodyB_46 (g_ref05_In_ok a20 s17.1) h (fun x22 _ h=>?_)
     refine sz 1 7 ?_
     refine rw_wk (wk_gc (live:=[0,5,6,8,9,10,53]) (keep:=[0]) (st':=⟨[(e56_186 x13),(e56_185 p0),(e56_187 x13),(8,.ref 0 0 s17.2.length),(9,vI s14.1),(10,vI s17.1),(53,vB x22)],[oR true 2 (fun x:(Int × Int)=>AV.agg [vI x.1,vI x.2]) s17.2],69⟩) kr) ?_
     refine rb [53] h (fun q25 h=>?_) (fun q25 h=>?_)
     ·refine sz 2 9 ?_
      refine bind_elim h (fun a26 q27 h=>?_)
      refine idxL' (enc:=(AV.int .u64)) (l:=p0) (n:=s14.1) (fl:=true) (w:=1) (a:=a26) kr rfl gE q27 ?_
      refine sz 2 12 ?_
      refine callW bodyB_46 (g_ref05_In_ok a26 s17.1) h (fun x28 _ h=>?_)
      refine sz 2 15 (reg_end rfl ?_)
      refine wbz h (fun q31 h=>?_) (fun q31 h=>?_)
      ·refine wg [0,5,6,8,9,10] [0] (reg_in (sz 4 4 ?_))
       refine sgL false [] [] true gE ?_
       refine appR (enc:=(fun x:(Int × Int)=>AV.agg [vI x.1,vI x.2])) (l:=s17.2) (m:=([(s14.1,s17.1)]:(List (Int × Int)))) (w:=2) (bytes:=16) (ob:=0) (nr:=true) (fl:=true) (nr':=true) (fl':=true) (b:=.ref 1 0 1) (rds:=[1]) false kr kr kr rfl gE kr h (fun h=>?_)
       refine sz 1 7 (reg_end rfl ?_)
       refine wgc [0,5,6,8,9,10] [2] ⟨[(e56_186 x13),(e56_185 p0),(e56_187 x13),(8,.ref 0 0 ((s17.2++([(s14.1,s17.1)]:(List (Int × Int)))).length)),(9,vI s14.1),(10,vI s17.1)],[oR true 2 (fun x:(Int × Int)=>AV.agg [vI x.1,vI x.2]) (s17.2++([(s14.1,s17.1)]:(List (Int × Int))))],69⟩ ?_
       refine rn ?_
       cases h
       exact ⟨_,rfl,(wk_gc (live:=[0,5,6,8,9,10]) (keep:=[0]) kr)⟩
      refine wp_skip (wg [0,5,6,8,9,10] [0] (rn ?_))
      cases h
      exact ⟨_,rfl,(wk_gc (live:=[0,5,6,8,9,10]) (keep:=[0]) kr)⟩
     refine sz 8 15 (reg_end rfl (wcF (wp_skip (wg [0,5,6,8,9,10] [0] (rn ?_)))))
     cases h
     exact ⟨_,rfl,(wk_gc (live:=[0,5,6,8,9,10]) (keep:=[0]) kr)⟩
    refine wcF (wg [0,5,6,8,9] [0] ?_)
    refine wp_exit ?_
    cases h
    exact ⟨kr,rfl⟩
   intro x33 h out hx
   subst hx
   refine rn ?_
   cases h
   exact ⟨_,rfl,(wk_gc (live:=[0,5,6,8,9]) (keep:=[0]) kr)⟩
  refine wcF (wg [8] [0] ?_)
  refine wp_exit ?_
  cases h
  exact ⟨kr,rfl⟩
 intro x35 h out hx
 subst hx
 refine sq (wg [4] [0] ?_)
 cases h
 exact wp_ret (show fnOut _ _ _ _=_ from by kernel_rfl)
theorem g_ref08_Degree_ok (p0:(List Int)) (p1:Int) (x:Int) (h:g_ref08_Degree p0 p1=some x):CallOk Tryd.prog 56 [eL true (AV.int .u64) p0,vI p1] (.ret (vI x) []):=by
 refine fn_ok [] Tryd.func56 rfl (by decide +kernel) rfl ?_
 unfold g_ref08_Degree at h
 refine wp_eqB (base':=0) (st':=⟨[(0,eL true (AV.int .u64) p0),(1,vI p1)],[],22⟩) kr kr ?_
 refine sq (sq (wp_seq (sq (wp_block ?_))))
 refine wwh h (fun s1=>⟨[(0,eL true (AV.int .u64) p0),(1,vI p1),(5,vI s1.1),(6,vI s1.2)],[],22⟩) (fun v out=>out=.go (.exit 0) ⟨[(5,vI v)],[],22⟩) (wk_gc (live:=[0,1,5,6]) (keep:=[]) kr) ?_ ?_
 ·intro s1 o h
  unfold g_ref08_Degree_b0 at h
  refine wp_seq (wp_seq (reg_in (sz 2 2 ?_)))
  refine lenL (enc:=(AV.int .u64)) (l:=p0) (fl:=true) kr gE ?_
  refine sz 1 4 (reg_end rfl ?_)
  refine wb [10] h (fun q3 h=>?_) (fun q3 h=>?_)
  ·refine wcT (wp_skip (wp_seq (wp_block (wp_seq (reg_in (sz 2 2 ?_))))))
   refine bind_elim h (fun a4 q5 h=>?_)
   refine idxL' (enc:=(AV.int .u64)) (l:=p0) (n:=p1) (fl:=true) (w:=1) (a:=a4) kr rfl gE q5 ?_
   refine sz 2 5 ?_
   refine callW bodyB_46 (g_ref05_In_ok a4 s1.2) h (fun x6 _ h=>?_)
   refine reg_end rfl ?_
   refine wbz h (fun q9 h=>?_) (fun q9 h=>?_)
   ·refine wgc [0,1,5,6] [] ⟨[(0,eL true (AV.int .u64) p0),(1,vI p1),(5,vI s1.1),(6,vI s1.2)],[],22⟩ ?_
    refine rn (rn ?_)
    cases h
    exact ⟨_,rfl,(wk_gc (live:=[0,1,5,6]) (keep:=[]) kr)⟩
   refine wp_skip ?_
   refine wgc [0,1,5,6] [] ⟨[(0,eL true (AV.int .u64) p0),(1,vI p1),(5,vI s1.1),(6,vI s1.2)],[],22⟩ ?_
   refine rn ?_
   cases h
   exact ⟨_,rfl,(wk_gc (live:=[0,1,5,6]) (keep:=[]) kr)⟩
  refine wcF (wg [5] [] ?_)
  refine wp_exit ?_
  cases h
  exact ⟨kr,rfl⟩
 intro x11 h out hx
 subst hx
 refine sq (wg [4] [] ?_)
 cases h
 exact wp_ret (show fnOut _ _ _ _=_ from by kernel_rfl)
theorem g_ref08_Width_ok (p0:(List Int)) (p1:(List Int)) (x:Int) (h:g_ref08_Width p0 p1=some x):CallOk Tryd.prog 21 [eL true (AV.int .u64) p0,z1 p1] (.ret (vI x) []):=by
 refine fn_ok [] Tryd.func21 rfl (by decide +kernel) rfl ?_
 unfold g_ref08_Width at h
 refine wp_eqB (base':=0) (st':=⟨[(0,eL true (AV.int .u64) p0),(1,z1 p1)],[],28⟩) kr kr ?_
 refine sq (sq (wp_seq (sq (wp_block ?_))))
 refine wwh h (fun s1=>⟨[(0,eL true (AV.int .u64) s1.1),(1,z1 p1),(5,vI s1.2.1),(6,vI s1.2.2)],[],28⟩) (fun v out=>out=.go (.exit 0) ⟨[(5,vI v)],[],28⟩) (wk_gc (live:=[0,1,5,6]) (keep:=[]) kr) ?_ ?_
 ·intro s1 o h
  unfold g_ref08_Width_b0 at h
  refine wp_seq (wp_seq (reg_in (sz 2 2 ?_)))
  refine lenL (enc:=eI) (l:=p1) (fl:=true) kr gE ?_
  refine sz 1 4 (reg_end rfl ?_)
  refine wb [10] h (fun q3 h=>?_) (fun q3 h=>?_)
  ·refine wcT (wp_skip (wp_seq (wp_block (wp_seq (reg_in (sz 4 4 ?_))))))
   refine bind_elim h (fun a4 q5 h=>?_)
   refine idxL' (enc:=eI) (l:=p1) (n:=s1.2.2) (fl:=true) (w:=1) (a:=a4) kr rfl gE q5 ?_
   refine sz 1 6 ?_
   refine callW bodyB_56 (g_ref08_Degree_ok s1.1 a4) h (fun x6 _ h=>?_)
   refine sz 2 9 (reg_end rfl ?_)
   refine wgc [0,1,5,6] [] ⟨[(0,eL true (AV.int .u64) s1.1),(1,z1 p1),(5,vI (if x6 > s1.2.1 then x6 else s1.2.1)),(6,vI s1.2.2)],[],28⟩ ?_
   refine reg_in (sz 3 3 ?_)
   refine idxL' (enc:=eI) (l:=p1) (n:=s1.2.2) (fl:=true) (w:=1) (a:=a4) kr rfl gE q5 ?_
   refine sz 1 5 ?_
   refine callW bodyB_55 (g_ref08_Eliminate_ok s1.1 a4) h (fun x8 _ h=>?_)
   refine sz 1 7 (reg_end rfl (wg [0,1,5,6] [0] ?_))
   refine rgN (S:=⟨[(0,.ref 0 0 x8.length),(1,z1 p1),(5,vI (if x6 > s1.2.1 then x6 else s1.2.1)),(6,vI (zw (s1.2.2+1))),(11,vI s1.2.2),(12,vI (zw (s1.2.2+1)))],[oR true 1 (AV.int .u64) x8],28⟩) ?_
   cases h
   exact ⟨_,rfl,(wk_trans (wk_gc (live:=[0,1,5,6]) (keep:=[0]) (st':=⟨[(0,.ref 0 0 x8.length),(1,z1 p1),(5,vI (if x6 > s1.2.1 then x6 else s1.2.1)),(6,vI (zw (s1.2.2+1)))],[oR true 1 (AV.int .u64) x8],28⟩) kr) (wk_trans (wk_snap (st':=⟨[(0,eL true (AV.int .u64) x8),(1,z1 p1),(5,vI (if x6 > s1.2.1 then x6 else s1.2.1)),(6,vI (zw (s1.2.2+1)))],[.row false true true true 1 (List.map (AV.int .u64) x8)],28⟩) 0 (y:=eL true (AV.int .u64) x8) (ids:=[0]) rfl (snap_full (w:=1) (bx:=false) (ro:=false) (enc:=(AV.int .u64)) (l:=x8) (fl:=true) kr) kr) (wk_gc (live:=[0,1,5,6]) (keep:=[]) kr)))⟩
  refine wcF (wg [5] [] ?_)
  refine wp_exit ?_
  cases h
  exact ⟨kr,rfl⟩
 intro x11 h out hx
 subst hx
 refine sq (wg [4] [] ?_)
 cases h
 exact wp_ret (show fnOut _ _ _ _=_ from by kernel_rfl)
noncomputable abbrev o59_188 (p2:Tharuspexref08_Draft):AObj:=oX true false 3 (.agg [.int .u8 p2.N,eL true (fun x:(Int × Int)=>AV.agg [.int .u8 x.1,.int .u8 x.2]) p2.E,eL true (AV.int .u8) p2.Order])
noncomputable abbrev e59_189 (p1:(List Int)):Nat×AV:=(1,z1 (sub p1 0 (if 11 < (zn p1) then 11 else (zn p1))))
noncomputable abbrev e59_190:Nat×AV:=(5,.ptr 0 0 0)
noncomputable abbrev e59_191 (x5:((List Int) × (List Int) × (List Int))):Nat×AV:=(27,.agg [eL true (AV.int .u64) x5.1,eL true (AV.int .u64) x5.2.1,eL true (AV.int .u64) x5.2.2])
noncomputable abbrev e59_192 (a10:(List Int)):Nat×AV:=(8,eL true (AV.int .u64) a10)
noncomputable abbrev e59_193 (p2:Tharuspexref08_Draft):Nat×AV:=(48,.agg [.int .u8 p2.N,eL true (fun x:(Int × Int)=>AV.agg [.int .u8 x.1,.int .u8 x.2]) p2.E,eL true (AV.int .u8) p2.Order])
noncomputable abbrev e59_194 (p1 x22:(List Int)):Nat×AV:=(50,.agg [z1 (sub p1 0 (if 11 < (zn p1) then 11 else (zn p1))),z1 x22])
noncomputable abbrev e59_195 (p1 x45:(List Int)):Nat×AV:=(50,.agg [z1 (sub p1 0 (if 11 < (zn p1) then 11 else (zn p1))),z1 x45])
noncomputable abbrev s59_196 (p1 a10:(List Int)) (x12:Bool) (x5:((List Int) × (List Int) × (List Int))):List (Nat×AV):=[(e59_189 p1),e59_190,(e59_192 a10),(9,vB x12),(e59_191 x5)]
noncomputable abbrev u59_197:St:=⟨[(6,vB false)],[],117⟩
theorem g_law08_OrderWidths_ok (p0:(List Int)) (p1:(List Int)) (p2:Tharuspexref08_Draft) (x:Bool) (h:g_law08_OrderWidths p0 p1 p2=some x):CallOk Tryd.prog 3 [eL true (AV.int .u64) p0,z1 p1,.agg [.int .u8 p2.N,eL true (fun x:(Int × Int)=>AV.agg [.int .u8 x.1,.int .u8 x.2]) p2.E,eL true (AV.int .u8) p2.Order]] (.ret (vB x) []):=by
 refine fn_ok [] Tryd.func3 rfl (by decide +kernel) rfl ?_
 unfold g_law08_OrderWidths at h
 refine wp_eqB (base':=0) (st':=⟨[(0,eL true (AV.int .u64) p0),(1,z1 p1),(2,.agg [.int .u8 p2.N,eL true (fun x:(Int × Int)=>AV.agg [.int .u8 x.1,.int .u8 x.2]) p2.E,eL true (AV.int .u8) p2.Order])],[],117⟩) kr kr ?_
 refine wp_seq (reg_in ?_)
 refine sgL false [] [] false gE ?_
 refine sz 1 2 (reg_end rfl (wp_seq (wp_seq (reg_in ?_))))
 refine callW bodyB_11 (g_law08_works_ok ) h (fun x1 _ h=>?_)
 refine sz 1 2 (reg_end rfl ?_)
 refine wb [19] h (fun q4 h=>?_) (fun q4 h=>?_)
 ·refine wcT (wp_seq (wg [] [] (rn ?_)))
  refine wgc [6] [] u59_197 ?_
  cases h
  exact wp_ret (show fnOut _ _ _ _=_ from by kernel_rfl)
 refine wcF (wp_skip (wp_seq (reg_in (sz 2 2 ?_))))
 refine lenL (enc:=eI) (l:=p1) (fl:=true) kr gE ?_
 refine sz 1 4 ?_
 refine sliceL (enc:=eI) (l:=p1) (fl:=true) (lo:=none) (hi:=(some (vI (if 11 < (zn p1) then 11 else (zn p1))))) (a:=0) (b:=(if 11 < (zn p1) then 11 else (zn p1))) (w:=1) kr (fun _=>rfl) rfl rfl gE h (fun h=>?_)
 refine sz 1 6 (reg_end rfl (wp_seq (wp_seq ?_)))
 refine wgc [0,1,5] [0] ⟨[(0,eL true (AV.int .u64) p0),(e59_189 p1),e59_190],[(o59_188 p2)],117⟩ ?_
 refine reg_in (sz 2 2 ?_)
 refine callW bodyB_12 (g_law08_graphs_ok p0 p2) h (fun x5 _ h=>?_)
 refine sz 1 4 (reg_end rfl (wp_block ?_))
 refine wwh h (fun s7=>⟨[(e59_189 p1),e59_190,(e59_191 x5),(28,vI s7)],[(o59_188 p2)],117⟩) (fun x out=>out=match x with | .inl v=>.go (.ret) u59_197 | .inr v=>.go (.exit 0) ⟨[],[],117⟩) (wk_gc (live:=[1,5,27,28]) (keep:=[0]) kr) ?_ ?_
 ·intro s7 o h
  unfold g_law08_OrderWidths_b2 at h
  refine sq (wp_seq ?_)
  refine wb [29] h (fun q9 h=>?_) (fun q9 h=>?_)
  ·refine wcT (wp_skip (wp_seq (wp_block (wp_seq (reg_in ?_)))))
   refine bind_elim h (fun a10 q11 h=>?_)
   refine idxA (enc:=(eL true (AV.int .u64))) (l:=([x5.1,x5.2.1,x5.2.2]:(List (List Int)))) (n:=s7) (a:=a10) (w:=1) (g:=false) (v:=eL true (AV.int .u64) a10) kr (fun _=>rfl) rfl q11 kr gE ?_
   refine sz 1 2 (reg_end rfl (wp_seq (reg_in (sz 1 1 ?_))))
   refine callW bodyB_13 (g_ref08_Right_ok a10) h (fun x12 _ h=>?_)
   refine sz 1 3 (reg_end rfl (wp_seq (wp_seq (reg_in (sz 1 1 ?_)))))
   refine callW bodyB_14 (g_order_Check_ok a10) h (fun x14 _ h=>?_)
   refine sz 1 3 (reg_end rfl (wp_seq ?_))
   refine wgc [1,5,27,28,8,9,10] [0] ⟨[(e59_189 p1),e59_190,(e59_191 x5),(28,vI s7),(e59_192 a10),(9,vB x12),(10,vI x14)],[(o59_188 p2)],117⟩ ?_
   refine reg_in (sz 5 5 (rwg [1,5,27,28,8,9,10,39] [0] ?_))
   refine rb [39] h (fun q17 h=>?_) (fun q17 h=>?_)
   ·refine sz 7 12 (reg_end rfl (wcT (wp_seq (wg [] [] (rn ?_)))))
    refine wgc [6] [] u59_197 ?_
    refine wp_ret ?_
    cases h
    exact ⟨kr,rfl⟩
   refine sz 3 8 ?_
   refine rb [41,42] h (fun q19 h=>?_) (fun q19 h=>?_)
   ·refine sz 4 12 (reg_end rfl ?_)
    refine wbz h (fun q21 h=>?_) (fun q21 h=>?_)
    ·refine wp_seq ?_
     refine wgc [] [] ⟨[],[],117⟩ ?_
     refine rn (wg [6] [] ?_)
     refine wp_ret ?_
     cases h
     exact ⟨kr,rfl⟩
    refine wp_skip (wp_seq ?_)
    refine wgc [1,5,27,28,8,9] [0] ⟨[(e59_189 p1),e59_190,(e59_191 x5),(28,vI s7),(e59_192 a10),(9,vB x12)],[(o59_188 p2)],117⟩ ?_
    refine reg_in (sz 2 2 ?_)
    refine callW bodyB_15 (g_ref08_Draft_List_ok p2) h (fun x22 _ h=>?_)
    refine sgz 2 5 (S:=⟨[(e59_189 p1),e59_190,(e59_191 x5),(28,vI s7),(e59_192 a10),(9,vB x12),(47,z1 (sub p1 0 (if 11 < (zn p1) then 11 else (zn p1)))),(e59_193 p2),(49,.ref 1 0 x22.length),(50,.agg [z1 (sub p1 0 (if 11 < (zn p1) then 11 else (zn p1))),.ref 1 0 x22.length]),(51,vI 0)],[(o59_188 p2),oR true 1 eI x22],117⟩) ?_
    refine reg_end rfl (wp_block ?_)
    refine wwh h (fun s24=>⟨(s59_196 p1 a10 x12 x5)++[(28,vI s7),(e59_194 p1 x22),(51,vI s24)],[(o59_188 p2)],117⟩) (fun x out=>out=match x with | .inl v=>.go (.ret) u59_197 | .inr v=>.go (.exit 2) ⟨[(e59_189 p1),e59_190,(e59_191 x5),(28,vI s7)],[(o59_188 p2)],117⟩) (wk_trans (wk_gc (live:=[1,5,8,9,27,28,50,51]) (keep:=[0,1]) (st':=⟨(s59_196 p1 a10 x12 x5)++[(28,vI s7),(50,.agg [z1 (sub p1 0 (if 11 < (zn p1) then 11 else (zn p1))),.ref 1 0 x22.length]),(51,vI 0)],[(o59_188 p2),oR true 1 eI x22],117⟩) kr) (wk_trans (wk_snap (st':=⟨(s59_196 p1 a10 x12 x5)++[(28,vI s7),(e59_194 p1 x22),(51,vI 0)],[(o59_188 p2),.row false true true true 1 (List.map eI x22)],117⟩) 50 (y:=.agg [z1 (sub p1 0 (if 11 < (zn p1) then 11 else (zn p1))),z1 x22]) (ids:=[1]) rfl (snap_agg (msnap_cons rfl (msnap_cons (snap_full (w:=1) (bx:=false) (ro:=false) (enc:=eI) (l:=x22) (fl:=true) kr) msnap_nil (by rfl)) (by rfl))) kr) (wk_gc (live:=[1,5,8,9,27,28,50,51]) (keep:=[0]) kr))) ?_ ?_
    ·intro s24 o h
     unfold g_law08_OrderWidths_b0 at h
     refine sq (wp_seq ?_)
     refine wb [52] h (fun q26 h=>?_) (fun q26 h=>?_)
     ·refine wcT (wp_skip (wp_seq (wp_block (wp_seq (reg_in ?_)))))
      refine bind_elim h (fun a27 q28 h=>?_)
      refine idxA (enc:=z1) (l:=([(sub p1 0 (if 11 < (zn p1) then 11 else (zn p1))),x22]:(List (List Int)))) (n:=s24) (a:=a27) (w:=1) (g:=false) (v:=z1 a27) kr (fun _=>rfl) rfl q28 kr gE ?_
      refine sz 1 2 (reg_end rfl (wp_seq (reg_in (sz 2 2 ?_))))
      refine callW bodyB_16 (g_order_Fill_ok a10 a27) h (fun x29 _ h=>?_)
      refine sz 5 8 (reg_end rfl (wp_seq ?_))
      refine wgc [1,5,8,9,27,28,50,51,12,13,14] [0,1] ⟨(s59_196 p1 a10 x12 x5)++[(28,vI s7),(e59_194 p1 x22),(51,vI s24),(12,z1 a27),(13,.ref 1 0 x29.1.length),(14,vI x29.2)],[(o59_188 p2),oR true 2 (fun x:(Int × Int)=>AV.agg [vI x.1,vI x.2]) x29.1],117⟩ ?_
      refine reg_in (sz 2 2 ?_)
      refine callW bodyB_17 (g_order_Width_ok a10 a27) h (fun x31 _ h=>?_)
      refine sz 5 8 (reg_end rfl (wp_seq (wg [1,5,8,9,27,28,50,51,12,13,14,15,16] [0,1] (rn (wp_seq (wp_block (sq ?_)))))))
      refine wk [68,66] q19 ?_
      refine wcT (rn (wp_seq (sq (wcT (wp_seq (wp_seq ?_))))))
      refine wgc [1,5,8,9,27,28,50,51,13,14,15,16,17] [0,1] ⟨(s59_196 p1 a10 x12 x5)++[(28,vI s7),(e59_194 p1 x22),(51,vI s24),(13,.ref 1 0 x29.1.length),(14,vI x29.2),(15,vI x31.1),(16,vI x31.2),(17,vI 80)],[(o59_188 p2),oR true 2 (fun x:(Int × Int)=>AV.agg [vI x.1,vI x.2]) x29.1],117⟩ ?_
      refine reg_in (sz 4 4 (rwg [1,5,8,9,27,28,50,51,14,15,16,17,80] [0] ?_))
      refine rb [80] h (fun q35 h=>?_) (fun q35 h=>?_)
      ·refine sz 13 17 (reg_end rfl (wcT (wp_seq ?_)))
       refine wgc [] [] ⟨[],[],117⟩ ?_
       refine rn (wg [6] [] ?_)
       refine wp_ret ?_
       cases h
       exact ⟨kr,rfl⟩
      refine sz 5 9 (rwg [1,5,8,9,27,28,50,51,15,16,17,85] [0] ?_)
      refine rb [85] h (fun q37 h=>?_) (fun q37 h=>?_)
      ·refine sz 8 17 (reg_end rfl (wcT (wp_seq ?_)))
       refine wgc [] [] ⟨[],[],117⟩ ?_
       refine rn (wg [6] [] ?_)
       refine wp_ret ?_
       cases h
       exact ⟨kr,rfl⟩
      refine sz 4 13 (rwg [1,5,8,9,27,28,50,51,16,17,89] [0] ?_)
      refine rb [89] h (fun q39 h=>?_) (fun q39 h=>?_)
      ·refine sz 4 17 (reg_end rfl (wcT (wp_seq ?_)))
       refine wgc [] [] ⟨[],[],117⟩ ?_
       refine rn (wg [6] [] ?_)
       refine wp_ret ?_
       cases h
       exact ⟨kr,rfl⟩
      refine sz 4 17 (reg_end rfl ?_)
      refine wbz h (fun q41 h=>?_) (fun q41 h=>?_)
      ·refine wp_seq ?_
       refine wgc [] [] ⟨[],[],117⟩ ?_
       refine rn (wg [6] [] ?_)
       refine wp_ret ?_
       cases h
       exact ⟨kr,rfl⟩
      refine wp_skip ?_
      refine wgc [1,5,8,9,27,28,50,51] [0] ⟨(s59_196 p1 a10 x12 x5)++[(28,vI s7),(e59_194 p1 x22),(51,vI s24)],[(o59_188 p2)],117⟩ ?_
      refine wp_exit ?_
      refine rn ?_
      cases h
      exact ⟨_,rfl,(wk_gc (live:=[1,5,8,9,27,28,50,51]) (keep:=[0]) kr)⟩
     refine wcF (wg [1,5,27,28] [0] ?_)
     refine wp_exit ?_
     cases h
     exact ⟨kr,rfl⟩
    intro x42 h out hx
    subst hx
    rcases x42 with x43 | x44
    ·dsimp only at h ⊢
     cases h
     exact ⟨kr,rfl⟩
    ·dsimp only at h ⊢
     refine rn ?_
     cases h
     exact ⟨_,rfl,(wk_gc (live:=[1,5,27,28]) (keep:=[0]) kr)⟩
   refine sz 4 12 (reg_end rfl (wcF (wp_skip (wp_seq ?_))))
   refine wgc [1,5,27,28,8,9] [0] ⟨[(e59_189 p1),e59_190,(e59_191 x5),(28,vI s7),(e59_192 a10),(9,vB x12)],[(o59_188 p2)],117⟩ ?_
   refine reg_in (sz 2 2 ?_)
   refine callW bodyB_15 (g_ref08_Draft_List_ok p2) h (fun x45 _ h=>?_)
   refine sgz 2 5 (S:=⟨[(e59_189 p1),e59_190,(e59_191 x5),(28,vI s7),(e59_192 a10),(9,vB x12),(47,z1 (sub p1 0 (if 11 < (zn p1) then 11 else (zn p1)))),(e59_193 p2),(49,.ref 1 0 x45.length),(50,.agg [z1 (sub p1 0 (if 11 < (zn p1) then 11 else (zn p1))),.ref 1 0 x45.length]),(51,vI 0)],[(o59_188 p2),oR true 1 eI x45],117⟩) ?_
   refine reg_end rfl (wp_block ?_)
   refine wwh h (fun s47=>⟨(s59_196 p1 a10 x12 x5)++[(28,vI s7),(e59_195 p1 x45),(51,vI s47)],[(o59_188 p2)],117⟩) (fun x out=>out=match x with | .inl v=>.go (.ret) u59_197 | .inr v=>.go (.exit 2) ⟨[(e59_189 p1),e59_190,(e59_191 x5),(28,vI s7)],[(o59_188 p2)],117⟩) (wk_trans (wk_gc (live:=[1,5,8,9,27,28,50,51]) (keep:=[0,1]) (st':=⟨(s59_196 p1 a10 x12 x5)++[(28,vI s7),(50,.agg [z1 (sub p1 0 (if 11 < (zn p1) then 11 else (zn p1))),.ref 1 0 x45.length]),(51,vI 0)],[(o59_188 p2),oR true 1 eI x45],117⟩) kr) (wk_trans (wk_snap (st':=⟨(s59_196 p1 a10 x12 x5)++[(28,vI s7),(e59_195 p1 x45),(51,vI 0)],[(o59_188 p2),.row false true true true 1 (List.map eI x45)],117⟩) 50 (y:=.agg [z1 (sub p1 0 (if 11 < (zn p1) then 11 else (zn p1))),z1 x45]) (ids:=[1]) rfl (snap_agg (msnap_cons rfl (msnap_cons (snap_full (w:=1) (bx:=false) (ro:=false) (enc:=eI) (l:=x45) (fl:=true) kr) msnap_nil (by rfl)) (by rfl))) kr) (wk_gc (live:=[1,5,8,9,27,28,50,51]) (keep:=[0]) kr))) ?_ ?_
   ·intro s47 o h
    unfold g_law08_OrderWidths_b1 at h
    refine sq (wp_seq ?_)
    refine wb [52] h (fun q49 h=>?_) (fun q49 h=>?_)
    ·refine wcT (wp_skip (wp_seq (wp_block (wp_seq (reg_in ?_)))))
     refine bind_elim h (fun a50 q51 h=>?_)
     refine idxA (enc:=z1) (l:=([(sub p1 0 (if 11 < (zn p1) then 11 else (zn p1))),x45]:(List (List Int)))) (n:=s47) (a:=a50) (w:=1) (g:=false) (v:=z1 a50) kr (fun _=>rfl) rfl q51 kr gE ?_
     refine sz 1 2 (reg_end rfl (wp_seq (reg_in (sz 2 2 ?_))))
     refine callW bodyB_16 (g_order_Fill_ok a10 a50) h (fun x52 _ h=>?_)
     refine sz 5 8 (reg_end rfl (wp_seq ?_))
     refine wgc [1,5,8,9,27,28,50,51,12,13,14] [0,1] ⟨(s59_196 p1 a10 x12 x5)++[(28,vI s7),(e59_195 p1 x45),(51,vI s47),(12,z1 a50),(13,.ref 1 0 x52.1.length),(14,vI x52.2)],[(o59_188 p2),oR true 2 (fun x:(Int × Int)=>AV.agg [vI x.1,vI x.2]) x52.1],117⟩ ?_
     refine reg_in (sz 2 2 ?_)
     refine callW bodyB_17 (g_order_Width_ok a10 a50) h (fun x54 _ h=>?_)
     refine sz 5 8 (reg_end rfl (wp_seq (wg [1,5,8,9,27,28,50,51,12,13,14,15,16] [0,1] (rn (wp_seq (wp_block (sq ?_)))))))
     refine wk [68,66] q19 ?_
     refine wcF (wp_seq (reg_in (sz 2 2 ?_)))
     refine lenL (enc:=(AV.int .u64)) (l:=a10) (fl:=true) kr gE ?_
     refine callW bodyB_18 (g_ref02_Permutation_ok a50 (zn a10)) h (fun x57 _ h=>?_)
     refine sz 2 6 (reg_end rfl ?_)
     refine wbz h (fun q60 h=>?_) (fun q60 h=>?_)
     ·refine wgc [1,5,8,9,27,28,50,51,12,13,14,15,16] [0,1] ⟨(s59_196 p1 a10 x12 x5)++[(28,vI s7),(e59_195 p1 x45),(51,vI s47),(12,z1 a50),(13,.ref 1 0 x52.1.length),(14,vI x52.2),(15,vI x54.1),(16,vI x54.2)],[(o59_188 p2),oR true 2 (fun x:(Int × Int)=>AV.agg [vI x.1,vI x.2]) x52.1],117⟩ ?_
      refine rn (wp_seq (sq (wcT (wp_seq (wp_seq (reg_in (sz 4 4 (rwg [1,5,8,9,27,28,50,51,14,15,16,17,80] [0] ?_))))))))
      refine rb [80] h (fun q62 h=>?_) (fun q62 h=>?_)
      ·refine sz 13 17 (reg_end rfl (wcT (wp_seq ?_)))
       refine wgc [] [] ⟨[],[],117⟩ ?_
       refine rn (wg [6] [] ?_)
       refine wp_ret ?_
       cases h
       exact ⟨kr,rfl⟩
      refine sz 5 9 ?_
      refine rw_wk (wk_gc (live:=[1,5,8,9,27,28,50,51,15,16,17,85]) (keep:=[0]) (st':=⟨(s59_196 p1 a10 x12 x5)++[(28,vI s7),(e59_195 p1 x45),(51,vI s47),(15,vI x54.1),(16,vI x54.2),(17,vI 81),(85,vB (x52.2 != 81))],[(o59_188 p2)],117⟩) kr) ?_
      refine rb [85] h (fun q64 h=>?_) (fun q64 h=>?_)
      ·refine sz 8 17 (reg_end rfl (wcT (wp_seq (wg [] [] (rn (wg [6] [] ?_))))))
       refine wp_ret ?_
       cases h
       exact ⟨kr,rfl⟩
      refine sz 4 13 (rwg [1,5,8,9,27,28,50,51,16,17,89] [0] ?_)
      refine rb [89] h (fun q66 h=>?_) (fun q66 h=>?_)
      ·refine sz 4 17 (reg_end rfl (wcT (wp_seq (wg [] [] (rn ?_)))))
       refine wgc [6] [] u59_197 ?_
       refine wp_ret ?_
       cases h
       exact ⟨kr,rfl⟩
      refine sz 4 17 (reg_end rfl ?_)
      refine wbz h (fun q68 h=>?_) (fun q68 h=>?_)
      ·refine wp_seq (wg [] [] (rn ?_))
       refine wgc [6] [] u59_197 ?_
       refine wp_ret ?_
       cases h
       exact ⟨kr,rfl⟩
      refine wp_skip (wg [1,5,8,9,27,28,50,51] [0] ?_)
      refine wp_exit ?_
      refine rn ?_
      cases h
      exact ⟨_,rfl,(wk_gc (live:=[1,5,8,9,27,28,50,51]) (keep:=[0]) kr)⟩
     refine wp_skip (wp_seq (wp_seq ?_))
     refine wgc [1,5,8,9,27,28,50,51,12,13,14,15,16,17] [0,1] ⟨(s59_196 p1 a10 x12 x5)++[(28,vI s7),(e59_195 p1 x45),(51,vI s47),(12,z1 a50),(13,.ref 1 0 x52.1.length),(14,vI x52.2),(15,vI x54.1),(16,vI x54.2),(17,vI 0)],[(o59_188 p2),oR true 2 (fun x:(Int × Int)=>AV.agg [vI x.1,vI x.2]) x52.1],117⟩ ?_
     refine rn (wcF (wp_skip (wp_seq (reg_in (sz 3 3 (rwg [1,5,8,9,27,28,50,51,12,13,15,16,96] [0,1] ?_))))))
     refine rb [96] h (fun q70 h=>?_) (fun q70 h=>?_)
     ·refine sz 18 21 (reg_end rfl (wcT (wp_seq ?_)))
      refine wgc [] [] ⟨[],[],117⟩ ?_
      refine rn (wg [6] [] ?_)
      refine wp_ret ?_
      cases h
      exact ⟨kr,rfl⟩
     refine sz 3 6 ?_
     refine callW bodyB_20 (g_ref08_Fill_ok a10 a50) h (fun x71 _ h=>?_)
     refine callR (as0:=[.ref 1 0 x52.1.length,.ref 2 0 x71.length]) (ids:=[1,2]) kr bodyB_19 (msnap_cons (snap_full (w:=2) (bx:=false) (ro:=false) (enc:=(fun x:(Int × Int)=>AV.agg [vI x.1,vI x.2])) (l:=x52.1) (fl:=true) kr) (msnap_cons (snap_full (w:=2) (bx:=false) (ro:=false) (enc:=(fun x:(Int × Int)=>AV.agg [vI x.1,vI x.2])) (l:=x71) (fl:=true) kr) msnap_nil (by rfl)) (by rfl)) (fun x73 q74=>g_ref08_Pairs_ok x52.1 x71 x73 q74) gF h (fun x73 q74 h=>?_)
     refine sz 3 11 ?_
     refine rw_wk (wk_gc (live:=[1,5,8,9,27,28,50,51,12,15,16,104]) (keep:=[0]) (st':=⟨(s59_196 p1 a10 x12 x5)++[(28,vI s7),(e59_195 p1 x45),(51,vI s47),(12,z1 a50),(15,vI x54.1),(16,vI x54.2),(104,vB (!x73))],[(o59_188 p2)],117⟩) kr) ?_
     refine rb [104] h (fun q76 h=>?_) (fun q76 h=>?_)
     ·refine sz 10 21 (reg_end rfl (wcT (wp_seq (wg [] [] (rn ?_)))))
      refine wgc [6] [] u59_197 ?_
      refine wp_ret ?_
      cases h
      exact ⟨kr,rfl⟩
     refine sz 4 15 (rwg [1,5,8,9,27,28,50,51,12,15,108] [0] ?_)
     refine rb [108] h (fun q78 h=>?_) (fun q78 h=>?_)
     ·refine sz 6 21 (reg_end rfl (wcT (wp_seq (wg [] [] (rn ?_)))))
      refine wgc [6] [] u59_197 ?_
      refine wp_ret ?_
      cases h
      exact ⟨kr,rfl⟩
     refine sz 3 18 ?_
     refine callW bodyB_21 (g_ref08_Width_ok a10 a50) h (fun x79 _ h=>?_)
     refine sz 2 21 (reg_end rfl ?_)
     refine wbz h (fun q82 h=>?_) (fun q82 h=>?_)
     ·refine wp_seq (wg [] [] (rn ?_))
      refine wgc [6] [] u59_197 ?_
      refine wp_ret ?_
      cases h
      exact ⟨kr,rfl⟩
     refine wp_skip (wg [1,5,8,9,27,28,50,51] [0] (rn ?_))
     cases h
     exact ⟨_,rfl,(wk_gc (live:=[1,5,8,9,27,28,50,51]) (keep:=[0]) kr)⟩
    refine wcF (wg [1,5,27,28] [0] ?_)
    refine wp_exit ?_
    cases h
    exact ⟨kr,rfl⟩
   intro x83 h out hx
   subst hx
   rcases x83 with x84 | x85
   ·dsimp only at h ⊢
    cases h
    exact ⟨kr,rfl⟩
   ·dsimp only at h ⊢
    refine rn ?_
    cases h
    exact ⟨_,rfl,(wk_gc (live:=[1,5,27,28]) (keep:=[0]) kr)⟩
  refine wcF (wg [] [] ?_)
  refine wp_exit ?_
  cases h
  exact ⟨kr,rfl⟩
 intro x86 h out hx
 subst hx
 rcases x86 with x87 | x88
 ·dsimp only at h ⊢
  cases h
  show fnOut _ _ _ _=_
  kernel_rfl
 ·dsimp only at h ⊢
  refine sq (wg [6] [] ?_)
  cases h
  exact wp_ret (show fnOut _ _ _ _=_ from by kernel_rfl)
end Go.Ab
namespace Go.Ab
open Go
theorem w64 {n:Int} (h:-9223372036854775808≤n∧n≤9223372036854775807):IntKind.i64.wrap n=n:=by rw [IntKind.wrap_i64]; omega
theorem lkI_nat {α:Type} {l:List α} {k:Nat} (h:k < l.length):lkI l (k:Int)=some l[k]:=by
 unfold lkI
 rw [if_neg (by omega),Int.toNat_natCast,List.getElem?_eq_getElem h]
theorem tmod_pos {a b:Int} (h:0≤a):Int.tmod a b=a % b:=Int.tmod_eq_emod_of_nonneg h
end Go.Ab
namespace Go.Ab
open Go
theorem one62 {cs:List AV} (h:WT (.int .u64) cs):∃a:Int,cs=[(AV.int .u64) a]∧(Lit.int .u64 a).wf=true:=by
 obtain ⟨n,rfl,w⟩:=h
 exact ⟨n,rfl,w⟩
theorem el62 {x:AV} (h:WT (.int .u64) x.flat ∧ (if false then x=.agg x.flat else x.cell=true)):∃a:Int,x=(AV.int .u64) a∧(Lit.int .u64 a).wf=true:=by
 obtain ⟨a,h1,h2⟩:=one62 h.1
 rw [flat_cell h.2] at h1
 exact ⟨a,(List.cons.inj h1).1,h2⟩
theorem one22 {cs:List AV} (h:WT (.slice true false 1 (.int .u64)) cs):∃a:(List Int),cs=[(eL true (AV.int .u64)) a]∧(a.length≤maxLen∧∀y0∈a,(Lit.int .u64 y0).wf=true):=by
 obtain ⟨xs,rfl,hl,hx⟩:=h
 obtain ⟨l,rfl,hr⟩:=lists_of (enc:=(AV.int .u64)) (R:=fun a=>(Lit.int .u64 a).wf=true) (fun x hm=>el62 (hx x hm))
 exact ⟨l,rfl,by simpa using hl,hr⟩
theorem one3 {cs:List AV} (h:WT (.int .i64) cs):∃a:Int,cs=[eI a]∧(Lit.int .i64 a).wf=true:=by
 obtain ⟨n,rfl,w⟩:=h
 exact ⟨n,rfl,w⟩
theorem el3 {x:AV} (h:WT (.int .i64) x.flat ∧ (if false then x=.agg x.flat else x.cell=true)):∃a:Int,x=eI a∧(Lit.int .i64 a).wf=true:=by
 obtain ⟨a,h1,h2⟩:=one3 h.1
 rw [flat_cell h.2] at h1
 exact ⟨a,(List.cons.inj h1).1,h2⟩
theorem one23 {cs:List AV} (h:WT (.slice true false 1 (.int .i64)) cs):∃a:(List Int),cs=[(eL true eI) a]∧(a.length≤maxLen∧∀y0∈a,(Lit.int .i64 y0).wf=true):=by
 obtain ⟨xs,rfl,hl,hx⟩:=h
 obtain ⟨l,rfl,hr⟩:=lists_of (enc:=eI) (R:=fun a=>(Lit.int .i64 a).wf=true) (fun x hm=>el3 (hx x hm))
 exact ⟨l,rfl,by simpa using hl,hr⟩
theorem one5 {cs:List AV} (h:WT (.int .u8) cs):∃a:Int,cs=[(AV.int .u8) a]∧(Lit.int .u8 a).wf=true:=by
 obtain ⟨n,rfl,w⟩:=h
 exact ⟨n,rfl,w⟩
theorem el5 {x:AV} (h:WT (.int .u8) x.flat ∧ (if false then x=.agg x.flat else x.cell=true)):∃a:Int,x=(AV.int .u8) a∧(Lit.int .u8 a).wf=true:=by
 obtain ⟨a,h1,h2⟩:=one5 h.1
 rw [flat_cell h.2] at h1
 exact ⟨a,(List.cons.inj h1).1,h2⟩
theorem rdA113 {cs:List AV} (h:WT (.cat (.int .u8) (.cat (.int .u8) .unit)) cs):∃x:(Int × Int),AV.agg cs=(fun x:(Int × Int)=>AV.agg [.int .u8 x.1,.int .u8 x.2]) x∧((Lit.int .u8 x.1).wf=true∧(Lit.int .u8 x.2).wf=true):=by
 obtain ⟨_,_,rfl,a0,r0⟩:=h
 obtain ⟨v0,e0,w0⟩:=one5 a0
 cases e0
 obtain ⟨_,_,rfl,a1,r1⟩:=r0
 obtain ⟨v1,e1,w1⟩:=one5 a1
 cases e1
 cases r1
 exact ⟨(v0,v1),rfl,⟨w0,w1⟩⟩
theorem el113 {x:AV} (h:WT (.cat (.int .u8) (.cat (.int .u8) .unit)) x.flat ∧ (if true then x=.agg x.flat else x.cell=true)):∃a:(Int × Int),x=(fun x:(Int × Int)=>AV.agg [.int .u8 x.1,.int .u8 x.2]) a∧((Lit.int .u8 a.1).wf=true∧(Lit.int .u8 a.2).wf=true):=by
 obtain ⟨a,h1,h2⟩:=rdA113 h.1
 have h3:x=.agg x.flat := h.2
 exact ⟨a,h3.trans h1,h2⟩
theorem one24 {cs:List AV} (h:WT (.slice true true 2 (.cat (.int .u8) (.cat (.int .u8) .unit))) cs):∃a:(List (Int × Int)),cs=[(eL true (fun x:(Int × Int)=>AV.agg [.int .u8 x.1,.int .u8 x.2])) a]∧(a.length≤maxLen∧∀y0∈a,((Lit.int .u8 y0.1).wf=true∧(Lit.int .u8 y0.2).wf=true)):=by
 obtain ⟨xs,rfl,hl,hx⟩:=h
 obtain ⟨l,rfl,hr⟩:=lists_of (enc:=(fun x:(Int × Int)=>AV.agg [.int .u8 x.1,.int .u8 x.2])) (R:=fun a=>((Lit.int .u8 a.1).wf=true∧(Lit.int .u8 a.2).wf=true)) (fun x hm=>el113 (hx x hm))
 exact ⟨l,rfl,by simpa using hl,hr⟩
theorem one25 {cs:List AV} (h:WT (.slice true false 1 (.int .u8)) cs):∃a:(List Int),cs=[(eL true (AV.int .u8)) a]∧(a.length≤maxLen∧∀y0∈a,(Lit.int .u8 y0).wf=true):=by
 obtain ⟨xs,rfl,hl,hx⟩:=h
 obtain ⟨l,rfl,hr⟩:=lists_of (enc:=(AV.int .u8)) (R:=fun a=>(Lit.int .u8 a).wf=true) (fun x hm=>el5 (hx x hm))
 exact ⟨l,rfl,by simpa using hl,hr⟩
def okTharuspexref08_Draft (x:Tharuspexref08_Draft):Prop:=((Lit.int .u8 x.N).wf=true)∧((x.E.length≤maxLen∧∀y0∈x.E,((Lit.int .u8 y0.1).wf=true∧(Lit.int .u8 y0.2).wf=true)))∧((x.Order.length≤maxLen∧∀y0∈x.Order,(Lit.int .u8 y0).wf=true))
theorem rdTharuspexref08_Draft {cs:List AV} (h:WT (.cat (.int .u8) (.cat (.slice true true 2 (.cat (.int .u8) (.cat (.int .u8) .unit))) (.cat (.slice true false 1 (.int .u8)) .unit))) cs):∃x:Tharuspexref08_Draft,AV.agg cs=eTharuspexref08_Draft x∧okTharuspexref08_Draft x:=by
 obtain ⟨_,_,rfl,a0,r0⟩:=h
 obtain ⟨v0,e0,w0⟩:=one5 a0
 cases e0
 obtain ⟨_,_,rfl,a1,r1⟩:=r0
 obtain ⟨v1,e1,w1⟩:=one24 a1
 cases e1
 obtain ⟨_,_,rfl,a2,r2⟩:=r1
 obtain ⟨v2,e2,w2⟩:=one25 a2
 cases e2
 cases r2
 exact ⟨⟨v0,v1,v2⟩,rfl,⟨w0,w1,w2⟩⟩
end Go.Ab
namespace Go.Ab
open Go
set_option maxRecDepth 100000
set_option maxHeartbeats 400000
def msk:Nat → (Nat → Bool)→Nat
 | 0,_=>0
 | n+1,p=>msk n p ||| (if p n then 2^n else 0)
theorem msk_bit (n:Nat) (p:Nat → Bool) (i:Nat):(msk n p).testBit i=(decide (i < n) && p i):=by
 induction n with
 | zero=>simp [msk]
 | succ n ih =>
  unfold msk
  rw [Nat.testBit_or,ih]
  by_cases h:i=n
  ·subst h
   cases hp:p i <;> simp [hp]
  ·have e:decide (i < n+1)=decide (i < n):=by by_cases h2:i < n <;> simp [h2] <;> omega
   rw [e]
   cases hp:p n
   ·simp
   ·simp only [if_true,Nat.testBit_two_pow]
    have e2:¬ n=i:=fun e=>h e.symm
    simp [e2]
theorem msk_lt (n:Nat) (p:Nat → Bool):msk n p < 2^n:=by
 induction n with
 | zero=>simp [msk]
 | succ n ih =>
  unfold msk
  refine Nat.or_lt_two_pow (Nat.lt_of_lt_of_le ih (Nat.pow_le_pow_right (by omega) (by omega))) ?_
  split
  ·exact Nat.pow_lt_pow_right (by omega) (by omega)
  ·exact Nat.two_pow_pos _
theorem msk_eq {n:Nat} {p:Nat → Bool} {a:Nat} (ha:a < 2^n) (h:∀i,i < n→a.testBit i=p i):a=msk n p:=by
 apply Nat.eq_of_testBit_eq
 intro i
 rw [msk_bit]
 by_cases hi:i < n
 ·simp [hi,h i hi]
 ·rw [Nat.testBit_lt_two_pow (Nat.lt_of_lt_of_le ha (Nat.pow_le_pow_right (by omega) (by omega)))]; simp [hi]
theorem msk_congr {n:Nat} {p q:Nat → Bool} (h:∀i,i < n→p i=q i):msk n p=msk n q :=
 msk_eq (msk_lt n p) fun i hi=>by rw [msk_bit,h i hi]; simp [hi]
theorem lt1024 {n a:Nat} (hn:n≤10) (ha:a < 2^n):a < 1024:=Nat.lt_of_lt_of_le ha (Nat.pow_le_pow_right (n:=2) (by omega) hn)
theorem lt64 {n a:Nat} (hn:n≤10) (ha:a < 2^n):a < 18446744073709551616:=by have:=lt1024 hn ha; omega
theorem u64_nat {n:Nat} (h:n < 18446744073709551616):IntKind.u64.wrap (n:Int)=(n:Int):=by
 simp [IntKind.wrap,IntKind.bits,IntKind.signed]; omega
theorem bv_nat {a:Nat} (h:a < 18446744073709551616):(BitVec.ofInt (IntKind.bits .u64) (a:Int)).toNat = a:=by
 rw [BitVec.ofInt_natCast,BitVec.toNat_ofNat]
 exact Nat.mod_eq_of_lt h
theorem fdiv_pow {a k:Nat}:Int.fdiv (a:Int) ((2:Int)^k)=((a / 2^k:Nat):Int):=by
 rw [Int.fdiv_eq_ediv_of_nonneg _ (by exact_mod_cast Nat.zero_le (2^k))]
 simp
theorem bv_bit {a j:Nat} (h:a < 18446744073709551616):(BitVec.ofInt (IntKind.bits .u64) (a:Int)).getLsbD j=a.testBit j:=by unfold BitVec.getLsbD; rw [bv_nat h]
theorem u_sh {v:Nat} (hv:v < 64):IntKind.u64.wrap (1*2^min (Int.toNat (v:Int)) (IntKind.bits .u64))=((2^v:Nat):Int):=by
 have hb:IntKind.bits .u64=64:=rfl
 have e0:min (Int.toNat (v:Int)) (IntKind.bits .u64)=v:=by rw [hb,Int.toNat_natCast]; omega
 have hp:2^v < 18446744073709551616:=Nat.pow_lt_pow_right (n:=64) (by omega) hv
 rw [e0,show (1:Int)*2^v=((2^v:Nat):Int) by simp,u64_nat hp]
theorem pow64 {v:Nat} (hv:v < 64):2^v < 18446744073709551616:=Nat.pow_lt_pow_right (n:=64) (by omega) hv
theorem u_diff {n:Nat} {p q:Nat → Bool} {a b:Nat} (hn:n≤64) (ha:a < 2^n) (hb:b < 18446744073709551616) (hp:∀i,i < n→a.testBit i=p i) (hq:∀i,i < n→b.testBit i=q i) :
  IntKind.u64.wrap (BitVec.ofInt (IntKind.bits .u64) (a:Int) &&& ~~~ BitVec.ofInt (IntKind.bits .u64) (b:Int)).toNat = ((msk n fun i=>p i && !q i:Nat):Int):=by
 have ha':a < 18446744073709551616:=Nat.lt_of_lt_of_le ha (Nat.pow_le_pow_right (n:=2) (by omega) hn)
 have h1:(BitVec.ofInt (IntKind.bits .u64) (a:Int) &&& ~~~ BitVec.ofInt (IntKind.bits .u64) (b:Int)).toNat < 18446744073709551616:=BitVec.isLt _
 rw [u64_nat h1]
 congr 1
 refine msk_eq ?_ fun i hi=>?_
 ·refine Nat.lt_of_le_of_lt ?_ ha
  rw [BitVec.toNat_and,bv_nat ha']
  exact Nat.and_le_left
 ·have:i < 64:=by omega
  have e:(BitVec.ofInt (IntKind.bits .u64) (a:Int) &&& ~~~ BitVec.ofInt (IntKind.bits .u64) (b:Int)).toNat.testBit i=(BitVec.ofInt (IntKind.bits .u64) (a:Int) &&& ~~~ BitVec.ofInt (IntKind.bits .u64) (b:Int)).getLsbD i:=rfl
  rw [e,BitVec.getLsbD_and,BitVec.getLsbD_not,bv_bit ha',bv_bit hb,hp i hi,hq i hi]
  have h64:i < IntKind.bits .u64:=this
  simp [h64]
theorem u_or {n:Nat} {p q:Nat → Bool} {a b:Nat} (hn:n≤64) (ha:a < 2^n) (hb:b < 2^n) (hp:∀i,i < n→a.testBit i=p i) (hq:∀i,i < n→b.testBit i=q i) :
  IntKind.u64.wrap (BitVec.ofInt (IntKind.bits .u64) (a:Int) ||| BitVec.ofInt (IntKind.bits .u64) (b:Int)).toNat = ((msk n fun i=>p i || q i:Nat):Int):=by
 have h64:2^n≤2^64:=Nat.pow_le_pow_right (n:=2) (by omega) hn
 have ha':a < 18446744073709551616:=Nat.lt_of_lt_of_le ha h64
 have hb':b < 18446744073709551616:=Nat.lt_of_lt_of_le hb h64
 rw [BitVec.toNat_or,bv_nat ha',bv_nat hb',u64_nat (Nat.or_lt_two_pow (n:=64) ha' hb')]
 congr 1
 exact msk_eq (Nat.or_lt_two_pow ha hb) fun i hi=>by rw [Nat.testBit_or,hp i hi,hq i hi]
theorem bit_pow (v i:Nat):(2^v).testBit i=decide (v=i):=Nat.testBit_two_pow
theorem bitS {n:Nat} {p:Nat → Bool}:∀i,i < n→(msk n p).testBit i=p i:=fun i hi=>by rw [msk_bit]; simp [hi]
theorem u_del {n v:Nat} {p:Nat → Bool} (hn:n≤10) (hv:v < 64):IntKind.u64.wrap (BitVec.ofInt (IntKind.bits .u64) ((msk n p:Nat):Int) &&& ~~~ BitVec.ofInt (IntKind.bits .u64) (IntKind.u64.wrap (1*2^min (Int.toNat (v:Int)) (IntKind.bits .u64)))).toNat = ((msk n fun i=>p i && !decide (v=i):Nat):Int):=by
 rw [u_sh hv]
 exact u_diff (by omega) (msk_lt n p) (pow64 hv) bitS fun i _=>bit_pow v i
theorem u_ins {n v:Nat} {p:Nat → Bool} (hn:n≤10) (hv:v < n):IntKind.u64.wrap (BitVec.ofInt (IntKind.bits .u64) ((msk n p:Nat):Int) ||| BitVec.ofInt (IntKind.bits .u64) (IntKind.u64.wrap (1*2^min (Int.toNat (v:Int)) (IntKind.bits .u64)))).toNat = ((msk n fun i=>p i || decide (v=i):Nat):Int):=by
 rw [u_sh (by omega)]
 exact u_or (by omega) (msk_lt n p) (Nat.pow_lt_pow_right (by omega) hv) bitS fun i _=>bit_pow v i
theorem u_bit {a k:Nat} (ha:a < 18446744073709551616) (hk:k < 64) :
  IntKind.u64.wrap (BitVec.ofInt (IntKind.bits .u64) (Int.fdiv (a:Int) (2^min (Int.toNat (k:Int)) (IntKind.bits .u64))) &&& BitVec.ofInt (IntKind.bits .u64) 1).toNat = ((a.testBit k).toNat : Int):=by
 have hb:IntKind.bits .u64=64:=rfl
 have e0:min (Int.toNat (k:Int)) (IntKind.bits .u64)=k:=by rw [hb,Int.toNat_natCast]; omega
 rw [e0,fdiv_pow]
 have h1:a / 2^k < 18446744073709551616:=Nat.lt_of_le_of_lt (Nat.div_le_self _ _) ha
 have e1:(BitVec.ofInt (IntKind.bits .u64) ((a / 2^k:Nat):Int) &&& BitVec.ofInt (IntKind.bits .u64) 1).toNat = (a / 2^k) % 2:=by
  rw [BitVec.toNat_and,bv_nat h1,show (BitVec.ofInt (IntKind.bits .u64) 1).toNat = 1 from rfl,Nat.and_one_is_mod]
 rw [e1,u64_nat (by omega)]
 have e2:a.testBit k=((a / 2^k) % 2==1):=by rw [Nat.testBit_eq_decide_div_mod_eq]; rfl
 rw [e2]
 rcases Nat.mod_two_eq_zero_or_one (a / 2^k) with h | h <;> rw [h] <;> rfl
theorem msk_all (n:Nat):msk n (fun _=>true)=2^n - 1:=(msk_eq (by have:=Nat.two_pow_pos n; omega) fun i hi=>by rw [Nat.testBit_two_pow_sub_one]; simp [hi]).symm
theorem u_all {n:Nat} (hn:n≤10):IntKind.u64.wrap ((IntKind.u64.wrap (1*2^min (Int.toNat (n:Int)) (IntKind.bits .u64))) - 1)=((msk n fun _=>true:Nat):Int):=by
 rw [u_sh (by omega),msk_all]
 have h1:=pow64 (v:=n) (by omega)
 have h2:=Nat.two_pow_pos n
 rw [show ((2^n:Nat):Int) - 1=((2^n - 1:Nat):Int) by omega,u64_nat (by omega)]
def cnt:Nat → (Nat → Bool)→Nat
 | 0,_=>0
 | n+1,p=>cnt n p+(p n).toNat
def tzN:Nat → (Nat → Bool)→Nat
 | 0,_=>0
 | n+1,p=>if p 0 then 0 else tzN n (fun i=>p (i+1))+1
def isS (x:Option Int) (y:Int):Bool:=match x with | some z=>z==y | none=>false
theorem isS_eq {x:Option Int} {y:Int} (h:isS x y=true):x=some y:=by
 cases x with
 | none=>cases h
 | some z=>simp only [isS,beq_iff_eq] at h; rw [h]
theorem all_at {p:Nat → Bool} {n:Nat} (h:(List.range n).all p=true) {k:Nat} (hk:k < n):p k=true:=List.all_eq_true.1 h k (List.mem_range.2 hk)
theorem T_tz:((List.range 1024).all fun R=>Nat.beq R 0 || (isS (g_math_bits_TrailingZeros (R:Int)) (tzN 10 R.testBit:Int)))=true:=by kernel_rfl
theorem T_rest:((List.range 1024).all fun R=>Nat.beq R 0 || (IntKind.u64.wrap (BitVec.ofInt (IntKind.bits .u64) (R:Int) &&& BitVec.ofInt (IntKind.bits .u64) (IntKind.u64.wrap ((R:Int) - 1))).toNat == ((msk 10 fun i=>R.testBit i && !Nat.beq (tzN 10 R.testBit) i:Nat):Int)))=true:=by kernel_rfl
theorem T_cnt:((List.range 1024).all fun R=>isS (g_math_bits_OnesCount (R:Int)) (cnt 10 R.testBit:Int))=true:=by kernel_rfl
theorem cnt_congr {n:Nat} {p q:Nat → Bool} (h:∀i,i < n→p i=q i):cnt n p=cnt n q:=by
 induction n with
 | zero=>rfl
 | succ n ih=>simp only [cnt]; rw [ih fun i hi=>h i (by omega),h n (by omega)]
theorem cnt_ext {n m:Nat} {p:Nat → Bool} (hm:n≤m) (h:∀i,n≤i→i < m→p i=false):cnt m p=cnt n p:=by
 induction m with
 | zero =>
  have:n=0:=by omega
  subst this; rfl
 | succ m ih =>
  by_cases e:n=m+1
  ·subst e; rfl
  ·simp only [cnt]; rw [h m (by omega) (by omega),ih (by omega) fun i h1 h2=>h i h1 (by omega)]; rfl
theorem oc_msk {n:Nat} (hn:n≤10) (p:Nat → Bool):g_math_bits_OnesCount ((msk n p:Nat):Int)=some (cnt n p:Int):=by
 have h:=isS_eq (all_at T_cnt (lt1024 hn (msk_lt n p)))
 rw [h]
 congr 2
 rw [cnt_ext hn fun i h1 h2=>by rw [msk_bit]; simp; omega]
 exact cnt_congr bitS
theorem cnt_le (n:Nat) (p:Nat → Bool):cnt n p≤n:=by
 induction n with
 | zero=>exact Nat.le_refl _
 | succ n ih =>
  simp only [cnt]; have:(p n).toNat ≤ 1:=by cases p n <;> decide
  omega
theorem tzN_spec:∀(n:Nat) (p:Nat → Bool),(∃i,i < n∧p i=true)→tzN n p < n∧p (tzN n p)=true∧∀i,i < tzN n p→p i=false
 | 0,p,⟨i,hi,_⟩=>by omega
 | n+1,p,⟨i,hi,h⟩=>by
  unfold tzN
  by_cases h0:p 0=true
  ·rw [if_pos h0]; exact ⟨by omega,h0,fun i hi=>by omega⟩
  ·rw [if_neg h0]
   have hi0:i≠0:=fun e=>h0 (e ▸ h)
   obtain ⟨a,b,c⟩:=tzN_spec n (fun i=>p (i+1)) ⟨i - 1,by omega,by rw [show i - 1+1=i by omega]; exact h⟩
   refine ⟨by omega,b,fun j hj=>?_⟩
   cases j with
   | zero=>simpa using h0
   | succ j=>exact c j (by omega)
theorem tzN_eq {n v:Nat} {p:Nat → Bool} (hv:v < n) (h:p v=true) (hl:∀i,i < v→p i=false):tzN n p=v:=by
 obtain ⟨a,b,c⟩:=tzN_spec n p ⟨v,hv,h⟩
 rcases Nat.lt_trichotomy (tzN n p) v with e | e | e
 ·rw [hl _ e] at b; cases b
 ·exact e
 ·rw [c v e] at h; cases h
theorem rest_msk {n v:Nat} {p:Nat → Bool} (hn:n≤10) (hv:v < n) (h:p v=true) (hl:∀i,i < v→p i=false) :
  (((msk n p:Nat):Int) != 0)=true∧g_math_bits_TrailingZeros ((msk n p:Nat):Int)=some (v:Int) ∧
  IntKind.u64.wrap (BitVec.ofInt (IntKind.bits .u64) ((msk n p:Nat):Int) &&& BitVec.ofInt (IntKind.bits .u64) (IntKind.u64.wrap (((msk n p:Nat):Int) - 1))).toNat = ((msk n fun i=>p i && !decide (v=i):Nat):Int):=by
 have hlt:=msk_lt n p
 have hR:=lt1024 hn hlt
 have hb:(msk n p).testBit v=true:=by rw [msk_bit]; simp [hv,h]
 have h0:msk n p≠0:=fun e=>by rw [e] at hb; simp at hb
 have e0:Nat.beq (msk n p) 0=false:=by
  cases e:msk n p with
  | zero=>exact absurd e h0
  | succ k=>rfl
 have etz:tzN 10 (msk n p).testBit=v:=tzN_eq (by omega) hb fun i hi=>by rw [msk_bit,hl i hi]; simp
 have h1:=all_at T_tz hR
 have h2:=all_at T_rest hR
 simp only [e0,Bool.false_or,etz] at h1 h2
 refine ⟨by simp; omega,isS_eq h1,?_⟩
 have h3:IntKind.u64.wrap (BitVec.ofInt (IntKind.bits .u64) ((msk n p:Nat):Int) &&& BitVec.ofInt (IntKind.bits .u64) (IntKind.u64.wrap (((msk n p:Nat):Int) - 1))).toNat = ((msk 10 fun i=>(msk n p).testBit i && !Nat.beq v i:Nat):Int):=by simpa using h2
 rw [h3]
 congr 1
 apply Nat.eq_of_testBit_eq
 intro j
 rw [msk_bit,msk_bit,msk_bit]
 have e:Nat.beq v j=decide (v=j):=by
  by_cases e:v=j
  ·subst e; simp
  ·rw [decide_eq_false e,Bool.eq_false_iff]; exact fun h=>e (Nat.eq_of_beq_eq_true h)
 rw [e]
 by_cases hj:j < n
 ·simp [hj,show j < 10 by omega]
 ·simp [hj]
end Go.Ab
namespace Go.Ab
open Go
set_option maxRecDepth 100000
set_option maxHeartbeats 400000
abbrev Gr:=Nat → Nat → Bool
def gl (n:Nat) (A:Gr):List Int:=(List.range n).map fun v=>((msk n (A v):Nat):Int)
theorem gl_len (n:Nat) (A:Gr):(gl n A).length=n:=by simp [gl]
theorem gl_get {n:Nat} {A:Gr} {v:Nat} (hv:v < n):(gl n A)[v]?=some ((msk n (A v):Nat):Int):=by simp [gl,hv]
theorem gl_at {n:Nat} {A:Gr} {v:Nat} (hv:v < n):lkI (gl n A) (v:Int)=some ((msk n (A v):Nat):Int):=by
 unfold lkI
 rw [if_neg (by omega),Int.toNat_natCast,gl_get hv]
theorem gl_congr {n:Nat} {A B:Gr} (h:∀u w,u < n→w < n→A u w=B u w):gl n A=gl n B:=by
 apply List.ext_getElem?
 intro v
 by_cases hv:v < n
 ·rw [gl_get hv,gl_get hv,msk_congr fun w hw=>h v w hv hw]
 ·rw [List.getElem?_eq_none (by rw [gl_len]; omega),List.getElem?_eq_none (by rw [gl_len]; omega)]
def upd (A:Gr) (v:Nat) (q:Nat → Bool):Gr:=fun u w=>if u=v then q w else A u w
theorem upd_ne {A:Gr} {v u:Nat} {q:Nat → Bool} (h:¬ u=v):upd A v q u=A u:=funext fun w=>if_neg h
theorem upd_eq {A:Gr} {v:Nat} {q:Nat → Bool}:upd A v q v=q:=funext fun w=>if_pos rfl
theorem gl_set {n:Nat} {A:Gr} {v:Nat} (q:Nat → Bool):(gl n A).set (Int.toNat (v:Int)) ((msk n q:Nat):Int)=gl n (upd A v q):=by
 apply List.ext_getElem?
 intro u
 rw [Int.toNat_natCast,List.getElem?_set,gl_len]
 by_cases hu:u < n
 ·rw [gl_get hu,gl_get hu]
  by_cases e:v=u
  ·subst e; simp [hu,upd_eq]
  ·rw [if_neg e,upd_ne fun h=>e h.symm]
 ·rw [List.getElem?_eq_none (by rw [gl_len]; omega),List.getElem?_eq_none (by rw [gl_len]; omega)]
  simp [hu]
  intro e; omega
structure Good (n:Nat) (A:Gr):Prop where
 sym:∀u w,A u w=A w u
 irr:∀u,A u u=false
 lt:∀u w,A u w=true→u < n
theorem mem_loop {τ ρ σ:Type} {n:Nat} (hn:n≤10) (mkS:Int→τ→σ) {body:σ→Option (Step σ ρ)} (I:Nat → τ→Prop) (Q:ρ→Prop) (p:Nat → Bool)
  (step:∀(x:Nat) (t:τ) (R R':Int),x < n→p x=true→I x t→(R != 0)=true→g_math_bits_TrailingZeros R=some (x:Int) →
   IntKind.u64.wrap (BitVec.ofInt (IntKind.bits .u64) R &&& BitVec.ofInt (IntKind.bits .u64) (IntKind.u64.wrap (R - 1))).toNat = R' →
   (∃t',body (mkS R t)=some (.next (mkS R' t'))∧I (x+1) t')∨(∃r,body (mkS R t)=some (.done r)∧Q r))
  (skip:∀(x:Nat) (t:τ),x < n→p x=false→I x t→I (x+1) t)
  (done:∀t,I n t→∃r,body (mkS 0 t)=some (.done r)∧Q r) (t0:τ) (h0:I 0 t0) :
  ∃r,whileN fuel body (mkS ((msk n p:Nat):Int) t0)=some r∧Q r:=by
 have key:∀(j N k:Nat) (t:τ),k+j=n→j < N→I k t→∃r,whileN N body (mkS ((msk n fun i=>p i && decide (k≤i):Nat):Int) t)=some r∧Q r:=by
  intro j
  induction j using Nat.strongRecOn with
  | _ j ih =>
   intro N k t hk hN hI
   by_cases hx:∃i,k≤i∧i < n∧p i=true
   ·obtain ⟨x,x1,x2,x3,x4⟩:∃x,k≤x∧x < n∧p x=true∧∀i,k≤i→i < x→p i=false:=by
     have hs:=tzN_spec n (fun i=>p i && decide (k≤i)) (by obtain ⟨i,a,b,c⟩:=hx; exact ⟨i,b,by simp [a,c]⟩)
     refine ⟨_,?_,hs.1,?_,fun i a b=>?_⟩
     ·have:=hs.2.1; simp at this; exact this.2
     ·have:=hs.2.1; simp at this; exact this.1
     ·have:=hs.2.2 i b; simpa [a] using this
    have hIx:I x t:=by
     have:∀d,k+d≤x→I (k+d) t:=by
      intro d
      induction d with
      | zero=>intro _; exact hI
      | succ d ihd=>intro h; exact skip (k+d) t (by omega) (x4 _ (by omega) (by omega)) (ihd (by omega))
     have h:=this (x - k) (by omega)
     rwa [show k+(x - k)=x by omega] at h
    obtain ⟨N,rfl⟩:∃M,N=M+1:=⟨N - 1,by omega⟩
    obtain ⟨a1,a2,a3⟩:=rest_msk (n:=n) (v:=x) (p:=fun i=>p i && decide (k≤i)) hn x2 (by simp [x1,x3]) (fun i hi=>by
     by_cases h:k≤i
     ·rw [x4 i h hi]; rfl
     ·simp [h])
    have e:msk n (fun i=>(p i && decide (k≤i)) && !decide (x=i))=msk n fun i=>p i && decide (x+1≤i):=msk_congr fun i hi=>by
     by_cases h:x+1≤i
     ·have h2:¬ x=i:=by omega
      have h3:k≤i:=by omega
      simp [h,h2,h3]
     ·by_cases h2:x=i
      ·subst h2; simp
      ·by_cases h3:k≤i
       ·rw [x4 i h3 (by omega)]; simp
       ·simp [h,h3]
    rw [e] at a3
    rcases step x t _ _ x2 x3 hIx a1 a2 a3 with ⟨t',b1,b2⟩ | ⟨r,b1,b2⟩
    ·simp only [whileN,b1]
     exact ih (n - (x+1)) (by omega) N (x+1) t' (by omega) (by omega) b2
    ·simp only [whileN,b1]
     exact ⟨r,rfl,b2⟩
   ·have hno:∀i,k≤i→i < n→p i=false:=fun i a b=>by
     rw [Bool.eq_false_iff]; exact fun h=>hx ⟨i,a,b,h⟩
    have e:msk n (fun i=>p i && decide (k≤i))=0:=by
     have:msk n (fun _=>false)=0:=(msk_eq (by have:=Nat.two_pow_pos n; omega) fun i _=>by simp).symm
     rw [←this]
     exact msk_congr fun i hi=>by
      by_cases h:k≤i
      ·rw [hno i h hi]; rfl
      ·simp [h]
    have hIn:I n t:=by
     have:∀d,k+d≤n→I (k+d) t:=by
      intro d
      induction d with
      | zero=>intro _; exact hI
      | succ d ihd=>intro h; exact skip (k+d) t (by omega) (hno _ (by omega) (by omega)) (ihd (by omega))
     have h:=this (n - k) (by omega)
     rwa [show k+(n - k)=n by omega] at h
    obtain ⟨N,rfl⟩:∃M,N=M+1:=⟨N - 1,by omega⟩
    rw [e]
    obtain ⟨r,b1,b2⟩:=done t hIn
    refine ⟨r,?_,b2⟩
    show whileN (N+1) body (mkS 0 t)=_
    simp only [whileN,b1]
 have h:=key n fuel 0 t0 (by omega) (by show n < 1152921504606846976; omega) h0
 have e:msk n (fun i=>p i && decide (0≤i))=msk n p:=msk_congr fun i _=>by simp
 rwa [e] at h
def elim (A:Gr) (v:Nat):Gr:=fun u w=>(A u w || (A v u && A v w && !decide (u=w))) && !decide (u=v) && !decide (w=v)
theorem elim_good {n:Nat} {A:Gr} (h:Good n A) (v:Nat):Good n (elim A v):=by
 refine ⟨fun u w=>?_,fun u=>?_,fun u w h1=>?_⟩
 ·unfold elim
  rw [h.sym u w]
  by_cases e:u=w
  ·subst e; rfl
  ·have e2:¬ w=u:=fun h=>e h.symm
   simp only [decide_eq_false e,decide_eq_false e2]
   cases A v u <;> cases A v w <;> cases A w u <;> cases (decide (u=v)) <;> cases (decide (w=v)) <;> rfl
 ·unfold elim; rw [h.irr]; simp
 ·unfold elim at h1
  simp only [Bool.and_eq_true,Bool.or_eq_true] at h1
  rcases h1.1.1 with h2 | h2
  ·exact h.lt _ _ h2
  ·exact h.lt _ v (by rw [h.sym]; exact h2.1.1)
def missA (n:Nat) (A:Gr) (v a:Nat):List (Nat × Nat):=((List.range n).filter fun b=>decide (a < b) && (A v a && A v b && !A a b)).map fun b=>(a,b)
def miss (n:Nat) (A:Gr) (v:Nat):List (Nat × Nat):=(List.range n).flatMap (missA n A v)
def pI (p:Nat × Nat):Int × Int:=((p.1:Int),(p.2:Int))
theorem range_filter_succ (k:Nat) (p:Nat → Bool):(List.range (k+1)).filter p=(List.range k).filter p++if p k then [k] else []:=by
 rw [List.range_succ,List.filter_append]
 congr 1
 cases h:p k <;> simp [h]
theorem filter_len (k:Nat) (p:Nat → Bool):((List.range k).filter p).length≤k:=by
 have:=List.length_filter_le p (List.range k)
 simpa using this
theorem nat_ge (k:Nat):(0:Int)≤(k:Int):=Int.natCast_nonneg k
theorem remove_spec {n:Nat} {A:Gr} {L:Nat → Bool} {v:Nat} (hn:n≤10) (hv:v < n) (hL:∀u w,u < n→A u w=true→L u=true) (hA:∀u,u < n→A u v=true→L u=true) :
  g_order_graph_remove_m0 (v:Int) ((msk n L:Nat):Int) (gl n A)=some (((msk n fun i=>L i && !decide (v=i):Nat):Int),gl n fun u w=>A u w && !decide (u=v) && !decide (w=v)):=by
 unfold g_order_graph_remove_m0
 rw [if_pos (nat_ge v),u_del hn (by omega)]
 obtain ⟨r,h1,h2⟩:=mem_loop hn (fun R t=>(R,t)) (body:=g_order_graph_remove_m0_b0 (v:Int)) (fun k t=>t=gl n fun u w=>A u w && !(decide (u < k) && L u && !decide (v=u) && decide (w=v))) (fun r=>r=gl n fun u w=>A u w && !(L u && !decide (v=u) && decide (w=v))) (fun i=>L i && !decide (v=i))
  (fun x t R R' hx hp hI c1 c2 c3=>.inl (by
   subst hI
   refine ⟨_,?_,rfl⟩
   unfold g_order_graph_remove_m0_b0
   simp only [c1,if_true,c2,Option.bind_some,gl_at hx,if_pos (nat_ge v),c3,u_del hn (show v < 64 by omega),gl_set]
   congr 3
   refine gl_congr fun u w hu hw=>?_
   unfold upd
   simp only [Bool.and_eq_true] at hp
   clear c1 c2 c3
   grind))
  (fun x t hx hp hI=>by
   rw [hI]
   refine gl_congr fun u w hu hw=>?_
   by_cases e:u=x
   ·subst e
    have:(L u && !decide (v=u))=false:=hp
    have e2:decide (u < u+1)=true:=by simp
    rw [e2]
    cases hh:L u
    ·simp
    ·rw [hh] at this; simp at this; simp [this]
   ·have:decide (u < x+1)=decide (u < x):=by by_cases h:u < x <;> simp [h] <;> omega
    rw [this])
  (fun t hI=>⟨t,by unfold g_order_graph_remove_m0_b0; simp,hI.trans (gl_congr fun u w hu hw=>by simp [hu])⟩)
  (gl n A) (gl_congr fun u w _ _=>by simp)
 rw [h1]
 subst h2
 simp only [Option.bind_some,gl_at hv]
 have e0:(0:Int)=((msk n fun _=>false:Nat):Int):=by
  have:msk n (fun _=>false)=0:=(msk_eq (by have:=Nat.two_pow_pos n; omega) fun i _=>by simp).symm
  rw [this]; rfl
 rw [e0,gl_set]
 congr 2
 refine gl_congr fun u w hu hw=>?_
 unfold upd
 by_cases e:u=v
 ·subst e; simp
 ·rw [if_neg e]
  grind
end Go.Ab
namespace Go.Ab
open Go
set_option maxRecDepth 100000
set_option maxHeartbeats 400000
theorem sub_mask {a:Nat} (ha:a < 63):IntKind.u64.wrap ((IntKind.u64.wrap (1*2^min (Int.toNat (IntKind.i64.wrap ((a:Int)+1))) (IntKind.bits .u64))) - 1)=((2^(a+1) - 1:Nat):Int):=by
 rw [w64 (by omega),show (a:Int)+1=((a+1:Nat):Int) by omega,u_sh (by omega)]
 have h1:=pow64 (v:=a+1) (by omega)
 have h2:=Nat.two_pow_pos (a+1)
 rw [show ((2^(a+1):Nat):Int) - 1=((2^(a+1) - 1:Nat):Int) by omega,u64_nat (by omega)]
theorem miss_len (n:Nat) (A:Gr) (v:Nat) (k:Nat):((List.range k).flatMap (missA n A v)).length≤k*n:=by
 induction k with
 | zero=>simp
 | succ k ih =>
  rw [List.range_succ,List.flatMap_append,List.length_append,Nat.succ_mul]
  have:(([k]:List Nat).flatMap (missA n A v)).length≤n:=by
   simp only [List.flatMap_cons,List.flatMap_nil,List.append_nil,missA,List.length_map]
   exact filter_len n _
  omega
def joinTo (O:Gr) (p:Nat → Bool) (a k:Nat):Gr:=fun u w=>O u w || (decide (u=a) && decide (w < k) && p w) || (decide (w=a) && decide (u < k) && p u)
theorem elim_inner {n:Nat} {O:Gr} {p:Nat → Bool} {a:Nat} {f0:List (Nat × Nat)} (hn:n≤10) (ha:a < n) (hp:∀w,p w=true→¬ w=a) (hf:f0.length≤100) :
  whileN fuel (g_order_graph_eliminate_m0_b0 (a:Int)) (((msk n p:Nat):Int),gl n O,f0.map pI)=some (gl n (joinTo O p a n),(f0++((List.range n).filter p).map fun b=>(a,b)).map pI):=by
 obtain ⟨r,h1,h2⟩:=mem_loop hn (fun R (t:List Int × List (Int × Int))=>(R,t.1,t.2)) (body:=g_order_graph_eliminate_m0_b0 (a:Int))
  (fun k t=>t=(gl n (joinTo O p a k),(f0++((List.range k).filter p).map fun b=>(a,b)).map pI)) (fun r=>r=(gl n (joinTo O p a n),(f0++((List.range n).filter p).map fun b=>(a,b)).map pI)) p
  (fun x t R R' hx hpx hI c1 c2 c3=>.inl (by
   subst hI
   refine ⟨_,?_,rfl⟩
   have hxa:=hp x hpx
   have hl:((f0++((List.range x).filter p).map fun b=>(a,b)).map pI++([((a:Int),(x:Int))]:List (Int × Int))).length*16≤140737488355328:=by
    have:=filter_len x p
    simp only [List.length_append,List.length_map,List.length_cons,List.length_nil]
    omega
   unfold g_order_graph_eliminate_m0_b0
   simp only [c1,if_true,c2,Option.bind_some,if_pos hl,gl_at ha,if_pos (nat_ge x),u_ins hn hx,gl_set,gl_at hx,if_pos (nat_ge a),c3]
   have e1:upd (joinTo O p a x) a (fun i=>joinTo O p a x a i || decide (x=i)) x=joinTo O p a x x:=upd_ne hxa
   rw [e1,u_ins hn ha,gl_set]
   congr 3
   congr 1
   ·refine gl_congr fun u w hu hw=>?_
    simp only [upd,joinTo]
    grind (splits:=30)
   ·rw [range_filter_succ,if_pos hpx]
    simp [pI]))
  (fun x t hx hpx hI=>by
   rw [hI]
   congr 1
   ·refine gl_congr fun u w hu hw=>?_
    simp only [joinTo]
    grind
   ·rw [range_filter_succ,hpx]
    simp)
  (fun t hI=>⟨_,by unfold g_order_graph_eliminate_m0_b0; simp,hI⟩)
  (gl n O,f0.map pI) (by rw [gl_congr (A:=O) (B:=joinTo O p a 0) fun u w _ _=>by simp [joinTo]]; simp)
 rw [h1,h2]
def joinUpTo (A:Gr) (v k:Nat):Gr:=fun u w=>A u w || (!decide (u=w) && A v u && A v w && (decide (u < k) || decide (w < k)))
theorem elim_loop {n:Nat} {A:Gr} {v:Nat} (hn:n≤10) (hG:Good n A) (hv:v < n) :
  whileN fuel (g_order_graph_eliminate_m0_b1 ((msk n (A v):Nat):Int)) (((msk n (A v):Nat):Int),gl n A,[])=some (gl n (joinUpTo A v n),(miss n A v).map pI):=by
 obtain ⟨r,h1,h2⟩:=mem_loop hn (fun R (t:List Int × List (Int × Int))=>(R,t.1,t.2)) (body:=g_order_graph_eliminate_m0_b1 ((msk n (A v):Nat):Int))
  (fun k t=>t=(gl n (joinUpTo A v k),((List.range k).flatMap (missA n A v)).map pI)) (fun r=>r=(gl n (joinUpTo A v n),(miss n A v).map pI)) (A v)
  (fun x t R R' hx hpx hI c1 c2 c3=>.inl (by
   subst hI
   refine ⟨_,?_,rfl⟩
   unfold g_order_graph_eliminate_m0_b1
   have hw:(0:Int)≤IntKind.i64.wrap ((x:Int)+1):=by rw [w64 (by omega)]; omega
   simp only [c1,if_true,c2,Option.bind_some,gl_at hx,if_pos hw,sub_mask (show x < 63 by omega)]
   rw [u_diff (n:=n) (p:=A v) (q:=joinUpTo A v x x) (by omega) (msk_lt n _) (lt64 hn (msk_lt n _)) bitS bitS]
   rw [u_diff (n:=n) (p:=fun i=>A v i && !joinUpTo A v x x i) (q:=fun i=>decide (i < x+1)) (by omega) (msk_lt n _) (by have:=pow64 (v:=x+1) (by omega); omega) bitS (fun i _=>Nat.testBit_two_pow_sub_one _ _)]
   have ep:(fun i=>(A v i && !joinUpTo A v x x i) && !decide (i < x+1))=fun b=>decide (x < b) && (A v x && A v b && !A x b):=by
    funext i
    simp only [joinUpTo]
    grind
   have hlen:=miss_len n A v x
   have hnn:x*n≤100:=Nat.le_trans (Nat.mul_le_mul (show x≤10 by omega) hn) (by omega)
   have hh:=elim_inner (n:=n) (O:=joinUpTo A v x) (p:=fun i=>(A v i && !joinUpTo A v x x i) && !decide (i < x+1)) (a:=x) (f0:=(List.range x).flatMap (missA n A v)) hn hx (fun w hw e=>by subst e; simp at hw) (by omega)
   rw [hh]
   simp only [Option.bind_some,c3]
   congr 3
   congr 1
   ·refine gl_congr fun u w hu hw=>?_
    have s1:=hG.sym u w
    have s2:=hG.irr x
    simp only [joinTo,joinUpTo]
    have s3:=hG.sym u x
    have s4:=hG.sym w x
    grind
   ·rw [List.range_succ,List.flatMap_append]
    simp only [List.flatMap_cons,List.flatMap_nil,List.append_nil,missA]
    rw [ep]))
  (fun x t hx hpx hI=>by
   rw [hI]
   congr 1
   ·refine gl_congr fun u w hu hw=>?_
    simp only [joinUpTo]
    grind
   ·rw [List.range_succ,List.flatMap_append]
    have:(([x]:List Nat).flatMap (missA n A v))=[]:=by
     simp only [List.flatMap_cons,List.flatMap_nil,List.append_nil,missA]
     rw [List.filter_eq_nil_iff.2 (fun b _=>by simp [hpx])]; rfl
    rw [this,List.append_nil])
  (fun t hI=>⟨_,by unfold g_order_graph_eliminate_m0_b1; simp,hI⟩)
  (gl n A,[]) (by rw [gl_congr (A:=A) (B:=joinUpTo A v 0) fun u w _ _=>by simp [joinUpTo]]; rfl)
 rw [h1,h2]
theorem eliminate_spec {n:Nat} {A:Gr} {L:Nat → Bool} {v:Nat} (hn:n≤10) (hG:Good n A) (hv:v < n) (hL:∀u w,A u w=true→L u=true) :
  g_order_graph_eliminate_m0 (v:Int) ((msk n L:Nat):Int) (gl n A)=some ((miss n A v).map pI,((msk n fun i=>L i && !decide (v=i):Nat):Int),gl n (elim A v)):=by
 unfold g_order_graph_eliminate_m0
 simp only [gl_at hv,Option.bind_some,elim_loop hn hG hv]
 have hL2:∀u w,joinUpTo A v n u w=true→L u=true:=fun u w h=>by
  unfold joinUpTo at h
  simp only [Bool.or_eq_true,Bool.and_eq_true] at h
  rcases h with h | h
  ·exact hL u w h
  ·exact hL u v (by rw [hG.sym]; exact h.1.1.2)
 rw [remove_spec hn hv (fun u w _=>hL2 u w) (fun u _=>hL2 u v)]
 simp only [Option.bind_some]
 congr 3
 refine gl_congr fun u w hu hw=>?_
 simp only [joinUpTo,elim]
 grind
end Go.Ab
namespace Go.Ab
open Go
set_option maxRecDepth 100000
set_option maxHeartbeats 400000
theorem i_succ {k:Nat} (h:k < 9223372036854775807):IntKind.i64.wrap ((k:Int)+1)=((k+1:Nat):Int):=by rw [w64 (by omega)]; omega
theorem rng_loop {τ ρ σ:Type} {n k0:Nat} (hk:k0≤n) (hn:n < 1152921504606846976) (mkS:Int→τ→σ) {body:σ→Option (Step σ ρ)} (I:Nat → τ→Prop) (Q:ρ→Prop)
  (step:∀(k:Nat) (t:τ),k0≤k→k < n→I k t→(∃t',body (mkS (k:Int) t)=some (.next (mkS (IntKind.i64.wrap ((k:Int)+1)) t'))∧I (k+1) t')∨(∃r,body (mkS (k:Int) t)=some (.done r)∧Q r))
  (done:∀t,I n t→∃r,body (mkS (n:Int) t)=some (.done r)∧Q r) (t0:τ) (h0:I k0 t0):∃r,whileN fuel body (mkS (k0:Int) t0)=some r∧Q r:=by
 have key:∀(j N k:Nat) (t:τ),k+j=n→k0≤k→j < N→I k t→∃r,whileN N body (mkS (k:Int) t)=some r∧Q r:=by
  intro j
  induction j with
  | zero =>
   intro N k t e hk hN hI
   obtain ⟨N,rfl⟩:∃M,N=M+1:=⟨N - 1,by omega⟩
   have:k=n:=by omega
   subst this
   obtain ⟨r,b1,b2⟩:=done t hI
   simp only [whileN,b1]
   exact ⟨r,rfl,b2⟩
  | succ j ih =>
   intro N k t e hk hN hI
   obtain ⟨N,rfl⟩:∃M,N=M+1:=⟨N - 1,by omega⟩
   rcases step k t hk (by omega) hI with ⟨t',b1,b2⟩ | ⟨r,b1,b2⟩
   ·rw [i_succ (by omega)] at b1
    simp only [whileN,b1]
    exact ih N (k+1) t' (by omega) (by omega) (by omega) b2
   ·simp only [whileN,b1]
    exact ⟨r,rfl,b2⟩
 exact key (n - k0) fuel k0 t0 (by omega) (Nat.le_refl _) (by show n - k0 < 1152921504606846976; omega) h0
theorem rng_run {τ ρ σ:Type} {n k0:Nat} (hk:k0≤n) (hn:n < 1152921504606846976) (mkS:Int→τ→σ) {body:σ→Option (Step σ ρ)} (T:Nat → τ) (r:ρ)
  (step:∀(k:Nat),k0≤k→k < n→body (mkS (k:Int) (T k))=some (.next (mkS (IntKind.i64.wrap ((k:Int)+1)) (T (k+1)))))
  (done:body (mkS (n:Int) (T n))=some (.done r)):whileN fuel body (mkS (k0:Int) (T k0))=some r:=by
 obtain ⟨r',h1,h2⟩:=rng_loop hk hn mkS (body:=body) (fun k t=>t=T k) (fun x=>x=r) (fun k t a b c=>.inl ⟨T (k+1),by rw [c]; exact step k a b,rfl⟩) (fun t h=>⟨r,by rw [h]; exact done,rfl⟩) (T k0) rfl
 rw [h1,h2]
theorem dlt {k n:Nat} (h:k < n):decide ((k:Int) < (n:Int))=true:=decide_eq_true (by omega)
theorem nlt (n:Nat):¬ (decide ((n:Int) < (n:Int))=true):=by simp
theorem in_spec {a v:Nat} (ha:a < 18446744073709551616) (hv:v < 64):g_ref05_In (a:Int) (v:Int)=some (a.testBit v):=by
 unfold g_ref05_In
 rw [u64_nat (show v < 18446744073709551616 by omega),if_pos (nat_ge v),u_bit ha hv]
 cases a.testBit v <;> rfl
theorem in_gl {n v:Nat} {p:Nat → Bool} (hn:n≤10) (hv:v < n):g_ref05_In ((msk n p:Nat):Int) (v:Int)=some (p v):=by
 rw [in_spec (lt64 hn (msk_lt n p)) (by omega),bitS v hv]
def missP (A:Gr) (v a k:Nat):List (Nat × Nat):=((List.range k).filter fun b=>decide (a < b) && (A v a && A v b && !A a b)).map fun b=>(a,b)
theorem missP_succ (A:Gr) (v a k:Nat):missP A v a (k+1)=missP A v a k++if decide (a < k) && (A v a && A v k && !A a k) then [(a,k)] else []:=by
 unfold missP
 rw [range_filter_succ,List.map_append]
 congr 1
 split <;> simp
theorem missP_zero (A:Gr) (v a:Nat):missP A v a (a+1)=[]:=by
 unfold missP
 rw [List.filter_eq_nil_iff.2 (fun b hb=>by
  have:b < a+1:=List.mem_range.1 hb
  simp
  intro h; omega)]
 rfl
theorem missP_len (A:Gr) (v a k:Nat):(missP A v a k).length≤k:=by unfold missP; rw [List.length_map]; exact filter_len k _
theorem refMissing {n:Nat} {A:Gr} {v:Nat} (hn:n≤10) (hv:v < n):g_ref08_Missing (gl n A) (v:Int)=some ((miss n A v).map pI):=by
 have inner:∀(a:Nat) (f0:List (Nat × Nat)) (s2:List (Int × Int)),a < n→f0.length≤100→whileN fuel (g_ref08_Missing_b0 (gl n A) (v:Int) ((a:Int),s2)) (((a+1:Nat):Int),f0.map pI)=some ((f0++missA n A v a).map pI):=fun a f0 s2 ha hf=>by
  have h:=rng_run (n:=n) (k0:=a+1) (by omega) (by omega) (fun i (t:List (Int × Int))=>(i,t)) (body:=g_ref08_Missing_b0 (gl n A) (v:Int) ((a:Int),s2)) (fun k=>(f0++missP A v a k).map pI) ((f0++missA n A v a).map pI)
   (fun k h1 h2=>by
    have hl:((f0++missP A v a k).map pI++([((a:Int),(k:Int))]:List (Int × Int))).length*16≤140737488355328:=by
     have:=missP_len A v a k
     simp only [List.length_append,List.length_map,List.length_cons,List.length_nil]
     omega
    unfold g_ref08_Missing_b0
    dsimp only
    rw [gl_len,if_pos (dlt h2)]
    simp only [gl_at hv,gl_at ha,Option.bind_some,in_gl hn ha,in_gl hn h2,if_pos hl]
    rw [missP_succ,←List.append_assoc,List.map_append (l₁:=f0++missP A v a k)]
    have e:decide (a < k)=true:=by simp; omega
    rw [e]
    cases A v a <;> cases A v k <;> cases A a k <;> simp [pI])
   (by
    unfold g_ref08_Missing_b0
    dsimp only
    rw [gl_len,if_neg (nlt n)]; rfl)
  rw [missP_zero,List.append_nil] at h
  exact h
 unfold g_ref08_Missing
 have h:=rng_run (n:=n) (k0:=0) (by omega) (by omega) (fun i (t:List (Int × Int))=>(i,t)) (body:=g_ref08_Missing_b1 (gl n A) (v:Int)) (fun k=>((List.range k).flatMap (missA n A v)).map pI) ((miss n A v).map pI)
  (fun k _ h2=>by
   have hlen:=miss_len n A v k
   have hnn:k*n≤100:=Nat.le_trans (Nat.mul_le_mul (show k≤10 by omega) hn) (by omega)
   unfold g_ref08_Missing_b1
   dsimp only
   rw [gl_len,if_pos (dlt h2),i_succ (by omega),inner k _ _ h2 (by omega)]
   simp only [Option.bind_some]
   rw [List.range_succ,List.flatMap_append]
   simp)
  (by
   unfold g_ref08_Missing_b1
   dsimp only
   rw [gl_len,if_neg (nlt n)]; rfl)
 simp only [List.range_zero,List.flatMap_nil,List.map_nil] at h
 rw [show ((0:Nat):Int)=0 from rfl] at h
 rw [h]; rfl
def joinL (A:Gr):List (Nat × Nat)→Gr
 | []=>A
 | (a,b)::l=>joinL (fun u w=>A u w || (decide (u=a) && decide (w=b)) || (decide (u=b) && decide (w=a))) l
theorem joinL_snoc (A:Gr):∀(l:List (Nat × Nat)) (a b:Nat),joinL A (l++[(a,b)])=fun u w=>joinL A l u w || (decide (u=a) && decide (w=b)) || (decide (u=b) && decide (w=a))
 | [],a,b=>rfl
 | (c,d)::l,a,b=>by simp only [List.cons_append,joinL]; exact joinL_snoc _ l a b
theorem joinL_iff (A:Gr):∀(l:List (Nat × Nat)) (u w:Nat),joinL A l u w=true↔A u w=true∨(u,w)∈l∨(w,u)∈l
 | [],u,w=>by simp [joinL]
 | (a,b)::l,u,w=>by
  simp only [joinL]
  rw [joinL_iff]
  simp only [Bool.or_eq_true,Bool.and_eq_true,decide_eq_true_eq,List.mem_cons,Prod.mk.injEq]
  grind
theorem refCopy {l:List Int} (h:l.length≤1000):g_ref08_Copy l=some l:=by unfold g_ref08_Copy; rw [if_pos (by omega)]
theorem refJoin {n:Nat} {A:Gr} {l:List (Nat × Nat)} (hn:n≤10) (hl:∀p∈l,p.1 < n∧p.2 < n∧p.1≠p.2) (hlen:l.length≤1000):g_ref08_Join (gl n A) (l.map pI)=some (gl n (joinL A l)):=by
 unfold g_ref08_Join
 rw [refCopy (by rw [gl_len]; omega),Option.bind_some]
 have h:=rng_run (n:=l.length) (k0:=0) (by omega) (by omega) (fun i (t:List Int)=>(i,t)) (body:=g_ref08_Join_b0 (l.map pI)) (fun k=>gl n (joinL A (l.take k))) (gl n (joinL A l))
  (fun k _ h2=>by
   obtain ⟨h3,h4,h5⟩:=hl _ (List.getElem_mem h2)
   have e:=List.take_succ_eq_append_getElem h2
   have ek:lkI (l.map pI) (k:Int)=some (pI l[k]):=by rw [lkI_nat (by simpa using h2)]; simp
   generalize l[k]=p at h3 h4 h5 e ek
   obtain ⟨a,b⟩:=p
   simp only at h3 h4 h5
   unfold g_ref08_Join_b0
   dsimp only
   rw [List.length_map,if_pos (dlt h2),ek,Option.bind_some]
   have ea:(pI (a,b)).1=(a:Int):=rfl
   have eb:(pI (a,b)).2=(b:Int):=rfl
   simp only [ea,eb,gl_at h3,Option.bind_some,u64_nat (show a < 18446744073709551616 by omega),u64_nat (show b < 18446744073709551616 by omega),if_pos (nat_ge a),if_pos (nat_ge b),u_ins hn h4,gl_set,gl_at h4]
   rw [upd_ne (fun h=>h5 h.symm),u_ins hn h3,gl_set]
   congr 3
   refine gl_congr fun u w hu hw=>?_
   rw [e,joinL_snoc]
   simp only [upd]
   grind)
  (by
   unfold g_ref08_Join_b0
   dsimp only
   rw [List.length_map,if_neg (nlt _),List.take_length])
 rw [show ((0:Nat):Int)=0 from rfl,List.take_zero] at h
 rw [show joinL A []=A from rfl] at h
 rw [h]; rfl
theorem refRemove {n:Nat} {A:Gr} {v:Nat} (hn:n≤10) (hv:v < n):g_ref08_Remove (gl n A) (v:Int)=some (gl n fun u w=>A u w && !decide (u=v) && !decide (w=v)):=by
 unfold g_ref08_Remove
 rw [refCopy (by rw [gl_len]; omega),Option.bind_some,gl_at hv,Option.bind_some]
 have e0:(0:Int)=((msk n fun _=>false:Nat):Int):=by
  have:msk n (fun _=>false)=0:=(msk_eq (by have:=Nat.two_pow_pos n; omega) fun i _=>by simp).symm
  rw [this]; rfl
 have h:=rng_run (n:=n) (k0:=0) (by omega) (by omega) (fun i (t:List Int)=>(i,t)) (body:=g_ref08_Remove_b0 (v:Int)) (fun k=>gl n fun u w=>A u w && !decide (u=v) && !(decide (w=v) && decide (u < k))) (gl n fun u w=>A u w && !decide (u=v) && !decide (w=v))
  (fun k _ h2=>by
   unfold g_ref08_Remove_b0
   dsimp only
   rw [gl_len,if_pos (dlt h2),gl_at h2,Option.bind_some,u64_nat (show v < 18446744073709551616 by omega),if_pos (nat_ge v),u_del hn (by omega),gl_set]
   congr 3
   refine gl_congr fun u w hu hw=>?_
   simp only [upd]
   grind)
  (by
   unfold g_ref08_Remove_b0
   dsimp only
   rw [gl_len,if_neg (nlt _)]
   congr 2
   refine gl_congr fun u w hu hw=>?_
   grind)
 rw [show ((0:Nat):Int)=0 from rfl] at h
 rw [e0,gl_set,gl_congr (A:=upd A v fun _=>false) (B:=fun u w=>A u w && !decide (u=v) && !(decide (w=v) && decide (u < 0))) fun u w _ _=>by simp only [upd]; grind]
 rw [←e0,h]; rfl
theorem miss_mem {n:Nat} {A:Gr} {v a b:Nat}:(a,b)∈miss n A v↔a < b∧b < n∧A v a=true∧A v b=true∧A a b=false:=by
 unfold miss missA
 simp only [List.mem_flatMap,List.mem_range,List.mem_map,List.mem_filter,Bool.and_eq_true,decide_eq_true_eq,Prod.mk.injEq,Bool.not_eq_true']
 grind
theorem missAll_len {n:Nat} (hn:n≤10) (A:Gr) (v:Nat):(miss n A v).length≤100 :=
 Nat.le_trans (miss_len n A v n) (Nat.le_trans (Nat.mul_le_mul hn hn) (by omega))
theorem miss_ok {n:Nat} {A:Gr} {v:Nat}:∀p∈miss n A v,p.1 < n∧p.2 < n∧p.1≠p.2:=fun p hp=>by
 obtain ⟨a,b⟩:=p
 have:=miss_mem.1 hp
 simp only
 omega
theorem refEliminate {n:Nat} {A:Gr} {v:Nat} (hn:n≤10) (hG:Good n A) (hv:v < n):g_ref08_Eliminate (gl n A) (v:Int)=some (gl n (elim A v)):=by
 unfold g_ref08_Eliminate
 rw [refMissing hn hv,Option.bind_some,refJoin hn miss_ok (by have:=missAll_len hn A v; omega),Option.bind_some,refRemove hn hv,Option.bind_some]
 congr 1
 refine gl_congr fun u w hu hw=>?_
 have h1:=joinL_iff A (miss n A v) u w
 rw [miss_mem,miss_mem] at h1
 have h2:=hG.sym u w
 have h3:=hG.irr u
 rw [Bool.eq_iff_iff]
 simp only [elim,Bool.and_eq_true,h1,Bool.or_eq_true]
 grind
theorem refDegree {n:Nat} {A:Gr} {v:Nat} (hn:n≤10) (hv:v < n):g_ref08_Degree (gl n A) (v:Int)=some (cnt n (A v):Int):=by
 unfold g_ref08_Degree
 have h:=rng_run (n:=n) (k0:=0) (by omega) (by omega) (fun i (t:Int)=>(t,i)) (body:=g_ref08_Degree_b0 (gl n A) (v:Int)) (fun k=>(cnt k (A v):Int)) (cnt n (A v):Int)
  (fun k _ h2=>by
   unfold g_ref08_Degree_b0
   dsimp only
   have hc:=cnt_le k (A v)
   rw [gl_len,if_pos (dlt h2),gl_at hv,Option.bind_some,in_gl hn h2,Option.bind_some]
   simp only [cnt]
   cases A v k
   ·simp
   ·rw [if_pos rfl,i_succ (by omega)]; rfl)
  (by
   unfold g_ref08_Degree_b0
   dsimp only
   rw [gl_len,if_neg (nlt _)])
 rw [show ((0:Nat):Int)=0 from rfl] at h
 simp only [cnt] at h
 rw [show ((0:Nat):Int)=0 from rfl] at h
 rw [h]; rfl
end Go.Ab
namespace Go.Ab
open Go
set_option maxRecDepth 100000
set_option maxHeartbeats 400000
def nI (l:List Nat):List Int:=l.map fun (k:Nat)=>(k:Int)
theorem nI_len (l:List Nat):(nI l).length=l.length:=by simp [nI]
theorem nI_at {l:List Nat} {k:Nat} (h:k < l.length):lkI (nI l) (k:Int)=some (l[k]:Int):=by rw [lkI_nat (by rwa [nI_len])]; simp [nI]
def seqA (A:Gr) (o:List Nat):Gr:=o.foldl elim A
theorem seqA_snoc (A:Gr) (o:List Nat) (v:Nat):seqA A (o++[v])=elim (seqA A o) v:=by simp [seqA]
theorem seqA_good {n:Nat}:∀{o:List Nat} {A:Gr},Good n A→Good n (seqA A o)
 | [],A,h=>h
 | v::o,A,h=>seqA_good (o:=o) (elim_good h v)
theorem elim_off {A:Gr} {v u w:Nat} (h:elim A v u w=true):¬ u=v∧¬ w=v:=by unfold elim at h; simp at h; exact ⟨h.1.2,h.2⟩
theorem elim_keep {A:Gr} {v x:Nat} (hs:∀w,A x w=false) (u:Nat) (hA:∀u w,A u w=A w u):elim A v x u=false:=by
 unfold elim
 rw [hs,hA v x,hs]; simp
theorem seqA_off {n:Nat}:∀{o:List Nat} {A:Gr} {x:Nat},Good n A→(x∈o∨∀w,A x w=false)→∀w,seqA A o x w=false
 | [],A,x,h,hx,w=>by rcases hx with hx | hx; cases hx; exact hx w
 | v::o,A,x,h,hx,w=>by
  refine seqA_off (o:=o) (elim_good h v) ?_ w
  rcases hx with hx | hx
  ·rcases List.mem_cons.1 hx with e | hx
   ·subst e
    right
    intro w
    rw [Bool.eq_false_iff]
    intro h1
    exact (elim_off h1).1 rfl
   ·exact .inl hx
  ·right
   intro w
   exact elim_keep hx w h.sym
def fillL (n:Nat):Gr→List Nat → List (Nat × Nat)
 | _,[]=>[]
 | A,v::o=>miss n A v++fillL n (elim A v) o
def widL (n:Nat):Gr→List Nat → Nat
 | _,[]=>0
 | A,v::o=>max (cnt n (A v)) (widL n (elim A v) o)
theorem fillL_snoc (n:Nat):∀(A:Gr) (o:List Nat) (v:Nat),fillL n A (o++[v])=fillL n A o++miss n (seqA A o) v
 | A,[],v=>by simp [fillL,seqA]
 | A,u::o,v=>by simp only [List.cons_append,fillL]; rw [fillL_snoc]; simp [seqA]
theorem widL_snoc (n:Nat):∀(A:Gr) (o:List Nat) (v:Nat),widL n A (o++[v])=max (widL n A o) (cnt n (seqA A o v))
 | A,[],v=>by simp [widL,seqA]
 | A,u::o,v=>by simp only [List.cons_append,widL]; rw [widL_snoc]; simp only [seqA,List.foldl_cons]; omega
theorem fillL_len {n:Nat} (hn:n≤10):∀(A:Gr) (o:List Nat),(fillL n A o).length≤100*o.length
 | A,[]=>by simp [fillL]
 | A,u::o=>by
  have h1:=fillL_len hn (elim A u) o
  have h2:=missAll_len hn A u
  simp only [fillL,List.length_append,List.length_cons]; omega
theorem clone_u {l:List Int} (h:l.length≤1000):g_slices_Clone_uint_uint l=some l:=by
 cases l with
 | nil=>rfl
 | cons a l=>unfold g_slices_Clone_uint_uint g_slices_Clone_uint_uint_c; dsimp only; rw [if_pos (by omega)]
theorem degree_spec {n:Nat} {A:Gr} {v:Nat} {L:Int} (hn:n≤10) (hv:v < n):g_order_graph_degree (Torder_graph.mk (Torder_neighbours.mk (gl n A)) L) (v:Int)=some (cnt n (A v):Int):=by
 unfold g_order_graph_degree
 simp only [gl_at hv,Option.bind_some,oc_msk hn]
theorem imax (a b:Nat):(if (a:Int) > (b:Int) then (a:Int) else (b:Int))=((max b a:Nat):Int):=by split <;> omega
theorem run_spec {n:Nat} {A:Gr} {o:List Nat} (hn:n≤10) (hG:Good n A) (ho:∀v∈o,v < n) (hl:o.length≤1000):g_order_run (gl n A) (nI o)=some ((fillL n A o).map pI,(widL n A o:Int)):=by
 unfold g_order_run
 rw [clone_u (by rw [gl_len]; omega),Option.bind_some,gl_len,if_pos (nat_ge n),u_all hn]
 have h:=rng_run (n:=o.length) (k0:=0) (by omega) (by omega) (fun i (t:Int × Int × List Int × List (Int × Int))=>(t.1,i,t.2)) (body:=g_order_run_b0 (nI o))
  (fun k=>((widL n A (o.take k):Int),((msk n fun i=>!(o.take k).contains i:Nat):Int),gl n (seqA A (o.take k)),(fillL n A (o.take k)).map pI)) ((widL n A o:Int),(fillL n A o).map pI)
  (fun k _ h2=>by
   have hv:=ho _ (List.getElem_mem h2)
   have e:=List.take_succ_eq_append_getElem h2
   have ek:=nI_at h2
   generalize o[k]=v at hv e ek
   have hG':Good n (seqA A (o.take k)):=seqA_good hG
   have hoff:∀u w,seqA A (o.take k) u w=true→(!(o.take k).contains u)=true:=fun u w h1=>by
    rw [Bool.not_eq_true',Bool.eq_false_iff]
    intro hm
    rw [seqA_off hG (.inl (by simpa using hm))] at h1; cases h1
   have hf:=fillL_len hn A (o.take k)
   have hm:=missAll_len hn (seqA A (o.take k)) v
   have hlen:((fillL n A (o.take k)).map pI++(miss n (seqA A (o.take k)) v).map pI).length*16≤140737488355328:=by
    have:(o.take k).length≤1000:=by rw [List.length_take]; omega
    simp only [List.length_append,List.length_map]; omega
   unfold g_order_run_b0
   dsimp only
   rw [nI_len,if_pos (dlt h2)]
   simp only [ek,Option.bind_some,degree_spec hn hv,eliminate_spec hn hG' hv hoff,if_pos hlen,imax]
   rw [e,widL_snoc,fillL_snoc,seqA_snoc]
   congr 4
   congr 1
   ·congr 1
    exact msk_congr fun i hi=>by
     rw [Bool.eq_iff_iff]
     simp
     grind
   ·rw [List.map_append])
  (by
   unfold g_order_run_b0
   dsimp only
   rw [nI_len,if_neg (nlt _),List.take_length])
 simp only [List.take_zero,fillL,widL,seqA,List.foldl_nil,List.map_nil] at h
 have e:(msk n fun i=>!([]:List Nat).contains i)=msk n fun _=>true:=msk_congr fun i _=>by simp
 rw [e,show ((0:Nat):Int)=0 from rfl] at h
 rw [h]; rfl
theorem refWidth {n:Nat} {A:Gr} {o:List Nat} (hn:n≤10) (hG:Good n A) (ho:∀v∈o,v < n) (hl:o.length≤1000):g_ref08_Width (gl n A) (nI o)=some (widL n A o:Int):=by
 unfold g_ref08_Width
 have h:=rng_run (n:=o.length) (k0:=0) (by omega) (by omega) (fun i (t:List Int × Int)=>(t.1,t.2,i)) (body:=g_ref08_Width_b0 (nI o)) (fun k=>(gl n (seqA A (o.take k)),(widL n A (o.take k):Int))) (widL n A o:Int)
  (fun k _ h2=>by
   have hv:=ho _ (List.getElem_mem h2)
   have e:=List.take_succ_eq_append_getElem h2
   have ek:=nI_at h2
   generalize o[k]=v at hv e ek
   unfold g_ref08_Width_b0
   dsimp only
   rw [nI_len,if_pos (dlt h2)]
   simp only [ek,Option.bind_some,refDegree hn hv,refEliminate hn (seqA_good hG) hv,imax]
   rw [e,widL_snoc,seqA_snoc])
  (by
   unfold g_ref08_Width_b0
   dsimp only
   rw [nI_len,if_neg (nlt _),List.take_length])
 simp only [List.take_zero,widL,seqA,List.foldl_nil] at h
 rw [show ((0:Nat):Int)=0 from rfl] at h
 rw [h]; rfl
def wholeA (n:Nat) (A:Gr) (o:List Nat):Gr:=joinL A (fillL n A o)
theorem joinL_app (A:Gr):∀(l m:List (Nat × Nat)),joinL A (l++m)=joinL (joinL A l) m
 | [],m=>rfl
 | (a,b)::l,m=>by simp only [List.cons_append,joinL]; exact joinL_app _ l m
def newA (n:Nat) (W A:Gr) (a k:Nat):List (Nat × Nat):=((List.range k).filter fun b=>decide (a < b) && (W a b && !A a b)).map fun b=>(a,b)
def newL (n:Nat) (W A:Gr) (k:Nat):List (Nat × Nat):=(List.range k).flatMap fun a=>newA n W A a n
theorem newA_succ (n:Nat) (W A:Gr) (a k:Nat):newA n W A a (k+1)=newA n W A a k++if decide (a < k) && (W a k && !A a k) then [(a,k)] else []:=by
 unfold newA
 rw [range_filter_succ,List.map_append]
 congr 1
 split <;> simp
theorem newA_zero (n:Nat) (W A:Gr) (a:Nat):newA n W A a (a+1)=[]:=by
 unfold newA
 rw [List.filter_eq_nil_iff.2 (fun b hb=>by
  have:b < a+1:=List.mem_range.1 hb
  simp
  intro h; omega)]
 rfl
theorem newA_len (n:Nat) (W A:Gr) (a k:Nat):(newA n W A a k).length≤k:=by unfold newA; rw [List.length_map]; exact filter_len k _
theorem newL_len (n:Nat) (W A:Gr) (k:Nat):(newL n W A k).length≤k*n:=by
 induction k with
 | zero=>simp [newL]
 | succ k ih =>
  unfold newL at *
  rw [List.range_succ,List.flatMap_append,List.length_append,Nat.succ_mul]
  have:=newA_len n W A k n
  simp only [List.flatMap_cons,List.flatMap_nil,List.append_nil]
  omega
theorem refFill {n:Nat} {A:Gr} {o:List Nat} (hn:n≤10) (hG:Good n A) (ho:∀v∈o,v < n) (hl:o.length≤1000):g_ref08_Fill (gl n A) (nI o)=some ((newL n (wholeA n A o) A n).map pI):=by
 unfold g_ref08_Fill
 have h:=rng_run (n:=o.length) (k0:=0) (by omega) (by omega) (fun i (t:List Int × List Int)=>(t.1,t.2,i)) (body:=g_ref08_Fill_b0 (nI o)) (fun k=>(gl n (seqA A (o.take k)),gl n (wholeA n A (o.take k)))) (gl n (seqA A o),gl n (wholeA n A o))
  (fun k _ h2=>by
   have hv:=ho _ (List.getElem_mem h2)
   have e:=List.take_succ_eq_append_getElem h2
   have ek:=nI_at h2
   generalize o[k]=v at hv e ek
   have hm:(miss n (seqA A (o.take k)) v).length≤1000:=Nat.le_trans (missAll_len hn _ _) (by omega)
   unfold g_ref08_Fill_b0
   dsimp only
   rw [nI_len,if_pos (dlt h2)]
   simp only [ek,Option.bind_some,refMissing hn hv,refJoin hn miss_ok hm,refEliminate hn (seqA_good hG) hv]
   rw [e,seqA_snoc]
   unfold wholeA
   rw [fillL_snoc,joinL_app])
  (by
   unfold g_ref08_Fill_b0
   dsimp only
   rw [nI_len,if_neg (nlt _),List.take_length])
 simp only [List.take_zero] at h
 rw [show seqA A []=A from rfl,show wholeA n A []=A from rfl] at h
 rw [show ((0:Nat):Int)=0 from rfl] at h
 rw [h,Option.bind_some]
 have inner:∀(W S:Gr) (a:Nat) (f0:List (Nat × Nat)) (s2:List (Int × Int)),a < n→f0.length≤100→whileN fuel (g_ref08_Fill_b1 (gl n S,gl n W) ((a:Int),s2) (gl n A)) (((a+1:Nat):Int),f0.map pI)=some ((f0++newA n W A a n).map pI):=fun W S a f0 s2 ha hf=>by
  have h:=rng_run (n:=n) (k0:=a+1) (by omega) (by omega) (fun i (t:List (Int × Int))=>(i,t)) (body:=g_ref08_Fill_b1 (gl n S,gl n W) ((a:Int),s2) (gl n A)) (fun k=>(f0++newA n W A a k).map pI) ((f0++newA n W A a n).map pI)
   (fun k h1 h2=>by
    have hl:((f0++newA n W A a k).map pI++([((a:Int),(k:Int))]:List (Int × Int))).length*16≤140737488355328:=by
     have:=newA_len n W A a k
     simp only [List.length_append,List.length_map,List.length_cons,List.length_nil]
     omega
    unfold g_ref08_Fill_b1
    dsimp only
    rw [gl_len,if_pos (dlt h2)]
    simp only [gl_at ha,Option.bind_some,in_gl hn h2,if_pos hl]
    rw [newA_succ,←List.append_assoc,List.map_append (l₁:=f0++newA n W A a k)]
    have e:decide (a < k)=true:=by simp; omega
    rw [e]
    cases W a k <;> cases A a k <;> simp [pI])
   (by
    unfold g_ref08_Fill_b1
    dsimp only
    rw [gl_len,if_neg (nlt n)])
  rw [newA_zero,List.append_nil] at h
  exact h
 have h2:=rng_run (n:=n) (k0:=0) (by omega) (by omega) (fun i (t:List (Int × Int))=>(i,t)) (body:=g_ref08_Fill_b2 (gl n (seqA A o),gl n (wholeA n A o)) (gl n A)) (fun k=>(newL n (wholeA n A o) A k).map pI) ((newL n (wholeA n A o) A n).map pI)
  (fun k _ h2=>by
   have hlen:=newL_len n (wholeA n A o) A k
   have hnn:k*n≤100:=Nat.le_trans (Nat.mul_le_mul (show k≤10 by omega) hn) (by omega)
   unfold g_ref08_Fill_b2
   dsimp only
   rw [gl_len,if_pos (dlt h2),i_succ (by omega),inner _ _ k _ _ h2 (by omega)]
   simp only [Option.bind_some]
   unfold newL
   rw [List.range_succ,List.flatMap_append]
   simp)
  (by
   unfold g_ref08_Fill_b2
   dsimp only
   rw [gl_len,if_neg (nlt n)])
 rw [show newL n (wholeA n A o) A 0=[] from rfl,show ((0:Nat):Int)=0 from rfl] at h2
 rw [show (([]:List (Nat × Nat)).map pI)=[] from rfl] at h2
 rw [h2]; rfl
end Go.Ab
namespace Go.Ab
open Go
set_option maxRecDepth 100000
set_option maxHeartbeats 400000
theorem fill_not {n a b:Nat}:∀(o:List Nat) (A:Gr),Good n A→(A a b=true∨(∀w,A a w=false)∨(∀w,A b w=false))→(a,b) ∉ fillL n A o
 | [],A,hG,h=>by simp [fillL]
 | v::o,A,hG,h=>by
  simp only [fillL,List.mem_append,not_or]
  refine ⟨fun hm=>?_,fill_not o (elim A v) (elim_good hG v) ?_⟩
  ·obtain ⟨h1,h2,h3,h4,h5⟩:=miss_mem.1 hm
   rcases h with h | h | h
   ·rw [h] at h5; cases h5
   ·rw [hG.sym v a,h] at h3; cases h3
   ·rw [hG.sym v b,h] at h4; cases h4
  ·rcases h with h | h | h
   ·by_cases e1:a=v
    ·right; left
     intro w
     rw [Bool.eq_false_iff]; exact fun hh=>(elim_off hh).1 e1
    ·by_cases e2:b=v
     ·right; right
      intro w
      rw [Bool.eq_false_iff]; exact fun hh=>(elim_off hh).1 e2
     ·left; simp [elim,h,e1,e2]
   ·exact .inr (.inl fun w=>elim_keep h w hG.sym)
   ·exact .inr (.inr fun w=>elim_keep h w hG.sym)
theorem fill_lt {n:Nat}:∀(o:List Nat) (A:Gr) (a b:Nat),(a,b)∈fillL n A o→a < b∧b < n
 | [],A,a,b,h=>by simp [fillL] at h
 | v::o,A,a,b,h=>by
  simp only [fillL,List.mem_append] at h
  rcases h with h | h
  ·have:=miss_mem.1 h; omega
  ·exact fill_lt o _ a b h
def ltP (x y:Nat × Nat):Prop:=x.1 < y.1∨(x.1=y.1∧x.2 < y.2)
theorem grid_sorted (n:Nat) (g:Nat → Nat → Bool):((List.range n).flatMap fun a=>((List.range n).filter (g a)).map fun b=>(a,b)).Pairwise ltP:=by
 rw [List.pairwise_flatMap]
 refine ⟨fun a _=>?_,?_⟩
 ·rw [List.pairwise_map]
  exact (List.Pairwise.filter _ List.pairwise_lt_range).imp fun h=>.inr ⟨rfl,h⟩
 ·refine List.pairwise_lt_range.imp fun {a b} h x hx y hy=>?_
  simp only [List.mem_map] at hx hy
  obtain ⟨_,_,rfl⟩:=hx
  obtain ⟨_,_,rfl⟩:=hy
  exact .inl h
theorem nodup_of {l:List (Nat × Nat)} (h:l.Pairwise ltP):l.Nodup:=h.imp fun {x y} h e=>by
 subst e
 rcases h with h | h <;> omega
theorem fillL_nodup {n:Nat}:∀(o:List Nat) (A:Gr),Good n A→(fillL n A o).Nodup
 | [],A,hG=>by simp [fillL]
 | v::o,A,hG=>by
  simp only [fillL,List.nodup_append]
  refine ⟨nodup_of (grid_sorted n _),fillL_nodup o _ (elim_good hG v),fun x hx y hy e=>?_⟩
  subst e
  obtain ⟨a,b⟩:=x
  obtain ⟨h1,h2,h3,h4,h5⟩:=miss_mem.1 hx
  refine fill_not o (elim A v) (elim_good hG v) (.inl ?_) hy
  have e1:¬ a=v:=fun e=>by subst e; rw [hG.irr] at h3; cases h3
  have e2:¬ b=v:=fun e=>by subst e; rw [hG.irr] at h4; cases h4
  have e3:¬ a=b:=by omega
  simp [elim,h3,h4,e1,e2,e3]
theorem new_mem {n a b:Nat} {W A:Gr}:(a,b)∈newL n W A n↔a < b∧b < n∧W a b=true∧A a b=false:=by
 unfold newL newA
 simp only [List.mem_flatMap,List.mem_range,List.mem_map,List.mem_filter,Bool.and_eq_true,decide_eq_true_eq,Prod.mk.injEq,Bool.not_eq_true']
 grind
theorem newL_sorted (n:Nat) (W A:Gr):(newL n W A n).Pairwise ltP:=grid_sorted n _
theorem fill_perm {n:Nat} {A:Gr} {o:List Nat} (hG:Good n A):(fillL n A o).Perm (newL n (wholeA n A o) A n):=by
 rw [List.perm_ext_iff_of_nodup (fillL_nodup o A hG) (nodup_of (newL_sorted n _ _))]
 rintro ⟨a,b⟩
 rw [new_mem]
 unfold wholeA
 rw [joinL_iff]
 constructor
 ·intro h
  obtain ⟨h1,h2⟩:=fill_lt o A a b h
  refine ⟨h1,h2,.inr (.inl h),?_⟩
  rw [Bool.eq_false_iff]
  exact fun hh=>fill_not o A hG (.inl hh) h
 ·rintro ⟨h1,h2,h3 | h3 | h3,h4⟩
  ·rw [h3] at h4; cases h4
  ·exact h3
  ·have:=fill_lt o A b a h3; omega
theorem leP_pI {x y:Nat × Nat} (h:ltP x y):leP (pI x) (pI y)=true:=by
 unfold leP pI
 rcases h with h | ⟨h1,h2⟩
 ·simp; omega
 ·simp; omega
theorem leP_trans (x y z:Int × Int) (h1:leP x y=true) (h2:leP y z=true):leP x z=true:=by
 unfold leP at *
 simp at *
 omega
theorem leP_total (x y:Int × Int):(leP x y || leP y x)=true:=by
 unfold leP
 simp
 omega
theorem leP_anti (x y:Int × Int) (h1:leP x y=true) (h2:leP y x=true):x=y:=by
 unfold leP at *
 simp at *
 exact Prod.ext (by omega) (by omega)
theorem sort_fill {n:Nat} {A:Gr} {o:List Nat} (hn:n≤10) (hG:Good n A) (hl:o.length≤1000):sortD goodP leP ((fillL n A o).map pI)=some ((newL n (wholeA n A o) A n).map pI):=by
 unfold sortD
 have h1:((fillL n A o).map pI).all goodP=true:=by simp [goodP]
 have h2:Nat.blt ((fillL n A o).map pI).length 4611686018427387904=true:=by
  have:=fillL_len hn A o
  rw [List.length_map]
  exact Nat.ble_eq_true_of_le (by omega)
 rw [h1,h2,if_pos (by rfl)]
 congr 1
 refine sorted_one leP_anti ((isort_perm leP _).trans ((fill_perm hG).map pI)) (isort_sorted leP_trans leP_total _) ?_
 rw [List.pairwise_map]
 exact (newL_sorted n _ _).imp leP_pI
end Go.Ab
namespace Go.Ab
open Go
set_option maxRecDepth 100000
set_option maxHeartbeats 400000
structure Ord (n:Nat) (o:List Nat):Prop where
 len:o.length=n
 lt:∀v∈o,v < n
 nodup:o.Nodup
def okL (n:Nat) (l:List Int):Prop:=(∀x∈l,0≤x∧x < (n:Int))∧l.Nodup
theorem okL_nI {n:Nat} {l:List Int} (h:okL n l) (hl:l.length=n):∃o,l=nI o∧Ord n o:=by
 have e:l=nI (l.map Int.toNat):=by
  unfold nI
  rw [List.map_map]
  refine (List.ext_getElem (by simp) fun i h1 h2=>?_)
  have:=h.1 l[i] (List.getElem_mem h1)
  simp; omega
 refine ⟨l.map Int.toNat,e,by simpa using hl,fun v hv=>?_,?_⟩
 ·obtain ⟨x,hx,rfl⟩:=List.mem_map.1 hv
  have:=h.1 x hx; omega
 ·have h2:=h.2
  rw [e] at h2
  unfold nI at h2
  rw [List.Nodup,List.pairwise_map] at h2
  exact h2.imp fun hne he=>hne (by rw [he])
theorem ord_okL {n:Nat} {o:List Nat} (h:Ord n o):okL n (nI o):=by
 refine ⟨fun x hx=>?_,?_⟩
 ·unfold nI at hx
  obtain ⟨v,hv,rfl⟩:=List.mem_map.1 hx
  have:=h.lt v hv; omega
 ·unfold nI
  rw [List.Nodup,List.pairwise_map]
  exact h.nodup.imp fun hne he=>hne (by omega)
theorem okL_take {n:Nat} {l:List Int} {k:Nat} (hk:k < l.length):okL n (l.take (k+1))↔okL n (l.take k)∧(0≤l[k]∧l[k] < (n:Int))∧l[k] ∉ l.take k:=by
 rw [List.take_succ_eq_append_getElem hk]
 unfold okL
 rw [List.nodup_append]
 simp only [List.mem_append,List.mem_singleton]
 constructor
 ·rintro ⟨h1,h2,h3,h4⟩
  exact ⟨⟨fun x hx=>h1 x (.inl hx),h2⟩,h1 _ (.inr rfl),fun h=>h4 _ h _ rfl rfl⟩
 ·rintro ⟨⟨h1,h2⟩,h3,h4⟩
  refine ⟨fun x hx=>?_,h2,by simp,fun a ha b hb e=>?_⟩
  ·rcases hx with hx | hx
   ·exact h1 x hx
   ·rw [hx]; exact h3
  ·subst hb; subst e; exact h4 ha
theorem not_okL_take {n:Nat} {l:List Int} {k:Nat} (h:¬ okL n (l.take k)):¬ okL n l:=fun h2=>h ⟨fun x hx=>h2.1 x (List.mem_of_mem_take hx),List.Nodup.sublist (List.take_sublist k l) h2.2⟩
theorem read_loop {n:Nat} {g l:List Int} (hn:n≤10) (hg:g.length=n) (hl:l.length≤1000) :
  ∃r,whileN fuel (g_order_read_b0 l g) (0,0)=some r∧((∃u,r=Sum.inl u∧¬ okL n l)∨(∃u,r=Sum.inr u∧okL n l)):=by
 have h:=rng_loop (n:=l.length) (k0:=0) (by omega) (by omega) (fun i (t:Int)=>(t,i)) (body:=g_order_read_b0 l g) (fun k t=>okL n (l.take k)∧t=((msk n fun i=>(l.take k).contains (i:Int):Nat):Int)) (fun r=>(∃u,r=Sum.inl u∧¬ okL n l)∨(∃u,r=Sum.inr u∧okL n l))
  (fun k t _ h2 hI=>by
   obtain ⟨hok,rfl⟩:=hI
   have hst:=okL_take (n:=n) h2
   have ek:=lkI_nat h2
   generalize l[k]=x at hst ek
   have bad:¬ okL n (l.take (k+1))→g_order_read_b0 l g (((msk n fun i=>(l.take k).contains (i:Int):Nat):Int),(k:Int))=some (.done (Sum.inl ()))→(∃t',g_order_read_b0 l g (((msk n fun i=>(l.take k).contains (i:Int):Nat):Int),(k:Int))=some (.next (t',IntKind.i64.wrap ((k:Int)+1)))∧okL n (l.take (k+1))∧t'=((msk n fun i=>(l.take (k+1)).contains (i:Int):Nat):Int))∨∃r,g_order_read_b0 l g (((msk n fun i=>(l.take k).contains (i:Int):Nat):Int),(k:Int))=some (.done r)∧((∃u,r=Sum.inl u∧¬ okL n l)∨(∃u,r=Sum.inr u∧okL n l)):=fun h h3=>.inr ⟨_,h3,.inl ⟨(),rfl,not_okL_take h⟩⟩
   by_cases c1:x < 0
   ·refine bad (fun h=>by have:=(hst.1 h).2.1; omega) ?_
    unfold g_order_read_b0
    dsimp only
    rw [if_pos (dlt h2),ek,Option.bind_some,if_pos (by simpa using c1)]
   ·by_cases c2:x≥(n:Int)
    ·refine bad (fun h=>by have:=(hst.1 h).2.1; omega) ?_
     unfold g_order_read_b0
     dsimp only
     rw [if_pos (dlt h2),ek,Option.bind_some,if_neg (by simpa using c1),hg,if_pos (by simpa using c2)]
    ·obtain ⟨v,rfl⟩:∃v:Nat,x=(v:Int):=⟨x.toNat,by omega⟩
     have hv:v < n:=by omega
     have hb:IntKind.u64.wrap (BitVec.ofInt (IntKind.bits .u64) (Int.fdiv ((msk n fun i=>(l.take k).contains (i:Int):Nat):Int) (2^min (Int.toNat (v:Int)) (IntKind.bits .u64))) &&& BitVec.ofInt (IntKind.bits .u64) 1).toNat = (((l.take k).contains (v:Int)).toNat : Int):=by
      rw [u_bit (lt64 hn (msk_lt n _)) (by omega),bitS v hv]
     by_cases c3:(l.take k).contains (v:Int)=true
     ·refine bad (fun h=>(hst.1 h).2.2 (by simpa using c3)) ?_
      unfold g_order_read_b0
      dsimp only
      rw [if_pos (dlt h2),ek,Option.bind_some,if_neg (by simpa using c1),hg,if_neg (by simpa using c2),if_pos (nat_ge v),hb,c3,if_pos (by rfl)]
     ·refine .inl ⟨_,?_,hst.2 ⟨hok,by omega,by simpa using c3⟩,rfl⟩
      unfold g_order_read_b0
      dsimp only
      rw [if_pos (dlt h2),ek,Option.bind_some,if_neg (by simpa using c1),hg,if_neg (by simpa using c2),if_pos (nat_ge v),hb,Bool.eq_false_iff.2 c3,if_neg (by decide),if_pos (nat_ge v),u_ins hn hv]
      congr 3
      congr 1
      refine msk_congr fun i hi=>?_
      have e:=List.take_succ_eq_append_getElem h2
      have e2:l[k]=(v:Int):=by
       have:=lkI_nat h2
       rw [ek] at this; exact (Option.some.inj this).symm
      rw [e,e2]
      rw [Bool.eq_iff_iff]
      simp
      grind)
  (fun t hI=>⟨_,by unfold g_order_read_b0; dsimp only; rw [if_neg (nlt _)],.inr ⟨(),rfl,by have:=hI.1; rwa [List.take_length] at this⟩⟩)
  0 ⟨⟨fun x hx=>by simp at hx,by simp⟩,by
   have:(msk n fun i=>([]:List Int).contains (i:Int))=0:=(msk_eq (by have:=Nat.two_pow_pos n; omega) fun i _=>by simp).symm
   rw [List.take_zero,this]; rfl⟩
 exact h
theorem perm_loop {n:Nat} {l:List Int} (hn:n≤1000) (hl:l.length=n) :
  ∃r,whileN fuel (g_ref02_Permutation_b0 (n:Int) l) (0,List.replicate n false)=some r∧((∃u,r=Sum.inl u∧¬ okL n l)∨(∃u,r=Sum.inr u∧okL n l)):=by
 have h:=rng_loop (n:=n) (k0:=0) (by omega) (by omega) (fun i (t:List Bool)=>(i,t)) (body:=g_ref02_Permutation_b0 (n:Int) l) (fun k t=>okL n (l.take k)∧t.length=n∧∀i,i < n→t[i]?=some ((l.take k).contains (i:Int))) (fun r=>(∃u,r=Sum.inl u∧¬ okL n l)∨(∃u,r=Sum.inr u∧okL n l))
  (fun k t _ h2 hI=>by
   obtain ⟨hok,htl,ht⟩:=hI
   have h2':k < l.length:=by omega
   have hst:=okL_take (n:=n) h2'
   have ek:=lkI_nat h2'
   generalize l[k]=x at hst ek
   have bad:¬ okL n (l.take (k+1))→g_ref02_Permutation_b0 (n:Int) l ((k:Int),t)=some (.done (Sum.inl ()))→(∃t',g_ref02_Permutation_b0 (n:Int) l ((k:Int),t)=some (.next (IntKind.i64.wrap ((k:Int)+1),t'))∧okL n (l.take (k+1))∧t'.length=n∧∀i,i < n→t'[i]?=some ((l.take (k+1)).contains (i:Int)))∨∃r,g_ref02_Permutation_b0 (n:Int) l ((k:Int),t)=some (.done r)∧((∃u,r=Sum.inl u∧¬ okL n l)∨(∃u,r=Sum.inr u∧okL n l)):=fun h h3=>.inr ⟨_,h3,.inl ⟨(),rfl,not_okL_take h⟩⟩
   by_cases c1:x < 0
   ·refine bad (fun h=>by have:=(hst.1 h).2.1; omega) ?_
    unfold g_ref02_Permutation_b0
    dsimp only
    rw [if_pos (dlt h2),ek,Option.bind_some,if_pos (by simpa using c1)]
   ·by_cases c2:x≥(n:Int)
    ·refine bad (fun h=>by have:=(hst.1 h).2.1; omega) ?_
     unfold g_ref02_Permutation_b0
     dsimp only
     rw [if_pos (dlt h2),ek,Option.bind_some,if_neg (by simpa using c1),if_pos (by simpa using c2)]
    ·obtain ⟨v,rfl⟩:∃v:Nat,x=(v:Int):=⟨x.toNat,by omega⟩
     have hv:v < n:=by omega
     have hb:lkI t (v:Int)=some ((l.take k).contains (v:Int)):=by unfold lkI; rw [if_neg (by omega),Int.toNat_natCast,ht v hv]
     by_cases c3:(l.take k).contains (v:Int)=true
     ·refine bad (fun h=>(hst.1 h).2.2 (by simpa using c3)) ?_
      unfold g_ref02_Permutation_b0
      dsimp only
      rw [if_pos (dlt h2),ek,Option.bind_some,if_neg (by simpa using c1),if_neg (by simpa using c2),hb,Option.bind_some,if_pos c3]
     ·refine .inl ⟨List.set t v true,?_,hst.2 ⟨hok,by omega,by simpa using c3⟩,by simpa using htl,fun i hi=>?_⟩
      ·unfold g_ref02_Permutation_b0
       dsimp only
       rw [if_pos (dlt h2),ek,Option.bind_some,if_neg (by simpa using c1),if_neg (by simpa using c2),hb,Option.bind_some,if_neg c3,Int.toNat_natCast]
      ·have e:=List.take_succ_eq_append_getElem h2'
       have e2:l[k]=(v:Int):=by
        have:=lkI_nat h2'
        rw [ek] at this; exact (Option.some.inj this).symm
       rw [e,e2,List.getElem?_set,ht i hi]
       by_cases e3:v=i
       ·subst e3; simp [htl,hv]
       ·rw [if_neg e3]
        congr 1
        rw [Bool.eq_iff_iff]
        simp
        grind)
  (fun t hI=>⟨_,by unfold g_ref02_Permutation_b0; dsimp only; rw [if_neg (nlt _)],.inr ⟨(),rfl,by have:=hI.1; rwa [←hl,List.take_length,hl] at this⟩⟩)
  (List.replicate n false) ⟨⟨fun x hx=>by simp at hx,by simp⟩,by simp,fun i hi=>by simp [hi]⟩
 exact h
end Go.Ab
