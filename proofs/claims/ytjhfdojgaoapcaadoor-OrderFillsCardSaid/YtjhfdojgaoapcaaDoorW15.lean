/- What functions compute. No conditions. -/
import Derived.Test.YtjhfdojgaoapcaaDoorProg
import Derived.Test.YtjhfdojgaoapcaaDoorW10
import Derived.KernelRfl
import Derived.Test.YtjhfdojgaoapcaaDoorW11
import Derived.Test.YtjhfdojgaoapcaaDoorW14
import Derived.Test.YtjhfdojgaoapcaaDoorW12
import Derived.Test.YtjhfdojgaoapcaaDoorW13
import Derived.Test.YtjhfdojgaoapcaaDoorEng7
import Derived.IntWalk
set_option linter.all false
namespace Go.Ab
open Go Go.Proofs
set_option maxRecDepth 100000
set_option maxHeartbeats 4000000
noncomputable abbrev i49_177 (a42:Int) (a22:(Int × Int)):Int:=(zv (BitVec.ofInt (IntKind.bits .u64) a42 ||| BitVec.ofInt (IntKind.bits .u64) (zv (1*2^min (zt a22.2) (IntKind.bits .u64)))).toNat)
noncomputable abbrev i49_178 (a48:Int) (a22:(Int × Int)):Int:=(zv (BitVec.ofInt (IntKind.bits .u64) a48 ||| BitVec.ofInt (IntKind.bits .u64) (zv (1*2^min (zt a22.2) (IntKind.bits .u64)))).toNat)
noncomputable abbrev i49_179 (a30:Int) (a22:(Int × Int)):Int:=(zv (BitVec.ofInt (IntKind.bits .u64) (Int.fdiv a30 (2^min (zt a22.2) (IntKind.bits .u64))) &&& BitVec.ofInt (IntKind.bits .u64) 1).toNat)
noncomputable abbrev i49_180 (a22:(Int × Int)):Int:=(zv (1*2^min (zt a22.1) (IntKind.bits .u64)))
noncomputable abbrev o49_181 (x5:(List Int)):AObj:=oR true 1 (AV.int .u64) x5
noncomputable abbrev o49_182 (x7:(List Int)):AObj:=oR true 1 eI x7
noncomputable abbrev o49_183 (s19:(Int × (List Int))):AObj:=oR true 1 (AV.int .u64) s19.2
noncomputable abbrev o49_184 (a22:(Int × Int)):AObj:=.row true true true true 2 [.agg [vI a22.1,vI a22.2]]
noncomputable abbrev o49_185 (x56:(List Int)):AObj:=oR true 1 (AV.int .u64) x56
noncomputable abbrev e49_186 (x5:(List Int)):Nat×AV:=(3,.ref 0 0 x5.length)
noncomputable abbrev e49_187 (x7:(List Int)):Nat×AV:=(4,.ref 1 0 x7.length)
noncomputable abbrev e49_188 (x9:((List (Int × Int)) × Int)):Nat×AV:=(5,eL true (fun x:(Int × Int)=>AV.agg [vI x.1,vI x.2]) x9.1)
noncomputable abbrev e49_189 (s19:(Int × (List Int))):Nat×AV:=(9,.ref 2 0 s19.2.length)
noncomputable abbrev e49_190 (x9:((List (Int × Int)) × Int)):Nat×AV:=(38,eL true (fun x:(Int × Int)=>AV.agg [vI x.1,vI x.2]) x9.1)
noncomputable abbrev e49_191 (a22:(Int × Int)):Nat×AV:=(43,.fz [vI a22.1,vI a22.2])
noncomputable abbrev e49_192 (a22:(Int × Int)):Nat×AV:=(44,.agg [vI a22.1,vI a22.2])
noncomputable abbrev e49_193 (a22:(Int × Int)):Nat×AV:=(11,.fz [vI a22.1,vI a22.2])
noncomputable abbrev e49_194 (a22:(Int × Int)):Nat×AV:=(45,.fz [vI a22.1,vI a22.2])
noncomputable abbrev e49_195 (a30:Int) (a22:(Int × Int)):Nat×AV:=(70,.int .u64 (Int.fdiv a30 (2^min (zt a22.2) (IntKind.bits .u64))))
noncomputable abbrev e49_196:Nat×AV:=(142,.fn (.func 73) [] [.ptr 1 0 0])
noncomputable abbrev l49_197 (x5 x7:(List Int)):List AObj:=[(o49_181 x5),(o49_182 x7)]
noncomputable abbrev s49_198 (x5 x7:(List Int)) (x9:((List (Int × Int)) × Int)) (x11:(Int × Int)) (s19:(Int × (List Int))) (a22:(Int × Int)) (a30:Int):List (Nat×AV):=[(e49_186 x5),(e49_187 x7),(e49_188 x9),(7,vI x11.1),(e49_189 s19),(e49_190 x9),(39,vI (zn x9.1)),(40,vI s19.1),(41,vB true),(42,vI s19.1),(e49_191 a22),(e49_192 a22),(e49_193 a22),(10,vI s19.1),(e49_194 a22),(46,vI a22.1),(47,vB false),(48,vB false),(49,.fz [vI a22.2]),(50,vI a22.2),(51,.ref 0 0 x5.length),(52,vI (zn x5)),(53,vB false),(54,vB false),(55,vB false),(56,.fz [vI a22.1,vI a22.2]),(57,vI a22.1),(58,.fz [vI a22.2]),(59,vI a22.2),(60,vB false),(61,vB false),(62,vB false),(63,.ref 0 0 x5.length),(64,.fz [vI a22.1,vI a22.2]),(65,vI a22.1),(66,.ptr 0 (zt a22.1) 0),(67,.int .u64 a30),(68,.fz [vI a22.2]),(69,vI a22.2),(e49_195 a30 a22),(71,.int .u64 (i49_179 a30 a22))]
noncomputable abbrev s49_199 (a0 a1 a2 a3 a4 a5 a6 a7 a8 a9 a10 a11 a12 a13:Nat×AV) (x5 x7:(List Int)) (x9:((List (Int × Int)) × Int)) (x11:(Int × Int)) (s19:(Int × (List Int))) (a22:(Int × Int)):List (Nat×AV):=[(e49_186 x5),(e49_187 x7),(e49_188 x9),(7,vI x11.1),(e49_189 s19),(e49_190 x9),(39,vI (zn x9.1)),(40,vI s19.1),(41,vB true),(42,vI s19.1),(e49_191 a22),(e49_192 a22),(e49_193 a22),(10,vI s19.1),(e49_194 a22),(46,vI a22.1),a0,a1,a2,a3,a4,a5,a6,a7,a8,a9,a10,a11,a12,a13,(61,vB true),(62,vB true),(63,.tup []),(64,.tup []),(65,.tup []),(66,.tup []),(67,.tup []),(68,.tup []),(69,.tup []),(70,.tup []),(71,.tup []),(72,.tup []),(73,vB true),(74,vB true),(75,.tup []),(76,.tup []),(77,.tup []),(78,.tup []),(79,.tup []),(80,.tup []),(81,.tup []),(82,.tup []),(83,.tup []),(84,.tup []),(85,.tup []),(86,.tup []),(87,vB true)]
noncomputable abbrev s49_200 (x5 x7:(List Int)) (x9:((List (Int × Int)) × Int)) (x11:(Int × Int)):List (Nat×AV):=[(e49_186 x5),(e49_187 x7),(e49_188 x9),(7,vI x11.1)]
noncomputable abbrev u49_201:St:=⟨[(2,vB false)],[],149⟩
theorem g_law08_OrderFills_ok (p0:Tharuspexref08_Draft) (x:Bool) (h:g_law08_OrderFills p0=some x):CallOk Tryd.prog 9 [.agg [.int .u8 p0.N,eL true (fun x:(Int × Int)=>AV.agg [.int .u8 x.1,.int .u8 x.2]) p0.E,eL true (AV.int .u8) p0.Order]] (.ret (vB x) []):=by
 refine fn_ok [] Tryd.func9 rfl (by decide +kernel) rfl ?_
 unfold g_law08_OrderFills at h
 refine wp_eqB (base':=0) (st':=⟨[(0,.agg [.int .u8 p0.N,eL true (fun x:(Int × Int)=>AV.agg [.int .u8 x.1,.int .u8 x.2]) p0.E,eL true (AV.int .u8) p0.Order])],[],149⟩) kr kr ?_
 refine wp_seq (reg_in ?_)
 refine sgL false [] [] false gE ?_
 refine sz 1 2 (reg_end rfl (wp_seq (wp_seq (reg_in ?_))))
 refine callW bodyB_11 (g_law08_works_ok ) h (fun x1 _ h=>?_)
 refine sz 1 2 (reg_end rfl ?_)
 refine wb [13] h (fun q4 h=>?_) (fun q4 h=>?_)
 ·refine wcT (wp_seq (wg [] [] (rn ?_)))
  refine wgc [2] [] u49_201 ?_
  cases h
  exact wp_ret (show fnOut _ _ _ _=_ from by kernel_rfl)
 refine wcF (wp_skip (wp_seq (rga hfol (sy 1 1 ?_))))
 refine callW bodyB_33 (g_ref08_Draft_Graph_ok p0) h (fun x5 _ h=>?_)
 refine sy 1 3 ?_
 refine callW bodyB_15 (g_ref08_Draft_List_ok p0) h (fun x7 _ h=>?_)
 refine sy 2 6 (rgd (wp_seq ?_))
 refine wgc [3,4] [1,2] ⟨[(e49_186 x5),(e49_187 x7)],(l49_197 x5 x7),149⟩ ?_
 refine reg_in (sz 2 2 ?_)
 refine callR (as0:=[.ref 0 0 x5.length,.ref 1 0 x7.length]) (ids:=[0,1]) kr bodyB_16 (msnap_cons (snap_full (w:=1) (bx:=false) (ro:=false) (enc:=(AV.int .u64)) (l:=x5) (fl:=true) kr) (msnap_cons (snap_full (w:=1) (bx:=false) (ro:=false) (enc:=eI) (l:=x7) (fl:=true) kr) msnap_nil (by rfl)) (by rfl)) (fun x9 q10=>g_order_Fill_ok x5 x7 x9 q10) gF h (fun x9 q10 h=>?_)
 refine sz 5 8 (reg_end rfl (wp_seq (wg [3,4,5,6] [0,1,2] (reg_in (sz 2 2 ?_)))))
 refine callR (as0:=[.ref 0 0 x5.length,.ref 1 0 x7.length]) (ids:=[0,1]) kr bodyB_17 (msnap_cons (snap_full (w:=1) (bx:=false) (ro:=false) (enc:=(AV.int .u64)) (l:=x5) (fl:=true) kr) (msnap_cons (snap_full (w:=1) (bx:=false) (ro:=false) (enc:=eI) (l:=x7) (fl:=true) kr) msnap_nil (by rfl)) (by rfl)) (fun x11 q12=>g_order_Width_ok x5 x7 x11 q12) gF h (fun x11 q12 h=>?_)
 refine sz 5 8 (reg_end rfl (wp_seq (wp_seq ?_)))
 refine wgc [3,4,5,6,7,8] [0,1,2] ⟨[(e49_186 x5),(e49_187 x7),(5,.ref 2 0 x9.1.length),(6,vI x9.2),(7,vI x11.1),(8,vI x11.2)],(l49_197 x5 x7)++[oR true 2 (fun x:(Int × Int)=>AV.agg [vI x.1,vI x.2]) x9.1],149⟩ ?_
 refine reg_in (sz 3 3 ?_)
 refine rb [31,32] h (fun q14 h=>?_) (fun q14 h=>?_)
 ·refine sz 3 6 (reg_end rfl (wcT (wp_seq (wg [] [] (rn (wg [2] [] ?_))))))
  cases h
  exact wp_ret (show fnOut _ _ _ _=_ from by kernel_rfl)
 refine sz 3 6 (reg_end rfl ?_)
 refine wbz h (fun q16 h=>?_) (fun q16 h=>?_)
 ·refine wp_seq (wg [] [] (rn (wg [2] [] ?_)))
  cases h
  exact wp_ret (show fnOut _ _ _ _=_ from by kernel_rfl)
 refine wp_skip (wp_seq (wg [3,4,5,7] [0,1,2] (reg_in (sz 1 1 ?_))))
 refine callR (as0:=[.ref 0 0 x5.length]) (ids:=[0]) kr bodyB_38 (msnap_cons (snap_full (w:=1) (bx:=false) (ro:=false) (enc:=(AV.int .u64)) (l:=x5) (fl:=true) kr) msnap_nil (by rfl)) (fun x17 q18=>g_slices_Clone_uint_uint_ok x5 x17 q18) gF h (fun x17 q18 h=>?_)
 refine sgz 1 3 (S:=⟨[(e49_186 x5),(e49_187 x7),(5,.ref 2 0 x9.1.length),(7,vI x11.1),(36,.ref 0 0 x5.length),(37,.ref 3 0 x17.length),(9,.ref 3 0 x17.length)],(l49_197 x5 x7)++[oR true 2 (fun x:(Int × Int)=>AV.agg [vI x.1,vI x.2]) x9.1,oR true 1 (AV.int .u64) x17],149⟩) ?_
 refine reg_end rfl (wp_seq (wp_seq ?_))
 refine wp_wk (wk_snap 5 (st':=⟨(s49_200 x5 x7 x9 x11)++[(36,.ref 0 0 x5.length),(37,.ref 3 0 x17.length),(9,.ref 3 0 x17.length)],(l49_197 x5 x7)++[.row false true true true 2 (List.map (fun x:(Int × Int)=>AV.agg [vI x.1,vI x.2]) x9.1),oR true 1 (AV.int .u64) x17],149⟩) (y:=eL true (fun x:(Int × Int)=>AV.agg [vI x.1,vI x.2]) x9.1) (ids:=[2]) rfl (snap_full (w:=2) (bx:=false) (ro:=false) (enc:=(fun x:(Int × Int)=>AV.agg [vI x.1,vI x.2])) (l:=x9.1) (fl:=true) kr) kr) ?_
 refine reg_in (sz 1 1 ?_)
 refine lenL (enc:=(fun x:(Int × Int)=>AV.agg [vI x.1,vI x.2])) (l:=x9.1) (fl:=true) kr gE ?_
 refine sz 1 3 (reg_end rfl (wp_block ?_))
 refine wwh h (fun s19=>⟨(s49_200 x5 x7 x9 x11)++[(e49_189 s19),(e49_190 x9),(39,vI (zn x9.1)),(40,vI s19.1)],(l49_197 x5 x7)++[(o49_183 s19)],149⟩) (fun x out=>out=match x with | .inl v=>.go (.ret) u49_201 | .inr v=>.go (.exit 0) ⟨(s49_200 x5 x7 x9 x11)++[(9,.ref 2 0 v.length)],(l49_197 x5 x7)++[oR true 1 (AV.int .u64) v],149⟩) (wk_gc (live:=[3,4,5,7,9,38,39,40]) (keep:=[0,1,3]) kr) ?_ ?_
 ·intro s19 o h
  unfold g_law08_OrderFills_b0 at h
  refine sq (wp_seq ?_)
  refine wb [41] h (fun q21 h=>?_) (fun q21 h=>?_)
  ·refine wcT (wp_skip (wp_seq (wp_block (wp_seq (reg_in (sz 1 1 ?_))))))
   refine bind_elim h (fun a22 q23 h=>?_)
   refine idxL' (enc:=(fun x:(Int × Int)=>AV.agg [vI x.1,vI x.2])) (l:=x9.1) (n:=s19.1) (fl:=true) (w:=2) (a:=a22) kr rfl gE q23 ?_
   refine sgz 4 6 (S:=⟨(s49_200 x5 x7 x9 x11)++[(e49_189 s19),(e49_190 x9),(39,vI (zn x9.1)),(40,vI s19.1),(41,vB true),(42,vI s19.1),(e49_191 a22),(e49_192 a22),(11,.ptr 3 0 0),(10,vI s19.1)],(l49_197 x5 x7)++[(o49_183 s19),oX true true 2 (.agg [vI a22.1,vI a22.2])],149⟩) ?_
   refine reg_end rfl (wp_seq (wp_seq ?_))
   refine wp_wk (wk_snap 11 (st':=⟨(s49_200 x5 x7 x9 x11)++[(e49_189 s19),(e49_190 x9),(39,vI (zn x9.1)),(40,vI s19.1),(41,vB true),(42,vI s19.1),(e49_191 a22),(e49_192 a22),(e49_193 a22),(10,vI s19.1)],(l49_197 x5 x7)++[(o49_183 s19),(o49_184 a22)],149⟩) (y:=.fz [vI a22.1,vI a22.2]) (ids:=[3]) rfl (snap_ptr rfl (msnap_cons (snap_agg (msnap_cons rfl (msnap_cons rfl msnap_nil (by rfl)) (by rfl))) msnap_nil (by rfl)) (by rfl) (by rfl)) kr) ?_
   refine rga hfol (sy 4 4 ?_)
   refine rb [47,48] h (fun q25 h=>?_) (fun q25 h=>?_)
   ·refine sgy 39 43 (S:=⟨(s49_199 (47,vB true) (48,vB true) (49,.tup []) (50,.tup []) (51,.tup []) (52,.tup []) (53,.tup []) (54,vB true) (55,vB true) (56,.tup []) (57,.tup []) (58,.tup []) (59,.tup []) (60,.tup []) x5 x7 x9 x11 s19 a22),(l49_197 x5 x7)++[(o49_183 s19),(o49_184 a22)],149⟩) ?_
    refine rgd (wcT (wp_seq (wg [] [] (rn (wg [2] [] ?_)))))
    refine wp_ret ?_
    cases h
    exact ⟨kr,rfl⟩
   refine sy 7 11 ?_
   refine rb [53,54,55] h (fun q27 h=>?_) (fun q27 h=>?_)
   ·refine sgy 32 43 (S:=⟨(s49_199 (47,vB false) (48,vB false) (49,.fz [vI a22.2]) (50,vI a22.2) (51,.ref 0 0 x5.length) (52,vI (zn x5)) (53,vB true) (54,vB true) (55,vB true) (56,.tup []) (57,.tup []) (58,.tup []) (59,.tup []) (60,.tup []) x5 x7 x9 x11 s19 a22),(l49_197 x5 x7)++[(o49_183 s19),(o49_184 a22)],149⟩) ?_
    refine rgd (wcT (wp_seq (wg [] [] (rn (wg [2] [] ?_)))))
    refine wp_ret ?_
    cases h
    exact ⟨kr,rfl⟩
   refine sy 7 18 ?_
   refine rb [60,61,62] h (fun q29 h=>?_) (fun q29 h=>?_)
   ·refine sgy 25 43 (S:=⟨(s49_199 (47,vB false) (48,vB false) (49,.fz [vI a22.2]) (50,vI a22.2) (51,.ref 0 0 x5.length) (52,vI (zn x5)) (53,vB false) (54,vB false) (55,vB false) (56,.fz [vI a22.1,vI a22.2]) (57,vI a22.1) (58,.fz [vI a22.2]) (59,vI a22.2) (60,vB true) x5 x7 x9 x11 s19 a22),(l49_197 x5 x7)++[(o49_183 s19),(o49_184 a22)],149⟩) ?_
    refine rgd (wcT (wp_seq (wg [] [] (rn (wg [2] [] ?_)))))
    refine wp_ret ?_
    cases h
    exact ⟨kr,rfl⟩
   refine sy 3 21 ?_
   refine bind_elim h (fun a30 q31 h=>?_)
   refine idxR' (enc:=(AV.int .u64)) (l:=x5) (n:=a22.1) (w:=1) (ob:=0) (ro:=false) (nr:=true) (fl:=true) (a:=a30) kr kr gE q31 ?_
   refine loadR (enc:=(AV.int .u64)) (l:=x5) (n:=a22.1) (w:=1) (ob:=0) (c:=0) (bx:=false) (ro:=false) (nr:=true) (fl:=true) (a:=a30) kr kr q31 gE ?_
   refine sy 2 25 ?_
   refine shrR (k:=.u64) (k':=.i64) (a:=a30) (b:=a22.2) kr gE h (fun h=>?_)
   refine sy 4 30 ?_
   refine rb [72,73,74] h (fun q33 h=>?_) (fun q33 h=>?_)
   ·refine sgy 13 43 (S:=⟨(s49_198 x5 x7 x9 x11 s19 a22 a30)++[(72,vB true),(73,vB true),(74,vB true),(75,.tup []),(76,.tup []),(77,.tup []),(78,.tup []),(79,.tup []),(80,.tup []),(81,.tup []),(82,.tup []),(83,.tup []),(84,.tup []),(85,.tup []),(86,.tup []),(87,vB true)],(l49_197 x5 x7)++[(o49_183 s19),(o49_184 a22)],149⟩) ?_
    refine rgd (wcT (wp_seq (wg [] [] (rn (wg [2] [] ?_)))))
    refine wp_ret ?_
    cases h
    exact ⟨kr,rfl⟩
   refine sy 3 33 ?_
   refine rb [76,77] h (fun q35 h=>?_) (fun q35 h=>?_)
   ·refine sgy 3 36 (S:=⟨(s49_198 x5 x7 x9 x11 s19 a22 a30)++[(72,vB false),(73,vB false),(74,vB false),(75,vI s19.1),(76,vB true),(77,vB true),(78,eL true (fun x:(Int × Int)=>AV.agg [vI x.1,vI x.2]) x9.1),(79,vI s19.1),(80,vI (zw (s19.1 - 1)))],(l49_197 x5 x7)++[(o49_183 s19),(o49_184 a22)],149⟩) ?_
    refine bind_elim h (fun a36 q37 h=>?_)
    refine idxL' (enc:=(fun x:(Int × Int)=>AV.agg [vI x.1,vI x.2])) (l:=x9.1) (n:=zw (s19.1 - 1)) (fl:=true) (w:=2) (a:=a36) (S:=⟨(s49_198 x5 x7 x9 x11 s19 a22 a30)++[(72,vB false),(73,vB false),(74,vB false),(75,vI s19.1),(76,vB true),(77,vB true),(78,eL true (fun x:(Int × Int)=>AV.agg [vI x.1,vI x.2]) x9.1),(79,vI s19.1),(80,vI (zw (s19.1 - 1))),(81,.fz [vI a36.1,vI a36.2])],(l49_197 x5 x7)++[(o49_183 s19),(o49_184 a22)],149⟩) kr rfl kr q37 ?_
    refine sliA (cs:=[vI a36.1,vI a36.2]) (n:=2) (fl:=true) (S:=⟨(s49_198 x5 x7 x9 x11 s19 a22 a30)++[(72,vB false),(73,vB false),(74,vB false),(75,vI s19.1),(76,vB true),(77,vB true),(78,eL true (fun x:(Int × Int)=>AV.agg [vI x.1,vI x.2]) x9.1),(79,vI s19.1),(80,vI (zw (s19.1 - 1))),(81,.fz [vI a36.1,vI a36.2]),(82,.lst true [vI a36.1,vI a36.2])],(l49_197 x5 x7)++[(o49_183 s19),(o49_184 a22)],149⟩) kr rfl (by omega) rfl rfl kr ?_
    refine sliA (cs:=[vI a22.1,vI a22.2]) (n:=2) (fl:=true) kr rfl (by omega) rfl rfl gE ?_
    refine callW bodyB_39 (g_slices_Compare_int_int_ok [a36.1,a36.2] [a22.1,a22.2]) h (fun x38 _ h=>?_)
    refine sy 3 43 (rgd ?_)
    refine wbz h (fun q41 h=>?_) (fun q41 h=>?_)
    ·refine wp_seq (wg [] [] (rn (wg [2] [] ?_)))
     refine wp_ret ?_
     cases h
     exact ⟨kr,rfl⟩
    refine wp_skip (wp_seq (wg [3,4,5,7,9,38,39,40,11] [0,1,2] (rga hfol (sy 3 3 ?_))))
    refine bind_elim h (fun a42 q43 h=>?_)
    refine idxR' (enc:=(AV.int .u64)) (l:=s19.2) (n:=a22.1) (w:=1) (ob:=2) (ro:=false) (nr:=true) (fl:=true) (a:=a42) kr kr gE q43 ?_
    refine loadR (enc:=(AV.int .u64)) (l:=s19.2) (n:=a22.1) (w:=1) (ob:=2) (c:=0) (bx:=false) (ro:=false) (nr:=true) (fl:=true) (a:=a42) kr kr q43 gE ?_
    refine sy 2 7 ?_
    refine shlR (k:=.u64) (k':=.i64) (a:=1) (b:=a22.2) kr gE h (fun h=>?_)
    refine sy 1 9 ?_
    refine idxR' (enc:=(AV.int .u64)) (l:=s19.2) (n:=a22.1) (w:=1) (ob:=2) (ro:=false) (nr:=true) (fl:=true) (a:=a42) kr kr gE q43 ?_
    refine storeR (enc:=(AV.int .u64)) (l:=s19.2) (n:=a22.1) (ob:=2) (w:=1) (bx:=false) (nr:=true) (fl:=true) (c:=0) (a:=a42) (a':=zv (BitVec.ofInt (IntKind.bits .u64) a42 ||| BitVec.ofInt (IntKind.bits .u64) (zv (1*2^min (zt a22.2) (IntKind.bits .u64)))).toNat) (v:=.int .u64 (i49_177 a42 a22)) false kr kr q43 kr rfl kr gE kr ?_
    refine rl [9,88] (n:=s19.2.length) (m:=(List.set s19.2 (zt a22.1) (i49_177 a42 a22)).length) (by simp only [List.length_set]) ?_
    refine rgd ?_
    refine wgc [3,4,5,7,9,38,39,40,11] [0,1,2] ⟨(s49_200 x5 x7 x9 x11)++[(9,.ref 2 0 ((List.set s19.2 (zt a22.1) (i49_177 a42 a22)).length)),(e49_190 x9),(39,vI (zn x9.1)),(40,vI s19.1),(e49_193 a22)],(l49_197 x5 x7)++[oR true 1 (AV.int .u64) (List.set s19.2 (zt a22.1) (i49_177 a42 a22))],149⟩ ?_
    refine rga hfol (sy 3 3 ?_)
    refine bind_elim h (fun a44 q45 h=>?_)
    refine idxR' (enc:=(AV.int .u64)) (l:=(List.set s19.2 (zt a22.1) (i49_177 a42 a22))) (n:=a22.2) (w:=1) (ob:=2) (ro:=false) (nr:=true) (fl:=true) (a:=a44) kr kr gE q45 ?_
    refine loadR (enc:=(AV.int .u64)) (l:=(List.set s19.2 (zt a22.1) (i49_177 a42 a22))) (n:=a22.2) (w:=1) (ob:=2) (c:=0) (bx:=false) (ro:=false) (nr:=true) (fl:=true) (a:=a44) kr kr q45 gE ?_
    refine sy 2 7 ?_
    refine shlR (k:=.u64) (k':=.i64) (a:=1) (b:=a22.1) kr gE h (fun h=>?_)
    refine sy 1 9 ?_
    refine idxR' (enc:=(AV.int .u64)) (l:=(List.set s19.2 (zt a22.1) (i49_177 a42 a22))) (n:=a22.2) (w:=1) (ob:=2) (ro:=false) (nr:=true) (fl:=true) (a:=a44) kr kr gE q45 ?_
    refine storeR (enc:=(AV.int .u64)) (l:=(List.set s19.2 (zt a22.1) (i49_177 a42 a22))) (n:=a22.2) (ob:=2) (w:=1) (bx:=false) (nr:=true) (fl:=true) (c:=0) (a:=a44) (a':=zv (BitVec.ofInt (IntKind.bits .u64) a44 ||| BitVec.ofInt (IntKind.bits .u64) (i49_180 a22)).toNat) (v:=.int .u64 (zv (BitVec.ofInt (IntKind.bits .u64) a44 ||| BitVec.ofInt (IntKind.bits .u64) (i49_180 a22)).toNat)) false kr kr q45 kr rfl kr gE kr ?_
    refine rl [9,98] (n:=(List.set s19.2 (zt a22.1) (i49_177 a42 a22)).length) (m:=(List.set (List.set s19.2 (zt a22.1) (i49_177 a42 a22)) (zt a22.2) (zv (BitVec.ofInt (IntKind.bits .u64) a44 ||| BitVec.ofInt (IntKind.bits .u64) (i49_180 a22)).toNat)).length) (by simp only [List.length_set]) ?_
    refine rgd (wg [3,4,5,7,9,38,39,40] [0,1,2] (rn ?_))
    cases h
    exact ⟨_,rfl,(wk_gc (live:=[3,4,5,7,9,38,39,40]) (keep:=[0,1,2]) kr)⟩
   refine sgy 10 43 (S:=⟨(s49_198 x5 x7 x9 x11 s19 a22 a30)++[(72,vB false),(73,vB false),(74,vB false),(75,vI s19.1),(76,vB false),(77,vB false),(78,.tup []),(79,.tup []),(80,.tup []),(81,.tup []),(82,.tup []),(83,.tup []),(84,.tup []),(85,.tup []),(86,vB false),(87,vB false)],(l49_197 x5 x7)++[(o49_183 s19),(o49_184 a22)],149⟩) ?_
   refine rgd (wcF (wp_skip (wp_seq (wg [3,4,5,7,9,38,39,40,11] [0,1,2] (rga hfol (sy 3 3 ?_))))))
   refine bind_elim h (fun a48 q49 h=>?_)
   refine idxR' (enc:=(AV.int .u64)) (l:=s19.2) (n:=a22.1) (w:=1) (ob:=2) (ro:=false) (nr:=true) (fl:=true) (a:=a48) kr kr gE q49 ?_
   refine loadR (enc:=(AV.int .u64)) (l:=s19.2) (n:=a22.1) (w:=1) (ob:=2) (c:=0) (bx:=false) (ro:=false) (nr:=true) (fl:=true) (a:=a48) kr kr q49 gE ?_
   refine sy 2 7 ?_
   refine shlR (k:=.u64) (k':=.i64) (a:=1) (b:=a22.2) kr gE h (fun h=>?_)
   refine sy 1 9 ?_
   refine idxR' (enc:=(AV.int .u64)) (l:=s19.2) (n:=a22.1) (w:=1) (ob:=2) (ro:=false) (nr:=true) (fl:=true) (a:=a48) kr kr gE q49 ?_
   refine storeR (enc:=(AV.int .u64)) (l:=s19.2) (n:=a22.1) (ob:=2) (w:=1) (bx:=false) (nr:=true) (fl:=true) (c:=0) (a:=a48) (a':=zv (BitVec.ofInt (IntKind.bits .u64) a48 ||| BitVec.ofInt (IntKind.bits .u64) (zv (1*2^min (zt a22.2) (IntKind.bits .u64)))).toNat) (v:=.int .u64 (i49_178 a48 a22)) false kr kr q49 kr rfl kr gE kr ?_
   refine rl [9,88] (n:=s19.2.length) (m:=(List.set s19.2 (zt a22.1) (i49_178 a48 a22)).length) (by simp only [List.length_set]) ?_
   refine rgd ?_
   refine wgc [3,4,5,7,9,38,39,40,11] [0,1,2] ⟨(s49_200 x5 x7 x9 x11)++[(9,.ref 2 0 ((List.set s19.2 (zt a22.1) (i49_178 a48 a22)).length)),(e49_190 x9),(39,vI (zn x9.1)),(40,vI s19.1),(e49_193 a22)],(l49_197 x5 x7)++[oR true 1 (AV.int .u64) (List.set s19.2 (zt a22.1) (i49_178 a48 a22))],149⟩ ?_
   refine rga hfol (sy 3 3 ?_)
   refine bind_elim h (fun a50 q51 h=>?_)
   refine idxR' (enc:=(AV.int .u64)) (l:=(List.set s19.2 (zt a22.1) (i49_178 a48 a22))) (n:=a22.2) (w:=1) (ob:=2) (ro:=false) (nr:=true) (fl:=true) (a:=a50) kr kr gE q51 ?_
   refine loadR (enc:=(AV.int .u64)) (l:=(List.set s19.2 (zt a22.1) (i49_178 a48 a22))) (n:=a22.2) (w:=1) (ob:=2) (c:=0) (bx:=false) (ro:=false) (nr:=true) (fl:=true) (a:=a50) kr kr q51 gE ?_
   refine sy 2 7 ?_
   refine shlR (k:=.u64) (k':=.i64) (a:=1) (b:=a22.1) kr gE h (fun h=>?_)
   refine sy 1 9 ?_
   refine idxR' (enc:=(AV.int .u64)) (l:=(List.set s19.2 (zt a22.1) (i49_178 a48 a22))) (n:=a22.2) (w:=1) (ob:=2) (ro:=false) (nr:=true) (fl:=true) (a:=a50) kr kr gE q51 ?_
   refine storeR (enc:=(AV.int .u64)) (l:=(List.set s19.2 (zt a22.1) (i49_178 a48 a22))) (n:=a22.2) (ob:=2) (w:=1) (bx:=false) (nr:=true) (fl:=true) (c:=0) (a:=a50) (a':=zv (BitVec.ofInt (IntKind.bits .u64) a50 ||| BitVec.ofInt (IntKind.bits .u64) (i49_180 a22)).toNat) (v:=.int .u64 (zv (BitVec.ofInt (IntKind.bits .u64) a50 ||| BitVec.ofInt (IntKind.bits .u64) (i49_180 a22)).toNat)) false kr kr q51 kr rfl kr gE kr ?_
   refine rl [9,98] (n:=(List.set s19.2 (zt a22.1) (i49_178 a48 a22)).length) (m:=(List.set (List.set s19.2 (zt a22.1) (i49_178 a48 a22)) (zt a22.2) (zv (BitVec.ofInt (IntKind.bits .u64) a50 ||| BitVec.ofInt (IntKind.bits .u64) (i49_180 a22)).toNat)).length) (by simp only [List.length_set]) ?_
   refine rgd (wg [3,4,5,7,9,38,39,40] [0,1,2] (rn ?_))
   cases h
   exact ⟨_,rfl,(wk_gc (live:=[3,4,5,7,9,38,39,40]) (keep:=[0,1,2]) kr)⟩
  refine wcF (wg [3,4,5,7,9] [0,1,2] ?_)
  refine wp_exit ?_
  cases h
  exact ⟨kr,rfl⟩
 intro x54 h out hx
 subst hx
 rcases x54 with x55 | x56
 ·dsimp only at h ⊢
  cases h
  show fnOut _ _ _ _=_
  kernel_rfl
 ·dsimp only at h ⊢
  refine wp_seq (reg_in ?_)
  refine inlR (f:=37) (fn:=Tryd.f37) (as0:=[vB true]) kr Tryd.func37 rfl (by decide +kernel) rfl ?_
  refine wp_eqB (base':=3) (st':=⟨[(0,vB true)],(l49_197 x5 x7)++[(o49_185 x56)],4⟩) kr kr ?_
  refine sq (sq (wg [2] [3] ?_))
  refine wp_ret ?_
  refine ⟨⟨(s49_200 x5 x7 x9 x11)++[(9,.ref 2 0 x56.length),(109,.fn (.func 73) [] [.ptr 3 0 0])],(l49_197 x5 x7)++[(o49_185 x56),oX true true 1 (vB true)],149⟩,by as_aux_lemma=>kernel_rfl,?_⟩
  refine sz 1 2 ?_
  refine callR (as0:=[.ref 2 0 x56.length]) (ids:=[2]) kr bodyB_25 (msnap_cons (snap_full (w:=1) (bx:=false) (ro:=false) (enc:=(AV.int .u64)) (l:=x56) (fl:=true) kr) msnap_nil (by rfl)) (fun x57 q58=>g_order_Chordal_ok x56 x57 q58) gF h (fun x57 q58 h=>?_)
  refine sgz 2 5 (S:=⟨(s49_200 x5 x7 x9 x11)++[(9,.ref 2 0 x56.length),(109,.fn (.func 73) [] [.ptr 3 0 0]),(110,.ref 2 0 x56.length),(111,.tup [vB x57.1,vI x57.2]),(112,vB x57.1),(113,vI x57.2)],(l49_197 x5 x7)++[(o49_185 x56),oX true true 1 (vB true)],149⟩) ?_
  refine callR (as0:=[vB x57.1,vI x57.2,.ptr 3 0 0]) (ids:=[3]) kr bodyB_73 (msnap_cons rfl (msnap_cons rfl (msnap_cons (snap_ptr rfl (msnap_cons rfl msnap_nil (by rfl)) (by rfl) (by rfl)) msnap_nil (by rfl)) (by rfl)) (by rfl)) (fun x59 q60=>g_law08_is_bool_1_k5_ok x57.1 x57.2 true x59 q60) gF h (fun x59 q60 h=>?_)
  refine sz 1 7 (rwg [3,4,5,7,9,115] [0,1,2] ?_)
  refine rb [115] h (fun q62 h=>?_) (fun q62 h=>?_)
  ·refine inlR (f:=40) (fn:=Tryd.f40) (as0:=[.nils]) kr Tryd.func40 rfl (by decide +kernel) rfl ?_
   refine wp_eqB (base':=3) (st':=⟨[(0,.nils)],(l49_197 x5 x7)++[(o49_185 x56)],4⟩) kr kr ?_
   refine wp_seq (reg_in ?_)
   refine sgL false [] [] false gE ?_
   refine sz 1 2 (reg_end rfl (sq (wg [2] [3] ?_)))
   refine wp_ret ?_
   refine ⟨⟨(s49_200 x5 x7 x9 x11)++[(9,.ref 2 0 x56.length),(115,vB true),(116,.fn (.func 74) [] [.ptr 3 0 0])],(l49_197 x5 x7)++[(o49_185 x56),oX true false 1 (.nils)],149⟩,by as_aux_lemma=>kernel_rfl,?_⟩
   refine sz 2 10 ?_
   refine callR (as0:=[.ref 2 0 x56.length,.ref 1 0 x7.length]) (ids:=[2,1]) kr bodyB_16 (msnap_cons (snap_full (w:=1) (bx:=false) (ro:=false) (enc:=(AV.int .u64)) (l:=x56) (fl:=true) kr) (msnap_cons (snap_full (w:=1) (bx:=false) (ro:=false) (enc:=eI) (l:=x7) (fl:=true) kr) msnap_nil (by rfl)) (by rfl)) (fun x63 q64=>g_order_Fill_ok x56 x7 x63 q64) gF h (fun x63 q64 h=>?_)
   refine sgz 2 13 (S:=⟨(s49_200 x5 x7 x9 x11)++[(9,.ref 2 0 x56.length),(115,vB true),(116,.fn (.func 74) [] [.ptr 3 0 0]),(117,.ref 2 0 x56.length),(118,.ref 1 0 x7.length),(119,.tup [.ref 4 0 x63.1.length,vI x63.2]),(120,.ref 4 0 x63.1.length),(121,vI x63.2)],(l49_197 x5 x7)++[(o49_185 x56),oX true false 1 (.nils),oR true 2 (fun x:(Int × Int)=>AV.agg [vI x.1,vI x.2]) x63.1],149⟩) ?_
   refine callR (as0:=[.ref 4 0 x63.1.length,vI x63.2,.ptr 3 0 0]) (ids:=[4,3]) kr bodyB_74 (msnap_cons (snap_full (w:=2) (bx:=false) (ro:=false) (enc:=(fun x:(Int × Int)=>AV.agg [vI x.1,vI x.2])) (l:=x63.1) (fl:=true) kr) (msnap_cons rfl (msnap_cons (snap_ptr rfl (msnap_cons rfl msnap_nil (by rfl)) (by rfl) (by rfl)) msnap_nil (by rfl)) (by rfl)) (by rfl)) (fun x65 q66=>g_law08_are_2_int_1_k1_ok x63.1 x63.2 x65 q66) gF h (fun x65 q66 h=>?_)
   refine sz 2 16 (rwg [3,4,5,7,9,124] [0,1,2] ?_)
   refine rb [124] h (fun q68 h=>?_) (fun q68 h=>?_)
   ·refine sz 1 17 ?_
    refine inlR (f:=36) (fn:=Tryd.f36) (as0:=[vI x11.1]) kr Tryd.func36 rfl (by decide +kernel) rfl ?_
    refine wp_eqB (base':=3) (st':=⟨[(0,vI x11.1)],(l49_197 x5 x7)++[(o49_185 x56)],4⟩) kr kr ?_
    refine sq (sq (wg [2] [3] ?_))
    refine wp_ret ?_
    refine ⟨⟨(s49_200 x5 x7 x9 x11)++[(9,.ref 2 0 x56.length),(124,vB true),(125,vI x11.1),(126,.fn (.func 72) [] [.ptr 3 0 0])],(l49_197 x5 x7)++[(o49_185 x56),oX true true 1 (vI x11.1)],149⟩,by as_aux_lemma=>kernel_rfl,?_⟩
    refine sz 2 20 ?_
    refine callR (as0:=[.ref 2 0 x56.length,.ref 1 0 x7.length]) (ids:=[2,1]) kr bodyB_17 (msnap_cons (snap_full (w:=1) (bx:=false) (ro:=false) (enc:=(AV.int .u64)) (l:=x56) (fl:=true) kr) (msnap_cons (snap_full (w:=1) (bx:=false) (ro:=false) (enc:=eI) (l:=x7) (fl:=true) kr) msnap_nil (by rfl)) (by rfl)) (fun x69 q70=>g_order_Width_ok x56 x7 x69 q70) gF h (fun x69 q70 h=>?_)
    refine sgz 2 23 (S:=⟨(s49_200 x5 x7 x9 x11)++[(9,.ref 2 0 x56.length),(124,vB true),(125,vI x11.1),(126,.fn (.func 72) [] [.ptr 3 0 0]),(127,.ref 2 0 x56.length),(128,.ref 1 0 x7.length),(129,.tup [vI x69.1,vI x69.2]),(130,vI x69.1),(131,vI x69.2)],(l49_197 x5 x7)++[(o49_185 x56),oX true true 1 (vI x11.1)],149⟩) ?_
    refine callR (as0:=[vI x69.1,vI x69.2,.ptr 3 0 0]) (ids:=[3]) kr bodyB_72 (msnap_cons rfl (msnap_cons rfl (msnap_cons (snap_ptr rfl (msnap_cons rfl msnap_nil (by rfl)) (by rfl) (by rfl)) msnap_nil (by rfl)) (by rfl)) (by rfl)) (fun x71 q72=>g_law08_is_int_1_k2_ok x69.1 x69.2 x11.1 x71 q72) gF h (fun x71 q72 h=>?_)
    refine sz 2 26 (rwg [3,5,134] [0] ?_)
    refine rb [134] h (fun q74 h=>?_) (fun q74 h=>?_)
    ·refine sz 1 27 ?_
     refine lenL (enc:=(fun x:(Int × Int)=>AV.agg [vI x.1,vI x.2])) (l:=x9.1) (fl:=true) kr gE ?_
     refine sz 2 30 (rwg [3,134,138] [0] ?_)
     refine rb [138] h (fun q76 h=>?_) (fun q76 h=>?_)
     ·refine sz 3 33 ?_
      refine inlR (f:=37) (fn:=Tryd.f37) (as0:=[vB true]) kr Tryd.func37 rfl (by decide +kernel) rfl ?_
      refine wp_eqB (base':=1) (st':=⟨[(0,vB true)],[(o49_181 x5)],4⟩) kr kr ?_
      refine sq (sq (wg [2] [1] ?_))
      refine wp_ret ?_
      refine ⟨⟨[(e49_186 x5),(134,vB true),(138,vB true),(139,.tup []),(140,.tup []),(141,vB true),e49_196],[(o49_181 x5),oX true true 1 (vB true)],149⟩,by as_aux_lemma=>kernel_rfl,?_⟩
      refine sz 1 35 ?_
      refine callR (as0:=[.ref 0 0 x5.length]) (ids:=[0]) kr bodyB_25 (msnap_cons (snap_full (w:=1) (bx:=false) (ro:=false) (enc:=(AV.int .u64)) (l:=x5) (fl:=true) kr) msnap_nil (by rfl)) (fun x77 q78=>g_order_Chordal_ok x5 x77 q78) gF h (fun x77 q78 h=>?_)
      refine sgz 2 38 (S:=⟨[(e49_186 x5),(134,vB true),(138,vB true),(139,.tup []),(140,.tup []),(141,vB true),e49_196,(143,.ref 0 0 x5.length),(144,.tup [vB x77.1,vI x77.2]),(145,vB x77.1),(146,vI x77.2)],[(o49_181 x5),oX true true 1 (vB true)],149⟩) ?_
      refine callR (as0:=[vB x77.1,vI x77.2,.ptr 1 0 0]) (ids:=[1]) kr bodyB_73 (msnap_cons rfl (msnap_cons rfl (msnap_cons (snap_ptr rfl (msnap_cons rfl msnap_nil (by rfl)) (by rfl) (by rfl)) msnap_nil (by rfl)) (by rfl)) (by rfl)) (fun x79 q80=>g_law08_is_bool_1_k5_ok x77.1 x77.2 true x79 q80) gF h (fun x79 q80 h=>?_)
      refine sz 2 41 (reg_end rfl (wg [2] [] ?_))
      cases h
      exact wp_ret (show fnOut _ _ _ _=_ from by kernel_rfl)
     refine sz 1 31 ?_
     refine callR (as0:=[.ref 0 0 x5.length]) (ids:=[0]) kr bodyB_41 (msnap_cons (snap_full (w:=1) (bx:=false) (ro:=false) (enc:=(AV.int .u64)) (l:=x5) (fl:=true) kr) msnap_nil (by rfl)) (fun x81 q82=>g_law08_chordal_ok x5 x81 q82) gF h (fun x81 q82 h=>?_)
     refine sz 1 33 ?_
     refine inlR (f:=37) (fn:=Tryd.f37) (as0:=[vB x81]) kr Tryd.func37 rfl (by decide +kernel) rfl ?_
     refine wp_eqB (base':=1) (st':=⟨[(0,vB x81)],[(o49_181 x5)],4⟩) kr kr ?_
     refine sq (sq (wg [2] [1] ?_))
     refine wp_ret ?_
     refine ⟨⟨[(e49_186 x5),(134,vB true),(138,vB false),(139,.ref 0 0 x5.length),(140,vB x81),(141,vB x81),e49_196],[(o49_181 x5),oX true true 1 (vB x81)],149⟩,by as_aux_lemma=>kernel_rfl,?_⟩
     refine sz 1 35 ?_
     refine callR (as0:=[.ref 0 0 x5.length]) (ids:=[0]) kr bodyB_25 (msnap_cons (snap_full (w:=1) (bx:=false) (ro:=false) (enc:=(AV.int .u64)) (l:=x5) (fl:=true) kr) msnap_nil (by rfl)) (fun x83 q84=>g_order_Chordal_ok x5 x83 q84) gF h (fun x83 q84 h=>?_)
     refine sgz 2 38 (S:=⟨[(e49_186 x5),(134,vB true),(138,vB false),(139,.ref 0 0 x5.length),(140,vB x81),(141,vB x81),e49_196,(143,.ref 0 0 x5.length),(144,.tup [vB x83.1,vI x83.2]),(145,vB x83.1),(146,vI x83.2)],[(o49_181 x5),oX true true 1 (vB x81)],149⟩) ?_
     refine callR (as0:=[vB x83.1,vI x83.2,.ptr 1 0 0]) (ids:=[1]) kr bodyB_73 (msnap_cons rfl (msnap_cons rfl (msnap_cons (snap_ptr rfl (msnap_cons rfl msnap_nil (by rfl)) (by rfl) (by rfl)) msnap_nil (by rfl)) (by rfl)) (by rfl)) (fun x85 q86=>g_law08_is_bool_1_k5_ok x83.1 x83.2 x81 x85 q86) gF h (fun x85 q86 h=>?_)
     refine sz 2 41 (reg_end rfl (wg [2] [] ?_))
     cases h
     exact wp_ret (show fnOut _ _ _ _=_ from by kernel_rfl)
    refine sz 15 41 (reg_end rfl ?_)
    refine wgc [2] [] u49_201 ?_
    cases h
    exact wp_ret (show fnOut _ _ _ _=_ from by kernel_rfl)
   refine sz 25 41 (reg_end rfl ?_)
   refine wgc [2] [] u49_201 ?_
   cases h
   exact wp_ret (show fnOut _ _ _ _=_ from by kernel_rfl)
  refine sz 34 41 (reg_end rfl ?_)
  refine wgc [2] [] u49_201 ?_
  cases h
  exact wp_ret (show fnOut _ _ _ _=_ from by kernel_rfl)
end Go.Ab
namespace Go.Ab
open Go
theorem whileN_spec {σ ρ:Type} {body:σ→Option (Step σ ρ)} (I:σ→Prop) (m:σ→Nat) (Q:ρ→Prop)
  (step:∀s,I s→(∃s',body s=some (.next s')∧I s'∧m s' < m s)∨(∃r,body s=some (.done r)∧Q r)) :
  ∀(n:Nat) (s:σ),I s→m s < n→∃r,whileN n body s=some r∧Q r
 | 0,s,_,h=>by omega
 | n+1,s,hI,h=>by
  unfold whileN
  rcases step s hI with ⟨s',h1,h2,h3⟩ | ⟨r,h1,h2⟩
  ·rw [h1]
   exact whileN_spec I m Q step n s' h2 (by omega)
  ·rw [h1]
   exact ⟨r,rfl,h2⟩
theorem whileN_ex {σ ρ:Type} {body:σ→Option (Step σ ρ)} (I:σ→Prop) (m:σ→Nat) (Q:ρ→Prop)
  (step:∀s,I s→(∃s',body s=some (.next s')∧I s'∧m s' < m s)∨(∃r,body s=some (.done r)∧Q r)) (s:σ) (hI:I s) (hm:m s < 1152921504606846976):∃r,whileN fuel body s=some r∧Q r :=
 whileN_spec I m Q step fuel s hI hm
theorem w64 {n:Int} (h:-9223372036854775808≤n∧n≤9223372036854775807):IntKind.i64.wrap n=n:=by rw [IntKind.wrap_i64]; omega
theorem lkI_nat {α:Type} {l:List α} {k:Nat} (h:k < l.length):lkI l (k:Int)=some l[k]:=by
 unfold lkI
 rw [if_neg (by omega),Int.toNat_natCast,List.getElem?_eq_getElem h]
theorem tdiv_pos {a b:Int} (h:0≤a):Int.tdiv a b=a / b:=Int.tdiv_eq_ediv_of_nonneg h
theorem tmod_pos {a b:Int} (h:0≤a):Int.tmod a b=a % b:=Int.tmod_eq_emod_of_nonneg h
end Go.Ab
namespace Go.Ab
open Go
theorem one5 {cs:List AV} (h:WT (.int .u8) cs):∃a:Int,cs=[(AV.int .u8) a]∧(Lit.int .u8 a).wf=true:=by
 obtain ⟨n,rfl,w⟩:=h
 exact ⟨n,rfl,w⟩
theorem el5 {x:AV} (h:WT (.int .u8) x.flat ∧ (if false then x=.agg x.flat else x.cell=true)):∃a:Int,x=(AV.int .u8) a∧(Lit.int .u8 a).wf=true:=by
 obtain ⟨a,h1,h2⟩:=one5 h.1
 rw [flat_cell h.2] at h1
 exact ⟨a,(List.cons.inj h1).1,h2⟩
theorem rdA113 {cs:List AV} (h:WT (.cat (.int .u8) (.cat (.int .u8) .unit)) cs):∃x:(Int × Int),AV.agg cs=(fun x:(Int × Int)=>AV.agg [.int .u8 x.1,.int .u8 x.2]) x∧((Lit.int .u8 x.1).wf=true∧(Lit.int .u8 x.2).wf=true):=by
 obtain ⟨_,_,rfl,a0,r0⟩:=h
 obtain ⟨v0,e0,w0⟩:=one5 a0
 cases e0
 obtain ⟨_,_,rfl,a1,r1⟩:=r0
 obtain ⟨v1,e1,w1⟩:=one5 a1
 cases e1
 cases r1
 exact ⟨(v0,v1),rfl,⟨w0,w1⟩⟩
theorem el113 {x:AV} (h:WT (.cat (.int .u8) (.cat (.int .u8) .unit)) x.flat ∧ (if true then x=.agg x.flat else x.cell=true)):∃a:(Int × Int),x=(fun x:(Int × Int)=>AV.agg [.int .u8 x.1,.int .u8 x.2]) a∧((Lit.int .u8 a.1).wf=true∧(Lit.int .u8 a.2).wf=true):=by
 obtain ⟨a,h1,h2⟩:=rdA113 h.1
 have h3:x=.agg x.flat := h.2
 exact ⟨a,h3.trans h1,h2⟩
theorem one24 {cs:List AV} (h:WT (.slice true true 2 (.cat (.int .u8) (.cat (.int .u8) .unit))) cs):∃a:(List (Int × Int)),cs=[(eL true (fun x:(Int × Int)=>AV.agg [.int .u8 x.1,.int .u8 x.2])) a]∧(a.length≤maxLen∧∀y0∈a,((Lit.int .u8 y0.1).wf=true∧(Lit.int .u8 y0.2).wf=true)):=by
 obtain ⟨xs,rfl,hl,hx⟩:=h
 obtain ⟨l,rfl,hr⟩:=lists_of (enc:=(fun x:(Int × Int)=>AV.agg [.int .u8 x.1,.int .u8 x.2])) (R:=fun a=>((Lit.int .u8 a.1).wf=true∧(Lit.int .u8 a.2).wf=true)) (fun x hm=>el113 (hx x hm))
 exact ⟨l,rfl,by simpa using hl,hr⟩
theorem one25 {cs:List AV} (h:WT (.slice true false 1 (.int .u8)) cs):∃a:(List Int),cs=[(eL true (AV.int .u8)) a]∧(a.length≤maxLen∧∀y0∈a,(Lit.int .u8 y0).wf=true):=by
 obtain ⟨xs,rfl,hl,hx⟩:=h
 obtain ⟨l,rfl,hr⟩:=lists_of (enc:=(AV.int .u8)) (R:=fun a=>(Lit.int .u8 a).wf=true) (fun x hm=>el5 (hx x hm))
 exact ⟨l,rfl,by simpa using hl,hr⟩
def okTharuspexref08_Draft (x:Tharuspexref08_Draft):Prop:=((Lit.int .u8 x.N).wf=true)∧((x.E.length≤maxLen∧∀y0∈x.E,((Lit.int .u8 y0.1).wf=true∧(Lit.int .u8 y0.2).wf=true)))∧((x.Order.length≤maxLen∧∀y0∈x.Order,(Lit.int .u8 y0).wf=true))
theorem rdTharuspexref08_Draft {cs:List AV} (h:WT (.cat (.int .u8) (.cat (.slice true true 2 (.cat (.int .u8) (.cat (.int .u8) .unit))) (.cat (.slice true false 1 (.int .u8)) .unit))) cs):∃x:Tharuspexref08_Draft,AV.agg cs=eTharuspexref08_Draft x∧okTharuspexref08_Draft x:=by
 obtain ⟨_,_,rfl,a0,r0⟩:=h
 obtain ⟨v0,e0,w0⟩:=one5 a0
 cases e0
 obtain ⟨_,_,rfl,a1,r1⟩:=r0
 obtain ⟨v1,e1,w1⟩:=one24 a1
 cases e1
 obtain ⟨_,_,rfl,a2,r2⟩:=r1
 obtain ⟨v2,e2,w2⟩:=one25 a2
 cases e2
 cases r2
 exact ⟨⟨v0,v1,v2⟩,rfl,⟨w0,w1,w2⟩⟩
end Go.Ab
namespace Go.Ab
open Go
set_option maxRecDepth 100000
set_option maxHeartbeats 400000
def msk:Nat → (Nat → Bool)→Nat
 | 0,_=>0
 | n+1,p=>msk n p ||| (if p n then 2^n else 0)
theorem msk_bit (n:Nat) (p:Nat → Bool) (i:Nat):(msk n p).testBit i=(decide (i < n) && p i):=by
 induction n with
 | zero=>simp [msk]
 | succ n ih =>
  unfold msk
  rw [Nat.testBit_or,ih]
  by_cases h:i=n
  ·subst h
   cases hp:p i <;> simp [hp]
  ·have e:decide (i < n+1)=decide (i < n):=by by_cases h2:i < n <;> simp [h2] <;> omega
   rw [e]
   cases hp:p n
   ·simp
   ·simp only [if_true,Nat.testBit_two_pow]
    have e2:¬ n=i:=fun e=>h e.symm
    simp [e2]
theorem msk_lt (n:Nat) (p:Nat → Bool):msk n p < 2^n:=by
 induction n with
 | zero=>simp [msk]
 | succ n ih =>
  unfold msk
  refine Nat.or_lt_two_pow (Nat.lt_of_lt_of_le ih (Nat.pow_le_pow_right (by omega) (by omega))) ?_
  split
  ·exact Nat.pow_lt_pow_right (by omega) (by omega)
  ·exact Nat.two_pow_pos _
theorem msk_eq {n:Nat} {p:Nat → Bool} {a:Nat} (ha:a < 2^n) (h:∀i,i < n→a.testBit i=p i):a=msk n p:=by
 apply Nat.eq_of_testBit_eq
 intro i
 rw [msk_bit]
 by_cases hi:i < n
 ·simp [hi,h i hi]
 ·rw [Nat.testBit_lt_two_pow (Nat.lt_of_lt_of_le ha (Nat.pow_le_pow_right (by omega) (by omega)))]; simp [hi]
theorem msk_congr {n:Nat} {p q:Nat → Bool} (h:∀i,i < n→p i=q i):msk n p=msk n q :=
 msk_eq (msk_lt n p) fun i hi=>by rw [msk_bit,h i hi]; simp [hi]
theorem msk_inj {n:Nat} {p q:Nat → Bool} (h:msk n p=msk n q):∀i,i < n→p i=q i:=fun i hi=>by
 have:=msk_bit n p i
 rw [h,msk_bit] at this
 simpa [hi] using this.symm
theorem lt1024 {n a:Nat} (hn:n≤10) (ha:a < 2^n):a < 1024:=Nat.lt_of_lt_of_le ha (Nat.pow_le_pow_right (n:=2) (by omega) hn)
theorem lt64 {n a:Nat} (hn:n≤10) (ha:a < 2^n):a < 18446744073709551616:=by have:=lt1024 hn ha; omega
theorem u64_nat {n:Nat} (h:n < 18446744073709551616):IntKind.u64.wrap (n:Int)=(n:Int):=by
 simp [IntKind.wrap,IntKind.bits,IntKind.signed]; omega
theorem bv_nat {a:Nat} (h:a < 18446744073709551616):(BitVec.ofInt (IntKind.bits .u64) (a:Int)).toNat = a:=by
 rw [BitVec.ofInt_natCast,BitVec.toNat_ofNat]
 exact Nat.mod_eq_of_lt h
theorem fdiv_pow {a k:Nat}:Int.fdiv (a:Int) ((2:Int)^k)=((a / 2^k:Nat):Int):=by
 rw [Int.fdiv_eq_ediv_of_nonneg _ (by exact_mod_cast Nat.zero_le (2^k))]
 simp
theorem bv_bit {a j:Nat} (h:a < 18446744073709551616):(BitVec.ofInt (IntKind.bits .u64) (a:Int)).getLsbD j=a.testBit j:=by unfold BitVec.getLsbD; rw [bv_nat h]
theorem u_sh {v:Nat} (hv:v < 64):IntKind.u64.wrap (1*2^min (Int.toNat (v:Int)) (IntKind.bits .u64))=((2^v:Nat):Int):=by
 have hb:IntKind.bits .u64=64:=rfl
 have e0:min (Int.toNat (v:Int)) (IntKind.bits .u64)=v:=by rw [hb,Int.toNat_natCast]; omega
 have hp:2^v < 18446744073709551616:=Nat.pow_lt_pow_right (n:=64) (by omega) hv
 rw [e0,show (1:Int)*2^v=((2^v:Nat):Int) by simp,u64_nat hp]
theorem pow64 {v:Nat} (hv:v < 64):2^v < 18446744073709551616:=Nat.pow_lt_pow_right (n:=64) (by omega) hv
theorem u_diff {n:Nat} {p q:Nat → Bool} {a b:Nat} (hn:n≤64) (ha:a < 2^n) (hb:b < 18446744073709551616) (hp:∀i,i < n→a.testBit i=p i) (hq:∀i,i < n→b.testBit i=q i) :
  IntKind.u64.wrap (BitVec.ofInt (IntKind.bits .u64) (a:Int) &&& ~~~ BitVec.ofInt (IntKind.bits .u64) (b:Int)).toNat = ((msk n fun i=>p i && !q i:Nat):Int):=by
 have ha':a < 18446744073709551616:=Nat.lt_of_lt_of_le ha (Nat.pow_le_pow_right (n:=2) (by omega) hn)
 have h1:(BitVec.ofInt (IntKind.bits .u64) (a:Int) &&& ~~~ BitVec.ofInt (IntKind.bits .u64) (b:Int)).toNat < 18446744073709551616:=BitVec.isLt _
 rw [u64_nat h1]
 congr 1
 refine msk_eq ?_ fun i hi=>?_
 ·refine Nat.lt_of_le_of_lt ?_ ha
  rw [BitVec.toNat_and,bv_nat ha']
  exact Nat.and_le_left
 ·have:i < 64:=by omega
  have e:(BitVec.ofInt (IntKind.bits .u64) (a:Int) &&& ~~~ BitVec.ofInt (IntKind.bits .u64) (b:Int)).toNat.testBit i=(BitVec.ofInt (IntKind.bits .u64) (a:Int) &&& ~~~ BitVec.ofInt (IntKind.bits .u64) (b:Int)).getLsbD i:=rfl
  rw [e,BitVec.getLsbD_and,BitVec.getLsbD_not,bv_bit ha',bv_bit hb,hp i hi,hq i hi]
  have h64:i < IntKind.bits .u64:=this
  simp [h64]
theorem u_or {n:Nat} {p q:Nat → Bool} {a b:Nat} (hn:n≤64) (ha:a < 2^n) (hb:b < 2^n) (hp:∀i,i < n→a.testBit i=p i) (hq:∀i,i < n→b.testBit i=q i) :
  IntKind.u64.wrap (BitVec.ofInt (IntKind.bits .u64) (a:Int) ||| BitVec.ofInt (IntKind.bits .u64) (b:Int)).toNat = ((msk n fun i=>p i || q i:Nat):Int):=by
 have h64:2^n≤2^64:=Nat.pow_le_pow_right (n:=2) (by omega) hn
 have ha':a < 18446744073709551616:=Nat.lt_of_lt_of_le ha h64
 have hb':b < 18446744073709551616:=Nat.lt_of_lt_of_le hb h64
 rw [BitVec.toNat_or,bv_nat ha',bv_nat hb',u64_nat (Nat.or_lt_two_pow (n:=64) ha' hb')]
 congr 1
 exact msk_eq (Nat.or_lt_two_pow ha hb) fun i hi=>by rw [Nat.testBit_or,hp i hi,hq i hi]
theorem bit_pow (v i:Nat):(2^v).testBit i=decide (v=i):=Nat.testBit_two_pow
theorem bitS {n:Nat} {p:Nat → Bool}:∀i,i < n→(msk n p).testBit i=p i:=fun i hi=>by rw [msk_bit]; simp [hi]
theorem u_del {n v:Nat} {p:Nat → Bool} (hn:n≤10) (hv:v < 64):IntKind.u64.wrap (BitVec.ofInt (IntKind.bits .u64) ((msk n p:Nat):Int) &&& ~~~ BitVec.ofInt (IntKind.bits .u64) (IntKind.u64.wrap (1*2^min (Int.toNat (v:Int)) (IntKind.bits .u64)))).toNat = ((msk n fun i=>p i && !decide (v=i):Nat):Int):=by
 rw [u_sh hv]
 exact u_diff (by omega) (msk_lt n p) (pow64 hv) bitS fun i _=>bit_pow v i
theorem u_ins {n v:Nat} {p:Nat → Bool} (hn:n≤10) (hv:v < n):IntKind.u64.wrap (BitVec.ofInt (IntKind.bits .u64) ((msk n p:Nat):Int) ||| BitVec.ofInt (IntKind.bits .u64) (IntKind.u64.wrap (1*2^min (Int.toNat (v:Int)) (IntKind.bits .u64)))).toNat = ((msk n fun i=>p i || decide (v=i):Nat):Int):=by
 rw [u_sh (by omega)]
 exact u_or (by omega) (msk_lt n p) (Nat.pow_lt_pow_right (by omega) hv) bitS fun i _=>bit_pow v i
theorem u_bit {a k:Nat} (ha:a < 18446744073709551616) (hk:k < 64) :
  IntKind.u64.wrap (BitVec.ofInt (IntKind.bits .u64) (Int.fdiv (a:Int) (2^min (Int.toNat (k:Int)) (IntKind.bits .u64))) &&& BitVec.ofInt (IntKind.bits .u64) 1).toNat = ((a.testBit k).toNat : Int):=by
 have hb:IntKind.bits .u64=64:=rfl
 have e0:min (Int.toNat (k:Int)) (IntKind.bits .u64)=k:=by rw [hb,Int.toNat_natCast]; omega
 rw [e0,fdiv_pow]
 have h1:a / 2^k < 18446744073709551616:=Nat.lt_of_le_of_lt (Nat.div_le_self _ _) ha
 have e1:(BitVec.ofInt (IntKind.bits .u64) ((a / 2^k:Nat):Int) &&& BitVec.ofInt (IntKind.bits .u64) 1).toNat = (a / 2^k) % 2:=by
  rw [BitVec.toNat_and,bv_nat h1,show (BitVec.ofInt (IntKind.bits .u64) 1).toNat = 1 from rfl,Nat.and_one_is_mod]
 rw [e1,u64_nat (by omega)]
 have e2:a.testBit k=((a / 2^k) % 2==1):=by rw [Nat.testBit_eq_decide_div_mod_eq]; rfl
 rw [e2]
 rcases Nat.mod_two_eq_zero_or_one (a / 2^k) with h | h <;> rw [h] <;> rfl
theorem msk_all (n:Nat):msk n (fun _=>true)=2^n - 1:=(msk_eq (by have:=Nat.two_pow_pos n; omega) fun i hi=>by rw [Nat.testBit_two_pow_sub_one]; simp [hi]).symm
theorem u_all {n:Nat} (hn:n≤10):IntKind.u64.wrap ((IntKind.u64.wrap (1*2^min (Int.toNat (n:Int)) (IntKind.bits .u64))) - 1)=((msk n fun _=>true:Nat):Int):=by
 rw [u_sh (by omega),msk_all]
 have h1:=pow64 (v:=n) (by omega)
 have h2:=Nat.two_pow_pos n
 rw [show ((2^n:Nat):Int) - 1=((2^n - 1:Nat):Int) by omega,u64_nat (by omega)]
def cnt:Nat → (Nat → Bool)→Nat
 | 0,_=>0
 | n+1,p=>cnt n p+(p n).toNat
def tzN:Nat → (Nat → Bool)→Nat
 | 0,_=>0
 | n+1,p=>if p 0 then 0 else tzN n (fun i=>p (i+1))+1
def isS (x:Option Int) (y:Int):Bool:=match x with | some z=>z==y | none=>false
theorem isS_eq {x:Option Int} {y:Int} (h:isS x y=true):x=some y:=by
 cases x with
 | none=>cases h
 | some z=>simp only [isS,beq_iff_eq] at h; rw [h]
theorem all_at {p:Nat → Bool} {n:Nat} (h:(List.range n).all p=true) {k:Nat} (hk:k < n):p k=true:=List.all_eq_true.1 h k (List.mem_range.2 hk)
theorem T_tz:((List.range 1024).all fun R=>Nat.beq R 0 || (isS (g_math_bits_TrailingZeros (R:Int)) (tzN 10 R.testBit:Int)))=true:=by kernel_rfl
theorem T_rest:((List.range 1024).all fun R=>Nat.beq R 0 || (IntKind.u64.wrap (BitVec.ofInt (IntKind.bits .u64) (R:Int) &&& BitVec.ofInt (IntKind.bits .u64) (IntKind.u64.wrap ((R:Int) - 1))).toNat == ((msk 10 fun i=>R.testBit i && !Nat.beq (tzN 10 R.testBit) i:Nat):Int)))=true:=by kernel_rfl
theorem T_cnt:((List.range 1024).all fun R=>isS (g_math_bits_OnesCount (R:Int)) (cnt 10 R.testBit:Int))=true:=by kernel_rfl
theorem cnt_congr {n:Nat} {p q:Nat → Bool} (h:∀i,i < n→p i=q i):cnt n p=cnt n q:=by
 induction n with
 | zero=>rfl
 | succ n ih=>simp only [cnt]; rw [ih fun i hi=>h i (by omega),h n (by omega)]
theorem cnt_ext {n m:Nat} {p:Nat → Bool} (hm:n≤m) (h:∀i,n≤i→i < m→p i=false):cnt m p=cnt n p:=by
 induction m with
 | zero =>
  have:n=0:=by omega
  subst this; rfl
 | succ m ih =>
  by_cases e:n=m+1
  ·subst e; rfl
  ·simp only [cnt]; rw [h m (by omega) (by omega),ih (by omega) fun i h1 h2=>h i h1 (by omega)]; rfl
theorem oc_msk {n:Nat} (hn:n≤10) (p:Nat → Bool):g_math_bits_OnesCount ((msk n p:Nat):Int)=some (cnt n p:Int):=by
 have h:=isS_eq (all_at T_cnt (lt1024 hn (msk_lt n p)))
 rw [h]
 congr 2
 rw [cnt_ext hn fun i h1 h2=>by rw [msk_bit]; simp; omega]
 exact cnt_congr bitS
theorem cnt_le (n:Nat) (p:Nat → Bool):cnt n p≤n:=by
 induction n with
 | zero=>exact Nat.le_refl _
 | succ n ih =>
  simp only [cnt]; have:(p n).toNat ≤ 1:=by cases p n <;> decide
  omega
theorem cnt_mono {n:Nat} {p q:Nat → Bool} (h:∀i,i < n→p i=true→q i=true):cnt n p≤cnt n q:=by
 induction n with
 | zero=>exact Nat.le_refl _
 | succ n ih =>
  simp only [cnt]
  have h1:=ih fun i hi=>h i (by omega)
  have h2:=h n (by omega)
  cases hp:p n with
  | false =>
   have:false.toNat = 0:=rfl
   omega
  | true=>rw [h2 hp]; omega
theorem cnt_zero {n:Nat} {p:Nat → Bool} (h:∀i,i < n→p i=false):cnt n p=0:=by
 induction n with
 | zero=>rfl
 | succ n ih=>simp only [cnt]; rw [ih fun i hi=>h i (by omega),h n (by omega)]; rfl
theorem cnt_pos {n:Nat} {p:Nat → Bool} {i:Nat} (hi:i < n) (h:p i=true):0 < cnt n p:=by
 induction n with
 | zero=>omega
 | succ n ih =>
  simp only [cnt]
  by_cases e:i=n
  ·subst e; rw [h]; show 0 < _+1; omega
  ·have:=ih (by omega); omega
theorem cnt_del {n v:Nat} {p:Nat → Bool} (hv:v < n) (h:p v=true):cnt n (fun i=>p i && !decide (v=i))+1=cnt n p:=by
 induction n with
 | zero=>omega
 | succ n ih =>
  simp only [cnt]
  by_cases e:v=n
  ·subst e
   rw [cnt_congr (n:=v) (q:=p) fun i hi=>by simp; intro _; omega,h]
   simp
  ·have:=ih (by omega)
   have e2:(p n && !decide (v=n))=p n:=by simp; intro _; exact e
   rw [e2]; omega
theorem tzN_spec:∀(n:Nat) (p:Nat → Bool),(∃i,i < n∧p i=true)→tzN n p < n∧p (tzN n p)=true∧∀i,i < tzN n p→p i=false
 | 0,p,⟨i,hi,_⟩=>by omega
 | n+1,p,⟨i,hi,h⟩=>by
  unfold tzN
  by_cases h0:p 0=true
  ·rw [if_pos h0]; exact ⟨by omega,h0,fun i hi=>by omega⟩
  ·rw [if_neg h0]
   have hi0:i≠0:=fun e=>h0 (e ▸ h)
   obtain ⟨a,b,c⟩:=tzN_spec n (fun i=>p (i+1)) ⟨i - 1,by omega,by rw [show i - 1+1=i by omega]; exact h⟩
   refine ⟨by omega,b,fun j hj=>?_⟩
   cases j with
   | zero=>simpa using h0
   | succ j=>exact c j (by omega)
theorem tzN_eq {n v:Nat} {p:Nat → Bool} (hv:v < n) (h:p v=true) (hl:∀i,i < v→p i=false):tzN n p=v:=by
 obtain ⟨a,b,c⟩:=tzN_spec n p ⟨v,hv,h⟩
 rcases Nat.lt_trichotomy (tzN n p) v with e | e | e
 ·rw [hl _ e] at b; cases b
 ·exact e
 ·rw [c v e] at h; cases h
theorem rest_msk {n v:Nat} {p:Nat → Bool} (hn:n≤10) (hv:v < n) (h:p v=true) (hl:∀i,i < v→p i=false) :
  (((msk n p:Nat):Int) != 0)=true∧g_math_bits_TrailingZeros ((msk n p:Nat):Int)=some (v:Int) ∧
  IntKind.u64.wrap (BitVec.ofInt (IntKind.bits .u64) ((msk n p:Nat):Int) &&& BitVec.ofInt (IntKind.bits .u64) (IntKind.u64.wrap (((msk n p:Nat):Int) - 1))).toNat = ((msk n fun i=>p i && !decide (v=i):Nat):Int):=by
 have hlt:=msk_lt n p
 have hR:=lt1024 hn hlt
 have hb:(msk n p).testBit v=true:=by rw [msk_bit]; simp [hv,h]
 have h0:msk n p≠0:=fun e=>by rw [e] at hb; simp at hb
 have e0:Nat.beq (msk n p) 0=false:=by
  cases e:msk n p with
  | zero=>exact absurd e h0
  | succ k=>rfl
 have etz:tzN 10 (msk n p).testBit=v:=tzN_eq (by omega) hb fun i hi=>by rw [msk_bit,hl i hi]; simp
 have h1:=all_at T_tz hR
 have h2:=all_at T_rest hR
 simp only [e0,Bool.false_or,etz] at h1 h2
 refine ⟨by simp; omega,isS_eq h1,?_⟩
 have h3:IntKind.u64.wrap (BitVec.ofInt (IntKind.bits .u64) ((msk n p:Nat):Int) &&& BitVec.ofInt (IntKind.bits .u64) (IntKind.u64.wrap (((msk n p:Nat):Int) - 1))).toNat = ((msk 10 fun i=>(msk n p).testBit i && !Nat.beq v i:Nat):Int):=by simpa using h2
 rw [h3]
 congr 1
 apply Nat.eq_of_testBit_eq
 intro j
 rw [msk_bit,msk_bit,msk_bit]
 have e:Nat.beq v j=decide (v=j):=by
  by_cases e:v=j
  ·subst e; simp
  ·rw [decide_eq_false e,Bool.eq_false_iff]; exact fun h=>e (Nat.eq_of_beq_eq_true h)
 rw [e]
 by_cases hj:j < n
 ·simp [hj,show j < 10 by omega]
 ·simp [hj]
end Go.Ab
namespace Go.Ab
open Go
set_option maxRecDepth 100000
set_option maxHeartbeats 400000
abbrev Gr:=Nat → Nat → Bool
def gl (n:Nat) (A:Gr):List Int:=(List.range n).map fun v=>((msk n (A v):Nat):Int)
theorem gl_len (n:Nat) (A:Gr):(gl n A).length=n:=by simp [gl]
theorem gl_get {n:Nat} {A:Gr} {v:Nat} (hv:v < n):(gl n A)[v]?=some ((msk n (A v):Nat):Int):=by simp [gl,hv]
theorem gl_at {n:Nat} {A:Gr} {v:Nat} (hv:v < n):lkI (gl n A) (v:Int)=some ((msk n (A v):Nat):Int):=by
 unfold lkI
 rw [if_neg (by omega),Int.toNat_natCast,gl_get hv]
theorem gl_congr {n:Nat} {A B:Gr} (h:∀u w,u < n→w < n→A u w=B u w):gl n A=gl n B:=by
 apply List.ext_getElem?
 intro v
 by_cases hv:v < n
 ·rw [gl_get hv,gl_get hv,msk_congr fun w hw=>h v w hv hw]
 ·rw [List.getElem?_eq_none (by rw [gl_len]; omega),List.getElem?_eq_none (by rw [gl_len]; omega)]
def upd (A:Gr) (v:Nat) (q:Nat → Bool):Gr:=fun u w=>if u=v then q w else A u w
theorem upd_ne {A:Gr} {v u:Nat} {q:Nat → Bool} (h:¬ u=v):upd A v q u=A u:=funext fun w=>if_neg h
theorem upd_eq {A:Gr} {v:Nat} {q:Nat → Bool}:upd A v q v=q:=funext fun w=>if_pos rfl
theorem gl_set {n:Nat} {A:Gr} {v:Nat} (q:Nat → Bool):(gl n A).set (Int.toNat (v:Int)) ((msk n q:Nat):Int)=gl n (upd A v q):=by
 apply List.ext_getElem?
 intro u
 rw [Int.toNat_natCast,List.getElem?_set,gl_len]
 by_cases hu:u < n
 ·rw [gl_get hu,gl_get hu]
  by_cases e:v=u
  ·subst e; simp [hu,upd_eq]
  ·rw [if_neg e,upd_ne fun h=>e h.symm]
 ·rw [List.getElem?_eq_none (by rw [gl_len]; omega),List.getElem?_eq_none (by rw [gl_len]; omega)]
  simp [hu]
  intro e; omega
structure Good (n:Nat) (A:Gr):Prop where
 sym:∀u w,A u w=A w u
 irr:∀u,A u u=false
 lt:∀u w,A u w=true→u < n
theorem mem_loop {τ ρ σ:Type} {n:Nat} (hn:n≤10) (mkS:Int→τ→σ) {body:σ→Option (Step σ ρ)} (I:Nat → τ→Prop) (Q:ρ→Prop) (p:Nat → Bool)
  (step:∀(x:Nat) (t:τ) (R R':Int),x < n→p x=true→I x t→(R != 0)=true→g_math_bits_TrailingZeros R=some (x:Int) →
   IntKind.u64.wrap (BitVec.ofInt (IntKind.bits .u64) R &&& BitVec.ofInt (IntKind.bits .u64) (IntKind.u64.wrap (R - 1))).toNat = R' →
   (∃t',body (mkS R t)=some (.next (mkS R' t'))∧I (x+1) t')∨(∃r,body (mkS R t)=some (.done r)∧Q r))
  (skip:∀(x:Nat) (t:τ),x < n→p x=false→I x t→I (x+1) t)
  (done:∀t,I n t→∃r,body (mkS 0 t)=some (.done r)∧Q r) (t0:τ) (h0:I 0 t0) :
  ∃r,whileN fuel body (mkS ((msk n p:Nat):Int) t0)=some r∧Q r:=by
 have key:∀(j N k:Nat) (t:τ),k+j=n→j < N→I k t→∃r,whileN N body (mkS ((msk n fun i=>p i && decide (k≤i):Nat):Int) t)=some r∧Q r:=by
  intro j
  induction j using Nat.strongRecOn with
  | _ j ih =>
   intro N k t hk hN hI
   by_cases hx:∃i,k≤i∧i < n∧p i=true
   ·obtain ⟨x,x1,x2,x3,x4⟩:∃x,k≤x∧x < n∧p x=true∧∀i,k≤i→i < x→p i=false:=by
     have hs:=tzN_spec n (fun i=>p i && decide (k≤i)) (by obtain ⟨i,a,b,c⟩:=hx; exact ⟨i,b,by simp [a,c]⟩)
     refine ⟨_,?_,hs.1,?_,fun i a b=>?_⟩
     ·have:=hs.2.1; simp at this; exact this.2
     ·have:=hs.2.1; simp at this; exact this.1
     ·have:=hs.2.2 i b; simpa [a] using this
    have hIx:I x t:=by
     have:∀d,k+d≤x→I (k+d) t:=by
      intro d
      induction d with
      | zero=>intro _; exact hI
      | succ d ihd=>intro h; exact skip (k+d) t (by omega) (x4 _ (by omega) (by omega)) (ihd (by omega))
     have h:=this (x - k) (by omega)
     rwa [show k+(x - k)=x by omega] at h
    obtain ⟨N,rfl⟩:∃M,N=M+1:=⟨N - 1,by omega⟩
    obtain ⟨a1,a2,a3⟩:=rest_msk (n:=n) (v:=x) (p:=fun i=>p i && decide (k≤i)) hn x2 (by simp [x1,x3]) (fun i hi=>by
     by_cases h:k≤i
     ·rw [x4 i h hi]; rfl
     ·simp [h])
    have e:msk n (fun i=>(p i && decide (k≤i)) && !decide (x=i))=msk n fun i=>p i && decide (x+1≤i):=msk_congr fun i hi=>by
     by_cases h:x+1≤i
     ·have h2:¬ x=i:=by omega
      have h3:k≤i:=by omega
      simp [h,h2,h3]
     ·by_cases h2:x=i
      ·subst h2; simp
      ·by_cases h3:k≤i
       ·rw [x4 i h3 (by omega)]; simp
       ·simp [h,h3]
    rw [e] at a3
    rcases step x t _ _ x2 x3 hIx a1 a2 a3 with ⟨t',b1,b2⟩ | ⟨r,b1,b2⟩
    ·simp only [whileN,b1]
     exact ih (n - (x+1)) (by omega) N (x+1) t' (by omega) (by omega) b2
    ·simp only [whileN,b1]
     exact ⟨r,rfl,b2⟩
   ·have hno:∀i,k≤i→i < n→p i=false:=fun i a b=>by
     rw [Bool.eq_false_iff]; exact fun h=>hx ⟨i,a,b,h⟩
    have e:msk n (fun i=>p i && decide (k≤i))=0:=by
     have:msk n (fun _=>false)=0:=(msk_eq (by have:=Nat.two_pow_pos n; omega) fun i _=>by simp).symm
     rw [←this]
     exact msk_congr fun i hi=>by
      by_cases h:k≤i
      ·rw [hno i h hi]; rfl
      ·simp [h]
    have hIn:I n t:=by
     have:∀d,k+d≤n→I (k+d) t:=by
      intro d
      induction d with
      | zero=>intro _; exact hI
      | succ d ihd=>intro h; exact skip (k+d) t (by omega) (hno _ (by omega) (by omega)) (ihd (by omega))
     have h:=this (n - k) (by omega)
     rwa [show k+(n - k)=n by omega] at h
    obtain ⟨N,rfl⟩:∃M,N=M+1:=⟨N - 1,by omega⟩
    rw [e]
    obtain ⟨r,b1,b2⟩:=done t hIn
    refine ⟨r,?_,b2⟩
    show whileN (N+1) body (mkS 0 t)=_
    simp only [whileN,b1]
 have h:=key n fuel 0 t0 (by omega) (by show n < 1152921504606846976; omega) h0
 have e:msk n (fun i=>p i && decide (0≤i))=msk n p:=msk_congr fun i _=>by simp
 rwa [e] at h
def elim (A:Gr) (v:Nat):Gr:=fun u w=>(A u w || (A v u && A v w && !decide (u=w))) && !decide (u=v) && !decide (w=v)
theorem elim_good {n:Nat} {A:Gr} (h:Good n A) (v:Nat):Good n (elim A v):=by
 refine ⟨fun u w=>?_,fun u=>?_,fun u w h1=>?_⟩
 ·unfold elim
  rw [h.sym u w]
  by_cases e:u=w
  ·subst e; rfl
  ·have e2:¬ w=u:=fun h=>e h.symm
   simp only [decide_eq_false e,decide_eq_false e2]
   cases A v u <;> cases A v w <;> cases A w u <;> cases (decide (u=v)) <;> cases (decide (w=v)) <;> rfl
 ·unfold elim; rw [h.irr]; simp
 ·unfold elim at h1
  simp only [Bool.and_eq_true,Bool.or_eq_true] at h1
  rcases h1.1.1 with h2 | h2
  ·exact h.lt _ _ h2
  ·exact h.lt _ v (by rw [h.sym]; exact h2.1.1)
def missA (n:Nat) (A:Gr) (v a:Nat):List (Nat × Nat):=((List.range n).filter fun b=>decide (a < b) && (A v a && A v b && !A a b)).map fun b=>(a,b)
def miss (n:Nat) (A:Gr) (v:Nat):List (Nat × Nat):=(List.range n).flatMap (missA n A v)
def pI (p:Nat × Nat):Int × Int:=((p.1:Int),(p.2:Int))
theorem range_filter_succ (k:Nat) (p:Nat → Bool):(List.range (k+1)).filter p=(List.range k).filter p++if p k then [k] else []:=by
 rw [List.range_succ,List.filter_append]
 congr 1
 cases h:p k <;> simp [h]
theorem filter_len (k:Nat) (p:Nat → Bool):((List.range k).filter p).length≤k:=by
 have:=List.length_filter_le p (List.range k)
 simpa using this
theorem nat_ge (k:Nat):(0:Int)≤(k:Int):=Int.natCast_nonneg k
theorem remove_spec {n:Nat} {A:Gr} {L:Nat → Bool} {v:Nat} (hn:n≤10) (hv:v < n) (hL:∀u w,u < n→A u w=true→L u=true) (hA:∀u,u < n→A u v=true→L u=true) :
  g_order_graph_remove_m0 (v:Int) ((msk n L:Nat):Int) (gl n A)=some (((msk n fun i=>L i && !decide (v=i):Nat):Int),gl n fun u w=>A u w && !decide (u=v) && !decide (w=v)):=by
 unfold g_order_graph_remove_m0
 rw [if_pos (nat_ge v),u_del hn (by omega)]
 obtain ⟨r,h1,h2⟩:=mem_loop hn (fun R t=>(R,t)) (body:=g_order_graph_remove_m0_b0 (v:Int)) (fun k t=>t=gl n fun u w=>A u w && !(decide (u < k) && L u && !decide (v=u) && decide (w=v))) (fun r=>r=gl n fun u w=>A u w && !(L u && !decide (v=u) && decide (w=v))) (fun i=>L i && !decide (v=i))
  (fun x t R R' hx hp hI c1 c2 c3=>.inl (by
   subst hI
   refine ⟨_,?_,rfl⟩
   unfold g_order_graph_remove_m0_b0
   simp only [c1,if_true,c2,Option.bind_some,gl_at hx,if_pos (nat_ge v),c3,u_del hn (show v < 64 by omega),gl_set]
   congr 3
   refine gl_congr fun u w hu hw=>?_
   unfold upd
   simp only [Bool.and_eq_true] at hp
   clear c1 c2 c3
   grind))
  (fun x t hx hp hI=>by
   rw [hI]
   refine gl_congr fun u w hu hw=>?_
   by_cases e:u=x
   ·subst e
    have:(L u && !decide (v=u))=false:=hp
    have e2:decide (u < u+1)=true:=by simp
    rw [e2]
    cases hh:L u
    ·simp
    ·rw [hh] at this; simp at this; simp [this]
   ·have:decide (u < x+1)=decide (u < x):=by by_cases h:u < x <;> simp [h] <;> omega
    rw [this])
  (fun t hI=>⟨t,by unfold g_order_graph_remove_m0_b0; simp,hI.trans (gl_congr fun u w hu hw=>by simp [hu])⟩)
  (gl n A) (gl_congr fun u w _ _=>by simp)
 rw [h1]
 subst h2
 simp only [Option.bind_some,gl_at hv]
 have e0:(0:Int)=((msk n fun _=>false:Nat):Int):=by
  have:msk n (fun _=>false)=0:=(msk_eq (by have:=Nat.two_pow_pos n; omega) fun i _=>by simp).symm
  rw [this]; rfl
 rw [e0,gl_set]
 congr 2
 refine gl_congr fun u w hu hw=>?_
 unfold upd
 by_cases e:u=v
 ·subst e; simp
 ·rw [if_neg e]
  grind
end Go.Ab
namespace Go.Ab
open Go
set_option maxRecDepth 100000
set_option maxHeartbeats 400000
theorem sub_mask {a:Nat} (ha:a < 63):IntKind.u64.wrap ((IntKind.u64.wrap (1*2^min (Int.toNat (IntKind.i64.wrap ((a:Int)+1))) (IntKind.bits .u64))) - 1)=((2^(a+1) - 1:Nat):Int):=by
 rw [w64 (by omega),show (a:Int)+1=((a+1:Nat):Int) by omega,u_sh (by omega)]
 have h1:=pow64 (v:=a+1) (by omega)
 have h2:=Nat.two_pow_pos (a+1)
 rw [show ((2^(a+1):Nat):Int) - 1=((2^(a+1) - 1:Nat):Int) by omega,u64_nat (by omega)]
theorem miss_len (n:Nat) (A:Gr) (v:Nat) (k:Nat):((List.range k).flatMap (missA n A v)).length≤k*n:=by
 induction k with
 | zero=>simp
 | succ k ih =>
  rw [List.range_succ,List.flatMap_append,List.length_append,Nat.succ_mul]
  have:(([k]:List Nat).flatMap (missA n A v)).length≤n:=by
   simp only [List.flatMap_cons,List.flatMap_nil,List.append_nil,missA,List.length_map]
   exact filter_len n _
  omega
def joinTo (O:Gr) (p:Nat → Bool) (a k:Nat):Gr:=fun u w=>O u w || (decide (u=a) && decide (w < k) && p w) || (decide (w=a) && decide (u < k) && p u)
theorem elim_inner {n:Nat} {O:Gr} {p:Nat → Bool} {a:Nat} {f0:List (Nat × Nat)} (hn:n≤10) (ha:a < n) (hp:∀w,p w=true→¬ w=a) (hf:f0.length≤100) :
  whileN fuel (g_order_graph_eliminate_m0_b0 (a:Int)) (((msk n p:Nat):Int),gl n O,f0.map pI)=some (gl n (joinTo O p a n),(f0++((List.range n).filter p).map fun b=>(a,b)).map pI):=by
 obtain ⟨r,h1,h2⟩:=mem_loop hn (fun R (t:List Int × List (Int × Int))=>(R,t.1,t.2)) (body:=g_order_graph_eliminate_m0_b0 (a:Int))
  (fun k t=>t=(gl n (joinTo O p a k),(f0++((List.range k).filter p).map fun b=>(a,b)).map pI)) (fun r=>r=(gl n (joinTo O p a n),(f0++((List.range n).filter p).map fun b=>(a,b)).map pI)) p
  (fun x t R R' hx hpx hI c1 c2 c3=>.inl (by
   subst hI
   refine ⟨_,?_,rfl⟩
   have hxa:=hp x hpx
   have hl:((f0++((List.range x).filter p).map fun b=>(a,b)).map pI++([((a:Int),(x:Int))]:List (Int × Int))).length*16≤140737488355328:=by
    have:=filter_len x p
    simp only [List.length_append,List.length_map,List.length_cons,List.length_nil]
    omega
   unfold g_order_graph_eliminate_m0_b0
   simp only [c1,if_true,c2,Option.bind_some,if_pos hl,gl_at ha,if_pos (nat_ge x),u_ins hn hx,gl_set,gl_at hx,if_pos (nat_ge a),c3]
   have e1:upd (joinTo O p a x) a (fun i=>joinTo O p a x a i || decide (x=i)) x=joinTo O p a x x:=upd_ne hxa
   rw [e1,u_ins hn ha,gl_set]
   congr 3
   congr 1
   ·refine gl_congr fun u w hu hw=>?_
    simp only [upd,joinTo]
    grind (splits:=30)
   ·rw [range_filter_succ,if_pos hpx]
    simp [pI]))
  (fun x t hx hpx hI=>by
   rw [hI]
   congr 1
   ·refine gl_congr fun u w hu hw=>?_
    simp only [joinTo]
    grind
   ·rw [range_filter_succ,hpx]
    simp)
  (fun t hI=>⟨_,by unfold g_order_graph_eliminate_m0_b0; simp,hI⟩)
  (gl n O,f0.map pI) (by rw [gl_congr (A:=O) (B:=joinTo O p a 0) fun u w _ _=>by simp [joinTo]]; simp)
 rw [h1,h2]
def joinUpTo (A:Gr) (v k:Nat):Gr:=fun u w=>A u w || (!decide (u=w) && A v u && A v w && (decide (u < k) || decide (w < k)))
theorem elim_loop {n:Nat} {A:Gr} {v:Nat} (hn:n≤10) (hG:Good n A) (hv:v < n) :
  whileN fuel (g_order_graph_eliminate_m0_b1 ((msk n (A v):Nat):Int)) (((msk n (A v):Nat):Int),gl n A,[])=some (gl n (joinUpTo A v n),(miss n A v).map pI):=by
 obtain ⟨r,h1,h2⟩:=mem_loop hn (fun R (t:List Int × List (Int × Int))=>(R,t.1,t.2)) (body:=g_order_graph_eliminate_m0_b1 ((msk n (A v):Nat):Int))
  (fun k t=>t=(gl n (joinUpTo A v k),((List.range k).flatMap (missA n A v)).map pI)) (fun r=>r=(gl n (joinUpTo A v n),(miss n A v).map pI)) (A v)
  (fun x t R R' hx hpx hI c1 c2 c3=>.inl (by
   subst hI
   refine ⟨_,?_,rfl⟩
   unfold g_order_graph_eliminate_m0_b1
   have hw:(0:Int)≤IntKind.i64.wrap ((x:Int)+1):=by rw [w64 (by omega)]; omega
   simp only [c1,if_true,c2,Option.bind_some,gl_at hx,if_pos hw,sub_mask (show x < 63 by omega)]
   rw [u_diff (n:=n) (p:=A v) (q:=joinUpTo A v x x) (by omega) (msk_lt n _) (lt64 hn (msk_lt n _)) bitS bitS]
   rw [u_diff (n:=n) (p:=fun i=>A v i && !joinUpTo A v x x i) (q:=fun i=>decide (i < x+1)) (by omega) (msk_lt n _) (by have:=pow64 (v:=x+1) (by omega); omega) bitS (fun i _=>Nat.testBit_two_pow_sub_one _ _)]
   have ep:(fun i=>(A v i && !joinUpTo A v x x i) && !decide (i < x+1))=fun b=>decide (x < b) && (A v x && A v b && !A x b):=by
    funext i
    simp only [joinUpTo]
    grind
   have hlen:=miss_len n A v x
   have hnn:x*n≤100:=Nat.le_trans (Nat.mul_le_mul (show x≤10 by omega) hn) (by omega)
   have hh:=elim_inner (n:=n) (O:=joinUpTo A v x) (p:=fun i=>(A v i && !joinUpTo A v x x i) && !decide (i < x+1)) (a:=x) (f0:=(List.range x).flatMap (missA n A v)) hn hx (fun w hw e=>by subst e; simp at hw) (by omega)
   rw [hh]
   simp only [Option.bind_some,c3]
   congr 3
   congr 1
   ·refine gl_congr fun u w hu hw=>?_
    have s1:=hG.sym u w
    have s2:=hG.irr x
    simp only [joinTo,joinUpTo]
    have s3:=hG.sym u x
    have s4:=hG.sym w x
    grind
   ·rw [List.range_succ,List.flatMap_append]
    simp only [List.flatMap_cons,List.flatMap_nil,List.append_nil,missA]
    rw [ep]))
  (fun x t hx hpx hI=>by
   rw [hI]
   congr 1
   ·refine gl_congr fun u w hu hw=>?_
    simp only [joinUpTo]
    grind
   ·rw [List.range_succ,List.flatMap_append]
    have:(([x]:List Nat).flatMap (missA n A v))=[]:=by
     simp only [List.flatMap_cons,List.flatMap_nil,List.append_nil,missA]
     rw [List.filter_eq_nil_iff.2 (fun b _=>by simp [hpx])]; rfl
    rw [this,List.append_nil])
  (fun t hI=>⟨_,by unfold g_order_graph_eliminate_m0_b1; simp,hI⟩)
  (gl n A,[]) (by rw [gl_congr (A:=A) (B:=joinUpTo A v 0) fun u w _ _=>by simp [joinUpTo]]; rfl)
 rw [h1,h2]
theorem eliminate_spec {n:Nat} {A:Gr} {L:Nat → Bool} {v:Nat} (hn:n≤10) (hG:Good n A) (hv:v < n) (hL:∀u w,A u w=true→L u=true) :
  g_order_graph_eliminate_m0 (v:Int) ((msk n L:Nat):Int) (gl n A)=some ((miss n A v).map pI,((msk n fun i=>L i && !decide (v=i):Nat):Int),gl n (elim A v)):=by
 unfold g_order_graph_eliminate_m0
 simp only [gl_at hv,Option.bind_some,elim_loop hn hG hv]
 have hL2:∀u w,joinUpTo A v n u w=true→L u=true:=fun u w h=>by
  unfold joinUpTo at h
  simp only [Bool.or_eq_true,Bool.and_eq_true] at h
  rcases h with h | h
  ·exact hL u w h
  ·exact hL u v (by rw [hG.sym]; exact h.1.1.2)
 rw [remove_spec hn hv (fun u w _=>hL2 u w) (fun u _=>hL2 u v)]
 simp only [Option.bind_some]
 congr 3
 refine gl_congr fun u w hu hw=>?_
 simp only [joinUpTo,elim]
 grind
end Go.Ab
namespace Go.Ab
open Go
set_option maxRecDepth 100000
set_option maxHeartbeats 400000
theorem i_succ {k:Nat} (h:k < 9223372036854775807):IntKind.i64.wrap ((k:Int)+1)=((k+1:Nat):Int):=by rw [w64 (by omega)]; omega
theorem rng_loop {τ ρ σ:Type} {n k0:Nat} (hk:k0≤n) (hn:n < 1152921504606846976) (mkS:Int→τ→σ) {body:σ→Option (Step σ ρ)} (I:Nat → τ→Prop) (Q:ρ→Prop)
  (step:∀(k:Nat) (t:τ),k0≤k→k < n→I k t→(∃t',body (mkS (k:Int) t)=some (.next (mkS (IntKind.i64.wrap ((k:Int)+1)) t'))∧I (k+1) t')∨(∃r,body (mkS (k:Int) t)=some (.done r)∧Q r))
  (done:∀t,I n t→∃r,body (mkS (n:Int) t)=some (.done r)∧Q r) (t0:τ) (h0:I k0 t0):∃r,whileN fuel body (mkS (k0:Int) t0)=some r∧Q r:=by
 have key:∀(j N k:Nat) (t:τ),k+j=n→k0≤k→j < N→I k t→∃r,whileN N body (mkS (k:Int) t)=some r∧Q r:=by
  intro j
  induction j with
  | zero =>
   intro N k t e hk hN hI
   obtain ⟨N,rfl⟩:∃M,N=M+1:=⟨N - 1,by omega⟩
   have:k=n:=by omega
   subst this
   obtain ⟨r,b1,b2⟩:=done t hI
   simp only [whileN,b1]
   exact ⟨r,rfl,b2⟩
  | succ j ih =>
   intro N k t e hk hN hI
   obtain ⟨N,rfl⟩:∃M,N=M+1:=⟨N - 1,by omega⟩
   rcases step k t hk (by omega) hI with ⟨t',b1,b2⟩ | ⟨r,b1,b2⟩
   ·rw [i_succ (by omega)] at b1
    simp only [whileN,b1]
    exact ih N (k+1) t' (by omega) (by omega) (by omega) b2
   ·simp only [whileN,b1]
    exact ⟨r,rfl,b2⟩
 exact key (n - k0) fuel k0 t0 (by omega) (Nat.le_refl _) (by show n - k0 < 1152921504606846976; omega) h0
theorem rng_run {τ ρ σ:Type} {n k0:Nat} (hk:k0≤n) (hn:n < 1152921504606846976) (mkS:Int→τ→σ) {body:σ→Option (Step σ ρ)} (T:Nat → τ) (r:ρ)
  (step:∀(k:Nat),k0≤k→k < n→body (mkS (k:Int) (T k))=some (.next (mkS (IntKind.i64.wrap ((k:Int)+1)) (T (k+1)))))
  (done:body (mkS (n:Int) (T n))=some (.done r)):whileN fuel body (mkS (k0:Int) (T k0))=some r:=by
 obtain ⟨r',h1,h2⟩:=rng_loop hk hn mkS (body:=body) (fun k t=>t=T k) (fun x=>x=r) (fun k t a b c=>.inl ⟨T (k+1),by rw [c]; exact step k a b,rfl⟩) (fun t h=>⟨r,by rw [h]; exact done,rfl⟩) (T k0) rfl
 rw [h1,h2]
theorem dlt {k n:Nat} (h:k < n):decide ((k:Int) < (n:Int))=true:=decide_eq_true (by omega)
theorem nlt (n:Nat):¬ (decide ((n:Int) < (n:Int))=true):=by simp
def joinL (A:Gr):List (Nat × Nat)→Gr
 | []=>A
 | (a,b)::l=>joinL (fun u w=>A u w || (decide (u=a) && decide (w=b)) || (decide (u=b) && decide (w=a))) l
theorem joinL_snoc (A:Gr):∀(l:List (Nat × Nat)) (a b:Nat),joinL A (l++[(a,b)])=fun u w=>joinL A l u w || (decide (u=a) && decide (w=b)) || (decide (u=b) && decide (w=a))
 | [],a,b=>rfl
 | (c,d)::l,a,b=>by simp only [List.cons_append,joinL]; exact joinL_snoc _ l a b
theorem joinL_iff (A:Gr):∀(l:List (Nat × Nat)) (u w:Nat),joinL A l u w=true↔A u w=true∨(u,w)∈l∨(w,u)∈l
 | [],u,w=>by simp [joinL]
 | (a,b)::l,u,w=>by
  simp only [joinL]
  rw [joinL_iff]
  simp only [Bool.or_eq_true,Bool.and_eq_true,decide_eq_true_eq,List.mem_cons,Prod.mk.injEq]
  grind
theorem refCopy {l:List Int} (h:l.length≤1000):g_ref08_Copy l=some l:=by unfold g_ref08_Copy; rw [if_pos (by omega)]
theorem refJoin {n:Nat} {A:Gr} {l:List (Nat × Nat)} (hn:n≤10) (hl:∀p∈l,p.1 < n∧p.2 < n∧p.1≠p.2) (hlen:l.length≤1000):g_ref08_Join (gl n A) (l.map pI)=some (gl n (joinL A l)):=by
 unfold g_ref08_Join
 rw [refCopy (by rw [gl_len]; omega),Option.bind_some]
 have h:=rng_run (n:=l.length) (k0:=0) (by omega) (by omega) (fun i (t:List Int)=>(i,t)) (body:=g_ref08_Join_b0 (l.map pI)) (fun k=>gl n (joinL A (l.take k))) (gl n (joinL A l))
  (fun k _ h2=>by
   obtain ⟨h3,h4,h5⟩:=hl _ (List.getElem_mem h2)
   have e:=List.take_succ_eq_append_getElem h2
   have ek:lkI (l.map pI) (k:Int)=some (pI l[k]):=by rw [lkI_nat (by simpa using h2)]; simp
   generalize l[k]=p at h3 h4 h5 e ek
   obtain ⟨a,b⟩:=p
   simp only at h3 h4 h5
   unfold g_ref08_Join_b0
   dsimp only
   rw [List.length_map,if_pos (dlt h2),ek,Option.bind_some]
   have ea:(pI (a,b)).1=(a:Int):=rfl
   have eb:(pI (a,b)).2=(b:Int):=rfl
   simp only [ea,eb,gl_at h3,Option.bind_some,u64_nat (show a < 18446744073709551616 by omega),u64_nat (show b < 18446744073709551616 by omega),if_pos (nat_ge a),if_pos (nat_ge b),u_ins hn h4,gl_set,gl_at h4]
   rw [upd_ne (fun h=>h5 h.symm),u_ins hn h3,gl_set]
   congr 3
   refine gl_congr fun u w hu hw=>?_
   rw [e,joinL_snoc]
   simp only [upd]
   grind)
  (by
   unfold g_ref08_Join_b0
   dsimp only
   rw [List.length_map,if_neg (nlt _),List.take_length])
 rw [show ((0:Nat):Int)=0 from rfl,List.take_zero] at h
 rw [show joinL A []=A from rfl] at h
 rw [h]; rfl
theorem miss_mem {n:Nat} {A:Gr} {v a b:Nat}:(a,b)∈miss n A v↔a < b∧b < n∧A v a=true∧A v b=true∧A a b=false:=by
 unfold miss missA
 simp only [List.mem_flatMap,List.mem_range,List.mem_map,List.mem_filter,Bool.and_eq_true,decide_eq_true_eq,Prod.mk.injEq,Bool.not_eq_true']
 grind
theorem missAll_len {n:Nat} (hn:n≤10) (A:Gr) (v:Nat):(miss n A v).length≤100 :=
 Nat.le_trans (miss_len n A v n) (Nat.le_trans (Nat.mul_le_mul hn hn) (by omega))
end Go.Ab
namespace Go.Ab
open Go
set_option maxRecDepth 100000
set_option maxHeartbeats 400000
def nI (l:List Nat):List Int:=l.map fun (k:Nat)=>(k:Int)
theorem nI_len (l:List Nat):(nI l).length=l.length:=by simp [nI]
theorem nI_at {l:List Nat} {k:Nat} (h:k < l.length):lkI (nI l) (k:Int)=some (l[k]:Int):=by rw [lkI_nat (by rwa [nI_len])]; simp [nI]
def seqA (A:Gr) (o:List Nat):Gr:=o.foldl elim A
theorem seqA_snoc (A:Gr) (o:List Nat) (v:Nat):seqA A (o++[v])=elim (seqA A o) v:=by simp [seqA]
theorem seqA_good {n:Nat}:∀{o:List Nat} {A:Gr},Good n A→Good n (seqA A o)
 | [],A,h=>h
 | v::o,A,h=>seqA_good (o:=o) (elim_good h v)
theorem elim_off {A:Gr} {v u w:Nat} (h:elim A v u w=true):¬ u=v∧¬ w=v:=by unfold elim at h; simp at h; exact ⟨h.1.2,h.2⟩
theorem elim_keep {A:Gr} {v x:Nat} (hs:∀w,A x w=false) (u:Nat) (hA:∀u w,A u w=A w u):elim A v x u=false:=by
 unfold elim
 rw [hs,hA v x,hs]; simp
theorem seqA_off {n:Nat}:∀{o:List Nat} {A:Gr} {x:Nat},Good n A→(x∈o∨∀w,A x w=false)→∀w,seqA A o x w=false
 | [],A,x,h,hx,w=>by rcases hx with hx | hx; cases hx; exact hx w
 | v::o,A,x,h,hx,w=>by
  refine seqA_off (o:=o) (elim_good h v) ?_ w
  rcases hx with hx | hx
  ·rcases List.mem_cons.1 hx with e | hx
   ·subst e
    right
    intro w
    rw [Bool.eq_false_iff]
    intro h1
    exact (elim_off h1).1 rfl
   ·exact .inl hx
  ·right
   intro w
   exact elim_keep hx w h.sym
def fillL (n:Nat):Gr→List Nat → List (Nat × Nat)
 | _,[]=>[]
 | A,v::o=>miss n A v++fillL n (elim A v) o
def widL (n:Nat):Gr→List Nat → Nat
 | _,[]=>0
 | A,v::o=>max (cnt n (A v)) (widL n (elim A v) o)
theorem fillL_snoc (n:Nat):∀(A:Gr) (o:List Nat) (v:Nat),fillL n A (o++[v])=fillL n A o++miss n (seqA A o) v
 | A,[],v=>by simp [fillL,seqA]
 | A,u::o,v=>by simp only [List.cons_append,fillL]; rw [fillL_snoc]; simp [seqA]
theorem widL_snoc (n:Nat):∀(A:Gr) (o:List Nat) (v:Nat),widL n A (o++[v])=max (widL n A o) (cnt n (seqA A o v))
 | A,[],v=>by simp [widL,seqA]
 | A,u::o,v=>by simp only [List.cons_append,widL]; rw [widL_snoc]; simp only [seqA,List.foldl_cons]; omega
theorem fillL_len {n:Nat} (hn:n≤10):∀(A:Gr) (o:List Nat),(fillL n A o).length≤100*o.length
 | A,[]=>by simp [fillL]
 | A,u::o=>by
  have h1:=fillL_len hn (elim A u) o
  have h2:=missAll_len hn A u
  simp only [fillL,List.length_append,List.length_cons]; omega
theorem clone_u {l:List Int} (h:l.length≤1000):g_slices_Clone_uint_uint l=some l:=by
 cases l with
 | nil=>rfl
 | cons a l=>unfold g_slices_Clone_uint_uint g_slices_Clone_uint_uint_c; dsimp only; rw [if_pos (by omega)]
theorem degree_spec {n:Nat} {A:Gr} {v:Nat} {L:Int} (hn:n≤10) (hv:v < n):g_order_graph_degree (Torder_graph.mk (Torder_neighbours.mk (gl n A)) L) (v:Int)=some (cnt n (A v):Int):=by
 unfold g_order_graph_degree
 simp only [gl_at hv,Option.bind_some,oc_msk hn]
theorem imax (a b:Nat):(if (a:Int) > (b:Int) then (a:Int) else (b:Int))=((max b a:Nat):Int):=by split <;> omega
theorem run_spec {n:Nat} {A:Gr} {o:List Nat} (hn:n≤10) (hG:Good n A) (ho:∀v∈o,v < n) (hl:o.length≤1000):g_order_run (gl n A) (nI o)=some ((fillL n A o).map pI,(widL n A o:Int)):=by
 unfold g_order_run
 rw [clone_u (by rw [gl_len]; omega),Option.bind_some,gl_len,if_pos (nat_ge n),u_all hn]
 have h:=rng_run (n:=o.length) (k0:=0) (by omega) (by omega) (fun i (t:Int × Int × List Int × List (Int × Int))=>(t.1,i,t.2)) (body:=g_order_run_b0 (nI o))
  (fun k=>((widL n A (o.take k):Int),((msk n fun i=>!(o.take k).contains i:Nat):Int),gl n (seqA A (o.take k)),(fillL n A (o.take k)).map pI)) ((widL n A o:Int),(fillL n A o).map pI)
  (fun k _ h2=>by
   have hv:=ho _ (List.getElem_mem h2)
   have e:=List.take_succ_eq_append_getElem h2
   have ek:=nI_at h2
   generalize o[k]=v at hv e ek
   have hG':Good n (seqA A (o.take k)):=seqA_good hG
   have hoff:∀u w,seqA A (o.take k) u w=true→(!(o.take k).contains u)=true:=fun u w h1=>by
    rw [Bool.not_eq_true',Bool.eq_false_iff]
    intro hm
    rw [seqA_off hG (.inl (by simpa using hm))] at h1; cases h1
   have hf:=fillL_len hn A (o.take k)
   have hm:=missAll_len hn (seqA A (o.take k)) v
   have hlen:((fillL n A (o.take k)).map pI++(miss n (seqA A (o.take k)) v).map pI).length*16≤140737488355328:=by
    have:(o.take k).length≤1000:=by rw [List.length_take]; omega
    simp only [List.length_append,List.length_map]; omega
   unfold g_order_run_b0
   dsimp only
   rw [nI_len,if_pos (dlt h2)]
   simp only [ek,Option.bind_some,degree_spec hn hv,eliminate_spec hn hG' hv hoff,if_pos hlen,imax]
   rw [e,widL_snoc,fillL_snoc,seqA_snoc]
   congr 4
   congr 1
   ·congr 1
    exact msk_congr fun i hi=>by
     rw [Bool.eq_iff_iff]
     simp
     grind
   ·rw [List.map_append])
  (by
   unfold g_order_run_b0
   dsimp only
   rw [nI_len,if_neg (nlt _),List.take_length])
 simp only [List.take_zero,fillL,widL,seqA,List.foldl_nil,List.map_nil] at h
 have e:(msk n fun i=>!([]:List Nat).contains i)=msk n fun _=>true:=msk_congr fun i _=>by simp
 rw [e,show ((0:Nat):Int)=0 from rfl] at h
 rw [h]; rfl
def wholeA (n:Nat) (A:Gr) (o:List Nat):Gr:=joinL A (fillL n A o)
def newA (n:Nat) (W A:Gr) (a k:Nat):List (Nat × Nat):=((List.range k).filter fun b=>decide (a < b) && (W a b && !A a b)).map fun b=>(a,b)
def newL (n:Nat) (W A:Gr) (k:Nat):List (Nat × Nat):=(List.range k).flatMap fun a=>newA n W A a n
theorem newA_len (n:Nat) (W A:Gr) (a k:Nat):(newA n W A a k).length≤k:=by unfold newA; rw [List.length_map]; exact filter_len k _
theorem newL_len (n:Nat) (W A:Gr) (k:Nat):(newL n W A k).length≤k*n:=by
 induction k with
 | zero=>simp [newL]
 | succ k ih =>
  unfold newL at *
  rw [List.range_succ,List.flatMap_append,List.length_append,Nat.succ_mul]
  have:=newA_len n W A k n
  simp only [List.flatMap_cons,List.flatMap_nil,List.append_nil]
  omega
end Go.Ab
namespace Go.Ab
open Go
set_option maxRecDepth 100000
set_option maxHeartbeats 400000
theorem fill_not {n a b:Nat}:∀(o:List Nat) (A:Gr),Good n A→(A a b=true∨(∀w,A a w=false)∨(∀w,A b w=false))→(a,b) ∉ fillL n A o
 | [],A,hG,h=>by simp [fillL]
 | v::o,A,hG,h=>by
  simp only [fillL,List.mem_append,not_or]
  refine ⟨fun hm=>?_,fill_not o (elim A v) (elim_good hG v) ?_⟩
  ·obtain ⟨h1,h2,h3,h4,h5⟩:=miss_mem.1 hm
   rcases h with h | h | h
   ·rw [h] at h5; cases h5
   ·rw [hG.sym v a,h] at h3; cases h3
   ·rw [hG.sym v b,h] at h4; cases h4
  ·rcases h with h | h | h
   ·by_cases e1:a=v
    ·right; left
     intro w
     rw [Bool.eq_false_iff]; exact fun hh=>(elim_off hh).1 e1
    ·by_cases e2:b=v
     ·right; right
      intro w
      rw [Bool.eq_false_iff]; exact fun hh=>(elim_off hh).1 e2
     ·left; simp [elim,h,e1,e2]
   ·exact .inr (.inl fun w=>elim_keep h w hG.sym)
   ·exact .inr (.inr fun w=>elim_keep h w hG.sym)
theorem fill_lt {n:Nat}:∀(o:List Nat) (A:Gr) (a b:Nat),(a,b)∈fillL n A o→a < b∧b < n
 | [],A,a,b,h=>by simp [fillL] at h
 | v::o,A,a,b,h=>by
  simp only [fillL,List.mem_append] at h
  rcases h with h | h
  ·have:=miss_mem.1 h; omega
  ·exact fill_lt o _ a b h
def ltP (x y:Nat × Nat):Prop:=x.1 < y.1∨(x.1=y.1∧x.2 < y.2)
theorem grid_sorted (n:Nat) (g:Nat → Nat → Bool):((List.range n).flatMap fun a=>((List.range n).filter (g a)).map fun b=>(a,b)).Pairwise ltP:=by
 rw [List.pairwise_flatMap]
 refine ⟨fun a _=>?_,?_⟩
 ·rw [List.pairwise_map]
  exact (List.Pairwise.filter _ List.pairwise_lt_range).imp fun h=>.inr ⟨rfl,h⟩
 ·refine List.pairwise_lt_range.imp fun {a b} h x hx y hy=>?_
  simp only [List.mem_map] at hx hy
  obtain ⟨_,_,rfl⟩:=hx
  obtain ⟨_,_,rfl⟩:=hy
  exact .inl h
theorem nodup_of {l:List (Nat × Nat)} (h:l.Pairwise ltP):l.Nodup:=h.imp fun {x y} h e=>by
 subst e
 rcases h with h | h <;> omega
theorem fillL_nodup {n:Nat}:∀(o:List Nat) (A:Gr),Good n A→(fillL n A o).Nodup
 | [],A,hG=>by simp [fillL]
 | v::o,A,hG=>by
  simp only [fillL,List.nodup_append]
  refine ⟨nodup_of (grid_sorted n _),fillL_nodup o _ (elim_good hG v),fun x hx y hy e=>?_⟩
  subst e
  obtain ⟨a,b⟩:=x
  obtain ⟨h1,h2,h3,h4,h5⟩:=miss_mem.1 hx
  refine fill_not o (elim A v) (elim_good hG v) (.inl ?_) hy
  have e1:¬ a=v:=fun e=>by subst e; rw [hG.irr] at h3; cases h3
  have e2:¬ b=v:=fun e=>by subst e; rw [hG.irr] at h4; cases h4
  have e3:¬ a=b:=by omega
  simp [elim,h3,h4,e1,e2,e3]
theorem new_mem {n a b:Nat} {W A:Gr}:(a,b)∈newL n W A n↔a < b∧b < n∧W a b=true∧A a b=false:=by
 unfold newL newA
 simp only [List.mem_flatMap,List.mem_range,List.mem_map,List.mem_filter,Bool.and_eq_true,decide_eq_true_eq,Prod.mk.injEq,Bool.not_eq_true']
 grind
theorem newL_sorted (n:Nat) (W A:Gr):(newL n W A n).Pairwise ltP:=grid_sorted n _
theorem fill_perm {n:Nat} {A:Gr} {o:List Nat} (hG:Good n A):(fillL n A o).Perm (newL n (wholeA n A o) A n):=by
 rw [List.perm_ext_iff_of_nodup (fillL_nodup o A hG) (nodup_of (newL_sorted n _ _))]
 rintro ⟨a,b⟩
 rw [new_mem]
 unfold wholeA
 rw [joinL_iff]
 constructor
 ·intro h
  obtain ⟨h1,h2⟩:=fill_lt o A a b h
  refine ⟨h1,h2,.inr (.inl h),?_⟩
  rw [Bool.eq_false_iff]
  exact fun hh=>fill_not o A hG (.inl hh) h
 ·rintro ⟨h1,h2,h3 | h3 | h3,h4⟩
  ·rw [h3] at h4; cases h4
  ·exact h3
  ·have:=fill_lt o A b a h3; omega
theorem leP_pI {x y:Nat × Nat} (h:ltP x y):leP (pI x) (pI y)=true:=by
 unfold leP pI
 rcases h with h | ⟨h1,h2⟩
 ·simp; omega
 ·simp; omega
theorem leP_trans (x y z:Int × Int) (h1:leP x y=true) (h2:leP y z=true):leP x z=true:=by
 unfold leP at *
 simp at *
 omega
theorem leP_total (x y:Int × Int):(leP x y || leP y x)=true:=by
 unfold leP
 simp
 omega
theorem leP_anti (x y:Int × Int) (h1:leP x y=true) (h2:leP y x=true):x=y:=by
 unfold leP at *
 simp at *
 exact Prod.ext (by omega) (by omega)
theorem sort_fill {n:Nat} {A:Gr} {o:List Nat} (hn:n≤10) (hG:Good n A) (hl:o.length≤1000):sortD goodP leP ((fillL n A o).map pI)=some ((newL n (wholeA n A o) A n).map pI):=by
 unfold sortD
 have h1:((fillL n A o).map pI).all goodP=true:=by simp [goodP]
 have h2:Nat.blt ((fillL n A o).map pI).length 4611686018427387904=true:=by
  have:=fillL_len hn A o
  rw [List.length_map]
  exact Nat.ble_eq_true_of_le (by omega)
 rw [h1,h2,if_pos (by rfl)]
 congr 1
 refine sorted_one leP_anti ((isort_perm leP _).trans ((fill_perm hG).map pI)) (isort_sorted leP_trans leP_total _) ?_
 rw [List.pairwise_map]
 exact (newL_sorted n _ _).imp leP_pI
end Go.Ab
namespace Go.Ab
open Go
set_option maxRecDepth 100000
set_option maxHeartbeats 400000
structure Ord (n:Nat) (o:List Nat):Prop where
 len:o.length=n
 lt:∀v∈o,v < n
 nodup:o.Nodup
def okL (n:Nat) (l:List Int):Prop:=(∀x∈l,0≤x∧x < (n:Int))∧l.Nodup
theorem ord_okL {n:Nat} {o:List Nat} (h:Ord n o):okL n (nI o):=by
 refine ⟨fun x hx=>?_,?_⟩
 ·unfold nI at hx
  obtain ⟨v,hv,rfl⟩:=List.mem_map.1 hx
  have:=h.lt v hv; omega
 ·unfold nI
  rw [List.Nodup,List.pairwise_map]
  exact h.nodup.imp fun hne he=>hne (by omega)
theorem okL_take {n:Nat} {l:List Int} {k:Nat} (hk:k < l.length):okL n (l.take (k+1))↔okL n (l.take k)∧(0≤l[k]∧l[k] < (n:Int))∧l[k] ∉ l.take k:=by
 rw [List.take_succ_eq_append_getElem hk]
 unfold okL
 rw [List.nodup_append]
 simp only [List.mem_append,List.mem_singleton]
 constructor
 ·rintro ⟨h1,h2,h3,h4⟩
  exact ⟨⟨fun x hx=>h1 x (.inl hx),h2⟩,h1 _ (.inr rfl),fun h=>h4 _ h _ rfl rfl⟩
 ·rintro ⟨⟨h1,h2⟩,h3,h4⟩
  refine ⟨fun x hx=>?_,h2,by simp,fun a ha b hb e=>?_⟩
  ·rcases hx with hx | hx
   ·exact h1 x hx
   ·rw [hx]; exact h3
  ·subst hb; subst e; exact h4 ha
theorem not_okL_take {n:Nat} {l:List Int} {k:Nat} (h:¬ okL n (l.take k)):¬ okL n l:=fun h2=>h ⟨fun x hx=>h2.1 x (List.mem_of_mem_take hx),List.Nodup.sublist (List.take_sublist k l) h2.2⟩
theorem read_loop {n:Nat} {g l:List Int} (hn:n≤10) (hg:g.length=n) (hl:l.length≤1000) :
  ∃r,whileN fuel (g_order_read_b0 l g) (0,0)=some r∧((∃u,r=Sum.inl u∧¬ okL n l)∨(∃u,r=Sum.inr u∧okL n l)):=by
 have h:=rng_loop (n:=l.length) (k0:=0) (by omega) (by omega) (fun i (t:Int)=>(t,i)) (body:=g_order_read_b0 l g) (fun k t=>okL n (l.take k)∧t=((msk n fun i=>(l.take k).contains (i:Int):Nat):Int)) (fun r=>(∃u,r=Sum.inl u∧¬ okL n l)∨(∃u,r=Sum.inr u∧okL n l))
  (fun k t _ h2 hI=>by
   obtain ⟨hok,rfl⟩:=hI
   have hst:=okL_take (n:=n) h2
   have ek:=lkI_nat h2
   generalize l[k]=x at hst ek
   have bad:¬ okL n (l.take (k+1))→g_order_read_b0 l g (((msk n fun i=>(l.take k).contains (i:Int):Nat):Int),(k:Int))=some (.done (Sum.inl ()))→(∃t',g_order_read_b0 l g (((msk n fun i=>(l.take k).contains (i:Int):Nat):Int),(k:Int))=some (.next (t',IntKind.i64.wrap ((k:Int)+1)))∧okL n (l.take (k+1))∧t'=((msk n fun i=>(l.take (k+1)).contains (i:Int):Nat):Int))∨∃r,g_order_read_b0 l g (((msk n fun i=>(l.take k).contains (i:Int):Nat):Int),(k:Int))=some (.done r)∧((∃u,r=Sum.inl u∧¬ okL n l)∨(∃u,r=Sum.inr u∧okL n l)):=fun h h3=>.inr ⟨_,h3,.inl ⟨(),rfl,not_okL_take h⟩⟩
   by_cases c1:x < 0
   ·refine bad (fun h=>by have:=(hst.1 h).2.1; omega) ?_
    unfold g_order_read_b0
    dsimp only
    rw [if_pos (dlt h2),ek,Option.bind_some,if_pos (by simpa using c1)]
   ·by_cases c2:x≥(n:Int)
    ·refine bad (fun h=>by have:=(hst.1 h).2.1; omega) ?_
     unfold g_order_read_b0
     dsimp only
     rw [if_pos (dlt h2),ek,Option.bind_some,if_neg (by simpa using c1),hg,if_pos (by simpa using c2)]
    ·obtain ⟨v,rfl⟩:∃v:Nat,x=(v:Int):=⟨x.toNat,by omega⟩
     have hv:v < n:=by omega
     have hb:IntKind.u64.wrap (BitVec.ofInt (IntKind.bits .u64) (Int.fdiv ((msk n fun i=>(l.take k).contains (i:Int):Nat):Int) (2^min (Int.toNat (v:Int)) (IntKind.bits .u64))) &&& BitVec.ofInt (IntKind.bits .u64) 1).toNat = (((l.take k).contains (v:Int)).toNat : Int):=by
      rw [u_bit (lt64 hn (msk_lt n _)) (by omega),bitS v hv]
     by_cases c3:(l.take k).contains (v:Int)=true
     ·refine bad (fun h=>(hst.1 h).2.2 (by simpa using c3)) ?_
      unfold g_order_read_b0
      dsimp only
      rw [if_pos (dlt h2),ek,Option.bind_some,if_neg (by simpa using c1),hg,if_neg (by simpa using c2),if_pos (nat_ge v),hb,c3,if_pos (by rfl)]
     ·refine .inl ⟨_,?_,hst.2 ⟨hok,by omega,by simpa using c3⟩,rfl⟩
      unfold g_order_read_b0
      dsimp only
      rw [if_pos (dlt h2),ek,Option.bind_some,if_neg (by simpa using c1),hg,if_neg (by simpa using c2),if_pos (nat_ge v),hb,Bool.eq_false_iff.2 c3,if_neg (by decide),if_pos (nat_ge v),u_ins hn hv]
      congr 3
      congr 1
      refine msk_congr fun i hi=>?_
      have e:=List.take_succ_eq_append_getElem h2
      have e2:l[k]=(v:Int):=by
       have:=lkI_nat h2
       rw [ek] at this; exact (Option.some.inj this).symm
      rw [e,e2]
      rw [Bool.eq_iff_iff]
      simp
      grind)
  (fun t hI=>⟨_,by unfold g_order_read_b0; dsimp only; rw [if_neg (nlt _)],.inr ⟨(),rfl,by have:=hI.1; rwa [List.take_length] at this⟩⟩)
  0 ⟨⟨fun x hx=>by simp at hx,by simp⟩,by
   have:(msk n fun i=>([]:List Int).contains (i:Int))=0:=(msk_eq (by have:=Nat.two_pow_pos n; omega) fun i _=>by simp).symm
   rw [List.take_zero,this]; rfl⟩
 exact h
end Go.Ab
namespace Go.Ab
open Go
set_option maxRecDepth 100000
set_option maxHeartbeats 400000
def u64s (a:List Nat):Prop:=∀x∈a,x < 18446744073709551616
def okV (a:List Nat) (v:Nat):Prop:=(a.getD v 0) / 2^a.length=0∧(a.getD v 0).testBit v=false∧∀w,w < a.length→(a.getD v 0).testBit w=(a.getD w 0).testBit v
def okG (a:List Nat):Prop:=1≤a.length∧a.length≤10∧∀v,v < a.length→okV a v
theorem nI_getD {a:List Nat} {v:Nat} (h:v < a.length):lkI (nI a) (v:Int)=some ((a.getD v 0:Nat):Int):=by
 rw [nI_at h]; simp [h]
theorem u64s_at {a:List Nat} (h:u64s a) {v:Nat} (hv:v < a.length):a.getD v 0 < 18446744073709551616:=by
 have:a.getD v 0=a[v]:=by simp [hv]
 rw [this]; exact h _ (List.getElem_mem hv)
theorem bne_bit (x y:Bool):((x.toNat : Int) != (y.toNat : Int))=(x != y):=by cases x <;> cases y <;> rfl
theorem beq_bit (x:Bool):((x.toNat : Int)==1)=x:=by cases x <;> rfl
theorem fdiv_n {a n:Nat} (hn:n≤10):Int.fdiv (a:Int) (2^min (Int.toNat (n:Int)) (IntKind.bits .u64))=((a / 2^n:Nat):Int):=by
 have hb:IntKind.bits .u64=64:=rfl
 rw [hb,Int.toNat_natCast,Nat.min_eq_left (by omega),fdiv_pow]
theorem nz_ne {q:Nat} (h:¬ q=0):((q:Int) != 0)=true:=by simp; omega
theorem check_row {a:List Nat} (ha:u64s a) (hn:a.length≤10) {v:Nat} (hv:v < a.length) :
  ∃r,whileN fuel (g_order_Check_b0 (nI a) (v:Int) ((a.getD v 0:Nat):Int)) 0=some r∧((∃u,r=Sum.inl u∧¬ ∀w,w < a.length→(a.getD v 0).testBit w=(a.getD w 0).testBit v)∨(∃u,r=Sum.inr u∧∀w,w < a.length→(a.getD v 0).testBit w=(a.getD w 0).testBit v)):=by
 exact rng_loop (n:=a.length) (k0:=0) (by omega) (by omega) (fun i (t:Unit)=>i) (body:=g_order_Check_b0 (nI a) (v:Int) ((a.getD v 0:Nat):Int)) (fun k t=>∀w,w < k→(a.getD v 0).testBit w=(a.getD w 0).testBit v) (fun r=>(∃u,r=Sum.inl u∧¬ ∀w,w < a.length→(a.getD v 0).testBit w=(a.getD w 0).testBit v)∨(∃u,r=Sum.inr u∧∀w,w < a.length→(a.getD v 0).testBit w=(a.getD w 0).testBit v))
  (fun k t _ h2 hI=>by
   have hb:g_order_Check_b0 (nI a) (v:Int) ((a.getD v 0:Nat):Int) (k:Int)=if ((a.getD v 0).testBit k != (a.getD k 0).testBit v)=true then some (.done (Sum.inl ())) else some (.next (IntKind.i64.wrap ((k:Int)+1))):=by
    unfold g_order_Check_b0
    rw [nI_len,if_pos (dlt h2),if_pos (nat_ge k),nI_getD h2,Option.bind_some,if_pos (nat_ge v),u_bit (u64s_at ha hv) (by omega),u_bit (u64s_at ha h2) (by omega),bne_bit]
   by_cases c:(a.getD v 0).testBit k=(a.getD k 0).testBit v
   ·refine .inl ⟨(),?_,fun w hw=>?_⟩
    ·rw [hb,if_neg (by simpa using c)]
    ·rcases Nat.lt_succ_iff_lt_or_eq.1 hw with h | h
     ·exact hI w h
     ·rw [h]; exact c
   ·refine .inr ⟨_,by rw [hb,if_pos (by simpa using c)],.inl ⟨(),rfl,fun h=>c (h k h2)⟩⟩)
  (fun t hI=>⟨_,by unfold g_order_Check_b0; rw [nI_len,if_neg (nlt _)],.inr ⟨(),rfl,hI⟩⟩) () (fun w hw=>by omega)
theorem check_spec {a:List Nat} (ha:u64s a):(g_order_Check (nI a)=some 0∧okG a)∨(g_order_Check (nI a)=some 80∧¬ okG a):=by
 unfold g_order_Check
 rw [nI_len]
 by_cases h1:a.length < 1
 ·right
  rw [if_pos (by simp; omega)]
  exact ⟨rfl,fun h=>by have:=h.1; omega⟩
 by_cases h2:a.length > 10
 ·right
  rw [if_neg (by simp; omega),if_pos (by simp; omega)]
  exact ⟨rfl,fun h=>by have:=h.2.1; omega⟩
 rw [if_neg (by simp; omega),if_neg (by simp; omega)]
 obtain ⟨r,e,hr⟩:=rng_loop (n:=a.length) (k0:=0) (by omega) (by omega) (fun i (t:Unit)=>i) (body:=g_order_Check_b1 (nI a)) (fun k t=>∀v,v < k→okV a v) (fun r=>(∃u,r=Sum.inl u∧¬ ∀v,v < a.length→okV a v)∨(∃u,r=Sum.inr u∧∀v,v < a.length→okV a v))
  (fun k t _ h3 hI=>by
   unfold g_order_Check_b1
   rw [nI_len,if_pos (dlt h3),nI_getD h3,Option.bind_some,if_pos (nat_ge _),fdiv_n (by omega)]
   by_cases c1:(a.getD k 0) / 2^a.length=0
   ·rw [c1,if_neg (by simp),if_pos (nat_ge k),u_bit (u64s_at ha h3) (by omega),beq_bit]
    by_cases c2:(a.getD k 0).testBit k=true
    ·refine .inr ⟨_,by rw [if_pos c2],.inl ⟨(),rfl,fun h=>?_⟩⟩
     have:=(h k h3).2.1
     rw [c2] at this; cases this
    ·rw [if_neg c2]
     obtain ⟨r,e,hr⟩:=check_row ha (by omega) h3
     rw [e,Option.bind_some]
     rcases hr with ⟨u,rfl,hr⟩ | ⟨u,rfl,hr⟩
     ·exact .inr ⟨_,rfl,.inl ⟨(),rfl,fun h=>hr (h k h3).2.2⟩⟩
     ·refine .inl ⟨(),rfl,fun w hw=>?_⟩
      rcases Nat.lt_succ_iff_lt_or_eq.1 hw with h | h
      ·exact hI w h
      ·rw [h]; exact ⟨c1,by simpa using c2,hr⟩
   ·refine .inr ⟨_,by rw [if_pos (nz_ne c1)],.inl ⟨(),rfl,fun h=>c1 (h k h3).1⟩⟩)
  (fun t hI=>⟨_,by unfold g_order_Check_b1; rw [nI_len,if_neg (nlt _)],.inr ⟨(),rfl,hI⟩⟩) () (fun w hw=>by omega)
 rw [show ((0:Nat):Int)=0 from rfl] at e
 rw [e,Option.bind_some]
 rcases hr with ⟨u,rfl,hr⟩ | ⟨u,rfl,hr⟩
 ·exact .inr ⟨rfl,fun h=>hr h.2.2⟩
 ·exact .inl ⟨rfl,by omega,by omega,hr⟩
theorem gl_nI (n:Nat) (A:Gr):gl n A=nI ((List.range n).map fun v=>msk n (A v)):=by unfold gl nI; rw [List.map_map]; rfl
theorem gl_u64s {n:Nat} (hn:n≤10) (A:Gr):u64s ((List.range n).map fun v=>msk n (A v)):=fun x hx=>by
 obtain ⟨v,_,rfl⟩:=List.mem_map.1 hx
 exact lt64 hn (msk_lt n _)
theorem good_okG {n:Nat} {A:Gr} (h1:1≤n) (hn:n≤10) (hG:Good n A):okG ((List.range n).map fun v=>msk n (A v)):=by
 have hl:((List.range n).map fun v=>msk n (A v)).length=n:=by simp
 have at':∀v,v < n→((List.range n).map fun v=>msk n (A v)).getD v 0=msk n (A v):=fun v hv=>by simp [hv]
 refine ⟨by omega,by omega,fun v hv=>?_⟩
 rw [hl] at hv
 unfold okV
 rw [hl,at' v hv]
 refine ⟨Nat.div_eq_of_lt (msk_lt n _),by rw [bitS v hv,hG.irr],fun w hw=>?_⟩
 rw [at' w hw,bitS w hw,bitS v hv,hG.sym]
theorem check_gl {n:Nat} {A:Gr} (h1:1≤n) (hn:n≤10) (hG:Good n A):g_order_Check (gl n A)=some 0:=by
 rw [gl_nI]
 rcases check_spec (gl_u64s hn A) with h | h
 ·exact h.1
 ·exact absurd (good_okG h1 hn hG) h.2
theorem read_ord {n:Nat} {A:Gr} {o:List Nat} (h1:1≤n) (hn:n≤10) (hG:Good n A) (ho:Ord n o):g_order_read (gl n A) (nI o)=some 0:=by
 unfold g_order_read
 rw [check_gl h1 hn hG,Option.bind_some,if_neg (by decide),nI_len,gl_len,ho.len,if_neg (by simp)]
 obtain ⟨r,e,hr⟩:=read_loop hn (gl_len n A) (l:=nI o) (by rw [nI_len,ho.len]; omega)
 rw [e,Option.bind_some]
 rcases hr with ⟨u,rfl,hr⟩ | ⟨u,rfl,hr⟩
 ·exact absurd (ord_okL ho) hr
 ·rfl
theorem Fill_ord {n:Nat} {A:Gr} {o:List Nat} (h1:1≤n) (hn:n≤10) (hG:Good n A) (ho:Ord n o):g_order_Fill (gl n A) (nI o)=some ((newL n (wholeA n A o) A n).map pI,0):=by
 have hl:o.length≤1000:=by rw [ho.len]; omega
 unfold g_order_Fill
 rw [read_ord h1 hn hG ho,Option.bind_some,if_neg (by decide),run_spec hn hG ho.lt hl,Option.bind_some,sort_fill hn hG hl]; rfl
theorem Width_ord {n:Nat} {A:Gr} {o:List Nat} (h1:1≤n) (hn:n≤10) (hG:Good n A) (ho:Ord n o):g_order_Width (gl n A) (nI o)=some ((widL n A o:Int),0):=by
 have hl:o.length≤1000:=by rw [ho.len]; omega
 unfold g_order_Width
 rw [read_ord h1 hn hG ho,Option.bind_some,if_neg (by decide),run_spec hn hG ho.lt hl]; rfl
end Go.Ab
namespace Go.Ab
open Go
set_option maxRecDepth 100000
set_option maxHeartbeats 400000
theorem wf_u8 {n:Int} (h:(Lit.int .u8 n).wf=true):0≤n∧n≤255:=by
 simpa [Lit.wf,IntKind.min,IntKind.max,IntKind.bits,IntKind.signed] using h
theorem join_good {n a b:Nat} {A:Gr} (hG:Good n A) (ha:a < n) (hb:b < n) (hne:a≠b):Good n (joinL A [(a,b)]):=by
 have key:=joinL_iff A [(a,b)]
 refine ⟨fun u w=>?_,fun u=>?_,fun u w h=>?_⟩
 ·rw [Bool.eq_iff_iff,key,key,hG.sym u w]; grind
 ·rw [Bool.eq_false_iff]; intro h
  rw [key,hG.irr] at h
  simp at h
  omega
 ·rw [key] at h
  rcases h with h | h | h
  ·exact hG.lt u w h
  ·simp at h; omega
  ·simp at h; omega
theorem good_empty (n:Nat):Good n (fun _ _=>false):=⟨fun _ _=>rfl,fun _=>rfl,fun _ _ h=>by cases h⟩
theorem gl_zero (n:Nat):List.replicate n (0:Int)=gl n fun _ _=>false:=by
 apply List.ext_getElem?
 intro v
 by_cases hv:v < n
 ·rw [gl_get hv]
  have:msk n (fun _=>false)=0:=(msk_eq (by have:=Nat.two_pow_pos n; omega) fun i _=>by simp).symm
  rw [this]; simp [hv]
 ·rw [List.getElem?_eq_none (by simp; omega),List.getElem?_eq_none (by rw [gl_len]; omega)]
def dN (d:Tharuspexref08_Draft):Nat := 1+(d.N % 7).toNat
theorem dN_eq {d:Tharuspexref08_Draft} (h:okTharuspexref08_Draft d):IntKind.i64.wrap (1+IntKind.i64.wrap (Int.tmod d.N 7))=(dN d:Int)∧1≤dN d∧dN d≤7:=by
 have h0:=wf_u8 h.1
 rw [tmod_pos h0.1]
 unfold dN
 rw [w64 (n:=d.N % 7) (by omega),w64 (by omega)]
 omega
theorem mod_nat {x:Int} {n:Nat} (h:0≤x∧x≤255) (hn:1≤n):∃a:Nat,Int.tmod (IntKind.i64.wrap x) (n:Int)=(a:Int)∧a < n:=by
 rw [w64 (by omega),tmod_pos h.1]
 refine ⟨(x % n).toNat,?_,?_⟩
 ·have:=Int.emod_nonneg x (b:=(n:Int)) (by omega); omega
 ·have h1:=Int.emod_nonneg x (b:=(n:Int)) (by omega)
  have h2:=Int.emod_lt_of_pos x (b:=(n:Int)) (by omega)
  omega
theorem draft_graph {d:Tharuspexref08_Draft} (h:okTharuspexref08_Draft d):∃A,Good (dN d) A∧g_ref08_Draft_Graph d=some (gl (dN d) A):=by
 obtain ⟨e,h1,h7⟩:=dN_eq h
 have hlen:=h.2.1.1
 unfold g_ref08_Draft_Graph
 rw [e,if_pos (by omega),Int.toNat_natCast,gl_zero]
 obtain ⟨r,e1,A,hG,rfl⟩:=rng_loop (n:=min d.E.length 30) (k0:=0) (by omega) (by omega) (fun i (t:List Int)=>(i,t)) (body:=g_ref08_Draft_Graph_b0 d) (fun k t=>∃A,Good (dN d) A∧t=gl (dN d) A) (fun r=>∃A,Good (dN d) A∧r=gl (dN d) A)
  (fun k t _ h2 hI=>by
   obtain ⟨A,hG,rfl⟩:=hI
   have h2':k < d.E.length:=by omega
   have hm:=h.2.1.2 _ (List.getElem_mem h2')
   have ek:=lkI_nat h2'
   generalize d.E[k]=p at hm ek
   unfold g_ref08_Draft_Graph_b0
   dsimp only
   rw [if_pos (dlt h2')]
   by_cases c:(k:Int) < 30
   ·rw [if_pos (by simpa using c),ek,Option.bind_some,e,if_pos (by omega),if_pos (by omega)]
    obtain ⟨a,ea,ha⟩:=mod_nat (n:=dN d) (wf_u8 hm.1) h1
    obtain ⟨b,eb,hb⟩:=mod_nat (n:=dN d) (wf_u8 hm.2) h1
    rw [ea,eb]
    by_cases hab:a=b
    ·subst hab
     exact .inl ⟨_,by rw [if_neg (by simp)],A,hG,rfl⟩
    ·have hj:=refJoin (n:=dN d) (A:=A) (l:=[(a,b)]) (by omega) (fun p hp=>by simp at hp; subst hp; exact ⟨ha,hb,hab⟩) (by simp)
     have e3:([(a,b)]:List (Nat × Nat)).map pI=[((a:Int),(b:Int))]:=rfl
     rw [e3] at hj
     exact .inl ⟨_,by rw [if_pos (by simp; omega),hj]; rfl,_,join_good hG ha hb hab,rfl⟩
   ·exact .inr ⟨_,by rw [if_neg (by simpa using c)],A,hG,rfl⟩)
  (fun t hI=>by
   obtain ⟨A,hG,rfl⟩:=hI
   refine ⟨_,?_,A,hG,rfl⟩
   unfold g_ref08_Draft_Graph_b0
   dsimp only
   by_cases c:d.E.length≤30
   ·rw [Nat.min_eq_left c,if_neg (nlt _)]
   ·rw [Nat.min_eq_right (by omega),if_pos (by simp; omega),if_neg (by simp)])
  (gl (dN d) fun _ _=>false) ⟨_,good_empty _,rfl⟩
 rw [show ((0:Nat):Int)=0 from rfl] at e1
 exact ⟨A,hG,by rw [e1]; rfl⟩
theorem sub_nI (l:List Nat) (a b:Nat):sub (nI l) (a:Int) (b:Int)=nI ((l.drop a).take (b - a)):=by simp [sub,nI,List.map_drop,List.map_take]
theorem ord_ins {k a:Nat} {o:List Nat} (h:Ord k o) (ha:a≤k):Ord (k+1) (o.take a++[k]++o.drop a):=by
 have hp:(o.take a++[k]++o.drop a).Perm (k::o):=by
  rw [List.append_assoc]
  refine (List.perm_middle (l₁:=o.take a) (a:=k) (l₂:=o.drop a)).trans ?_
  rw [List.take_append_drop]
 refine ⟨?_,fun v hv=>?_,?_⟩
 ·rw [hp.length_eq,List.length_cons,h.len]
 ·rcases List.mem_cons.1 (hp.mem_iff.1 hv) with e | e
  ·omega
  ·have:=h.lt v e; omega
 ·rw [hp.nodup_iff]
  exact List.nodup_cons.2 ⟨fun hk=>by have:=h.lt k hk; omega,h.nodup⟩
theorem draft_list {d:Tharuspexref08_Draft} (h:okTharuspexref08_Draft d):∃o,Ord (dN d) o∧g_ref08_Draft_List d=some (nI o):=by
 obtain ⟨e,h1,h7⟩:=dN_eq h
 obtain ⟨A,hG,eg⟩:=draft_graph h
 have hlen:=h.2.2.1
 unfold g_ref08_Draft_List
 obtain ⟨r,e1,o,ho,rfl⟩:=rng_loop (n:=dN d) (k0:=0) (by omega) (by omega) (fun i (t:List Int)=>(i,t)) (body:=g_ref08_Draft_List_b0 d) (fun k t=>∃o,Ord k o∧t=nI o) (fun r=>∃o,Ord (dN d) o∧r=nI o)
  (fun k t _ h2 hI=>by
   obtain ⟨o,ho,rfl⟩:=hI
   refine .inl ?_
   unfold g_ref08_Draft_List_b0
   dsimp only
   rw [eg,Option.bind_some,gl_len,if_pos (dlt h2)]
   have put:∀a:Nat,a≤k→sub (nI o) (0:Int) (a:Int)++([(k:Int)]:List Int)++sub (nI o) (a:Int) ((nI o).length:Int)=nI (o.take a++[k]++o.drop a):=fun a ha=>by
    have e1:=sub_nI o 0 a
    rw [show ((0:Nat):Int)=0 from rfl] at e1
    have hl:(o.drop a).length=k - a:=by rw [List.length_drop,ho.len]
    rw [e1,nI_len,sub_nI,ho.len,List.take_of_length_le (l:=o.drop a) (by omega)]
    simp [nI]
   have len1:∀a:Nat,a≤k→(sub (nI o) (0:Int) (a:Int)).length≤k:=fun a ha=>by
    have e1:=sub_nI o 0 a
    rw [show ((0:Nat):Int)=0 from rfl] at e1
    rw [e1,nI_len]
    simp; omega
   have len2:∀a:Nat,a≤k→(sub (nI o) (0:Int) (a:Int)++([(k:Int)]:List Int)++sub (nI o) (a:Int) ((nI o).length:Int)).length≤k+1:=fun a ha=>by
    rw [put a ha,nI_len,(ord_ins ho ha).len]; exact Nat.le_refl _
   have hol:(nI o).length=k:=by rw [nI_len,ho.len]
   by_cases c:(k:Int) < (d.Order.length:Int)
   ·have hk:k < d.Order.length:=by omega
    have hm:=h.2.2.2 _ (List.getElem_mem hk)
    have ek:=lkI_nat hk
    generalize d.Order[k]=p at hm ek
    obtain ⟨a,ea,ha⟩:=mod_nat (n:=k+1) (wf_u8 hm) (by omega)
    refine ⟨_,?_,_,ord_ins (a:=a) ho (by omega),rfl⟩
    have l1:=len1 a (by omega)
    have l2:=len2 a (by omega)
    have l3:(sub (nI o) (0:Int) (a:Int)++([(k:Int)]:List Int)).length≤k+1:=by rw [List.length_append]; simp; omega
    rw [if_pos (by simpa using c),ek,Option.bind_some,i_succ (by omega),if_pos (by omega),ea,if_pos (by omega),if_pos (by omega),if_pos (by omega),if_pos (by omega),if_pos (by omega),put a (by omega)]
   ·refine ⟨_,?_,_,ord_ins (a:=0) ho (by omega),rfl⟩
    have l1:=len1 0 (by omega)
    have l2:=len2 0 (by omega)
    have l3:(sub (nI o) (0:Int) ((0:Nat):Int)++([(k:Int)]:List Int)).length≤k+1:=by rw [List.length_append]; simp; omega
    have p0:=put 0 (by omega)
    rw [show ((0:Nat):Int)=0 from rfl] at l1 l2 l3 p0
    rw [if_neg (by simpa using c),if_pos (by omega),if_pos (by omega),if_pos (by omega),if_pos (by omega),if_pos (by omega),p0])
  (fun t hI=>by
   obtain ⟨o,ho,rfl⟩:=hI
   exact ⟨_,by unfold g_ref08_Draft_List_b0; dsimp only; rw [eg,Option.bind_some,gl_len,if_neg (nlt _)],o,ho,rfl⟩)
  [] ⟨[],⟨rfl,fun v hv=>by simp at hv,by simp⟩,rfl⟩
 rw [show ((0:Nat):Int)=0 from rfl] at e1
 exact ⟨o,ho,by rw [e1]; rfl⟩
end Go.Ab
namespace Go.Ab
open Go
set_option maxRecDepth 100000
set_option maxHeartbeats 400000
theorem works_true:g_law08_works=some true:=by kernel_rfl
end Go.Ab
namespace Go.Ab
open Go
set_option maxRecDepth 100000
set_option maxHeartbeats 400000
def sumN:Nat → (Nat → Nat)→Nat
 | 0,_=>0
 | n+1,f=>sumN n f+f n
theorem sumN_congr {n:Nat} {f g:Nat → Nat} (h:∀i,i < n→f i=g i):sumN n f=sumN n g:=by
 induction n with
 | zero=>rfl
 | succ n ih=>simp only [sumN]; rw [ih fun i hi=>h i (by omega),h n (by omega)]
theorem sumN_add (n:Nat) (f g:Nat → Nat):sumN n (fun i=>f i+g i)=sumN n f+sumN n g:=by
 induction n with
 | zero=>rfl
 | succ n ih=>simp only [sumN]; rw [ih]; omega
theorem cnt_sum (n:Nat) (p:Nat → Bool):cnt n p=sumN n fun i=>(p i).toNat := by
 induction n with
 | zero=>rfl
 | succ n ih=>simp only [cnt,sumN]; rw [ih]
theorem twice (M:Gr) (hs:∀u w,M u w=M w u) (hi:∀u,M u u=false):∀n,sumN n (fun u=>cnt n (M u))=2*sumN n (fun a=>cnt n fun b=>decide (a < b) && M a b)
 | 0=>rfl
 | n+1=>by
  have ih:=twice M hs hi n
  simp only [sumN,cnt]
  have e1:sumN n (fun u=>cnt n (M u)+(M u n).toNat)=sumN n (fun u=>cnt n (M u))+cnt n (M n):=by
   rw [sumN_add,cnt_sum n (M n)]
   congr 1
   exact sumN_congr fun i _=>by rw [hs]
  have e2:sumN n (fun a=>(cnt n fun b=>decide (a < b) && M a b)+(decide (a < n) && M a n).toNat)=sumN n (fun a=>cnt n fun b=>decide (a < b) && M a b)+cnt n (M n):=by
   rw [sumN_add,cnt_sum n (M n)]
   congr 1
   exact sumN_congr fun i hi=>by simp [hi,hs i n]
  have e3:(cnt n fun b=>decide (n < b) && M n b)=0:=cnt_zero fun i hi=>by
   have:¬ n < i:=by omega
   simp [this]
  rw [e1,e2,e3,hi n,ih]
  simp; omega
theorem filter_cnt (n:Nat) (p:Nat → Bool):((List.range n).filter p).length=cnt n p:=by
 induction n with
 | zero=>rfl
 | succ n ih =>
  rw [range_filter_succ,List.length_append,ih]
  simp only [cnt]
  cases p n <;> rfl
def lackN (n:Nat) (A:Gr) (v:Nat):Nat := (miss n A v).length
theorem lack_sum (n:Nat) (A:Gr) (v k:Nat):((List.range k).flatMap (missA n A v)).length=sumN k fun a=>cnt n fun b=>decide (a < b) && (A v a && A v b && !A a b):=by
 induction k with
 | zero=>rfl
 | succ k ih =>
  rw [List.range_succ,List.flatMap_append,List.length_append,ih]
  simp only [sumN,List.flatMap_cons,List.flatMap_nil,List.append_nil,missA,List.length_map]
  rw [filter_cnt]
theorem lacking_spec {n:Nat} {A:Gr} {v:Nat} {L:Int} (hn:n≤10) (hG:Good n A) (hv:v < n):g_order_graph_lacking (Torder_graph.mk (Torder_neighbours.mk (gl n A)) L) (v:Int)=some (lackN n A v:Int):=by
 unfold g_order_graph_lacking
 simp only [gl_at hv,Option.bind_some]
 let M:Gr:=fun u w=>A v u && A v w && !A u w && !decide (u=w)
 have hM:sumN n (fun u=>cnt n (M u))=2*lackN n A v:=by
  rw [twice M (fun u w=>by
   show (A v u && A v w && !A u w && !decide (u=w))=(A v w && A v u && !A w u && !decide (w=u))
   rw [hG.sym u w]; grind) (fun u=>by show (A v u && A v u && !A u u && !decide (u=u))=false; simp)]
  unfold lackN miss
  rw [lack_sum]
  congr 1
  refine sumN_congr fun a _=>cnt_congr fun b _=>?_
  show (decide (a < b) && (A v a && A v b && !A a b && !decide (a=b)))=_
  by_cases h:a < b
  ·have:¬ a=b:=by omega
   simp [h,this]
  ·simp [h]
 obtain ⟨r,h1,h2⟩:=mem_loop hn (fun R (t:Int)=>(R,t)) (body:=g_order_graph_lacking_b0 (Torder_graph.mk (Torder_neighbours.mk (gl n A)) L) ((msk n (A v):Nat):Int)) (fun k t=>t=(sumN k (fun u=>cnt n (M u)):Int)) (fun r=>r=(sumN n (fun u=>cnt n (M u)):Int)) (A v)
  (fun x t R R' hx hp hI c1 c2 c3=>.inl (by
   subst hI
   refine ⟨_,?_,rfl⟩
   unfold g_order_graph_lacking_b0
   simp only [c1,if_true,c2,Option.bind_some,gl_at hx,if_pos (nat_ge x)]
   rw [u_diff (n:=n) (p:=A v) (q:=A x) (by omega) (msk_lt n _) (lt64 hn (msk_lt n _)) bitS bitS,u_del hn (by omega),oc_msk hn,Option.bind_some,c3]
   have hle:∀k,k≤n→sumN k (fun u=>cnt n (M u))≤k*n:=fun k hk=>by
    induction k with
    | zero=>simp [sumN]
    | succ k ih =>
     have:=cnt_le n (M k)
     have:=ih (by omega)
     simp only [sumN,Nat.succ_mul]; omega
   have hx':=hle x (by omega)
   have hb:x*n≤100:=Nat.le_trans (Nat.mul_le_mul (show x≤10 by omega) hn) (by omega)
   have hc:=cnt_le n (fun i=>(A v i && !A x i) && !decide (x=i))
   have e:(cnt n fun i=>(A v i && !A x i) && !decide (x=i))=cnt n (M x):=cnt_congr fun i _=>by
    show _=(A v x && A v i && !A x i && !decide (x=i))
    rw [hp]; simp
   rw [e] at hc ⊢
   rw [w64 (by omega)]
   simp only [sumN]
   congr 3))
  (fun x t hx hp hI=>by
   have:cnt n (M x)=0:=cnt_zero fun i _=>by
    show (A v x && A v i && !A x i && !decide (x=i))=false
    rw [hp]; rfl
   simp only [sumN]
   rw [hI,this]; rfl)
  (fun t hI=>⟨_,by unfold g_order_graph_lacking_b0; simp,hI⟩) 0 rfl
 rw [h1,h2,hM,Option.bind_some]
 have hlen:=missAll_len hn A v
 have:Int.tdiv (((2*lackN n A v:Nat)):Int) 2=(lackN n A v:Int):=by rw [tdiv_pos (by omega)]; omega
 rw [this,w64 (by unfold lackN; omega)]
def amin (L:Nat → Bool) (m:Nat → Nat):Nat → Option Nat
 | 0=>none
 | k+1=>match amin L m k with
  | none=>if L k then some k else none
  | some b=>if L k && Nat.blt (m k) (m b) then some k else some b
theorem amin_spec {L:Nat → Bool} {m:Nat → Nat}:∀(k:Nat),(amin L m k=none∧∀i,i < k→L i=false)∨∃b,amin L m k=some b∧b < k∧L b=true∧(∀i,i < k→L i=true→m b≤m i)∧∀i,i < b→L i=true→m b < m i
 | 0=>.inl ⟨rfl,fun i hi=>by omega⟩
 | k+1=>by
  rcases amin_spec (L:=L) (m:=m) k with ⟨h1,h2⟩ | ⟨b,h1,h2,h3,h4,h5⟩
  ·simp only [amin,h1]
   cases hk:L k
   ·left; refine ⟨by simp,fun i hi=>?_⟩
    rcases Nat.lt_succ_iff_lt_or_eq.1 hi with h | h
    ·exact h2 i h
    ·rw [h]; exact hk
   ·right; refine ⟨k,by simp,by omega,hk,fun i hi hL=>?_,fun i hi hL=>?_⟩
    ·rcases Nat.lt_succ_iff_lt_or_eq.1 hi with h | h
     ·rw [h2 i h] at hL; cases hL
     ·rw [h]; exact Nat.le_refl _
    ·rw [h2 i hi] at hL; cases hL
  ·simp only [amin,h1]
   right
   by_cases c:(L k && Nat.blt (m k) (m b))=true
   ·rw [if_pos c]
    simp only [Bool.and_eq_true] at c
    have hlt:m k < m b:=Nat.le_of_ble_eq_true c.2
    refine ⟨k,rfl,by omega,c.1,fun i hi hL=>?_,fun i hi hL=>?_⟩
    ·rcases Nat.lt_succ_iff_lt_or_eq.1 hi with h | h
     ·have:=h4 i h hL; omega
     ·rw [h]; exact Nat.le_refl _
    ·have:=h4 i hi hL; omega
   ·rw [if_neg c]
    refine ⟨b,rfl,by omega,h3,fun i hi hL=>?_,h5⟩
    rcases Nat.lt_succ_iff_lt_or_eq.1 hi with h | h
    ·exact h4 i h hL
    ·subst h
     rcases Nat.lt_or_ge (m i) (m b) with h | h
     ·exact absurd (by rw [hL,blt_of h]; rfl) c
     ·exact h
def amE (m:Nat → Nat):Option Nat → Int × Int
 | none=>(-1,0)
 | some b=>((b:Int),(m b:Int))
theorem amin_skip {L:Nat → Bool} {m:Nat → Nat} {x:Nat} (h:L x=false):amin L m (x+1)=amin L m x:=by
 simp only [amin,h]
 cases amin L m x <;> simp
theorem least_fill {n:Nat} {A:Gr} {L:Nat → Bool} {l:Int} (hn:n≤10) (hG:Good n A):g_order_least_m0 ((msk n L:Nat):Int) l (gl n A)=some ((amE (lackN n A) (amin L (lackN n A) n)).1,l,gl n A):=by
 unfold g_order_least_m0
 obtain ⟨r,h1,h2⟩:=mem_loop hn (fun R (t:Int × Int)=>(R,t.1,t.2)) (body:=g_order_least_m0_b0 (gl n A) l) (fun k t=>t=amE (lackN n A) (amin L (lackN n A) k)) (fun r=>r=amE (lackN n A) (amin L (lackN n A) n)) L
  (fun x t R R' hx hp hI c1 c2 c3=>.inl (by
   subst hI
   refine ⟨_,?_,rfl⟩
   have hd:g_order_graph_lacking (Torder_graph.mk (Torder_neighbours.mk (gl n A)) l) (x:Int)=some (lackN n A x:Int):=lacking_spec hn hG hx
   simp only [amin]
   cases amin L (lackN n A) x with
   | none =>
    simp only [amE]
    unfold g_order_least_m0_b0
    dsimp only
    rw [if_pos c1,c2,Option.bind_some,hd,Option.bind_some,c3,hp]
    simp
   | some b =>
    simp only [amE]
    unfold g_order_least_m0_b0
    dsimp only
    rw [if_pos c1,c2,Option.bind_some,hd,Option.bind_some,c3,hp,if_neg (show ¬ decide ((b:Int) < 0)=true by simp)]
    by_cases c:lackN n A x < lackN n A b
    ·rw [if_pos (by simpa using c),blt_of c]; simp
    ·rw [if_neg (by simpa using c),blt_false (by omega)]; simp))
  (fun x t hx hp hI=>by rw [hI,amin_skip hp])
  (fun t hI=>⟨_,by unfold g_order_least_m0_b0; simp,hI⟩) (-1,0) rfl
 rw [h1,h2]; rfl
def grd (n:Nat) (μ:Gr→Nat → Nat):Nat → Gr→(Nat → Bool)→List Nat
 | 0,_,_=>[]
 | k+1,A,L=>match amin L (μ A) n with
  | none=>[]
  | some v=>v::grd n μ k (elim A v) (fun i=>L i && !decide (v=i))
theorem grd_mem {n:Nat} {μ:Gr→Nat → Nat}:∀(k:Nat) (A:Gr) (L:Nat → Bool),cnt n L=k→(∀i,i∈grd n μ k A L↔i < n∧L i=true)∧(grd n μ k A L).Nodup∧(grd n μ k A L).length=k
 | 0,A,L,h=>by
  refine ⟨fun i=>?_,by simp [grd],rfl⟩
  simp only [grd,List.not_mem_nil,false_iff,not_and]
  intro hi hL
  have:=cnt_pos hi hL; omega
 | k+1,A,L,h=>by
  rcases amin_spec (L:=L) (m:=μ A) n with ⟨h1,h2⟩ | ⟨b,h1,h2,h3,_⟩
  ·have:=cnt_zero h2; omega
  ·obtain ⟨g1,g2,g3⟩:=grd_mem (n:=n) (μ:=μ) k (elim A b) (fun i=>L i && !decide (b=i)) (by have:=cnt_del h2 h3; omega)
   simp only [grd,h1]
   refine ⟨fun i=>?_,List.nodup_cons.2 ⟨fun hm=>?_,g2⟩,by rw [List.length_cons,g3]⟩
   ·rw [List.mem_cons,g1]
    simp only [Bool.and_eq_true,Bool.not_eq_true',decide_eq_false_iff_not]
    grind
   ·have:=(g1 b).1 hm
    simp at this
theorem cnt_all (n:Nat):cnt n (fun _=>true)=n:=by
 induction n with
 | zero=>rfl
 | succ n ih=>simp only [cnt]; rw [ih]; rfl
theorem grd_ord {n:Nat} {μ:Gr→Nat → Nat} {A:Gr}:Ord n (grd n μ n A fun _=>true):=by
 obtain ⟨h1,h2,h3⟩:=grd_mem (n:=n) (μ:=μ) n A (fun _=>true) (cnt_all n)
 exact ⟨h3,fun v hv=>((h1 v).1 hv).1,h2⟩
theorem msk_ne {n:Nat} {L:Nat → Bool} {k:Nat} (h:cnt n L=k+1):(((msk n L:Nat):Int) != 0)=true:=by
 have:msk n L≠0:=fun e=>by
  have:∀i,i < n→L i=false:=fun i hi=>by
   have h2:=bitS (p:=L) i hi
   rw [e] at h2; simpa using h2.symm
  have:=cnt_zero this; omega
 simp; omega
theorem msk_zero {n:Nat} {L:Nat → Bool} (h:cnt n L=0):msk n L=0:=by
 refine (msk_eq (by have:=Nat.two_pow_pos n; omega) fun i hi=>?_).symm
 have:L i=false:=by
  rw [Bool.eq_false_iff]; intro hh
  have:=cnt_pos hi hh; omega
 rw [this]; simp
theorem supp_elim {n:Nat} {A:Gr} {L:Nat → Bool} {v:Nat} (hG:Good n A) (h:∀u w,A u w=true→L u=true):∀u w,elim A v u w=true→(L u && !decide (v=u))=true:=fun u w hh=>by
 have h1:=elim_off hh
 have h2:L u=true:=by
  unfold elim at hh
  simp only [Bool.and_eq_true,Bool.or_eq_true] at hh
  rcases hh.1.1 with h3 | h3
  ·exact h u w h3
  ·exact h u v (by rw [hG.sym]; exact h3.1.1)
 have h3:¬ v=u:=fun e=>h1.1 e.symm
 simp [h2,h3]
theorem greedy_loop0 {n:Nat} (hn:n≤10):∀(k N:Nat) (A:Gr) (L:Nat → Bool) (o:List Nat),k < N→cnt n L=k→Good n A→(∀u w,A u w=true→L u=true)→o.length+k≤100 →
  ∃r,whileN N g_order_graph_greedy_m0_b0 (((msk n L:Nat):Int),gl n A,nI o)=some r∧r.2.2=nI (o++grd n (lackN n) k A L)
 | 0,N,A,L,o,hN,hc,hG,hs,hl=>by
  obtain ⟨N,rfl⟩:∃M,N=M+1:=⟨N - 1,by omega⟩
  rw [msk_zero hc]
  refine ⟨((0:Nat),gl n A,nI o),?_,by simp [grd]⟩
  simp [whileN,g_order_graph_greedy_m0_b0]
 | k+1,N,A,L,o,hN,hc,hG,hs,hl=>by
  obtain ⟨N,rfl⟩:∃M,N=M+1:=⟨N - 1,by omega⟩
  rcases amin_spec (L:=L) (m:=lackN n A) n with ⟨h1,h2⟩ | ⟨b,h1,h2,h3,_⟩
  ·have:=cnt_zero h2; omega
  ·have hlen:(nI o++([(b:Int)]:List Int)).length*8≤140737488355328:=by rw [List.length_append,nI_len]; simp; omega
   have hb:g_order_graph_greedy_m0_b0 (((msk n L:Nat):Int),gl n A,nI o)=some (.next (((msk n fun i=>L i && !decide (b=i):Nat):Int),gl n (elim A b),nI (o++[b]))):=by
    unfold g_order_graph_greedy_m0_b0
    simp only [msk_ne hc,if_true,least_fill hn hG,Option.bind_some,h1,amE,if_pos hlen,eliminate_spec hn hG h2 hs]
    simp [nI]
   simp only [whileN,hb]
   obtain ⟨r,e1,e2⟩:=greedy_loop0 hn k N (elim A b) (fun i=>L i && !decide (b=i)) (o++[b]) (by omega) (by have:=cnt_del h2 h3; omega) (elim_good hG b) (supp_elim hG hs) (by simp; omega)
   refine ⟨r,e1,?_⟩
   rw [e2]
   simp [grd,h1]
theorem LeastFill_spec {n:Nat} {A:Gr} (h1:1≤n) (hn:n≤10) (hG:Good n A):g_order_LeastFill (gl n A)=some (nI (grd n (lackN n) n A fun _=>true),0):=by
 unfold g_order_LeastFill
 rw [check_gl h1 hn hG,Option.bind_some,if_neg (by decide),clone_u (by rw [gl_len]; omega),Option.bind_some,gl_len,if_pos (nat_ge n),u_all hn]
 obtain ⟨r,e1,e2⟩:=greedy_loop0 hn n fuel A (fun _=>true) [] (by show n < 1152921504606846976; omega) (cnt_all n) hG (fun _ _ _=>rfl) (by simp; omega)
 unfold g_order_graph_greedy_m0
 rw [show nI []=[] from rfl] at e1
 rw [e1]
 simp only [Option.bind_some,e2,List.nil_append]
theorem Chordal_spec {n:Nat} {A:Gr} (h1:1≤n) (hn:n≤10) (hG:Good n A):g_order_Chordal (gl n A)=some ((fillL n A (grd n (lackN n) n A fun _=>true)).isEmpty,0):=by
 unfold g_order_Chordal
 rw [check_gl h1 hn hG,Option.bind_some,if_neg (by decide),clone_u (by rw [gl_len]; omega),Option.bind_some,gl_len,if_pos (nat_ge n),u_all hn]
 obtain ⟨r,e1,e2⟩:=greedy_loop0 hn n fuel A (fun _=>true) [] (by show n < 1152921504606846976; omega) (cnt_all n) hG (fun _ _ _=>rfl) (by simp; omega)
 unfold g_order_graph_greedy_m0
 rw [show nI []=[] from rfl] at e1
 have ho:=grd_ord (n:=n) (μ:=lackN n) (A:=A)
 rw [e1]
 simp only [Option.bind_some,e2,List.nil_append,run_spec hn hG ho.lt (by rw [ho.len]; omega)]
 cases fillL n A (grd n (lackN n) n A fun _=>true) with
 | nil=>rfl
 | cons a l=>simp; omega
end Go.Ab
namespace Go.Ab
open Go
set_option maxRecDepth 100000
set_option maxHeartbeats 400000
theorem lack_zero {n:Nat} {A:Gr} {v:Nat}:lackN n A v=0↔miss n A v=[]:=by unfold lackN; exact List.length_eq_zero_iff
end Go.Ab
namespace Go.Ab
open Go
set_option maxRecDepth 100000
set_option maxHeartbeats 400000
def del (A:Gr) (v:Nat):Gr:=fun x y=>A x y && !decide (x=v) && !decide (y=v)
end Go.Ab
namespace Go.Ab
open Go
set_option maxRecDepth 100000
set_option maxHeartbeats 400000
inductive Via (A:Gr) (R:Nat → Bool):Nat → Nat → Prop
 | one {v u:Nat} (h:A v u=true):Via A R v u
 | step {v x u:Nat} (h:A v x=true) (hx:R x=true) (k:Via A R x u):Via A R v u
theorem Via.trans {A:Gr} {R:Nat → Bool} {u v w:Nat} (h:Via A R u v) (hv:R v=true) (k:Via A R v w):Via A R u w:=by
 induction h with
 | one h=>exact .step h hv k
 | step h hx _ ih=>exact .step h hx (ih hv k)
theorem Via.symm {n:Nat} {A:Gr} {R:Nat → Bool} {u v:Nat} (hG:Good n A) (h:Via A R u v):Via A R v u:=by
 induction h with
 | one h=>exact .one (by rw [hG.sym]; exact h)
 | step h hx _ ih=>exact ih.trans hx (.one (by rw [hG.sym]; exact h))
theorem Via.mono {A:Gr} {R R':Nat → Bool} {u v:Nat} (h:Via A R u v) (hR:∀x,R x=true→(∃y,A x y=true)→R' x=true):Via A R' u v:=by
 induction h with
 | one h=>exact .one h
 | step h hx k ih =>
  refine .step h (hR _ hx ?_) ih
  cases k with
  | one h=>exact ⟨_,h⟩
  | step h _ _=>exact ⟨_,h⟩
theorem Via.lt {n:Nat} {A:Gr} {R:Nat → Bool} {u v:Nat} (hG:Good n A) (h:Via A R u v):u < n∧v < n:=by
 induction h with
 | one h=>exact ⟨hG.lt _ _ h,hG.lt _ _ (by rw [hG.sym]; exact h)⟩
 | step h _ _ ih=>exact ⟨hG.lt _ _ h,ih.2⟩
theorem via_more {A:Gr} {R R':Nat → Bool} {v:Nat} (hR:∀x,R' x=true→R x=true∨x=v) {u w:Nat} (h:Via A R' u w):Via A R u w∨(Via A R u v∧Via A R v w):=by
 induction h with
 | one h=>exact .inl (.one h)
 | step h hx _ ih =>
  rcases hR _ hx with e | e
  ·rcases ih with i | ⟨i,j⟩
   ·exact .inl (.step h e i)
   ·exact .inr ⟨.step h e i,j⟩
  ·subst e
   rcases ih with i | ⟨i,j⟩
   ·exact .inr ⟨.one h,i⟩
   ·exact .inr ⟨.one h,j⟩
open Classical in
noncomputable def Egr (A:Gr) (S:Nat → Bool):Gr:=fun u w=>S u && S w && !decide (u=w) && decide (Via A (fun i=>!S i) u w)
theorem Egr_iff {A:Gr} {S:Nat → Bool} {u w:Nat}:Egr A S u w=true↔S u=true∧S w=true∧u≠w∧Via A (fun i=>!S i) u w:=by
 unfold Egr
 simp only [Bool.and_eq_true,Bool.not_eq_true',decide_eq_false_iff_not,decide_eq_true_eq]
 constructor
 ·rintro ⟨⟨⟨a,b⟩,c⟩,d⟩; exact ⟨a,b,c,d⟩
 ·rintro ⟨a,b,c,d⟩; exact ⟨⟨⟨a,b⟩,c⟩,d⟩
theorem Egr_elim {n:Nat} {A:Gr} {S:Nat → Bool} {v:Nat} (hG:Good n A) (hv:S v=true):∀u w,elim (Egr A S) v u w=Egr A (fun i=>S i && !decide (v=i)) u w:=fun u w=>by
 rw [Bool.eq_iff_iff,Egr_iff]
 unfold elim
 simp only [Bool.and_eq_true,Bool.or_eq_true,Bool.not_eq_true',decide_eq_false_iff_not,Egr_iff]
 have hm:∀x:Nat,(fun i=>!S i) x=true→(∃y,A x y=true)→(fun i=>!(S i && !decide (v=i))) x=true:=fun x h _=>by
  simp only [Bool.not_eq_true'] at h
  simp [h]
 have hv':(fun i=>!(S i && !decide (v=i))) v=true:=by simp
 constructor
 ·rintro ⟨⟨h | ⟨⟨h1,h2⟩,h3⟩,h4⟩,h5⟩
  ·exact ⟨⟨h.1,fun e=>h4 e.symm⟩,⟨h.2.1,fun e=>h5 e.symm⟩,h.2.2.1,h.2.2.2.mono hm⟩
  ·exact ⟨⟨h1.2.1,fun e=>h4 e.symm⟩,⟨h2.2.1,fun e=>h5 e.symm⟩,h3,((h1.2.2.2.symm hG).mono hm).trans hv' (h2.2.2.2.mono hm)⟩
 ·rintro ⟨⟨a1,a2⟩,⟨b1,b2⟩,c,d⟩
  have hr:∀x:Nat,(fun i=>!(S i && !decide (v=i))) x=true→(fun i=>!S i) x=true∨x=v:=fun x h=>by
   by_cases e:v=x
   ·exact .inr e.symm
   ·simp only [Bool.not_eq_true',Bool.and_eq_false_iff,Bool.not_eq_false',decide_eq_true_eq] at h
    rcases h with h | h
    ·left; simp [h]
    ·exact absurd h e
  refine ⟨⟨?_,fun e=>a2 e.symm⟩,fun e=>b2 e.symm⟩
  rcases via_more hr d with h | ⟨h1,h2⟩
  ·exact .inl ⟨a1,b1,c,h⟩
  ·exact .inr ⟨⟨⟨hv,a1,a2,h1.symm hG⟩,⟨hv,b1,b2,h2⟩⟩,c⟩
noncomputable def lateN (n:Nat) (A:Gr) (S:Nat → Bool) (v:Nat):Nat := cnt n (Egr A S v)
theorem Egr_congr {n:Nat} {A:Gr} {S T:Nat → Bool} (hG:Good n A) (h:∀i,i < n→S i=T i):Egr A S=Egr A T:=by
 funext u w
 rw [Bool.eq_iff_iff,Egr_iff,Egr_iff]
 have key:∀(S T:Nat → Bool),(∀i,i < n→S i=T i)→S u=true∧S w=true∧u≠w∧Via A (fun i=>!S i) u w→T u=true∧T w=true∧u≠w∧Via A (fun i=>!T i) u w:=fun S T h=>by
  rintro ⟨a,b,c,d⟩
  obtain ⟨l1,l2⟩:=d.lt hG
  exact ⟨by rw [←h u l1]; exact a,by rw [←h w l2]; exact b,c,d.mono fun x hx ⟨y,hy⟩=>by
   show (!T x)=true
   rw [←h x (hG.lt x y hy)]; exact hx⟩
 exact ⟨key S T h,key T S fun i hi=>(h i hi).symm⟩
theorem late_spec {n:Nat} {A:Gr} {S:Nat → Bool} {v:Nat} (hn:n≤10) (hG:Good n A) (hv:v < n) (hS:S v=true) :
  g_order_late (gl n A) (v:Int) ((msk n fun i=>!S i:Nat):Int)=some (lateN n A S v:Int):=by
 unfold g_order_late
 rw [if_pos (nat_ge v),gl_at hv,Option.bind_some]
 have body:∀(D X:Nat → Bool) (x:Nat),x < n→X x=true→(∀i,i < x→X i=false)→g_order_late_b0 ((msk n fun i=>!S i:Nat):Int) (gl n A) (((msk n D:Nat):Int),((msk n fun i=>D i && (S i && !decide (v=i)):Nat):Int),((msk n X:Nat):Int)) =
   some (.next (((msk n fun i=>D i || decide (x=i):Nat):Int),((msk n fun i=>(D i && (S i && !decide (v=i))) || (S x && decide (x=i)):Nat):Int),((msk n fun i=>(X i && !decide (x=i)) || (!S x && (A x i && !(D i || decide (x=i)))):Nat):Int))):=fun D X x hx hX hl=>by
  obtain ⟨a1,a2,a3⟩:=rest_msk hn hx hX hl
  have hb:IntKind.u64.wrap (BitVec.ofInt (IntKind.bits .u64) (Int.fdiv ((msk n fun i=>!S i:Nat):Int) (2^min (Int.toNat (x:Int)) (IntKind.bits .u64))) &&& BitVec.ofInt (IntKind.bits .u64) 1).toNat = ((!S x).toNat : Int):=by
   rw [u_bit (lt64 hn (msk_lt n _)) (by omega),bitS x hx]
  unfold g_order_late_b0
  dsimp only
  rw [if_pos a1,a2,Option.bind_some,if_pos (nat_ge x),if_pos (nat_ge x),hb,u_ins hn hx,u_ins hn hx,a3,gl_at hx]
  cases hs:S x with
  | true =>
   rw [if_pos (by rfl),if_pos (nat_ge x)]
   simp only [Bool.true_and,Bool.not_true,Bool.false_and,Bool.or_false]
  | false =>
   rw [if_neg (by decide),Option.bind_some]
   rw [u_diff (n:=n) (p:=A x) (q:=fun i=>D i || decide (x=i)) (by omega) (msk_lt n _) (lt64 hn (msk_lt n _)) bitS bitS]
   rw [u_or (n:=n) (p:=fun i=>X i && !decide (x=i)) (q:=fun i=>A x i && !(D i || decide (x=i))) (by omega) (msk_lt n _) (msk_lt n _) bitS bitS]
   simp only [Bool.false_and,Bool.or_false,Bool.not_false,Bool.true_and]
 obtain ⟨r,h1,h2⟩:=whileN_ex (body:=g_order_late_b0 ((msk n fun i=>!S i:Nat):Int) (gl n A))
  (fun s=>∃D X:Nat → Bool,s=(((msk n D:Nat):Int),((msk n fun i=>D i && (S i && !decide (v=i)):Nat):Int),((msk n X:Nat):Int))∧D v=true∧(∀i,X i=true→D i=false)∧(∀i,X i=true→Via A (fun i=>!S i) v i)∧(∀i,D i=true→i≠v→Via A (fun i=>!S i) v i)∧(∀y i,D y=true→(y=v∨S y=false)→A y i=true→D i=true∨X i=true))
  (fun s=>cnt n fun i=>!(s.1.toNat.testBit i)) (fun r=>r=((msk n (Egr A S v):Nat):Int))
  (fun s hI=>by
   obtain ⟨D,X,rfl,d1,d2,d3,d4,d5⟩:=hI
   by_cases hX:∃i,i < n∧X i=true
   ·left
    obtain ⟨t1,t2,t3⟩:=tzN_spec n X hX
    generalize tzN n X=x at t1 t2 t3
    have hDx:=d2 x t2
    have hvx:=d3 x t2
    refine ⟨_,body D X x t1 t2 t3,⟨fun i=>D i || decide (x=i),fun i=>(X i && !decide (x=i)) || (!S x && (A x i && !(D i || decide (x=i)))),?_,by simp [d1],fun i hi=>?_,fun i hi=>?_,fun i hi hne=>?_,fun y i hy hyv hA=>?_⟩,?_⟩
    ·congr 1
     congr 1
     refine congrArg _ (msk_congr fun i _=>?_)
     have hxv:x≠v:=fun e=>by subst e; rw [d1] at hDx; cases hDx
     grind
    ·simp only [Bool.or_eq_true,Bool.and_eq_true,Bool.not_eq_true',decide_eq_false_iff_not,Bool.or_eq_false_iff] at hi
     rw [Bool.or_eq_false_iff,decide_eq_false_iff_not]
     rcases hi with hi | hi
     ·exact ⟨d2 i hi.1,hi.2⟩
     ·exact hi.2.2
    ·simp only [Bool.or_eq_true,Bool.and_eq_true,Bool.not_eq_true',decide_eq_false_iff_not,Bool.or_eq_false_iff] at hi
     rcases hi with hi | hi
     ·exact d3 i hi.1
     ·exact hvx.trans (by simp [hi.1]) (.one hi.2.1)
    ·simp only [Bool.or_eq_true,decide_eq_true_eq] at hi
     rcases hi with hi | hi
     ·exact d4 i hi hne
     ·subst hi; exact hvx
    ·simp only [Bool.or_eq_true,decide_eq_true_eq] at hy
     simp only [Bool.or_eq_true,Bool.and_eq_true,Bool.not_eq_true',decide_eq_false_iff_not,decide_eq_true_eq,Bool.or_eq_false_iff]
     rcases hy with hy | hy
     ·rcases d5 y i hy hyv hA with h | h
      ·exact .inl (.inl h)
      ·by_cases e:x=i
       ·exact .inl (.inr e)
       ·exact .inr (.inl ⟨h,e⟩)
     ·subst hy
      have hSx:S x=false:=by
       rcases hyv with e | e
       ·subst e; rw [d1] at hDx; cases hDx
       ·exact e
      by_cases e:x=i
      ·exact .inl (.inr e)
      ·cases hD:D i with
       | true=>exact .inl (.inl rfl)
       | false=>exact .inr (.inr ⟨hSx,hA,rfl,e⟩)
    ·simp only [Int.toNat_natCast]
     have e1:(cnt n fun i=>!(msk n fun i=>D i || decide (x=i)).testBit i)=cnt n fun i=>(!D i) && !decide (x=i):=cnt_congr fun i hi=>by rw [bitS i hi]; simp
     have e2:(cnt n fun i=>!(msk n D).testBit i)=cnt n fun i=>!D i:=cnt_congr fun i hi=>by rw [bitS i hi]
     rw [e1,e2]
     have:=cnt_del (n:=n) (p:=fun i=>!D i) t1 (by simp [hDx])
     omega
   ·right
    have hno:∀i,i < n→X i=false:=fun i hi=>by rw [Bool.eq_false_iff]; exact fun h=>hX ⟨i,hi,h⟩
    have e0:msk n X=0:=(msk_eq (by have:=Nat.two_pow_pos n; omega) fun i hi=>by rw [hno i hi]; simp).symm
    refine ⟨((msk n fun i=>D i && (S i && !decide (v=i)):Nat):Int),by unfold g_order_late_b0; dsimp only; rw [e0]; rfl,?_⟩
    refine congrArg _ (msk_congr fun i hi=>?_)
    have seen:∀y z,Via A (fun i=>!S i) y z→D y=true→(y=v∨S y=false)→D z=true:=fun y z h=>by
     induction h with
     | one h =>
      intro hy hyv
      rcases d5 _ _ hy hyv h with h2 | h2
      ·exact h2
      ·rw [hno _ (hG.lt _ _ (by rw [hG.sym]; exact h))] at h2; cases h2
     | @step _ x _ h hx k ih =>
      intro hy hyv
      have hx':S x=false:=by simpa using hx
      rcases d5 _ _ hy hyv h with h2 | h2
      ·exact ih h2 (.inr hx')
      ·rw [hno _ (hG.lt _ _ (by rw [hG.sym]; exact h))] at h2; cases h2
    rw [Bool.eq_iff_iff,Egr_iff]
    simp only [Bool.and_eq_true,Bool.not_eq_true',decide_eq_false_iff_not]
    constructor
    ·rintro ⟨a,b,c⟩
     exact ⟨hS,b,c,d4 i a fun e=>c e.symm⟩
    ·rintro ⟨_,b,c,d⟩
     exact ⟨seen v i d d1 (.inl rfl),b,c⟩)
  (IntKind.u64.wrap (1*2^min (Int.toNat (v:Int)) (IntKind.bits .u64)),0,((msk n (A v):Nat):Int))
  ⟨fun i=>decide (v=i),A v,(by
   rw [u_sh (by omega)]
   have e1:2^v=msk n fun i=>decide (v=i):=msk_eq (Nat.pow_lt_pow_right (by omega) hv) fun i _=>bit_pow v i
   have e2:(msk n fun i=>decide (v=i) && (S i && !decide (v=i)))=0:=(msk_eq (by have:=Nat.two_pow_pos n; omega) fun i _=>by simp; intro e _; exact e).symm
   rw [e1,e2]; rfl),by simp,
   (fun i hi=>by rw [decide_eq_false_iff_not]; intro e; subst e; rw [hG.irr] at hi; cases hi),(fun i hi=>.one hi),
   (fun i hi hne=>by simp only [decide_eq_true_eq] at hi; exact absurd hi.symm hne),
   (fun y i hy hyv hA=>by simp only [decide_eq_true_eq] at hy; subst hy; exact .inr hA)⟩
  (by
   have:=cnt_le n fun i=>!((IntKind.u64.wrap (1*2^min (Int.toNat (v:Int)) (IntKind.bits .u64))).toNat.testBit i)
   dsimp only
   omega)
 rw [h1,Option.bind_some,h2,oc_msk hn]; rfl
end Go.Ab
