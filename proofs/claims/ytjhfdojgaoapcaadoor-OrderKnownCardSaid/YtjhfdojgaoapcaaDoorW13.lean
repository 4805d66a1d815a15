/- What functions compute. No conditions. -/
import Derived.Test.YtjhfdojgaoapcaaDoorProg
import Derived.Test.YtjhfdojgaoapcaaDoorW9
import Derived.KernelRfl
import Derived.Test.YtjhfdojgaoapcaaDoorW10
set_option linter.all false
namespace Go.Ab
open Go Go.Proofs
set_option maxRecDepth 100000
set_option maxHeartbeats 4000000
noncomputable abbrev s24_102 (x23:Int) (s7:(Int × Int × (List Int))) (x22:(Int × Int)):List (Nat × AV):=[(5,vI (if x23 > s7.1 then x23 else s7.1)),(6,.ptr 0 0 0),(7,vI x22.1),(41,.ptr 0 0 0),(42,vI x22.1),(43,.ptr 0 0 0),(44,.ptr 0 0 0),(45,.ptr 0 0 0),(46,.ptr 0 0 0),(47,.ref 1 0 s7.2.2.length),(48,vI x22.1)]
noncomputable abbrev o24_7 (s7:(Int × Int × (List Int))) (x22:(Int × Int)):AObj:=oX true true 1 (.int .u64 (zv (BitVec.ofInt (IntKind.bits .u64) s7.2.1 &&& ~~~ BitVec.ofInt (IntKind.bits .u64) (zv (1*2^min (zt x22.1) (IntKind.bits .u64)))).toNat))
noncomputable abbrev o24_8 (s7:(Int × Int × (List Int))):AObj:=oX false false 2 (.agg [.ref 1 0 s7.2.2.length,.int .u64 s7.2.1])
noncomputable abbrev o24_9:AObj:=oX false false 1 (.fn (.func 60) [.ptr 0 0 0] [])
noncomputable abbrev o24_10:AObj:=oX false false 1 (.ptr 0 0 0)
noncomputable abbrev o24_11 (s7:(Int × Int × (List Int))) (x22:(Int × Int)):AObj:=oX false false 2 (.agg [.ref 1 0 s7.2.2.length,.int .u64 (zv (BitVec.ofInt (IntKind.bits .u64) s7.2.1 &&& ~~~ BitVec.ofInt (IntKind.bits .u64) (zv (1*2^min (zt x22.1) (IntKind.bits .u64)))).toNat)])
noncomputable abbrev o24_12 (x22:(Int × Int)):AObj:=oX true true 1 (vI x22.1)
noncomputable abbrev o24_13 (s7:(Int × Int × (List Int))):AObj:=oX true true 1 (.int .u64 s7.2.1)
noncomputable abbrev o24_14:AObj:=oX true true 1 (vI (-1))
noncomputable abbrev o24_15 (s7:(Int × Int × (List Int))):List AObj:=[(o24_8 s7),oR true 1 (AV.int .u64) s7.2.2]
theorem g_order_Low_ok (p0:(List Int)) (x:(Int × Int)) (h:g_order_Low p0=some x):CallOk Tryd.prog 24 [eL true (AV.int .u64) p0] (.ret (.tup [vI x.1,vI x.2]) []):=by
 refine fn_ok [] Tryd.func24 rfl (by decide +kernel) rfl ?_
 unfold g_order_Low at h
 refine wp_eqB (base':=0) (st':=⟨[(0,eL true (AV.int .u64) p0)],[],59⟩) kr kr ?_
 refine sq (wp_seq (wp_seq (reg_in (sz 1 1 ?_))))
 refine callW bodyB_14 (g_order_Check_ok p0) h (fun x1 _ h=>?_)
 refine sz 1 3 (reg_end rfl (sq ?_))
 refine wbz h (fun q4 h=>?_) (fun q4 h=>?_)
 ·refine wp_seq (wg [4] [] (rn ?_))
  refine wgc [2,3] [] ⟨[(2,vI 0),(3,vI x1)],[],59⟩ ?_
  cases h
  exact wp_ret (show fnOut _ _ _ _=_ from by kernel_rfl)
 refine wp_skip (wp_seq (wg [0] [] (reg_in (sz 1 1 ?_))))
 refine inlR (f:=57) (fn:=Tryd.f57) (as0:=[eL true (AV.int .u64) p0]) kr Tryd.func57 rfl (by decide +kernel) rfl ?_
 refine wp_eqB (base':=0) (st':=⟨[(0,eL true (AV.int .u64) p0)],[],12⟩) kr kr ?_
 refine sq (wp_seq (rga hfol (sy 1 1 ?_)))
 refine callW bodyB_38 (g_slices_Clone_uint_uint_ok p0) h (fun x5 _ h=>?_)
 refine sy 2 4 ?_
 refine lenL (enc:=(AV.int .u64)) (l:=p0) (fl:=true) kr gE ?_
 refine shlR (k:=.u64) (k':=.i64) (a:=1) (b:=(zn p0)) kr gE h (fun h=>?_)
 refine sy 2 8 ?_
 refine sgL false [] [] false gE ?_
 refine sy 1 10 (rgd (wg [2] [1,0] ?_))
 refine wp_ret ?_
 refine ⟨⟨[(0,eL true (AV.int .u64) p0),(13,eL true (AV.int .u64) p0),(14,.ptr 0 0 0)],[oX false false 2 (.agg [.ref 1 0 x5.length,.int .u64 (zv ((zv (1*2^min (zt (zn p0)) (IntKind.bits .u64))) - 1))]),oR true 1 (AV.int .u64) x5],59⟩,by as_aux_lemma=>kernel_rfl,?_⟩
 refine sz 2 4 (reg_end rfl (wp_seq (wp_block ?_)))
 refine wwh h (fun s7=>⟨[(5,vI s7.1),(6,.ptr 0 0 0)],(o24_15 s7),59⟩) (fun v out=>out=.go (.exit 0) ⟨[(5,vI v)],[],59⟩) (wk_gc (live:=[5,6]) (keep:=[0,1]) kr) ?_ ?_
 ·intro s7 o h
  unfold g_order_Low_b5 at h
  refine wp_seq (sq ?_)
  refine wbz h (fun q9 h=>?_) (fun q9 h=>?_)
  ·refine wp_skip (wp_block (wp_seq (wg [5,6] [0,1] (reg_in (sz 6 6 ?_)))))
   refine inlR (f:=61) (fn:=Tryd.f61) (as0:=[.int .u64 s7.2.1,.fn (.func 60) [.ptr 0 0 0] []]) kr Tryd.func61 rfl (by decide +kernel) rfl ?_
   refine wp_eqB (base':=2) (st':=⟨[(0,.int .u64 s7.2.1),(1,.fn (.func 60) [.ptr 0 0 0] [])],(o24_15 s7),25⟩) kr kr ?_
   refine wp_seq (reg_in ?_)
   refine sgL false [] [] false gE ?_
   refine sz 1 2 (reg_end rfl (sq (wp_seq (wp_seq (reg_in (sz 1 1 ?_))))))
   refine inlR (f:=68) (fn:=Tryd.f68) (as0:=[.int .u64 s7.2.1]) kr Tryd.func68 rfl (by decide +kernel) rfl ?_
   refine wp_eqB (base':=5) (st':=⟨[(0,.int .u64 s7.2.1)],[(o24_8 s7),oR true 1 (AV.int .u64) s7.2.2,o24_9,o24_14,oX true true 1 (vI 0)],4⟩) kr kr ?_
   refine sq (sq (wg [2] [5] ?_))
   refine wp_ret ?_
   refine ⟨⟨[(0,.int .u64 s7.2.1),(1,.fn (.func 60) [.ptr 0 0 0] []),(3,.ptr 2 0 0),(4,vI 0),(5,.ptr 3 0 0),(6,.ptr 4 0 0),(9,.int .u64 s7.2.1),(10,.fn (.func 85) [] [.ptr 5 0 0])],[(o24_8 s7),oR true 1 (AV.int .u64) s7.2.2,o24_9,o24_14,oX true true 1 (vI 0),(o24_13 s7)],25⟩,by as_aux_lemma=>kernel_rfl,?_⟩
   refine reg_end rfl (wp_block ?_)
   refine wgc [3,5,6,10] [2,3,4,5] ⟨[(3,.ptr 2 0 0),(5,.ptr 3 0 0),(6,.ptr 4 0 0),(10,.fn (.func 85) [] [.ptr 5 0 0])],[(o24_8 s7),oR true 1 (AV.int .u64) s7.2.2,o24_9,o24_14,oX true true 1 (vI 0),(o24_13 s7)],25⟩ ?_
   refine wp_range (f:=85) (fn:=Tryd.f85) (first:=[]) (caps:=[.ptr 5 0 0]) rfl Tryd.func85 rfl (by decide +kernel) rfl rfl ?_
   refine wp_eqB (base':=7) (st':=⟨[(0,.yld 6),(1,.ptr 5 0 0)],[(o24_8 s7),oR true 1 (AV.int .u64) s7.2.2,o24_9,o24_14,oX true true 1 (vI 0),(o24_13 s7),.loop 25 [(3,.ptr 2 0 0),(5,.ptr 3 0 0),(6,.ptr 4 0 0),(10,.fn (.func 85) [] [.ptr 5 0 0])] [11] (cA Tryd.f61 [true,true,false,true,true]) (cB Tryd.f61 [true,true,false,true,true]) .ready none],16⟩) kr kr ?_
   refine sq (wp_block ?_)
   refine wwh h (fun s10=>⟨[(0,.yld 6),(3,.int .u64 s10.1)],[(o24_8 s7),oR true 1 (AV.int .u64) s7.2.2,o24_9,oX true true 1 (vI s10.2.1),oX true true 1 (vI s10.2.2),(o24_13 s7),.loop 25 [(3,.ptr 2 0 0),(5,.ptr 3 0 0),(6,.ptr 4 0 0),(10,.fn (.func 85) [] [.ptr 5 0 0])] [11] (cA Tryd.f61 [true,true,false,true,true]) (cB Tryd.f61 [true,true,false,true,true]) .ready none],16⟩) (fun v out=>out=.go (.exit 0) ⟨[],[(o24_8 s7),oR true 1 (AV.int .u64) s7.2.2,o24_9,oX true true 1 (vI v.1),oX true true 1 (vI v.2),(o24_13 s7),.loop 25 [(3,.ptr 2 0 0),(5,.ptr 3 0 0),(6,.ptr 4 0 0),(10,.fn (.func 85) [] [.ptr 5 0 0])] [11] (cA Tryd.f61 [true,true,false,true,true]) (cB Tryd.f61 [true,true,false,true,true]) .ready none],16⟩) (wk_gc (live:=[0,3]) (keep:=[]) kr) ?_ ?_
   ·intro s10 o h
    unfold g_order_Low_b0 at h
    refine wp_seq (sq ?_)
    refine wb [6] h (fun q12 h=>?_) (fun q12 h=>?_)
    ·refine wcT (wp_skip (wp_seq (wp_block (wp_seq (reg_in (sz 2 2 ?_))))))
     refine callW bodyB_86 (g_math_bits_TrailingZeros_ok s10.1) h (fun x13 _ h=>?_)
     refine yldR (l:=6) (nt:=25) (us:=[vI x13]) (sl:=[(3,.ptr 2 0 0),(5,.ptr 3 0 0),(6,.ptr 4 0 0),(10,.fn (.func 85) [] [.ptr 5 0 0])]) (ps:=[11]) (assign:=cA Tryd.f61 [true,true,false,true,true]) (body:=cB Tryd.f61 [true,true,false,true,true]) (pe:=none) kr kr rfl ?_
     refine wp_eqB (base':=7) (st':=⟨[(3,.ptr 2 0 0),(5,.ptr 3 0 0),(6,.ptr 4 0 0),(10,.fn (.func 85) [] [.ptr 5 0 0]),(11,vI x13)],[(o24_8 s7),oR true 1 (AV.int .u64) s7.2.2,o24_9,oX true true 1 (vI s10.2.1),oX true true 1 (vI s10.2.2),(o24_13 s7),.loop 25 [(3,.ptr 2 0 0),(5,.ptr 3 0 0),(6,.ptr 4 0 0),(10,.fn (.func 85) [] [.ptr 5 0 0])] [11] (cA Tryd.f61 [true,true,false,true,true]) (cB Tryd.f61 [true,true,false,true,true]) .ready none],25⟩) kr kr ?_
     refine rn ?_
     refine ⟨⟨[(3,.ptr 2 0 0),(5,.ptr 3 0 0),(6,.ptr 4 0 0),(10,.fn (.func 85) [] [.ptr 5 0 0]),(11,vI x13),(7,vI x13)],[(o24_8 s7),oR true 1 (AV.int .u64) s7.2.2,o24_9,oX true true 1 (vI s10.2.1),oX true true 1 (vI s10.2.2),(o24_13 s7),.loop 25 [(3,.ptr 2 0 0),(5,.ptr 3 0 0),(6,.ptr 4 0 0),(10,.fn (.func 85) [] [.ptr 5 0 0])] [11] (cA Tryd.f61 [true,true,false,true,true]) (cB Tryd.f61 [true,true,false,true,true]) .busy none],25⟩,by as_aux_lemma=>kernel_rfl,?_⟩
     refine wp_block (wp_seq (reg_in ?_))
     refine sgz 2 2 (S:=⟨[(3,.ptr 2 0 0),(5,.ptr 3 0 0),(6,.ptr 4 0 0),(10,.fn (.func 85) [] [.ptr 5 0 0]),(11,vI x13),(7,vI x13),(12,.fn (.func 60) [.ptr 0 0 0] []),(13,vI x13)],[(o24_8 s7),oR true 1 (AV.int .u64) s7.2.2,o24_9,oX true true 1 (vI s10.2.1),oX true true 1 (vI s10.2.2),(o24_13 s7),.loop 25 [(3,.ptr 2 0 0),(5,.ptr 3 0 0),(6,.ptr 4 0 0),(10,.fn (.func 85) [] [.ptr 5 0 0])] [11] (cA Tryd.f61 [true,true,false,true,true]) (cB Tryd.f61 [true,true,false,true,true]) .busy none],25⟩) ?_
     refine callR (as0:=[.ptr 0 0 0,vI x13]) (ids:=[0,1]) kr bodyB_60 (msnap_cons (snap_ptr rfl (msnap_cons (snap_agg (msnap_cons (snap_full (w:=1) (bx:=false) (ro:=false) (enc:=(AV.int .u64)) (l:=s7.2.2) (fl:=true) kr) (msnap_cons rfl msnap_nil (by rfl)) (by rfl))) msnap_nil (by rfl)) (by rfl) (by rfl)) (msnap_cons rfl msnap_nil (by rfl)) (by rfl)) (fun x15 q16=>g_order_graph_degree_ok (Torder_graph.mk (Torder_neighbours.mk s7.2.2) s7.2.1) x13 x15 q16) gF h (fun x15 q16 h=>?_)
     refine sz 1 4 (reg_end rfl (wp_seq (wg [5,6,7,8] [] (reg_in (sz 3 3 ?_)))))
     refine rb [16,17] h (fun q18 h=>?_) (fun q18 h=>?_)
     ·refine sz 4 7 (reg_end rfl (wcT (wg [5,6,7,8] [] (rn ?_))))
      refine ⟨⟨[(0,.yld 6),(3,.int .u64 s10.1),(5,.int .u64 s10.1),(6,vB true),(11,.yld 6),(12,.int .u64 s10.1),(13,vI x13),(14,vB true)],[(o24_8 s7),oR true 1 (AV.int .u64) s7.2.2,o24_9,oX true true 1 (vI x13),oX true true 1 (vI x15),(o24_13 s7),.loop 25 [(3,.ptr 2 0 0),(5,.ptr 3 0 0),(6,.ptr 4 0 0),(10,.fn (.func 85) [] [.ptr 5 0 0])] [11] (cA Tryd.f61 [true,true,false,true,true]) (cB Tryd.f61 [true,true,false,true,true]) .ready none],16⟩,by as_aux_lemma=>kernel_rfl,?_⟩
      refine sz 1 5 (reg_end rfl (wcF (wp_skip ?_)))
      refine wgc [0,3] [] ⟨[(0,.yld 6),(3,.int .u64 s10.1)],[(o24_8 s7),oR true 1 (AV.int .u64) s7.2.2,o24_9,oX true true 1 (vI x13),oX true true 1 (vI x15),(o24_13 s7),.loop 25 [(3,.ptr 2 0 0),(5,.ptr 3 0 0),(6,.ptr 4 0 0),(10,.fn (.func 85) [] [.ptr 5 0 0])] [11] (cA Tryd.f61 [true,true,false,true,true]) (cB Tryd.f61 [true,true,false,true,true]) .ready none],16⟩ ?_
      refine rn ?_
      cases h
      exact ⟨_,rfl,(wk_gc (live:=[0,3]) (keep:=[]) kr)⟩
     refine sz 4 7 (reg_end rfl ?_)
     refine wb [20,21] h (fun q20 h=>?_) (fun q20 h=>?_)
     ·refine wcT (wg [5,6,7,8] [] (rn ?_))
      refine ⟨⟨[(0,.yld 6),(3,.int .u64 s10.1),(5,.int .u64 s10.1),(6,vB true),(11,.yld 6),(12,.int .u64 s10.1),(13,vI x13),(14,vB true)],[(o24_8 s7),oR true 1 (AV.int .u64) s7.2.2,o24_9,oX true true 1 (vI x13),oX true true 1 (vI x15),(o24_13 s7),.loop 25 [(3,.ptr 2 0 0),(5,.ptr 3 0 0),(6,.ptr 4 0 0),(10,.fn (.func 85) [] [.ptr 5 0 0])] [11] (cA Tryd.f61 [true,true,false,true,true]) (cB Tryd.f61 [true,true,false,true,true]) .ready none],16⟩,by as_aux_lemma=>kernel_rfl,?_⟩
      refine sz 1 5 (reg_end rfl (wcF (wp_skip ?_)))
      refine wgc [0,3] [] ⟨[(0,.yld 6),(3,.int .u64 s10.1)],[(o24_8 s7),oR true 1 (AV.int .u64) s7.2.2,o24_9,oX true true 1 (vI x13),oX true true 1 (vI x15),(o24_13 s7),.loop 25 [(3,.ptr 2 0 0),(5,.ptr 3 0 0),(6,.ptr 4 0 0),(10,.fn (.func 85) [] [.ptr 5 0 0])] [11] (cA Tryd.f61 [true,true,false,true,true]) (cB Tryd.f61 [true,true,false,true,true]) .ready none],16⟩ ?_
      refine rn ?_
      cases h
      exact ⟨_,rfl,(wk_gc (live:=[0,3]) (keep:=[]) kr)⟩
     refine wcF (wp_skip ?_)
     refine ⟨⟨[(0,.yld 6),(3,.int .u64 s10.1),(5,.int .u64 s10.1),(6,vB true),(11,.yld 6),(12,.int .u64 s10.1),(13,vI x13),(14,vB true)],[(o24_8 s7),oR true 1 (AV.int .u64) s7.2.2,o24_9,oX true true 1 (vI s10.2.1),oX true true 1 (vI s10.2.2),(o24_13 s7),.loop 25 [(3,.ptr 2 0 0),(5,.ptr 3 0 0),(6,.ptr 4 0 0),(10,.fn (.func 85) [] [.ptr 5 0 0])] [11] (cA Tryd.f61 [true,true,false,true,true]) (cB Tryd.f61 [true,true,false,true,true]) .ready none],16⟩,by as_aux_lemma=>kernel_rfl,?_⟩
     refine sz 1 5 (reg_end rfl (wcF (wp_skip ?_)))
     refine wgc [0,3] [] ⟨[(0,.yld 6),(3,.int .u64 s10.1)],[(o24_8 s7),oR true 1 (AV.int .u64) s7.2.2,o24_9,oX true true 1 (vI s10.2.1),oX true true 1 (vI s10.2.2),(o24_13 s7),.loop 25 [(3,.ptr 2 0 0),(5,.ptr 3 0 0),(6,.ptr 4 0 0),(10,.fn (.func 85) [] [.ptr 5 0 0])] [11] (cA Tryd.f61 [true,true,false,true,true]) (cB Tryd.f61 [true,true,false,true,true]) .ready none],16⟩ ?_
     refine rn ?_
     cases h
     exact ⟨_,rfl,(wk_gc (live:=[0,3]) (keep:=[]) kr)⟩
    refine wcF (wg [] [] ?_)
    refine wp_exit ?_
    cases h
    exact ⟨kr,rfl⟩
   intro x22 h out hx
   subst hx
   refine ⟨.go .normal ⟨[(3,.ptr 2 0 0),(5,.ptr 3 0 0),(6,.ptr 4 0 0),(10,.fn (.func 85) [] [.ptr 5 0 0])],[(o24_8 s7),oR true 1 (AV.int .u64) s7.2.2,o24_9,(o24_12 x22),oX true true 1 (vI x22.2),(o24_13 s7),.dead],25⟩,by as_aux_lemma=>kernel_rfl,?_⟩
   refine sq (wg [4] [] ?_)
   refine wp_ret ?_
   refine ⟨⟨[(5,vI s7.1),(6,.ptr 0 0 0),(20,.ptr 0 0 0),(21,.ptr 0 0 0),(22,.ptr 0 0 1),(23,.int .u64 s7.2.1),(24,.ptr 0 0 0),(25,.fn (.func 60) [.ptr 0 0 0] []),(26,vI x22.1)],(o24_15 s7),59⟩,by as_aux_lemma=>kernel_rfl,?_⟩
   refine sz 1 8 (reg_end rfl (wp_seq (wg [5,6,7] [0,1] (reg_in ?_))))
   refine sgz 3 3 (S:=⟨[(5,vI s7.1),(6,.ptr 0 0 0),(7,vI x22.1),(27,vI s7.1),(28,.ptr 0 0 0),(29,vI x22.1)],(o24_15 s7),59⟩) ?_
   refine callR (as0:=[.ptr 0 0 0,vI x22.1]) (ids:=[0,1]) kr bodyB_60 (msnap_cons (snap_ptr rfl (msnap_cons (snap_agg (msnap_cons (snap_full (w:=1) (bx:=false) (ro:=false) (enc:=(AV.int .u64)) (l:=s7.2.2) (fl:=true) kr) (msnap_cons rfl msnap_nil (by rfl)) (by rfl))) msnap_nil (by rfl)) (by rfl) (by rfl)) (msnap_cons rfl msnap_nil (by rfl)) (by rfl)) (fun x23 q24=>g_order_graph_degree_ok (Torder_graph.mk (Torder_neighbours.mk s7.2.2) s7.2.1) x22.1 x23 q24) gF h (fun x23 q24 h=>?_)
   refine sz 2 6 (reg_end rfl (wp_seq (wp_seq (wg [5,6,7] [0,1] (reg_in (sz 6 6 ?_))))))
   refine bind_elim h (fun a25 q26 h=>?_)
   refine idxR' (enc:=(AV.int .u64)) (l:=s7.2.2) (n:=x22.1) (w:=1) (ob:=1) (ro:=false) (nr:=true) (fl:=true) (a:=a25) kr kr gE q26 ?_
   refine loadR (enc:=(AV.int .u64)) (l:=s7.2.2) (n:=x22.1) (w:=1) (ob:=1) (c:=0) (bx:=false) (ro:=false) (nr:=true) (fl:=true) (a:=a25) kr kr q26 gE ?_
   refine sz 1 9 (reg_end rfl ?_)
   refine wbz h (fun q28 h=>?_) (fun q28 h=>?_)
   ·refine wgc [5,6,7] [0,1] ⟨[(5,vI (if x23 > s7.1 then x23 else s7.1)),(6,.ptr 0 0 0),(7,vI x22.1)],(o24_15 s7),59⟩ ?_
    refine reg_in (sz 8 8 ?_)
    refine idxR' (enc:=(AV.int .u64)) (l:=s7.2.2) (n:=x22.1) (w:=1) (ob:=1) (ro:=false) (nr:=true) (fl:=true) (a:=a25) kr kr gE q26 ?_
    refine loadR (enc:=(AV.int .u64)) (l:=s7.2.2) (n:=x22.1) (w:=1) (ob:=1) (c:=0) (bx:=false) (ro:=false) (nr:=true) (fl:=true) (a:=a25) kr kr q26 gE ?_
    refine sz 2 12 ?_
    refine inlR (f:=61) (fn:=Tryd.f61) (as0:=[.int .u64 a25,.fn (.func 60) [.ptr 0 0 0] []]) kr Tryd.func61 rfl (by decide +kernel) rfl ?_
    refine wp_eqB (base':=2) (st':=⟨[(0,.int .u64 a25),(1,.fn (.func 60) [.ptr 0 0 0] [])],(o24_15 s7),25⟩) kr kr ?_
    refine wp_seq (reg_in ?_)
    refine sgL false [] [] false gE ?_
    refine sz 1 2 (reg_end rfl (sq (wp_seq (wp_seq (reg_in (sz 1 1 ?_))))))
    refine inlR (f:=68) (fn:=Tryd.f68) (as0:=[.int .u64 a25]) kr Tryd.func68 rfl (by decide +kernel) rfl ?_
    refine wp_eqB (base':=5) (st':=⟨[(0,.int .u64 a25)],[(o24_8 s7),oR true 1 (AV.int .u64) s7.2.2,o24_9,o24_14,oX true true 1 (vI 0)],4⟩) kr kr ?_
    refine sq (sq (wg [2] [5] ?_))
    refine wp_ret ?_
    refine ⟨⟨[(0,.int .u64 a25),(1,.fn (.func 60) [.ptr 0 0 0] []),(3,.ptr 2 0 0),(4,vI 0),(5,.ptr 3 0 0),(6,.ptr 4 0 0),(9,.int .u64 a25),(10,.fn (.func 85) [] [.ptr 5 0 0])],[(o24_8 s7),oR true 1 (AV.int .u64) s7.2.2,o24_9,o24_14,oX true true 1 (vI 0),oX true true 1 (.int .u64 a25)],25⟩,by as_aux_lemma=>kernel_rfl,?_⟩
    refine reg_end rfl (wp_block ?_)
    refine wgc [3,5,6,10] [2,3,4,5] ⟨[(3,.ptr 2 0 0),(5,.ptr 3 0 0),(6,.ptr 4 0 0),(10,.fn (.func 85) [] [.ptr 5 0 0])],[(o24_8 s7),oR true 1 (AV.int .u64) s7.2.2,o24_9,o24_14,oX true true 1 (vI 0),oX true true 1 (.int .u64 a25)],25⟩ ?_
    refine wp_range (f:=85) (fn:=Tryd.f85) (first:=[]) (caps:=[.ptr 5 0 0]) rfl Tryd.func85 rfl (by decide +kernel) rfl rfl ?_
    refine wp_eqB (base':=7) (st':=⟨[(0,.yld 6),(1,.ptr 5 0 0)],[(o24_8 s7),oR true 1 (AV.int .u64) s7.2.2,o24_9,o24_14,oX true true 1 (vI 0),oX true true 1 (.int .u64 a25),.loop 25 [(3,.ptr 2 0 0),(5,.ptr 3 0 0),(6,.ptr 4 0 0),(10,.fn (.func 85) [] [.ptr 5 0 0])] [11] (cA Tryd.f61 [true,true,false,true,true]) (cB Tryd.f61 [true,true,false,true,true]) .ready none],16⟩) kr kr ?_
    refine sq (wp_block ?_)
    refine wwh h (fun s29=>⟨[(0,.yld 6),(3,.int .u64 s29.1)],[(o24_8 s7),oR true 1 (AV.int .u64) s7.2.2,o24_9,oX true true 1 (vI s29.2.1),oX true true 1 (vI s29.2.2),oX true true 1 (.int .u64 a25),.loop 25 [(3,.ptr 2 0 0),(5,.ptr 3 0 0),(6,.ptr 4 0 0),(10,.fn (.func 85) [] [.ptr 5 0 0])] [11] (cA Tryd.f61 [true,true,false,true,true]) (cB Tryd.f61 [true,true,false,true,true]) .ready none],16⟩) (fun v out=>out=.go (.exit 0) ⟨[],[(o24_8 s7),oR true 1 (AV.int .u64) s7.2.2,o24_9,oX true true 1 (vI v.1),oX true true 1 (vI v.2),oX true true 1 (.int .u64 a25),.loop 25 [(3,.ptr 2 0 0),(5,.ptr 3 0 0),(6,.ptr 4 0 0),(10,.fn (.func 85) [] [.ptr 5 0 0])] [11] (cA Tryd.f61 [true,true,false,true,true]) (cB Tryd.f61 [true,true,false,true,true]) .ready none],16⟩) (wk_gc (live:=[0,3]) (keep:=[]) kr) ?_ ?_
    ·intro s29 o h
     unfold g_order_Low_b1 at h
     refine wp_seq (sq ?_)
     refine wb [6] h (fun q31 h=>?_) (fun q31 h=>?_)
     ·refine wcT (wp_skip (wp_seq (wp_block (wp_seq (reg_in (sz 2 2 ?_))))))
      refine callW bodyB_86 (g_math_bits_TrailingZeros_ok s29.1) h (fun x32 _ h=>?_)
      refine yldR (l:=6) (nt:=25) (us:=[vI x32]) (sl:=[(3,.ptr 2 0 0),(5,.ptr 3 0 0),(6,.ptr 4 0 0),(10,.fn (.func 85) [] [.ptr 5 0 0])]) (ps:=[11]) (assign:=cA Tryd.f61 [true,true,false,true,true]) (body:=cB Tryd.f61 [true,true,false,true,true]) (pe:=none) kr kr rfl ?_
      refine wp_eqB (base':=7) (st':=⟨[(3,.ptr 2 0 0),(5,.ptr 3 0 0),(6,.ptr 4 0 0),(10,.fn (.func 85) [] [.ptr 5 0 0]),(11,vI x32)],[(o24_8 s7),oR true 1 (AV.int .u64) s7.2.2,o24_9,oX true true 1 (vI s29.2.1),oX true true 1 (vI s29.2.2),oX true true 1 (.int .u64 a25),.loop 25 [(3,.ptr 2 0 0),(5,.ptr 3 0 0),(6,.ptr 4 0 0),(10,.fn (.func 85) [] [.ptr 5 0 0])] [11] (cA Tryd.f61 [true,true,false,true,true]) (cB Tryd.f61 [true,true,false,true,true]) .ready none],25⟩) kr kr ?_
      refine rn ?_
      refine ⟨⟨[(3,.ptr 2 0 0),(5,.ptr 3 0 0),(6,.ptr 4 0 0),(10,.fn (.func 85) [] [.ptr 5 0 0]),(11,vI x32),(7,vI x32)],[(o24_8 s7),oR true 1 (AV.int .u64) s7.2.2,o24_9,oX true true 1 (vI s29.2.1),oX true true 1 (vI s29.2.2),oX true true 1 (.int .u64 a25),.loop 25 [(3,.ptr 2 0 0),(5,.ptr 3 0 0),(6,.ptr 4 0 0),(10,.fn (.func 85) [] [.ptr 5 0 0])] [11] (cA Tryd.f61 [true,true,false,true,true]) (cB Tryd.f61 [true,true,false,true,true]) .busy none],25⟩,by as_aux_lemma=>kernel_rfl,?_⟩
      refine wp_block (wp_seq (reg_in ?_))
      refine sgz 2 2 (S:=⟨[(3,.ptr 2 0 0),(5,.ptr 3 0 0),(6,.ptr 4 0 0),(10,.fn (.func 85) [] [.ptr 5 0 0]),(11,vI x32),(7,vI x32),(12,.fn (.func 60) [.ptr 0 0 0] []),(13,vI x32)],[(o24_8 s7),oR true 1 (AV.int .u64) s7.2.2,o24_9,oX true true 1 (vI s29.2.1),oX true true 1 (vI s29.2.2),oX true true 1 (.int .u64 a25),.loop 25 [(3,.ptr 2 0 0),(5,.ptr 3 0 0),(6,.ptr 4 0 0),(10,.fn (.func 85) [] [.ptr 5 0 0])] [11] (cA Tryd.f61 [true,true,false,true,true]) (cB Tryd.f61 [true,true,false,true,true]) .busy none],25⟩) ?_
      refine callR (as0:=[.ptr 0 0 0,vI x32]) (ids:=[0,1]) kr bodyB_60 (msnap_cons (snap_ptr rfl (msnap_cons (snap_agg (msnap_cons (snap_full (w:=1) (bx:=false) (ro:=false) (enc:=(AV.int .u64)) (l:=s7.2.2) (fl:=true) kr) (msnap_cons rfl msnap_nil (by rfl)) (by rfl))) msnap_nil (by rfl)) (by rfl) (by rfl)) (msnap_cons rfl msnap_nil (by rfl)) (by rfl)) (fun x34 q35=>g_order_graph_degree_ok (Torder_graph.mk (Torder_neighbours.mk s7.2.2) s7.2.1) x32 x34 q35) gF h (fun x34 q35 h=>?_)
      refine sz 1 4 (reg_end rfl (wp_seq (wg [5,6,7,8] [] (reg_in (sz 3 3 ?_)))))
      refine rb [16,17] h (fun q37 h=>?_) (fun q37 h=>?_)
      ·refine sz 4 7 (reg_end rfl (wcT (wg [5,6,7,8] [] (rn ?_))))
       refine ⟨⟨[(0,.yld 6),(3,.int .u64 s29.1),(5,.int .u64 s29.1),(6,vB true),(11,.yld 6),(12,.int .u64 s29.1),(13,vI x32),(14,vB true)],[(o24_8 s7),oR true 1 (AV.int .u64) s7.2.2,o24_9,oX true true 1 (vI x32),oX true true 1 (vI x34),oX true true 1 (.int .u64 a25),.loop 25 [(3,.ptr 2 0 0),(5,.ptr 3 0 0),(6,.ptr 4 0 0),(10,.fn (.func 85) [] [.ptr 5 0 0])] [11] (cA Tryd.f61 [true,true,false,true,true]) (cB Tryd.f61 [true,true,false,true,true]) .ready none],16⟩,by as_aux_lemma=>kernel_rfl,?_⟩
       refine sz 1 5 (reg_end rfl (wcF (wp_skip ?_)))
       refine wgc [0,3] [] ⟨[(0,.yld 6),(3,.int .u64 s29.1)],[(o24_8 s7),oR true 1 (AV.int .u64) s7.2.2,o24_9,oX true true 1 (vI x32),oX true true 1 (vI x34),oX true true 1 (.int .u64 a25),.loop 25 [(3,.ptr 2 0 0),(5,.ptr 3 0 0),(6,.ptr 4 0 0),(10,.fn (.func 85) [] [.ptr 5 0 0])] [11] (cA Tryd.f61 [true,true,false,true,true]) (cB Tryd.f61 [true,true,false,true,true]) .ready none],16⟩ ?_
       refine rn ?_
       cases h
       exact ⟨_,rfl,(wk_gc (live:=[0,3]) (keep:=[]) kr)⟩
      refine sz 4 7 (reg_end rfl ?_)
      refine wb [20,21] h (fun q39 h=>?_) (fun q39 h=>?_)
      ·refine wcT (wg [5,6,7,8] [] (rn ?_))
       refine ⟨⟨[(0,.yld 6),(3,.int .u64 s29.1),(5,.int .u64 s29.1),(6,vB true),(11,.yld 6),(12,.int .u64 s29.1),(13,vI x32),(14,vB true)],[(o24_8 s7),oR true 1 (AV.int .u64) s7.2.2,o24_9,oX true true 1 (vI x32),oX true true 1 (vI x34),oX true true 1 (.int .u64 a25),.loop 25 [(3,.ptr 2 0 0),(5,.ptr 3 0 0),(6,.ptr 4 0 0),(10,.fn (.func 85) [] [.ptr 5 0 0])] [11] (cA Tryd.f61 [true,true,false,true,true]) (cB Tryd.f61 [true,true,false,true,true]) .ready none],16⟩,by as_aux_lemma=>kernel_rfl,?_⟩
       refine sz 1 5 (reg_end rfl (wcF (wp_skip ?_)))
       refine wgc [0,3] [] ⟨[(0,.yld 6),(3,.int .u64 s29.1)],[(o24_8 s7),oR true 1 (AV.int .u64) s7.2.2,o24_9,oX true true 1 (vI x32),oX true true 1 (vI x34),oX true true 1 (.int .u64 a25),.loop 25 [(3,.ptr 2 0 0),(5,.ptr 3 0 0),(6,.ptr 4 0 0),(10,.fn (.func 85) [] [.ptr 5 0 0])] [11] (cA Tryd.f61 [true,true,false,true,true]) (cB Tryd.f61 [true,true,false,true,true]) .ready none],16⟩ ?_
       refine rn ?_
       cases h
       exact ⟨_,rfl,(wk_gc (live:=[0,3]) (keep:=[]) kr)⟩
      refine wcF (wp_skip ?_)
      refine ⟨⟨[(0,.yld 6),(3,.int .u64 s29.1),(5,.int .u64 s29.1),(6,vB true),(11,.yld 6),(12,.int .u64 s29.1),(13,vI x32),(14,vB true)],[(o24_8 s7),oR true 1 (AV.int .u64) s7.2.2,o24_9,oX true true 1 (vI s29.2.1),oX true true 1 (vI s29.2.2),oX true true 1 (.int .u64 a25),.loop 25 [(3,.ptr 2 0 0),(5,.ptr 3 0 0),(6,.ptr 4 0 0),(10,.fn (.func 85) [] [.ptr 5 0 0])] [11] (cA Tryd.f61 [true,true,false,true,true]) (cB Tryd.f61 [true,true,false,true,true]) .ready none],16⟩,by as_aux_lemma=>kernel_rfl,?_⟩
      refine sz 1 5 (reg_end rfl (wcF (wp_skip ?_)))
      refine wgc [0,3] [] ⟨[(0,.yld 6),(3,.int .u64 s29.1)],[(o24_8 s7),oR true 1 (AV.int .u64) s7.2.2,o24_9,oX true true 1 (vI s29.2.1),oX true true 1 (vI s29.2.2),oX true true 1 (.int .u64 a25),.loop 25 [(3,.ptr 2 0 0),(5,.ptr 3 0 0),(6,.ptr 4 0 0),(10,.fn (.func 85) [] [.ptr 5 0 0])] [11] (cA Tryd.f61 [true,true,false,true,true]) (cB Tryd.f61 [true,true,false,true,true]) .ready none],16⟩ ?_
      refine rn ?_
      cases h
      exact ⟨_,rfl,(wk_gc (live:=[0,3]) (keep:=[]) kr)⟩
     refine wcF (wg [] [] ?_)
     refine wp_exit ?_
     cases h
     exact ⟨kr,rfl⟩
    intro x41 h out hx
    subst hx
    refine ⟨.go .normal ⟨[(3,.ptr 2 0 0),(5,.ptr 3 0 0),(6,.ptr 4 0 0),(10,.fn (.func 85) [] [.ptr 5 0 0])],[(o24_8 s7),oR true 1 (AV.int .u64) s7.2.2,o24_9,oX true true 1 (vI x41.1),oX true true 1 (vI x41.2),oX true true 1 (.int .u64 a25),.dead],25⟩,by as_aux_lemma=>kernel_rfl,?_⟩
    refine sq (wg [4] [] ?_)
    refine wp_ret ?_
    refine ⟨⟨(s24_102 x23 s7 x22)++[(49,.ptr 1 (zt x22.1) 0),(50,.int .u64 a25),(51,.ptr 0 0 0),(52,.fn (.func 60) [.ptr 0 0 0] []),(53,vI x41.1)],(o24_15 s7),59⟩,by as_aux_lemma=>kernel_rfl,?_⟩
    refine inlR (f:=62) (fn:=Tryd.f62) (as0:=[.ptr 0 0 0,vI x22.1,vI x41.1]) kr Tryd.func62 rfl (by decide +kernel) rfl ?_
    refine wp_eqB (base':=2) (st':=⟨[(0,.ptr 0 0 0),(1,vI x22.1),(2,vI x41.1)],(o24_15 s7),44⟩) kr kr ?_
    refine wp_seq (reg_in ?_)
    refine sgL false [] [] false gE ?_
    refine sz 1 2 (reg_end rfl (wp_seq (rga hfol (sy 6 6 ?_))))
    refine idxR' (enc:=(AV.int .u64)) (l:=s7.2.2) (n:=x22.1) (w:=1) (ob:=1) (ro:=false) (nr:=true) (fl:=true) (a:=a25) kr kr gE q26 ?_
    refine loadR (enc:=(AV.int .u64)) (l:=s7.2.2) (n:=x22.1) (w:=1) (ob:=1) (c:=0) (bx:=false) (ro:=false) (nr:=true) (fl:=true) (a:=a25) kr kr q26 gE ?_
    refine sy 1 9 ?_
    refine shlR (k:=.u64) (k':=.i64) (a:=1) (b:=x41.1) kr gE h (fun h=>?_)
    refine sy 1 11 ?_
    refine inlN (f:=68) (fn:=Tryd.f68) (as0:=[.int .u64 (zv (BitVec.ofInt (IntKind.bits .u64) a25 &&& ~~~ BitVec.ofInt (IntKind.bits .u64) (zv (1*2^min (zt x41.1) (IntKind.bits .u64)))).toNat)]) kr kr Tryd.func68 rfl (by decide +kernel) rfl ?_
    refine wp_eqB (base':=4) (st':=⟨[(0,.int .u64 (zv (BitVec.ofInt (IntKind.bits .u64) a25 &&& ~~~ BitVec.ofInt (IntKind.bits .u64) (zv (1*2^min (zt x41.1) (IntKind.bits .u64)))).toNat))],[.dead,.dead,.dead,.dead],4⟩) kr kr ?_
    refine sq (sq (wg [2] [4] ?_))
    refine wp_ret ?_
    refine ⟨⟨[(0,.ptr 0 0 0),(1,vI x22.1),(2,vI x41.1),(3,.ptr 2 0 0),(5,.ptr 3 0 0),(7,.ptr 0 0 0),(8,.ptr 0 0 0),(9,.ptr 0 0 0),(10,.ptr 0 0 0),(11,.ref 1 0 s7.2.2.length),(12,vI x22.1)]++[(13,.ptr 1 (zt x22.1) 0),(14,.int .u64 a25),(15,vI x41.1),(16,.int .u64 (zv (1*2^min (zt x41.1) (IntKind.bits .u64)))),(17,.int .u64 (zv (BitVec.ofInt (IntKind.bits .u64) a25 &&& ~~~ BitVec.ofInt (IntKind.bits .u64) (zv (1*2^min (zt x41.1) (IntKind.bits .u64)))).toNat))]++[(18,.fn (.func 85) [] [.ptr 4 0 0])],[(o24_8 s7),oR true 1 (AV.int .u64) s7.2.2,o24_10,oX true true 1 (vI x41.1),oX true true 1 (.int .u64 (zv (BitVec.ofInt (IntKind.bits .u64) a25 &&& ~~~ BitVec.ofInt (IntKind.bits .u64) (zv (1*2^min (zt x41.1) (IntKind.bits .u64)))).toNat))],44⟩,by as_aux_lemma=>kernel_rfl,?_⟩
    refine rgd (wp_block ?_)
    refine wgc [3,5,18] [2,3,4] ⟨[(3,.ptr 2 0 0),(5,.ptr 3 0 0),(18,.fn (.func 85) [] [.ptr 4 0 0])],[(o24_8 s7),oR true 1 (AV.int .u64) s7.2.2,o24_10,oX true true 1 (vI x41.1),oX true true 1 (.int .u64 (zv (BitVec.ofInt (IntKind.bits .u64) a25 &&& ~~~ BitVec.ofInt (IntKind.bits .u64) (zv (1*2^min (zt x41.1) (IntKind.bits .u64)))).toNat))],44⟩ ?_
    refine wp_range (f:=85) (fn:=Tryd.f85) (first:=[]) (caps:=[.ptr 4 0 0]) rfl Tryd.func85 rfl (by decide +kernel) rfl rfl ?_
    refine wp_eqB (base':=6) (st':=⟨[(0,.yld 5),(1,.ptr 4 0 0)],[(o24_8 s7),oR true 1 (AV.int .u64) s7.2.2,o24_10,oX true true 1 (vI x41.1),oX true true 1 (.int .u64 (zv (BitVec.ofInt (IntKind.bits .u64) a25 &&& ~~~ BitVec.ofInt (IntKind.bits .u64) (zv (1*2^min (zt x41.1) (IntKind.bits .u64)))).toNat)),.loop 44 [(3,.ptr 2 0 0),(5,.ptr 3 0 0),(18,.fn (.func 85) [] [.ptr 4 0 0])] [19] (cA Tryd.f62 [true,true,true]) (cB Tryd.f62 [true,true,true]) .ready none],16⟩) kr kr ?_
    refine sq (wp_block ?_)
    refine wwh h (fun s42=>⟨[(0,.yld 5),(3,.int .u64 s42.1)],[oX false false 2 (.agg [.ref 1 0 s42.2.length,.int .u64 s7.2.1]),oR true 1 (AV.int .u64) s42.2,o24_10,oX true true 1 (vI x41.1),oX true true 1 (.int .u64 (zv (BitVec.ofInt (IntKind.bits .u64) a25 &&& ~~~ BitVec.ofInt (IntKind.bits .u64) (zv (1*2^min (zt x41.1) (IntKind.bits .u64)))).toNat)),.loop 44 [(3,.ptr 2 0 0),(5,.ptr 3 0 0),(18,.fn (.func 85) [] [.ptr 4 0 0])] [19] (cA Tryd.f62 [true,true,true]) (cB Tryd.f62 [true,true,true]) .ready none],16⟩) (fun v out=>out=.go (.exit 0) ⟨[],[oX false false 2 (.agg [.ref 1 0 v.length,.int .u64 s7.2.1]),oR true 1 (AV.int .u64) v,o24_10,oX true true 1 (vI x41.1),oX true true 1 (.int .u64 (zv (BitVec.ofInt (IntKind.bits .u64) a25 &&& ~~~ BitVec.ofInt (IntKind.bits .u64) (zv (1*2^min (zt x41.1) (IntKind.bits .u64)))).toNat)),.loop 44 [(3,.ptr 2 0 0),(5,.ptr 3 0 0),(18,.fn (.func 85) [] [.ptr 4 0 0])] [19] (cA Tryd.f62 [true,true,true]) (cB Tryd.f62 [true,true,true]) .ready none],16⟩) (wk_gc (live:=[0,3]) (keep:=[]) kr) ?_ ?_
    ·intro s42 o h
     unfold g_order_Low_b2 at h
     refine wp_seq (sq ?_)
     refine wb [6] h (fun q44 h=>?_) (fun q44 h=>?_)
     ·refine wcT (wp_skip (wp_seq (wp_block (wp_seq (reg_in (sz 2 2 ?_))))))
      refine callW bodyB_86 (g_math_bits_TrailingZeros_ok s42.1) h (fun x45 _ h=>?_)
      refine yldR (l:=5) (nt:=44) (us:=[vI x45]) (sl:=[(3,.ptr 2 0 0),(5,.ptr 3 0 0),(18,.fn (.func 85) [] [.ptr 4 0 0])]) (ps:=[19]) (assign:=cA Tryd.f62 [true,true,true]) (body:=cB Tryd.f62 [true,true,true]) (pe:=none) kr kr rfl ?_
      refine wp_eqB (base':=6) (st':=⟨[(3,.ptr 2 0 0),(5,.ptr 3 0 0),(18,.fn (.func 85) [] [.ptr 4 0 0]),(19,vI x45)],[oX false false 2 (.agg [.ref 1 0 s42.2.length,.int .u64 s7.2.1]),oR true 1 (AV.int .u64) s42.2,o24_10,oX true true 1 (vI x41.1),oX true true 1 (.int .u64 (zv (BitVec.ofInt (IntKind.bits .u64) a25 &&& ~~~ BitVec.ofInt (IntKind.bits .u64) (zv (1*2^min (zt x41.1) (IntKind.bits .u64)))).toNat)),.loop 44 [(3,.ptr 2 0 0),(5,.ptr 3 0 0),(18,.fn (.func 85) [] [.ptr 4 0 0])] [19] (cA Tryd.f62 [true,true,true]) (cB Tryd.f62 [true,true,true]) .ready none],44⟩) kr kr ?_
      refine rn ?_
      refine ⟨⟨[(3,.ptr 2 0 0),(5,.ptr 3 0 0),(18,.fn (.func 85) [] [.ptr 4 0 0]),(19,vI x45),(6,vI x45)],[oX false false 2 (.agg [.ref 1 0 s42.2.length,.int .u64 s7.2.1]),oR true 1 (AV.int .u64) s42.2,o24_10,oX true true 1 (vI x41.1),oX true true 1 (.int .u64 (zv (BitVec.ofInt (IntKind.bits .u64) a25 &&& ~~~ BitVec.ofInt (IntKind.bits .u64) (zv (1*2^min (zt x41.1) (IntKind.bits .u64)))).toNat)),.loop 44 [(3,.ptr 2 0 0),(5,.ptr 3 0 0),(18,.fn (.func 85) [] [.ptr 4 0 0])] [19] (cA Tryd.f62 [true,true,true]) (cB Tryd.f62 [true,true,true]) .busy none],44⟩,by as_aux_lemma=>kernel_rfl,?_⟩
      refine wp_block (wp_seq (rga hfol (sy 6 6 ?_)))
      refine bind_elim h (fun a47 q48 h=>?_)
      refine idxR' (enc:=(AV.int .u64)) (l:=s42.2) (n:=x45) (w:=1) (ob:=1) (ro:=false) (nr:=true) (fl:=true) (a:=a47) kr kr gE q48 ?_
      refine loadR (enc:=(AV.int .u64)) (l:=s42.2) (n:=x45) (w:=1) (ob:=1) (c:=0) (bx:=false) (ro:=false) (nr:=true) (fl:=true) (a:=a47) kr kr q48 gE ?_
      refine sy 1 9 ?_
      refine shlR (k:=.u64) (k':=.i64) (a:=1) (b:=x41.1) kr gE h (fun h=>?_)
      refine sy 1 11 ?_
      refine idxR' (enc:=(AV.int .u64)) (l:=s42.2) (n:=x45) (w:=1) (ob:=1) (ro:=false) (nr:=true) (fl:=true) (a:=a47) kr kr gE q48 ?_
      refine storeR (enc:=(AV.int .u64)) (l:=s42.2) (n:=x45) (ob:=1) (w:=1) (bx:=false) (nr:=true) (fl:=true) (c:=0) (a:=a47) (a':=zv (BitVec.ofInt (IntKind.bits .u64) a47 ||| BitVec.ofInt (IntKind.bits .u64) (zv (1*2^min (zt x41.1) (IntKind.bits .u64)))).toNat) (v:=.int .u64 (zv (BitVec.ofInt (IntKind.bits .u64) a47 ||| BitVec.ofInt (IntKind.bits .u64) (zv (1*2^min (zt x41.1) (IntKind.bits .u64)))).toNat)) false kr kr q48 kr rfl kr gE kr ?_
      refine rknN (n:=s42.2.length) (m:=(List.set s42.2 (zt x45) (zv (BitVec.ofInt (IntKind.bits .u64) a47 ||| BitVec.ofInt (IntKind.bits .u64) (zv (1*2^min (zt x41.1) (IntKind.bits .u64)))).toNat)).length) (S:=fun n52=>⟨[(3,.ptr 2 0 0),(5,.ptr 3 0 0),(18,.fn (.func 85) [] [.ptr 4 0 0]),(19,vI x45),(6,vI x45),(20,.ptr 0 0 0),(21,.ptr 0 0 0),(22,.ptr 0 0 0),(23,.ptr 0 0 0),(24,.ref 1 0 n52),(25,vI x45),(26,.ptr 1 (zt x45) 0),(27,.int .u64 a47),(28,vI x41.1),(29,.int .u64 (zv (1*2^min (zt x41.1) (IntKind.bits .u64)))),(30,.int .u64 (zv (BitVec.ofInt (IntKind.bits .u64) a47 ||| BitVec.ofInt (IntKind.bits .u64) (zv (1*2^min (zt x41.1) (IntKind.bits .u64)))).toNat)),(31,.ptr 1 (zt x45) 0)],[oX false false 2 (.agg [.ref 1 0 n52,.int .u64 s7.2.1]),oR true 1 (AV.int .u64) (List.set s42.2 (zt x45) (zv (BitVec.ofInt (IntKind.bits .u64) a47 ||| BitVec.ofInt (IntKind.bits .u64) (zv (1*2^min (zt x41.1) (IntKind.bits .u64)))).toNat)),o24_10,oX true true 1 (vI x41.1),oX true true 1 (.int .u64 (zv (BitVec.ofInt (IntKind.bits .u64) a25 &&& ~~~ BitVec.ofInt (IntKind.bits .u64) (zv (1*2^min (zt x41.1) (IntKind.bits .u64)))).toNat)),.loop 44 [(3,.ptr 2 0 0),(5,.ptr 3 0 0),(18,.fn (.func 85) [] [.ptr 4 0 0])] [19] (cA Tryd.f62 [true,true,true]) (cB Tryd.f62 [true,true,true]) .busy none],44⟩) (by simp only [List.length_set]) ?_
      refine rgd (wg [3,5,6] [] (rga hfol (sy 6 6 ?_)))
      refine bind_elim h (fun a49 q50 h=>?_)
      refine idxR' (enc:=(AV.int .u64)) (l:=(List.set s42.2 (zt x45) (zv (BitVec.ofInt (IntKind.bits .u64) a47 ||| BitVec.ofInt (IntKind.bits .u64) (zv (1*2^min (zt x41.1) (IntKind.bits .u64)))).toNat))) (n:=x41.1) (w:=1) (ob:=1) (ro:=false) (nr:=true) (fl:=true) (a:=a49) kr kr gE q50 ?_
      refine loadR (enc:=(AV.int .u64)) (l:=(List.set s42.2 (zt x45) (zv (BitVec.ofInt (IntKind.bits .u64) a47 ||| BitVec.ofInt (IntKind.bits .u64) (zv (1*2^min (zt x41.1) (IntKind.bits .u64)))).toNat))) (n:=x41.1) (w:=1) (ob:=1) (c:=0) (bx:=false) (ro:=false) (nr:=true) (fl:=true) (a:=a49) kr kr q50 gE ?_
      refine sy 1 9 ?_
      refine shlR (k:=.u64) (k':=.i64) (a:=1) (b:=x45) kr gE h (fun h=>?_)
      refine sy 1 11 ?_
      refine idxR' (enc:=(AV.int .u64)) (l:=(List.set s42.2 (zt x45) (zv (BitVec.ofInt (IntKind.bits .u64) a47 ||| BitVec.ofInt (IntKind.bits .u64) (zv (1*2^min (zt x41.1) (IntKind.bits .u64)))).toNat))) (n:=x41.1) (w:=1) (ob:=1) (ro:=false) (nr:=true) (fl:=true) (a:=a49) kr kr gE q50 ?_
      refine storeR (enc:=(AV.int .u64)) (l:=(List.set s42.2 (zt x45) (zv (BitVec.ofInt (IntKind.bits .u64) a47 ||| BitVec.ofInt (IntKind.bits .u64) (zv (1*2^min (zt x41.1) (IntKind.bits .u64)))).toNat))) (n:=x41.1) (ob:=1) (w:=1) (bx:=false) (nr:=true) (fl:=true) (c:=0) (a:=a49) (a':=zv (BitVec.ofInt (IntKind.bits .u64) a49 ||| BitVec.ofInt (IntKind.bits .u64) (zv (1*2^min (zt x45) (IntKind.bits .u64)))).toNat) (v:=.int .u64 (zv (BitVec.ofInt (IntKind.bits .u64) a49 ||| BitVec.ofInt (IntKind.bits .u64) (zv (1*2^min (zt x45) (IntKind.bits .u64)))).toNat)) false kr kr q50 kr rfl kr gE kr ?_
      refine rknN (n:=(List.set s42.2 (zt x45) (zv (BitVec.ofInt (IntKind.bits .u64) a47 ||| BitVec.ofInt (IntKind.bits .u64) (zv (1*2^min (zt x41.1) (IntKind.bits .u64)))).toNat)).length) (m:=(List.set (List.set s42.2 (zt x45) (zv (BitVec.ofInt (IntKind.bits .u64) a47 ||| BitVec.ofInt (IntKind.bits .u64) (zv (1*2^min (zt x41.1) (IntKind.bits .u64)))).toNat)) (zt x41.1) (zv (BitVec.ofInt (IntKind.bits .u64) a49 ||| BitVec.ofInt (IntKind.bits .u64) (zv (1*2^min (zt x45) (IntKind.bits .u64)))).toNat)).length) (S:=fun n51=>⟨[(3,.ptr 2 0 0),(5,.ptr 3 0 0),(6,vI x45),(32,.ptr 0 0 0),(33,.ptr 0 0 0),(34,.ptr 0 0 0),(35,.ptr 0 0 0),(36,.ref 1 0 n51),(37,vI x41.1),(38,.ptr 1 (zt x41.1) 0),(39,.int .u64 a49),(40,vI x45),(41,.int .u64 (zv (1*2^min (zt x45) (IntKind.bits .u64)))),(42,.int .u64 (zv (BitVec.ofInt (IntKind.bits .u64) a49 ||| BitVec.ofInt (IntKind.bits .u64) (zv (1*2^min (zt x45) (IntKind.bits .u64)))).toNat)),(43,.ptr 1 (zt x41.1) 0)],[oX false false 2 (.agg [.ref 1 0 n51,.int .u64 s7.2.1]),oR true 1 (AV.int .u64) (List.set (List.set s42.2 (zt x45) (zv (BitVec.ofInt (IntKind.bits .u64) a47 ||| BitVec.ofInt (IntKind.bits .u64) (zv (1*2^min (zt x41.1) (IntKind.bits .u64)))).toNat)) (zt x41.1) (zv (BitVec.ofInt (IntKind.bits .u64) a49 ||| BitVec.ofInt (IntKind.bits .u64) (zv (1*2^min (zt x45) (IntKind.bits .u64)))).toNat)),o24_10,oX true true 1 (vI x41.1),oX true true 1 (.int .u64 (zv (BitVec.ofInt (IntKind.bits .u64) a25 &&& ~~~ BitVec.ofInt (IntKind.bits .u64) (zv (1*2^min (zt x41.1) (IntKind.bits .u64)))).toNat)),.loop 44 [(3,.ptr 2 0 0),(5,.ptr 3 0 0),(18,.fn (.func 85) [] [.ptr 4 0 0])] [19] (cA Tryd.f62 [true,true,true]) (cB Tryd.f62 [true,true,true]) .busy none],44⟩) (by simp only [List.length_set]) ?_
      refine rgd ?_
      refine ⟨⟨[(0,.yld 5),(3,.int .u64 s42.1),(5,.int .u64 s42.1),(6,vB true),(11,.yld 5),(12,.int .u64 s42.1),(13,vI x45),(14,vB true)],[oX false false 2 (.agg [.ref 1 0 ((List.set (List.set s42.2 (zt x45) (zv (BitVec.ofInt (IntKind.bits .u64) a47 ||| BitVec.ofInt (IntKind.bits .u64) (zv (1*2^min (zt x41.1) (IntKind.bits .u64)))).toNat)) (zt x41.1) (zv (BitVec.ofInt (IntKind.bits .u64) a49 ||| BitVec.ofInt (IntKind.bits .u64) (zv (1*2^min (zt x45) (IntKind.bits .u64)))).toNat)).length),.int .u64 s7.2.1]),oR true 1 (AV.int .u64) (List.set (List.set s42.2 (zt x45) (zv (BitVec.ofInt (IntKind.bits .u64) a47 ||| BitVec.ofInt (IntKind.bits .u64) (zv (1*2^min (zt x41.1) (IntKind.bits .u64)))).toNat)) (zt x41.1) (zv (BitVec.ofInt (IntKind.bits .u64) a49 ||| BitVec.ofInt (IntKind.bits .u64) (zv (1*2^min (zt x45) (IntKind.bits .u64)))).toNat)),o24_10,oX true true 1 (vI x41.1),oX true true 1 (.int .u64 (zv (BitVec.ofInt (IntKind.bits .u64) a25 &&& ~~~ BitVec.ofInt (IntKind.bits .u64) (zv (1*2^min (zt x41.1) (IntKind.bits .u64)))).toNat)),.loop 44 [(3,.ptr 2 0 0),(5,.ptr 3 0 0),(18,.fn (.func 85) [] [.ptr 4 0 0])] [19] (cA Tryd.f62 [true,true,true]) (cB Tryd.f62 [true,true,true]) .ready none],16⟩,by as_aux_lemma=>kernel_rfl,?_⟩
      refine sz 1 5 (reg_end rfl (wcF (wp_skip (wg [0,3] [] (rn ?_)))))
      cases h
      exact ⟨_,rfl,(wk_gc (live:=[0,3]) (keep:=[]) kr)⟩
     refine wcF (wg [] [] ?_)
     refine wp_exit ?_
     cases h
     exact ⟨kr,rfl⟩
    intro x54 h out hx
    subst hx
    refine ⟨.go .normal ⟨[(3,.ptr 2 0 0),(5,.ptr 3 0 0),(18,.fn (.func 85) [] [.ptr 4 0 0])],[oX false false 2 (.agg [.ref 1 0 x54.length,.int .u64 s7.2.1]),oR true 1 (AV.int .u64) x54,o24_10,oX true true 1 (vI x41.1),oX true true 1 (.int .u64 (zv (BitVec.ofInt (IntKind.bits .u64) a25 &&& ~~~ BitVec.ofInt (IntKind.bits .u64) (zv (1*2^min (zt x41.1) (IntKind.bits .u64)))).toNat)),.dead],44⟩,by as_aux_lemma=>kernel_rfl,?_⟩
    refine ⟨⟨(s24_102 x23 s7 x22)++[(49,.ptr 1 (zt x22.1) 0),(50,.int .u64 a25),(51,.ptr 0 0 0),(52,.fn (.func 60) [.ptr 0 0 0] []),(53,vI x41.1),(54,.tup [])],[oX false false 2 (.agg [.ref 1 0 x54.length,.int .u64 s7.2.1]),oR true 1 (AV.int .u64) x54,o24_10,oX true true 1 (vI x41.1),oX true true 1 (.int .u64 (zv (BitVec.ofInt (IntKind.bits .u64) a25 &&& ~~~ BitVec.ofInt (IntKind.bits .u64) (zv (1*2^min (zt x41.1) (IntKind.bits .u64)))).toNat)),.dead],59⟩,by as_aux_lemma=>kernel_rfl,?_⟩
    refine reg_end rfl (wg [5,6,7] [0,1] (reg_in (sz 2 2 ?_)))
    refine inlR (f:=63) (fn:=Tryd.f63) (as0:=[.ptr 0 0 0,vI x22.1]) kr Tryd.func63 rfl (by decide +kernel) rfl ?_
    refine wp_eqB (base':=2) (st':=⟨[(0,.ptr 0 0 0),(1,vI x22.1)],[oX false false 2 (.agg [.ref 1 0 x54.length,.int .u64 s7.2.1]),oR true 1 (AV.int .u64) x54],39⟩) kr kr ?_
    refine wp_seq (reg_in ?_)
    refine sgL false [] [] false gE ?_
    refine sz 1 2 (reg_end rfl (wp_seq (rga hfol (sy 5 5 ?_))))
    refine shlR (k:=.u64) (k':=.i64) (a:=1) (b:=x22.1) kr gE h (fun h=>?_)
    refine sy 4 10 (rgd (wp_seq (wp_seq ?_)))
    refine wgc [2,3] [2,3] ⟨[(2,.ptr 2 0 0),(3,.ptr 3 0 0)],[oX false false 2 (.agg [.ref 1 0 x54.length,.int .u64 (zv (BitVec.ofInt (IntKind.bits .u64) s7.2.1 &&& ~~~ BitVec.ofInt (IntKind.bits .u64) (zv (1*2^min (zt x22.1) (IntKind.bits .u64)))).toNat)]),oR true 1 (AV.int .u64) x54,o24_10,(o24_12 x22)],39⟩ ?_
    refine reg_in (sz 4 4 ?_)
    refine inlR (f:=68) (fn:=Tryd.f68) (as0:=[.int .u64 (zv (BitVec.ofInt (IntKind.bits .u64) s7.2.1 &&& ~~~ BitVec.ofInt (IntKind.bits .u64) (zv (1*2^min (zt x22.1) (IntKind.bits .u64)))).toNat)]) kr Tryd.func68 rfl (by decide +kernel) rfl ?_
    refine wp_eqB (base':=4) (st':=⟨[(0,.int .u64 (zv (BitVec.ofInt (IntKind.bits .u64) s7.2.1 &&& ~~~ BitVec.ofInt (IntKind.bits .u64) (zv (1*2^min (zt x22.1) (IntKind.bits .u64)))).toNat))],[oX false false 2 (.agg [.ref 1 0 x54.length,.int .u64 (zv (BitVec.ofInt (IntKind.bits .u64) s7.2.1 &&& ~~~ BitVec.ofInt (IntKind.bits .u64) (zv (1*2^min (zt x22.1) (IntKind.bits .u64)))).toNat)]),oR true 1 (AV.int .u64) x54,o24_10,(o24_12 x22)],4⟩) kr kr ?_
    refine sq (sq (wg [2] [4] ?_))
    refine wp_ret ?_
    refine ⟨⟨[(2,.ptr 2 0 0),(3,.ptr 3 0 0),(14,.ptr 0 0 0),(15,.ptr 0 0 0),(16,.ptr 0 0 1),(17,.int .u64 (zv (BitVec.ofInt (IntKind.bits .u64) s7.2.1 &&& ~~~ BitVec.ofInt (IntKind.bits .u64) (zv (1*2^min (zt x22.1) (IntKind.bits .u64)))).toNat))]++[(18,.fn (.func 85) [] [.ptr 4 0 0])],[oX false false 2 (.agg [.ref 1 0 x54.length,.int .u64 (zv (BitVec.ofInt (IntKind.bits .u64) s7.2.1 &&& ~~~ BitVec.ofInt (IntKind.bits .u64) (zv (1*2^min (zt x22.1) (IntKind.bits .u64)))).toNat)]),oR true 1 (AV.int .u64) x54,o24_10,(o24_12 x22),(o24_7 s7 x22)],39⟩,by as_aux_lemma=>kernel_rfl,?_⟩
    refine reg_end rfl (wp_block ?_)
    refine wgc [2,3,18] [2,3,4] ⟨[(2,.ptr 2 0 0),(3,.ptr 3 0 0),(18,.fn (.func 85) [] [.ptr 4 0 0])],[oX false false 2 (.agg [.ref 1 0 x54.length,.int .u64 (zv (BitVec.ofInt (IntKind.bits .u64) s7.2.1 &&& ~~~ BitVec.ofInt (IntKind.bits .u64) (zv (1*2^min (zt x22.1) (IntKind.bits .u64)))).toNat)]),oR true 1 (AV.int .u64) x54,o24_10,(o24_12 x22),(o24_7 s7 x22)],39⟩ ?_
    refine wp_range (f:=85) (fn:=Tryd.f85) (first:=[]) (caps:=[.ptr 4 0 0]) rfl Tryd.func85 rfl (by decide +kernel) rfl rfl ?_
    refine wp_eqB (base':=6) (st':=⟨[(0,.yld 5),(1,.ptr 4 0 0)],[oX false false 2 (.agg [.ref 1 0 x54.length,.int .u64 (zv (BitVec.ofInt (IntKind.bits .u64) s7.2.1 &&& ~~~ BitVec.ofInt (IntKind.bits .u64) (zv (1*2^min (zt x22.1) (IntKind.bits .u64)))).toNat)]),oR true 1 (AV.int .u64) x54,o24_10,(o24_12 x22),(o24_7 s7 x22),.loop 39 [(2,.ptr 2 0 0),(3,.ptr 3 0 0),(18,.fn (.func 85) [] [.ptr 4 0 0])] [19] (cA Tryd.f63 [true,true,false,true,true]) (cB Tryd.f63 [true,true,false,true,true]) .ready none],16⟩) kr kr ?_
    refine sq (wp_block ?_)
    refine wwh h (fun s55=>⟨[(0,.yld 5),(3,.int .u64 s55.1)],[oX false false 2 (.agg [.ref 1 0 s55.2.length,.int .u64 (zv (BitVec.ofInt (IntKind.bits .u64) s7.2.1 &&& ~~~ BitVec.ofInt (IntKind.bits .u64) (zv (1*2^min (zt x22.1) (IntKind.bits .u64)))).toNat)]),oR true 1 (AV.int .u64) s55.2,o24_10,(o24_12 x22),(o24_7 s7 x22),.loop 39 [(2,.ptr 2 0 0),(3,.ptr 3 0 0),(18,.fn (.func 85) [] [.ptr 4 0 0])] [19] (cA Tryd.f63 [true,true,false,true,true]) (cB Tryd.f63 [true,true,false,true,true]) .ready none],16⟩) (fun v out=>out=.go (.exit 0) ⟨[],[oX false false 2 (.agg [.ref 1 0 v.length,.int .u64 (zv (BitVec.ofInt (IntKind.bits .u64) s7.2.1 &&& ~~~ BitVec.ofInt (IntKind.bits .u64) (zv (1*2^min (zt x22.1) (IntKind.bits .u64)))).toNat)]),oR true 1 (AV.int .u64) v,o24_10,(o24_12 x22),(o24_7 s7 x22),.loop 39 [(2,.ptr 2 0 0),(3,.ptr 3 0 0),(18,.fn (.func 85) [] [.ptr 4 0 0])] [19] (cA Tryd.f63 [true,true,false,true,true]) (cB Tryd.f63 [true,true,false,true,true]) .ready none],16⟩) (wk_gc (live:=[0,3]) (keep:=[]) kr) ?_ ?_
    ·intro s55 o h
     unfold g_order_Low_b3 at h
     refine wp_seq (sq ?_)
     refine wb [6] h (fun q57 h=>?_) (fun q57 h=>?_)
     ·refine wcT (wp_skip (wp_seq (wp_block (wp_seq (reg_in (sz 2 2 ?_))))))
      refine callW bodyB_86 (g_math_bits_TrailingZeros_ok s55.1) h (fun x58 _ h=>?_)
      refine yldR (l:=5) (nt:=39) (us:=[vI x58]) (sl:=[(2,.ptr 2 0 0),(3,.ptr 3 0 0),(18,.fn (.func 85) [] [.ptr 4 0 0])]) (ps:=[19]) (assign:=cA Tryd.f63 [true,true,false,true,true]) (body:=cB Tryd.f63 [true,true,false,true,true]) (pe:=none) kr kr rfl ?_
      refine wp_eqB (base':=6) (st':=⟨[(2,.ptr 2 0 0),(3,.ptr 3 0 0),(18,.fn (.func 85) [] [.ptr 4 0 0]),(19,vI x58)],[oX false false 2 (.agg [.ref 1 0 s55.2.length,.int .u64 (zv (BitVec.ofInt (IntKind.bits .u64) s7.2.1 &&& ~~~ BitVec.ofInt (IntKind.bits .u64) (zv (1*2^min (zt x22.1) (IntKind.bits .u64)))).toNat)]),oR true 1 (AV.int .u64) s55.2,o24_10,(o24_12 x22),(o24_7 s7 x22),.loop 39 [(2,.ptr 2 0 0),(3,.ptr 3 0 0),(18,.fn (.func 85) [] [.ptr 4 0 0])] [19] (cA Tryd.f63 [true,true,false,true,true]) (cB Tryd.f63 [true,true,false,true,true]) .ready none],39⟩) kr kr ?_
      refine rn ?_
      refine ⟨⟨[(2,.ptr 2 0 0),(3,.ptr 3 0 0),(18,.fn (.func 85) [] [.ptr 4 0 0]),(19,vI x58),(4,vI x58)],[oX false false 2 (.agg [.ref 1 0 s55.2.length,.int .u64 (zv (BitVec.ofInt (IntKind.bits .u64) s7.2.1 &&& ~~~ BitVec.ofInt (IntKind.bits .u64) (zv (1*2^min (zt x22.1) (IntKind.bits .u64)))).toNat)]),oR true 1 (AV.int .u64) s55.2,o24_10,(o24_12 x22),(o24_7 s7 x22),.loop 39 [(2,.ptr 2 0 0),(3,.ptr 3 0 0),(18,.fn (.func 85) [] [.ptr 4 0 0])] [19] (cA Tryd.f63 [true,true,false,true,true]) (cB Tryd.f63 [true,true,false,true,true]) .busy none],39⟩,by as_aux_lemma=>kernel_rfl,?_⟩
      refine wp_block (rga hfol (sy 6 6 ?_))
      refine bind_elim h (fun a60 q61 h=>?_)
      refine idxR' (enc:=(AV.int .u64)) (l:=s55.2) (n:=x58) (w:=1) (ob:=1) (ro:=false) (nr:=true) (fl:=true) (a:=a60) kr kr gE q61 ?_
      refine loadR (enc:=(AV.int .u64)) (l:=s55.2) (n:=x58) (w:=1) (ob:=1) (c:=0) (bx:=false) (ro:=false) (nr:=true) (fl:=true) (a:=a60) kr kr q61 gE ?_
      refine sy 1 9 ?_
      refine shlR (k:=.u64) (k':=.i64) (a:=1) (b:=x22.1) kr gE h (fun h=>?_)
      refine sy 1 11 ?_
      refine idxR' (enc:=(AV.int .u64)) (l:=s55.2) (n:=x58) (w:=1) (ob:=1) (ro:=false) (nr:=true) (fl:=true) (a:=a60) kr kr gE q61 ?_
      refine storeR (enc:=(AV.int .u64)) (l:=s55.2) (n:=x58) (ob:=1) (w:=1) (bx:=false) (nr:=true) (fl:=true) (c:=0) (a:=a60) (a':=zv (BitVec.ofInt (IntKind.bits .u64) a60 &&& ~~~ BitVec.ofInt (IntKind.bits .u64) (zv (1*2^min (zt x22.1) (IntKind.bits .u64)))).toNat) (v:=.int .u64 (zv (BitVec.ofInt (IntKind.bits .u64) a60 &&& ~~~ BitVec.ofInt (IntKind.bits .u64) (zv (1*2^min (zt x22.1) (IntKind.bits .u64)))).toNat)) false kr kr q61 kr rfl kr gE kr ?_
      refine rknN (n:=s55.2.length) (m:=(List.set s55.2 (zt x58) (zv (BitVec.ofInt (IntKind.bits .u64) a60 &&& ~~~ BitVec.ofInt (IntKind.bits .u64) (zv (1*2^min (zt x22.1) (IntKind.bits .u64)))).toNat)).length) (S:=fun n62=>⟨[(2,.ptr 2 0 0),(3,.ptr 3 0 0),(18,.fn (.func 85) [] [.ptr 4 0 0]),(19,vI x58),(4,vI x58),(20,.ptr 0 0 0),(21,.ptr 0 0 0),(22,.ptr 0 0 0),(23,.ptr 0 0 0),(24,.ref 1 0 n62),(25,vI x58),(26,.ptr 1 (zt x58) 0),(27,.int .u64 a60),(28,vI x22.1),(29,.int .u64 (zv (1*2^min (zt x22.1) (IntKind.bits .u64)))),(30,.int .u64 (zv (BitVec.ofInt (IntKind.bits .u64) a60 &&& ~~~ BitVec.ofInt (IntKind.bits .u64) (zv (1*2^min (zt x22.1) (IntKind.bits .u64)))).toNat)),(31,.ptr 1 (zt x58) 0)],[oX false false 2 (.agg [.ref 1 0 n62,.int .u64 (zv (BitVec.ofInt (IntKind.bits .u64) s7.2.1 &&& ~~~ BitVec.ofInt (IntKind.bits .u64) (zv (1*2^min (zt x22.1) (IntKind.bits .u64)))).toNat)]),oR true 1 (AV.int .u64) (List.set s55.2 (zt x58) (zv (BitVec.ofInt (IntKind.bits .u64) a60 &&& ~~~ BitVec.ofInt (IntKind.bits .u64) (zv (1*2^min (zt x22.1) (IntKind.bits .u64)))).toNat)),o24_10,(o24_12 x22),(o24_7 s7 x22),.loop 39 [(2,.ptr 2 0 0),(3,.ptr 3 0 0),(18,.fn (.func 85) [] [.ptr 4 0 0])] [19] (cA Tryd.f63 [true,true,false,true,true]) (cB Tryd.f63 [true,true,false,true,true]) .busy none],39⟩) (by simp only [List.length_set]) ?_
      refine rgd ?_
      refine ⟨⟨[(0,.yld 5),(3,.int .u64 s55.1),(5,.int .u64 s55.1),(6,vB true),(11,.yld 5),(12,.int .u64 s55.1),(13,vI x58),(14,vB true)],[oX false false 2 (.agg [.ref 1 0 ((List.set s55.2 (zt x58) (zv (BitVec.ofInt (IntKind.bits .u64) a60 &&& ~~~ BitVec.ofInt (IntKind.bits .u64) (zv (1*2^min (zt x22.1) (IntKind.bits .u64)))).toNat)).length),.int .u64 (zv (BitVec.ofInt (IntKind.bits .u64) s7.2.1 &&& ~~~ BitVec.ofInt (IntKind.bits .u64) (zv (1*2^min (zt x22.1) (IntKind.bits .u64)))).toNat)]),oR true 1 (AV.int .u64) (List.set s55.2 (zt x58) (zv (BitVec.ofInt (IntKind.bits .u64) a60 &&& ~~~ BitVec.ofInt (IntKind.bits .u64) (zv (1*2^min (zt x22.1) (IntKind.bits .u64)))).toNat)),o24_10,(o24_12 x22),(o24_7 s7 x22),.loop 39 [(2,.ptr 2 0 0),(3,.ptr 3 0 0),(18,.fn (.func 85) [] [.ptr 4 0 0])] [19] (cA Tryd.f63 [true,true,false,true,true]) (cB Tryd.f63 [true,true,false,true,true]) .ready none],16⟩,by as_aux_lemma=>kernel_rfl,?_⟩
      refine sz 1 5 (reg_end rfl (wcF (wp_skip (wg [0,3] [] (rn ?_)))))
      cases h
      exact ⟨_,rfl,(wk_gc (live:=[0,3]) (keep:=[]) kr)⟩
     refine wcF (wg [] [] ?_)
     refine wp_exit ?_
     cases h
     exact ⟨kr,rfl⟩
    intro x64 h out hx
    subst hx
    refine ⟨.go .normal ⟨[(2,.ptr 2 0 0),(3,.ptr 3 0 0),(18,.fn (.func 85) [] [.ptr 4 0 0])],[oX false false 2 (.agg [.ref 1 0 x64.length,.int .u64 (zv (BitVec.ofInt (IntKind.bits .u64) s7.2.1 &&& ~~~ BitVec.ofInt (IntKind.bits .u64) (zv (1*2^min (zt x22.1) (IntKind.bits .u64)))).toNat)]),oR true 1 (AV.int .u64) x64,o24_10,(o24_12 x22),(o24_7 s7 x22),.dead],39⟩,by as_aux_lemma=>kernel_rfl,?_⟩
    refine rga hfol (sy 6 6 ?_)
    refine bind_elim h (fun a65 q66 h=>?_)
    refine idxR' (enc:=(AV.int .u64)) (l:=x64) (n:=x22.1) (w:=1) (ob:=1) (ro:=false) (nr:=true) (fl:=true) (a:=a65) kr kr gE q66 ?_
    refine storeR (enc:=(AV.int .u64)) (l:=x64) (n:=x22.1) (ob:=1) (w:=1) (bx:=false) (nr:=true) (fl:=true) (c:=0) (a:=a65) (a':=0) (v:=.int .u64 0) false kr kr q66 kr rfl kr gE kr ?_
    refine rknN (n:=x64.length) (m:=(List.set x64 (zt x22.1) 0).length) (S:=fun n67=>⟨[(2,.ptr 2 0 0),(3,.ptr 3 0 0),(18,.fn (.func 85) [] [.ptr 4 0 0]),(32,.ptr 0 0 0),(33,.ptr 0 0 0),(34,.ptr 0 0 0),(35,.ptr 0 0 0),(36,.ref 1 0 n67),(37,vI x22.1),(38,.ptr 1 (zt x22.1) 0)],[oX false false 2 (.agg [.ref 1 0 n67,.int .u64 (zv (BitVec.ofInt (IntKind.bits .u64) s7.2.1 &&& ~~~ BitVec.ofInt (IntKind.bits .u64) (zv (1*2^min (zt x22.1) (IntKind.bits .u64)))).toNat)]),oR true 1 (AV.int .u64) (List.set x64 (zt x22.1) 0),o24_10,(o24_12 x22),(o24_7 s7 x22),.dead],39⟩) (by simp only [List.length_set]) ?_
    refine rgd ?_
    refine ⟨⟨[(5,vI (if x23 > s7.1 then x23 else s7.1)),(6,.ptr 0 0 0),(7,vI x22.1),(55,.ptr 0 0 0),(56,vI x22.1),(57,.tup [])],[oX false false 2 (.agg [.ref 1 0 ((List.set x64 (zt x22.1) 0).length),.int .u64 (zv (BitVec.ofInt (IntKind.bits .u64) s7.2.1 &&& ~~~ BitVec.ofInt (IntKind.bits .u64) (zv (1*2^min (zt x22.1) (IntKind.bits .u64)))).toNat)]),oR true 1 (AV.int .u64) (List.set x64 (zt x22.1) 0),o24_10,(o24_12 x22),(o24_7 s7 x22),.dead],59⟩,by as_aux_lemma=>kernel_rfl,?_⟩
    refine reg_end rfl ?_
    cases h
    exact ⟨_,rfl,(wk_gc (live:=[5,6]) (keep:=[0,1]) kr)⟩
   refine wp_skip ?_
   refine wgc [5,6,7] [0,1] ⟨[(5,vI (if x23 > s7.1 then x23 else s7.1)),(6,.ptr 0 0 0),(7,vI x22.1)],(o24_15 s7),59⟩ ?_
   refine reg_in (sz 2 2 ?_)
   refine inlR (f:=63) (fn:=Tryd.f63) (as0:=[.ptr 0 0 0,vI x22.1]) kr Tryd.func63 rfl (by decide +kernel) rfl ?_
   refine wp_eqB (base':=2) (st':=⟨[(0,.ptr 0 0 0),(1,vI x22.1)],(o24_15 s7),39⟩) kr kr ?_
   refine wp_seq (reg_in ?_)
   refine sgL false [] [] false gE ?_
   refine sz 1 2 (reg_end rfl (wp_seq (rga hfol (sy 5 5 ?_))))
   refine shlR (k:=.u64) (k':=.i64) (a:=1) (b:=x22.1) kr gE h (fun h=>?_)
   refine sy 4 10 (rgd (wp_seq (wp_seq ?_)))
   refine wgc [2,3] [2,3] ⟨[(2,.ptr 2 0 0),(3,.ptr 3 0 0)],[(o24_11 s7 x22),oR true 1 (AV.int .u64) s7.2.2,o24_10,(o24_12 x22)],39⟩ ?_
   refine reg_in (sz 4 4 ?_)
   refine inlR (f:=68) (fn:=Tryd.f68) (as0:=[.int .u64 (zv (BitVec.ofInt (IntKind.bits .u64) s7.2.1 &&& ~~~ BitVec.ofInt (IntKind.bits .u64) (zv (1*2^min (zt x22.1) (IntKind.bits .u64)))).toNat)]) kr Tryd.func68 rfl (by decide +kernel) rfl ?_
   refine wp_eqB (base':=4) (st':=⟨[(0,.int .u64 (zv (BitVec.ofInt (IntKind.bits .u64) s7.2.1 &&& ~~~ BitVec.ofInt (IntKind.bits .u64) (zv (1*2^min (zt x22.1) (IntKind.bits .u64)))).toNat))],[(o24_11 s7 x22),oR true 1 (AV.int .u64) s7.2.2,o24_10,(o24_12 x22)],4⟩) kr kr ?_
   refine sq (sq (wg [2] [4] ?_))
   refine wp_ret ?_
   refine ⟨⟨[(2,.ptr 2 0 0),(3,.ptr 3 0 0),(14,.ptr 0 0 0),(15,.ptr 0 0 0),(16,.ptr 0 0 1),(17,.int .u64 (zv (BitVec.ofInt (IntKind.bits .u64) s7.2.1 &&& ~~~ BitVec.ofInt (IntKind.bits .u64) (zv (1*2^min (zt x22.1) (IntKind.bits .u64)))).toNat))]++[(18,.fn (.func 85) [] [.ptr 4 0 0])],[(o24_11 s7 x22),oR true 1 (AV.int .u64) s7.2.2,o24_10,(o24_12 x22),(o24_7 s7 x22)],39⟩,by as_aux_lemma=>kernel_rfl,?_⟩
   refine reg_end rfl (wp_block ?_)
   refine wgc [2,3,18] [2,3,4] ⟨[(2,.ptr 2 0 0),(3,.ptr 3 0 0),(18,.fn (.func 85) [] [.ptr 4 0 0])],[(o24_11 s7 x22),oR true 1 (AV.int .u64) s7.2.2,o24_10,(o24_12 x22),(o24_7 s7 x22)],39⟩ ?_
   refine wp_range (f:=85) (fn:=Tryd.f85) (first:=[]) (caps:=[.ptr 4 0 0]) rfl Tryd.func85 rfl (by decide +kernel) rfl rfl ?_
   refine wp_eqB (base':=6) (st':=⟨[(0,.yld 5),(1,.ptr 4 0 0)],[(o24_11 s7 x22),oR true 1 (AV.int .u64) s7.2.2,o24_10,(o24_12 x22),(o24_7 s7 x22),.loop 39 [(2,.ptr 2 0 0),(3,.ptr 3 0 0),(18,.fn (.func 85) [] [.ptr 4 0 0])] [19] (cA Tryd.f63 [true,true,false,true,true]) (cB Tryd.f63 [true,true,false,true,true]) .ready none],16⟩) kr kr ?_
   refine sq (wp_block ?_)
   refine wwh h (fun s68=>⟨[(0,.yld 5),(3,.int .u64 s68.1)],[oX false false 2 (.agg [.ref 1 0 s68.2.length,.int .u64 (zv (BitVec.ofInt (IntKind.bits .u64) s7.2.1 &&& ~~~ BitVec.ofInt (IntKind.bits .u64) (zv (1*2^min (zt x22.1) (IntKind.bits .u64)))).toNat)]),oR true 1 (AV.int .u64) s68.2,o24_10,(o24_12 x22),(o24_7 s7 x22),.loop 39 [(2,.ptr 2 0 0),(3,.ptr 3 0 0),(18,.fn (.func 85) [] [.ptr 4 0 0])] [19] (cA Tryd.f63 [true,true,false,true,true]) (cB Tryd.f63 [true,true,false,true,true]) .ready none],16⟩) (fun v out=>out=.go (.exit 0) ⟨[],[oX false false 2 (.agg [.ref 1 0 v.length,.int .u64 (zv (BitVec.ofInt (IntKind.bits .u64) s7.2.1 &&& ~~~ BitVec.ofInt (IntKind.bits .u64) (zv (1*2^min (zt x22.1) (IntKind.bits .u64)))).toNat)]),oR true 1 (AV.int .u64) v,o24_10,(o24_12 x22),(o24_7 s7 x22),.loop 39 [(2,.ptr 2 0 0),(3,.ptr 3 0 0),(18,.fn (.func 85) [] [.ptr 4 0 0])] [19] (cA Tryd.f63 [true,true,false,true,true]) (cB Tryd.f63 [true,true,false,true,true]) .ready none],16⟩) (wk_gc (live:=[0,3]) (keep:=[]) kr) ?_ ?_
   ·intro s68 o h
    unfold g_order_Low_b4 at h
    refine wp_seq (sq ?_)
    refine wb [6] h (fun q70 h=>?_) (fun q70 h=>?_)
    ·refine wcT (wp_skip (wp_seq (wp_block (wp_seq (reg_in (sz 2 2 ?_))))))
     refine callW bodyB_86 (g_math_bits_TrailingZeros_ok s68.1) h (fun x71 _ h=>?_)
     refine yldR (l:=5) (nt:=39) (us:=[vI x71]) (sl:=[(2,.ptr 2 0 0),(3,.ptr 3 0 0),(18,.fn (.func 85) [] [.ptr 4 0 0])]) (ps:=[19]) (assign:=cA Tryd.f63 [true,true,false,true,true]) (body:=cB Tryd.f63 [true,true,false,true,true]) (pe:=none) kr kr rfl ?_
     refine wp_eqB (base':=6) (st':=⟨[(2,.ptr 2 0 0),(3,.ptr 3 0 0),(18,.fn (.func 85) [] [.ptr 4 0 0]),(19,vI x71)],[oX false false 2 (.agg [.ref 1 0 s68.2.length,.int .u64 (zv (BitVec.ofInt (IntKind.bits .u64) s7.2.1 &&& ~~~ BitVec.ofInt (IntKind.bits .u64) (zv (1*2^min (zt x22.1) (IntKind.bits .u64)))).toNat)]),oR true 1 (AV.int .u64) s68.2,o24_10,(o24_12 x22),(o24_7 s7 x22),.loop 39 [(2,.ptr 2 0 0),(3,.ptr 3 0 0),(18,.fn (.func 85) [] [.ptr 4 0 0])] [19] (cA Tryd.f63 [true,true,false,true,true]) (cB Tryd.f63 [true,true,false,true,true]) .ready none],39⟩) kr kr ?_
     refine rn ?_
     refine ⟨⟨[(2,.ptr 2 0 0),(3,.ptr 3 0 0),(18,.fn (.func 85) [] [.ptr 4 0 0]),(19,vI x71),(4,vI x71)],[oX false false 2 (.agg [.ref 1 0 s68.2.length,.int .u64 (zv (BitVec.ofInt (IntKind.bits .u64) s7.2.1 &&& ~~~ BitVec.ofInt (IntKind.bits .u64) (zv (1*2^min (zt x22.1) (IntKind.bits .u64)))).toNat)]),oR true 1 (AV.int .u64) s68.2,o24_10,(o24_12 x22),(o24_7 s7 x22),.loop 39 [(2,.ptr 2 0 0),(3,.ptr 3 0 0),(18,.fn (.func 85) [] [.ptr 4 0 0])] [19] (cA Tryd.f63 [true,true,false,true,true]) (cB Tryd.f63 [true,true,false,true,true]) .busy none],39⟩,by as_aux_lemma=>kernel_rfl,?_⟩
     refine wp_block (rga hfol (sy 6 6 ?_))
     refine bind_elim h (fun a73 q74 h=>?_)
     refine idxR' (enc:=(AV.int .u64)) (l:=s68.2) (n:=x71) (w:=1) (ob:=1) (ro:=false) (nr:=true) (fl:=true) (a:=a73) kr kr gE q74 ?_
     refine loadR (enc:=(AV.int .u64)) (l:=s68.2) (n:=x71) (w:=1) (ob:=1) (c:=0) (bx:=false) (ro:=false) (nr:=true) (fl:=true) (a:=a73) kr kr q74 gE ?_
     refine sy 1 9 ?_
     refine shlR (k:=.u64) (k':=.i64) (a:=1) (b:=x22.1) kr gE h (fun h=>?_)
     refine sy 1 11 ?_
     refine idxR' (enc:=(AV.int .u64)) (l:=s68.2) (n:=x71) (w:=1) (ob:=1) (ro:=false) (nr:=true) (fl:=true) (a:=a73) kr kr gE q74 ?_
     refine storeR (enc:=(AV.int .u64)) (l:=s68.2) (n:=x71) (ob:=1) (w:=1) (bx:=false) (nr:=true) (fl:=true) (c:=0) (a:=a73) (a':=zv (BitVec.ofInt (IntKind.bits .u64) a73 &&& ~~~ BitVec.ofInt (IntKind.bits .u64) (zv (1*2^min (zt x22.1) (IntKind.bits .u64)))).toNat) (v:=.int .u64 (zv (BitVec.ofInt (IntKind.bits .u64) a73 &&& ~~~ BitVec.ofInt (IntKind.bits .u64) (zv (1*2^min (zt x22.1) (IntKind.bits .u64)))).toNat)) false kr kr q74 kr rfl kr gE kr ?_
     refine rknN (n:=s68.2.length) (m:=(List.set s68.2 (zt x71) (zv (BitVec.ofInt (IntKind.bits .u64) a73 &&& ~~~ BitVec.ofInt (IntKind.bits .u64) (zv (1*2^min (zt x22.1) (IntKind.bits .u64)))).toNat)).length) (S:=fun n75=>⟨[(2,.ptr 2 0 0),(3,.ptr 3 0 0),(18,.fn (.func 85) [] [.ptr 4 0 0]),(19,vI x71),(4,vI x71),(20,.ptr 0 0 0),(21,.ptr 0 0 0),(22,.ptr 0 0 0),(23,.ptr 0 0 0),(24,.ref 1 0 n75),(25,vI x71),(26,.ptr 1 (zt x71) 0),(27,.int .u64 a73),(28,vI x22.1),(29,.int .u64 (zv (1*2^min (zt x22.1) (IntKind.bits .u64)))),(30,.int .u64 (zv (BitVec.ofInt (IntKind.bits .u64) a73 &&& ~~~ BitVec.ofInt (IntKind.bits .u64) (zv (1*2^min (zt x22.1) (IntKind.bits .u64)))).toNat)),(31,.ptr 1 (zt x71) 0)],[oX false false 2 (.agg [.ref 1 0 n75,.int .u64 (zv (BitVec.ofInt (IntKind.bits .u64) s7.2.1 &&& ~~~ BitVec.ofInt (IntKind.bits .u64) (zv (1*2^min (zt x22.1) (IntKind.bits .u64)))).toNat)]),oR true 1 (AV.int .u64) (List.set s68.2 (zt x71) (zv (BitVec.ofInt (IntKind.bits .u64) a73 &&& ~~~ BitVec.ofInt (IntKind.bits .u64) (zv (1*2^min (zt x22.1) (IntKind.bits .u64)))).toNat)),o24_10,(o24_12 x22),(o24_7 s7 x22),.loop 39 [(2,.ptr 2 0 0),(3,.ptr 3 0 0),(18,.fn (.func 85) [] [.ptr 4 0 0])] [19] (cA Tryd.f63 [true,true,false,true,true]) (cB Tryd.f63 [true,true,false,true,true]) .busy none],39⟩) (by simp only [List.length_set]) ?_
     refine rgd ?_
     refine ⟨⟨[(0,.yld 5),(3,.int .u64 s68.1),(5,.int .u64 s68.1),(6,vB true),(11,.yld 5),(12,.int .u64 s68.1),(13,vI x71),(14,vB true)],[oX false false 2 (.agg [.ref 1 0 ((List.set s68.2 (zt x71) (zv (BitVec.ofInt (IntKind.bits .u64) a73 &&& ~~~ BitVec.ofInt (IntKind.bits .u64) (zv (1*2^min (zt x22.1) (IntKind.bits .u64)))).toNat)).length),.int .u64 (zv (BitVec.ofInt (IntKind.bits .u64) s7.2.1 &&& ~~~ BitVec.ofInt (IntKind.bits .u64) (zv (1*2^min (zt x22.1) (IntKind.bits .u64)))).toNat)]),oR true 1 (AV.int .u64) (List.set s68.2 (zt x71) (zv (BitVec.ofInt (IntKind.bits .u64) a73 &&& ~~~ BitVec.ofInt (IntKind.bits .u64) (zv (1*2^min (zt x22.1) (IntKind.bits .u64)))).toNat)),o24_10,(o24_12 x22),(o24_7 s7 x22),.loop 39 [(2,.ptr 2 0 0),(3,.ptr 3 0 0),(18,.fn (.func 85) [] [.ptr 4 0 0])] [19] (cA Tryd.f63 [true,true,false,true,true]) (cB Tryd.f63 [true,true,false,true,true]) .ready none],16⟩,by as_aux_lemma=>kernel_rfl,?_⟩
     refine sz 1 5 (reg_end rfl (wcF (wp_skip (wg [0,3] [] (rn ?_)))))
     cases h
     exact ⟨_,rfl,(wk_gc (live:=[0,3]) (keep:=[]) kr)⟩
    refine wcF (wg [] [] ?_)
    refine wp_exit ?_
    cases h
    exact ⟨kr,rfl⟩
   intro x77 h out hx
   subst hx
   refine ⟨.go .normal ⟨[(2,.ptr 2 0 0),(3,.ptr 3 0 0),(18,.fn (.func 85) [] [.ptr 4 0 0])],[oX false false 2 (.agg [.ref 1 0 x77.length,.int .u64 (zv (BitVec.ofInt (IntKind.bits .u64) s7.2.1 &&& ~~~ BitVec.ofInt (IntKind.bits .u64) (zv (1*2^min (zt x22.1) (IntKind.bits .u64)))).toNat)]),oR true 1 (AV.int .u64) x77,o24_10,(o24_12 x22),(o24_7 s7 x22),.dead],39⟩,by as_aux_lemma=>kernel_rfl,?_⟩
   refine rga hfol (sy 6 6 ?_)
   refine bind_elim h (fun a78 q79 h=>?_)
   refine idxR' (enc:=(AV.int .u64)) (l:=x77) (n:=x22.1) (w:=1) (ob:=1) (ro:=false) (nr:=true) (fl:=true) (a:=a78) kr kr gE q79 ?_
   refine storeR (enc:=(AV.int .u64)) (l:=x77) (n:=x22.1) (ob:=1) (w:=1) (bx:=false) (nr:=true) (fl:=true) (c:=0) (a:=a78) (a':=0) (v:=.int .u64 0) false kr kr q79 kr rfl kr gE kr ?_
   refine rknN (n:=x77.length) (m:=(List.set x77 (zt x22.1) 0).length) (S:=fun n80=>⟨[(2,.ptr 2 0 0),(3,.ptr 3 0 0),(18,.fn (.func 85) [] [.ptr 4 0 0]),(32,.ptr 0 0 0),(33,.ptr 0 0 0),(34,.ptr 0 0 0),(35,.ptr 0 0 0),(36,.ref 1 0 n80),(37,vI x22.1),(38,.ptr 1 (zt x22.1) 0)],[oX false false 2 (.agg [.ref 1 0 n80,.int .u64 (zv (BitVec.ofInt (IntKind.bits .u64) s7.2.1 &&& ~~~ BitVec.ofInt (IntKind.bits .u64) (zv (1*2^min (zt x22.1) (IntKind.bits .u64)))).toNat)]),oR true 1 (AV.int .u64) (List.set x77 (zt x22.1) 0),o24_10,(o24_12 x22),(o24_7 s7 x22),.dead],39⟩) (by simp only [List.length_set]) ?_
   refine rgd ?_
   refine ⟨⟨[(5,vI (if x23 > s7.1 then x23 else s7.1)),(6,.ptr 0 0 0),(7,vI x22.1),(55,.ptr 0 0 0),(56,vI x22.1),(57,.tup [])],[oX false false 2 (.agg [.ref 1 0 ((List.set x77 (zt x22.1) 0).length),.int .u64 (zv (BitVec.ofInt (IntKind.bits .u64) s7.2.1 &&& ~~~ BitVec.ofInt (IntKind.bits .u64) (zv (1*2^min (zt x22.1) (IntKind.bits .u64)))).toNat)]),oR true 1 (AV.int .u64) (List.set x77 (zt x22.1) 0),o24_10,(o24_12 x22),(o24_7 s7 x22),.dead],59⟩,by as_aux_lemma=>kernel_rfl,?_⟩
   refine reg_end rfl ?_
   cases h
   exact ⟨_,rfl,(wk_gc (live:=[5,6]) (keep:=[0,1]) kr)⟩
  refine wg [5] [] ?_
  refine wp_exit ?_
  cases h
  exact ⟨kr,rfl⟩
 intro x82 h out hx
 subst hx
 refine sq (wg [2,3] [] ?_)
 cases h
 exact wp_ret (show fnOut _ _ _ _=_ from by kernel_rfl)
end Go.Ab
