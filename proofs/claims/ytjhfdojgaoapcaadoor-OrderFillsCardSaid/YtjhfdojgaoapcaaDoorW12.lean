/- What functions compute. No conditions. -/
import Derived.Test.YtjhfdojgaoapcaaDoorProg
import Derived.Test.YtjhfdojgaoapcaaDoorW10
import Derived.KernelRfl
import Derived.Test.YtjhfdojgaoapcaaDoorW11
set_option linter.all false
namespace Go.Ab
open Go Go.Proofs
set_option maxRecDepth 100000
set_option maxHeartbeats 4000000
noncomputable abbrev o21_42 (p0:Torder_graph):AObj:=oX true false 1 (.fz [eL true (AV.int .u64) p0.neighbours.near,.int .u64 p0.left])
noncomputable abbrev o21_43 (p1:Int):AObj:=oX true true 1 (vI p1)
noncomputable abbrev o21_44 (a1:Int):AObj:=oX true true 1 (.int .u64 a1)
noncomputable abbrev o21_45:AObj:=.loop 42 [(2,.ptr 0 0 0),(3,.ptr 1 0 0),(5,.ptr 2 0 0),(15,.fn (.func 85) [] [.ptr 3 0 0])] [16] (cA Tryd.f59 [true,true,false,true,true]) (cB Tryd.f59 [true,true,false,true,true]) .ready none
noncomputable abbrev e21_46:Nat×AV:=(15,.fn (.func 85) [] [.ptr 3 0 0])
noncomputable abbrev s21_47:List (Nat×AV):=[(2,.ptr 0 0 0),(3,.ptr 1 0 0),(5,.ptr 2 0 0),e21_46]
theorem g_order_graph_lacking_ok (p0:Torder_graph) (p1:Int) (x:Int) (h:g_order_graph_lacking p0 p1=some x):CallOk Tryd.prog 59 [.fz [eL true (AV.int .u64) p0.neighbours.near,.int .u64 p0.left],vI p1] (.ret (vI x) []):=by
 refine fn_ok [] Tryd.func59 rfl (by decide +kernel) rfl ?_
 unfold g_order_graph_lacking at h
 refine wp_eqB (base':=0) (st':=⟨[(0,.fz [eL true (AV.int .u64) p0.neighbours.near,.int .u64 p0.left]),(1,vI p1)],[],42⟩) kr kr ?_
 refine wp_seq (reg_in ?_)
 refine sgL false [] [] false gE ?_
 refine sz 2 3 (reg_end rfl (sq (wp_seq (wp_seq (rga hfol (sy 6 6 ?_))))))
 refine bind_elim h (fun a1 q2 h=>?_)
 refine idxL' (enc:=(AV.int .u64)) (l:=p0.neighbours.near) (n:=p1) (fl:=true) (w:=1) (a:=a1) kr rfl gE q2 ?_
 refine sy 1 8 ?_
 refine inlN (f:=68) (fn:=Tryd.f68) (as0:=[.int .u64 a1]) kr kr Tryd.func68 rfl (by decide +kernel) rfl ?_
 refine wp_eqB (base':=3) (st':=⟨[(0,.int .u64 a1)],[.dead,.dead,.dead],4⟩) kr kr ?_
 refine sq (sq (wg [2] [3] ?_))
 refine wp_ret ?_
 refine ⟨⟨[(0,.fz [eL true (AV.int .u64) p0.neighbours.near,.int .u64 p0.left]),(1,vI p1),(2,.ptr 0 0 0),(3,.ptr 1 0 0),(4,vI 0),(5,.ptr 2 0 0),(7,.fz [eL true (AV.int .u64) p0.neighbours.near,.int .u64 p0.left]),(8,.fz [eL true (AV.int .u64) p0.neighbours.near,.int .u64 p0.left]),(9,.fz [eL true (AV.int .u64) p0.neighbours.near,.int .u64 p0.left]),(10,.fz [eL true (AV.int .u64) p0.neighbours.near,.int .u64 p0.left]),(11,eL true (AV.int .u64) p0.neighbours.near),(12,vI p1),(13,.fz [.int .u64 a1]),(14,.int .u64 a1),e21_46],[(o21_42 p0),(o21_43 p1),oX true true 1 (vI 0),(o21_44 a1)],42⟩,by as_aux_lemma=>kernel_rfl,?_⟩
 refine rgd (wp_block ?_)
 refine wgc [2,3,5,15] [0,1,2,3] ⟨s21_47,[(o21_42 p0),(o21_43 p1),oX true true 1 (vI 0),(o21_44 a1)],42⟩ ?_
 refine wp_range (f:=85) (fn:=Tryd.f85) (first:=[]) (caps:=[.ptr 3 0 0]) rfl Tryd.func85 rfl (by decide +kernel) rfl rfl ?_
 refine wp_eqB (base':=5) (st':=⟨[(0,.yld 4),(1,.ptr 3 0 0)],[(o21_42 p0),(o21_43 p1),oX true true 1 (vI 0),(o21_44 a1),o21_45],16⟩) kr kr ?_
 refine sq (wp_block ?_)
 refine wwh h (fun s3=>⟨[(0,.yld 4),(3,.int .u64 s3.1)],[(o21_42 p0),(o21_43 p1),oX true true 1 (vI s3.2),(o21_44 a1),o21_45],16⟩) (fun v out=>out=.go (.exit 0) ⟨[],[(o21_42 p0),(o21_43 p1),oX true true 1 (vI v),(o21_44 a1),o21_45],16⟩) (wk_gc (live:=[0,3]) (keep:=[]) kr) ?_ ?_
 ·intro s3 o h
  unfold g_order_graph_lacking_b0 at h
  refine wp_seq (sq ?_)
  refine wb [6] h (fun q5 h=>?_) (fun q5 h=>?_)
  ·refine wcT (wp_skip (wp_seq (wp_block (wp_seq (reg_in (sz 2 2 ?_))))))
   refine callW bodyB_86 (g_math_bits_TrailingZeros_ok s3.1) h (fun x6 _ h=>?_)
   refine yldR (l:=4) (nt:=42) (us:=[vI x6]) (sl:=[(2,.ptr 0 0 0),(3,.ptr 1 0 0),(5,.ptr 2 0 0),(15,.fn (.func 85) [] [.ptr 3 0 0])]) (ps:=[16]) (assign:=cA Tryd.f59 [true,true,false,true,true]) (body:=cB Tryd.f59 [true,true,false,true,true]) (pe:=none) kr kr rfl ?_
   refine wp_eqB (base':=5) (st':=⟨s21_47++[(16,vI x6)],[(o21_42 p0),(o21_43 p1),oX true true 1 (vI s3.2),(o21_44 a1),o21_45],42⟩) kr kr ?_
   refine rn ?_
   refine ⟨⟨s21_47++[(16,vI x6),(6,vI x6)],[(o21_42 p0),(o21_43 p1),oX true true 1 (vI s3.2),(o21_44 a1),.loop 42 [(2,.ptr 0 0 0),(3,.ptr 1 0 0),(5,.ptr 2 0 0),(15,.fn (.func 85) [] [.ptr 3 0 0])] [16] (cA Tryd.f59 [true,true,false,true,true]) (cB Tryd.f59 [true,true,false,true,true]) .busy none],42⟩,by as_aux_lemma=>kernel_rfl,?_⟩
   refine wp_block (rga hfol (sy 7 7 ?_))
   refine idxL' (enc:=(AV.int .u64)) (l:=p0.neighbours.near) (n:=p1) (fl:=true) (w:=1) (a:=a1) kr rfl gE q2 ?_
   refine sy 7 15 ?_
   refine bind_elim h (fun a8 q9 h=>?_)
   refine idxL' (enc:=(AV.int .u64)) (l:=p0.neighbours.near) (n:=x6) (fl:=true) (w:=1) (a:=a8) kr rfl gE q9 ?_
   refine sy 3 19 ?_
   refine shlR (k:=.u64) (k':=.i64) (a:=1) (b:=x6) kr gE h (fun h=>?_)
   refine sy 1 21 ?_
   refine callW bodyB_84 (g_math_bits_OnesCount_ok (zv (BitVec.ofInt (IntKind.bits .u64) (zv (BitVec.ofInt (IntKind.bits .u64) a1 &&& ~~~ BitVec.ofInt (IntKind.bits .u64) a8).toNat) &&& ~~~ BitVec.ofInt (IntKind.bits .u64) (zv (1*2^min (zt x6) (IntKind.bits .u64)))).toNat)) h (fun x10 _ h=>?_)
   refine sy 2 24 (rgd ?_)
   refine ⟨⟨[(0,.yld 4),(3,.int .u64 s3.1),(5,.int .u64 s3.1),(6,vB true),(11,.yld 4),(12,.int .u64 s3.1),(13,vI x6),(14,vB true)],[(o21_42 p0),(o21_43 p1),oX true true 1 (vI (zw (s3.2+x10))),(o21_44 a1),o21_45],16⟩,by as_aux_lemma=>kernel_rfl,?_⟩
   refine sz 1 5 (reg_end rfl (wcF (wp_skip ?_)))
   refine wgc [0,3] [] ⟨[(0,.yld 4),(3,.int .u64 s3.1)],[(o21_42 p0),(o21_43 p1),oX true true 1 (vI (zw (s3.2+x10))),(o21_44 a1),o21_45],16⟩ ?_
   refine rn ?_
   cases h
   exact ⟨_,rfl,(wk_gc (live:=[0,3]) (keep:=[]) kr)⟩
  refine wcF (wg [] [] ?_)
  refine wp_exit ?_
  cases h
  exact ⟨kr,rfl⟩
 intro x13 h out hx
 subst hx
 refine ⟨.go .normal ⟨s21_47,[(o21_42 p0),(o21_43 p1),oX true true 1 (vI x13),(o21_44 a1),.dead],42⟩,by as_aux_lemma=>kernel_rfl,?_⟩
 refine sq (wg [4] [] ?_)
 cases h
 exact wp_ret (show fnOut _ _ _ _=_ from by kernel_rfl)
noncomputable abbrev o22_48 (m2:(List Int)) (m1:Int):AObj:=oX false false 2 (.agg [.ref 1 0 m2.length,.int .u64 m1])
noncomputable abbrev o22_49 (m2:(List Int)):AObj:=oR true 1 (AV.int .u64) m2
noncomputable abbrev o22_50:AObj:=oX false false 1 (.fn (.func 59) [.ptr 0 0 0] [])
noncomputable abbrev o22_51 (m0:Int):AObj:=oX true true 1 (.int .u64 m0)
noncomputable abbrev o22_52:AObj:=.loop 25 [(3,.ptr 2 0 0),(5,.ptr 3 0 0),(6,.ptr 4 0 0),(10,.fn (.func 85) [] [.ptr 5 0 0])] [11] (cA Tryd.f61 [true,true,false,true,true]) (cB Tryd.f61 [true,true,false,true,true]) .ready none
noncomputable abbrev o22_53:AObj:=.loop 25 [(3,.ptr 2 0 0),(5,.ptr 3 0 0),(6,.ptr 4 0 0),(10,.fn (.func 85) [] [.ptr 5 0 0])] [11] (cA Tryd.f61 [true,true,false,true,true]) (cB Tryd.f61 [true,true,false,true,true]) .busy none
noncomputable abbrev e22_54:Nat×AV:=(10,.fn (.func 85) [] [.ptr 5 0 0])
noncomputable abbrev l22_55 (a0 a1:AObj) (m2:(List Int)) (m1 m0:Int):List AObj:=[(o22_48 m2 m1),(o22_49 m2),o22_50,a0,a1,(o22_51 m0)]
noncomputable abbrev s22_56:List (Nat×AV):=[(3,.ptr 2 0 0),(5,.ptr 3 0 0),(6,.ptr 4 0 0),e22_54]
theorem g_order_least_m0_ok:RecOk Tryd.prog 2 (Tryd.f61.body.getD .skip) (fun s:(Int × Int × (List Int))=>⟨[(0,.int .u64 s.1),(1,.fn (.func 59) [.ptr 0 0 0] [])],[oX false false 2 (.agg [.ref 1 0 s.2.2.length,.int .u64 s.2.1]),oR true 1 (AV.int .u64) s.2.2],25⟩) (fun v:(Int × Int × (List Int))=>⟨[(4,vI v.1)],[oX false false 2 (.agg [.ref 1 0 v.2.2.length,.int .u64 v.2.1]),oR true 1 (AV.int .u64) v.2.2],25⟩) (fun s=>g_order_least_m0 s.1 s.2.1 s.2.2):=by
 rintro ⟨m0,m1,m2⟩ x h
 change g_order_least_m0 m0 m1 m2=some x at h
 unfold g_order_least_m0 at h
 refine wp_post ?_
 refine wp_eqB (base':=2) (st':=⟨[(0,.int .u64 m0),(1,.fn (.func 59) [.ptr 0 0 0] [])],[(o22_48 m2 m1),(o22_49 m2)],25⟩) kr kr ?_
 refine wp_seq (reg_in ?_)
 refine sgL false [] [] false gE ?_
 refine sz 1 2 (reg_end rfl (sq (wp_seq (wp_seq (reg_in (sz 1 1 ?_))))))
 refine inlR (f:=68) (fn:=Tryd.f68) (as0:=[.int .u64 m0]) kr Tryd.func68 rfl (by decide +kernel) rfl ?_
 refine wp_eqB (base':=5) (st':=⟨[(0,.int .u64 m0)],[(o22_48 m2 m1),(o22_49 m2),o22_50,oX true true 1 (vI (-1)),oX true true 1 (vI 0)],4⟩) kr kr ?_
 refine sq (sq (wg [2] [5] ?_))
 refine wp_ret ?_
 refine ⟨⟨[(0,.int .u64 m0),(1,.fn (.func 59) [.ptr 0 0 0] []),(3,.ptr 2 0 0),(4,vI 0),(5,.ptr 3 0 0),(6,.ptr 4 0 0),(9,.int .u64 m0),e22_54],(l22_55 (oX true true 1 (vI (-1))) (oX true true 1 (vI 0)) m2 m1 m0),25⟩,by as_aux_lemma=>kernel_rfl,?_⟩
 refine reg_end rfl (wp_block ?_)
 refine wgc [3,5,6,10] [2,3,4,5] ⟨s22_56,(l22_55 (oX true true 1 (vI (-1))) (oX true true 1 (vI 0)) m2 m1 m0),25⟩ ?_
 refine wp_range (f:=85) (fn:=Tryd.f85) (first:=[]) (caps:=[.ptr 5 0 0]) rfl Tryd.func85 rfl (by decide +kernel) rfl rfl ?_
 refine wp_eqB (base':=7) (st':=⟨[(0,.yld 6),(1,.ptr 5 0 0)],(l22_55 (oX true true 1 (vI (-1))) (oX true true 1 (vI 0)) m2 m1 m0)++[o22_52],16⟩) kr kr ?_
 refine sq (wp_block ?_)
 refine wwh h (fun s1=>⟨[(0,.yld 6),(3,.int .u64 s1.1)],(l22_55 (oX true true 1 (vI s1.2.1)) (oX true true 1 (vI s1.2.2)) m2 m1 m0)++[o22_52],16⟩) (fun v out=>out=.go (.exit 0) ⟨[],(l22_55 (oX true true 1 (vI v.1)) (oX true true 1 (vI v.2)) m2 m1 m0)++[o22_52],16⟩) (wk_gc (live:=[0,3]) (keep:=[]) kr) ?_ ?_
 ·intro s1 o h
  unfold g_order_least_m0_b0 at h
  refine wp_seq (sq ?_)
  refine wb [6] h (fun q3 h=>?_) (fun q3 h=>?_)
  ·refine wcT (wp_skip (wp_seq (wp_block (wp_seq (reg_in (sz 2 2 ?_))))))
   refine callW bodyB_86 (g_math_bits_TrailingZeros_ok s1.1) h (fun x4 _ h=>?_)
   refine yldR (l:=6) (nt:=25) (us:=[vI x4]) (sl:=[(3,.ptr 2 0 0),(5,.ptr 3 0 0),(6,.ptr 4 0 0),(10,.fn (.func 85) [] [.ptr 5 0 0])]) (ps:=[11]) (assign:=cA Tryd.f61 [true,true,false,true,true]) (body:=cB Tryd.f61 [true,true,false,true,true]) (pe:=none) kr kr rfl ?_
   refine wp_eqB (base':=7) (st':=⟨s22_56++[(11,vI x4)],(l22_55 (oX true true 1 (vI s1.2.1)) (oX true true 1 (vI s1.2.2)) m2 m1 m0)++[o22_52],25⟩) kr kr ?_
   refine rn ?_
   refine ⟨⟨s22_56++[(11,vI x4),(7,vI x4)],(l22_55 (oX true true 1 (vI s1.2.1)) (oX true true 1 (vI s1.2.2)) m2 m1 m0)++[o22_53],25⟩,by as_aux_lemma=>kernel_rfl,?_⟩
   refine wp_block (wp_seq (reg_in ?_))
   refine sgz 2 2 (S:=⟨s22_56++[(11,vI x4),(7,vI x4),(12,.fn (.func 59) [.ptr 0 0 0] []),(13,vI x4)],(l22_55 (oX true true 1 (vI s1.2.1)) (oX true true 1 (vI s1.2.2)) m2 m1 m0)++[o22_53],25⟩) ?_
   refine callR (as0:=[.ptr 0 0 0,vI x4]) (ids:=[0,1]) kr bodyB_59 (msnap_cons (snap_ptr rfl (msnap_cons (snap_agg (msnap_cons (snap_full (w:=1) (bx:=false) (ro:=false) (enc:=(AV.int .u64)) (l:=m2) (fl:=true) kr) (msnap_cons rfl msnap_nil (by rfl)) (by rfl))) msnap_nil (by rfl)) (by rfl) (by rfl)) (msnap_cons rfl msnap_nil (by rfl)) (by rfl)) (fun x6 q7=>g_order_graph_lacking_ok (Torder_graph.mk (Torder_neighbours.mk m2) m1) x4 x6 q7) gF h (fun x6 q7 h=>?_)
   refine sz 1 4 (reg_end rfl (wp_seq (wg [5,6,7,8] [] (reg_in (sz 3 3 ?_)))))
   refine rb [16,17] h (fun q9 h=>?_) (fun q9 h=>?_)
   ·refine sz 4 7 (reg_end rfl (wcT (wg [5,6,7,8] [] (rn ?_))))
    refine ⟨⟨[(0,.yld 6),(3,.int .u64 s1.1),(5,.int .u64 s1.1),(6,vB true),(11,.yld 6),(12,.int .u64 s1.1),(13,vI x4),(14,vB true)],(l22_55 (oX true true 1 (vI x4)) (oX true true 1 (vI x6)) m2 m1 m0)++[o22_52],16⟩,by as_aux_lemma=>kernel_rfl,?_⟩
    refine sz 1 5 (reg_end rfl (wcF (wp_skip ?_)))
    refine wgc [0,3] [] ⟨[(0,.yld 6),(3,.int .u64 s1.1)],(l22_55 (oX true true 1 (vI x4)) (oX true true 1 (vI x6)) m2 m1 m0)++[o22_52],16⟩ ?_
    refine rn ?_
    cases h
    exact ⟨_,rfl,(wk_gc (live:=[0,3]) (keep:=[]) kr)⟩
   refine sz 4 7 (reg_end rfl ?_)
   refine wb [20,21] h (fun q11 h=>?_) (fun q11 h=>?_)
   ·refine wcT (wg [5,6,7,8] [] (rn ?_))
    refine ⟨⟨[(0,.yld 6),(3,.int .u64 s1.1),(5,.int .u64 s1.1),(6,vB true),(11,.yld 6),(12,.int .u64 s1.1),(13,vI x4),(14,vB true)],(l22_55 (oX true true 1 (vI x4)) (oX true true 1 (vI x6)) m2 m1 m0)++[o22_52],16⟩,by as_aux_lemma=>kernel_rfl,?_⟩
    refine sz 1 5 (reg_end rfl (wcF (wp_skip ?_)))
    refine wgc [0,3] [] ⟨[(0,.yld 6),(3,.int .u64 s1.1)],(l22_55 (oX true true 1 (vI x4)) (oX true true 1 (vI x6)) m2 m1 m0)++[o22_52],16⟩ ?_
    refine rn ?_
    cases h
    exact ⟨_,rfl,(wk_gc (live:=[0,3]) (keep:=[]) kr)⟩
   refine wcF (wp_skip ?_)
   refine ⟨⟨[(0,.yld 6),(3,.int .u64 s1.1),(5,.int .u64 s1.1),(6,vB true),(11,.yld 6),(12,.int .u64 s1.1),(13,vI x4),(14,vB true)],(l22_55 (oX true true 1 (vI s1.2.1)) (oX true true 1 (vI s1.2.2)) m2 m1 m0)++[o22_52],16⟩,by as_aux_lemma=>kernel_rfl,?_⟩
   refine sz 1 5 (reg_end rfl (wcF (wp_skip ?_)))
   refine wgc [0,3] [] ⟨[(0,.yld 6),(3,.int .u64 s1.1)],(l22_55 (oX true true 1 (vI s1.2.1)) (oX true true 1 (vI s1.2.2)) m2 m1 m0)++[o22_52],16⟩ ?_
   refine rn ?_
   cases h
   exact ⟨_,rfl,(wk_gc (live:=[0,3]) (keep:=[]) kr)⟩
  refine wcF (wg [] [] ?_)
  refine wp_exit ?_
  cases h
  exact ⟨kr,rfl⟩
 intro x13 h out hx
 subst hx
 refine ⟨.go .normal ⟨s22_56,(l22_55 (oX true true 1 (vI x13.1)) (oX true true 1 (vI x13.2)) m2 m1 m0)++[.dead],25⟩,by as_aux_lemma=>kernel_rfl,?_⟩
 refine sq ?_
 refine wgc [4] [] ⟨[(4,vI x13.1)],[(o22_48 m2 m1),(o22_49 m2)],25⟩ ?_
 refine wp_ret ?_
 cases h
 refine ⟨⟨[(4,vI x13.1)],[(o22_48 m2 m1),(o22_49 m2)],25⟩,(wk_gc (live:=[4]) (keep:=[]) (st':=⟨[(4,vI x13.1)],[(o22_48 m2 m1),(o22_49 m2)],25⟩) (by kernel_rfl)),?_⟩
 exact .inl (by kernel_rfl)
noncomputable abbrev e23_57:Nat×AV:=(1,.fn (.func 59) [.ptr 0 0 0] [])
noncomputable abbrev l23_58 (x7:(Int × (List Int) × (List Int))):List AObj:=[oX false false 2 (.agg [.ref 1 0 x7.2.1.length,.int .u64 x7.1]),oR true 1 (AV.int .u64) x7.2.1]
noncomputable abbrev l23_59 (m1:(List Int)) (m0:Int):List AObj:=[oX false false 2 (.agg [.ref 1 0 m1.length,.int .u64 m0]),oR true 1 (AV.int .u64) m1]
noncomputable abbrev s23_60 (s1:(Int × (List Int) × (List Int))) (x4:(Int × Int × (List Int))):List (Nat×AV):=[(0,.ptr 0 0 0),e23_57,(5,.ref 4 0 ((s1.2.2++([x4.1]:(List Int))).length)),(6,vI x4.1),(18,.ref 2 0 s1.2.2.length),(19,vI x4.1),(20,.ref 3 0 1),(21,.ref 4 0 ((s1.2.2++([x4.1]:(List Int))).length)),(22,.ptr 0 0 0),(23,vI x4.1)]
noncomputable abbrev s23_61 (s1:(Int × (List Int) × (List Int))):List (Nat×AV):=[(0,.ptr 0 0 0),e23_57,(5,.ref 2 0 s1.2.2.length),(12,.ptr 0 0 0),(13,.ptr 0 0 0),(14,.ptr 0 0 1),(15,.int .u64 s1.1),(16,.fn (.func 59) [.ptr 0 0 0] [])]
theorem g_order_graph_greedy_m0_ok:RecOk Tryd.prog 2 (Tryd.f58.body.getD .skip) (fun s:(Int × (List Int))=>⟨[(0,.ptr 0 0 0),(1,.fn (.func 59) [.ptr 0 0 0] [])],[oX false false 2 (.agg [.ref 1 0 s.2.length,.int .u64 s.1]),oR true 1 (AV.int .u64) s.2],26⟩) (fun v:((List Int) × Int × (List Int))=>⟨[(4,z1 v.1)],[oX false false 2 (.agg [.ref 1 0 v.2.2.length,.int .u64 v.2.1]),oR true 1 (AV.int .u64) v.2.2],26⟩) (fun s=>g_order_graph_greedy_m0 s.1 s.2):=by
 rintro ⟨m0,m1⟩ x h
 change g_order_graph_greedy_m0 m0 m1=some x at h
 unfold g_order_graph_greedy_m0 at h
 refine wp_post ?_
 refine wp_eqB (base':=2) (st':=⟨[(0,.ptr 0 0 0),e23_57],(l23_59 m1 m0),26⟩) kr kr ?_
 refine sq (sq (wp_seq (wp_block ?_)))
 refine wwh h (fun s1=>⟨[(0,.ptr 0 0 0),e23_57,(5,.ref 2 0 s1.2.2.length)],[oX false false 2 (.agg [.ref 1 0 s1.2.1.length,.int .u64 s1.1]),oR true 1 (AV.int .u64) s1.2.1,oR true 1 eI s1.2.2],26⟩) (fun v out=>out=.go (.exit 0) ⟨[(5,.ref 2 0 v.2.2.length)],[oX false false 2 (.agg [.ref 1 0 v.2.1.length,.int .u64 v.1]),oR true 1 (AV.int .u64) v.2.1,oR true 1 eI v.2.2],26⟩) (wk_trans (wk_gc (live:=[0,1,5]) (keep:=[]) (st':=⟨[(0,.ptr 0 0 0),e23_57,(5,.nils)],(l23_59 m1 m0),26⟩) kr) (wk_trans (wk_nil 5 1 true true (st':=⟨[(0,.ptr 0 0 0),e23_57,(5,.ref 2 0 0)],(l23_59 m1 m0)++[.row false false true true 1 []],26⟩) kr) (wk_gc (live:=[0,1,5]) (keep:=[2]) kr))) ?_ ?_
 ·intro s1 o h
  unfold g_order_graph_greedy_m0_b0 at h
  refine wp_seq (sq ?_)
  refine wbz h (fun q3 h=>?_) (fun q3 h=>?_)
  ·refine wp_skip (wp_block (wp_seq (wg [0,1,5] [2] (reg_in ?_))))
   refine sgz 5 5 (S:=⟨(s23_61 s1),[oX false false 2 (.agg [.ref 1 0 s1.2.1.length,.int .u64 s1.1]),oR true 1 (AV.int .u64) s1.2.1,oR true 1 eI s1.2.2],26⟩) ?_
   refine recH (f:=61) (fn:=Tryd.f61) (N:=2) (as0:=[.int .u64 s1.1,.fn (.func 59) [.ptr 0 0 0] []]) (s1.1,s1.1,s1.2.1) (fun v=>[(0,oX false false 2 (.agg [.ref 1 0 v.2.2.length,.int .u64 v.2.1])),(1,oR true 1 (AV.int .u64) v.2.2)]) (fun x4=>⟨(s23_61 s1)++[(17,vI x4.1)],[oX false false 2 (.agg [.ref 1 0 x4.2.2.length,.int .u64 x4.2.1]),oR true 1 (AV.int .u64) x4.2.2,oR true 1 eI s1.2.2],26⟩) [0,1] kr Tryd.func61 rfl (by decide +kernel) rfl kr rfl kr kr (ok_all kr) (fun _=>kr) (fun v=>ok_all kr) kr (fun _=>kr) (fun _=>rfl) kr g_order_least_m0_ok h (fun _=>kr) (fun x4 h=>?_)
   refine sz 1 7 (reg_end rfl (wp_seq (wg [0,1,5,6] [2] (reg_in (sz 2 2 ?_)))))
   refine sgL false [] [] true gE ?_
   refine appR (enc:=eI) (l:=s1.2.2) (m:=([x4.1]:(List Int))) (w:=1) (bytes:=8) (ob:=2) (nr:=true) (fl:=true) (nr':=true) (fl':=true) (b:=.ref 3 0 1) (rds:=[3]) false kr kr kr rfl gE kr h (fun h=>?_)
   refine sz 1 5 (reg_end rfl (reg_in ?_))
   refine sgz 2 2 (S:=⟨(s23_60 s1 x4),[oX false false 2 (.agg [.ref 1 0 x4.2.2.length,.int .u64 x4.2.1]),oR true 1 (AV.int .u64) x4.2.2,.dead,.row false false true true 1 [vI x4.1],oR true 1 eI (s1.2.2++([x4.1]:(List Int)))],26⟩) ?_
   refine recH (f:=79) (fn:=Tryd.f79) (N:=2) (as0:=[.ptr 0 0 0,vI x4.1]) (x4.1,x4.2.1,x4.2.2) (fun v=>[(0,oX false false 2 (.agg [.ref 1 0 v.2.2.length,.int .u64 v.2.1])),(1,oR true 1 (AV.int .u64) v.2.2)]) (fun x5=>⟨(s23_60 s1 x4)++[(24,eL true (fun x:(Int × Int)=>AV.agg [vI x.1,vI x.2]) x5.1)],[oX false false 2 (.agg [.ref 1 0 x5.2.2.length,.int .u64 x5.2.1]),oR true 1 (AV.int .u64) x5.2.2,.dead,.row false false true true 1 [vI x4.1],oR true 1 eI (s1.2.2++([x4.1]:(List Int)))],26⟩) [0,1] kr Tryd.func79 rfl (by decide +kernel) rfl kr rfl kr kr (ok_all kr) (fun _=>kr) (fun v=>ok_all kr) kr (fun _=>kr) (fun _=>rfl) kr g_order_graph_eliminate_m0_ok h (fun _=>kr) (fun x5 h=>?_)
   refine reg_end rfl ?_
   cases h
   exact ⟨_,rfl,(wk_gc (live:=[0,1,5]) (keep:=[4]) kr)⟩
  refine wg [5] [2] ?_
  refine wp_exit ?_
  cases h
  exact ⟨kr,rfl⟩
 intro x7 h out hx
 subst hx
 refine sq ?_
 refine wgc [4] [2] ⟨[(4,.ref 2 0 x7.2.2.length)],(l23_58 x7)++[oR true 1 eI x7.2.2],26⟩ ?_
 refine wp_ret ?_
 cases h
 refine ⟨⟨[(4,z1 x7.2.2)],(l23_58 x7),26⟩,(wk_trans (wk_gc (live:=[4]) (keep:=[2]) (st':=⟨[(4,.ref 2 0 x7.2.2.length)],(l23_58 x7)++[oR true 1 eI x7.2.2],26⟩) (by kernel_rfl)) (wk_trans (wk_snap (st':=⟨[(4,z1 x7.2.2)],(l23_58 x7)++[.row false true true true 1 (List.map eI x7.2.2)],26⟩) 4 (y:=z1 x7.2.2) (ids:=[2]) rfl (snap_full (w:=1) (bx:=false) (ro:=false) (enc:=eI) (l:=x7.2.2) (fl:=true) kr) (by kernel_rfl)) (wk_gc (live:=[4]) (keep:=[]) (st':=⟨[(4,z1 x7.2.2)],(l23_58 x7),26⟩) (by kernel_rfl)))),?_⟩
 exact .inl (by kernel_rfl)
noncomputable abbrev l24_62 (x5 p0:(List Int)):List AObj:=[oX false false 2 (.agg [.ref 1 0 x5.length,.int .u64 (zv ((zv (1*2^min (zt (zn p0)) (IntKind.bits .u64))) - 1))]),oR true 1 (AV.int .u64) x5]
noncomputable abbrev s24_63 (p0:(List Int)):List (Nat×AV):=[(0,eL true (AV.int .u64) p0),(11,eL true (AV.int .u64) p0),(12,.ptr 0 0 0),(5,.ptr 0 0 0),(13,.ptr 0 0 0),(14,.ptr 0 0 0),(15,.fn (.func 59) [.ptr 0 0 0] [])]
theorem g_order_LeastFill_ok (p0:(List Int)) (x:((List Int) × Int)) (h:g_order_LeastFill p0=some x):CallOk Tryd.prog 22 [eL true (AV.int .u64) p0] (.ret (.tup [z1 x.1,vI x.2]) []):=by
 refine fn_ok [[.lst true],[.keep]] Tryd.func22 rfl (by decide +kernel) rfl ?_
 unfold g_order_LeastFill at h
 refine wp_eqB (base':=0) (st':=⟨[(0,eL true (AV.int .u64) p0)],[],17⟩) kr kr ?_
 refine sq (wp_seq (wp_seq (reg_in (sz 1 1 ?_))))
 refine callW bodyB_14 (g_order_Check_ok p0) h (fun x1 _ h=>?_)
 refine sz 1 3 (reg_end rfl (sq ?_))
 refine wbz h (fun q4 h=>?_) (fun q4 h=>?_)
 ·refine wp_seq (wg [4] [] (rn ?_))
  refine wgc [2,3] [] ⟨[(2,.nils),(3,vI x1)],[],17⟩ ?_
  cases h
  exact wp_ret (show fnOut _ _ _ _=_ from by kernel_rfl)
 refine wp_skip (wp_seq (wg [0] [] (reg_in (sz 1 1 ?_))))
 refine inlR (f:=57) (fn:=Tryd.f57) (as0:=[eL true (AV.int .u64) p0]) kr Tryd.func57 rfl (by decide +kernel) rfl ?_
 refine wp_eqB (base':=0) (st':=⟨[(0,eL true (AV.int .u64) p0)],[],12⟩) kr kr ?_
 refine sq (wp_seq (rga hfol (sy 1 1 ?_)))
 refine callW bodyB_38 (g_slices_Clone_uint_uint_ok p0) h (fun x5 _ h=>?_)
 refine sy 2 4 ?_
 refine lenL (enc:=(AV.int .u64)) (l:=p0) (fl:=true) kr gE ?_
 refine shlR (k:=.u64) (k':=.i64) (a:=1) (b:=(zn p0)) kr gE h (fun h=>?_)
 refine sy 2 8 ?_
 refine sgL false [] [] false gE ?_
 refine sy 1 10 (rgd (wg [2] [1,0] ?_))
 refine wp_ret ?_
 refine ⟨⟨[(0,eL true (AV.int .u64) p0),(11,eL true (AV.int .u64) p0),(12,.ptr 0 0 0)],(l24_62 x5 p0),17⟩,by as_aux_lemma=>kernel_rfl,?_⟩
 refine sz 1 3 (reg_end rfl (wp_seq (reg_in ?_)))
 refine sgz 3 3 (S:=⟨(s24_63 p0),(l24_62 x5 p0),17⟩) ?_
 refine recH (f:=58) (fn:=Tryd.f58) (N:=2) (as0:=[.ptr 0 0 0,.fn (.func 59) [.ptr 0 0 0] []]) (zv ((zv (1*2^min (zt (zn p0)) (IntKind.bits .u64))) - 1),x5) (fun v=>[(0,oX false false 2 (.agg [.ref 1 0 v.2.2.length,.int .u64 v.2.1])),(1,oR true 1 (AV.int .u64) v.2.2)]) (fun x7=>⟨(s24_63 p0)++[(16,z1 x7.1)],[oX false false 2 (.agg [.ref 1 0 x7.2.2.length,.int .u64 x7.2.1]),oR true 1 (AV.int .u64) x7.2.2],17⟩) [0,1] kr Tryd.func58 rfl (by decide +kernel) rfl kr rfl kr kr (ok_all kr) (fun _=>kr) (fun v=>ok_all kr) kr (fun _=>kr) (fun _=>rfl) kr g_order_graph_greedy_m0_ok h (fun _=>kr) (fun x7 h=>?_)
 refine sz 2 6 (reg_end rfl (wg [2,3] [] ?_))
 cases h
 exact wp_ret (show fnOut _ _ _ _=_ from by kernel_rfl)
noncomputable abbrev o25_64 (m2:(List Int)) (m1:Int):AObj:=oX false false 2 (.agg [.ref 1 0 m2.length,.int .u64 m1])
noncomputable abbrev o25_65 (m2:(List Int)):AObj:=oR true 1 (AV.int .u64) m2
noncomputable abbrev o25_66:AObj:=oX false false 1 (.fn (.func 60) [.ptr 0 0 0] [])
noncomputable abbrev o25_67 (m0:Int):AObj:=oX true true 1 (.int .u64 m0)
noncomputable abbrev o25_68:AObj:=.loop 25 [(3,.ptr 2 0 0),(5,.ptr 3 0 0),(6,.ptr 4 0 0),(10,.fn (.func 85) [] [.ptr 5 0 0])] [11] (cA Tryd.f61 [true,true,false,true,true]) (cB Tryd.f61 [true,true,false,true,true]) .ready none
noncomputable abbrev o25_69:AObj:=.loop 25 [(3,.ptr 2 0 0),(5,.ptr 3 0 0),(6,.ptr 4 0 0),(10,.fn (.func 85) [] [.ptr 5 0 0])] [11] (cA Tryd.f61 [true,true,false,true,true]) (cB Tryd.f61 [true,true,false,true,true]) .busy none
noncomputable abbrev e25_70:Nat×AV:=(10,.fn (.func 85) [] [.ptr 5 0 0])
noncomputable abbrev l25_71 (a0 a1:AObj) (m2:(List Int)) (m1 m0:Int):List AObj:=[(o25_64 m2 m1),(o25_65 m2),o25_66,a0,a1,(o25_67 m0)]
noncomputable abbrev s25_72:List (Nat×AV):=[(3,.ptr 2 0 0),(5,.ptr 3 0 0),(6,.ptr 4 0 0),e25_70]
theorem g_order_least_m1_ok:RecOk Tryd.prog 2 (Tryd.f61.body.getD .skip) (fun s:(Int × Int × (List Int))=>⟨[(0,.int .u64 s.1),(1,.fn (.func 60) [.ptr 0 0 0] [])],[oX false false 2 (.agg [.ref 1 0 s.2.2.length,.int .u64 s.2.1]),oR true 1 (AV.int .u64) s.2.2],25⟩) (fun v:(Int × Int × (List Int))=>⟨[(4,vI v.1)],[oX false false 2 (.agg [.ref 1 0 v.2.2.length,.int .u64 v.2.1]),oR true 1 (AV.int .u64) v.2.2],25⟩) (fun s=>g_order_least_m1 s.1 s.2.1 s.2.2):=by
 rintro ⟨m0,m1,m2⟩ x h
 change g_order_least_m1 m0 m1 m2=some x at h
 unfold g_order_least_m1 at h
 refine wp_post ?_
 refine wp_eqB (base':=2) (st':=⟨[(0,.int .u64 m0),(1,.fn (.func 60) [.ptr 0 0 0] [])],[(o25_64 m2 m1),(o25_65 m2)],25⟩) kr kr ?_
 refine wp_seq (reg_in ?_)
 refine sgL false [] [] false gE ?_
 refine sz 1 2 (reg_end rfl (sq (wp_seq (wp_seq (reg_in (sz 1 1 ?_))))))
 refine inlR (f:=68) (fn:=Tryd.f68) (as0:=[.int .u64 m0]) kr Tryd.func68 rfl (by decide +kernel) rfl ?_
 refine wp_eqB (base':=5) (st':=⟨[(0,.int .u64 m0)],[(o25_64 m2 m1),(o25_65 m2),o25_66,oX true true 1 (vI (-1)),oX true true 1 (vI 0)],4⟩) kr kr ?_
 refine sq (sq (wg [2] [5] ?_))
 refine wp_ret ?_
 refine ⟨⟨[(0,.int .u64 m0),(1,.fn (.func 60) [.ptr 0 0 0] []),(3,.ptr 2 0 0),(4,vI 0),(5,.ptr 3 0 0),(6,.ptr 4 0 0),(9,.int .u64 m0),e25_70],(l25_71 (oX true true 1 (vI (-1))) (oX true true 1 (vI 0)) m2 m1 m0),25⟩,by as_aux_lemma=>kernel_rfl,?_⟩
 refine reg_end rfl (wp_block ?_)
 refine wgc [3,5,6,10] [2,3,4,5] ⟨s25_72,(l25_71 (oX true true 1 (vI (-1))) (oX true true 1 (vI 0)) m2 m1 m0),25⟩ ?_
 refine wp_range (f:=85) (fn:=Tryd.f85) (first:=[]) (caps:=[.ptr 5 0 0]) rfl Tryd.func85 rfl (by decide +kernel) rfl rfl ?_
 refine wp_eqB (base':=7) (st':=⟨[(0,.yld 6),(1,.ptr 5 0 0)],(l25_71 (oX true true 1 (vI (-1))) (oX true true 1 (vI 0)) m2 m1 m0)++[o25_68],16⟩) kr kr ?_
 refine sq (wp_block ?_)
 refine wwh h (fun s1=>⟨[(0,.yld 6),(3,.int .u64 s1.1)],(l25_71 (oX true true 1 (vI s1.2.1)) (oX true true 1 (vI s1.2.2)) m2 m1 m0)++[o25_68],16⟩) (fun v out=>out=.go (.exit 0) ⟨[],(l25_71 (oX true true 1 (vI v.1)) (oX true true 1 (vI v.2)) m2 m1 m0)++[o25_68],16⟩) (wk_gc (live:=[0,3]) (keep:=[]) kr) ?_ ?_
 ·intro s1 o h
  unfold g_order_least_m1_b0 at h
  refine wp_seq (sq ?_)
  refine wb [6] h (fun q3 h=>?_) (fun q3 h=>?_)
  ·refine wcT (wp_skip (wp_seq (wp_block (wp_seq (reg_in (sz 2 2 ?_))))))
   refine callW bodyB_86 (g_math_bits_TrailingZeros_ok s1.1) h (fun x4 _ h=>?_)
   refine yldR (l:=6) (nt:=25) (us:=[vI x4]) (sl:=[(3,.ptr 2 0 0),(5,.ptr 3 0 0),(6,.ptr 4 0 0),(10,.fn (.func 85) [] [.ptr 5 0 0])]) (ps:=[11]) (assign:=cA Tryd.f61 [true,true,false,true,true]) (body:=cB Tryd.f61 [true,true,false,true,true]) (pe:=none) kr kr rfl ?_
   refine wp_eqB (base':=7) (st':=⟨s25_72++[(11,vI x4)],(l25_71 (oX true true 1 (vI s1.2.1)) (oX true true 1 (vI s1.2.2)) m2 m1 m0)++[o25_68],25⟩) kr kr ?_
   refine rn ?_
   refine ⟨⟨s25_72++[(11,vI x4),(7,vI x4)],(l25_71 (oX true true 1 (vI s1.2.1)) (oX true true 1 (vI s1.2.2)) m2 m1 m0)++[o25_69],25⟩,by as_aux_lemma=>kernel_rfl,?_⟩
   refine wp_block (wp_seq (reg_in ?_))
   refine sgz 2 2 (S:=⟨s25_72++[(11,vI x4),(7,vI x4),(12,.fn (.func 60) [.ptr 0 0 0] []),(13,vI x4)],(l25_71 (oX true true 1 (vI s1.2.1)) (oX true true 1 (vI s1.2.2)) m2 m1 m0)++[o25_69],25⟩) ?_
   refine callR (as0:=[.ptr 0 0 0,vI x4]) (ids:=[0,1]) kr bodyB_60 (msnap_cons (snap_ptr rfl (msnap_cons (snap_agg (msnap_cons (snap_full (w:=1) (bx:=false) (ro:=false) (enc:=(AV.int .u64)) (l:=m2) (fl:=true) kr) (msnap_cons rfl msnap_nil (by rfl)) (by rfl))) msnap_nil (by rfl)) (by rfl) (by rfl)) (msnap_cons rfl msnap_nil (by rfl)) (by rfl)) (fun x6 q7=>g_order_graph_degree_ok (Torder_graph.mk (Torder_neighbours.mk m2) m1) x4 x6 q7) gF h (fun x6 q7 h=>?_)
   refine sz 1 4 (reg_end rfl (wp_seq (wg [5,6,7,8] [] (reg_in (sz 3 3 ?_)))))
   refine rb [16,17] h (fun q9 h=>?_) (fun q9 h=>?_)
   ·refine sz 4 7 (reg_end rfl (wcT (wg [5,6,7,8] [] (rn ?_))))
    refine ⟨⟨[(0,.yld 6),(3,.int .u64 s1.1),(5,.int .u64 s1.1),(6,vB true),(11,.yld 6),(12,.int .u64 s1.1),(13,vI x4),(14,vB true)],(l25_71 (oX true true 1 (vI x4)) (oX true true 1 (vI x6)) m2 m1 m0)++[o25_68],16⟩,by as_aux_lemma=>kernel_rfl,?_⟩
    refine sz 1 5 (reg_end rfl (wcF (wp_skip ?_)))
    refine wgc [0,3] [] ⟨[(0,.yld 6),(3,.int .u64 s1.1)],(l25_71 (oX true true 1 (vI x4)) (oX true true 1 (vI x6)) m2 m1 m0)++[o25_68],16⟩ ?_
    refine rn ?_
    cases h
    exact ⟨_,rfl,(wk_gc (live:=[0,3]) (keep:=[]) kr)⟩
   refine sz 4 7 (reg_end rfl ?_)
   refine wb [20,21] h (fun q11 h=>?_) (fun q11 h=>?_)
   ·refine wcT (wg [5,6,7,8] [] (rn ?_))
    refine ⟨⟨[(0,.yld 6),(3,.int .u64 s1.1),(5,.int .u64 s1.1),(6,vB true),(11,.yld 6),(12,.int .u64 s1.1),(13,vI x4),(14,vB true)],(l25_71 (oX true true 1 (vI x4)) (oX true true 1 (vI x6)) m2 m1 m0)++[o25_68],16⟩,by as_aux_lemma=>kernel_rfl,?_⟩
    refine sz 1 5 (reg_end rfl (wcF (wp_skip ?_)))
    refine wgc [0,3] [] ⟨[(0,.yld 6),(3,.int .u64 s1.1)],(l25_71 (oX true true 1 (vI x4)) (oX true true 1 (vI x6)) m2 m1 m0)++[o25_68],16⟩ ?_
    refine rn ?_
    cases h
    exact ⟨_,rfl,(wk_gc (live:=[0,3]) (keep:=[]) kr)⟩
   refine wcF (wp_skip ?_)
   refine ⟨⟨[(0,.yld 6),(3,.int .u64 s1.1),(5,.int .u64 s1.1),(6,vB true),(11,.yld 6),(12,.int .u64 s1.1),(13,vI x4),(14,vB true)],(l25_71 (oX true true 1 (vI s1.2.1)) (oX true true 1 (vI s1.2.2)) m2 m1 m0)++[o25_68],16⟩,by as_aux_lemma=>kernel_rfl,?_⟩
   refine sz 1 5 (reg_end rfl (wcF (wp_skip ?_)))
   refine wgc [0,3] [] ⟨[(0,.yld 6),(3,.int .u64 s1.1)],(l25_71 (oX true true 1 (vI s1.2.1)) (oX true true 1 (vI s1.2.2)) m2 m1 m0)++[o25_68],16⟩ ?_
   refine rn ?_
   cases h
   exact ⟨_,rfl,(wk_gc (live:=[0,3]) (keep:=[]) kr)⟩
  refine wcF (wg [] [] ?_)
  refine wp_exit ?_
  cases h
  exact ⟨kr,rfl⟩
 intro x13 h out hx
 subst hx
 refine ⟨.go .normal ⟨s25_72,(l25_71 (oX true true 1 (vI x13.1)) (oX true true 1 (vI x13.2)) m2 m1 m0)++[.dead],25⟩,by as_aux_lemma=>kernel_rfl,?_⟩
 refine sq ?_
 refine wgc [4] [] ⟨[(4,vI x13.1)],[(o25_64 m2 m1),(o25_65 m2)],25⟩ ?_
 refine wp_ret ?_
 cases h
 refine ⟨⟨[(4,vI x13.1)],[(o25_64 m2 m1),(o25_65 m2)],25⟩,(wk_gc (live:=[4]) (keep:=[]) (st':=⟨[(4,vI x13.1)],[(o25_64 m2 m1),(o25_65 m2)],25⟩) (by kernel_rfl)),?_⟩
 exact .inl (by kernel_rfl)
noncomputable abbrev e26_73:Nat×AV:=(1,.fn (.func 60) [.ptr 0 0 0] [])
noncomputable abbrev l26_74 (x7:(Int × (List Int) × (List Int))):List AObj:=[oX false false 2 (.agg [.ref 1 0 x7.2.1.length,.int .u64 x7.1]),oR true 1 (AV.int .u64) x7.2.1]
noncomputable abbrev l26_75 (m1:(List Int)) (m0:Int):List AObj:=[oX false false 2 (.agg [.ref 1 0 m1.length,.int .u64 m0]),oR true 1 (AV.int .u64) m1]
noncomputable abbrev s26_76 (s1:(Int × (List Int) × (List Int))) (x4:(Int × Int × (List Int))):List (Nat×AV):=[(0,.ptr 0 0 0),e26_73,(5,.ref 4 0 ((s1.2.2++([x4.1]:(List Int))).length)),(6,vI x4.1),(18,.ref 2 0 s1.2.2.length),(19,vI x4.1),(20,.ref 3 0 1),(21,.ref 4 0 ((s1.2.2++([x4.1]:(List Int))).length)),(22,.ptr 0 0 0),(23,vI x4.1)]
noncomputable abbrev s26_77 (s1:(Int × (List Int) × (List Int))):List (Nat×AV):=[(0,.ptr 0 0 0),e26_73,(5,.ref 2 0 s1.2.2.length),(12,.ptr 0 0 0),(13,.ptr 0 0 0),(14,.ptr 0 0 1),(15,.int .u64 s1.1),(16,.fn (.func 60) [.ptr 0 0 0] [])]
theorem g_order_graph_greedy_m1_ok:RecOk Tryd.prog 2 (Tryd.f58.body.getD .skip) (fun s:(Int × (List Int))=>⟨[(0,.ptr 0 0 0),(1,.fn (.func 60) [.ptr 0 0 0] [])],[oX false false 2 (.agg [.ref 1 0 s.2.length,.int .u64 s.1]),oR true 1 (AV.int .u64) s.2],26⟩) (fun v:((List Int) × Int × (List Int))=>⟨[(4,z1 v.1)],[oX false false 2 (.agg [.ref 1 0 v.2.2.length,.int .u64 v.2.1]),oR true 1 (AV.int .u64) v.2.2],26⟩) (fun s=>g_order_graph_greedy_m1 s.1 s.2):=by
 rintro ⟨m0,m1⟩ x h
 change g_order_graph_greedy_m1 m0 m1=some x at h
 unfold g_order_graph_greedy_m1 at h
 refine wp_post ?_
 refine wp_eqB (base':=2) (st':=⟨[(0,.ptr 0 0 0),e26_73],(l26_75 m1 m0),26⟩) kr kr ?_
 refine sq (sq (wp_seq (wp_block ?_)))
 refine wwh h (fun s1=>⟨[(0,.ptr 0 0 0),e26_73,(5,.ref 2 0 s1.2.2.length)],[oX false false 2 (.agg [.ref 1 0 s1.2.1.length,.int .u64 s1.1]),oR true 1 (AV.int .u64) s1.2.1,oR true 1 eI s1.2.2],26⟩) (fun v out=>out=.go (.exit 0) ⟨[(5,.ref 2 0 v.2.2.length)],[oX false false 2 (.agg [.ref 1 0 v.2.1.length,.int .u64 v.1]),oR true 1 (AV.int .u64) v.2.1,oR true 1 eI v.2.2],26⟩) (wk_trans (wk_gc (live:=[0,1,5]) (keep:=[]) (st':=⟨[(0,.ptr 0 0 0),e26_73,(5,.nils)],(l26_75 m1 m0),26⟩) kr) (wk_trans (wk_nil 5 1 true true (st':=⟨[(0,.ptr 0 0 0),e26_73,(5,.ref 2 0 0)],(l26_75 m1 m0)++[.row false false true true 1 []],26⟩) kr) (wk_gc (live:=[0,1,5]) (keep:=[2]) kr))) ?_ ?_
 ·intro s1 o h
  unfold g_order_graph_greedy_m1_b0 at h
  refine wp_seq (sq ?_)
  refine wbz h (fun q3 h=>?_) (fun q3 h=>?_)
  ·refine wp_skip (wp_block (wp_seq (wg [0,1,5] [2] (reg_in ?_))))
   refine sgz 5 5 (S:=⟨(s26_77 s1),[oX false false 2 (.agg [.ref 1 0 s1.2.1.length,.int .u64 s1.1]),oR true 1 (AV.int .u64) s1.2.1,oR true 1 eI s1.2.2],26⟩) ?_
   refine recH (f:=61) (fn:=Tryd.f61) (N:=2) (as0:=[.int .u64 s1.1,.fn (.func 60) [.ptr 0 0 0] []]) (s1.1,s1.1,s1.2.1) (fun v=>[(0,oX false false 2 (.agg [.ref 1 0 v.2.2.length,.int .u64 v.2.1])),(1,oR true 1 (AV.int .u64) v.2.2)]) (fun x4=>⟨(s26_77 s1)++[(17,vI x4.1)],[oX false false 2 (.agg [.ref 1 0 x4.2.2.length,.int .u64 x4.2.1]),oR true 1 (AV.int .u64) x4.2.2,oR true 1 eI s1.2.2],26⟩) [0,1] kr Tryd.func61 rfl (by decide +kernel) rfl kr rfl kr kr (ok_all kr) (fun _=>kr) (fun v=>ok_all kr) kr (fun _=>kr) (fun _=>rfl) kr g_order_least_m1_ok h (fun _=>kr) (fun x4 h=>?_)
   refine sz 1 7 (reg_end rfl (wp_seq (wg [0,1,5,6] [2] (reg_in (sz 2 2 ?_)))))
   refine sgL false [] [] true gE ?_
   refine appR (enc:=eI) (l:=s1.2.2) (m:=([x4.1]:(List Int))) (w:=1) (bytes:=8) (ob:=2) (nr:=true) (fl:=true) (nr':=true) (fl':=true) (b:=.ref 3 0 1) (rds:=[3]) false kr kr kr rfl gE kr h (fun h=>?_)
   refine sz 1 5 (reg_end rfl (reg_in ?_))
   refine sgz 2 2 (S:=⟨(s26_76 s1 x4),[oX false false 2 (.agg [.ref 1 0 x4.2.2.length,.int .u64 x4.2.1]),oR true 1 (AV.int .u64) x4.2.2,.dead,.row false false true true 1 [vI x4.1],oR true 1 eI (s1.2.2++([x4.1]:(List Int)))],26⟩) ?_
   refine recH (f:=79) (fn:=Tryd.f79) (N:=2) (as0:=[.ptr 0 0 0,vI x4.1]) (x4.1,x4.2.1,x4.2.2) (fun v=>[(0,oX false false 2 (.agg [.ref 1 0 v.2.2.length,.int .u64 v.2.1])),(1,oR true 1 (AV.int .u64) v.2.2)]) (fun x5=>⟨(s26_76 s1 x4)++[(24,eL true (fun x:(Int × Int)=>AV.agg [vI x.1,vI x.2]) x5.1)],[oX false false 2 (.agg [.ref 1 0 x5.2.2.length,.int .u64 x5.2.1]),oR true 1 (AV.int .u64) x5.2.2,.dead,.row false false true true 1 [vI x4.1],oR true 1 eI (s1.2.2++([x4.1]:(List Int)))],26⟩) [0,1] kr Tryd.func79 rfl (by decide +kernel) rfl kr rfl kr kr (ok_all kr) (fun _=>kr) (fun v=>ok_all kr) kr (fun _=>kr) (fun _=>rfl) kr g_order_graph_eliminate_m0_ok h (fun _=>kr) (fun x5 h=>?_)
   refine reg_end rfl ?_
   cases h
   exact ⟨_,rfl,(wk_gc (live:=[0,1,5]) (keep:=[4]) kr)⟩
  refine wg [5] [2] ?_
  refine wp_exit ?_
  cases h
  exact ⟨kr,rfl⟩
 intro x7 h out hx
 subst hx
 refine sq ?_
 refine wgc [4] [2] ⟨[(4,.ref 2 0 x7.2.2.length)],(l26_74 x7)++[oR true 1 eI x7.2.2],26⟩ ?_
 refine wp_ret ?_
 cases h
 refine ⟨⟨[(4,z1 x7.2.2)],(l26_74 x7),26⟩,(wk_trans (wk_gc (live:=[4]) (keep:=[2]) (st':=⟨[(4,.ref 2 0 x7.2.2.length)],(l26_74 x7)++[oR true 1 eI x7.2.2],26⟩) (by kernel_rfl)) (wk_trans (wk_snap (st':=⟨[(4,z1 x7.2.2)],(l26_74 x7)++[.row false true true true 1 (List.map eI x7.2.2)],26⟩) 4 (y:=z1 x7.2.2) (ids:=[2]) rfl (snap_full (w:=1) (bx:=false) (ro:=false) (enc:=eI) (l:=x7.2.2) (fl:=true) kr) (by kernel_rfl)) (wk_gc (live:=[4]) (keep:=[]) (st':=⟨[(4,z1 x7.2.2)],(l26_74 x7),26⟩) (by kernel_rfl)))),?_⟩
 exact .inl (by kernel_rfl)
noncomputable abbrev l27_78 (x5 p0:(List Int)):List AObj:=[oX false false 2 (.agg [.ref 1 0 x5.length,.int .u64 (zv ((zv (1*2^min (zt (zn p0)) (IntKind.bits .u64))) - 1))]),oR true 1 (AV.int .u64) x5]
noncomputable abbrev s27_79 (p0:(List Int)):List (Nat×AV):=[(0,eL true (AV.int .u64) p0),(11,eL true (AV.int .u64) p0),(12,.ptr 0 0 0),(5,.ptr 0 0 0),(13,.ptr 0 0 0),(14,.ptr 0 0 0),(15,.fn (.func 60) [.ptr 0 0 0] [])]
theorem g_order_LeastDegree_ok (p0:(List Int)) (x:((List Int) × Int)) (h:g_order_LeastDegree p0=some x):CallOk Tryd.prog 23 [eL true (AV.int .u64) p0] (.ret (.tup [z1 x.1,vI x.2]) []):=by
 refine fn_ok [[.lst true],[.keep]] Tryd.func23 rfl (by decide +kernel) rfl ?_
 unfold g_order_LeastDegree at h
 refine wp_eqB (base':=0) (st':=⟨[(0,eL true (AV.int .u64) p0)],[],17⟩) kr kr ?_
 refine sq (wp_seq (wp_seq (reg_in (sz 1 1 ?_))))
 refine callW bodyB_14 (g_order_Check_ok p0) h (fun x1 _ h=>?_)
 refine sz 1 3 (reg_end rfl (sq ?_))
 refine wbz h (fun q4 h=>?_) (fun q4 h=>?_)
 ·refine wp_seq (wg [4] [] (rn ?_))
  refine wgc [2,3] [] ⟨[(2,.nils),(3,vI x1)],[],17⟩ ?_
  cases h
  exact wp_ret (show fnOut _ _ _ _=_ from by kernel_rfl)
 refine wp_skip (wp_seq (wg [0] [] (reg_in (sz 1 1 ?_))))
 refine inlR (f:=57) (fn:=Tryd.f57) (as0:=[eL true (AV.int .u64) p0]) kr Tryd.func57 rfl (by decide +kernel) rfl ?_
 refine wp_eqB (base':=0) (st':=⟨[(0,eL true (AV.int .u64) p0)],[],12⟩) kr kr ?_
 refine sq (wp_seq (rga hfol (sy 1 1 ?_)))
 refine callW bodyB_38 (g_slices_Clone_uint_uint_ok p0) h (fun x5 _ h=>?_)
 refine sy 2 4 ?_
 refine lenL (enc:=(AV.int .u64)) (l:=p0) (fl:=true) kr gE ?_
 refine shlR (k:=.u64) (k':=.i64) (a:=1) (b:=(zn p0)) kr gE h (fun h=>?_)
 refine sy 2 8 ?_
 refine sgL false [] [] false gE ?_
 refine sy 1 10 (rgd (wg [2] [1,0] ?_))
 refine wp_ret ?_
 refine ⟨⟨[(0,eL true (AV.int .u64) p0),(11,eL true (AV.int .u64) p0),(12,.ptr 0 0 0)],(l27_78 x5 p0),17⟩,by as_aux_lemma=>kernel_rfl,?_⟩
 refine sz 1 3 (reg_end rfl (wp_seq (reg_in ?_)))
 refine sgz 3 3 (S:=⟨(s27_79 p0),(l27_78 x5 p0),17⟩) ?_
 refine recH (f:=58) (fn:=Tryd.f58) (N:=2) (as0:=[.ptr 0 0 0,.fn (.func 60) [.ptr 0 0 0] []]) (zv ((zv (1*2^min (zt (zn p0)) (IntKind.bits .u64))) - 1),x5) (fun v=>[(0,oX false false 2 (.agg [.ref 1 0 v.2.2.length,.int .u64 v.2.1])),(1,oR true 1 (AV.int .u64) v.2.2)]) (fun x7=>⟨(s27_79 p0)++[(16,z1 x7.1)],[oX false false 2 (.agg [.ref 1 0 x7.2.2.length,.int .u64 x7.2.1]),oR true 1 (AV.int .u64) x7.2.2],17⟩) [0,1] kr Tryd.func58 rfl (by decide +kernel) rfl kr rfl kr kr (ok_all kr) (fun _=>kr) (fun v=>ok_all kr) kr (fun _=>kr) (fun _=>rfl) kr g_order_graph_greedy_m1_ok h (fun _=>kr) (fun x7 h=>?_)
 refine sz 2 6 (reg_end rfl (wg [2,3] [] ?_))
 cases h
 exact wp_ret (show fnOut _ _ _ _=_ from by kernel_rfl)
noncomputable abbrev i28_80 (a1 m1:Int):Int:=(zv (BitVec.ofInt (IntKind.bits .u64) a1 &&& ~~~ BitVec.ofInt (IntKind.bits .u64) (zv (1*2^min (zt m1) (IntKind.bits .u64)))).toNat)
noncomputable abbrev i28_81 (a8 m1:Int):Int:=(zv (BitVec.ofInt (IntKind.bits .u64) a8 ||| BitVec.ofInt (IntKind.bits .u64) (zv (1*2^min (zt m1) (IntKind.bits .u64)))).toNat)
noncomputable abbrev i28_82 (a10 x6:Int):Int:=(zv (BitVec.ofInt (IntKind.bits .u64) a10 ||| BitVec.ofInt (IntKind.bits .u64) (zv (1*2^min (zt x6) (IntKind.bits .u64)))).toNat)
noncomputable abbrev o28_83 (m3:(List Int)) (m2:Int):AObj:=oX false false 2 (.agg [.ref 1 0 m3.length,.int .u64 m2])
noncomputable abbrev o28_84:AObj:=oX false false 1 (.ptr 0 0 0)
noncomputable abbrev o28_85 (m1:Int):AObj:=oX true true 1 (vI m1)
noncomputable abbrev o28_86 (a1 m1:Int):AObj:=oX true true 1 (.int .u64 (i28_80 a1 m1))
noncomputable abbrev o28_87:AObj:=.loop 44 [(3,.ptr 2 0 0),(5,.ptr 3 0 0),(18,.fn (.func 85) [] [.ptr 4 0 0])] [19] (cA Tryd.f62 [true,true,true]) (cB Tryd.f62 [true,true,true]) .ready none
noncomputable abbrev o28_88:AObj:=.loop 44 [(3,.ptr 2 0 0),(5,.ptr 3 0 0),(18,.fn (.func 85) [] [.ptr 4 0 0])] [19] (cA Tryd.f62 [true,true,true]) (cB Tryd.f62 [true,true,true]) .busy none
noncomputable abbrev e28_89:Nat×AV:=(18,.fn (.func 85) [] [.ptr 4 0 0])
noncomputable abbrev l28_90 (w0 w1:AObj) (m1 a1:Int):List AObj:=[w0,w1,o28_84,(o28_85 m1),(o28_86 a1 m1)]
noncomputable abbrev s28_91:List (Nat×AV):=[(3,.ptr 2 0 0),(5,.ptr 3 0 0),e28_89]
theorem g_order_graph_contract_m0_ok:RecOk Tryd.prog 2 (Tryd.f62.body.getD .skip) (fun s:(Int × Int × Int × (List Int))=>⟨[(0,.ptr 0 0 0),(1,vI s.1),(2,vI s.2.1)],[oX false false 2 (.agg [.ref 1 0 s.2.2.2.length,.int .u64 s.2.2.1]),oR true 1 (AV.int .u64) s.2.2.2],44⟩) (fun v:(Int × (List Int))=>⟨[],[oX false false 2 (.agg [.ref 1 0 v.2.length,.int .u64 v.1]),oR true 1 (AV.int .u64) v.2],44⟩) (fun s=>g_order_graph_contract_m0 s.1 s.2.1 s.2.2.1 s.2.2.2):=by
 rintro ⟨m0,m1,m2,m3⟩ x h
 change g_order_graph_contract_m0 m0 m1 m2 m3=some x at h
 unfold g_order_graph_contract_m0 at h
 refine wp_post ?_
 refine wp_eqB (base':=2) (st':=⟨[(0,.ptr 0 0 0),(1,vI m0),(2,vI m1)],[(o28_83 m3 m2),oR true 1 (AV.int .u64) m3],44⟩) kr kr ?_
 refine wp_seq (reg_in ?_)
 refine sgL false [] [] false gE ?_
 refine sz 1 2 (reg_end rfl (wp_seq (rga hfol (sy 6 6 ?_))))
 refine bind_elim h (fun a1 q2 h=>?_)
 refine idxR' (enc:=(AV.int .u64)) (l:=m3) (n:=m0) (w:=1) (ob:=1) (ro:=false) (nr:=true) (fl:=true) (a:=a1) kr kr gE q2 ?_
 refine loadR (enc:=(AV.int .u64)) (l:=m3) (n:=m0) (w:=1) (ob:=1) (c:=0) (bx:=false) (ro:=false) (nr:=true) (fl:=true) (a:=a1) kr kr q2 gE ?_
 refine sy 1 9 ?_
 refine shlR (k:=.u64) (k':=.i64) (a:=1) (b:=m1) kr gE h (fun h=>?_)
 refine sy 1 11 ?_
 refine inlN (f:=68) (fn:=Tryd.f68) (as0:=[.int .u64 (i28_80 a1 m1)]) kr kr Tryd.func68 rfl (by decide +kernel) rfl ?_
 refine wp_eqB (base':=4) (st':=⟨[(0,.int .u64 (i28_80 a1 m1))],[.dead,.dead,.dead,.dead],4⟩) kr kr ?_
 refine sq (sq (wg [2] [4] ?_))
 refine wp_ret ?_
 refine ⟨⟨[(0,.ptr 0 0 0),(1,vI m0),(2,vI m1),(3,.ptr 2 0 0),(5,.ptr 3 0 0),(7,.ptr 0 0 0),(8,.ptr 0 0 0),(9,.ptr 0 0 0),(10,.ptr 0 0 0),(11,.ref 1 0 m3.length),(12,vI m0),(13,.ptr 1 (zt m0) 0),(14,.int .u64 a1),(15,vI m1),(16,.int .u64 (zv (1*2^min (zt m1) (IntKind.bits .u64)))),(17,.int .u64 (i28_80 a1 m1)),e28_89],(l28_90 (o28_83 m3 m2) (oR true 1 (AV.int .u64) m3) m1 a1),44⟩,by as_aux_lemma=>kernel_rfl,?_⟩
 refine rgd (wp_block ?_)
 refine wgc [3,5,18] [2,3,4] ⟨s28_91,(l28_90 (o28_83 m3 m2) (oR true 1 (AV.int .u64) m3) m1 a1),44⟩ ?_
 refine wp_range (f:=85) (fn:=Tryd.f85) (first:=[]) (caps:=[.ptr 4 0 0]) rfl Tryd.func85 rfl (by decide +kernel) rfl rfl ?_
 refine wp_eqB (base':=6) (st':=⟨[(0,.yld 5),(1,.ptr 4 0 0)],(l28_90 (o28_83 m3 m2) (oR true 1 (AV.int .u64) m3) m1 a1)++[o28_87],16⟩) kr kr ?_
 refine sq (wp_block ?_)
 refine wwh h (fun s3=>⟨[(0,.yld 5),(3,.int .u64 s3.1)],(l28_90 (oX false false 2 (.agg [.ref 1 0 s3.2.length,.int .u64 m2])) (oR true 1 (AV.int .u64) s3.2) m1 a1)++[o28_87],16⟩) (fun v out=>out=.go (.exit 0) ⟨[],(l28_90 (oX false false 2 (.agg [.ref 1 0 v.length,.int .u64 m2])) (oR true 1 (AV.int .u64) v) m1 a1)++[o28_87],16⟩) (wk_gc (live:=[0,3]) (keep:=[]) kr) ?_ ?_
 ·intro s3 o h
  unfold g_order_graph_contract_m0_b0 at h
  refine wp_seq (sq ?_)
  refine wb [6] h (fun q5 h=>?_) (fun q5 h=>?_)
  ·refine wcT (wp_skip (wp_seq (wp_block (wp_seq (reg_in (sz 2 2 ?_))))))
   refine callW bodyB_86 (g_math_bits_TrailingZeros_ok s3.1) h (fun x6 _ h=>?_)
   refine yldR (l:=5) (nt:=44) (us:=[vI x6]) (sl:=[(3,.ptr 2 0 0),(5,.ptr 3 0 0),(18,.fn (.func 85) [] [.ptr 4 0 0])]) (ps:=[19]) (assign:=cA Tryd.f62 [true,true,true]) (body:=cB Tryd.f62 [true,true,true]) (pe:=none) kr kr rfl ?_
   refine wp_eqB (base':=6) (st':=⟨s28_91++[(19,vI x6)],(l28_90 (oX false false 2 (.agg [.ref 1 0 s3.2.length,.int .u64 m2])) (oR true 1 (AV.int .u64) s3.2) m1 a1)++[o28_87],44⟩) kr kr ?_
   refine rn ?_
   refine ⟨⟨s28_91++[(19,vI x6),(6,vI x6)],(l28_90 (oX false false 2 (.agg [.ref 1 0 s3.2.length,.int .u64 m2])) (oR true 1 (AV.int .u64) s3.2) m1 a1)++[o28_88],44⟩,by as_aux_lemma=>kernel_rfl,?_⟩
   refine wp_block (wp_seq (rga hfol (sy 6 6 ?_)))
   refine bind_elim h (fun a8 q9 h=>?_)
   refine idxR' (enc:=(AV.int .u64)) (l:=s3.2) (n:=x6) (w:=1) (ob:=1) (ro:=false) (nr:=true) (fl:=true) (a:=a8) kr kr gE q9 ?_
   refine loadR (enc:=(AV.int .u64)) (l:=s3.2) (n:=x6) (w:=1) (ob:=1) (c:=0) (bx:=false) (ro:=false) (nr:=true) (fl:=true) (a:=a8) kr kr q9 gE ?_
   refine sy 1 9 ?_
   refine shlR (k:=.u64) (k':=.i64) (a:=1) (b:=m1) kr gE h (fun h=>?_)
   refine sy 1 11 ?_
   refine idxR' (enc:=(AV.int .u64)) (l:=s3.2) (n:=x6) (w:=1) (ob:=1) (ro:=false) (nr:=true) (fl:=true) (a:=a8) kr kr gE q9 ?_
   refine storeR (enc:=(AV.int .u64)) (l:=s3.2) (n:=x6) (ob:=1) (w:=1) (bx:=false) (nr:=true) (fl:=true) (c:=0) (a:=a8) (a':=zv (BitVec.ofInt (IntKind.bits .u64) a8 ||| BitVec.ofInt (IntKind.bits .u64) (zv (1*2^min (zt m1) (IntKind.bits .u64)))).toNat) (v:=.int .u64 (i28_81 a8 m1)) false kr kr q9 kr rfl kr gE kr ?_
   refine rknN (n:=s3.2.length) (m:=(List.set s3.2 (zt x6) (i28_81 a8 m1)).length) (S:=fun n13=>⟨s28_91++[(19,vI x6),(6,vI x6),(20,.ptr 0 0 0),(21,.ptr 0 0 0),(22,.ptr 0 0 0),(23,.ptr 0 0 0),(24,.ref 1 0 n13),(25,vI x6),(26,.ptr 1 (zt x6) 0),(27,.int .u64 a8),(28,vI m1),(29,.int .u64 (zv (1*2^min (zt m1) (IntKind.bits .u64)))),(30,.int .u64 (i28_81 a8 m1)),(31,.ptr 1 (zt x6) 0)],(l28_90 (oX false false 2 (.agg [.ref 1 0 n13,.int .u64 m2])) (oR true 1 (AV.int .u64) (List.set s3.2 (zt x6) (i28_81 a8 m1))) m1 a1)++[o28_88],44⟩) (by simp only [List.length_set]) ?_
   refine rgd (wg [3,5,6] [] (rga hfol (sy 6 6 ?_)))
   refine bind_elim h (fun a10 q11 h=>?_)
   refine idxR' (enc:=(AV.int .u64)) (l:=(List.set s3.2 (zt x6) (i28_81 a8 m1))) (n:=m1) (w:=1) (ob:=1) (ro:=false) (nr:=true) (fl:=true) (a:=a10) kr kr gE q11 ?_
   refine loadR (enc:=(AV.int .u64)) (l:=(List.set s3.2 (zt x6) (i28_81 a8 m1))) (n:=m1) (w:=1) (ob:=1) (c:=0) (bx:=false) (ro:=false) (nr:=true) (fl:=true) (a:=a10) kr kr q11 gE ?_
   refine sy 1 9 ?_
   refine shlR (k:=.u64) (k':=.i64) (a:=1) (b:=x6) kr gE h (fun h=>?_)
   refine sy 1 11 ?_
   refine idxR' (enc:=(AV.int .u64)) (l:=(List.set s3.2 (zt x6) (i28_81 a8 m1))) (n:=m1) (w:=1) (ob:=1) (ro:=false) (nr:=true) (fl:=true) (a:=a10) kr kr gE q11 ?_
   refine storeR (enc:=(AV.int .u64)) (l:=(List.set s3.2 (zt x6) (i28_81 a8 m1))) (n:=m1) (ob:=1) (w:=1) (bx:=false) (nr:=true) (fl:=true) (c:=0) (a:=a10) (a':=zv (BitVec.ofInt (IntKind.bits .u64) a10 ||| BitVec.ofInt (IntKind.bits .u64) (zv (1*2^min (zt x6) (IntKind.bits .u64)))).toNat) (v:=.int .u64 (i28_82 a10 x6)) false kr kr q11 kr rfl kr gE kr ?_
   refine rknN (n:=(List.set s3.2 (zt x6) (i28_81 a8 m1)).length) (m:=(List.set (List.set s3.2 (zt x6) (i28_81 a8 m1)) (zt m1) (i28_82 a10 x6)).length) (S:=fun n12=>⟨[(3,.ptr 2 0 0),(5,.ptr 3 0 0),(6,vI x6),(32,.ptr 0 0 0),(33,.ptr 0 0 0),(34,.ptr 0 0 0),(35,.ptr 0 0 0),(36,.ref 1 0 n12),(37,vI m1),(38,.ptr 1 (zt m1) 0),(39,.int .u64 a10),(40,vI x6),(41,.int .u64 (zv (1*2^min (zt x6) (IntKind.bits .u64)))),(42,.int .u64 (i28_82 a10 x6)),(43,.ptr 1 (zt m1) 0)],(l28_90 (oX false false 2 (.agg [.ref 1 0 n12,.int .u64 m2])) (oR true 1 (AV.int .u64) (List.set (List.set s3.2 (zt x6) (i28_81 a8 m1)) (zt m1) (i28_82 a10 x6))) m1 a1)++[o28_88],44⟩) (by simp only [List.length_set]) ?_
   refine rgd ?_
   refine ⟨⟨[(0,.yld 5),(3,.int .u64 s3.1),(5,.int .u64 s3.1),(6,vB true),(11,.yld 5),(12,.int .u64 s3.1),(13,vI x6),(14,vB true)],(l28_90 (oX false false 2 (.agg [.ref 1 0 ((List.set (List.set s3.2 (zt x6) (i28_81 a8 m1)) (zt m1) (i28_82 a10 x6)).length),.int .u64 m2])) (oR true 1 (AV.int .u64) (List.set (List.set s3.2 (zt x6) (i28_81 a8 m1)) (zt m1) (i28_82 a10 x6))) m1 a1)++[o28_87],16⟩,by as_aux_lemma=>kernel_rfl,?_⟩
   refine sz 1 5 (reg_end rfl (wcF (wp_skip (wg [0,3] [] (rn ?_)))))
   cases h
   exact ⟨_,rfl,(wk_gc (live:=[0,3]) (keep:=[]) kr)⟩
  refine wcF (wg [] [] ?_)
  refine wp_exit ?_
  cases h
  exact ⟨kr,rfl⟩
 intro x15 h out hx
 subst hx
 refine ⟨.go .normal ⟨s28_91,(l28_90 (oX false false 2 (.agg [.ref 1 0 x15.length,.int .u64 m2])) (oR true 1 (AV.int .u64) x15) m1 a1)++[.dead],44⟩,by as_aux_lemma=>kernel_rfl,?_⟩
 cases h
 refine ⟨⟨[],[oX false false 2 (.agg [.ref 1 0 x15.length,.int .u64 m2]),oR true 1 (AV.int .u64) x15],44⟩,(wk_gc (live:=[]) (keep:=[]) (st':=⟨[],[oX false false 2 (.agg [.ref 1 0 x15.length,.int .u64 m2]),oR true 1 (AV.int .u64) x15],44⟩) (by kernel_rfl)),?_⟩
 exact .inr (by kernel_rfl)
noncomputable abbrev o29_92 (x10:(Int × Int × (List Int))):AObj:=oX false false 2 (.agg [.ref 1 0 x10.2.2.length,.int .u64 x10.2.1])
noncomputable abbrev e29_93 (x11:Int) (s7:(Int × Int × (List Int))):Nat×AV:=(5,vI (if x11 > s7.1 then x11 else s7.1))
noncomputable abbrev l29_94 (x10:(Int × Int × (List Int))):List AObj:=[(o29_92 x10),oR true 1 (AV.int .u64) x10.2.2]
noncomputable abbrev s29_95 (x11:Int) (s7 x10:(Int × Int × (List Int))) (a13:Int):List (Nat×AV):=[(e29_93 x11 s7),(6,.ptr 0 0 0),(7,vI x10.1),(41,.ptr 0 0 0),(42,vI x10.1),(43,.ptr 0 0 0),(44,.ptr 0 0 0),(45,.ptr 0 0 0),(46,.ptr 0 0 0),(47,.ref 1 0 x10.2.2.length),(48,vI x10.1),(49,.ptr 1 (zt x10.1) 0),(50,.int .u64 a13),(51,.ptr 0 0 0),(52,.fn (.func 60) [.ptr 0 0 0] [])]
noncomputable abbrev s29_96 (x11:Int) (s7 x10:(Int × Int × (List Int))):List (Nat×AV):=[(e29_93 x11 s7),(6,.ptr 0 0 0),(7,vI x10.1),(55,.ptr 0 0 0),(56,vI x10.1)]
noncomputable abbrev s29_97 (s7:(Int × Int × (List Int))):List (Nat×AV):=[(5,vI s7.1),(6,.ptr 0 0 0),(20,.ptr 0 0 0),(21,.ptr 0 0 0),(22,.ptr 0 0 1),(23,.int .u64 s7.2.1),(24,.ptr 0 0 0),(25,.fn (.func 60) [.ptr 0 0 0] [])]
theorem g_order_Low_ok (p0:(List Int)) (x:(Int × Int)) (h:g_order_Low p0=some x):CallOk Tryd.prog 24 [eL true (AV.int .u64) p0] (.ret (.tup [vI x.1,vI x.2]) []):=by
 refine fn_ok [] Tryd.func24 rfl (by decide +kernel) rfl ?_
 unfold g_order_Low at h
 refine wp_eqB (base':=0) (st':=⟨[(0,eL true (AV.int .u64) p0)],[],59⟩) kr kr ?_
 refine sq (wp_seq (wp_seq (reg_in (sz 1 1 ?_))))
 refine callW bodyB_14 (g_order_Check_ok p0) h (fun x1 _ h=>?_)
 refine sz 1 3 (reg_end rfl (sq ?_))
 refine wbz h (fun q4 h=>?_) (fun q4 h=>?_)
 ·refine wp_seq (wg [4] [] (rn ?_))
  refine wgc [2,3] [] ⟨[(2,vI 0),(3,vI x1)],[],59⟩ ?_
  cases h
  exact wp_ret (show fnOut _ _ _ _=_ from by kernel_rfl)
 refine wp_skip (wp_seq (wg [0] [] (reg_in (sz 1 1 ?_))))
 refine inlR (f:=57) (fn:=Tryd.f57) (as0:=[eL true (AV.int .u64) p0]) kr Tryd.func57 rfl (by decide +kernel) rfl ?_
 refine wp_eqB (base':=0) (st':=⟨[(0,eL true (AV.int .u64) p0)],[],12⟩) kr kr ?_
 refine sq (wp_seq (rga hfol (sy 1 1 ?_)))
 refine callW bodyB_38 (g_slices_Clone_uint_uint_ok p0) h (fun x5 _ h=>?_)
 refine sy 2 4 ?_
 refine lenL (enc:=(AV.int .u64)) (l:=p0) (fl:=true) kr gE ?_
 refine shlR (k:=.u64) (k':=.i64) (a:=1) (b:=(zn p0)) kr gE h (fun h=>?_)
 refine sy 2 8 ?_
 refine sgL false [] [] false gE ?_
 refine sy 1 10 (rgd (wg [2] [1,0] ?_))
 refine wp_ret ?_
 refine ⟨⟨[(0,eL true (AV.int .u64) p0),(13,eL true (AV.int .u64) p0),(14,.ptr 0 0 0)],[oX false false 2 (.agg [.ref 1 0 x5.length,.int .u64 (zv ((zv (1*2^min (zt (zn p0)) (IntKind.bits .u64))) - 1))]),oR true 1 (AV.int .u64) x5],59⟩,by as_aux_lemma=>kernel_rfl,?_⟩
 refine sz 2 4 (reg_end rfl (wp_seq (wp_block ?_)))
 refine wwh h (fun s7=>⟨[(5,vI s7.1),(6,.ptr 0 0 0)],[oX false false 2 (.agg [.ref 1 0 s7.2.2.length,.int .u64 s7.2.1]),oR true 1 (AV.int .u64) s7.2.2],59⟩) (fun v out=>out=.go (.exit 0) ⟨[(5,vI v)],[],59⟩) (wk_gc (live:=[5,6]) (keep:=[0,1]) kr) ?_ ?_
 ·intro s7 o h
  unfold g_order_Low_b0 at h
  refine wp_seq (sq ?_)
  refine wbz h (fun q9 h=>?_) (fun q9 h=>?_)
  ·refine wp_skip (wp_block (wp_seq (wg [5,6] [0,1] (reg_in ?_))))
   refine sgz 6 6 (S:=⟨(s29_97 s7),[oX false false 2 (.agg [.ref 1 0 s7.2.2.length,.int .u64 s7.2.1]),oR true 1 (AV.int .u64) s7.2.2],59⟩) ?_
   refine recH (f:=61) (fn:=Tryd.f61) (N:=2) (as0:=[.int .u64 s7.2.1,.fn (.func 60) [.ptr 0 0 0] []]) (s7.2.1,s7.2.1,s7.2.2) (fun v=>[(0,oX false false 2 (.agg [.ref 1 0 v.2.2.length,.int .u64 v.2.1])),(1,oR true 1 (AV.int .u64) v.2.2)]) (fun x10=>⟨(s29_97 s7)++[(26,vI x10.1)],(l29_94 x10),59⟩) [0,1] kr Tryd.func61 rfl (by decide +kernel) rfl kr rfl kr kr (ok_all kr) (fun _=>kr) (fun v=>ok_all kr) kr (fun _=>kr) (fun _=>rfl) kr g_order_least_m1_ok h (fun _=>kr) (fun x10 h=>?_)
   refine sz 1 8 (reg_end rfl (wp_seq (wg [5,6,7] [0,1] (reg_in ?_))))
   refine sgz 3 3 (S:=⟨[(5,vI s7.1),(6,.ptr 0 0 0),(7,vI x10.1),(27,vI s7.1),(28,.ptr 0 0 0),(29,vI x10.1)],(l29_94 x10),59⟩) ?_
   refine callR (as0:=[.ptr 0 0 0,vI x10.1]) (ids:=[0,1]) kr bodyB_60 (msnap_cons (snap_ptr rfl (msnap_cons (snap_agg (msnap_cons (snap_full (w:=1) (bx:=false) (ro:=false) (enc:=(AV.int .u64)) (l:=x10.2.2) (fl:=true) kr) (msnap_cons rfl msnap_nil (by rfl)) (by rfl))) msnap_nil (by rfl)) (by rfl) (by rfl)) (msnap_cons rfl msnap_nil (by rfl)) (by rfl)) (fun x11 q12=>g_order_graph_degree_ok (Torder_graph.mk (Torder_neighbours.mk x10.2.2) x10.2.1) x10.1 x11 q12) gF h (fun x11 q12 h=>?_)
   refine sz 2 6 (reg_end rfl (wp_seq (wp_seq (wg [5,6,7] [0,1] (reg_in (sz 6 6 ?_))))))
   refine bind_elim h (fun a13 q14 h=>?_)
   refine idxR' (enc:=(AV.int .u64)) (l:=x10.2.2) (n:=x10.1) (w:=1) (ob:=1) (ro:=false) (nr:=true) (fl:=true) (a:=a13) kr kr gE q14 ?_
   refine loadR (enc:=(AV.int .u64)) (l:=x10.2.2) (n:=x10.1) (w:=1) (ob:=1) (c:=0) (bx:=false) (ro:=false) (nr:=true) (fl:=true) (a:=a13) kr kr q14 gE ?_
   refine sz 1 9 (reg_end rfl ?_)
   refine wbz h (fun q16 h=>?_) (fun q16 h=>?_)
   ·refine wgc [5,6,7] [0,1] ⟨[(e29_93 x11 s7),(6,.ptr 0 0 0),(7,vI x10.1)],(l29_94 x10),59⟩ ?_
    refine reg_in (sz 8 8 ?_)
    refine idxR' (enc:=(AV.int .u64)) (l:=x10.2.2) (n:=x10.1) (w:=1) (ob:=1) (ro:=false) (nr:=true) (fl:=true) (a:=a13) kr kr gE q14 ?_
    refine loadR (enc:=(AV.int .u64)) (l:=x10.2.2) (n:=x10.1) (w:=1) (ob:=1) (c:=0) (bx:=false) (ro:=false) (nr:=true) (fl:=true) (a:=a13) kr kr q14 gE ?_
    refine sgz 2 12 (S:=⟨(s29_95 x11 s7 x10 a13),(l29_94 x10),59⟩) ?_
    refine recH (f:=61) (fn:=Tryd.f61) (N:=2) (as0:=[.int .u64 a13,.fn (.func 60) [.ptr 0 0 0] []]) (a13,x10.2.1,x10.2.2) (fun v=>[(0,oX false false 2 (.agg [.ref 1 0 v.2.2.length,.int .u64 v.2.1])),(1,oR true 1 (AV.int .u64) v.2.2)]) (fun x17=>⟨(s29_95 x11 s7 x10 a13)++[(53,vI x17.1)],[oX false false 2 (.agg [.ref 1 0 x17.2.2.length,.int .u64 x17.2.1]),oR true 1 (AV.int .u64) x17.2.2],59⟩) [0,1] kr Tryd.func61 rfl (by decide +kernel) rfl kr rfl kr kr (ok_all kr) (fun _=>kr) (fun v=>ok_all kr) kr (fun _=>kr) (fun _=>rfl) kr g_order_least_m1_ok h (fun _=>kr) (fun x17 h=>?_)
    refine recH (f:=62) (fn:=Tryd.f62) (N:=2) (as0:=[.ptr 0 0 0,vI x10.1,vI x17.1]) (x10.1,x17.1,x17.2.1,x17.2.2) (fun v=>[(0,oX false false 2 (.agg [.ref 1 0 v.2.length,.int .u64 v.1])),(1,oR true 1 (AV.int .u64) v.2)]) (fun x18=>⟨(s29_95 x11 s7 x10 a13)++[(53,vI x17.1),(54,.tup [])],[oX false false 2 (.agg [.ref 1 0 x18.2.length,.int .u64 x18.1]),oR true 1 (AV.int .u64) x18.2],59⟩) [0,1] kr Tryd.func62 rfl (by decide +kernel) rfl kr rfl kr kr (ok_all kr) (fun _=>kr) (fun v=>ok_all kr) kr (fun _=>kr) (fun _=>rfl) kr g_order_graph_contract_m0_ok h (fun _=>kr) (fun x18 h=>?_)
    refine reg_end rfl (wg [5,6,7] [0,1] (reg_in ?_))
    refine sgz 2 2 (S:=⟨(s29_96 x11 s7 x10),[oX false false 2 (.agg [.ref 1 0 x18.2.length,.int .u64 x18.1]),oR true 1 (AV.int .u64) x18.2],59⟩) ?_
    refine recH (f:=63) (fn:=Tryd.f63) (N:=2) (as0:=[.ptr 0 0 0,vI x10.1]) (x10.1,x18.1,x18.2) (fun v=>[(0,oX false false 2 (.agg [.ref 1 0 v.2.length,.int .u64 v.1])),(1,oR true 1 (AV.int .u64) v.2)]) (fun x19=>⟨(s29_96 x11 s7 x10)++[(57,.tup [])],[oX false false 2 (.agg [.ref 1 0 x19.2.length,.int .u64 x19.1]),oR true 1 (AV.int .u64) x19.2],59⟩) [0,1] kr Tryd.func63 rfl (by decide +kernel) rfl kr rfl kr kr (ok_all kr) (fun _=>kr) (fun v=>ok_all kr) kr (fun _=>kr) (fun _=>rfl) kr g_order_graph_remove_m0_ok h (fun _=>kr) (fun x19 h=>?_)
    refine reg_end rfl ?_
    cases h
    exact ⟨_,rfl,(wk_gc (live:=[5,6]) (keep:=[0,1]) kr)⟩
   refine wp_skip ?_
   refine wgc [5,6,7] [0,1] ⟨[(e29_93 x11 s7),(6,.ptr 0 0 0),(7,vI x10.1)],(l29_94 x10),59⟩ ?_
   refine reg_in ?_
   refine sgz 2 2 (S:=⟨(s29_96 x11 s7 x10),(l29_94 x10),59⟩) ?_
   refine recH (f:=63) (fn:=Tryd.f63) (N:=2) (as0:=[.ptr 0 0 0,vI x10.1]) (x10.1,x10.2.1,x10.2.2) (fun v=>[(0,oX false false 2 (.agg [.ref 1 0 v.2.length,.int .u64 v.1])),(1,oR true 1 (AV.int .u64) v.2)]) (fun x20=>⟨(s29_96 x11 s7 x10)++[(57,.tup [])],[oX false false 2 (.agg [.ref 1 0 x20.2.length,.int .u64 x20.1]),oR true 1 (AV.int .u64) x20.2],59⟩) [0,1] kr Tryd.func63 rfl (by decide +kernel) rfl kr rfl kr kr (ok_all kr) (fun _=>kr) (fun v=>ok_all kr) kr (fun _=>kr) (fun _=>rfl) kr g_order_graph_remove_m0_ok h (fun _=>kr) (fun x20 h=>?_)
   refine reg_end rfl ?_
   cases h
   exact ⟨_,rfl,(wk_gc (live:=[5,6]) (keep:=[0,1]) kr)⟩
  refine wg [5] [] ?_
  refine wp_exit ?_
  cases h
  exact ⟨kr,rfl⟩
 intro x22 h out hx
 subst hx
 refine sq (wg [2,3] [] ?_)
 cases h
 exact wp_ret (show fnOut _ _ _ _=_ from by kernel_rfl)
noncomputable abbrev l30_98 (x5 p0:(List Int)):List AObj:=[oX false false 2 (.agg [.ref 1 0 x5.length,.int .u64 (zv ((zv (1*2^min (zt (zn p0)) (IntKind.bits .u64))) - 1))]),oR true 1 (AV.int .u64) x5]
noncomputable abbrev s30_99 (p0:(List Int)):List (Nat×AV):=[(0,eL true (AV.int .u64) p0),(13,eL true (AV.int .u64) p0),(14,.ptr 0 0 0),(5,.ptr 0 0 0),(16,eL true (AV.int .u64) p0),(17,.ptr 0 0 0),(18,.ptr 0 0 0),(19,.fn (.func 59) [.ptr 0 0 0] [])]
theorem g_order_Chordal_ok (p0:(List Int)) (x:(Bool × Int)) (h:g_order_Chordal p0=some x):CallOk Tryd.prog 25 [eL true (AV.int .u64) p0] (.ret (.tup [vB x.1,vI x.2]) []):=by
 refine fn_ok [] Tryd.func25 rfl (by decide +kernel) rfl ?_
 unfold g_order_Chordal at h
 refine wp_eqB (base':=0) (st':=⟨[(0,eL true (AV.int .u64) p0)],[],27⟩) kr kr ?_
 refine sq (wp_seq (wp_seq (reg_in (sz 1 1 ?_))))
 refine callW bodyB_14 (g_order_Check_ok p0) h (fun x1 _ h=>?_)
 refine sz 1 3 (reg_end rfl (sq ?_))
 refine wbz h (fun q4 h=>?_) (fun q4 h=>?_)
 ·refine wp_seq (wg [4] [] (rn ?_))
  refine wgc [2,3] [] ⟨[(2,vB false),(3,vI x1)],[],27⟩ ?_
  cases h
  exact wp_ret (show fnOut _ _ _ _=_ from by kernel_rfl)
 refine wp_skip (wp_seq (wg [0] [] (reg_in (sz 1 1 ?_))))
 refine inlR (f:=57) (fn:=Tryd.f57) (as0:=[eL true (AV.int .u64) p0]) kr Tryd.func57 rfl (by decide +kernel) rfl ?_
 refine wp_eqB (base':=0) (st':=⟨[(0,eL true (AV.int .u64) p0)],[],12⟩) kr kr ?_
 refine sq (wp_seq (rga hfol (sy 1 1 ?_)))
 refine callW bodyB_38 (g_slices_Clone_uint_uint_ok p0) h (fun x5 _ h=>?_)
 refine sy 2 4 ?_
 refine lenL (enc:=(AV.int .u64)) (l:=p0) (fl:=true) kr gE ?_
 refine shlR (k:=.u64) (k':=.i64) (a:=1) (b:=(zn p0)) kr gE h (fun h=>?_)
 refine sy 2 8 ?_
 refine sgL false [] [] false gE ?_
 refine sy 1 10 (rgd (wg [2] [1,0] ?_))
 refine wp_ret ?_
 refine ⟨⟨[(0,eL true (AV.int .u64) p0),(13,eL true (AV.int .u64) p0),(14,.ptr 0 0 0)],(l30_98 x5 p0),27⟩,by as_aux_lemma=>kernel_rfl,?_⟩
 refine sz 1 3 (reg_end rfl (wp_seq (reg_in ?_)))
 refine sgz 4 4 (S:=⟨(s30_99 p0),(l30_98 x5 p0),27⟩) ?_
 refine recH (f:=58) (fn:=Tryd.f58) (N:=2) (as0:=[.ptr 0 0 0,.fn (.func 59) [.ptr 0 0 0] []]) (zv ((zv (1*2^min (zt (zn p0)) (IntKind.bits .u64))) - 1),x5) (fun v=>[(0,oX false false 2 (.agg [.ref 1 0 v.2.2.length,.int .u64 v.2.1])),(1,oR true 1 (AV.int .u64) v.2.2)]) (fun x7=>⟨(s30_99 p0)++[(20,z1 x7.1)],[oX false false 2 (.agg [.ref 1 0 x7.2.2.length,.int .u64 x7.2.1]),oR true 1 (AV.int .u64) x7.2.2],27⟩) [0,1] kr Tryd.func58 rfl (by decide +kernel) rfl kr rfl kr kr (ok_all kr) (fun _=>kr) (fun v=>ok_all kr) kr (fun _=>kr) (fun _=>rfl) kr g_order_graph_greedy_m0_ok h (fun _=>kr) (fun x7 h=>?_)
 refine callW bodyB_48 (g_order_run_ok p0 x7.1) h (fun x8 _ h=>?_)
 refine sz 5 11 (reg_end rfl (wp_seq (wg [6] [2] (rn (wg [2,3] [] ?_)))))
 cases h
 exact wp_ret (show fnOut _ _ _ _=_ from by kernel_rfl)
theorem g_order_late_ok (p0:(List Int)) (p1:Int) (p2:Int) (x:Int) (h:g_order_late p0 p1 p2=some x):CallOk Tryd.prog 69 [eL true (AV.int .u64) p0,vI p1,.int .u64 p2] (.ret (vI x) []):=by
 refine fn_ok [] Tryd.func69 rfl (by decide +kernel) rfl ?_
 unfold g_order_late at h
 refine wp_eqB (base':=0) (st':=⟨[(0,eL true (AV.int .u64) p0),(1,vI p1),(2,.int .u64 p2)],[],48⟩) kr kr ?_
 refine sq (wp_seq (rga hfol (sy 1 1 ?_)))
 refine shlR (k:=.u64) (k':=.i64) (a:=1) (b:=p1) kr gE h (fun h=>?_)
 refine sy 2 4 ?_
 refine bind_elim h (fun a1 q2 h=>?_)
 refine idxL' (enc:=(AV.int .u64)) (l:=p0) (n:=p1) (fl:=true) (w:=1) (a:=a1) kr rfl gE q2 ?_
 refine sy 4 9 (rgd (wp_seq (wp_block ?_)))
 refine wwh h (fun s3=>⟨[(0,eL true (AV.int .u64) p0),(2,.int .u64 p2),(7,.int .u64 s3.1),(8,.int .u64 s3.2.1),(9,.int .u64 s3.2.2)],[],48⟩) (fun v out=>out=.go (.exit 0) ⟨[(8,.int .u64 v)],[],48⟩) (wk_gc (live:=[0,2,7,8,9]) (keep:=[]) kr) ?_ ?_
 ·intro s3 o h
  unfold g_order_late_b0 at h
  refine wp_seq (sq ?_)
  refine wb [18] h (fun q5 h=>?_) (fun q5 h=>?_)
  ·refine wcT (wp_skip (wp_block (wp_seq (reg_in (sz 1 1 ?_)))))
   refine callW bodyB_86 (g_math_bits_TrailingZeros_ok s3.2.2) h (fun x6 _ h=>?_)
   refine sz 1 3 (reg_end rfl (sq (wp_seq ?_)))
   refine wgc [0,2,7,8,9,10] [] ⟨[(0,eL true (AV.int .u64) p0),(2,.int .u64 p2),(7,.int .u64 s3.1),(8,.int .u64 s3.2.1),(9,.int .u64 (zv (BitVec.ofInt (IntKind.bits .u64) s3.2.2 &&& BitVec.ofInt (IntKind.bits .u64) (zv (s3.2.2 - 1))).toNat)),(10,vI x6)],[],48⟩ ?_
   refine reg_in (sz 2 2 ?_)
   refine shlR (k:=.u64) (k':=.i64) (a:=1) (b:=x6) kr gE h (fun h=>?_)
   refine sz 2 5 (reg_end rfl (wp_seq (wp_seq (reg_in (sz 2 2 ?_)))))
   refine shrR (k:=.u64) (k':=.i64) (a:=p2) (b:=x6) kr gE h (fun h=>?_)
   refine sz 2 5 (reg_end rfl ?_)
   refine wbz h (fun q9 h=>?_) (fun q9 h=>?_)
   ·refine wp_seq (wg [0,2,7,8,9,10] [] (reg_in (sz 2 2 ?_)))
    refine shlR (k:=.u64) (k':=.i64) (a:=1) (b:=x6) kr gE h (fun h=>?_)
    refine sz 2 5 (reg_end rfl ?_)
    refine wgc [0,2,7,8,9] [] ⟨[(0,eL true (AV.int .u64) p0),(2,.int .u64 p2),(7,.int .u64 (zv (BitVec.ofInt (IntKind.bits .u64) s3.1 ||| BitVec.ofInt (IntKind.bits .u64) (zv (1*2^min (zt x6) (IntKind.bits .u64)))).toNat)),(8,.int .u64 (zv (BitVec.ofInt (IntKind.bits .u64) s3.2.1 ||| BitVec.ofInt (IntKind.bits .u64) (zv (1*2^min (zt x6) (IntKind.bits .u64)))).toNat)),(9,.int .u64 (zv (BitVec.ofInt (IntKind.bits .u64) s3.2.2 &&& BitVec.ofInt (IntKind.bits .u64) (zv (s3.2.2 - 1))).toNat))],[],48⟩ ?_
    refine wp_exit ?_
    cases h
    exact ⟨_,rfl,(wk_gc (live:=[0,2,7,8,9]) (keep:=[]) kr)⟩
   refine wp_skip (wg [0,2,7,8,9,10] [] (reg_in (sz 3 3 ?_)))
   refine bind_elim h (fun a10 q11 h=>?_)
   refine idxL' (enc:=(AV.int .u64)) (l:=p0) (n:=x6) (fl:=true) (w:=1) (a:=a10) kr rfl gE q11 ?_
   refine sz 5 9 (reg_end rfl ?_)
   cases h
   exact ⟨_,rfl,(wk_gc (live:=[0,2,7,8,9]) (keep:=[]) kr)⟩
  refine wcF (wg [8] [] ?_)
  refine wp_exit ?_
  cases h
  exact ⟨kr,rfl⟩
 intro x13 h out hx
 subst hx
 refine wp_seq (reg_in (sz 1 1 ?_))
 refine callW bodyB_84 (g_math_bits_OnesCount_ok x13) h (fun x14 _ h=>?_)
 refine sz 1 3 (reg_end rfl (wg [6] [] ?_))
 cases h
 exact wp_ret (show fnOut _ _ _ _=_ from by kernel_rfl)
end Go.Ab
