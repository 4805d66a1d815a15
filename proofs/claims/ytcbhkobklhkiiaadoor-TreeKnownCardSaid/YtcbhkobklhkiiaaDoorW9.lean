/- What functions compute. No conditions. -/
import Derived.Test.YtcbhkobklhkiiaaDoorProg
import Derived.Test.YtcbhkobklhkiiaaDoorW8
import Derived.KernelRfl
set_option linter.all false
namespace Go.Ab
open Go Go.Proofs
set_option maxRecDepth 100000
set_option maxHeartbeats 4000000
noncomputable abbrev s42_1 (p0:Tapi_Net):List AObj:=[oX true false 2 (.agg [vI p0.Grain,eL false eTapi_Node p0.Nodes])]
noncomputable abbrev s42_5 (p0:Tapi_Net):List AObj:=[oX true false 2 (.agg [vI p0.Grain,eL false eTapi_Node p0.Nodes]),oX true false 2 (.agg [vI p0.Grain,eL false eTapi_Node p0.Nodes]),oX true false 5 (.agg [vI 0,.nils,.nils,.nils,.nils])]
noncomputable abbrev s42_10 (p0:Tapi_Net):List (Nat × AV):=[(0,.agg [vI p0.Grain,eL false eTapi_Node p0.Nodes]),(1,.ptr 1 0 0),(2,.nils),(3,vI 0),(7,.agg [vI p0.Grain,eL false eTapi_Node p0.Nodes]),(8,.tup [.agg [vI 0,.nils,.nils,.nils,.nils],vI 50])]
noncomputable abbrev s42_70 (s26:(Int × (List Int))) (p0:Tapi_Net) (a29:Tapi_Node) (s31:(Int × Int × (List Int))) (a34:Int):List (Nat × AV):=[(2,.ptr 2 0 0),(4,.ptr 3 0 0),(8,vI s26.1),(9,.ptr 4 0 0),(80,eL false eTapi_Node p0.Nodes),(81,vI (zn p0.Nodes)),(82,vI s26.1),(88,z1 a29.Parents),(89,vI (zn a29.Parents)),(90,vI s31.2.1),(12,vI a34)]
noncomputable abbrev o42_8 (p0:Tapi_Net):AObj:=oX true false 2 (.agg [vI p0.Grain,eL false eTapi_Node p0.Nodes])
noncomputable abbrev o42_9:AObj:=oX true false 5 (.agg [vI 0,.nils,.nils,.nils,.nils])
noncomputable abbrev o42_10 (a29:Tapi_Node):AObj:=oX true false 3 (.agg [vI a29.Card,z1 a29.Parents,z2 a29.Rows])
noncomputable abbrev o42_11 (p0:Tapi_Net):AV:=.agg [vI p0.Grain,eL false eTapi_Node p0.Nodes]
theorem g_tree_readFamilies_ok (p0:Tapi_Net) (x:((List Int) × Int)) (h:g_tree_readFamilies p0=some x):CallOk Tryd.prog 42 [.agg [vI p0.Grain,eL false eTapi_Node p0.Nodes]] (.ret (.tup [.ref 0 0 x.1.length,vI x.2]) [oR true 1 (AV.int .u64) x.1]):=by
 refine fn_ok [] Tryd.func42 rfl (by decide +kernel) rfl ?_
 unfold g_tree_readFamilies at h
 refine wp_eqB (base':=0) (st':=⟨[(0,(o42_11 p0))],[],30⟩) kr kr ?_
 refine wp_seq (reg_in ?_)
 refine sgL false [] [] false gE ?_
 refine sz 2 3 (reg_end rfl (wp_seq (reg_in (sz 1 1 ?_))))
 refine inlR (f:=63) (fn:=Tryd.f63) (as0:=[(o42_11 p0)]) kr Tryd.func63 rfl (by decide +kernel) rfl ?_
 refine wp_eqB (base':=1) (st':=⟨[(0,(o42_11 p0))],(s42_1 p0),14⟩) kr kr ?_
 refine wp_seq (reg_in ?_)
 refine sgL false [] [] false gE ?_
 refine sz 2 3 (reg_end rfl (wp_seq (reg_in (sz 1 1 ?_))))
 refine inlR (f:=53) (fn:=Tryd.f53) (as0:=[(o42_11 p0)]) kr Tryd.func53 rfl (by decide +kernel) rfl ?_
 refine wp_eqB (base':=2) (st':=⟨[(0,(o42_11 p0))],[(o42_8 p0),(o42_8 p0)],140⟩) kr kr ?_
 refine wp_seq (reg_in ?_)
 refine sgL false [] [] false gE ?_
 refine sgL false [] [] false gE ?_
 refine sz 1 3 (reg_end rfl (wp_seq (wp_seq (reg_in (sz 4 4 (rwg [1,2,18] [2,3] ?_))))))
 refine rb [18] h (fun q2 h=>?_) (fun q2 h=>?_)
 ·refine sz 16 20 (reg_end rfl (wcT (wp_seq ?_)))
  refine wgc [2] [3] ⟨[(2,.ptr 2 0 0)],(s42_5 p0),140⟩ ?_
  refine rn (wg [2,3] [2] ?_)
  refine wp_ret ?_
  refine ⟨⟨(s42_10 p0),(s42_5 p0),14⟩,by as_aux_lemma=>kernel_rfl,?_⟩
  refine sz 3 5 ?_
  refine sgL false [] [] false gE ?_
  refine sz 2 8 (reg_end rfl (wp_seq (wg [4,5] [3] (rn ?_))))
  refine wgc [2,3] [] ⟨[(2,.nils),(3,vI 50)],(s42_1 p0),14⟩ ?_
  refine wp_ret ?_
  refine ⟨⟨[(0,(o42_11 p0)),(1,.ptr 0 0 0),(2,.nils),(3,vI 0),(8,(o42_11 p0)),(9,.tup [.nils,vI 50])],(s42_1 p0),30⟩,by as_aux_lemma=>kernel_rfl,?_⟩
  refine sz 5 7 (reg_end rfl (wp_seq (wp_seq (wg [4,5] [] (rn (wcT (sq ?_)))))))
  refine wgc [2,3] [] ⟨[(2,.nils),(3,vI 50)],[],30⟩ ?_
  refine wp_wk (wk_nil 2 1 true true gE) ?_
  cases h
  exact wp_ret (show fnOut _ _ _ _=_ from by kernel_rfl)
 refine sz 5 9 ?_
 refine rw_wk (wk_gc (live:=[1,2,23]) (keep:=[2,3]) (st':=⟨[(1,.ptr 2 0 0),(2,.ptr 3 0 0),(23,vB (decide (p0.Grain > 60)))],[(o42_8 p0),(o42_8 p0),(o42_8 p0),o42_9],140⟩) kr) ?_
 refine rb [23] h (fun q4 h=>?_) (fun q4 h=>?_)
 ·refine sz 11 20 (reg_end rfl (wcT (wp_seq (wg [2] [3] (rn ?_)))))
  refine wgc [2,3] [2] ⟨[(2,.ptr 2 0 0),(3,vI 50)],(s42_5 p0),140⟩ ?_
  refine wp_ret ?_
  refine ⟨⟨(s42_10 p0),(s42_5 p0),14⟩,by as_aux_lemma=>kernel_rfl,?_⟩
  refine sz 3 5 ?_
  refine sgL false [] [] false gE ?_
  refine sz 2 8 (reg_end rfl (wp_seq (wg [4,5] [3] (rn (wg [2,3] [] ?_)))))
  refine wp_ret ?_
  refine ⟨⟨[(0,(o42_11 p0)),(1,.ptr 0 0 0),(2,.nils),(3,vI 0),(8,(o42_11 p0)),(9,.tup [.nils,vI 50])],(s42_1 p0),30⟩,by as_aux_lemma=>kernel_rfl,?_⟩
  refine sz 5 7 (reg_end rfl (wp_seq (wp_seq ?_)))
  refine wgc [4,5] [] ⟨[(4,.nils),(5,vI 50)],[],30⟩ ?_
  refine rn (wcT (sq (wg [2,3] [] ?_)))
  refine wp_wk (wk_nil 2 1 true true gE) ?_
  cases h
  exact wp_ret (show fnOut _ _ _ _=_ from by kernel_rfl)
 refine sz 2 11 ?_
 refine lenL (enc:=eTapi_Node) (l:=p0.Nodes) (fl:=false) kr gE ?_
 refine sz 3 15 (rwg [1,2,29] [2,3] ?_)
 refine rb [29] h (fun q6 h=>?_) (fun q6 h=>?_)
 ·refine sz 5 20 (reg_end rfl (wcT (wp_seq (wg [2] [3] (rn ?_)))))
  refine wgc [2,3] [2] ⟨[(2,.ptr 2 0 0),(3,vI 50)],(s42_5 p0),140⟩ ?_
  refine wp_ret ?_
  refine ⟨⟨(s42_10 p0),(s42_5 p0),14⟩,by as_aux_lemma=>kernel_rfl,?_⟩
  refine sz 3 5 ?_
  refine sgL false [] [] false gE ?_
  refine sz 2 8 (reg_end rfl (wp_seq (wg [4,5] [3] (rn (wg [2,3] [] ?_)))))
  refine wp_ret ?_
  refine ⟨⟨[(0,(o42_11 p0)),(1,.ptr 0 0 0),(2,.nils),(3,vI 0),(8,(o42_11 p0)),(9,.tup [.nils,vI 50])],(s42_1 p0),30⟩,by as_aux_lemma=>kernel_rfl,?_⟩
  refine sz 5 7 (reg_end rfl (wp_seq (wp_seq ?_)))
  refine wgc [4,5] [] ⟨[(4,.nils),(5,vI 50)],[],30⟩ ?_
  refine rn (wcT (sq (wg [2,3] [] ?_)))
  refine wp_wk (wk_nil 2 1 true true gE) ?_
  cases h
  exact wp_ret (show fnOut _ _ _ _=_ from by kernel_rfl)
 refine sz 2 17 ?_
 refine lenL (enc:=eTapi_Node) (l:=p0.Nodes) (fl:=false) kr gE ?_
 refine sz 2 20 (reg_end rfl ?_)
 refine wbz h (fun q8 h=>?_) (fun q8 h=>?_)
 ·refine wp_seq (wg [2] [3] (rn ?_))
  refine wgc [2,3] [2] ⟨[(2,.ptr 2 0 0),(3,vI 50)],(s42_5 p0),140⟩ ?_
  refine wp_ret ?_
  refine ⟨⟨(s42_10 p0),(s42_5 p0),14⟩,by as_aux_lemma=>kernel_rfl,?_⟩
  refine sz 3 5 ?_
  refine sgL false [] [] false gE ?_
  refine sz 2 8 (reg_end rfl (wp_seq (wg [4,5] [3] (rn (wg [2,3] [] ?_)))))
  refine wp_ret ?_
  refine ⟨⟨[(0,(o42_11 p0)),(1,.ptr 0 0 0),(2,.nils),(3,vI 0),(8,(o42_11 p0)),(9,.tup [.nils,vI 50])],(s42_1 p0),30⟩,by as_aux_lemma=>kernel_rfl,?_⟩
  refine sz 5 7 (reg_end rfl (wp_seq (wp_seq ?_)))
  refine wgc [4,5] [] ⟨[(4,.nils),(5,vI 50)],[],30⟩ ?_
  refine rn (wcT (sq (wg [2,3] [] ?_)))
  refine wp_wk (wk_nil 2 1 true true gE) ?_
  cases h
  exact wp_ret (show fnOut _ _ _ _=_ from by kernel_rfl)
 refine wp_skip (wp_seq (wg [1,2] [2,3] (rga hfol (sy 3 3 ?_))))
 refine lenL (enc:=eTapi_Node) (l:=p0.Nodes) (fl:=false) kr gE ?_
 refine mkL (enc:=eI) (z:=(0:Int)) (z0:=vI 0) (n:=(zn p0.Nodes)) (m:=(zn p0.Nodes)) (w:=1) (bytes:=8) [] true kr rfl gE kr h (fun h=>?_)
 refine sy 2 7 ?_
 refine lenL (enc:=eTapi_Node) (l:=p0.Nodes) (fl:=false) kr gE ?_
 refine mkL (enc:=(AV.int .u64)) (z:=(0:Int)) (z0:=.int .u64 0) (n:=(zn p0.Nodes)) (m:=(zn p0.Nodes)) (w:=1) (bytes:=8) [] true kr rfl gE kr h (fun h=>?_)
 refine sy 1 10 ?_
 refine sgL false [] [] false gE ?_
 refine sy 1 12 (rgd (wp_seq ?_))
 refine wgc [2,4] [3,6,4,5] ⟨[(2,.ptr 2 0 0),(4,.ptr 3 0 0)],[(o42_8 p0),(o42_8 p0),o42_9,oX false false 5 (.agg [vI p0.Grain,eL false eTapi_Node p0.Nodes,.ref 4 0 ((List.replicate (zt (zn p0.Nodes)) (0:Int)).length),.ref 5 0 ((List.replicate (zt (zn p0.Nodes)) (0:Int)).length),.nils]),oR true 1 eI (List.replicate (zt (zn p0.Nodes)) (0:Int)),oR true 1 (AV.int .u64) (List.replicate (zt (zn p0.Nodes)) (0:Int))],140⟩ ?_
 refine rn (wp_seq (wp_seq (reg_in (sz 3 3 ?_))))
 refine lenL (enc:=eTapi_Node) (l:=p0.Nodes) (fl:=false) kr gE ?_
 refine sz 1 5 (reg_end rfl (wp_block ?_))
 refine wwh h (fun s9=>⟨[(2,.ptr 2 0 0),(4,.ptr 3 0 0),(5,vI s9.1),(48,eL false eTapi_Node p0.Nodes),(49,vI (zn p0.Nodes)),(50,vI s9.2.1)],[(o42_8 p0),(o42_8 p0),o42_9,oX false false 5 (.agg [vI p0.Grain,eL false eTapi_Node p0.Nodes,.ref 4 0 s9.2.2.length,.ref 5 0 ((List.replicate (zt (zn p0.Nodes)) (0:Int)).length),.nils]),oR true 1 eI s9.2.2,oR true 1 (AV.int .u64) (List.replicate (zt (zn p0.Nodes)) (0:Int))],140⟩) (fun x out=>out=match x with | .inl v=>.go (.ret) ⟨[(2,.ptr 2 0 0),(3,vI 50)],(s42_5 p0),140⟩ | .inr v=>.go (.exit 0) ⟨[(2,.ptr 2 0 0),(4,.ptr 3 0 0),(5,vI v.1)],[(o42_8 p0),(o42_8 p0),o42_9,oX false false 5 (.agg [vI p0.Grain,eL false eTapi_Node p0.Nodes,.ref 4 0 v.2.length,.ref 5 0 ((List.replicate (zt (zn p0.Nodes)) (0:Int)).length),.nils]),oR true 1 eI v.2,oR true 1 (AV.int .u64) (List.replicate (zt (zn p0.Nodes)) (0:Int))],140⟩) (wk_gc (live:=[2,4,5,48,49,50]) (keep:=[2,3,4,5]) kr) ?_ ?_
 ·intro s9 o h
  unfold g_tree_readFamilies_b0 at h
  refine sq (wp_seq ?_)
  refine wb [51] h (fun q11 h=>?_) (fun q11 h=>?_)
  ·refine wcT (wp_skip (wp_seq (wp_block (wp_seq (reg_in (sz 1 1 ?_))))))
   refine bind_elim h (fun a12 q13 h=>?_)
   refine idxL' (enc:=eTapi_Node) (l:=p0.Nodes) (n:=s9.2.1) (fl:=false) (w:=3) (a:=a12) kr rfl gE q13 ?_
   refine sz 1 3 ?_
   refine sgL false [] [] false gE ?_
   refine sz 2 6 (reg_end rfl (wp_seq (wp_seq (reg_in (sz 4 4 ?_)))))
   refine rw_wk (wk_gc (live:=[2,4,5,48,49,50,7,6,58]) (keep:=[2,3,6,4,5]) (st':=⟨[(2,.ptr 2 0 0),(4,.ptr 3 0 0),(5,vI s9.1),(48,eL false eTapi_Node p0.Nodes),(49,vI (zn p0.Nodes)),(50,vI s9.2.1),(7,.ptr 4 0 0),(6,vI s9.2.1),(58,vB (decide (a12.Card < 1)))],[(o42_8 p0),(o42_8 p0),o42_9,oX false false 5 (.agg [vI p0.Grain,eL false eTapi_Node p0.Nodes,.ref 5 0 s9.2.2.length,.ref 6 0 ((List.replicate (zt (zn p0.Nodes)) (0:Int)).length),.nils]),oX true false 3 (.agg [vI a12.Card,z1 a12.Parents,z2 a12.Rows]),oR true 1 eI s9.2.2,oR true 1 (AV.int .u64) (List.replicate (zt (zn p0.Nodes)) (0:Int))],140⟩) kr) ?_
   refine rb [58] h (fun q15 h=>?_) (fun q15 h=>?_)
   ·refine sz 4 8 (reg_end rfl (wcT (wp_seq (wg [2] [2] (rn (wg [2,3] [2] ?_))))))
    refine wp_ret ?_
    cases h
    exact ⟨kr,rfl⟩
   refine sz 4 8 (reg_end rfl ?_)
   refine wbz h (fun q17 h=>?_) (fun q17 h=>?_)
   ·refine wp_seq (wg [2] [2] (rn (wg [2,3] [2] ?_)))
    refine wp_ret ?_
    cases h
    exact ⟨kr,rfl⟩
   refine wp_skip (wp_seq (wg [2,4,5,48,49,50,7,6] [2,3,4,5,6] (reg_in (sz 5 5 ?_))))
   refine bind_elim h (fun a18 q19 h=>?_)
   refine idxR' (enc:=eI) (l:=s9.2.2) (n:=s9.2.1) (w:=1) (ob:=5) (ro:=false) (nr:=true) (fl:=true) (a:=a18) kr kr gE q19 ?_
   refine storeR (enc:=eI) (l:=s9.2.2) (n:=s9.2.1) (ob:=5) (w:=1) (bx:=false) (nr:=true) (fl:=true) (c:=0) (a:=a18) (a':=a12.Card) (v:=vI a12.Card) false kr kr q19 kr rfl kr gE kr ?_
   refine rknN (n:=s9.2.2.length) (m:=(List.set s9.2.2 (zt s9.2.1) a12.Card).length) (S:=fun n20=>⟨[(2,.ptr 2 0 0),(4,.ptr 3 0 0),(5,vI s9.1),(48,eL false eTapi_Node p0.Nodes),(49,vI (zn p0.Nodes)),(50,vI s9.2.1),(7,.ptr 4 0 0),(6,vI s9.2.1)]++[(64,.ptr 3 0 2),(65,.ref 5 0 n20),(66,vI s9.2.1),(67,.ptr 4 0 0),(68,vI a12.Card),(69,.ptr 5 (zt s9.2.1) 0)],[(o42_8 p0),(o42_8 p0),o42_9,oX false false 5 (.agg [vI p0.Grain,eL false eTapi_Node p0.Nodes,.ref 5 0 n20,.ref 6 0 ((List.replicate (zt (zn p0.Nodes)) (0:Int)).length),.nils]),oX true false 3 (.agg [vI a12.Card,z1 a12.Parents,z2 a12.Rows]),oR true 1 eI (List.set s9.2.2 (zt s9.2.1) a12.Card),oR true 1 (AV.int .u64) (List.replicate (zt (zn p0.Nodes)) (0:Int))],140⟩) (by simp only [List.length_set]) ?_
   refine reg_end rfl (wg [2,4,5,48,49,50,7] [2,3,4,5,6] (rn (wg [2,4,5,48,49,50] [2,3,5,6] (rn ?_))))
   cases h
   exact ⟨_,rfl,(wk_gc (live:=[2,4,5,48,49,50]) (keep:=[2,3,4,5]) kr)⟩
  refine wcF (wg [2,4,5] [2,3,4,5] ?_)
  refine wp_exit ?_
  cases h
  exact ⟨kr,rfl⟩
 intro x21 h out hx
 subst hx
 rcases x21 with x22 | x23
 ·dsimp only at h ⊢
  refine ⟨⟨(s42_10 p0),(s42_5 p0),14⟩,by as_aux_lemma=>kernel_rfl,?_⟩
  refine sz 3 5 ?_
  refine sgL false [] [] false gE ?_
  refine sz 2 8 (reg_end rfl (wp_seq (wg [4,5] [3] (rn (wg [2,3] [] ?_)))))
  refine wp_ret ?_
  refine ⟨⟨[(0,(o42_11 p0)),(1,.ptr 0 0 0),(2,.nils),(3,vI 0),(8,(o42_11 p0)),(9,.tup [.nils,vI 50])],(s42_1 p0),30⟩,by as_aux_lemma=>kernel_rfl,?_⟩
  refine sz 5 7 (reg_end rfl (wp_seq (wp_seq ?_)))
  refine wgc [4,5] [] ⟨[(4,.nils),(5,vI 50)],[],30⟩ ?_
  refine rn (wcT (sq (wg [2,3] [] ?_)))
  refine wp_wk (wk_nil 2 1 true true gE) ?_
  cases h
  exact wp_ret (show fnOut _ _ _ _=_ from by kernel_rfl)
 ·dsimp only at h ⊢
  refine wp_seq (sq ?_)
  refine wb [76] h (fun q25 h=>?_) (fun q25 h=>?_)
  ·refine wcT (sq (wg [2,3] [2] ?_))
   refine wp_ret ?_
   refine ⟨⟨(s42_10 p0),(s42_5 p0),14⟩,by as_aux_lemma=>kernel_rfl,?_⟩
   refine sz 3 5 ?_
   refine sgL false [] [] false gE ?_
   refine sz 2 8 (reg_end rfl (wp_seq ?_))
   refine wgc [4,5] [3] ⟨[(4,.ptr 1 0 0),(5,vI 50)],[(o42_8 p0),o42_9],14⟩ ?_
   refine rn (wg [2,3] [] ?_)
   refine wp_ret ?_
   refine ⟨⟨[(0,(o42_11 p0)),(1,.ptr 0 0 0),(2,.nils),(3,vI 0),(8,(o42_11 p0)),(9,.tup [.nils,vI 50])],(s42_1 p0),30⟩,by as_aux_lemma=>kernel_rfl,?_⟩
   refine sz 5 7 (reg_end rfl (wp_seq (wp_seq (wg [4,5] [] (rn (wcT (sq ?_)))))))
   refine wgc [2,3] [] ⟨[(2,.nils),(3,vI 50)],[],30⟩ ?_
   refine wp_wk (wk_nil 2 1 true true gE) ?_
   cases h
   exact wp_ret (show fnOut _ _ _ _=_ from by kernel_rfl)
  refine wcF (wp_skip (wp_seq (wp_seq (reg_in (sz 3 3 ?_)))))
  refine lenL (enc:=eTapi_Node) (l:=p0.Nodes) (fl:=false) kr gE ?_
  refine sz 1 5 (reg_end rfl (wp_block ?_))
  refine wwh h (fun s26=>⟨[(2,.ptr 2 0 0),(4,.ptr 3 0 0),(80,eL false eTapi_Node p0.Nodes),(81,vI (zn p0.Nodes)),(82,vI s26.1)],[(o42_8 p0),(o42_8 p0),o42_9,oX false false 5 (.agg [vI p0.Grain,eL false eTapi_Node p0.Nodes,.ref 4 0 x23.2.length,.ref 5 0 s26.2.length,.nils]),oR true 1 eI x23.2,oR true 1 (AV.int .u64) s26.2],140⟩) (fun x out=>out=match x with | .inl v=>.go (.ret) ⟨[(2,.ptr 2 0 0),(3,vI 50)],(s42_5 p0),140⟩ | .inr v=>.go (.exit 2) ⟨[(2,.ptr 2 0 0),(4,.ptr 3 0 0)],[(o42_8 p0),(o42_8 p0),o42_9,oX false false 5 (.agg [vI p0.Grain,eL false eTapi_Node p0.Nodes,.ref 4 0 x23.2.length,.ref 5 0 v.length,.nils]),oR true 1 eI x23.2,oR true 1 (AV.int .u64) v],140⟩) (wk_gc (live:=[2,4,80,81,82]) (keep:=[2,3,4,5]) kr) ?_ ?_
  ·intro s26 o h
   unfold g_tree_readFamilies_b2 at h
   refine sq (wp_seq ?_)
   refine wb [83] h (fun q28 h=>?_) (fun q28 h=>?_)
   ·refine wcT (wp_skip (wp_seq (wp_block (wp_seq (reg_in (sz 1 1 ?_))))))
    refine bind_elim h (fun a29 q30 h=>?_)
    refine idxL' (enc:=eTapi_Node) (l:=p0.Nodes) (n:=s26.1) (fl:=false) (w:=3) (a:=a29) kr rfl gE q30 ?_
    refine sz 1 3 ?_
    refine sgL false [] [] false gE ?_
    refine sz 2 6 (reg_end rfl (sq (wp_seq (wp_seq (reg_in (sz 2 2 ?_))))))
    refine lenL (enc:=eI) (l:=a29.Parents) (fl:=true) kr gE ?_
    refine sz 1 4 (reg_end rfl (wp_block ?_))
    refine wwh h (fun s31=>⟨[(2,.ptr 2 0 0),(4,.ptr 3 0 0),(8,vI s26.1),(9,.ptr 4 0 0),(10,vI s31.1),(80,eL false eTapi_Node p0.Nodes),(81,vI (zn p0.Nodes)),(82,vI s26.1),(88,z1 a29.Parents),(89,vI (zn a29.Parents)),(90,vI s31.2.1)],[(o42_8 p0),(o42_8 p0),o42_9,oX false false 5 (.agg [vI p0.Grain,eL false eTapi_Node p0.Nodes,.ref 5 0 x23.2.length,.ref 6 0 s31.2.2.length,.nils]),(o42_10 a29),oR true 1 eI x23.2,oR true 1 (AV.int .u64) s31.2.2],140⟩) (fun x out=>out=match x with | .inl v=>.go (.ret) ⟨[(2,.ptr 2 0 0),(3,vI 50)],(s42_5 p0),140⟩ | .inr v=>.go (.exit 4) ⟨[(2,.ptr 2 0 0),(4,.ptr 3 0 0),(9,.ptr 4 0 0),(80,eL false eTapi_Node p0.Nodes),(81,vI (zn p0.Nodes)),(82,vI s26.1)],[(o42_8 p0),(o42_8 p0),o42_9,oX false false 5 (.agg [vI p0.Grain,eL false eTapi_Node p0.Nodes,.ref 5 0 x23.2.length,.ref 6 0 v.length,.nils]),(o42_10 a29),oR true 1 eI x23.2,oR true 1 (AV.int .u64) v],140⟩) (wk_gc (live:=[2,4,8,9,10,80,81,82,88,89,90]) (keep:=[2,3,6,4,5]) kr) ?_ ?_
    ·intro s31 o h
     unfold g_tree_readFamilies_b1 at h
     refine sq (wp_seq ?_)
     refine wb [91] h (fun q33 h=>?_) (fun q33 h=>?_)
     ·refine wcT (wp_skip (wp_seq (wp_block (wp_seq (reg_in ?_)))))
      refine bind_elim h (fun a34 q35 h=>?_)
      refine idxL' (enc:=eI) (l:=a29.Parents) (n:=s31.2.1) (fl:=true) (w:=1) (a:=a34) kr rfl gE q35 ?_
      refine sz 2 3 (reg_end rfl (wp_seq (wp_seq (reg_in (sz 4 4 ?_)))))
      refine rw_wk (wk_gc (live:=[2,4,8,9,80,81,82,88,89,90,12,97]) (keep:=[2,3,4,5,6]) (st':=⟨[(2,.ptr 2 0 0),(4,.ptr 3 0 0),(8,vI s26.1),(9,.ptr 4 0 0),(80,eL false eTapi_Node p0.Nodes),(81,vI (zn p0.Nodes)),(82,vI s26.1),(88,z1 a29.Parents),(89,vI (zn a29.Parents)),(90,vI s31.2.1),(12,vI a34),(97,vB (decide (a34≤s31.1)))],[(o42_8 p0),(o42_8 p0),o42_9,oX false false 5 (.agg [vI p0.Grain,eL false eTapi_Node p0.Nodes,.ref 5 0 x23.2.length,.ref 6 0 s31.2.2.length,.nils]),(o42_10 a29),oR true 1 eI x23.2,oR true 1 (AV.int .u64) s31.2.2],140⟩) kr) ?_
      refine rb [97] h (fun q37 h=>?_) (fun q37 h=>?_)
      ·refine sz 12 16 (reg_end rfl (wcT (wp_seq (wg [2] [2] (rn ?_)))))
       refine wgc [2,3] [2] ⟨[(2,.ptr 2 0 0),(3,vI 50)],(s42_5 p0),140⟩ ?_
       refine wp_ret ?_
       cases h
       exact ⟨kr,rfl⟩
      refine sz 4 8 ?_
      refine lenL (enc:=eTapi_Node) (l:=p0.Nodes) (fl:=false) kr gE ?_
      refine sz 3 12 (rwg [2,4,8,9,80,81,82,88,89,90,12,105] [2,3,4,5,6] ?_)
      refine rb [105] h (fun q39 h=>?_) (fun q39 h=>?_)
      ·refine sz 4 16 (reg_end rfl (wcT (wp_seq (wg [2] [2] (rn ?_)))))
       refine wgc [2,3] [2] ⟨[(2,.ptr 2 0 0),(3,vI 50)],(s42_5 p0),140⟩ ?_
       refine wp_ret ?_
       cases h
       exact ⟨kr,rfl⟩
      refine sz 4 16 (reg_end rfl ?_)
      refine wbz h (fun q41 h=>?_) (fun q41 h=>?_)
      ·refine wp_seq (wg [2] [2] (rn ?_))
       refine wgc [2,3] [2] ⟨[(2,.ptr 2 0 0),(3,vI 50)],(s42_5 p0),140⟩ ?_
       refine wp_ret ?_
       cases h
       exact ⟨kr,rfl⟩
      refine wp_skip (wp_seq ?_)
      refine wgc [2,4,8,9,80,81,82,88,89,90,12] [2,3,4,5,6] ⟨(s42_70 s26 p0 a29 s31 a34),[(o42_8 p0),(o42_8 p0),o42_9,oX false false 5 (.agg [vI p0.Grain,eL false eTapi_Node p0.Nodes,.ref 5 0 x23.2.length,.ref 6 0 s31.2.2.length,.nils]),(o42_10 a29),oR true 1 eI x23.2,oR true 1 (AV.int .u64) s31.2.2],140⟩ ?_
      refine rn (rga hfol (sy 3 3 ?_))
      refine bind_elim h (fun a42 q43 h=>?_)
      refine idxR' (enc:=(AV.int .u64)) (l:=s31.2.2) (n:=s26.1) (w:=1) (ob:=6) (ro:=false) (nr:=true) (fl:=true) (a:=a42) kr kr gE q43 ?_
      refine loadR (enc:=(AV.int .u64)) (l:=s31.2.2) (n:=s26.1) (w:=1) (ob:=6) (c:=0) (bx:=false) (ro:=false) (nr:=true) (fl:=true) (a:=a42) kr kr q43 gE ?_
      refine sy 1 6 ?_
      refine shlR (k:=.u64) (k':=.i64) (a:=1) (b:=a34) kr gE h (fun h=>?_)
      refine sy 1 8 ?_
      refine idxR' (enc:=(AV.int .u64)) (l:=s31.2.2) (n:=s26.1) (w:=1) (ob:=6) (ro:=false) (nr:=true) (fl:=true) (a:=a42) kr kr gE q43 ?_
      refine storeR (enc:=(AV.int .u64)) (l:=s31.2.2) (n:=s26.1) (ob:=6) (w:=1) (bx:=false) (nr:=true) (fl:=true) (c:=0) (a:=a42) (a':=zv (BitVec.ofInt (IntKind.bits .u64) a42 ||| BitVec.ofInt (IntKind.bits .u64) (zv (1*2^min (zt a34) (IntKind.bits .u64)))).toNat) (v:=.int .u64 (zv (BitVec.ofInt (IntKind.bits .u64) a42 ||| BitVec.ofInt (IntKind.bits .u64) (zv (1*2^min (zt a34) (IntKind.bits .u64)))).toNat)) false kr kr q43 kr rfl kr gE kr ?_
      refine rknN (n:=s31.2.2.length) (m:=(List.set s31.2.2 (zt s26.1) (zv (BitVec.ofInt (IntKind.bits .u64) a42 ||| BitVec.ofInt (IntKind.bits .u64) (zv (1*2^min (zt a34) (IntKind.bits .u64)))).toNat)).length) (S:=fun n44=>⟨(s42_70 s26 p0 a29 s31 a34)++[(111,vI a34),(10,vI a34),(112,.ptr 3 0 3),(113,.ref 6 0 n44),(114,vI s26.1),(115,.ptr 6 (zt s26.1) 0),(116,.int .u64 a42),(117,vI a34),(118,.int .u64 (zv (1*2^min (zt a34) (IntKind.bits .u64)))),(119,.int .u64 (zv (BitVec.ofInt (IntKind.bits .u64) a42 ||| BitVec.ofInt (IntKind.bits .u64) (zv (1*2^min (zt a34) (IntKind.bits .u64)))).toNat)),(120,.ptr 6 (zt s26.1) 0)],[(o42_8 p0),(o42_8 p0),o42_9,oX false false 5 (.agg [vI p0.Grain,eL false eTapi_Node p0.Nodes,.ref 5 0 x23.2.length,.ref 6 0 n44,.nils]),(o42_10 a29),oR true 1 eI x23.2,oR true 1 (AV.int .u64) (List.set s31.2.2 (zt s26.1) (zv (BitVec.ofInt (IntKind.bits .u64) a42 ||| BitVec.ofInt (IntKind.bits .u64) (zv (1*2^min (zt a34) (IntKind.bits .u64)))).toNat))],140⟩) (by simp only [List.length_set]) ?_
      refine rgd (wg [2,4,8,9,80,81,82,88,89,90,10] [2,3,4,5,6] (rn ?_))
      cases h
      exact ⟨_,rfl,(wk_gc (live:=[2,4,8,9,10,80,81,82,88,89,90]) (keep:=[2,3,4,5,6]) kr)⟩
     refine wcF (wg [2,4,9,80,81,82] [2,3,4,5,6] ?_)
     refine wp_exit ?_
     cases h
     exact ⟨kr,rfl⟩
    intro x45 h out hx
    subst hx
    rcases x45 with x46 | x47
    ·dsimp only at h ⊢
     cases h
     exact ⟨kr,rfl⟩
    ·dsimp only at h ⊢
     refine wp_seq (reg_in (sz 2 2 ?_))
     refine callR (as0:=[.agg [vI p0.Grain,eL false eTapi_Node p0.Nodes,.ref 5 0 x23.2.length,.ref 6 0 x47.length,.nils],.agg [vI a29.Card,z1 a29.Parents,z2 a29.Rows]]) (us:=[.agg [vI p0.Grain,eL false eTapi_Node p0.Nodes,z1 x23.2,eL true (AV.int .u64) x47,.nils],.agg [vI a29.Card,z1 a29.Parents,z2 a29.Rows]]) (ids:=[5,6]) kr bodyB_75 (msnap_cons (snap_agg (msnap_cons rfl (msnap_cons rfl (msnap_cons (snap_full (w:=1) (bx:=false) (ro:=false) kr) (msnap_cons (snap_full (w:=1) (bx:=false) (ro:=false) kr) (msnap_cons rfl msnap_nil (by rfl)) (by rfl)) (by rfl)) (by rfl)) (by rfl))) (msnap_cons (snap_agg (msnap_cons rfl (msnap_cons rfl (msnap_cons rfl msnap_nil (by rfl)) (by rfl)) (by rfl))) msnap_nil (by rfl)) (by rfl)) (fun x48 q49=>CallOk.args [[.keep,.keep,.keep,.keep,.lst true],[.keep,.keep,.keep]] (g_net_network_filled_ok (Tnet_network.mk p0 x23.2 x47 []) a29 x48 q49)) gF h (fun x48 q49 h=>?_)
     refine sz 1 4 (reg_end rfl ?_)
     refine wbz h (fun q51 h=>?_) (fun q51 h=>?_)
     ·refine wp_seq (wg [2] [2] (rn (wg [2,3] [2] ?_)))
      refine wp_ret ?_
      cases h
      exact ⟨kr,rfl⟩
     refine wp_skip (wg [2,4,80,81,82] [2,3,5,6] (rn ?_))
     cases h
     exact ⟨_,rfl,(wk_gc (live:=[2,4,80,81,82]) (keep:=[2,3,4,5]) kr)⟩
   refine wcF (wg [2,4] [2,3,4,5] ?_)
   refine wp_exit ?_
   cases h
   exact ⟨kr,rfl⟩
  intro x52 h out hx
  subst hx
  rcases x52 with x53 | x54
  ·dsimp only at h ⊢
   refine ⟨⟨(s42_10 p0),(s42_5 p0),14⟩,by as_aux_lemma=>kernel_rfl,?_⟩
   refine sz 3 5 ?_
   refine sgL false [] [] false gE ?_
   refine sz 2 8 (reg_end rfl (wp_seq (wg [4,5] [3] (rn (wg [2,3] [] ?_)))))
   refine wp_ret ?_
   refine ⟨⟨[(0,(o42_11 p0)),(1,.ptr 0 0 0),(2,.nils),(3,vI 0),(8,(o42_11 p0)),(9,.tup [.nils,vI 50])],(s42_1 p0),30⟩,by as_aux_lemma=>kernel_rfl,?_⟩
   refine sz 5 7 (reg_end rfl (wp_seq (wp_seq ?_)))
   refine wgc [4,5] [] ⟨[(4,.nils),(5,vI 50)],[],30⟩ ?_
   refine rn (wcT (sq (wg [2,3] [] ?_)))
   refine wp_wk (wk_nil 2 1 true true gE) ?_
   cases h
   exact wp_ret (show fnOut _ _ _ _=_ from by kernel_rfl)
  ·dsimp only at h ⊢
   refine wp_seq (reg_in (sz 2 2 ?_))
   refine callR (as0:=[.ref 5 0 x54.length]) (ids:=[5]) kr bodyB_76 (msnap_cons (snap_full (w:=1) (bx:=false) (ro:=false) kr) msnap_nil (by rfl)) (fun x55 q56=>g_net_sorted_ok x54 x55 q56) gF h (fun x55 q56 h=>?_)
   refine sz 5 8 (reg_end rfl (wp_seq (wp_seq (wg [2,4,13,14] [2,3,6,4,5] (rn ?_)))))
   refine wb [135] h (fun q58 h=>?_) (fun q58 h=>?_)
   ·refine wcT (wp_seq ?_)
    refine wgc [2] [2] ⟨[(2,.ptr 2 0 0)],(s42_5 p0),140⟩ ?_
    refine rn (wg [2,3] [2] ?_)
    refine wp_ret ?_
    refine ⟨⟨(s42_10 p0),(s42_5 p0),14⟩,by as_aux_lemma=>kernel_rfl,?_⟩
    refine sz 3 5 ?_
    refine sgL false [] [] false gE ?_
    refine sz 2 8 (reg_end rfl (wp_seq (wg [4,5] [3] (rn ?_))))
    refine wgc [2,3] [] ⟨[(2,.nils),(3,vI 50)],(s42_1 p0),14⟩ ?_
    refine wp_ret ?_
    refine ⟨⟨[(0,(o42_11 p0)),(1,.ptr 0 0 0),(2,.nils),(3,vI 0),(8,(o42_11 p0)),(9,.tup [.nils,vI 50])],(s42_1 p0),30⟩,by as_aux_lemma=>kernel_rfl,?_⟩
    refine sz 5 7 (reg_end rfl (wp_seq (wp_seq (wg [4,5] [] (rn (wcT (sq ?_)))))))
    refine wgc [2,3] [] ⟨[(2,.nils),(3,vI 50)],[],30⟩ ?_
    refine wp_wk (wk_nil 2 1 true true gE) ?_
    cases h
    exact wp_ret (show fnOut _ _ _ _=_ from by kernel_rfl)
   refine wcF (wp_skip (sq (wp_seq ?_)))
   refine wgc [2,4] [2,3,5,6,4] ⟨[(2,.ptr 2 0 0),(4,.ptr 3 0 0)],[(o42_8 p0),(o42_8 p0),o42_9,oX false false 5 (.agg [vI p0.Grain,eL false eTapi_Node p0.Nodes,.ref 4 0 x23.2.length,.ref 5 0 x54.length,.ref 6 0 x55.1.length]),oR true 1 eI x23.2,oR true 1 (AV.int .u64) x54,oR true 1 eI x55.1],140⟩ ?_
   refine rn (wg [2,3] [2,4,5,6] ?_)
   refine wp_ret ?_
   refine ⟨⟨[(0,(o42_11 p0)),(1,.ptr 1 0 0),(2,.nils),(3,vI 0),(7,(o42_11 p0)),(8,.tup [.agg [vI p0.Grain,eL false eTapi_Node p0.Nodes,.ref 3 0 x23.2.length,.ref 4 0 x54.length,.ref 5 0 x55.1.length],vI 0])],[(o42_8 p0),(o42_8 p0),oX false false 5 (.agg [vI p0.Grain,eL false eTapi_Node p0.Nodes,.ref 3 0 x23.2.length,.ref 4 0 x54.length,.ref 5 0 x55.1.length]),oR true 1 eI x23.2,oR true 1 (AV.int .u64) x54,oR true 1 eI x55.1],14⟩,by as_aux_lemma=>kernel_rfl,?_⟩
   refine sz 3 5 ?_
   refine sgL false [] [] false gE ?_
   refine sz 2 8 (reg_end rfl (wp_seq (wg [4,5] [6,3,4,5] (rn ?_))))
   refine wgc [2,3] [3] ⟨[(2,.ref 1 0 x54.length),(3,vI 0)],[(o42_8 p0),oR true 1 (AV.int .u64) x54],14⟩ ?_
   refine wp_ret ?_
   refine ⟨⟨[(0,(o42_11 p0)),(1,.ptr 0 0 0),(2,.nils),(3,vI 0),(8,(o42_11 p0)),(9,.tup [.ref 1 0 x54.length,vI 0])],[(o42_8 p0),oR true 1 (AV.int .u64) x54],30⟩,by as_aux_lemma=>kernel_rfl,?_⟩
   refine sz 5 7 (reg_end rfl (wp_seq (wp_seq (wg [4,5] [1] (rn (wcF (wp_skip (wp_seq ?_))))))))
   refine sq (wp_block ?_)
   refine wwh h (fun s59=>⟨[(4,.ref 0 0 s59.2.length),(16,vI (zn x54)),(17,vI s59.1)],[oR true 1 (AV.int .u64) s59.2],30⟩) (fun v out=>out=.go (.exit 0) ⟨[(4,.ref 0 0 v.length)],[oR true 1 (AV.int .u64) v],30⟩) (wk_gc (live:=[4,16,17]) (keep:=[0]) kr) ?_ ?_
   ·intro s59 o h
    unfold g_tree_readFamilies_b3 at h
    refine sq (wp_seq ?_)
    refine wb [18] h (fun q61 h=>?_) (fun q61 h=>?_)
    ·refine wcT (wp_skip (wp_seq (wp_block (sq (rga hfol (sy 2 2 ?_))))))
     refine bind_elim h (fun a62 q63 h=>?_)
     refine idxR' (enc:=(AV.int .u64)) (l:=s59.2) (n:=s59.1) (w:=1) (ob:=0) (ro:=false) (nr:=true) (fl:=true) (a:=a62) kr kr gE q63 ?_
     refine loadR (enc:=(AV.int .u64)) (l:=s59.2) (n:=s59.1) (w:=1) (ob:=0) (c:=0) (bx:=false) (ro:=false) (nr:=true) (fl:=true) (a:=a62) kr kr q63 gE ?_
     refine sy 1 5 ?_
     refine shlR (k:=.u64) (k':=.i64) (a:=1) (b:=s59.1) kr gE h (fun h=>?_)
     refine sy 1 7 ?_
     refine idxR' (enc:=(AV.int .u64)) (l:=s59.2) (n:=s59.1) (w:=1) (ob:=0) (ro:=false) (nr:=true) (fl:=true) (a:=a62) kr kr gE q63 ?_
     refine storeR (enc:=(AV.int .u64)) (l:=s59.2) (n:=s59.1) (ob:=0) (w:=1) (bx:=false) (nr:=true) (fl:=true) (c:=0) (a:=a62) (a':=zv (BitVec.ofInt (IntKind.bits .u64) a62 ||| BitVec.ofInt (IntKind.bits .u64) (zv (1*2^min (zt s59.1) (IntKind.bits .u64)))).toNat) (v:=.int .u64 (zv (BitVec.ofInt (IntKind.bits .u64) a62 ||| BitVec.ofInt (IntKind.bits .u64) (zv (1*2^min (zt s59.1) (IntKind.bits .u64)))).toNat)) false kr kr q63 kr rfl kr gE kr ?_
     refine rl [4,20] (n:=s59.2.length) (m:=(List.set s59.2 (zt s59.1) (zv (BitVec.ofInt (IntKind.bits .u64) a62 ||| BitVec.ofInt (IntKind.bits .u64) (zv (1*2^min (zt s59.1) (IntKind.bits .u64)))).toNat)).length) (by simp only [List.length_set]) ?_
     refine rgd ?_
     refine wgc [4,16,17] [0] ⟨[(4,.ref 0 0 ((List.set s59.2 (zt s59.1) (zv (BitVec.ofInt (IntKind.bits .u64) a62 ||| BitVec.ofInt (IntKind.bits .u64) (zv (1*2^min (zt s59.1) (IntKind.bits .u64)))).toNat)).length)),(16,vI (zn x54)),(17,vI s59.1)],[oR true 1 (AV.int .u64) (List.set s59.2 (zt s59.1) (zv (BitVec.ofInt (IntKind.bits .u64) a62 ||| BitVec.ofInt (IntKind.bits .u64) (zv (1*2^min (zt s59.1) (IntKind.bits .u64)))).toNat))],30⟩ ?_
     refine rn ?_
     cases h
     exact ⟨_,rfl,(wk_gc (live:=[4,16,17]) (keep:=[0]) kr)⟩
    refine wcF (wg [4] [0] ?_)
    refine wp_exit ?_
    cases h
    exact ⟨kr,rfl⟩
   intro x66 h out hx
   subst hx
   refine sq (wg [2,3] [0] ?_)
   cases h
   exact wp_ret (show fnOut _ _ _ _=_ from by kernel_rfl)
noncomputable abbrev s19_35 (x1:((List Int) × Int)) (p1:Tapi_Tree) (s39:Int):List (Nat × AV):=[(3,.ptr 0 0 0),(5,.ref 1 0 x1.1.length),(100,z1 p1.Home),(101,vI (zn p1.Home)),(102,vI s39)]
noncomputable abbrev o19_12 (p1:Tapi_Tree):AObj:=oX true false 3 (.agg [eL true (AV.int .u64) p1.Cliques,z1 p1.Up,z1 p1.Home])
noncomputable abbrev o19_13 (p1:Tapi_Tree) (x1:((List Int) × Int)):List AObj:=[(o19_12 p1),oR true 1 (AV.int .u64) x1.1]
theorem g_tree_Check_ok (p0:Tapi_Net) (p1:Tapi_Tree) (x:Int) (h:g_tree_Check p0 p1=some x):CallOk Tryd.prog 19 [.agg [vI p0.Grain,eL false eTapi_Node p0.Nodes],.agg [eL true (AV.int .u64) p1.Cliques,z1 p1.Up,z1 p1.Home]] (.ret (vI x) []):=by
 refine fn_ok [] Tryd.func19 rfl (by decide +kernel) rfl ?_
 unfold g_tree_Check at h
 refine wp_eqB (base':=0) (st':=⟨[(0,.agg [vI p0.Grain,eL false eTapi_Node p0.Nodes]),(1,.agg [eL true (AV.int .u64) p1.Cliques,z1 p1.Up,z1 p1.Home])],[],130⟩) kr kr ?_
 refine wp_seq (reg_in ?_)
 refine sgL false [] [] false gE ?_
 refine sgL false [] [] false gE ?_
 refine sz 1 3 (reg_end rfl (wp_seq (reg_in (sz 1 1 ?_))))
 refine callW bodyB_42 (g_tree_readFamilies_ok p0) h (fun x1 _ h=>?_)
 refine sz 5 7 (reg_end rfl (wp_seq (wp_seq (wg [3,5,6] [1,2] (rn ?_)))))
 refine wb [19] h (fun q4 h=>?_) (fun q4 h=>?_)
 ·refine wcT (sq ?_)
  refine wgc [4] [] ⟨[(4,vI x1.2)],[],130⟩ ?_
  cases h
  exact wp_ret (show fnOut _ _ _ _=_ from by kernel_rfl)
 refine wcF (wp_skip (wp_seq (wp_seq (reg_in (sz 2 2 ?_)))))
 refine lenL (enc:=(AV.int .u64)) (l:=p1.Cliques) (fl:=true) kr gE ?_
 refine sz 2 5 ?_
 refine rw_wk (wk_gc (live:=[3,5,25]) (keep:=[0,1]) (st':=⟨[(3,.ptr 0 0 0),(5,.ref 1 0 x1.1.length),(25,vB (decide ((zn p1.Cliques) < 1)))],(o19_13 p1 x1),130⟩) kr) ?_
 refine rb [25] h (fun q6 h=>?_) (fun q6 h=>?_)
 ·refine sz 22 27 (reg_end rfl (wcT (wp_seq ?_)))
  refine wgc [] [] ⟨[],[],130⟩ ?_
  refine rn (wg [4] [] ?_)
  cases h
  exact wp_ret (show fnOut _ _ _ _=_ from by kernel_rfl)
 refine sz 2 7 ?_
 refine lenL (enc:=(AV.int .u64)) (l:=p1.Cliques) (fl:=true) kr gE ?_
 refine sz 3 11 (rwg [3,5,31] [0,1] ?_)
 refine rb [31] h (fun q8 h=>?_) (fun q8 h=>?_)
 ·refine sz 16 27 (reg_end rfl (wcT (wp_seq ?_)))
  refine wgc [] [] ⟨[],[],130⟩ ?_
  refine rn (wg [4] [] ?_)
  cases h
  exact wp_ret (show fnOut _ _ _ _=_ from by kernel_rfl)
 refine sz 2 13 ?_
 refine lenL (enc:=eI) (l:=p1.Up) (fl:=true) kr gE ?_
 refine sz 2 16 ?_
 refine lenL (enc:=(AV.int .u64)) (l:=p1.Cliques) (fl:=true) kr gE ?_
 refine sz 3 20 (rwg [3,5,40] [0,1] ?_)
 refine rb [40] h (fun q10 h=>?_) (fun q10 h=>?_)
 ·refine sz 7 27 (reg_end rfl (wcT (wp_seq ?_)))
  refine wgc [] [] ⟨[],[],130⟩ ?_
  refine rn (wg [4] [] ?_)
  cases h
  exact wp_ret (show fnOut _ _ _ _=_ from by kernel_rfl)
 refine sz 2 22 ?_
 refine lenL (enc:=eI) (l:=p1.Home) (fl:=true) kr gE ?_
 refine sz 4 27 (reg_end rfl ?_)
 refine wbz h (fun q12 h=>?_) (fun q12 h=>?_)
 ·refine wp_seq ?_
  refine wgc [] [] ⟨[],[],130⟩ ?_
  refine rn (wg [4] [] ?_)
  cases h
  exact wp_ret (show fnOut _ _ _ _=_ from by kernel_rfl)
 refine wp_skip (wp_seq ?_)
 refine wgc [3,5] [0,1] ⟨[(3,.ptr 0 0 0),(5,.ref 1 0 x1.1.length)],(o19_13 p1 x1),130⟩ ?_
 refine rn (wp_seq (wp_seq (reg_in (sz 2 2 ?_))))
 refine lenL (enc:=(AV.int .u64)) (l:=p1.Cliques) (fl:=true) kr gE ?_
 refine sz 1 4 (reg_end rfl (wp_block ?_))
 refine wwh h (fun s13=>⟨[(3,.ptr 0 0 0),(5,.ref 1 0 x1.1.length),(7,.int .u64 s13.1),(49,eL true (AV.int .u64) p1.Cliques),(50,vI (zn p1.Cliques)),(51,vI s13.2)],(o19_13 p1 x1),130⟩) (fun x out=>out=match x with | .inl v=>.go (.ret) ⟨[(4,vI 100)],[],130⟩ | .inr v=>.go (.exit 0) ⟨[(3,.ptr 0 0 0),(5,.ref 1 0 x1.1.length)],(o19_13 p1 x1),130⟩) (wk_gc (live:=[3,5,7,49,50,51]) (keep:=[0,1]) kr) ?_ ?_
 ·intro s13 o h
  unfold g_tree_Check_b0 at h
  refine sq (wp_seq ?_)
  refine wb [52] h (fun q15 h=>?_) (fun q15 h=>?_)
  ·refine wcT (wp_skip (wp_seq (wp_block (wp_seq (reg_in (sz 1 1 ?_))))))
   refine bind_elim h (fun a16 q17 h=>?_)
   refine idxL' (enc:=(AV.int .u64)) (l:=p1.Cliques) (n:=s13.2) (fl:=true) (w:=1) (a:=a16) kr rfl gE q17 ?_
   refine sz 3 5 (reg_end rfl (wp_seq (wp_seq (reg_in (sz 3 3 ?_)))))
   refine rw_wk (wk_gc (live:=[3,5,7,49,50,51,8,9,58]) (keep:=[0,1]) (st':=⟨[(3,.ptr 0 0 0),(5,.ref 1 0 x1.1.length),(7,.int .u64 s13.1),(49,eL true (AV.int .u64) p1.Cliques),(50,vI (zn p1.Cliques)),(51,vI s13.2),(8,vI s13.2),(9,.int .u64 a16),(58,vB (a16==0))],(o19_13 p1 x1),130⟩) kr) ?_
   refine rb [58] h (fun q19 h=>?_) (fun q19 h=>?_)
   ·refine sz 6 9 (reg_end rfl (wcT (wp_seq (wg [] [] (rn (wg [4] [] ?_))))))
    refine wp_ret ?_
    cases h
    exact ⟨kr,rfl⟩
   refine sz 3 6 ?_
   refine shrR (k:=.u64) (k':=.i64) (a:=a16) (b:=(zn x1.1)) kr gE h (fun h=>?_)
   refine sz 2 9 (reg_end rfl ?_)
   refine wbz h (fun q21 h=>?_) (fun q21 h=>?_)
   ·refine wp_seq (wg [] [] (rn (wg [4] [] ?_)))
    refine wp_ret ?_
    cases h
    exact ⟨kr,rfl⟩
   refine wp_skip (wp_seq (wp_seq (wg [3,5,7,49,50,51,8,9] [0,1] (reg_in (sz 3 3 ?_)))))
   refine bind_elim h (fun a22 q23 h=>?_)
   refine idxL' (enc:=eI) (l:=p1.Up) (n:=s13.2) (fl:=true) (w:=1) (a:=a22) kr rfl gE q23 ?_
   refine sz 2 6 (reg_end rfl (wp_block (wp_seq ?_)))
   refine wgc [3,5,7,49,50,51,8,9,10] [0,1] ⟨[(3,.ptr 0 0 0),(5,.ref 1 0 x1.1.length),(7,.int .u64 s13.1),(49,eL true (AV.int .u64) p1.Cliques),(50,vI (zn p1.Cliques)),(51,vI s13.2),(8,vI s13.2),(9,.int .u64 a16),(10,vI a22)],(o19_13 p1 x1),130⟩ ?_
   refine rn ?_
   refine wb [72,70] h (fun q25 h=>?_) (fun q25 h=>?_)
   ·refine wcT (sq ?_)
    refine wbz h (fun q27 h=>?_) (fun q27 h=>?_)
    ·refine wp_seq (wg [] [] (rn (wg [4] [] ?_)))
     refine wp_ret ?_
     cases h
     exact ⟨kr,rfl⟩
    refine wp_skip (wg [3,5,7,49,50,51,9] [0,1] (rn (rn ?_)))
    cases h
    exact ⟨_,rfl,(wk_gc (live:=[3,5,7,49,50,51]) (keep:=[0,1]) kr)⟩
   refine wcF (wp_seq (reg_in (sz 3 3 (rwg [3,5,7,49,50,51,8,9,10,78] [0,1] ?_))))
   refine rb [78] h (fun q29 h=>?_) (fun q29 h=>?_)
   ·refine sz 17 20 (reg_end rfl (wcT (wp_seq ?_)))
    refine wgc [] [] ⟨[],[],130⟩ ?_
    refine rn (wg [4] [] ?_)
    refine wp_ret ?_
    cases h
    exact ⟨kr,rfl⟩
   refine sz 5 8 (rwg [3,5,7,49,50,51,9,10,83] [0,1] ?_)
   refine rb [83] h (fun q31 h=>?_) (fun q31 h=>?_)
   ·refine sz 12 20 (reg_end rfl (wcT (wp_seq ?_)))
    refine wgc [] [] ⟨[],[],130⟩ ?_
    refine rn (wg [4] [] ?_)
    refine wp_ret ?_
    cases h
    exact ⟨kr,rfl⟩
   refine sz 6 14 ?_
   refine bind_elim h (fun a32 q33 h=>?_)
   refine idxL' (enc:=(AV.int .u64)) (l:=p1.Cliques) (n:=a22) (fl:=true) (w:=1) (a:=a32) kr rfl gE q33 ?_
   refine sz 5 20 (reg_end rfl ?_)
   refine wbz h (fun q35 h=>?_) (fun q35 h=>?_)
   ·refine wp_seq ?_
    refine wgc [] [] ⟨[],[],130⟩ ?_
    refine rn (wg [4] [] ?_)
    refine wp_ret ?_
    cases h
    exact ⟨kr,rfl⟩
   refine wp_skip ?_
   refine wgc [3,5,7,49,50,51,9] [0,1] ⟨[(3,.ptr 0 0 0),(5,.ref 1 0 x1.1.length),(7,.int .u64 s13.1),(49,eL true (AV.int .u64) p1.Cliques),(50,vI (zn p1.Cliques)),(51,vI s13.2),(9,.int .u64 a16)],(o19_13 p1 x1),130⟩ ?_
   refine rn (rn ?_)
   cases h
   exact ⟨_,rfl,(wk_gc (live:=[3,5,7,49,50,51]) (keep:=[0,1]) kr)⟩
  refine wcF (wg [3,5] [0,1] ?_)
  refine wp_exit ?_
  cases h
  exact ⟨kr,rfl⟩
 intro x36 h out hx
 subst hx
 rcases x36 with x37 | x38
 ·dsimp only at h ⊢
  cases h
  show fnOut _ _ _ _=_
  kernel_rfl
 ·dsimp only at h ⊢
  refine wp_seq (wp_seq (reg_in (sz 2 2 ?_)))
  refine lenL (enc:=eI) (l:=p1.Home) (fl:=true) kr gE ?_
  refine sz 1 4 (reg_end rfl (wp_block ?_))
  refine wwh h (fun s39=>⟨(s19_35 x1 p1 s39),(o19_13 p1 x1),130⟩) (fun x out=>out=match x with | .inl v=>.go (.ret) ⟨[(4,vI 100)],[],130⟩ | .inr v=>.go (.exit 3) ⟨[],[],130⟩) (wk_gc (live:=[3,5,100,101,102]) (keep:=[0,1]) kr) ?_ ?_
  ·intro s39 o h
   unfold g_tree_Check_b1 at h
   refine sq (wp_seq ?_)
   refine wb [103] h (fun q41 h=>?_) (fun q41 h=>?_)
   ·refine wcT (wp_skip (wp_seq (wp_block (wp_seq (reg_in (sz 1 1 ?_))))))
    refine bind_elim h (fun a42 q43 h=>?_)
    refine idxL' (enc:=eI) (l:=p1.Home) (n:=s39) (fl:=true) (w:=1) (a:=a42) kr rfl gE q43 ?_
    refine sz 3 5 (reg_end rfl (wp_seq (rga hfol (sy 3 3 ?_))))
    refine rb [108,109] h (fun q45 h=>?_) (fun q45 h=>?_)
    ·refine sgy 19 22 (S:=⟨(s19_35 x1 p1 s39)++[(103,vB true),(104,vI s39),(105,.fz [vI a42]),(106,vI a42),(11,vI s39),(12,vI a42),(107,vI a42),(108,vB true),(109,vB true),(110,.tup []),(111,.tup []),(112,.tup []),(113,.tup []),(114,.tup []),(115,vB true),(116,vB true),(117,.tup []),(118,.tup []),(119,.tup []),(120,.tup []),(121,.tup []),(122,.tup []),(123,.tup []),(124,.tup []),(125,.tup []),(126,.tup []),(127,.tup []),(128,vB true)],(o19_13 p1 x1),130⟩) ?_
     refine rgd (wcT (wp_seq (wg [] [] (rn (wg [4] [] ?_)))))
     refine wp_ret ?_
     cases h
     exact ⟨kr,rfl⟩
    refine sy 3 6 ?_
    refine lenL (enc:=(AV.int .u64)) (l:=p1.Cliques) (fl:=true) kr gE ?_
    refine sy 3 10 ?_
    refine rb [114,115,116] h (fun q47 h=>?_) (fun q47 h=>?_)
    ·refine sgy 12 22 (S:=⟨(s19_35 x1 p1 s39)++[(103,vB true),(104,vI s39),(105,.fz [vI a42]),(106,vI a42),(11,vI s39),(12,vI a42),(107,vI a42),(108,vB false),(109,vB false),(110,vI a42),(111,.ptr 0 0 0),(112,eL true (AV.int .u64) p1.Cliques)]++[(113,vI (zn p1.Cliques)),(114,vB true),(115,vB true),(116,vB true),(117,.tup []),(118,.tup []),(119,.tup []),(120,.tup []),(121,.tup []),(122,.tup []),(123,.tup []),(124,.tup []),(125,.tup []),(126,.tup []),(127,.tup []),(128,vB true)],(o19_13 p1 x1),130⟩) ?_
     refine rgd (wcT (wp_seq (wg [] [] (rn (wg [4] [] ?_)))))
     refine wp_ret ?_
     cases h
     exact ⟨kr,rfl⟩
    refine sy 2 12 ?_
    refine bind_elim h (fun a48 q49 h=>?_)
    refine idxR' (enc:=(AV.int .u64)) (l:=x1.1) (n:=s39) (w:=1) (ob:=1) (ro:=false) (nr:=true) (fl:=true) (a:=a48) kr kr gE q49 ?_
    refine loadR (enc:=(AV.int .u64)) (l:=x1.1) (n:=s39) (w:=1) (ob:=1) (c:=0) (bx:=false) (ro:=false) (nr:=true) (fl:=true) (a:=a48) kr kr q49 gE ?_
    refine sgy 3 17 (S:=⟨(s19_35 x1 p1 s39)++[(103,vB true),(104,vI s39),(105,.fz [vI a42]),(106,vI a42),(11,vI s39),(12,vI a42),(107,vI a42),(108,vB false),(109,vB false),(110,vI a42),(111,.ptr 0 0 0),(112,eL true (AV.int .u64) p1.Cliques)]++[(113,vI (zn p1.Cliques)),(114,vB false),(115,vB false),(116,vB false),(117,.ref 1 0 x1.1.length),(118,vI s39),(119,.ptr 1 (zt s39) 0),(120,.int .u64 a48),(121,.ptr 0 0 0),(122,eL true (AV.int .u64) p1.Cliques),(123,vI a42)],(o19_13 p1 x1),130⟩) ?_
    refine bind_elim h (fun a50 q51 h=>?_)
    refine idxL' (enc:=(AV.int .u64)) (l:=p1.Cliques) (n:=a42) (fl:=true) (w:=1) (a:=a50) kr rfl gE q51 ?_
    refine sy 4 22 (rgd ?_)
    refine wbz h (fun q53 h=>?_) (fun q53 h=>?_)
    ·refine wp_seq (wg [] [] (rn (wg [4] [] ?_)))
     refine wp_ret ?_
     cases h
     exact ⟨kr,rfl⟩
    refine wp_skip (wg [3,5,100,101,102] [0,1] (rn ?_))
    cases h
    exact ⟨_,rfl,(wk_gc (live:=[3,5,100,101,102]) (keep:=[0,1]) kr)⟩
   refine wcF (wg [] [] ?_)
   refine wp_exit ?_
   cases h
   exact ⟨kr,rfl⟩
  intro x54 h out hx
  subst hx
  rcases x54 with x55 | x56
  ·dsimp only at h ⊢
   cases h
   show fnOut _ _ _ _=_
   kernel_rfl
  ·dsimp only at h ⊢
   refine sq (wg [4] [] ?_)
   cases h
   exact wp_ret (show fnOut _ _ _ _=_ from by kernel_rfl)
theorem g_math_bits_OnesCount64_ok (p0:Int) (x:Int) (h:g_math_bits_OnesCount64 p0=some x):CallOk Tryd.prog 62 [.int .u64 p0] (.ret (vI x) []):=by
 refine fn_ok [] Tryd.func62 rfl (by decide +kernel) rfl ?_
 unfold g_math_bits_OnesCount64 at h
 refine wp_eqB (base':=0) (st':=⟨[(0,.int .u64 p0)],[],35⟩) kr kr ?_
 refine sq (sq (wp_seq (wg [0] [] (rn (wp_seq (wg [0] [] (rn (wp_seq ?_))))))))
 refine wgc [0] [] ⟨[(0,.int .u64 (zv (BitVec.ofInt (IntKind.bits .u64) (zv ((Int.fdiv (zv ((zv (BitVec.ofInt (IntKind.bits .u64) (Int.fdiv (zv ((zv (BitVec.ofInt (IntKind.bits .u64) (Int.fdiv p0 (2^min (zt 1) (IntKind.bits .u64))) &&& BitVec.ofInt (IntKind.bits .u64) 6148914691236517205).toNat)+(zv (BitVec.ofInt (IntKind.bits .u64) p0 &&& BitVec.ofInt (IntKind.bits .u64) 6148914691236517205).toNat))) (2^min (zt 2) (IntKind.bits .u64))) &&& BitVec.ofInt (IntKind.bits .u64) 3689348814741910323).toNat)+(zv (BitVec.ofInt (IntKind.bits .u64) (zv ((zv (BitVec.ofInt (IntKind.bits .u64) (Int.fdiv p0 (2^min (zt 1) (IntKind.bits .u64))) &&& BitVec.ofInt (IntKind.bits .u64) 6148914691236517205).toNat)+(zv (BitVec.ofInt (IntKind.bits .u64) p0 &&& BitVec.ofInt (IntKind.bits .u64) 6148914691236517205).toNat))) &&& BitVec.ofInt (IntKind.bits .u64) 3689348814741910323).toNat))) (2^min (zt 4) (IntKind.bits .u64)))+(zv ((zv (BitVec.ofInt (IntKind.bits .u64) (Int.fdiv (zv ((zv (BitVec.ofInt (IntKind.bits .u64) (Int.fdiv p0 (2^min (zt 1) (IntKind.bits .u64))) &&& BitVec.ofInt (IntKind.bits .u64) 6148914691236517205).toNat)+(zv (BitVec.ofInt (IntKind.bits .u64) p0 &&& BitVec.ofInt (IntKind.bits .u64) 6148914691236517205).toNat))) (2^min (zt 2) (IntKind.bits .u64))) &&& BitVec.ofInt (IntKind.bits .u64) 3689348814741910323).toNat)+(zv (BitVec.ofInt (IntKind.bits .u64) (zv ((zv (BitVec.ofInt (IntKind.bits .u64) (Int.fdiv p0 (2^min (zt 1) (IntKind.bits .u64))) &&& BitVec.ofInt (IntKind.bits .u64) 6148914691236517205).toNat)+(zv (BitVec.ofInt (IntKind.bits .u64) p0 &&& BitVec.ofInt (IntKind.bits .u64) 6148914691236517205).toNat))) &&& BitVec.ofInt (IntKind.bits .u64) 3689348814741910323).toNat))))) &&& BitVec.ofInt (IntKind.bits .u64) 1085102592571150095).toNat))],[],35⟩ ?_
 refine rn (sq (wp_seq (wg [0] [] (rn (sq (wg [2] [] ?_))))))
 cases h
 exact wp_ret (show fnOut _ _ _ _=_ from by kernel_rfl)
theorem g_math_bits_OnesCount_ok (p0:Int) (x:Int) (h:g_math_bits_OnesCount p0=some x):CallOk Tryd.prog 41 [.int .u64 p0] (.ret (vI x) []):=by
 refine fn_ok [] Tryd.func41 rfl (by decide +kernel) rfl ?_
 unfold g_math_bits_OnesCount at h
 refine wp_eqB (base':=0) (st':=⟨[(0,.int .u64 p0)],[],8⟩) kr kr ?_
 refine sq (wp_seq (wcF (wp_skip (wp_seq (reg_in (sz 1 1 ?_))))))
 refine callW bodyB_62 (g_math_bits_OnesCount64_ok p0) h (fun x1 _ h=>?_)
 refine sz 1 3 (reg_end rfl (wg [2] [] ?_))
 cases h
 exact wp_ret (show fnOut _ _ _ _=_ from by kernel_rfl)
theorem g_tree_Width_ok (p0:Tapi_Net) (p1:Tapi_Tree) (x:(Int × Int)) (h:g_tree_Width p0 p1=some x):CallOk Tryd.prog 18 [.agg [vI p0.Grain,eL false eTapi_Node p0.Nodes],.agg [eL true (AV.int .u64) p1.Cliques,z1 p1.Up,z1 p1.Home]] (.ret (.tup [vI x.1,vI x.2]) []):=by
 refine fn_ok [] Tryd.func18 rfl (by decide +kernel) rfl ?_
 unfold g_tree_Width at h
 refine wp_eqB (base':=0) (st':=⟨[(0,.agg [vI p0.Grain,eL false eTapi_Node p0.Nodes]),(1,.agg [eL true (AV.int .u64) p1.Cliques,z1 p1.Up,z1 p1.Home])],[],30⟩) kr kr ?_
 refine wp_seq (reg_in ?_)
 refine sgL false [] [] false gE ?_
 refine sgL false [] [] false gE ?_
 refine sz 2 4 (reg_end rfl (wp_seq (wp_seq (reg_in (sz 2 2 ?_)))))
 refine callW bodyB_19 (g_tree_Check_ok p0 p1) h (fun x1 _ h=>?_)
 refine sz 1 4 (reg_end rfl (wp_seq (wg [3,6] [1] (rn ?_))))
 refine wb [14] h (fun q4 h=>?_) (fun q4 h=>?_)
 ·refine wcT (sq ?_)
  refine wgc [4,5] [] ⟨[(4,vI 0),(5,vI x1)],[],30⟩ ?_
  cases h
  exact wp_ret (show fnOut _ _ _ _=_ from by kernel_rfl)
 refine wcF (wp_skip (sq (wp_seq (wp_seq (reg_in (sz 2 2 ?_))))))
 refine lenL (enc:=(AV.int .u64)) (l:=p1.Cliques) (fl:=true) kr gE ?_
 refine sz 1 4 (reg_end rfl (wp_block ?_))
 refine wwh h (fun s5=>⟨[(7,vI s5.1),(17,eL true (AV.int .u64) p1.Cliques),(18,vI (zn p1.Cliques)),(19,vI s5.2)],[],30⟩) (fun v out=>out=.go (.exit 0) ⟨[(7,vI v)],[],30⟩) (wk_gc (live:=[7,17,18,19]) (keep:=[]) kr) ?_ ?_
 ·intro s5 o h
  unfold g_tree_Width_b0 at h
  refine sq (wp_seq ?_)
  refine wb [20] h (fun q7 h=>?_) (fun q7 h=>?_)
  ·refine wcT (wp_skip (wp_seq (wp_block (wp_seq (reg_in ?_)))))
   refine bind_elim h (fun a8 q9 h=>?_)
   refine idxL' (enc:=(AV.int .u64)) (l:=p1.Cliques) (n:=s5.2) (fl:=true) (w:=1) (a:=a8) kr rfl gE q9 ?_
   refine sz 2 3 (reg_end rfl (reg_in (sz 2 2 ?_)))
   refine callW bodyB_41 (g_math_bits_OnesCount_ok a8) h (fun x10 _ h=>?_)
   refine sz 2 5 (reg_end rfl ?_)
   refine wgc [7,17,18,19] [] ⟨[(7,vI (if x10 > s5.1 then x10 else s5.1)),(17,eL true (AV.int .u64) p1.Cliques),(18,vI (zn p1.Cliques)),(19,vI s5.2)],[],30⟩ ?_
   refine rn ?_
   cases h
   exact ⟨_,rfl,(wk_gc (live:=[7,17,18,19]) (keep:=[]) kr)⟩
  refine wcF (wg [7] [] ?_)
  refine wp_exit ?_
  cases h
  exact ⟨kr,rfl⟩
 intro x13 h out hx
 subst hx
 refine sq (wg [4,5] [] ?_)
 cases h
 exact wp_ret (show fnOut _ _ _ _=_ from by kernel_rfl)
theorem g_tree_Separator_ok (p0:Tapi_Net) (p1:Tapi_Tree) (p2:Int) (x:(Int × Int)) (h:g_tree_Separator p0 p1 p2=some x):CallOk Tryd.prog 21 [.agg [vI p0.Grain,eL false eTapi_Node p0.Nodes],.agg [eL true (AV.int .u64) p1.Cliques,z1 p1.Up,z1 p1.Home],vI p2] (.ret (.tup [.int .u64 x.1,vI x.2]) []):=by
 refine fn_ok [] Tryd.func21 rfl (by decide +kernel) rfl ?_
 unfold g_tree_Separator at h
 refine wp_eqB (base':=0) (st':=⟨[(0,.agg [vI p0.Grain,eL false eTapi_Node p0.Nodes]),(1,.agg [eL true (AV.int .u64) p1.Cliques,z1 p1.Up,z1 p1.Home]),(2,vI p2)],[],39⟩) kr kr ?_
 refine wp_seq (reg_in ?_)
 refine sgL false [] [] false gE ?_
 refine sgL false [] [] false gE ?_
 refine sz 2 4 (reg_end rfl (wp_seq (wp_seq (reg_in (sz 2 2 ?_)))))
 refine callW bodyB_19 (g_tree_Check_ok p0 p1) h (fun x1 _ h=>?_)
 refine sz 1 4 (reg_end rfl (wp_seq (wg [2,4,8] [1] (rn ?_))))
 refine wb [13] h (fun q4 h=>?_) (fun q4 h=>?_)
 ·refine wcT (sq ?_)
  refine wgc [6,7] [] ⟨[(6,.int .u64 0),(7,vI x1)],[],39⟩ ?_
  cases h
  exact wp_ret (show fnOut _ _ _ _=_ from by kernel_rfl)
 refine wcF (wp_skip (wp_seq (wp_seq (reg_in (sz 3 3 ?_)))))
 refine rw_wk (wk_gc (live:=[2,4,17]) (keep:=[0]) (st':=⟨[(2,vI p2),(4,.ptr 0 0 0),(17,vB (decide (p2 < 1)))],[oX true false 3 (.agg [eL true (AV.int .u64) p1.Cliques,z1 p1.Up,z1 p1.Home])],39⟩) kr) ?_
 refine rb [17] h (fun q6 h=>?_) (fun q6 h=>?_)
 ·refine sz 6 9 (reg_end rfl (wcT (wp_seq (wg [] [] (rn (wg [6,7] [] ?_))))))
  cases h
  exact wp_ret (show fnOut _ _ _ _=_ from by kernel_rfl)
 refine sz 3 6 ?_
 refine lenL (enc:=(AV.int .u64)) (l:=p1.Cliques) (fl:=true) kr gE ?_
 refine sz 2 9 (reg_end rfl ?_)
 refine wbz h (fun q8 h=>?_) (fun q8 h=>?_)
 ·refine wp_seq (wg [] [] (rn (wg [6,7] [] ?_)))
  cases h
  exact wp_ret (show fnOut _ _ _ _=_ from by kernel_rfl)
 refine wp_skip (wp_seq (wg [2,4] [0] (rga hfol (sy 3 3 ?_))))
 refine bind_elim h (fun a9 q10 h=>?_)
 refine idxL' (enc:=(AV.int .u64)) (l:=p1.Cliques) (n:=p2) (fl:=true) (w:=1) (a:=a9) kr rfl gE q10 ?_
 refine sy 6 10 ?_
 refine bind_elim h (fun a11 q12 h=>?_)
 refine idxL' (enc:=eI) (l:=p1.Up) (n:=p2) (fl:=true) (w:=1) (a:=a11) kr rfl gE q12 ?_
 refine sy 1 12 ?_
 refine bind_elim h (fun a13 q14 h=>?_)
 refine idxL' (enc:=(AV.int .u64)) (l:=p1.Cliques) (n:=a11) (fl:=true) (w:=1) (a:=a13) kr rfl gE q14 ?_
 refine sy 4 17 (rgd ?_)
 refine wgc [6,7] [] ⟨[(6,.int .u64 (zv (BitVec.ofInt (IntKind.bits .u64) a9 &&& BitVec.ofInt (IntKind.bits .u64) a13).toNat)),(7,vI 0)],[],39⟩ ?_
 cases h
 exact wp_ret (show fnOut _ _ _ _=_ from by kernel_rfl)
theorem g_net_network_moral_ok (p0:Tnet_network) (x:(List Int)) (h:g_net_network_moral p0=some x):CallOk Tryd.prog 54 [.agg [vI p0.Net.Grain,eL false eTapi_Node p0.Net.Nodes,z1 p0.cards,eL true (AV.int .u64) p0.sets,z1 p0.order]] (.ret (.ref 0 0 x.length) [oR true 1 (AV.int .u64) x]):=by
 refine fn_ok [] Tryd.func54 rfl (by decide +kernel) rfl ?_
 unfold g_net_network_moral at h
 refine wp_eqB (base':=0) (st':=⟨[(0,.agg [vI p0.Net.Grain,eL false eTapi_Node p0.Net.Nodes,z1 p0.cards,eL true (AV.int .u64) p0.sets,z1 p0.order])],[],47⟩) kr kr ?_
 refine wp_seq (reg_in ?_)
 refine sgL false [] [] false gE ?_
 refine sz 1 2 (reg_end rfl (wp_seq (reg_in (sz 2 2 ?_))))
 refine lenL (enc:=(AV.int .u64)) (l:=p0.sets) (fl:=true) kr gE ?_
 refine mkL (enc:=(AV.int .u64)) (z:=(0:Int)) (z0:=.int .u64 0) (n:=(zn p0.sets)) (m:=(zn p0.sets)) (w:=1) (bytes:=8) [] true kr rfl gE kr h (fun h=>?_)
 refine sz 1 5 (reg_end rfl (wp_seq (wp_seq (wg [1,3] [0,1] (reg_in (sz 2 2 ?_))))))
 refine lenL (enc:=(AV.int .u64)) (l:=p0.sets) (fl:=true) kr gE ?_
 refine sz 1 4 (reg_end rfl (wp_block ?_))
 refine wwh h (fun s1=>⟨[(3,.ref 0 0 s1.2.length),(13,eL true (AV.int .u64) p0.sets),(14,vI (zn p0.sets)),(15,vI s1.1)],[oR true 1 (AV.int .u64) s1.2],47⟩) (fun v out=>out=.go (.exit 0) ⟨[(3,.ref 0 0 v.length)],[oR true 1 (AV.int .u64) v],47⟩) (wk_gc (live:=[3,13,14,15]) (keep:=[1]) kr) ?_ ?_
 ·intro s1 o h
  unfold g_net_network_moral_b1 at h
  refine sq (wp_seq ?_)
  refine wb [16] h (fun q3 h=>?_) (fun q3 h=>?_)
  ·refine wcT (wp_skip (wp_seq (wp_block (wp_seq (reg_in (sz 1 1 ?_))))))
   refine bind_elim h (fun a4 q5 h=>?_)
   refine idxL' (enc:=(AV.int .u64)) (l:=p0.sets) (n:=s1.1) (fl:=true) (w:=1) (a:=a4) kr rfl gE q5 ?_
   refine sz 3 5 (reg_end rfl (wp_seq (reg_in (sz 2 2 ?_))))
   refine shlR (k:=.u64) (k':=.i64) (a:=1) (b:=s1.1) kr gE h (fun h=>?_)
   refine sz 2 5 (reg_end rfl (wp_seq ?_))
   refine wgc [3,13,14,15,6] [0] ⟨[(3,.ref 0 0 s1.2.length),(13,eL true (AV.int .u64) p0.sets),(14,vI (zn p0.sets)),(15,vI s1.1),(6,.int .u64 (zv (BitVec.ofInt (IntKind.bits .u64) a4 ||| BitVec.ofInt (IntKind.bits .u64) (zv (1*2^min (zt s1.1) (IntKind.bits .u64)))).toNat))],[oR true 1 (AV.int .u64) s1.2],47⟩ ?_
   refine rn (wp_block ?_)
   refine wwh h (fun s6=>⟨[(3,.ref 0 0 s6.2.length),(6,.int .u64 (zv (BitVec.ofInt (IntKind.bits .u64) a4 ||| BitVec.ofInt (IntKind.bits .u64) (zv (1*2^min (zt s1.1) (IntKind.bits .u64)))).toNat)),(13,eL true (AV.int .u64) p0.sets),(14,vI (zn p0.sets)),(15,vI s1.1),(25,vI (zn s1.2)),(26,vI s6.1)],[oR true 1 (AV.int .u64) s6.2],47⟩) (fun v out=>out=.go (.exit 2) ⟨[(3,.ref 0 0 v.length),(13,eL true (AV.int .u64) p0.sets),(14,vI (zn p0.sets)),(15,vI s1.1)],[oR true 1 (AV.int .u64) v],47⟩) (wk_gc (live:=[3,6,13,14,15,25,26]) (keep:=[0]) kr) ?_ ?_
   ·intro s6 o h
    unfold g_net_network_moral_b0 at h
    refine sq (wp_seq ?_)
    refine wb [27] h (fun q8 h=>?_) (fun q8 h=>?_)
    ·refine wcT (wp_skip (wp_seq (wp_block (sq (wp_seq (reg_in (sz 2 2 ?_)))))))
     refine shrR (k:=.u64) (k':=.i64) (a:=zv (BitVec.ofInt (IntKind.bits .u64) a4 ||| BitVec.ofInt (IntKind.bits .u64) (zv (1*2^min (zt s1.1) (IntKind.bits .u64)))).toNat) (b:=s6.1) kr gE h (fun h=>?_)
     refine sz 2 5 (reg_end rfl ?_)
     refine wbz h (fun q10 h=>?_) (fun q10 h=>?_)
     ·refine wgc [3,6,13,14,15,25,26,7] [0] ⟨[(3,.ref 0 0 s6.2.length),(6,.int .u64 (zv (BitVec.ofInt (IntKind.bits .u64) a4 ||| BitVec.ofInt (IntKind.bits .u64) (zv (1*2^min (zt s1.1) (IntKind.bits .u64)))).toNat)),(13,eL true (AV.int .u64) p0.sets),(14,vI (zn p0.sets)),(15,vI s1.1),(25,vI (zn s1.2)),(26,vI s6.1),(7,vI s6.1)],[oR true 1 (AV.int .u64) s6.2],47⟩ ?_
      refine rga hfol (sy 2 2 ?_)
      refine bind_elim h (fun a11 q12 h=>?_)
      refine idxR' (enc:=(AV.int .u64)) (l:=s6.2) (n:=s6.1) (w:=1) (ob:=0) (ro:=false) (nr:=true) (fl:=true) (a:=a11) kr kr gE q12 ?_
      refine loadR (enc:=(AV.int .u64)) (l:=s6.2) (n:=s6.1) (w:=1) (ob:=0) (c:=0) (bx:=false) (ro:=false) (nr:=true) (fl:=true) (a:=a11) kr kr q12 gE ?_
      refine sy 2 6 ?_
      refine shlR (k:=.u64) (k':=.i64) (a:=1) (b:=s6.1) kr gE h (fun h=>?_)
      refine sy 2 9 ?_
      refine idxR' (enc:=(AV.int .u64)) (l:=s6.2) (n:=s6.1) (w:=1) (ob:=0) (ro:=false) (nr:=true) (fl:=true) (a:=a11) kr kr gE q12 ?_
      refine storeR (enc:=(AV.int .u64)) (l:=s6.2) (n:=s6.1) (ob:=0) (w:=1) (bx:=false) (nr:=true) (fl:=true) (c:=0) (a:=a11) (a':=zv (BitVec.ofInt (IntKind.bits .u64) a11 ||| BitVec.ofInt (IntKind.bits .u64) (zv (BitVec.ofInt (IntKind.bits .u64) (zv (BitVec.ofInt (IntKind.bits .u64) a4 ||| BitVec.ofInt (IntKind.bits .u64) (zv (1*2^min (zt s1.1) (IntKind.bits .u64)))).toNat) &&& ~~~ BitVec.ofInt (IntKind.bits .u64) (zv (1*2^min (zt s6.1) (IntKind.bits .u64)))).toNat)).toNat) (v:=.int .u64 (zv (BitVec.ofInt (IntKind.bits .u64) a11 ||| BitVec.ofInt (IntKind.bits .u64) (zv (BitVec.ofInt (IntKind.bits .u64) (zv (BitVec.ofInt (IntKind.bits .u64) a4 ||| BitVec.ofInt (IntKind.bits .u64) (zv (1*2^min (zt s1.1) (IntKind.bits .u64)))).toNat) &&& ~~~ BitVec.ofInt (IntKind.bits .u64) (zv (1*2^min (zt s6.1) (IntKind.bits .u64)))).toNat)).toNat)) false kr kr q12 kr rfl kr gE kr ?_
      refine rl [3,34] (n:=s6.2.length) (m:=(List.set s6.2 (zt s6.1) (zv (BitVec.ofInt (IntKind.bits .u64) a11 ||| BitVec.ofInt (IntKind.bits .u64) (zv (BitVec.ofInt (IntKind.bits .u64) (zv (BitVec.ofInt (IntKind.bits .u64) a4 ||| BitVec.ofInt (IntKind.bits .u64) (zv (1*2^min (zt s1.1) (IntKind.bits .u64)))).toNat) &&& ~~~ BitVec.ofInt (IntKind.bits .u64) (zv (1*2^min (zt s6.1) (IntKind.bits .u64)))).toNat)).toNat)).length) (by simp only [List.length_set]) ?_
      refine rgd (wg [3,6,13,14,15,25,26] [0] (rn ?_))
      cases h
      exact ⟨_,rfl,(wk_gc (live:=[3,6,13,14,15,25,26]) (keep:=[0]) kr)⟩
     refine wp_skip ?_
     refine wgc [3,6,13,14,15,25,26] [0] ⟨[(3,.ref 0 0 s6.2.length),(6,.int .u64 (zv (BitVec.ofInt (IntKind.bits .u64) a4 ||| BitVec.ofInt (IntKind.bits .u64) (zv (1*2^min (zt s1.1) (IntKind.bits .u64)))).toNat)),(13,eL true (AV.int .u64) p0.sets),(14,vI (zn p0.sets)),(15,vI s1.1),(25,vI (zn s1.2)),(26,vI s6.1)],[oR true 1 (AV.int .u64) s6.2],47⟩ ?_
     refine rn ?_
     cases h
     exact ⟨_,rfl,(wk_gc (live:=[3,6,13,14,15,25,26]) (keep:=[0]) kr)⟩
    refine wcF (wg [3,13,14,15] [0] ?_)
    refine wp_exit ?_
    cases h
    exact ⟨kr,rfl⟩
   intro x15 h out hx
   subst hx
   refine rn ?_
   cases h
   exact ⟨_,rfl,(wk_gc (live:=[3,13,14,15]) (keep:=[0]) kr)⟩
  refine wcF (wg [3] [0] ?_)
  refine wp_exit ?_
  cases h
  exact ⟨kr,rfl⟩
 intro x17 h out hx
 subst hx
 refine sq (wg [2] [0] ?_)
 cases h
 exact wp_ret (show fnOut _ _ _ _=_ from by kernel_rfl)
theorem g_net_Moral_ok (p0:Tapi_Net) (x:((List Int) × Int)) (h:g_net_Moral p0=some x):CallOk Tryd.prog 28 [.agg [vI p0.Grain,eL false eTapi_Node p0.Nodes]] (.ret (.tup [.ref 0 0 x.1.length,vI x.2]) [oR true 1 (AV.int .u64) x.1]):=by
 refine fn_ok [] Tryd.func28 rfl (by decide +kernel) rfl ?_
 unfold g_net_Moral at h
 refine wp_eqB (base':=0) (st':=⟨[(0,.agg [vI p0.Grain,eL false eTapi_Node p0.Nodes])],[],16⟩) kr kr ?_
 refine wp_seq (reg_in ?_)
 refine sgL false [] [] false gE ?_
 refine sz 2 3 (reg_end rfl (wp_seq (reg_in (sz 1 1 ?_))))
 refine callW bodyB_53 (g_net_read_ok p0) h (fun x1 _ h=>?_)
 refine sz 3 5 ?_
 refine sgL false [] [] false gE ?_
 refine sz 2 8 (reg_end rfl (wp_seq (wp_seq ?_)))
 refine wgc [4,5] [1] ⟨[(4,.ptr 0 0 0),(5,vI x1.2)],[oX true false 5 (.agg [vI x1.1.Net.Grain,eL false eTapi_Node x1.1.Net.Nodes,z1 x1.1.cards,eL true (AV.int .u64) x1.1.sets,z1 x1.1.order])],16⟩ ?_
 refine rn ?_
 refine wb [12] h (fun q4 h=>?_) (fun q4 h=>?_)
 ·refine wcT (sq (wg [2,3] [] ?_))
  refine wp_wk (wk_nil 2 1 true true gE) ?_
  cases h
  exact wp_ret (show fnOut _ _ _ _=_ from by kernel_rfl)
 refine wcF (wp_skip (wp_seq (reg_in (sz 1 1 ?_))))
 refine callW bodyB_54 (g_net_network_moral_ok x1.1) h (fun x5 _ h=>?_)
 refine sz 2 4 (reg_end rfl (wg [2,3] [1] ?_))
 cases h
 exact wp_ret (show fnOut _ _ _ _=_ from by kernel_rfl)
theorem g_slices_Clone_uint_uint_c_ok (c0:Int) (d0:(List Int)) (x:(List Int)) (h:g_slices_Clone_uint_uint_c c0 d0=some x):CallOk Tryd.prog 84 [eL true (AV.int .u64) (c0::d0)] (.ret (.ref 0 0 x.length) [oR true 1 (AV.int .u64) x]):=by
 refine fn_ok [] Tryd.func84 rfl (by decide +kernel) rfl ?_
 unfold g_slices_Clone_uint_uint_c at h
 refine wp_eqB (base':=0) (st':=⟨[(0,eL true (AV.int .u64) (c0::d0))],[],8⟩) kr kr ?_
 refine sq (wp_seq (sq (wcF (wp_skip (wp_seq (reg_in (sz 2 2 ?_)))))))
 refine appN (enc:=(AV.int .u64)) (m:=(c0::d0)) (w:=1) (bytes:=8) (nr':=true) (fl':=true) (a:=.emp) (b:=eL true (AV.int .u64) (c0::d0)) (rds:=[]) false kr (.inr rfl) (elems_lst (fun _=>rfl)) rfl gE kr h (fun h=>?_)
 refine sz 1 4 (reg_end rfl (wg [2] [0] ?_))
 cases h
 exact wp_ret (show fnOut _ _ _ _=_ from by kernel_rfl)
theorem g_slices_Clone_uint_uint_e_ok  (x:(List Int)) (h:g_slices_Clone_uint_uint_e=some x):CallOk Tryd.prog 84 [.emn] (.ret (.ref 0 0 x.length) [oR true 1 (AV.int .u64) x]):=by
 refine fn_ok [] Tryd.func84 rfl (by decide +kernel) rfl ?_
 unfold g_slices_Clone_uint_uint_e at h
 refine wp_eqB (base':=0) (st':=⟨[(0,.emn)],[],8⟩) kr kr ?_
 refine sq (wp_seq (sq (wcF (wp_skip (wp_seq (reg_in (sz 2 2 (sz 1 3 (sz 1 4 ?_)))))))))
 refine reg_end rfl (wg [2] [0] ?_)
 cases h
 exact wp_ret (show fnOut _ _ _ _=_ from by kernel_rfl)
theorem g_slices_Clone_uint_uint_n_ok  (x:(List Int)) (h:g_slices_Clone_uint_uint_n=some x):CallOk Tryd.prog 84 [.nils] (.ret (.ref 0 0 x.length) [oR true 1 (AV.int .u64) x]):=by
 refine fn_ok [] Tryd.func84 rfl (by decide +kernel) rfl ?_
 unfold g_slices_Clone_uint_uint_n at h
 refine wp_eqB (base':=0) (st':=⟨[(0,.nils)],[],8⟩) kr kr ?_
 refine sq (wp_seq (sq (wcT (sq (wg [2] [] ?_)))))
 refine wp_wk (wk_nil 2 1 true true gE) ?_
 cases h
 exact wp_ret (show fnOut _ _ _ _=_ from by kernel_rfl)
theorem g_slices_Clone_uint_uint_ok (p0:(List Int)) (x:(List Int)) (h:g_slices_Clone_uint_uint p0=some x):CallOk Tryd.prog 84 [eL true (AV.int .u64) p0] (.ret (.ref 0 0 x.length) [oR true 1 (AV.int .u64) x]):=by
 cases p0 with
 | cons c0 d0=>exact g_slices_Clone_uint_uint_c_ok c0 d0 x h
 | nil =>
  cases h1:g_slices_Clone_uint_uint_n with
  | none=>simp [g_slices_Clone_uint_uint,h1] at h
  | some y =>
   cases h2:g_slices_Clone_uint_uint_e with
   | none=>simp [g_slices_Clone_uint_uint,h1,h2] at h
   | some z =>
    by_cases e:y=z
    ·subst e
     simp [g_slices_Clone_uint_uint,h1,h2] at h
     subst h
     exact CallOk.nil (l1:=[]) (l2:=[]) (g_slices_Clone_uint_uint_n_ok y h1) (g_slices_Clone_uint_uint_e_ok y h2)
    ·simp [g_slices_Clone_uint_uint,h1,h2,e] at h
theorem g_tree_maker_cliques_ok (p0:Ttree_maker) (x:(List Int)) (h:g_tree_maker_cliques p0=some x):CallOk Tryd.prog 64 [.agg [eL true (AV.int .u64) p0.graph.near,z1 p0.order]] (.ret (.ref 0 0 x.length) [oR true 1 (AV.int .u64) x]):=by
 refine fn_ok [] Tryd.func64 rfl (by decide +kernel) rfl ?_
 unfold g_tree_maker_cliques at h
 refine wp_eqB (base':=0) (st':=⟨[(0,.agg [eL true (AV.int .u64) p0.graph.near,z1 p0.order])],[],26⟩) kr kr ?_
 refine wp_seq (reg_in ?_)
 refine sgL false [] [] false gE ?_
 refine sz 1 2 (reg_end rfl ?_)
 refine wp_scope ?_
 refine wp_seq (reg_in ?_)
 refine sgL (S:=⟨[(0,.agg [eL true (AV.int .u64) p0.graph.near,z1 p0.order]),(1,.ptr 0 0 0),(2,.nils),(3,.ptr 1 0 0)],[oX true false 2 (.agg [eL true (AV.int .u64) p0.graph.near,z1 p0.order]),oX true false 1 (.nils)],26⟩) false [] [] false kr ?_
 refine reg_end rfl (wp_seq ?_)
 refine wp_label ?_
 refine wp_seq (wp_seq (reg_in (sz 1 1 ?_)))
 refine inlR (f:=80) (fn:=Tryd.f80) (as0:=[.agg [eL true (AV.int .u64) p0.graph.near,z1 p0.order]]) kr Tryd.func80 rfl (by decide +kernel) rfl ?_
 refine wp_eqB (base':=2) (st':=⟨[(0,.agg [eL true (AV.int .u64) p0.graph.near,z1 p0.order])],[oX true false 2 (.agg [eL true (AV.int .u64) p0.graph.near,z1 p0.order]),oX true false 1 (.nils)],4⟩) kr kr ?_
 refine wp_seq (reg_in ?_)
 refine sgL false [] [] false gE ?_
 refine sz 1 2 (reg_end rfl (sq (wg [2] [2] ?_)))
 refine wp_ret ?_
 refine ⟨⟨[(0,.agg [eL true (AV.int .u64) p0.graph.near,z1 p0.order]),(1,.ptr 0 0 0),(2,.nils),(3,.ptr 1 0 0),(7,.agg [eL true (AV.int .u64) p0.graph.near,z1 p0.order])]++[(8,.fn (.func 86) [] [.ptr 2 0 0])],[oX true false 2 (.agg [eL true (AV.int .u64) p0.graph.near,z1 p0.order]),oX true false 1 (.nils),oX true false 2 (.agg [eL true (AV.int .u64) p0.graph.near,z1 p0.order])],26⟩,by as_aux_lemma=>kernel_rfl,?_⟩
 refine reg_end rfl (wp_block ?_)
 refine wgc [3,8] [1,2] ⟨[(3,.ptr 0 0 0),(8,.fn (.func 86) [] [.ptr 1 0 0])],[oX true false 1 (.nils),oX true false 2 (.agg [eL true (AV.int .u64) p0.graph.near,z1 p0.order])],26⟩ ?_
 refine wp_range (f:=86) (fn:=Tryd.f86) (first:=[]) (caps:=[.ptr 1 0 0]) rfl Tryd.func86 rfl (by decide +kernel) rfl rfl ?_
 refine wp_eqB (base':=3) (st':=⟨[(0,.yld 2),(1,.ptr 1 0 0)],[oX true false 1 (.nils),oX true false 2 (.agg [eL true (AV.int .u64) p0.graph.near,z1 p0.order]),.loop 26 [(3,.ptr 0 0 0),(8,.fn (.func 86) [] [.ptr 1 0 0])] [9] (cA Tryd.f64 [true,true,true,true,false,true,true]) (cB Tryd.f64 [true,true,true,true,false,true,true]) .ready none],59⟩) kr kr ?_
 refine wp_seq (reg_in (sz 3 3 ?_))
 refine callW bodyB_84 (g_slices_Clone_uint_uint_ok p0.graph.near) h (fun x1 _ h=>?_)
 refine sz 2 6 (reg_end rfl (wp_seq (reg_in (sz 2 2 ?_))))
 refine lenL (enc:=eI) (l:=p0.order) (fl:=true) kr gE ?_
 refine sz 1 4 (reg_end rfl (wp_block ?_))
 refine wwh h (fun s3=>⟨[(0,.yld 2),(3,.ref 4 0 s3.2.2.2.length),(4,.int .u64 s3.1),(14,z1 p0.order),(15,vI (zn p0.order)),(16,vI s3.2.1)],[oX false false 1 (.ref 3 0 s3.2.2.1.length),oX true false 2 (.agg [eL true (AV.int .u64) p0.graph.near,z1 p0.order]),.loop 26 [(3,.ptr 0 0 0),(8,.fn (.func 86) [] [.ptr 1 0 0])] [9] (cA Tryd.f64 [true,true,true,true,false,true,true]) (cB Tryd.f64 [true,true,true,true,false,true,true]) .ready none,oR true 1 (AV.int .u64) s3.2.2.1,oR true 1 (AV.int .u64) s3.2.2.2],59⟩) (fun v out=>out=.go (.exit 0) ⟨[],[oX false false 1 (.ref 3 0 v.length),oX true false 2 (.agg [eL true (AV.int .u64) p0.graph.near,z1 p0.order]),.loop 26 [(3,.ptr 0 0 0),(8,.fn (.func 86) [] [.ptr 1 0 0])] [9] (cA Tryd.f64 [true,true,true,true,false,true,true]) (cB Tryd.f64 [true,true,true,true,false,true,true]) .ready none,oR true 1 (AV.int .u64) v],59⟩) (wk_trans (wk_gc (live:=[0,3,4,14,15,16]) (keep:=[3]) (st':=⟨[(0,.yld 2),(3,.ref 3 0 x1.length),(4,.int .u64 18446744073709551615),(14,z1 p0.order),(15,vI (zn p0.order)),(16,vI 0)],[oX true false 1 (.nils),oX true false 2 (.agg [eL true (AV.int .u64) p0.graph.near,z1 p0.order]),.loop 26 [(3,.ptr 0 0 0),(8,.fn (.func 86) [] [.ptr 1 0 0])] [9] (cA Tryd.f64 [true,true,true,true,false,true,true]) (cB Tryd.f64 [true,true,true,true,false,true,true]) .ready none,oR true 1 (AV.int .u64) x1],59⟩) kr) (wk_trans (wk_nilO 0 0 0 1 true true (st':=⟨[(0,.yld 2),(3,.ref 3 0 x1.length),(4,.int .u64 18446744073709551615),(14,z1 p0.order),(15,vI (zn p0.order)),(16,vI 0)],[oX false false 1 (.ref 4 0 0),oX true false 2 (.agg [eL true (AV.int .u64) p0.graph.near,z1 p0.order]),.loop 26 [(3,.ptr 0 0 0),(8,.fn (.func 86) [] [.ptr 1 0 0])] [9] (cA Tryd.f64 [true,true,true,true,false,true,true]) (cB Tryd.f64 [true,true,true,true,false,true,true]) .ready none,oR true 1 (AV.int .u64) x1,.row false false true true 1 []],59⟩) kr) (wk_gc (live:=[0,3,4,14,15,16]) (keep:=[4,3]) kr))) ?_ ?_
 ·intro s3 o h
  unfold g_tree_maker_cliques_b3 at h
  refine sq (wp_seq ?_)
  refine wb [17] h (fun q5 h=>?_) (fun q5 h=>?_)
  ·refine wcT (wp_skip (wp_seq (wp_block (wp_seq (reg_in ?_)))))
   refine bind_elim h (fun a6 q7 h=>?_)
   refine idxL' (enc:=eI) (l:=p0.order) (n:=s3.2.1) (fl:=true) (w:=1) (a:=a6) kr rfl gE q7 ?_
   refine sz 2 3 (reg_end rfl (wp_seq (rga hfol (sy 2 2 ?_))))
   refine bind_elim h (fun a8 q9 h=>?_)
   refine idxR' (enc:=(AV.int .u64)) (l:=s3.2.2.2) (n:=a6) (w:=1) (ob:=4) (ro:=false) (nr:=true) (fl:=true) (a:=a8) kr kr gE q9 ?_
   refine loadR (enc:=(AV.int .u64)) (l:=s3.2.2.2) (n:=a6) (w:=1) (ob:=4) (c:=0) (bx:=false) (ro:=false) (nr:=true) (fl:=true) (a:=a8) kr kr q9 gE ?_
   refine sy 3 7 ?_
   refine shlR (k:=.u64) (k':=.i64) (a:=1) (b:=a6) kr gE h (fun h=>?_)
   refine sy 2 10 (rgd (wp_seq (wp_seq ?_)))
   refine wgc [0,3,4,14,15,16,6,7] [3,4] ⟨[(0,.yld 2),(3,.ref 4 0 s3.2.2.2.length),(4,.int .u64 s3.1),(14,z1 p0.order),(15,vI (zn p0.order)),(16,vI s3.2.1),(6,vI a6),(7,.int .u64 (zv (BitVec.ofInt (IntKind.bits .u64) (zv (BitVec.ofInt (IntKind.bits .u64) a8 &&& BitVec.ofInt (IntKind.bits .u64) s3.1).toNat) ||| BitVec.ofInt (IntKind.bits .u64) (zv (1*2^min (zt a6) (IntKind.bits .u64)))).toNat))],[oX false false 1 (.ref 3 0 s3.2.2.1.length),oX true false 2 (.agg [eL true (AV.int .u64) p0.graph.near,z1 p0.order]),.loop 26 [(3,.ptr 0 0 0),(8,.fn (.func 86) [] [.ptr 1 0 0])] [9] (cA Tryd.f64 [true,true,true,true,false,true,true]) (cB Tryd.f64 [true,true,true,true,false,true,true]) .ready none,oR true 1 (AV.int .u64) s3.2.2.1,oR true 1 (AV.int .u64) s3.2.2.2],59⟩ ?_
   refine reg_in (sz 2 2 ?_)
   refine yldR (l:=2) (nt:=26) (us:=[.int .u64 (zv (BitVec.ofInt (IntKind.bits .u64) (zv (BitVec.ofInt (IntKind.bits .u64) a8 &&& BitVec.ofInt (IntKind.bits .u64) s3.1).toNat) ||| BitVec.ofInt (IntKind.bits .u64) (zv (1*2^min (zt a6) (IntKind.bits .u64)))).toNat)]) (sl:=[(3,.ptr 0 0 0),(8,.fn (.func 86) [] [.ptr 1 0 0])]) (ps:=[9]) (assign:=cA Tryd.f64 [true,true,true,true,false,true,true]) (body:=cB Tryd.f64 [true,true,true,true,false,true,true]) (pe:=none) kr kr rfl ?_
   refine wp_eqB (base':=5) (st':=⟨[(3,.ptr 0 0 0),(8,.fn (.func 86) [] [.ptr 1 0 0]),(9,.int .u64 (zv (BitVec.ofInt (IntKind.bits .u64) (zv (BitVec.ofInt (IntKind.bits .u64) a8 &&& BitVec.ofInt (IntKind.bits .u64) s3.1).toNat) ||| BitVec.ofInt (IntKind.bits .u64) (zv (1*2^min (zt a6) (IntKind.bits .u64)))).toNat))],[oX false false 1 (.ref 3 0 s3.2.2.1.length),oX true false 2 (.agg [eL true (AV.int .u64) p0.graph.near,z1 p0.order]),.loop 26 [(3,.ptr 0 0 0),(8,.fn (.func 86) [] [.ptr 1 0 0])] [9] (cA Tryd.f64 [true,true,true,true,false,true,true]) (cB Tryd.f64 [true,true,true,true,false,true,true]) .ready none,oR true 1 (AV.int .u64) s3.2.2.1,oR true 1 (AV.int .u64) s3.2.2.2],26⟩) kr kr ?_
   refine rn ?_
   refine ⟨⟨[(3,.ptr 0 0 0),(8,.fn (.func 86) [] [.ptr 1 0 0]),(9,.int .u64 (zv (BitVec.ofInt (IntKind.bits .u64) (zv (BitVec.ofInt (IntKind.bits .u64) a8 &&& BitVec.ofInt (IntKind.bits .u64) s3.1).toNat) ||| BitVec.ofInt (IntKind.bits .u64) (zv (1*2^min (zt a6) (IntKind.bits .u64)))).toNat)),(4,.int .u64 (zv (BitVec.ofInt (IntKind.bits .u64) (zv (BitVec.ofInt (IntKind.bits .u64) a8 &&& BitVec.ofInt (IntKind.bits .u64) s3.1).toNat) ||| BitVec.ofInt (IntKind.bits .u64) (zv (1*2^min (zt a6) (IntKind.bits .u64)))).toNat))],[oX false false 1 (.ref 3 0 s3.2.2.1.length),oX true false 2 (.agg [eL true (AV.int .u64) p0.graph.near,z1 p0.order]),.loop 26 [(3,.ptr 0 0 0),(8,.fn (.func 86) [] [.ptr 1 0 0])] [9] (cA Tryd.f64 [true,true,true,true,false,true,true]) (cB Tryd.f64 [true,true,true,true,false,true,true]) .busy none,oR true 1 (AV.int .u64) s3.2.2.1,oR true 1 (AV.int .u64) s3.2.2.2],26⟩,by as_aux_lemma=>kernel_rfl,?_⟩
   refine wp_block (wp_seq (sq (wp_block ?_)))
   refine wwh h (fun s10=>⟨[(3,.ptr 0 0 0),(4,.int .u64 (zv (BitVec.ofInt (IntKind.bits .u64) (zv (BitVec.ofInt (IntKind.bits .u64) a8 &&& BitVec.ofInt (IntKind.bits .u64) s3.1).toNat) ||| BitVec.ofInt (IntKind.bits .u64) (zv (1*2^min (zt a6) (IntKind.bits .u64)))).toNat)),(10,.ref 3 0 s3.2.2.1.length),(11,vI (zn s3.2.2.1)),(12,vI s10)],[oX false false 1 (.ref 3 0 s3.2.2.1.length),oX true false 2 (.agg [eL true (AV.int .u64) p0.graph.near,z1 p0.order]),.loop 26 [(3,.ptr 0 0 0),(8,.fn (.func 86) [] [.ptr 1 0 0])] [9] (cA Tryd.f64 [true,true,true,true,false,true,true]) (cB Tryd.f64 [true,true,true,true,false,true,true]) .busy none,oR true 1 (AV.int .u64) s3.2.2.1,oR true 1 (AV.int .u64) s3.2.2.2],26⟩) (fun x out=>out=match x with | .inl v=>.go (.exit 1) ⟨[],[oX false false 1 (.ref 3 0 s3.2.2.1.length),oX true false 2 (.agg [eL true (AV.int .u64) p0.graph.near,z1 p0.order]),.loop 26 [(3,.ptr 0 0 0),(8,.fn (.func 86) [] [.ptr 1 0 0])] [9] (cA Tryd.f64 [true,true,true,true,false,true,true]) (cB Tryd.f64 [true,true,true,true,false,true,true]) .busy none,oR true 1 (AV.int .u64) s3.2.2.1,oR true 1 (AV.int .u64) s3.2.2.2],26⟩ | .inr v=>.go (.exit 2) ⟨[(3,.ptr 0 0 0),(4,.int .u64 (zv (BitVec.ofInt (IntKind.bits .u64) (zv (BitVec.ofInt (IntKind.bits .u64) a8 &&& BitVec.ofInt (IntKind.bits .u64) s3.1).toNat) ||| BitVec.ofInt (IntKind.bits .u64) (zv (1*2^min (zt a6) (IntKind.bits .u64)))).toNat))],[oX false false 1 (.ref 3 0 s3.2.2.1.length),oX true false 2 (.agg [eL true (AV.int .u64) p0.graph.near,z1 p0.order]),.loop 26 [(3,.ptr 0 0 0),(8,.fn (.func 86) [] [.ptr 1 0 0])] [9] (cA Tryd.f64 [true,true,true,true,false,true,true]) (cB Tryd.f64 [true,true,true,true,false,true,true]) .busy none,oR true 1 (AV.int .u64) s3.2.2.1,oR true 1 (AV.int .u64) s3.2.2.2],26⟩) (wk_gc (live:=[3,4,10,11,12]) (keep:=[]) kr) ?_ ?_
   ·intro s10 o h
    unfold g_tree_maker_cliques_b0 at h
    refine sq (wp_seq ?_)
    refine wb [13] h (fun q12 h=>?_) (fun q12 h=>?_)
    ·refine wcT (wp_skip (wp_seq (wp_block (wp_seq (reg_in ?_)))))
     refine bind_elim h (fun a13 q14 h=>?_)
     refine idxR' (enc:=(AV.int .u64)) (l:=s3.2.2.1) (n:=s10) (w:=1) (ob:=3) (ro:=false) (nr:=true) (fl:=true) (a:=a13) kr kr gE q14 ?_
     refine loadR (enc:=(AV.int .u64)) (l:=s3.2.2.1) (n:=s10) (w:=1) (ob:=3) (c:=0) (bx:=false) (ro:=false) (nr:=true) (fl:=true) (a:=a13) kr kr q14 gE ?_
     refine sz 1 3 (reg_end rfl (sq ?_))
     refine wbz h (fun q16 h=>?_) (fun q16 h=>?_)
     ·refine wgc [] [] ⟨[],[oX false false 1 (.ref 3 0 s3.2.2.1.length),oX true false 2 (.agg [eL true (AV.int .u64) p0.graph.near,z1 p0.order]),.loop 26 [(3,.ptr 0 0 0),(8,.fn (.func 86) [] [.ptr 1 0 0])] [9] (cA Tryd.f64 [true,true,true,true,false,true,true]) (cB Tryd.f64 [true,true,true,true,false,true,true]) .busy none,oR true 1 (AV.int .u64) s3.2.2.1,oR true 1 (AV.int .u64) s3.2.2.2],26⟩ ?_
      refine wp_exit ?_
      cases h
      exact ⟨kr,rfl⟩
     refine wp_skip ?_
     refine wgc [3,4,10,11,12] [] ⟨[(3,.ptr 0 0 0),(4,.int .u64 (zv (BitVec.ofInt (IntKind.bits .u64) (zv (BitVec.ofInt (IntKind.bits .u64) a8 &&& BitVec.ofInt (IntKind.bits .u64) s3.1).toNat) ||| BitVec.ofInt (IntKind.bits .u64) (zv (1*2^min (zt a6) (IntKind.bits .u64)))).toNat)),(10,.ref 3 0 s3.2.2.1.length),(11,vI (zn s3.2.2.1)),(12,vI s10)],[oX false false 1 (.ref 3 0 s3.2.2.1.length),oX true false 2 (.agg [eL true (AV.int .u64) p0.graph.near,z1 p0.order]),.loop 26 [(3,.ptr 0 0 0),(8,.fn (.func 86) [] [.ptr 1 0 0])] [9] (cA Tryd.f64 [true,true,true,true,false,true,true]) (cB Tryd.f64 [true,true,true,true,false,true,true]) .busy none,oR true 1 (AV.int .u64) s3.2.2.1,oR true 1 (AV.int .u64) s3.2.2.2],26⟩ ?_
     refine rn ?_
     cases h
     exact ⟨_,rfl,(wk_gc (live:=[3,4,10,11,12]) (keep:=[]) kr)⟩
    refine wcF (wg [3,4] [] ?_)
    refine wp_exit ?_
    cases h
    exact ⟨kr,rfl⟩
   intro x17 h out hx
   subst hx
   rcases x17 with x18 | x29
   ·dsimp only at h ⊢
    refine ⟨⟨[(0,.yld 2),(3,.ref 4 0 s3.2.2.2.length),(4,.int .u64 s3.1),(14,z1 p0.order),(15,vI (zn p0.order)),(16,vI s3.2.1),(6,vI a6),(7,.int .u64 (zv (BitVec.ofInt (IntKind.bits .u64) (zv (BitVec.ofInt (IntKind.bits .u64) a8 &&& BitVec.ofInt (IntKind.bits .u64) s3.1).toNat) ||| BitVec.ofInt (IntKind.bits .u64) (zv (1*2^min (zt a6) (IntKind.bits .u64)))).toNat))]++[(29,.yld 2),(30,.int .u64 (zv (BitVec.ofInt (IntKind.bits .u64) (zv (BitVec.ofInt (IntKind.bits .u64) a8 &&& BitVec.ofInt (IntKind.bits .u64) s3.1).toNat) ||| BitVec.ofInt (IntKind.bits .u64) (zv (1*2^min (zt a6) (IntKind.bits .u64)))).toNat))]++[(31,vB true)],[oX false false 1 (.ref 3 0 s3.2.2.1.length),oX true false 2 (.agg [eL true (AV.int .u64) p0.graph.near,z1 p0.order]),.loop 26 [(3,.ptr 0 0 0),(8,.fn (.func 86) [] [.ptr 1 0 0])] [9] (cA Tryd.f64 [true,true,true,true,false,true,true]) (cB Tryd.f64 [true,true,true,true,false,true,true]) .ready none,oR true 1 (AV.int .u64) s3.2.2.1,oR true 1 (AV.int .u64) s3.2.2.2],59⟩,by as_aux_lemma=>kernel_rfl,?_⟩
    refine sz 1 4 (reg_end rfl (wcF (wp_skip (wp_seq (reg_in (sz 2 2 ?_))))))
    refine shlR (k:=.u64) (k':=.i64) (a:=1) (b:=a6) kr gE h (fun h=>?_)
    refine sz 2 5 (reg_end rfl (wp_seq (wg [0,3,4,14,15,16,7] [3,4] (rn (wp_block ?_)))))
    refine wwh h (fun s19=>⟨[(0,.yld 2),(3,.ref 4 0 s19.2.length),(4,.int .u64 (zv (BitVec.ofInt (IntKind.bits .u64) s3.1 &&& ~~~ BitVec.ofInt (IntKind.bits .u64) (zv (1*2^min (zt a6) (IntKind.bits .u64)))).toNat)),(7,.int .u64 (zv (BitVec.ofInt (IntKind.bits .u64) (zv (BitVec.ofInt (IntKind.bits .u64) a8 &&& BitVec.ofInt (IntKind.bits .u64) s3.1).toNat) ||| BitVec.ofInt (IntKind.bits .u64) (zv (1*2^min (zt a6) (IntKind.bits .u64)))).toNat)),(14,z1 p0.order),(15,vI (zn p0.order)),(16,vI s3.2.1),(38,vI (zn s3.2.2.2)),(39,vI s19.1)],[oX false false 1 (.ref 3 0 s3.2.2.1.length),oX true false 2 (.agg [eL true (AV.int .u64) p0.graph.near,z1 p0.order]),.loop 26 [(3,.ptr 0 0 0),(8,.fn (.func 86) [] [.ptr 1 0 0])] [9] (cA Tryd.f64 [true,true,true,true,false,true,true]) (cB Tryd.f64 [true,true,true,true,false,true,true]) .ready none,oR true 1 (AV.int .u64) s3.2.2.1,oR true 1 (AV.int .u64) s19.2],59⟩) (fun v out=>out=.go (.exit 2) ⟨[(0,.yld 2),(3,.ref 4 0 v.length),(4,.int .u64 (zv (BitVec.ofInt (IntKind.bits .u64) s3.1 &&& ~~~ BitVec.ofInt (IntKind.bits .u64) (zv (1*2^min (zt a6) (IntKind.bits .u64)))).toNat)),(14,z1 p0.order),(15,vI (zn p0.order)),(16,vI s3.2.1)],[oX false false 1 (.ref 3 0 s3.2.2.1.length),oX true false 2 (.agg [eL true (AV.int .u64) p0.graph.near,z1 p0.order]),.loop 26 [(3,.ptr 0 0 0),(8,.fn (.func 86) [] [.ptr 1 0 0])] [9] (cA Tryd.f64 [true,true,true,true,false,true,true]) (cB Tryd.f64 [true,true,true,true,false,true,true]) .ready none,oR true 1 (AV.int .u64) s3.2.2.1,oR true 1 (AV.int .u64) v],59⟩) (wk_gc (live:=[0,3,4,7,14,15,16,38,39]) (keep:=[3,4]) kr) ?_ ?_
    ·intro s19 o h
     unfold g_tree_maker_cliques_b1 at h
     refine sq (wp_seq ?_)
     refine wb [40] h (fun q21 h=>?_) (fun q21 h=>?_)
     ·refine wcT (wp_skip (wp_seq (wp_block (sq (wp_seq (reg_in (sz 2 2 ?_)))))))
      refine shrR (k:=.u64) (k':=.i64) (a:=zv (BitVec.ofInt (IntKind.bits .u64) (zv (BitVec.ofInt (IntKind.bits .u64) a8 &&& BitVec.ofInt (IntKind.bits .u64) s3.1).toNat) ||| BitVec.ofInt (IntKind.bits .u64) (zv (1*2^min (zt a6) (IntKind.bits .u64)))).toNat) (b:=s19.1) kr gE h (fun h=>?_)
      refine sz 2 5 (reg_end rfl ?_)
      refine wbz h (fun q23 h=>?_) (fun q23 h=>?_)
      ·refine wgc [0,3,4,7,14,15,16,38,39,8] [3,4] ⟨[(0,.yld 2),(3,.ref 4 0 s19.2.length),(4,.int .u64 (zv (BitVec.ofInt (IntKind.bits .u64) s3.1 &&& ~~~ BitVec.ofInt (IntKind.bits .u64) (zv (1*2^min (zt a6) (IntKind.bits .u64)))).toNat)),(7,.int .u64 (zv (BitVec.ofInt (IntKind.bits .u64) (zv (BitVec.ofInt (IntKind.bits .u64) a8 &&& BitVec.ofInt (IntKind.bits .u64) s3.1).toNat) ||| BitVec.ofInt (IntKind.bits .u64) (zv (1*2^min (zt a6) (IntKind.bits .u64)))).toNat)),(14,z1 p0.order),(15,vI (zn p0.order)),(16,vI s3.2.1),(38,vI (zn s3.2.2.2)),(39,vI s19.1),(8,vI s19.1)],[oX false false 1 (.ref 3 0 s3.2.2.1.length),oX true false 2 (.agg [eL true (AV.int .u64) p0.graph.near,z1 p0.order]),.loop 26 [(3,.ptr 0 0 0),(8,.fn (.func 86) [] [.ptr 1 0 0])] [9] (cA Tryd.f64 [true,true,true,true,false,true,true]) (cB Tryd.f64 [true,true,true,true,false,true,true]) .ready none,oR true 1 (AV.int .u64) s3.2.2.1,oR true 1 (AV.int .u64) s19.2],59⟩ ?_
       refine rga hfol (sy 2 2 ?_)
       refine bind_elim h (fun a24 q25 h=>?_)
       refine idxR' (enc:=(AV.int .u64)) (l:=s19.2) (n:=s19.1) (w:=1) (ob:=4) (ro:=false) (nr:=true) (fl:=true) (a:=a24) kr kr gE q25 ?_
       refine loadR (enc:=(AV.int .u64)) (l:=s19.2) (n:=s19.1) (w:=1) (ob:=4) (c:=0) (bx:=false) (ro:=false) (nr:=true) (fl:=true) (a:=a24) kr kr q25 gE ?_
       refine sy 2 6 ?_
       refine shlR (k:=.u64) (k':=.i64) (a:=1) (b:=s19.1) kr gE h (fun h=>?_)
       refine sy 2 9 ?_
       refine idxR' (enc:=(AV.int .u64)) (l:=s19.2) (n:=s19.1) (w:=1) (ob:=4) (ro:=false) (nr:=true) (fl:=true) (a:=a24) kr kr gE q25 ?_
       refine storeR (enc:=(AV.int .u64)) (l:=s19.2) (n:=s19.1) (ob:=4) (w:=1) (bx:=false) (nr:=true) (fl:=true) (c:=0) (a:=a24) (a':=zv (BitVec.ofInt (IntKind.bits .u64) a24 ||| BitVec.ofInt (IntKind.bits .u64) (zv (BitVec.ofInt (IntKind.bits .u64) (zv (BitVec.ofInt (IntKind.bits .u64) (zv (BitVec.ofInt (IntKind.bits .u64) a8 &&& BitVec.ofInt (IntKind.bits .u64) s3.1).toNat) ||| BitVec.ofInt (IntKind.bits .u64) (zv (1*2^min (zt a6) (IntKind.bits .u64)))).toNat) &&& ~~~ BitVec.ofInt (IntKind.bits .u64) (zv (1*2^min (zt s19.1) (IntKind.bits .u64)))).toNat)).toNat) (v:=.int .u64 (zv (BitVec.ofInt (IntKind.bits .u64) a24 ||| BitVec.ofInt (IntKind.bits .u64) (zv (BitVec.ofInt (IntKind.bits .u64) (zv (BitVec.ofInt (IntKind.bits .u64) (zv (BitVec.ofInt (IntKind.bits .u64) a8 &&& BitVec.ofInt (IntKind.bits .u64) s3.1).toNat) ||| BitVec.ofInt (IntKind.bits .u64) (zv (1*2^min (zt a6) (IntKind.bits .u64)))).toNat) &&& ~~~ BitVec.ofInt (IntKind.bits .u64) (zv (1*2^min (zt s19.1) (IntKind.bits .u64)))).toNat)).toNat)) false kr kr q25 kr rfl kr gE kr ?_
       refine rl [3,47] (n:=s19.2.length) (m:=(List.set s19.2 (zt s19.1) (zv (BitVec.ofInt (IntKind.bits .u64) a24 ||| BitVec.ofInt (IntKind.bits .u64) (zv (BitVec.ofInt (IntKind.bits .u64) (zv (BitVec.ofInt (IntKind.bits .u64) (zv (BitVec.ofInt (IntKind.bits .u64) a8 &&& BitVec.ofInt (IntKind.bits .u64) s3.1).toNat) ||| BitVec.ofInt (IntKind.bits .u64) (zv (1*2^min (zt a6) (IntKind.bits .u64)))).toNat) &&& ~~~ BitVec.ofInt (IntKind.bits .u64) (zv (1*2^min (zt s19.1) (IntKind.bits .u64)))).toNat)).toNat)).length) (by simp only [List.length_set]) ?_
       refine rgd (wg [0,3,4,7,14,15,16,38,39] [3,4] (rn ?_))
       cases h
       exact ⟨_,rfl,(wk_gc (live:=[0,3,4,7,14,15,16,38,39]) (keep:=[3,4]) kr)⟩
      refine wp_skip ?_
      refine wgc [0,3,4,7,14,15,16,38,39] [3,4] ⟨[(0,.yld 2),(3,.ref 4 0 s19.2.length),(4,.int .u64 (zv (BitVec.ofInt (IntKind.bits .u64) s3.1 &&& ~~~ BitVec.ofInt (IntKind.bits .u64) (zv (1*2^min (zt a6) (IntKind.bits .u64)))).toNat)),(7,.int .u64 (zv (BitVec.ofInt (IntKind.bits .u64) (zv (BitVec.ofInt (IntKind.bits .u64) a8 &&& BitVec.ofInt (IntKind.bits .u64) s3.1).toNat) ||| BitVec.ofInt (IntKind.bits .u64) (zv (1*2^min (zt a6) (IntKind.bits .u64)))).toNat)),(14,z1 p0.order),(15,vI (zn p0.order)),(16,vI s3.2.1),(38,vI (zn s3.2.2.2)),(39,vI s19.1)],[oX false false 1 (.ref 3 0 s3.2.2.1.length),oX true false 2 (.agg [eL true (AV.int .u64) p0.graph.near,z1 p0.order]),.loop 26 [(3,.ptr 0 0 0),(8,.fn (.func 86) [] [.ptr 1 0 0])] [9] (cA Tryd.f64 [true,true,true,true,false,true,true]) (cB Tryd.f64 [true,true,true,true,false,true,true]) .ready none,oR true 1 (AV.int .u64) s3.2.2.1,oR true 1 (AV.int .u64) s19.2],59⟩ ?_
      refine rn ?_
      cases h
      exact ⟨_,rfl,(wk_gc (live:=[0,3,4,7,14,15,16,38,39]) (keep:=[3,4]) kr)⟩
     refine wcF (wg [0,3,4,14,15,16] [3,4] ?_)
     refine wp_exit ?_
     cases h
     exact ⟨kr,rfl⟩
    intro x28 h out hx
    subst hx
    refine rn ?_
    cases h
    exact ⟨_,rfl,(wk_gc (live:=[0,3,4,14,15,16]) (keep:=[3,4]) kr)⟩
   ·dsimp only at h ⊢
    refine reg_in (sz 2 2 ?_)
    refine sgL false [] [] true gE ?_
    refine appR (enc:=(AV.int .u64)) (l:=s3.2.2.1) (m:=([zv (BitVec.ofInt (IntKind.bits .u64) (zv (BitVec.ofInt (IntKind.bits .u64) a8 &&& BitVec.ofInt (IntKind.bits .u64) s3.1).toNat) ||| BitVec.ofInt (IntKind.bits .u64) (zv (1*2^min (zt a6) (IntKind.bits .u64)))).toNat]:(List Int))) (w:=1) (bytes:=8) (ob:=3) (nr:=true) (fl:=true) (nr':=true) (fl':=true) (b:=.ref 5 0 1) (rds:=[5]) false kr kr kr rfl gE kr h (fun h=>?_)
    refine sz 1 5 (reg_end rfl ?_)
    refine ⟨⟨[(0,.yld 2),(3,.ref 4 0 s3.2.2.2.length),(4,.int .u64 s3.1),(14,z1 p0.order),(15,vI (zn p0.order)),(16,vI s3.2.1),(6,vI a6),(7,.int .u64 (zv (BitVec.ofInt (IntKind.bits .u64) (zv (BitVec.ofInt (IntKind.bits .u64) a8 &&& BitVec.ofInt (IntKind.bits .u64) s3.1).toNat) ||| BitVec.ofInt (IntKind.bits .u64) (zv (1*2^min (zt a6) (IntKind.bits .u64)))).toNat))]++[(29,.yld 2),(30,.int .u64 (zv (BitVec.ofInt (IntKind.bits .u64) (zv (BitVec.ofInt (IntKind.bits .u64) a8 &&& BitVec.ofInt (IntKind.bits .u64) s3.1).toNat) ||| BitVec.ofInt (IntKind.bits .u64) (zv (1*2^min (zt a6) (IntKind.bits .u64)))).toNat))]++[(31,vB true)],[oX false false 1 (.ref 6 0 ((s3.2.2.1++([zv (BitVec.ofInt (IntKind.bits .u64) (zv (BitVec.ofInt (IntKind.bits .u64) a8 &&& BitVec.ofInt (IntKind.bits .u64) s3.1).toNat) ||| BitVec.ofInt (IntKind.bits .u64) (zv (1*2^min (zt a6) (IntKind.bits .u64)))).toNat]:(List Int))).length)),oX true false 2 (.agg [eL true (AV.int .u64) p0.graph.near,z1 p0.order]),.loop 26 [(3,.ptr 0 0 0),(8,.fn (.func 86) [] [.ptr 1 0 0])] [9] (cA Tryd.f64 [true,true,true,true,false,true,true]) (cB Tryd.f64 [true,true,true,true,false,true,true]) .ready none,.dead,oR true 1 (AV.int .u64) s3.2.2.2,.row false false true true 1 [.int .u64 (zv (BitVec.ofInt (IntKind.bits .u64) (zv (BitVec.ofInt (IntKind.bits .u64) a8 &&& BitVec.ofInt (IntKind.bits .u64) s3.1).toNat) ||| BitVec.ofInt (IntKind.bits .u64) (zv (1*2^min (zt a6) (IntKind.bits .u64)))).toNat)],oR true 1 (AV.int .u64) (s3.2.2.1++([zv (BitVec.ofInt (IntKind.bits .u64) (zv (BitVec.ofInt (IntKind.bits .u64) a8 &&& BitVec.ofInt (IntKind.bits .u64) s3.1).toNat) ||| BitVec.ofInt (IntKind.bits .u64) (zv (1*2^min (zt a6) (IntKind.bits .u64)))).toNat]:(List Int)))],59⟩,by as_aux_lemma=>kernel_rfl,?_⟩
    refine sz 1 4 (reg_end rfl (wcF (wp_skip (wp_seq (reg_in (sz 2 2 ?_))))))
    refine shlR (k:=.u64) (k':=.i64) (a:=1) (b:=a6) kr gE h (fun h=>?_)
    refine sz 2 5 (reg_end rfl (wp_seq ?_))
    refine wgc [0,3,4,14,15,16,7] [6,4] ⟨[(0,.yld 2),(3,.ref 4 0 s3.2.2.2.length),(4,.int .u64 (zv (BitVec.ofInt (IntKind.bits .u64) s3.1 &&& ~~~ BitVec.ofInt (IntKind.bits .u64) (zv (1*2^min (zt a6) (IntKind.bits .u64)))).toNat)),(14,z1 p0.order),(15,vI (zn p0.order)),(16,vI s3.2.1),(7,.int .u64 (zv (BitVec.ofInt (IntKind.bits .u64) (zv (BitVec.ofInt (IntKind.bits .u64) a8 &&& BitVec.ofInt (IntKind.bits .u64) s3.1).toNat) ||| BitVec.ofInt (IntKind.bits .u64) (zv (1*2^min (zt a6) (IntKind.bits .u64)))).toNat))],[oX false false 1 (.ref 3 0 ((s3.2.2.1++([zv (BitVec.ofInt (IntKind.bits .u64) (zv (BitVec.ofInt (IntKind.bits .u64) a8 &&& BitVec.ofInt (IntKind.bits .u64) s3.1).toNat) ||| BitVec.ofInt (IntKind.bits .u64) (zv (1*2^min (zt a6) (IntKind.bits .u64)))).toNat]:(List Int))).length)),oX true false 2 (.agg [eL true (AV.int .u64) p0.graph.near,z1 p0.order]),.loop 26 [(3,.ptr 0 0 0),(8,.fn (.func 86) [] [.ptr 1 0 0])] [9] (cA Tryd.f64 [true,true,true,true,false,true,true]) (cB Tryd.f64 [true,true,true,true,false,true,true]) .ready none,oR true 1 (AV.int .u64) (s3.2.2.1++([zv (BitVec.ofInt (IntKind.bits .u64) (zv (BitVec.ofInt (IntKind.bits .u64) a8 &&& BitVec.ofInt (IntKind.bits .u64) s3.1).toNat) ||| BitVec.ofInt (IntKind.bits .u64) (zv (1*2^min (zt a6) (IntKind.bits .u64)))).toNat]:(List Int))),oR true 1 (AV.int .u64) s3.2.2.2],59⟩ ?_
    refine rn (wp_block ?_)
    refine wwh h (fun s30=>⟨[(0,.yld 2),(3,.ref 4 0 s30.2.length),(4,.int .u64 (zv (BitVec.ofInt (IntKind.bits .u64) s3.1 &&& ~~~ BitVec.ofInt (IntKind.bits .u64) (zv (1*2^min (zt a6) (IntKind.bits .u64)))).toNat)),(7,.int .u64 (zv (BitVec.ofInt (IntKind.bits .u64) (zv (BitVec.ofInt (IntKind.bits .u64) a8 &&& BitVec.ofInt (IntKind.bits .u64) s3.1).toNat) ||| BitVec.ofInt (IntKind.bits .u64) (zv (1*2^min (zt a6) (IntKind.bits .u64)))).toNat)),(14,z1 p0.order),(15,vI (zn p0.order)),(16,vI s3.2.1),(38,vI (zn s3.2.2.2)),(39,vI s30.1)],[oX false false 1 (.ref 3 0 ((s3.2.2.1++([zv (BitVec.ofInt (IntKind.bits .u64) (zv (BitVec.ofInt (IntKind.bits .u64) a8 &&& BitVec.ofInt (IntKind.bits .u64) s3.1).toNat) ||| BitVec.ofInt (IntKind.bits .u64) (zv (1*2^min (zt a6) (IntKind.bits .u64)))).toNat]:(List Int))).length)),oX true false 2 (.agg [eL true (AV.int .u64) p0.graph.near,z1 p0.order]),.loop 26 [(3,.ptr 0 0 0),(8,.fn (.func 86) [] [.ptr 1 0 0])] [9] (cA Tryd.f64 [true,true,true,true,false,true,true]) (cB Tryd.f64 [true,true,true,true,false,true,true]) .ready none,oR true 1 (AV.int .u64) (s3.2.2.1++([zv (BitVec.ofInt (IntKind.bits .u64) (zv (BitVec.ofInt (IntKind.bits .u64) a8 &&& BitVec.ofInt (IntKind.bits .u64) s3.1).toNat) ||| BitVec.ofInt (IntKind.bits .u64) (zv (1*2^min (zt a6) (IntKind.bits .u64)))).toNat]:(List Int))),oR true 1 (AV.int .u64) s30.2],59⟩) (fun v out=>out=.go (.exit 2) ⟨[(0,.yld 2),(3,.ref 4 0 v.length),(4,.int .u64 (zv (BitVec.ofInt (IntKind.bits .u64) s3.1 &&& ~~~ BitVec.ofInt (IntKind.bits .u64) (zv (1*2^min (zt a6) (IntKind.bits .u64)))).toNat)),(14,z1 p0.order),(15,vI (zn p0.order)),(16,vI s3.2.1)],[oX false false 1 (.ref 3 0 ((s3.2.2.1++([zv (BitVec.ofInt (IntKind.bits .u64) (zv (BitVec.ofInt (IntKind.bits .u64) a8 &&& BitVec.ofInt (IntKind.bits .u64) s3.1).toNat) ||| BitVec.ofInt (IntKind.bits .u64) (zv (1*2^min (zt a6) (IntKind.bits .u64)))).toNat]:(List Int))).length)),oX true false 2 (.agg [eL true (AV.int .u64) p0.graph.near,z1 p0.order]),.loop 26 [(3,.ptr 0 0 0),(8,.fn (.func 86) [] [.ptr 1 0 0])] [9] (cA Tryd.f64 [true,true,true,true,false,true,true]) (cB Tryd.f64 [true,true,true,true,false,true,true]) .ready none,oR true 1 (AV.int .u64) (s3.2.2.1++([zv (BitVec.ofInt (IntKind.bits .u64) (zv (BitVec.ofInt (IntKind.bits .u64) a8 &&& BitVec.ofInt (IntKind.bits .u64) s3.1).toNat) ||| BitVec.ofInt (IntKind.bits .u64) (zv (1*2^min (zt a6) (IntKind.bits .u64)))).toNat]:(List Int))),oR true 1 (AV.int .u64) v],59⟩) (wk_gc (live:=[0,3,4,7,14,15,16,38,39]) (keep:=[3,4]) kr) ?_ ?_
    ·intro s30 o h
     unfold g_tree_maker_cliques_b2 at h
     refine sq (wp_seq ?_)
     refine wb [40] h (fun q32 h=>?_) (fun q32 h=>?_)
     ·refine wcT (wp_skip (wp_seq (wp_block (sq (wp_seq (reg_in (sz 2 2 ?_)))))))
      refine shrR (k:=.u64) (k':=.i64) (a:=zv (BitVec.ofInt (IntKind.bits .u64) (zv (BitVec.ofInt (IntKind.bits .u64) a8 &&& BitVec.ofInt (IntKind.bits .u64) s3.1).toNat) ||| BitVec.ofInt (IntKind.bits .u64) (zv (1*2^min (zt a6) (IntKind.bits .u64)))).toNat) (b:=s30.1) kr gE h (fun h=>?_)
      refine sz 2 5 (reg_end rfl ?_)
      refine wbz h (fun q34 h=>?_) (fun q34 h=>?_)
      ·refine wgc [0,3,4,7,14,15,16,38,39,8] [3,4] ⟨[(0,.yld 2),(3,.ref 4 0 s30.2.length),(4,.int .u64 (zv (BitVec.ofInt (IntKind.bits .u64) s3.1 &&& ~~~ BitVec.ofInt (IntKind.bits .u64) (zv (1*2^min (zt a6) (IntKind.bits .u64)))).toNat)),(7,.int .u64 (zv (BitVec.ofInt (IntKind.bits .u64) (zv (BitVec.ofInt (IntKind.bits .u64) a8 &&& BitVec.ofInt (IntKind.bits .u64) s3.1).toNat) ||| BitVec.ofInt (IntKind.bits .u64) (zv (1*2^min (zt a6) (IntKind.bits .u64)))).toNat)),(14,z1 p0.order),(15,vI (zn p0.order)),(16,vI s3.2.1),(38,vI (zn s3.2.2.2)),(39,vI s30.1),(8,vI s30.1)],[oX false false 1 (.ref 3 0 ((s3.2.2.1++([zv (BitVec.ofInt (IntKind.bits .u64) (zv (BitVec.ofInt (IntKind.bits .u64) a8 &&& BitVec.ofInt (IntKind.bits .u64) s3.1).toNat) ||| BitVec.ofInt (IntKind.bits .u64) (zv (1*2^min (zt a6) (IntKind.bits .u64)))).toNat]:(List Int))).length)),oX true false 2 (.agg [eL true (AV.int .u64) p0.graph.near,z1 p0.order]),.loop 26 [(3,.ptr 0 0 0),(8,.fn (.func 86) [] [.ptr 1 0 0])] [9] (cA Tryd.f64 [true,true,true,true,false,true,true]) (cB Tryd.f64 [true,true,true,true,false,true,true]) .ready none,oR true 1 (AV.int .u64) (s3.2.2.1++([zv (BitVec.ofInt (IntKind.bits .u64) (zv (BitVec.ofInt (IntKind.bits .u64) a8 &&& BitVec.ofInt (IntKind.bits .u64) s3.1).toNat) ||| BitVec.ofInt (IntKind.bits .u64) (zv (1*2^min (zt a6) (IntKind.bits .u64)))).toNat]:(List Int))),oR true 1 (AV.int .u64) s30.2],59⟩ ?_
       refine rga hfol (sy 2 2 ?_)
       refine bind_elim h (fun a35 q36 h=>?_)
       refine idxR' (enc:=(AV.int .u64)) (l:=s30.2) (n:=s30.1) (w:=1) (ob:=4) (ro:=false) (nr:=true) (fl:=true) (a:=a35) kr kr gE q36 ?_
       refine loadR (enc:=(AV.int .u64)) (l:=s30.2) (n:=s30.1) (w:=1) (ob:=4) (c:=0) (bx:=false) (ro:=false) (nr:=true) (fl:=true) (a:=a35) kr kr q36 gE ?_
       refine sy 2 6 ?_
       refine shlR (k:=.u64) (k':=.i64) (a:=1) (b:=s30.1) kr gE h (fun h=>?_)
       refine sy 2 9 ?_
       refine idxR' (enc:=(AV.int .u64)) (l:=s30.2) (n:=s30.1) (w:=1) (ob:=4) (ro:=false) (nr:=true) (fl:=true) (a:=a35) kr kr gE q36 ?_
       refine storeR (enc:=(AV.int .u64)) (l:=s30.2) (n:=s30.1) (ob:=4) (w:=1) (bx:=false) (nr:=true) (fl:=true) (c:=0) (a:=a35) (a':=zv (BitVec.ofInt (IntKind.bits .u64) a35 ||| BitVec.ofInt (IntKind.bits .u64) (zv (BitVec.ofInt (IntKind.bits .u64) (zv (BitVec.ofInt (IntKind.bits .u64) (zv (BitVec.ofInt (IntKind.bits .u64) a8 &&& BitVec.ofInt (IntKind.bits .u64) s3.1).toNat) ||| BitVec.ofInt (IntKind.bits .u64) (zv (1*2^min (zt a6) (IntKind.bits .u64)))).toNat) &&& ~~~ BitVec.ofInt (IntKind.bits .u64) (zv (1*2^min (zt s30.1) (IntKind.bits .u64)))).toNat)).toNat) (v:=.int .u64 (zv (BitVec.ofInt (IntKind.bits .u64) a35 ||| BitVec.ofInt (IntKind.bits .u64) (zv (BitVec.ofInt (IntKind.bits .u64) (zv (BitVec.ofInt (IntKind.bits .u64) (zv (BitVec.ofInt (IntKind.bits .u64) a8 &&& BitVec.ofInt (IntKind.bits .u64) s3.1).toNat) ||| BitVec.ofInt (IntKind.bits .u64) (zv (1*2^min (zt a6) (IntKind.bits .u64)))).toNat) &&& ~~~ BitVec.ofInt (IntKind.bits .u64) (zv (1*2^min (zt s30.1) (IntKind.bits .u64)))).toNat)).toNat)) false kr kr q36 kr rfl kr gE kr ?_
       refine rl [3,47] (n:=s30.2.length) (m:=(List.set s30.2 (zt s30.1) (zv (BitVec.ofInt (IntKind.bits .u64) a35 ||| BitVec.ofInt (IntKind.bits .u64) (zv (BitVec.ofInt (IntKind.bits .u64) (zv (BitVec.ofInt (IntKind.bits .u64) (zv (BitVec.ofInt (IntKind.bits .u64) a8 &&& BitVec.ofInt (IntKind.bits .u64) s3.1).toNat) ||| BitVec.ofInt (IntKind.bits .u64) (zv (1*2^min (zt a6) (IntKind.bits .u64)))).toNat) &&& ~~~ BitVec.ofInt (IntKind.bits .u64) (zv (1*2^min (zt s30.1) (IntKind.bits .u64)))).toNat)).toNat)).length) (by simp only [List.length_set]) ?_
       refine rgd (wg [0,3,4,7,14,15,16,38,39] [3,4] (rn ?_))
       cases h
       exact ⟨_,rfl,(wk_gc (live:=[0,3,4,7,14,15,16,38,39]) (keep:=[3,4]) kr)⟩
      refine wp_skip ?_
      refine wgc [0,3,4,7,14,15,16,38,39] [3,4] ⟨[(0,.yld 2),(3,.ref 4 0 s30.2.length),(4,.int .u64 (zv (BitVec.ofInt (IntKind.bits .u64) s3.1 &&& ~~~ BitVec.ofInt (IntKind.bits .u64) (zv (1*2^min (zt a6) (IntKind.bits .u64)))).toNat)),(7,.int .u64 (zv (BitVec.ofInt (IntKind.bits .u64) (zv (BitVec.ofInt (IntKind.bits .u64) a8 &&& BitVec.ofInt (IntKind.bits .u64) s3.1).toNat) ||| BitVec.ofInt (IntKind.bits .u64) (zv (1*2^min (zt a6) (IntKind.bits .u64)))).toNat)),(14,z1 p0.order),(15,vI (zn p0.order)),(16,vI s3.2.1),(38,vI (zn s3.2.2.2)),(39,vI s30.1)],[oX false false 1 (.ref 3 0 ((s3.2.2.1++([zv (BitVec.ofInt (IntKind.bits .u64) (zv (BitVec.ofInt (IntKind.bits .u64) a8 &&& BitVec.ofInt (IntKind.bits .u64) s3.1).toNat) ||| BitVec.ofInt (IntKind.bits .u64) (zv (1*2^min (zt a6) (IntKind.bits .u64)))).toNat]:(List Int))).length)),oX true false 2 (.agg [eL true (AV.int .u64) p0.graph.near,z1 p0.order]),.loop 26 [(3,.ptr 0 0 0),(8,.fn (.func 86) [] [.ptr 1 0 0])] [9] (cA Tryd.f64 [true,true,true,true,false,true,true]) (cB Tryd.f64 [true,true,true,true,false,true,true]) .ready none,oR true 1 (AV.int .u64) (s3.2.2.1++([zv (BitVec.ofInt (IntKind.bits .u64) (zv (BitVec.ofInt (IntKind.bits .u64) a8 &&& BitVec.ofInt (IntKind.bits .u64) s3.1).toNat) ||| BitVec.ofInt (IntKind.bits .u64) (zv (1*2^min (zt a6) (IntKind.bits .u64)))).toNat]:(List Int))),oR true 1 (AV.int .u64) s30.2],59⟩ ?_
      refine rn ?_
      cases h
      exact ⟨_,rfl,(wk_gc (live:=[0,3,4,7,14,15,16,38,39]) (keep:=[3,4]) kr)⟩
     refine wcF (wg [0,3,4,14,15,16] [3,4] ?_)
     refine wp_exit ?_
     cases h
     exact ⟨kr,rfl⟩
    intro x39 h out hx
    subst hx
    refine rn ?_
    cases h
    exact ⟨_,rfl,(wk_gc (live:=[0,3,4,14,15,16]) (keep:=[3,4]) kr)⟩
  refine wcF (wg [] [3] ?_)
  refine wp_exit ?_
  cases h
  exact ⟨kr,rfl⟩
 intro x41 h out hx
 subst hx
 refine ⟨.go .normal ⟨[(3,.ptr 0 0 0),(8,.fn (.func 86) [] [.ptr 1 0 0])],[oX false false 1 (.ref 3 0 x41.length),oX true false 2 (.agg [eL true (AV.int .u64) p0.graph.near,z1 p0.order]),.dead,oR true 1 (AV.int .u64) x41],26⟩,by as_aux_lemma=>kernel_rfl,?_⟩
 refine sq (wg [2] [3] ?_)
 cases h
 exact wp_ret (show fnOut _ _ _ _=_ from by kernel_rfl)
theorem g_tree_most_ok (p0:(List Int)) (p1:Int) (x:Int) (h:g_tree_most p0 p1=some x):CallOk Tryd.prog 65 [eL true (AV.int .u64) p0,.int .u64 p1] (.ret (vI x) []):=by
 refine fn_ok [] Tryd.func65 rfl (by decide +kernel) rfl ?_
 unfold g_tree_most at h
 refine wp_eqB (base':=0) (st':=⟨[(0,eL true (AV.int .u64) p0),(1,.int .u64 p1)],[],22⟩) kr kr ?_
 refine sq (sq (wp_seq (wp_seq (reg_in (sz 1 1 ?_)))))
 refine lenL (enc:=(AV.int .u64)) (l:=p0) (fl:=true) kr gE ?_
 refine sz 1 3 (reg_end rfl (wp_block ?_))
 refine wwh h (fun s1=>⟨[(1,.int .u64 p1),(5,vI s1.1),(8,eL true (AV.int .u64) p0),(9,vI (zn p0)),(10,vI s1.2)],[],22⟩) (fun v out=>out=.go (.exit 0) ⟨[(5,vI v)],[],22⟩) (wk_gc (live:=[1,5,8,9,10]) (keep:=[]) kr) ?_ ?_
 ·intro s1 o h
  unfold g_tree_most_b0 at h
  refine sq (wp_seq ?_)
  refine wb [11] h (fun q3 h=>?_) (fun q3 h=>?_)
  ·refine wcT (wp_skip (wp_seq (wp_block (wp_seq (reg_in ?_)))))
   refine bind_elim h (fun a4 q5 h=>?_)
   refine idxL' (enc:=(AV.int .u64)) (l:=p0) (n:=s1.2) (fl:=true) (w:=1) (a:=a4) kr rfl gE q5 ?_
   refine sz 2 3 (reg_end rfl (reg_in (sz 4 4 ?_)))
   refine callW bodyB_41 (g_math_bits_OnesCount_ok (zv (BitVec.ofInt (IntKind.bits .u64) a4 &&& BitVec.ofInt (IntKind.bits .u64) p1).toNat)) h (fun x6 _ h=>?_)
   refine sz 2 7 (reg_end rfl ?_)
   refine wgc [1,5,8,9,10] [] ⟨[(1,.int .u64 p1),(5,vI (if x6 > s1.1 then x6 else s1.1)),(8,eL true (AV.int .u64) p0),(9,vI (zn p0)),(10,vI s1.2)],[],22⟩ ?_
   refine rn ?_
   cases h
   exact ⟨_,rfl,(wk_gc (live:=[1,5,8,9,10]) (keep:=[]) kr)⟩
  refine wcF (wg [5] [] ?_)
  refine wp_exit ?_
  cases h
  exact ⟨kr,rfl⟩
 intro x9 h out hx
 subst hx
 refine sq (wg [4] [] ?_)
 cases h
 exact wp_ret (show fnOut _ _ _ _=_ from by kernel_rfl)
theorem g_tree_first_uint_k0_ok (p0:(List Int)) (c0:Int) (x:Int) (h:g_tree_first_uint_k0 p0 c0=some x):CallOk Tryd.prog 66 [eL true (AV.int .u64) p0,.fn (.func 69) [] [.fz [.int .u64 c0]]] (.ret (vI x) []):=by
 refine fn_ok [] Tryd.func66 rfl (by decide +kernel) rfl ?_
 unfold g_tree_first_uint_k0 at h
 refine wp_eqB (base':=0) (st':=⟨[(0,eL true (AV.int .u64) p0),(1,.fn (.func 69) [] [.fz [.int .u64 c0]])],[],19⟩) kr kr ?_
 refine sq (wp_seq (wp_seq (reg_in (sz 1 1 ?_))))
 refine lenL (enc:=(AV.int .u64)) (l:=p0) (fl:=true) kr gE ?_
 refine sz 1 3 (reg_end rfl (wp_block ?_))
 refine wwh h (fun s1=>⟨[(1,.fn (.func 69) [] [.fz [.int .u64 c0]]),(7,eL true (AV.int .u64) p0),(8,vI (zn p0)),(9,vI s1)],[],19⟩) (fun x out=>out=match x with | .inl v=>.go (.ret) ⟨[(4,vI v)],[],19⟩ | .inr v=>.go (.exit 0) ⟨[],[],19⟩) (wk_gc (live:=[1,7,8,9]) (keep:=[]) kr) ?_ ?_
 ·intro s1 o h
  unfold g_tree_first_uint_k0_b0 at h
  refine sq (wp_seq ?_)
  refine wb [10] h (fun q3 h=>?_) (fun q3 h=>?_)
  ·refine wcT (wp_skip (wp_seq (wp_block (wp_seq (reg_in (sz 1 1 ?_))))))
   refine bind_elim h (fun a4 q5 h=>?_)
   refine idxL' (enc:=(AV.int .u64)) (l:=p0) (n:=s1) (fl:=true) (w:=1) (a:=a4) kr rfl gE q5 ?_
   refine sz 3 5 (reg_end rfl (wp_seq (reg_in (sz 2 2 ?_))))
   refine inlR (f:=69) (fn:=Tryd.f69) (as0:=[.int .u64 a4,.fz [.int .u64 c0]]) kr Tryd.func69 rfl (by decide +kernel) rfl ?_
   refine wp_eqB (base':=0) (st':=⟨[(0,.int .u64 a4),(1,.fz [.int .u64 c0])],[],8⟩) kr kr ?_
   refine sq (sq (wg [3] [] ?_))
   refine wp_ret ?_
   refine ⟨⟨[(1,.fn (.func 69) [] [.fz [.int .u64 c0]]),(7,eL true (AV.int .u64) p0),(8,vI (zn p0)),(9,vI s1)]++[(10,vB true),(11,vI s1),(12,.fz [.int .u64 a4]),(13,.int .u64 a4),(5,vI s1),(6,.int .u64 a4),(14,.fn (.func 69) [] [.fz [.int .u64 c0]]),(15,.int .u64 a4),(16,vB ((zv (BitVec.ofInt (IntKind.bits .u64) c0 &&& ~~~ BitVec.ofInt (IntKind.bits .u64) a4).toNat)==0))],[],19⟩,by as_aux_lemma=>kernel_rfl,?_⟩
   refine reg_end rfl ?_
   refine wbz h (fun q7 h=>?_) (fun q7 h=>?_)
   ·refine wp_seq (wg [5] [] (rn (wg [4] [] ?_)))
    refine wp_ret ?_
    cases h
    exact ⟨kr,rfl⟩
   refine wp_skip (wg [1,7,8,9] [] (rn ?_))
   cases h
   exact ⟨_,rfl,(wk_gc (live:=[1,7,8,9]) (keep:=[]) kr)⟩
  refine wcF (wg [] [] ?_)
  refine wp_exit ?_
  cases h
  exact ⟨kr,rfl⟩
 intro x8 h out hx
 subst hx
 rcases x8 with x9 | x10
 ·dsimp only at h ⊢
  cases h
  show fnOut _ _ _ _=_
  kernel_rfl
 ·dsimp only at h ⊢
  refine sq (wg [4] [] ?_)
  cases h
  exact wp_ret (show fnOut _ _ _ _=_ from by kernel_rfl)
end Go.Ab
