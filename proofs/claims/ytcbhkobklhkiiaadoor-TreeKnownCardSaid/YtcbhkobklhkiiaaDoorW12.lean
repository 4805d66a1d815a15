/- What functions compute. No conditions. -/
import Derived.Test.YtcbhkobklhkiiaaDoorProg
import Derived.Test.YtcbhkobklhkiiaaDoorW8
import Derived.KernelRfl
import Derived.Test.YtcbhkobklhkiiaaDoorW9
import Derived.Test.YtcbhkobklhkiiaaDoorW10
import Derived.Test.YtcbhkobklhkiiaaDoorW11
set_option linter.all false
namespace Go.Ab
open Go Go.Proofs
set_option maxRecDepth 100000
set_option maxHeartbeats 4000000
theorem g_tree_Least_ok (p0:Tapi_Net) (x:(Tapi_Tree × Int)) (h:g_tree_Least p0=some x):CallOk Tryd.prog 26 [.agg [vI p0.Grain,eL false eTapi_Node p0.Nodes]] (.ret (.tup [.agg [.ref 0 0 x.1.Cliques.length,.ref 1 0 x.1.Up.length,.ref 2 0 x.1.Home.length],vI x.2]) [oR true 1 (AV.int .u64) x.1.Cliques,oR true 1 eI x.1.Up,oR true 1 eI x.1.Home]):=by
 refine fn_ok [] Tryd.func26 rfl (by decide +kernel) rfl ?_
 unfold g_tree_Least at h
 refine wp_eqB (base':=0) (st':=⟨[(0,.agg [vI p0.Grain,eL false eTapi_Node p0.Nodes])],[],43⟩) kr kr ?_
 refine wp_seq (reg_in ?_)
 refine sgL false [] [] false gE ?_
 refine sgL false [] [] false gE ?_
 refine sz 1 3 (reg_end rfl (wp_seq (reg_in (sz 1 1 ?_))))
 refine callW bodyB_42 (g_tree_readFamilies_ok p0) h (fun x1 _ h=>?_)
 refine sz 5 7 (reg_end rfl (wp_seq (wp_seq (wg [1,2,4,5] [0,1,2] (rn ?_)))))
 refine wb [15] h (fun q4 h=>?_) (fun q4 h=>?_)
 ·refine wcT (sq ?_)
  refine wgc [2,3] [1] ⟨[(2,.ptr 0 0 0),(3,vI x1.2)],[oX true false 3 (.agg [.nils,.nils,.nils])],43⟩ ?_
  refine wp_wk (wk_nilO 0 0 0 1 true true gE) ?_
  refine wp_wk (wk_nilO 0 0 1 1 true true gE) ?_
  refine wp_wk (wk_nilO 0 0 2 1 true true gE) ?_
  cases h
  exact wp_ret (show fnOut _ _ _ _=_ from by kernel_rfl)
 refine wcF (wp_skip (wp_seq (reg_in (sz 1 1 ?_))))
 refine callW bodyB_28 (g_net_Moral_ok p0) h (fun x5 _ h=>?_)
 refine sz 5 7 (reg_end rfl (wp_seq (wp_seq ?_)))
 refine wgc [1,2,4,5,6] [0,1,2,3] ⟨[(1,.ptr 0 0 0),(2,.ptr 1 0 0),(4,.ref 2 0 x1.1.length),(5,vI x5.2),(6,.ref 3 0 x5.1.length)],[oX true false 2 (.agg [vI p0.Grain,eL false eTapi_Node p0.Nodes]),oX true false 3 (.agg [.nils,.nils,.nils]),oR true 1 (AV.int .u64) x1.1,oR true 1 (AV.int .u64) x5.1],43⟩ ?_
 refine rn ?_
 refine wb [24] h (fun q8 h=>?_) (fun q8 h=>?_)
 ·refine wcT (wp_seq (wg [2,5] [1] (rn (wg [2,3] [0] ?_))))
  refine wp_wk (wk_nilO 0 0 0 1 true true gE) ?_
  refine wp_wk (wk_nilO 0 0 1 1 true true gE) ?_
  refine wp_wk (wk_nilO 0 0 2 1 true true gE) ?_
  cases h
  exact wp_ret (show fnOut _ _ _ _=_ from by kernel_rfl)
 refine wcF (wp_skip (wp_seq (reg_in (sz 1 1 ?_))))
 refine callR (as0:=[.ref 3 0 x5.1.length]) (ids:=[3]) kr bodyB_51 (msnap_cons (snap_full (w:=1) (bx:=false) (ro:=false) kr) msnap_nil (by rfl)) (fun x9 q10=>g_order_Best_ok x5.1 x9 q10) gF h (fun x9 q10 h=>?_)
 refine sz 7 9 (reg_end rfl (wp_seq (wp_seq ?_)))
 refine wgc [1,2,4,5,7] [0,1,2,4] ⟨[(1,.ptr 0 0 0),(2,.ptr 1 0 0),(4,.ref 2 0 x1.1.length),(5,vI x9.2.2),(7,.ref 3 0 x9.1.length)],[oX true false 2 (.agg [vI p0.Grain,eL false eTapi_Node p0.Nodes]),oX true false 3 (.agg [.nils,.nils,.nils]),oR true 1 (AV.int .u64) x1.1,oR true 1 eI x9.1],43⟩ ?_
 refine rn ?_
 refine wb [34] h (fun q12 h=>?_) (fun q12 h=>?_)
 ·refine wcT (wp_seq (wg [2,5] [1] (rn (wg [2,3] [0] ?_))))
  refine wp_wk (wk_nilO 0 0 0 1 true true gE) ?_
  refine wp_wk (wk_nilO 0 0 1 1 true true gE) ?_
  refine wp_wk (wk_nilO 0 0 2 1 true true gE) ?_
  cases h
  exact wp_ret (show fnOut _ _ _ _=_ from by kernel_rfl)
 refine wcF (wp_skip (wp_seq (reg_in (sz 3 3 ?_))))
 refine callR (as0:=[.agg [vI p0.Grain,eL false eTapi_Node p0.Nodes],.ref 2 0 x1.1.length,.ref 3 0 x9.1.length]) (ids:=[2,3]) kr bodyB_44 (msnap_cons (snap_agg (msnap_cons rfl (msnap_cons rfl msnap_nil (by rfl)) (by rfl))) (msnap_cons (snap_full (w:=1) (bx:=false) (ro:=false) kr) (msnap_cons (snap_full (w:=1) (bx:=false) (ro:=false) kr) msnap_nil (by rfl)) (by rfl)) (by rfl)) (fun x13 q14=>g_tree_build_ok p0 x1.1 x9.1 x13 q14) gF h (fun x13 q14 h=>?_)
 refine sz 4 8 (reg_end rfl (wg [2,3] [1,4,5,6] ?_))
 cases h
 exact wp_ret (show fnOut _ _ _ _=_ from by kernel_rfl)
noncomputable abbrev s30_2  : List (Nat × AV):=[(0,.ptr 0 0 0),(1,.ref 1 0 2),(2,.ref 2 0 1),(3,.agg [vI 2,.nils,.ref 2 0 1]),(4,.ref 3 0 1),(5,.ref 4 0 2),(6,.ref 5 0 2),(7,.ref 6 0 2),(8,.agg [vI 2,.ref 3 0 1,.ref 6 0 2])]
noncomputable abbrev s30_4  : List AObj:=[oX true false 2 (.agg [vI 0,.nils]),.row false true true true 1 [vI 1,vI 3],.row false false true false 1 [.lst true [vI 1,vI 3]],.row false false true true 1 [vI 0],.row false true true true 1 [vI 4,vI 0],.row false true true true 1 [vI 2,vI 2],.row false false true false 1 [.lst true [vI 4,vI 0],.lst true [vI 2,vI 2]],.row false false true true 1 [vI 1],.row false true true true 1 [vI 1,vI 3],.row false true true true 1 [vI 4,vI 0],.row false false true false 1 [.lst true [vI 1,vI 3],.lst true [vI 4,vI 0]]]
noncomputable abbrev o30_25:AObj:=oX true false 2 (.agg [vI 0,.nils])
noncomputable abbrev o30_26:AV:=.agg [vI 2,.lst true [vI 0],.lst false [.lst true [vI 4,vI 0],.lst true [vI 2,vI 2]]]
noncomputable abbrev o30_27:AV:=.agg [vI 2,.lst true [vI 1],.lst false [.lst true [vI 1,vI 3],.lst true [vI 4,vI 0]]]
theorem g_law09_Sample_ok  (x:Tapi_Net) (h:g_law09_Sample=some x):CallOk Tryd.prog 30 [] (.ret (.agg [vI x.Grain,.ref 0 0 x.Nodes.length]) [oR false 3 eTapi_Node x.Nodes]):=by
 refine fn_ok [] Tryd.func30 rfl (by decide +kernel) rfl ?_
 unfold g_law09_Sample at h
 refine wp_eqB (base':=0) (st':=⟨[],[],16⟩) kr kr ?_
 refine wp_seq (reg_in ?_)
 refine sgL false [] [] false gE ?_
 refine reg_end rfl (wp_seq (reg_in ?_))
 refine sgL (S:=⟨[(0,.ptr 0 0 0),(1,.ref 1 0 2)],[o30_25,.row false false true true 1 [vI 1,vI 3]],16⟩) false [] [] true kr ?_
 refine bsR (parts:=[(0,.lst true [vI 1,vI 3])]) (ids:=[1]) (es:=[(1,.row false true true true 1 [vI 1,vI 3]),(2,.row false false true (List.all [.lst true [vI 1,vI 3]] AV.scs) 1 [.lst true [vI 1,vI 3]])]) (S:=⟨[(0,.ptr 0 0 0),(1,.ref 1 0 2),(2,.ref 2 0 1)],[o30_25,.row false true true true 1 [vI 1,vI 3],.row false false true false 1 [.lst true [vI 1,vI 3]]],16⟩) [.lst true] false rfl (sparts_snap rfl (show snap _ _ _=some (_,[1]) from kr) sparts_nil (by rfl)) kr ?_
 refine sz 1 3 ?_
 refine sgL false [] [] true gE ?_
 refine sgL false [] [] true gE ?_
 refine sgL (S:=⟨[(0,.ptr 0 0 0),(1,.ref 1 0 2),(2,.ref 2 0 1),(3,.agg [vI 2,.nils,.ref 2 0 1]),(4,.ref 3 0 1),(5,.ref 4 0 2),(6,.ref 5 0 2)],[o30_25,.row false true true true 1 [vI 1,vI 3],.row false false true false 1 [.lst true [vI 1,vI 3]],.row false false true true 1 [vI 0],.row false false true true 1 [vI 4,vI 0],.row false false true true 1 [vI 2,vI 2]],16⟩) false [] [] true kr ?_
 refine bsR (parts:=[(0,.lst true [vI 4,vI 0]),(1,.lst true [vI 2,vI 2])]) (ids:=[4,5]) (es:=[(4,.row false true true true 1 [vI 4,vI 0]),(5,.row false true true true 1 [vI 2,vI 2]),(6,.row false false true (List.all [.lst true [vI 4,vI 0],.lst true [vI 2,vI 2]] AV.scs) 1 [.lst true [vI 4,vI 0],.lst true [vI 2,vI 2]])]) (S:=⟨[(0,.ptr 0 0 0),(1,.ref 1 0 2),(2,.ref 2 0 1),(3,.agg [vI 2,.nils,.ref 2 0 1]),(4,.ref 3 0 1),(5,.ref 4 0 2),(6,.ref 5 0 2),(7,.ref 6 0 2)],[o30_25,.row false true true true 1 [vI 1,vI 3],.row false false true false 1 [.lst true [vI 1,vI 3]],.row false false true true 1 [vI 0],.row false true true true 1 [vI 4,vI 0],.row false true true true 1 [vI 2,vI 2],.row false false true false 1 [.lst true [vI 4,vI 0],.lst true [vI 2,vI 2]]],16⟩) [.lst true] false rfl (sparts_snap rfl (show snap _ _ _=some (_,[4]) from kr) (sparts_snap rfl (show snap _ _ _=some (_,[5]) from kr) sparts_nil (by rfl)) (by rfl)) kr ?_
 refine sz 1 8 ?_
 refine sgL false [] [] true gE ?_
 refine sgL false [] [] true gE ?_
 refine sgL (S:=⟨s30_2++[(9,.ref 7 0 1),(10,.ref 8 0 2),(11,.ref 9 0 2)],[o30_25,.row false true true true 1 [vI 1,vI 3],.row false false true false 1 [.lst true [vI 1,vI 3]],.row false false true true 1 [vI 0],.row false true true true 1 [vI 4,vI 0],.row false true true true 1 [vI 2,vI 2],.row false false true false 1 [.lst true [vI 4,vI 0],.lst true [vI 2,vI 2]],.row false false true true 1 [vI 1],.row false false true true 1 [vI 1,vI 3],.row false false true true 1 [vI 4,vI 0]],16⟩) false [] [] true kr ?_
 refine bsR (parts:=[(0,.lst true [vI 1,vI 3]),(1,.lst true [vI 4,vI 0])]) (ids:=[8,9]) (es:=[(8,.row false true true true 1 [vI 1,vI 3]),(9,.row false true true true 1 [vI 4,vI 0]),(10,.row false false true (List.all [.lst true [vI 1,vI 3],.lst true [vI 4,vI 0]] AV.scs) 1 [.lst true [vI 1,vI 3],.lst true [vI 4,vI 0]])]) (S:=⟨s30_2++[(9,.ref 7 0 1),(10,.ref 8 0 2),(11,.ref 9 0 2),(12,.ref 10 0 2)],s30_4,16⟩) [.lst true] false rfl (sparts_snap rfl (show snap _ _ _=some (_,[8]) from kr) (sparts_snap rfl (show snap _ _ _=some (_,[9]) from kr) sparts_nil (by rfl)) (by rfl)) kr ?_
 refine sgz 1 13 (S:=⟨s30_2++[(9,.ref 7 0 1),(10,.ref 8 0 2),(11,.ref 9 0 2),(12,.ref 10 0 2),(13,.agg [vI 2,.ref 7 0 1,.ref 10 0 2])],s30_4,16⟩) ?_
 refine bsR (parts:=[(0,.agg [vI 2,.nils,.lst false [.lst true [vI 1,vI 3]]]),(1,o30_26),(2,o30_27)]) (ids:=[2,3,6,7,10]) (es:=[(2,.row false true true false 1 [.lst true [vI 1,vI 3]]),(3,.row false true true true 1 [vI 0]),(6,.row false true true false 1 [.lst true [vI 4,vI 0],.lst true [vI 2,vI 2]]),(7,.row false true true true 1 [vI 1]),(10,.row false true true false 1 [.lst true [vI 1,vI 3],.lst true [vI 4,vI 0]]),(11,.row false false true (List.all [.agg [vI 2,.nils,.lst false [.lst true [vI 1,vI 3]]],o30_26,o30_27] AV.scs) 3 [.agg [vI 2,.nils,.lst false [.lst true [vI 1,vI 3]]],o30_26,o30_27])]) (S:=⟨s30_2++[(9,.ref 7 0 1),(10,.ref 8 0 2),(11,.ref 9 0 2),(12,.ref 10 0 2),(13,.agg [vI 2,.ref 7 0 1,.ref 10 0 2]),(14,.ref 11 0 3)],[o30_25,.row false true true true 1 [vI 1,vI 3],.row false true true false 1 [.lst true [vI 1,vI 3]],.row false true true true 1 [vI 0],.row false true true true 1 [vI 4,vI 0],.row false true true true 1 [vI 2,vI 2],.row false true true false 1 [.lst true [vI 4,vI 0],.lst true [vI 2,vI 2]],.row false true true true 1 [vI 1],.row false true true true 1 [vI 1,vI 3],.row false true true true 1 [vI 4,vI 0],.row false true true false 1 [.lst true [vI 1,vI 3],.lst true [vI 4,vI 0]],.row false false true false 3 [.agg [vI 2,.lst true [],.lst false [.lst true [vI 1,vI 3]]],o30_26,o30_27]],16⟩) [.keep,.lst true,.lst false] false rfl (sparts_snap rfl (snap_agg (msnap_cons rfl (msnap_cons rfl (msnap_cons (show snap _ _ _=some (_,[2]) from kr) msnap_nil (by rfl)) (by rfl)) (by rfl))) (sparts_snap rfl (snap_agg (msnap_cons rfl (msnap_cons (show snap _ _ _=some (_,[3]) from kr) (msnap_cons (show snap _ _ _=some (_,[6]) from kr) msnap_nil (by rfl)) (by rfl)) (by rfl))) (sparts_snap rfl (snap_agg (msnap_cons rfl (msnap_cons (show snap _ _ _=some (_,[7]) from kr) (msnap_cons (show snap _ _ _=some (_,[10]) from kr) msnap_nil (by rfl)) (by rfl)) (by rfl))) sparts_nil (by rfl)) (by rfl)) (by rfl)) kr ?_
 refine sz 2 16 (reg_end rfl (wg [0] [0,11] ?_))
 cases h
 exact wp_ret (show fnOut _ _ _ _=_ from by kernel_rfl)
theorem g_law10_Sample_ok  (x:Tapi_Tree) (h:g_law10_Sample=some x):CallOk Tryd.prog 32 [] (.ret (.agg [.ref 0 0 x.Cliques.length,.ref 1 0 x.Up.length,.ref 2 0 x.Home.length]) [oR true 1 (AV.int .u64) x.Cliques,oR true 1 eI x.Up,oR true 1 eI x.Home]):=by
 refine fn_ok [] Tryd.func32 rfl (by decide +kernel) rfl ?_
 unfold g_law10_Sample at h
 refine wp_eqB (base':=0) (st':=⟨[],[],5⟩) kr kr ?_
 refine wp_seq (reg_in ?_)
 refine sgL false [] [] false gE ?_
 refine reg_end rfl (wp_seq (reg_in ?_))
 refine sgL false [] [] true gE ?_
 refine sgL false [] [] true gE ?_
 refine sgL false [] [] true gE ?_
 refine sz 2 5 (reg_end rfl (wg [0] [0,1,2,3] ?_))
 cases h
 exact wp_ret (show fnOut _ _ _ _=_ from by kernel_rfl)
theorem g_law10_wakes_ok  (x:Bool) (h:g_law10_wakes=some x):CallOk Tryd.prog 10 [] (.ret (vB x) []):=by
 refine fn_ok [] Tryd.func10 rfl (by decide +kernel) rfl ?_
 unfold g_law10_wakes at h
 refine wp_eqB (base':=0) (st':=⟨[],[],78⟩) kr kr ?_
 refine sq (wp_seq (reg_in ?_))
 refine callW bodyB_30 (g_law09_Sample_ok ) h (fun x1 _ h=>?_)
 refine sgL false [] [] false gE ?_
 refine sz 1 3 (reg_end rfl (wp_seq (reg_in (sz 1 1 ?_))))
 refine sgL false [] [] true gE ?_
 refine callR (as0:=[.agg [vI x1.Grain,.ref 0 0 x1.Nodes.length],.ref 2 0 3]) (ids:=[0,2]) kr bodyB_22 (msnap_cons (snap_agg (msnap_cons rfl (msnap_cons (snap_full (w:=3) (bx:=false) (ro:=false) kr) msnap_nil (by rfl)) (by rfl))) (msnap_cons (show snap _ _ _=some (_,[2]) from kr) msnap_nil (by rfl)) (by rfl)) (fun x3 q4=>g_tree_Make_ok x1 [0,1,2] x3 q4) gF h (fun x3 q4 h=>?_)
 refine sz 3 6 ?_
 refine sgL false [] [] false gE ?_
 refine sz 2 9 (reg_end rfl (wp_seq ?_))
 refine wgc [1,2,3] [1,6,0,3,4,5] ⟨[(1,.ptr 0 0 0),(2,.ptr 1 0 0),(3,vI x3.2)],[oX false false 2 (.agg [vI x1.Grain,.ref 2 0 x1.Nodes.length]),oX false false 3 (.agg [.ref 3 0 x3.1.Cliques.length,.ref 4 0 x3.1.Up.length,.ref 5 0 x3.1.Home.length]),oR false 3 eTapi_Node x1.Nodes,oR true 1 (AV.int .u64) x3.1.Cliques,oR true 1 eI x3.1.Up,oR true 1 eI x3.1.Home],78⟩ ?_
 refine reg_in (sz 2 2 ?_)
 refine callR (as0:=[.agg [vI x1.Grain,.ref 2 0 x1.Nodes.length],.agg [.ref 3 0 x3.1.Cliques.length,.ref 4 0 x3.1.Up.length,.ref 5 0 x3.1.Home.length]]) (ids:=[2,3,4,5]) kr bodyB_18 (msnap_cons (snap_agg (msnap_cons rfl (msnap_cons (snap_full (w:=3) (bx:=false) (ro:=false) kr) msnap_nil (by rfl)) (by rfl))) (msnap_cons (snap_agg (msnap_cons (snap_full (w:=1) (bx:=false) (ro:=false) kr) (msnap_cons (snap_full (w:=1) (bx:=false) (ro:=false) kr) (msnap_cons (snap_full (w:=1) (bx:=false) (ro:=false) kr) msnap_nil (by rfl)) (by rfl)) (by rfl))) msnap_nil (by rfl)) (by rfl)) (fun x5 q6=>g_tree_Width_ok x1 x3.1 x5 q6) gF h (fun x5 q6 h=>?_)
 refine sz 5 8 (reg_end rfl (wp_seq (wg [1,2,3,4,5] [0,1,2,3,4,5] (reg_in (sz 2 2 ?_)))))
 refine callR (as0:=[.agg [vI x1.Grain,.ref 2 0 x1.Nodes.length],.agg [.ref 3 0 x3.1.Cliques.length,.ref 4 0 x3.1.Up.length,.ref 5 0 x3.1.Home.length],vI 1]) (ids:=[2,3,4,5]) kr bodyB_21 (msnap_cons (snap_agg (msnap_cons rfl (msnap_cons (snap_full (w:=3) (bx:=false) (ro:=false) kr) msnap_nil (by rfl)) (by rfl))) (msnap_cons (snap_agg (msnap_cons (snap_full (w:=1) (bx:=false) (ro:=false) kr) (msnap_cons (snap_full (w:=1) (bx:=false) (ro:=false) kr) (msnap_cons (snap_full (w:=1) (bx:=false) (ro:=false) kr) msnap_nil (by rfl)) (by rfl)) (by rfl))) (msnap_cons rfl msnap_nil (by rfl)) (by rfl)) (by rfl)) (fun x7 q8=>g_tree_Separator_ok x1 x3.1 1 x7 q8) gF h (fun x7 q8 h=>?_)
 refine sz 5 8 (reg_end rfl (wp_seq ?_))
 refine wgc [1,2,3,4,5,6,7] [0,1,2,3,4,5] ⟨[(1,.ptr 0 0 0),(2,.ptr 1 0 0),(3,vI x3.2),(4,vI x5.1),(5,vI x5.2),(6,.int .u64 x7.1),(7,vI x7.2)],[oX false false 2 (.agg [vI x1.Grain,.ref 2 0 x1.Nodes.length]),oX false false 3 (.agg [.ref 3 0 x3.1.Cliques.length,.ref 4 0 x3.1.Up.length,.ref 5 0 x3.1.Home.length]),oR false 3 eTapi_Node x1.Nodes,oR true 1 (AV.int .u64) x3.1.Cliques,oR true 1 eI x3.1.Up,oR true 1 eI x3.1.Home],78⟩ ?_
 refine reg_in (sz 1 1 ?_)
 refine callR (as0:=[.agg [vI x1.Grain,.ref 2 0 x1.Nodes.length]]) (ids:=[2]) kr bodyB_26 (msnap_cons (snap_agg (msnap_cons rfl (msnap_cons (snap_full (w:=3) (bx:=false) (ro:=false) kr) msnap_nil (by rfl)) (by rfl))) msnap_nil (by rfl)) (fun x9 q10=>g_tree_Least_ok x1 x9 q10) gF h (fun x9 q10 h=>?_)
 refine sz 3 5 ?_
 refine sgL false [] [] false gE ?_
 refine sz 2 8 (reg_end rfl (wp_seq (wg [1,2,3,4,5,6,7,8,9] [0,1,9,2,3,4,5,6,7,8] (rga hfol (sy 3 3 ?_)))))
 refine rb [35,36] h (fun q12 h=>?_) (fun q12 h=>?_)
 ·refine sy 1 4 ?_
  refine callW bodyB_32 (fun x13 q14=>CallOk.froz (g_law10_Sample_ok  x13 q14) (snap_agg (msnap_cons (snap_full (w:=1) (bx:=false) (ro:=false) rfl) (msnap_cons (snap_full (w:=1) (bx:=false) (ro:=false) rfl) (msnap_cons (snap_full (w:=1) (bx:=false) (ro:=false) rfl) msnap_nil (by rfl)) (by rfl)) (by rfl)))) h (fun x13 q14 h=>?_)
  refine callR (as0:=[.agg [.ref 4 0 x3.1.Cliques.length,.ref 5 0 x3.1.Up.length,.ref 6 0 x3.1.Home.length],.agg [eL true (AV.int .u64) x13.Cliques,z1 x13.Up,z1 x13.Home]]) (ids:=[4,5,6]) kr bodyB_24 (msnap_cons (snap_agg (msnap_cons (snap_full (w:=1) (bx:=false) (ro:=false) kr) (msnap_cons (snap_full (w:=1) (bx:=false) (ro:=false) kr) (msnap_cons (snap_full (w:=1) (bx:=false) (ro:=false) kr) msnap_nil (by rfl)) (by rfl)) (by rfl))) (msnap_cons (snap_agg (msnap_cons rfl (msnap_cons rfl (msnap_cons rfl msnap_nil (by rfl)) (by rfl)) (by rfl))) msnap_nil (by rfl)) (by rfl)) (fun x15 q16=>g_ref10_Same_ok x3.1 x13 x15 q16) gF h (fun x15 q16 h=>?_)
  refine sy 2 8 ?_
  refine rb [39,40,41] h (fun q18 h=>?_) (fun q18 h=>?_)
  ·refine sy 4 12 ?_
   refine rb [43,44,45] h (fun q20 h=>?_) (fun q20 h=>?_)
   ·refine sy 4 16 ?_
    refine rb [47,48,49] h (fun q22 h=>?_) (fun q22 h=>?_)
    ·refine sy 4 20 ?_
     refine rb [51,52,53] h (fun q24 h=>?_) (fun q24 h=>?_)
     ·refine sgy 4 24 (S:=⟨[(1,.ptr 0 0 0),(2,.ptr 1 0 0),(3,vI x3.2),(4,vI x5.1),(5,vI x5.2),(6,.int .u64 x7.1),(7,vI x7.2),(8,.ptr 2 0 0),(9,vI x9.2)]++[(34,vI x3.2),(35,vB true),(36,vB true),(37,.agg [.ref 4 0 x3.1.Cliques.length,.ref 5 0 x3.1.Up.length,.ref 6 0 x3.1.Home.length]),(38,.agg [eL true (AV.int .u64) x13.Cliques,z1 x13.Up,z1 x13.Home]),(39,vB true),(40,vB true),(41,vB true),(42,vI x5.1),(43,vB true),(44,vB true),(45,vB true),(46,vI x5.2),(47,vB true),(48,vB true),(49,vB true),(50,.int .u64 x7.1),(51,vB true),(52,vB true),(53,vB true),(54,vI x7.2),(55,vB (x7.2==0)),(56,vB (x7.2==0)),(57,vB (x7.2==0))],[oX false false 2 (.agg [vI x1.Grain,.ref 3 0 x1.Nodes.length]),oX false false 3 (.agg [.ref 4 0 x3.1.Cliques.length,.ref 5 0 x3.1.Up.length,.ref 6 0 x3.1.Home.length]),oX false false 3 (.agg [.ref 7 0 x9.1.Cliques.length,.ref 8 0 x9.1.Up.length,.ref 9 0 x9.1.Home.length]),oR false 3 eTapi_Node x1.Nodes,oR true 1 (AV.int .u64) x3.1.Cliques,oR true 1 eI x3.1.Up,oR true 1 eI x3.1.Home,oR true 1 (AV.int .u64) x9.1.Cliques,oR true 1 eI x9.1.Up,oR true 1 eI x9.1.Home],78⟩) ?_
      refine rb [55,56,57] h (fun q26 h=>?_) (fun q26 h=>?_)
      ·refine sy 4 28 ?_
       refine rb [59,60,61] h (fun q28 h=>?_) (fun q28 h=>?_)
       ·refine sy 1 29 ?_
        refine callW bodyB_32 (fun x29 q30=>CallOk.froz (g_law10_Sample_ok  x29 q30) (snap_agg (msnap_cons (snap_full (w:=1) (bx:=false) (ro:=false) rfl) (msnap_cons (snap_full (w:=1) (bx:=false) (ro:=false) rfl) (msnap_cons (snap_full (w:=1) (bx:=false) (ro:=false) rfl) msnap_nil (by rfl)) (by rfl)) (by rfl)))) h (fun x29 q30 h=>?_)
        refine callR (as0:=[.agg [.ref 7 0 x9.1.Cliques.length,.ref 8 0 x9.1.Up.length,.ref 9 0 x9.1.Home.length],.agg [eL true (AV.int .u64) x29.Cliques,z1 x29.Up,z1 x29.Home]]) (ids:=[7,8,9]) kr bodyB_24 (msnap_cons (snap_agg (msnap_cons (snap_full (w:=1) (bx:=false) (ro:=false) kr) (msnap_cons (snap_full (w:=1) (bx:=false) (ro:=false) kr) (msnap_cons (snap_full (w:=1) (bx:=false) (ro:=false) kr) msnap_nil (by rfl)) (by rfl)) (by rfl))) (msnap_cons (snap_agg (msnap_cons rfl (msnap_cons rfl (msnap_cons rfl msnap_nil (by rfl)) (by rfl)) (by rfl))) msnap_nil (by rfl)) (by rfl)) (fun x31 q32=>g_ref10_Same_ok x9.1 x29 x31 q32) gF h (fun x31 q32 h=>?_)
        refine sy 2 33 ?_
        refine rb [64,65,66] h (fun q34 h=>?_) (fun q34 h=>?_)
        ·refine sy 1 34 ?_
         refine callW bodyB_32 (fun x35 q36=>CallOk.froz (g_law10_Sample_ok  x35 q36) (snap_agg (msnap_cons (snap_full (w:=1) (bx:=false) (ro:=false) rfl) (msnap_cons (snap_full (w:=1) (bx:=false) (ro:=false) rfl) (msnap_cons (snap_full (w:=1) (bx:=false) (ro:=false) rfl) msnap_nil (by rfl)) (by rfl)) (by rfl)))) h (fun x35 q36 h=>?_)
         refine callR (as0:=[.agg [vI x1.Grain,.ref 3 0 x1.Nodes.length],.agg [eL true (AV.int .u64) x35.Cliques,z1 x35.Up,z1 x35.Home]]) (ids:=[3]) kr bodyB_19 (msnap_cons (snap_agg (msnap_cons rfl (msnap_cons (snap_full (w:=3) (bx:=false) (ro:=false) kr) msnap_nil (by rfl)) (by rfl))) (msnap_cons (snap_agg (msnap_cons rfl (msnap_cons rfl (msnap_cons rfl msnap_nil (by rfl)) (by rfl)) (by rfl))) msnap_nil (by rfl)) (by rfl)) (fun x37 q38=>g_tree_Check_ok x1 x35 x37 q38) gF h (fun x37 q38 h=>?_)
         refine sy 3 39 ?_
         refine rb [70,71,72] h (fun q40 h=>?_) (fun q40 h=>?_)
         ·refine sy 2 41 ?_
          refine callR (as0:=[.agg [vI x1.Grain,.ref 3 0 x1.Nodes.length],.agg [.nils,.nils,.nils]]) (us:=[.agg [vI x1.Grain,eL false eTapi_Node x1.Nodes],.agg [.nils,.nils,.nils]]) (ids:=[3]) kr bodyB_19 (msnap_cons (snap_agg (msnap_cons rfl (msnap_cons (snap_full (w:=3) (bx:=false) (ro:=false) kr) msnap_nil (by rfl)) (by rfl))) (msnap_cons (snap_agg (msnap_cons rfl (msnap_cons rfl (msnap_cons rfl msnap_nil (by rfl)) (by rfl)) (by rfl))) msnap_nil (by rfl)) (by rfl)) (fun x41 q42=>CallOk.args [[.keep,.keep],[.lst true,.lst true,.lst true]] (g_tree_Check_ok x1 (Tapi_Tree.mk [] [] []) x41 q42)) gF h (fun x41 q42 h=>?_)
          refine sy 3 45 (rgd ?_)
          refine wgc [0] [] ⟨[(0,vB (x41==100))],[],78⟩ ?_
          cases h
          exact wp_ret (show fnOut _ _ _ _=_ from by kernel_rfl)
         refine sy 6 45 (rgd ?_)
         refine wgc [0] [] ⟨[(0,vB false)],[],78⟩ ?_
         cases h
         exact wp_ret (show fnOut _ _ _ _=_ from by kernel_rfl)
        refine sy 12 45 (rgd ?_)
        refine wgc [0] [] ⟨[(0,vB false)],[],78⟩ ?_
        cases h
        exact wp_ret (show fnOut _ _ _ _=_ from by kernel_rfl)
       refine sy 17 45 (rgd ?_)
       refine wgc [0] [] ⟨[(0,vB false)],[],78⟩ ?_
       cases h
       exact wp_ret (show fnOut _ _ _ _=_ from by kernel_rfl)
      refine sy 21 45 (rgd ?_)
      refine wgc [0] [] ⟨[(0,vB false)],[],78⟩ ?_
      cases h
      exact wp_ret (show fnOut _ _ _ _=_ from by kernel_rfl)
     refine sgy 25 45 (S:=⟨[(1,.ptr 0 0 0),(2,.ptr 1 0 0),(3,vI x3.2),(4,vI x5.1),(5,vI x5.2),(6,.int .u64 x7.1),(7,vI x7.2),(8,.ptr 2 0 0),(9,vI x9.2)]++[(34,vI x3.2),(35,vB true),(36,vB true),(37,.agg [.ref 4 0 x3.1.Cliques.length,.ref 5 0 x3.1.Up.length,.ref 6 0 x3.1.Home.length]),(38,.agg [eL true (AV.int .u64) x13.Cliques,z1 x13.Up,z1 x13.Home]),(39,vB true),(40,vB true),(41,vB true),(42,vI x5.1),(43,vB true),(44,vB true),(45,vB true),(46,vI x5.2),(47,vB true),(48,vB true),(49,vB true),(50,.int .u64 x7.1),(51,vB false),(52,vB false),(53,vB false),(54,.tup []),(55,.tup []),(56,vB false),(57,vB false),(58,.tup []),(59,.tup []),(60,vB false),(61,vB false),(62,.tup []),(63,.tup []),(64,.tup []),(65,vB false),(66,vB false),(67,.tup []),(68,.tup []),(69,.tup []),(70,.tup []),(71,vB false),(72,vB false),(73,.tup []),(74,.tup []),(75,.tup []),(76,.tup []),(77,vB false),(0,vB false)],[oX false false 2 (.agg [vI x1.Grain,.ref 3 0 x1.Nodes.length]),oX false false 3 (.agg [.ref 4 0 x3.1.Cliques.length,.ref 5 0 x3.1.Up.length,.ref 6 0 x3.1.Home.length]),oX false false 3 (.agg [.ref 7 0 x9.1.Cliques.length,.ref 8 0 x9.1.Up.length,.ref 9 0 x9.1.Home.length]),oR false 3 eTapi_Node x1.Nodes,oR true 1 (AV.int .u64) x3.1.Cliques,oR true 1 eI x3.1.Up,oR true 1 eI x3.1.Home,oR true 1 (AV.int .u64) x9.1.Cliques,oR true 1 eI x9.1.Up,oR true 1 eI x9.1.Home],78⟩) ?_
     refine rgd (wg [0] [] ?_)
     cases h
     exact wp_ret (show fnOut _ _ _ _=_ from by kernel_rfl)
    refine sgy 29 45 (S:=⟨[(1,.ptr 0 0 0),(2,.ptr 1 0 0),(3,vI x3.2),(4,vI x5.1),(5,vI x5.2),(6,.int .u64 x7.1),(7,vI x7.2),(8,.ptr 2 0 0),(9,vI x9.2)]++[(34,vI x3.2),(35,vB true),(36,vB true),(37,.agg [.ref 4 0 x3.1.Cliques.length,.ref 5 0 x3.1.Up.length,.ref 6 0 x3.1.Home.length]),(38,.agg [eL true (AV.int .u64) x13.Cliques,z1 x13.Up,z1 x13.Home]),(39,vB true),(40,vB true),(41,vB true),(42,vI x5.1),(43,vB true),(44,vB true),(45,vB true),(46,vI x5.2),(47,vB false),(48,vB false),(49,vB false),(50,.tup []),(51,.tup []),(52,vB false),(53,vB false),(54,.tup []),(55,.tup []),(56,vB false),(57,vB false),(58,.tup []),(59,.tup []),(60,vB false),(61,vB false),(62,.tup []),(63,.tup []),(64,.tup []),(65,vB false),(66,vB false),(67,.tup []),(68,.tup []),(69,.tup []),(70,.tup []),(71,vB false),(72,vB false),(73,.tup []),(74,.tup []),(75,.tup []),(76,.tup []),(77,vB false),(0,vB false)],[oX false false 2 (.agg [vI x1.Grain,.ref 3 0 x1.Nodes.length]),oX false false 3 (.agg [.ref 4 0 x3.1.Cliques.length,.ref 5 0 x3.1.Up.length,.ref 6 0 x3.1.Home.length]),oX false false 3 (.agg [.ref 7 0 x9.1.Cliques.length,.ref 8 0 x9.1.Up.length,.ref 9 0 x9.1.Home.length]),oR false 3 eTapi_Node x1.Nodes,oR true 1 (AV.int .u64) x3.1.Cliques,oR true 1 eI x3.1.Up,oR true 1 eI x3.1.Home,oR true 1 (AV.int .u64) x9.1.Cliques,oR true 1 eI x9.1.Up,oR true 1 eI x9.1.Home],78⟩) ?_
    refine rgd (wg [0] [] ?_)
    cases h
    exact wp_ret (show fnOut _ _ _ _=_ from by kernel_rfl)
   refine sgy 33 45 (S:=⟨[(1,.ptr 0 0 0),(2,.ptr 1 0 0),(3,vI x3.2),(4,vI x5.1),(5,vI x5.2),(6,.int .u64 x7.1),(7,vI x7.2),(8,.ptr 2 0 0),(9,vI x9.2)]++[(34,vI x3.2),(35,vB true),(36,vB true),(37,.agg [.ref 4 0 x3.1.Cliques.length,.ref 5 0 x3.1.Up.length,.ref 6 0 x3.1.Home.length]),(38,.agg [eL true (AV.int .u64) x13.Cliques,z1 x13.Up,z1 x13.Home]),(39,vB true),(40,vB true),(41,vB true),(42,vI x5.1),(43,vB false),(44,vB false),(45,vB false),(46,.tup []),(47,.tup []),(48,vB false),(49,vB false),(50,.tup []),(51,.tup []),(52,vB false),(53,vB false),(54,.tup []),(55,.tup []),(56,vB false),(57,vB false),(58,.tup []),(59,.tup []),(60,vB false),(61,vB false),(62,.tup []),(63,.tup []),(64,.tup []),(65,vB false),(66,vB false),(67,.tup []),(68,.tup []),(69,.tup []),(70,.tup []),(71,vB false),(72,vB false),(73,.tup []),(74,.tup []),(75,.tup []),(76,.tup []),(77,vB false),(0,vB false)],[oX false false 2 (.agg [vI x1.Grain,.ref 3 0 x1.Nodes.length]),oX false false 3 (.agg [.ref 4 0 x3.1.Cliques.length,.ref 5 0 x3.1.Up.length,.ref 6 0 x3.1.Home.length]),oX false false 3 (.agg [.ref 7 0 x9.1.Cliques.length,.ref 8 0 x9.1.Up.length,.ref 9 0 x9.1.Home.length]),oR false 3 eTapi_Node x1.Nodes,oR true 1 (AV.int .u64) x3.1.Cliques,oR true 1 eI x3.1.Up,oR true 1 eI x3.1.Home,oR true 1 (AV.int .u64) x9.1.Cliques,oR true 1 eI x9.1.Up,oR true 1 eI x9.1.Home],78⟩) ?_
   refine rgd (wg [0] [] ?_)
   cases h
   exact wp_ret (show fnOut _ _ _ _=_ from by kernel_rfl)
  refine sgy 37 45 (S:=⟨[(1,.ptr 0 0 0),(2,.ptr 1 0 0),(3,vI x3.2),(4,vI x5.1),(5,vI x5.2),(6,.int .u64 x7.1),(7,vI x7.2),(8,.ptr 2 0 0),(9,vI x9.2)]++[(34,vI x3.2),(35,vB true),(36,vB true),(37,.agg [.ref 4 0 x3.1.Cliques.length,.ref 5 0 x3.1.Up.length,.ref 6 0 x3.1.Home.length]),(38,.agg [eL true (AV.int .u64) x13.Cliques,z1 x13.Up,z1 x13.Home]),(39,vB false),(40,vB false),(41,vB false),(42,.tup []),(43,.tup []),(44,vB false),(45,vB false),(46,.tup []),(47,.tup []),(48,vB false),(49,vB false),(50,.tup []),(51,.tup []),(52,vB false),(53,vB false),(54,.tup []),(55,.tup []),(56,vB false),(57,vB false),(58,.tup []),(59,.tup []),(60,vB false),(61,vB false),(62,.tup []),(63,.tup []),(64,.tup []),(65,vB false),(66,vB false),(67,.tup []),(68,.tup []),(69,.tup []),(70,.tup []),(71,vB false),(72,vB false),(73,.tup []),(74,.tup []),(75,.tup []),(76,.tup []),(77,vB false),(0,vB false)],[oX false false 2 (.agg [vI x1.Grain,.ref 3 0 x1.Nodes.length]),oX false false 3 (.agg [.ref 4 0 x3.1.Cliques.length,.ref 5 0 x3.1.Up.length,.ref 6 0 x3.1.Home.length]),oX false false 3 (.agg [.ref 7 0 x9.1.Cliques.length,.ref 8 0 x9.1.Up.length,.ref 9 0 x9.1.Home.length]),oR false 3 eTapi_Node x1.Nodes,oR true 1 (AV.int .u64) x3.1.Cliques,oR true 1 eI x3.1.Up,oR true 1 eI x3.1.Home,oR true 1 (AV.int .u64) x9.1.Cliques,oR true 1 eI x9.1.Up,oR true 1 eI x9.1.Home],78⟩) ?_
  refine rgd (wg [0] [] ?_)
  cases h
  exact wp_ret (show fnOut _ _ _ _=_ from by kernel_rfl)
 refine sgy 42 45 (S:=⟨[(1,.ptr 0 0 0),(2,.ptr 1 0 0),(3,vI x3.2),(4,vI x5.1),(5,vI x5.2),(6,.int .u64 x7.1),(7,vI x7.2),(8,.ptr 2 0 0),(9,vI x9.2)]++[(34,vI x3.2),(35,vB false),(36,vB false),(37,.tup []),(38,.tup []),(39,.tup []),(40,vB false),(41,vB false),(42,.tup []),(43,.tup []),(44,vB false),(45,vB false),(46,.tup []),(47,.tup []),(48,vB false),(49,vB false),(50,.tup []),(51,.tup []),(52,vB false),(53,vB false),(54,.tup []),(55,.tup []),(56,vB false),(57,vB false),(58,.tup []),(59,.tup []),(60,vB false),(61,vB false),(62,.tup []),(63,.tup []),(64,.tup []),(65,vB false),(66,vB false),(67,.tup []),(68,.tup []),(69,.tup []),(70,.tup []),(71,vB false),(72,vB false),(73,.tup []),(74,.tup []),(75,.tup []),(76,.tup []),(77,vB false),(0,vB false)],[oX false false 2 (.agg [vI x1.Grain,.ref 3 0 x1.Nodes.length]),oX false false 3 (.agg [.ref 4 0 x3.1.Cliques.length,.ref 5 0 x3.1.Up.length,.ref 6 0 x3.1.Home.length]),oX false false 3 (.agg [.ref 7 0 x9.1.Cliques.length,.ref 8 0 x9.1.Up.length,.ref 9 0 x9.1.Home.length]),oR false 3 eTapi_Node x1.Nodes,oR true 1 (AV.int .u64) x3.1.Cliques,oR true 1 eI x3.1.Up,oR true 1 eI x3.1.Home,oR true 1 (AV.int .u64) x9.1.Cliques,oR true 1 eI x9.1.Up,oR true 1 eI x9.1.Home],78⟩) ?_
 refine rgd (wg [0] [] ?_)
 cases h
 exact wp_ret (show fnOut _ _ _ _=_ from by kernel_rfl)
theorem g_ref10_Bend_Of_ok (p0:Tharuspexref10_Bend) (p1:Tapi_Tree) (x:Tapi_Tree) (h:g_ref10_Bend_Of p0 p1=some x):CallOk Tryd.prog 15 [.agg [.int .u8 p0.What,.int .u8 p0.At,vI p0.N,.int .u64 p0.S],.agg [eL true (AV.int .u64) p1.Cliques,z1 p1.Up,z1 p1.Home]] (.ret (.agg [eL true (AV.int .u64) x.Cliques,z1 x.Up,z1 x.Home]) []):=by
 refine fn_ok [[.lst true,.lst true,.lst true]] Tryd.func15 rfl (by decide +kernel) rfl ?_
 unfold g_ref10_Bend_Of at h
 refine wp_eqB (base':=0) (st':=⟨[(0,.agg [.int .u8 p0.What,.int .u8 p0.At,vI p0.N,.int .u64 p0.S]),(1,.agg [eL true (AV.int .u64) p1.Cliques,z1 p1.Up,z1 p1.Home])],[],169⟩) kr kr ?_
 refine wp_seq (reg_in (sz 1 1 ?_))
 refine sgL false [] [] false gE ?_
 refine sgL false [] [] false gE ?_
 refine reg_end rfl (sq (sq (wp_seq (rga hfol (sy 3 3 ?_)))))
 refine appN (enc:=(AV.int .u64)) (m:=p1.Cliques) (w:=1) (bytes:=8) (nr':=true) (fl':=true) (a:=.nils) (b:=eL true (AV.int .u64) p1.Cliques) (rds:=[]) false kr (.inl rfl) (elems_lst (fun _=>rfl)) rfl gE kr h (fun h=>?_)
 refine sy 3 7 ?_
 refine appN (enc:=eI) (m:=p1.Up) (w:=1) (bytes:=8) (nr':=true) (fl':=true) (a:=.nils) (b:=z1 p1.Up) (rds:=[]) false kr (.inl rfl) (elems_lst (fun _=>rfl)) rfl gE kr h (fun h=>?_)
 refine sy 3 11 ?_
 refine appN (enc:=eI) (m:=p1.Home) (w:=1) (bytes:=8) (nr':=true) (fl':=true) (a:=.nils) (b:=z1 p1.Home) (rds:=[]) false kr (.inl rfl) (elems_lst (fun _=>rfl)) rfl gE kr h (fun h=>?_)
 refine sy 6 18 (rgd (wp_seq ?_))
 refine wgc [2,3,4] [0,1,2,3,4,5] ⟨[(2,.ptr 0 0 0),(3,.ptr 1 0 0),(4,.ptr 2 0 0)],[oX true true 4 (.agg [.int .u8 p0.What,.int .u8 p0.At,vI p0.N,.int .u64 p0.S]),oX false false 3 (.agg [.ref 3 0 p1.Cliques.length,.ref 4 0 p1.Up.length,.ref 5 0 p1.Home.length]),oX true false 3 (.agg [.nils,.nils,.nils]),oR true 1 (AV.int .u64) p1.Cliques,oR true 1 eI p1.Up,oR true 1 eI p1.Home],169⟩ ?_
 refine rn (wp_seq (sq (wp_block (wp_seq (wg [2,3,4,8,30] [0,1,2,3,4,5] (rn ?_))))))
 refine wb [60,59] h (fun q2 h=>?_) (fun q2 h=>?_)
 ·refine wcT (sq ?_)
  refine wbz h (fun q4 h=>?_) (fun q4 h=>?_)
  ·refine wgc [2,3,4,8] [0,1,2,3,4,5] ⟨[(2,.ptr 0 0 0),(3,.ptr 1 0 0),(4,.ptr 2 0 0),(8,vI (zw (p0.At)))],[oX true true 4 (.agg [.int .u8 p0.What,.int .u8 p0.At,vI p0.N,.int .u64 p0.S]),oX false false 3 (.agg [.ref 3 0 p1.Cliques.length,.ref 4 0 p1.Up.length,.ref 5 0 p1.Home.length]),oX true false 3 (.agg [.nils,.nils,.nils]),oR true 1 (AV.int .u64) p1.Cliques,oR true 1 eI p1.Up,oR true 1 eI p1.Home],169⟩ ?_
   refine rga hfol (sy 6 6 ?_)
   refine remR (k:=.i64) (a:=zw (p0.At)) (b:=(zn p1.Cliques)) kr gE h (fun h=>?_)
   refine sy 2 9 ?_
   refine bind_elim h (fun a5 q6 h=>?_)
   refine idxR' (enc:=(AV.int .u64)) (l:=p1.Cliques) (n:=Int.tmod (zw (p0.At)) (zn p1.Cliques)) (w:=1) (ob:=3) (ro:=false) (nr:=true) (fl:=true) (a:=a5) kr kr gE q6 ?_
   refine bind_elim h (fun a7 q8 h=>?_)
   refine storeR (enc:=(AV.int .u64)) (l:=p1.Cliques) (n:=(Int.tmod (zw (p0.At)) (zn p1.Cliques))) (ob:=3) (w:=1) (bx:=false) (nr:=true) (fl:=true) (c:=0) (a:=a7) (a':=p0.S) (v:=.int .u64 p0.S) false kr kr q8 kr rfl kr gE kr ?_
   refine rknN (n:=p1.Cliques.length) (m:=(List.set p1.Cliques (zt (Int.tmod (zw (p0.At)) (zn p1.Cliques))) p0.S).length) (S:=fun n9=>⟨[(2,.ptr 0 0 0),(3,.ptr 1 0 0),(4,.ptr 2 0 0),(8,vI (zw (p0.At))),(65,.ptr 1 0 0),(66,.ref 3 0 n9),(67,vI (zw (p0.At))),(68,.ptr 1 0 0),(69,.ref 3 0 n9),(70,vI (zn p1.Cliques)),(71,vI (Int.tmod (zw (p0.At)) (zn p1.Cliques))),(72,.ptr 0 0 3),(73,.int .u64 p0.S),(74,.ptr 3 (zt (Int.tmod (zw (p0.At)) (zn p1.Cliques))) 0)],[oX true true 4 (.agg [.int .u8 p0.What,.int .u8 p0.At,vI p0.N,.int .u64 p0.S]),oX false false 3 (.agg [.ref 3 0 n9,.ref 4 0 p1.Up.length,.ref 5 0 p1.Home.length]),oX true false 3 (.agg [.nils,.nils,.nils]),oR true 1 (AV.int .u64) (List.set p1.Cliques (zt (Int.tmod (zw (p0.At)) (zn p1.Cliques))) p0.S),oR true 1 eI p1.Up,oR true 1 eI p1.Home],169⟩) (by simp only [List.length_set]) ?_
   refine rgd (wp_seq (wg [3,4] [1,2,3,4,5] (rn ?_)))
   refine wgc [4] [1,2,3,4] ⟨[(4,.ptr 0 0 0)],[oX false false 3 (.agg [.ref 1 0 ((List.set p1.Cliques (zt (Int.tmod (zw (p0.At)) (zn p1.Cliques))) p0.S).length),.ref 2 0 p1.Up.length,.ref 3 0 p1.Home.length]),oR true 1 (AV.int .u64) (List.set p1.Cliques (zt (Int.tmod (zw (p0.At)) (zn p1.Cliques))) p0.S),oR true 1 eI p1.Up,oR true 1 eI p1.Home],169⟩ ?_
   refine wp_wk (wk_snapO 0 0 (st':=⟨[(4,.ptr 0 0 0)],[oX false false 3 (.agg [eL true (AV.int .u64) (List.set p1.Cliques (zt (Int.tmod (zw (p0.At)) (zn p1.Cliques))) p0.S),z1 p1.Up,z1 p1.Home]),.row false true true true 1 (List.map (AV.int .u64) (List.set p1.Cliques (zt (Int.tmod (zw (p0.At)) (zn p1.Cliques))) p0.S)),.row false true true true 1 (List.map eI p1.Up),.row false true true true 1 (List.map eI p1.Home)],169⟩) (y:=.agg [eL true (AV.int .u64) (List.set p1.Cliques (zt (Int.tmod (zw (p0.At)) (zn p1.Cliques))) p0.S),z1 p1.Up,z1 p1.Home]) (ids:=[1,2,3]) rfl rfl rfl (snap_agg (msnap_cons (snap_full (w:=1) (bx:=false) (ro:=false) kr) (msnap_cons (snap_full (w:=1) (bx:=false) (ro:=false) kr) (msnap_cons (snap_full (w:=1) (bx:=false) (ro:=false) kr) msnap_nil (by rfl)) (by rfl)) (by rfl))) kr) ?_
   cases h
   exact wp_ret (show fnOut _ _ _ _=_ from by kernel_rfl)
  refine wp_skip (wp_seq ?_)
  refine wgc [3,4] [1,2,3,4,5] ⟨[(3,.ptr 0 0 0),(4,.ptr 1 0 0)],[oX false false 3 (.agg [.ref 2 0 p1.Cliques.length,.ref 3 0 p1.Up.length,.ref 4 0 p1.Home.length]),oX true false 3 (.agg [.nils,.nils,.nils]),oR true 1 (AV.int .u64) p1.Cliques,oR true 1 eI p1.Up,oR true 1 eI p1.Home],169⟩ ?_
  refine rn ?_
  refine wgc [4] [1,2,3,4] ⟨[(4,.ptr 0 0 0)],[oX false false 3 (.agg [.ref 1 0 p1.Cliques.length,.ref 2 0 p1.Up.length,.ref 3 0 p1.Home.length]),oR true 1 (AV.int .u64) p1.Cliques,oR true 1 eI p1.Up,oR true 1 eI p1.Home],169⟩ ?_
  refine wp_wk (wk_snapO 0 0 (st':=⟨[(4,.ptr 0 0 0)],[oX false false 3 (.agg [eL true (AV.int .u64) p1.Cliques,z1 p1.Up,z1 p1.Home]),.row false true true true 1 (List.map (AV.int .u64) p1.Cliques),.row false true true true 1 (List.map eI p1.Up),.row false true true true 1 (List.map eI p1.Home)],169⟩) (y:=.agg [eL true (AV.int .u64) p1.Cliques,z1 p1.Up,z1 p1.Home]) (ids:=[1,2,3]) rfl rfl rfl (snap_agg (msnap_cons (snap_full (w:=1) (bx:=false) (ro:=false) kr) (msnap_cons (snap_full (w:=1) (bx:=false) (ro:=false) kr) (msnap_cons (snap_full (w:=1) (bx:=false) (ro:=false) kr) msnap_nil (by rfl)) (by rfl)) (by rfl))) kr) ?_
  cases h
  exact wp_ret (show fnOut _ _ _ _=_ from by kernel_rfl)
 refine wcF (sq ?_)
 refine wb [76,75] h (fun q11 h=>?_) (fun q11 h=>?_)
 ·refine wcT (wp_seq ?_)
  refine wgc [2,3,4,8] [0,1,2,3,4,5] ⟨[(2,.ptr 0 0 0),(3,.ptr 1 0 0),(4,.ptr 2 0 0),(8,vI (zw (p0.At)))],[oX true true 4 (.agg [.int .u8 p0.What,.int .u8 p0.At,vI p0.N,.int .u64 p0.S]),oX false false 3 (.agg [.ref 3 0 p1.Cliques.length,.ref 4 0 p1.Up.length,.ref 5 0 p1.Home.length]),oX true false 3 (.agg [.nils,.nils,.nils]),oR true 1 (AV.int .u64) p1.Cliques,oR true 1 eI p1.Up,oR true 1 eI p1.Home],169⟩ ?_
  refine rn ?_
  refine wb [80] h (fun q13 h=>?_) (fun q13 h=>?_)
  ·refine wcT (rga hfol (sy 6 6 ?_))
   refine remR (k:=.i64) (a:=zw (p0.At)) (b:=(zn p1.Cliques)) kr gE h (fun h=>?_)
   refine sy 6 13 ?_
   refine remR (k:=.i64) (a:=zw (p0.At)) (b:=(zn p1.Cliques)) kr gE h (fun h=>?_)
   refine bind_elim h (fun a14 q15 h=>?_)
   refine idxR' (enc:=(AV.int .u64)) (l:=p1.Cliques) (n:=Int.tmod (zw (p0.At)) (zn p1.Cliques)) (w:=1) (ob:=3) (ro:=false) (nr:=true) (fl:=true) (a:=a14) kr kr gE q15 ?_
   refine loadR (enc:=(AV.int .u64)) (l:=p1.Cliques) (n:=Int.tmod (zw (p0.At)) (zn p1.Cliques)) (w:=1) (ob:=3) (c:=0) (bx:=false) (ro:=false) (nr:=true) (fl:=true) (a:=a14) kr kr q15 gE ?_
   refine sy 3 19 ?_
   refine idxR' (enc:=(AV.int .u64)) (l:=p1.Cliques) (n:=Int.tmod (zw (p0.At)) (zn p1.Cliques)) (w:=1) (ob:=3) (ro:=false) (nr:=true) (fl:=true) (a:=a14) kr kr gE q15 ?_
   refine bind_elim h (fun a16 q17 h=>?_)
   refine storeR (enc:=(AV.int .u64)) (l:=p1.Cliques) (n:=(Int.tmod (zw (p0.At)) (zn p1.Cliques))) (ob:=3) (w:=1) (bx:=false) (nr:=true) (fl:=true) (c:=0) (a:=a16) (a':=zv (BitVec.ofInt (IntKind.bits .u64) a14 ||| BitVec.ofInt (IntKind.bits .u64) p0.S).toNat) (v:=.int .u64 (zv (BitVec.ofInt (IntKind.bits .u64) a14 ||| BitVec.ofInt (IntKind.bits .u64) p0.S).toNat)) false kr kr q17 kr rfl kr gE kr ?_
   refine rknN (n:=p1.Cliques.length) (m:=(List.set p1.Cliques (zt (Int.tmod (zw (p0.At)) (zn p1.Cliques))) (zv (BitVec.ofInt (IntKind.bits .u64) a14 ||| BitVec.ofInt (IntKind.bits .u64) p0.S).toNat)).length) (S:=fun n18=>⟨[(2,.ptr 0 0 0),(3,.ptr 1 0 0),(4,.ptr 2 0 0),(8,vI (zw (p0.At))),(77,.ptr 1 0 0),(78,.ref 3 0 n18),(79,vI (zn p1.Cliques)),(80,vB true),(81,.ptr 1 0 0),(82,.ref 3 0 n18),(83,vI (zw (p0.At))),(84,.ptr 1 0 0),(85,.ref 3 0 n18),(86,vI (zn p1.Cliques)),(87,vI (Int.tmod (zw (p0.At)) (zn p1.Cliques))),(88,.ptr 1 0 0),(89,.ref 3 0 n18),(90,vI (zw (p0.At))),(91,.ptr 1 0 0),(92,.ref 3 0 n18),(93,vI (zn p1.Cliques)),(94,vI (Int.tmod (zw (p0.At)) (zn p1.Cliques))),(95,.ptr 3 (zt (Int.tmod (zw (p0.At)) (zn p1.Cliques))) 0),(96,.int .u64 a14),(97,.ptr 0 0 3),(98,.int .u64 p0.S),(99,.int .u64 (zv (BitVec.ofInt (IntKind.bits .u64) a14 ||| BitVec.ofInt (IntKind.bits .u64) p0.S).toNat)),(100,.ptr 3 (zt (Int.tmod (zw (p0.At)) (zn p1.Cliques))) 0)],[oX true true 4 (.agg [.int .u8 p0.What,.int .u8 p0.At,vI p0.N,.int .u64 p0.S]),oX false false 3 (.agg [.ref 3 0 n18,.ref 4 0 p1.Up.length,.ref 5 0 p1.Home.length]),oX true false 3 (.agg [.nils,.nils,.nils]),oR true 1 (AV.int .u64) (List.set p1.Cliques (zt (Int.tmod (zw (p0.At)) (zn p1.Cliques))) (zv (BitVec.ofInt (IntKind.bits .u64) a14 ||| BitVec.ofInt (IntKind.bits .u64) p0.S).toNat)),oR true 1 eI p1.Up,oR true 1 eI p1.Home],169⟩) (by simp only [List.length_set]) ?_
   refine rgd (wp_seq (wg [3,4] [1,2,3,4,5] (rn ?_)))
   refine wgc [4] [1,2,3,4] ⟨[(4,.ptr 0 0 0)],[oX false false 3 (.agg [.ref 1 0 ((List.set p1.Cliques (zt (Int.tmod (zw (p0.At)) (zn p1.Cliques))) (zv (BitVec.ofInt (IntKind.bits .u64) a14 ||| BitVec.ofInt (IntKind.bits .u64) p0.S).toNat)).length),.ref 2 0 p1.Up.length,.ref 3 0 p1.Home.length]),oR true 1 (AV.int .u64) (List.set p1.Cliques (zt (Int.tmod (zw (p0.At)) (zn p1.Cliques))) (zv (BitVec.ofInt (IntKind.bits .u64) a14 ||| BitVec.ofInt (IntKind.bits .u64) p0.S).toNat)),oR true 1 eI p1.Up,oR true 1 eI p1.Home],169⟩ ?_
   refine wp_wk (wk_snapO 0 0 (st':=⟨[(4,.ptr 0 0 0)],[oX false false 3 (.agg [eL true (AV.int .u64) (List.set p1.Cliques (zt (Int.tmod (zw (p0.At)) (zn p1.Cliques))) (zv (BitVec.ofInt (IntKind.bits .u64) a14 ||| BitVec.ofInt (IntKind.bits .u64) p0.S).toNat)),z1 p1.Up,z1 p1.Home]),.row false true true true 1 (List.map (AV.int .u64) (List.set p1.Cliques (zt (Int.tmod (zw (p0.At)) (zn p1.Cliques))) (zv (BitVec.ofInt (IntKind.bits .u64) a14 ||| BitVec.ofInt (IntKind.bits .u64) p0.S).toNat))),.row false true true true 1 (List.map eI p1.Up),.row false true true true 1 (List.map eI p1.Home)],169⟩) (y:=.agg [eL true (AV.int .u64) (List.set p1.Cliques (zt (Int.tmod (zw (p0.At)) (zn p1.Cliques))) (zv (BitVec.ofInt (IntKind.bits .u64) a14 ||| BitVec.ofInt (IntKind.bits .u64) p0.S).toNat)),z1 p1.Up,z1 p1.Home]) (ids:=[1,2,3]) rfl rfl rfl (snap_agg (msnap_cons (snap_full (w:=1) (bx:=false) (ro:=false) kr) (msnap_cons (snap_full (w:=1) (bx:=false) (ro:=false) kr) (msnap_cons (snap_full (w:=1) (bx:=false) (ro:=false) kr) msnap_nil (by rfl)) (by rfl)) (by rfl))) kr) ?_
   cases h
   exact wp_ret (show fnOut _ _ _ _=_ from by kernel_rfl)
  refine wcF (wp_skip (wp_seq (wg [3,4] [1,2,3,4,5] (rn ?_))))
  refine wgc [4] [1,2,3,4] ⟨[(4,.ptr 0 0 0)],[oX false false 3 (.agg [.ref 1 0 p1.Cliques.length,.ref 2 0 p1.Up.length,.ref 3 0 p1.Home.length]),oR true 1 (AV.int .u64) p1.Cliques,oR true 1 eI p1.Up,oR true 1 eI p1.Home],169⟩ ?_
  refine wp_wk (wk_snapO 0 0 (st':=⟨[(4,.ptr 0 0 0)],[oX false false 3 (.agg [eL true (AV.int .u64) p1.Cliques,z1 p1.Up,z1 p1.Home]),.row false true true true 1 (List.map (AV.int .u64) p1.Cliques),.row false true true true 1 (List.map eI p1.Up),.row false true true true 1 (List.map eI p1.Home)],169⟩) (y:=.agg [eL true (AV.int .u64) p1.Cliques,z1 p1.Up,z1 p1.Home]) (ids:=[1,2,3]) rfl rfl rfl (snap_agg (msnap_cons (snap_full (w:=1) (bx:=false) (ro:=false) kr) (msnap_cons (snap_full (w:=1) (bx:=false) (ro:=false) kr) (msnap_cons (snap_full (w:=1) (bx:=false) (ro:=false) kr) msnap_nil (by rfl)) (by rfl)) (by rfl))) kr) ?_
  cases h
  exact wp_ret (show fnOut _ _ _ _=_ from by kernel_rfl)
 refine wcF (sq ?_)
 refine wbz h (fun q20 h=>?_) (fun q20 h=>?_)
 ·refine wp_seq ?_
  refine wgc [2,3,4,8] [0,1,2,3,4,5] ⟨[(2,.ptr 0 0 0),(3,.ptr 1 0 0),(4,.ptr 2 0 0),(8,vI (zw (p0.At)))],[oX true true 4 (.agg [.int .u8 p0.What,.int .u8 p0.At,vI p0.N,.int .u64 p0.S]),oX false false 3 (.agg [.ref 3 0 p1.Cliques.length,.ref 4 0 p1.Up.length,.ref 5 0 p1.Home.length]),oX true false 3 (.agg [.nils,.nils,.nils]),oR true 1 (AV.int .u64) p1.Cliques,oR true 1 eI p1.Up,oR true 1 eI p1.Home],169⟩ ?_
  refine rn ?_
  refine wb [106] h (fun q22 h=>?_) (fun q22 h=>?_)
  ·refine wcT (rga hfol (sy 6 6 ?_))
   refine remR (k:=.i64) (a:=zw (p0.At)) (b:=(zn p1.Up)) kr gE h (fun h=>?_)
   refine sy 2 9 ?_
   refine bind_elim h (fun a23 q24 h=>?_)
   refine idxR' (enc:=eI) (l:=p1.Up) (n:=Int.tmod (zw (p0.At)) (zn p1.Up)) (w:=1) (ob:=4) (ro:=false) (nr:=true) (fl:=true) (a:=a23) kr kr gE q24 ?_
   refine bind_elim h (fun a25 q26 h=>?_)
   refine storeR (enc:=eI) (l:=p1.Up) (n:=(Int.tmod (zw (p0.At)) (zn p1.Up))) (ob:=4) (w:=1) (bx:=false) (nr:=true) (fl:=true) (c:=0) (a:=a25) (a':=p0.N) (v:=vI p0.N) false kr kr q26 kr rfl kr gE kr ?_
   refine rknN (n:=p1.Up.length) (m:=(List.set p1.Up (zt (Int.tmod (zw (p0.At)) (zn p1.Up))) p0.N).length) (S:=fun n27=>⟨[(2,.ptr 0 0 0),(3,.ptr 1 0 0),(4,.ptr 2 0 0),(8,vI (zw (p0.At))),(103,.ptr 1 0 1),(104,.ref 4 0 n27),(105,vI (zn p1.Up)),(106,vB true),(107,.ptr 1 0 1),(108,.ref 4 0 n27),(109,vI (zw (p0.At))),(110,.ptr 1 0 1),(111,.ref 4 0 n27),(112,vI (zn p1.Up)),(113,vI (Int.tmod (zw (p0.At)) (zn p1.Up))),(114,.ptr 0 0 2),(115,vI p0.N),(116,.ptr 4 (zt (Int.tmod (zw (p0.At)) (zn p1.Up))) 0)],[oX true true 4 (.agg [.int .u8 p0.What,.int .u8 p0.At,vI p0.N,.int .u64 p0.S]),oX false false 3 (.agg [.ref 3 0 p1.Cliques.length,.ref 4 0 n27,.ref 5 0 p1.Home.length]),oX true false 3 (.agg [.nils,.nils,.nils]),oR true 1 (AV.int .u64) p1.Cliques,oR true 1 eI (List.set p1.Up (zt (Int.tmod (zw (p0.At)) (zn p1.Up))) p0.N),oR true 1 eI p1.Home],169⟩) (by simp only [List.length_set]) ?_
   refine rgd (wp_seq (wg [3,4] [1,2,3,4,5] (rn ?_)))
   refine wgc [4] [1,2,3,4] ⟨[(4,.ptr 0 0 0)],[oX false false 3 (.agg [.ref 1 0 p1.Cliques.length,.ref 2 0 ((List.set p1.Up (zt (Int.tmod (zw (p0.At)) (zn p1.Up))) p0.N).length),.ref 3 0 p1.Home.length]),oR true 1 (AV.int .u64) p1.Cliques,oR true 1 eI (List.set p1.Up (zt (Int.tmod (zw (p0.At)) (zn p1.Up))) p0.N),oR true 1 eI p1.Home],169⟩ ?_
   refine wp_wk (wk_snapO 0 0 (st':=⟨[(4,.ptr 0 0 0)],[oX false false 3 (.agg [eL true (AV.int .u64) p1.Cliques,z1 (List.set p1.Up (zt (Int.tmod (zw (p0.At)) (zn p1.Up))) p0.N),z1 p1.Home]),.row false true true true 1 (List.map (AV.int .u64) p1.Cliques),.row false true true true 1 (List.map eI (List.set p1.Up (zt (Int.tmod (zw (p0.At)) (zn p1.Up))) p0.N)),.row false true true true 1 (List.map eI p1.Home)],169⟩) (y:=.agg [eL true (AV.int .u64) p1.Cliques,z1 (List.set p1.Up (zt (Int.tmod (zw (p0.At)) (zn p1.Up))) p0.N),z1 p1.Home]) (ids:=[1,2,3]) rfl rfl rfl (snap_agg (msnap_cons (snap_full (w:=1) (bx:=false) (ro:=false) kr) (msnap_cons (snap_full (w:=1) (bx:=false) (ro:=false) kr) (msnap_cons (snap_full (w:=1) (bx:=false) (ro:=false) kr) msnap_nil (by rfl)) (by rfl)) (by rfl))) kr) ?_
   cases h
   exact wp_ret (show fnOut _ _ _ _=_ from by kernel_rfl)
  refine wcF (wp_skip (wp_seq (wg [3,4] [1,2,3,4,5] (rn ?_))))
  refine wgc [4] [1,2,3,4] ⟨[(4,.ptr 0 0 0)],[oX false false 3 (.agg [.ref 1 0 p1.Cliques.length,.ref 2 0 p1.Up.length,.ref 3 0 p1.Home.length]),oR true 1 (AV.int .u64) p1.Cliques,oR true 1 eI p1.Up,oR true 1 eI p1.Home],169⟩ ?_
  refine wp_wk (wk_snapO 0 0 (st':=⟨[(4,.ptr 0 0 0)],[oX false false 3 (.agg [eL true (AV.int .u64) p1.Cliques,z1 p1.Up,z1 p1.Home]),.row false true true true 1 (List.map (AV.int .u64) p1.Cliques),.row false true true true 1 (List.map eI p1.Up),.row false true true true 1 (List.map eI p1.Home)],169⟩) (y:=.agg [eL true (AV.int .u64) p1.Cliques,z1 p1.Up,z1 p1.Home]) (ids:=[1,2,3]) rfl rfl rfl (snap_agg (msnap_cons (snap_full (w:=1) (bx:=false) (ro:=false) kr) (msnap_cons (snap_full (w:=1) (bx:=false) (ro:=false) kr) (msnap_cons (snap_full (w:=1) (bx:=false) (ro:=false) kr) msnap_nil (by rfl)) (by rfl)) (by rfl))) kr) ?_
  cases h
  exact wp_ret (show fnOut _ _ _ _=_ from by kernel_rfl)
 refine wp_seq ?_
 refine wgc [2,3,4,8,30] [0,1,2,3,4,5] ⟨[(2,.ptr 0 0 0),(3,.ptr 1 0 0),(4,.ptr 2 0 0),(8,vI (zw (p0.At))),(30,.int .u8 (Int.tmod p0.What 8))],[oX true true 4 (.agg [.int .u8 p0.What,.int .u8 p0.At,vI p0.N,.int .u64 p0.S]),oX false false 3 (.agg [.ref 3 0 p1.Cliques.length,.ref 4 0 p1.Up.length,.ref 5 0 p1.Home.length]),oX true false 3 (.agg [.nils,.nils,.nils]),oR true 1 (AV.int .u64) p1.Cliques,oR true 1 eI p1.Up,oR true 1 eI p1.Home],169⟩ ?_
 refine rn ?_
 refine wb [118,117] h (fun q29 h=>?_) (fun q29 h=>?_)
 ·refine wcT (sq ?_)
  refine wbz h (fun q31 h=>?_) (fun q31 h=>?_)
  ·refine wg [2,3,4,8] [0,1,2,3,4,5] (rga hfol (sy 6 6 ?_))
   refine remR (k:=.i64) (a:=zw (p0.At)) (b:=(zn p1.Home)) kr gE h (fun h=>?_)
   refine sy 2 9 ?_
   refine bind_elim h (fun a32 q33 h=>?_)
   refine idxR' (enc:=eI) (l:=p1.Home) (n:=Int.tmod (zw (p0.At)) (zn p1.Home)) (w:=1) (ob:=5) (ro:=false) (nr:=true) (fl:=true) (a:=a32) kr kr gE q33 ?_
   refine bind_elim h (fun a34 q35 h=>?_)
   refine storeR (enc:=eI) (l:=p1.Home) (n:=(Int.tmod (zw (p0.At)) (zn p1.Home))) (ob:=5) (w:=1) (bx:=false) (nr:=true) (fl:=true) (c:=0) (a:=a34) (a':=p0.N) (v:=vI p0.N) false kr kr q35 kr rfl kr gE kr ?_
   refine rknN (n:=p1.Home.length) (m:=(List.set p1.Home (zt (Int.tmod (zw (p0.At)) (zn p1.Home))) p0.N).length) (S:=fun n36=>⟨[(2,.ptr 0 0 0),(3,.ptr 1 0 0),(4,.ptr 2 0 0),(8,vI (zw (p0.At))),(123,.ptr 1 0 2),(124,.ref 5 0 n36),(125,vI (zw (p0.At))),(126,.ptr 1 0 2),(127,.ref 5 0 n36),(128,vI (zn p1.Home)),(129,vI (Int.tmod (zw (p0.At)) (zn p1.Home))),(130,.ptr 0 0 2),(131,vI p0.N),(132,.ptr 5 (zt (Int.tmod (zw (p0.At)) (zn p1.Home))) 0)],[oX true true 4 (.agg [.int .u8 p0.What,.int .u8 p0.At,vI p0.N,.int .u64 p0.S]),oX false false 3 (.agg [.ref 3 0 p1.Cliques.length,.ref 4 0 p1.Up.length,.ref 5 0 n36]),oX true false 3 (.agg [.nils,.nils,.nils]),oR true 1 (AV.int .u64) p1.Cliques,oR true 1 eI p1.Up,oR true 1 eI (List.set p1.Home (zt (Int.tmod (zw (p0.At)) (zn p1.Home))) p0.N)],169⟩) (by simp only [List.length_set]) ?_
   refine rgd (wp_seq (wg [3,4] [1,2,3,4,5] (rn ?_)))
   refine wgc [4] [1,2,3,4] ⟨[(4,.ptr 0 0 0)],[oX false false 3 (.agg [.ref 1 0 p1.Cliques.length,.ref 2 0 p1.Up.length,.ref 3 0 ((List.set p1.Home (zt (Int.tmod (zw (p0.At)) (zn p1.Home))) p0.N).length)]),oR true 1 (AV.int .u64) p1.Cliques,oR true 1 eI p1.Up,oR true 1 eI (List.set p1.Home (zt (Int.tmod (zw (p0.At)) (zn p1.Home))) p0.N)],169⟩ ?_
   refine wp_wk (wk_snapO 0 0 (st':=⟨[(4,.ptr 0 0 0)],[oX false false 3 (.agg [eL true (AV.int .u64) p1.Cliques,z1 p1.Up,z1 (List.set p1.Home (zt (Int.tmod (zw (p0.At)) (zn p1.Home))) p0.N)]),.row false true true true 1 (List.map (AV.int .u64) p1.Cliques),.row false true true true 1 (List.map eI p1.Up),.row false true true true 1 (List.map eI (List.set p1.Home (zt (Int.tmod (zw (p0.At)) (zn p1.Home))) p0.N))],169⟩) (y:=.agg [eL true (AV.int .u64) p1.Cliques,z1 p1.Up,z1 (List.set p1.Home (zt (Int.tmod (zw (p0.At)) (zn p1.Home))) p0.N)]) (ids:=[1,2,3]) rfl rfl rfl (snap_agg (msnap_cons (snap_full (w:=1) (bx:=false) (ro:=false) kr) (msnap_cons (snap_full (w:=1) (bx:=false) (ro:=false) kr) (msnap_cons (snap_full (w:=1) (bx:=false) (ro:=false) kr) msnap_nil (by rfl)) (by rfl)) (by rfl))) kr) ?_
   cases h
   exact wp_ret (show fnOut _ _ _ _=_ from by kernel_rfl)
  refine wp_skip (wp_seq (wg [3,4] [1,2,3,4,5] (rn ?_)))
  refine wgc [4] [1,2,3,4] ⟨[(4,.ptr 0 0 0)],[oX false false 3 (.agg [.ref 1 0 p1.Cliques.length,.ref 2 0 p1.Up.length,.ref 3 0 p1.Home.length]),oR true 1 (AV.int .u64) p1.Cliques,oR true 1 eI p1.Up,oR true 1 eI p1.Home],169⟩ ?_
  refine wp_wk (wk_snapO 0 0 (st':=⟨[(4,.ptr 0 0 0)],[oX false false 3 (.agg [eL true (AV.int .u64) p1.Cliques,z1 p1.Up,z1 p1.Home]),.row false true true true 1 (List.map (AV.int .u64) p1.Cliques),.row false true true true 1 (List.map eI p1.Up),.row false true true true 1 (List.map eI p1.Home)],169⟩) (y:=.agg [eL true (AV.int .u64) p1.Cliques,z1 p1.Up,z1 p1.Home]) (ids:=[1,2,3]) rfl rfl rfl (snap_agg (msnap_cons (snap_full (w:=1) (bx:=false) (ro:=false) kr) (msnap_cons (snap_full (w:=1) (bx:=false) (ro:=false) kr) (msnap_cons (snap_full (w:=1) (bx:=false) (ro:=false) kr) msnap_nil (by rfl)) (by rfl)) (by rfl))) kr) ?_
  cases h
  exact wp_ret (show fnOut _ _ _ _=_ from by kernel_rfl)
 refine wcF (sq ?_)
 refine wb [134,133] h (fun q38 h=>?_) (fun q38 h=>?_)
 ·refine wcT (wp_seq (wg [3,4] [1,2,3,4,5] (rn ?_)))
  refine wb [138] h (fun q40 h=>?_) (fun q40 h=>?_)
  ·refine wcT (reg_in (sz 2 2 ?_))
   refine sliceP (enc:=(AV.int .u64)) (l:=p1.Cliques) (ob:=2) (ro:=false) (nr:=true) (fl:=true) (lo:=(some (vI 1))) (hi:=none) (a:=1) (b:=(zn p1.Cliques)) (w:=1) kr kr rfl rfl gE h (fun q41 h=>?_)
   refine sz 2 5 (reg_end rfl (wp_seq ?_))
   refine wgc [3,4] [0,1,2,3,4] ⟨[(3,.ptr 0 0 0),(4,.ptr 1 0 0)],[oX false false 3 (.agg [.ref 2 1 (zt (zn p1.Cliques) - zt (1:Int)),.ref 3 0 p1.Up.length,.ref 4 0 p1.Home.length]),oX true false 3 (.agg [.nils,.nils,.nils]),oR true 1 (AV.int .u64) p1.Cliques,oR true 1 eI p1.Up,oR true 1 eI p1.Home],169⟩ ?_
   refine rn ?_
   refine wgc [4] [1,2,3,4] ⟨[(4,.ptr 0 0 0)],[oX false false 3 (.agg [.ref 1 1 (zt (zn p1.Cliques) - zt (1:Int)),.ref 2 0 p1.Up.length,.ref 3 0 p1.Home.length]),oR true 1 (AV.int .u64) p1.Cliques,oR true 1 eI p1.Up,oR true 1 eI p1.Home],169⟩ ?_
   refine wp_wk (wk_snapO 0 0 (st':=⟨[(4,.ptr 0 0 0)],[oX false false 3 (.agg [eL true (AV.int .u64) (sub p1.Cliques 1 (zn p1.Cliques)),z1 p1.Up,z1 p1.Home]),.row false true true true 1 (List.map (AV.int .u64) p1.Cliques),.row false true true true 1 (List.map eI p1.Up),.row false true true true 1 (List.map eI p1.Home)],169⟩) (y:=.agg [eL true (AV.int .u64) (sub p1.Cliques 1 (zn p1.Cliques)),z1 p1.Up,z1 p1.Home]) (ids:=[1,2,3]) rfl rfl rfl (snap_agg (msnap_cons (snap_part (a:=1) (b:=(zn p1.Cliques)) (w:=1) (bx:=false) (ro:=false) kr q41) (msnap_cons (snap_full (w:=1) (bx:=false) (ro:=false) kr) (msnap_cons (snap_full (w:=1) (bx:=false) (ro:=false) kr) msnap_nil (by rfl)) (by rfl)) (by rfl))) kr) ?_
   cases h
   exact wp_ret (show fnOut _ _ _ _=_ from by kernel_rfl)
  refine wcF (wp_skip (sq ?_))
  refine wgc [4] [1,2,3,4] ⟨[(4,.ptr 0 0 0)],[oX false false 3 (.agg [.ref 1 0 p1.Cliques.length,.ref 2 0 p1.Up.length,.ref 3 0 p1.Home.length]),oR true 1 (AV.int .u64) p1.Cliques,oR true 1 eI p1.Up,oR true 1 eI p1.Home],169⟩ ?_
  refine wp_wk (wk_snapO 0 0 (st':=⟨[(4,.ptr 0 0 0)],[oX false false 3 (.agg [eL true (AV.int .u64) p1.Cliques,z1 p1.Up,z1 p1.Home]),.row false true true true 1 (List.map (AV.int .u64) p1.Cliques),.row false true true true 1 (List.map eI p1.Up),.row false true true true 1 (List.map eI p1.Home)],169⟩) (y:=.agg [eL true (AV.int .u64) p1.Cliques,z1 p1.Up,z1 p1.Home]) (ids:=[1,2,3]) rfl rfl rfl (snap_agg (msnap_cons (snap_full (w:=1) (bx:=false) (ro:=false) kr) (msnap_cons (snap_full (w:=1) (bx:=false) (ro:=false) kr) (msnap_cons (snap_full (w:=1) (bx:=false) (ro:=false) kr) msnap_nil (by rfl)) (by rfl)) (by rfl))) kr) ?_
  cases h
  exact wp_ret (show fnOut _ _ _ _=_ from by kernel_rfl)
 refine wcF (sq ?_)
 refine wbz h (fun q43 h=>?_) (fun q43 h=>?_)
 ·refine wp_seq (wg [2,3,4] [0,1,2,3,4,5] (reg_in (sz 4 4 ?_)))
  refine sgL false [] [] true gE ?_
  refine appR (enc:=(AV.int .u64)) (l:=p1.Cliques) (m:=([p0.S]:(List Int))) (w:=1) (bytes:=8) (ob:=3) (nr:=true) (fl:=true) (nr':=true) (fl':=true) (b:=.ref 6 0 1) (rds:=[6]) false kr kr kr rfl gE kr h (fun h=>?_)
  refine sz 2 8 (reg_end rfl ?_)
  refine wgc [2,3,4] [0,1,2,7,4,5] ⟨[(2,.ptr 0 0 0),(3,.ptr 1 0 0),(4,.ptr 2 0 0)],[oX true true 4 (.agg [.int .u8 p0.What,.int .u8 p0.At,vI p0.N,.int .u64 p0.S]),oX false false 3 (.agg [.ref 3 0 ((p1.Cliques++([p0.S]:(List Int))).length),.ref 4 0 p1.Up.length,.ref 5 0 p1.Home.length]),oX true false 3 (.agg [.nils,.nils,.nils]),oR true 1 (AV.int .u64) (p1.Cliques++([p0.S]:(List Int))),oR true 1 eI p1.Up,oR true 1 eI p1.Home],169⟩ ?_
  refine reg_in (sz 4 4 ?_)
  refine sgL false [] [] true gE ?_
  refine appR (enc:=eI) (l:=p1.Up) (m:=([p0.N]:(List Int))) (w:=1) (bytes:=8) (ob:=4) (nr:=true) (fl:=true) (nr':=true) (fl':=true) (b:=.ref 6 0 1) (rds:=[6]) false kr kr kr rfl gE kr h (fun h=>?_)
  refine sz 2 8 (reg_end rfl (wp_seq (wg [3,4] [1,2,3,7,5] (rn ?_))))
  refine wgc [4] [1,2,3,4] ⟨[(4,.ptr 0 0 0)],[oX false false 3 (.agg [.ref 1 0 ((p1.Cliques++([p0.S]:(List Int))).length),.ref 2 0 ((p1.Up++([p0.N]:(List Int))).length),.ref 3 0 p1.Home.length]),oR true 1 (AV.int .u64) (p1.Cliques++([p0.S]:(List Int))),oR true 1 eI (p1.Up++([p0.N]:(List Int))),oR true 1 eI p1.Home],169⟩ ?_
  refine wp_wk (wk_snapO 0 0 (st':=⟨[(4,.ptr 0 0 0)],[oX false false 3 (.agg [eL true (AV.int .u64) (p1.Cliques++([p0.S]:(List Int))),z1 (p1.Up++([p0.N]:(List Int))),z1 p1.Home]),.row false true true true 1 (List.map (AV.int .u64) (p1.Cliques++([p0.S]:(List Int)))),.row false true true true 1 (List.map eI (p1.Up++([p0.N]:(List Int)))),.row false true true true 1 (List.map eI p1.Home)],169⟩) (y:=.agg [eL true (AV.int .u64) (p1.Cliques++([p0.S]:(List Int))),z1 (p1.Up++([p0.N]:(List Int))),z1 p1.Home]) (ids:=[1,2,3]) rfl rfl rfl (snap_agg (msnap_cons (snap_full (w:=1) (bx:=false) (ro:=false) kr) (msnap_cons (snap_full (w:=1) (bx:=false) (ro:=false) kr) (msnap_cons (snap_full (w:=1) (bx:=false) (ro:=false) kr) msnap_nil (by rfl)) (by rfl)) (by rfl))) kr) ?_
  cases h
  exact wp_ret (show fnOut _ _ _ _=_ from by kernel_rfl)
 refine wp_seq (wg [2,3,4,8,30] [0,1,2,3,4,5] (rn ?_))
 refine wb [160,159] h (fun q45 h=>?_) (fun q45 h=>?_)
 ·refine wcT (reg_in (sz 4 4 ?_))
  refine sgL false [] [] true gE ?_
  refine appR (enc:=eI) (l:=p1.Home) (m:=([p0.N]:(List Int))) (w:=1) (bytes:=8) (ob:=5) (nr:=true) (fl:=true) (nr':=true) (fl':=true) (b:=.ref 6 0 1) (rds:=[6]) false kr kr kr rfl gE kr h (fun h=>?_)
  refine sz 2 8 (reg_end rfl (wp_seq ?_))
  refine wgc [3,4] [1,2,3,4,7] ⟨[(3,.ptr 0 0 0),(4,.ptr 1 0 0)],[oX false false 3 (.agg [.ref 2 0 p1.Cliques.length,.ref 3 0 p1.Up.length,.ref 4 0 ((p1.Home++([p0.N]:(List Int))).length)]),oX true false 3 (.agg [.nils,.nils,.nils]),oR true 1 (AV.int .u64) p1.Cliques,oR true 1 eI p1.Up,oR true 1 eI (p1.Home++([p0.N]:(List Int)))],169⟩ ?_
  refine rn ?_
  refine wgc [4] [1,2,3,4] ⟨[(4,.ptr 0 0 0)],[oX false false 3 (.agg [.ref 1 0 p1.Cliques.length,.ref 2 0 p1.Up.length,.ref 3 0 ((p1.Home++([p0.N]:(List Int))).length)]),oR true 1 (AV.int .u64) p1.Cliques,oR true 1 eI p1.Up,oR true 1 eI (p1.Home++([p0.N]:(List Int)))],169⟩ ?_
  refine wp_wk (wk_snapO 0 0 (st':=⟨[(4,.ptr 0 0 0)],[oX false false 3 (.agg [eL true (AV.int .u64) p1.Cliques,z1 p1.Up,z1 (p1.Home++([p0.N]:(List Int)))]),.row false true true true 1 (List.map (AV.int .u64) p1.Cliques),.row false true true true 1 (List.map eI p1.Up),.row false true true true 1 (List.map eI (p1.Home++([p0.N]:(List Int))))],169⟩) (y:=.agg [eL true (AV.int .u64) p1.Cliques,z1 p1.Up,z1 (p1.Home++([p0.N]:(List Int)))]) (ids:=[1,2,3]) rfl rfl rfl (snap_agg (msnap_cons (snap_full (w:=1) (bx:=false) (ro:=false) kr) (msnap_cons (snap_full (w:=1) (bx:=false) (ro:=false) kr) (msnap_cons (snap_full (w:=1) (bx:=false) (ro:=false) kr) msnap_nil (by rfl)) (by rfl)) (by rfl))) kr) ?_
  cases h
  exact wp_ret (show fnOut _ _ _ _=_ from by kernel_rfl)
 refine wcF (sq ?_)
 refine wbz h (fun q47 h=>?_) (fun q47 h=>?_)
 ·refine wp_seq ?_
  refine wgc [2,3,4,8] [0,1,2,3,4,5] ⟨[(2,.ptr 0 0 0),(3,.ptr 1 0 0),(4,.ptr 2 0 0),(8,vI (zw (p0.At)))],[oX true true 4 (.agg [.int .u8 p0.What,.int .u8 p0.At,vI p0.N,.int .u64 p0.S]),oX false false 3 (.agg [.ref 3 0 p1.Cliques.length,.ref 4 0 p1.Up.length,.ref 5 0 p1.Home.length]),oX true false 3 (.agg [.nils,.nils,.nils]),oR true 1 (AV.int .u64) p1.Cliques,oR true 1 eI p1.Up,oR true 1 eI p1.Home],169⟩ ?_
  refine reg_in (sz 4 4 ?_)
  refine remR (k:=.i64) (a:=zw (p0.At)) (b:=(zn p1.Cliques)) kr gE h (fun h=>?_)
  refine sz 1 6 (reg_end rfl (wp_seq (wg [2,3,4,9] [0,1,2,3,4,5] (reg_in (sz 3 3 ?_)))))
  refine sgL false [] [] true gE ?_
  refine appR (enc:=eI) (l:=p1.Up) (m:=([Int.tmod (zw (p0.At)) (zn p1.Cliques)]:(List Int))) (w:=1) (bytes:=8) (ob:=4) (nr:=true) (fl:=true) (nr':=true) (fl':=true) (b:=.ref 6 0 1) (rds:=[6]) false kr kr kr rfl gE kr h (fun h=>?_)
  refine sz 2 7 (reg_end rfl ?_)
  refine wgc [2,3,4,9] [0,1,2,3,7,5] ⟨[(2,.ptr 0 0 0),(3,.ptr 1 0 0),(4,.ptr 2 0 0),(9,vI (Int.tmod (zw (p0.At)) (zn p1.Cliques)))],[oX true true 4 (.agg [.int .u8 p0.What,.int .u8 p0.At,vI p0.N,.int .u64 p0.S]),oX false false 3 (.agg [.ref 3 0 p1.Cliques.length,.ref 4 0 ((p1.Up++([Int.tmod (zw (p0.At)) (zn p1.Cliques)]:(List Int))).length),.ref 5 0 p1.Home.length]),oX true false 3 (.agg [.nils,.nils,.nils]),oR true 1 (AV.int .u64) p1.Cliques,oR true 1 eI (p1.Up++([Int.tmod (zw (p0.At)) (zn p1.Cliques)]:(List Int))),oR true 1 eI p1.Home],169⟩ ?_
  refine rga hfol (sy 5 5 ?_)
  refine bind_elim h (fun a48 q49 h=>?_)
  refine idxR' (enc:=(AV.int .u64)) (l:=p1.Cliques) (n:=Int.tmod (zw (p0.At)) (zn p1.Cliques)) (w:=1) (ob:=3) (ro:=false) (nr:=true) (fl:=true) (a:=a48) kr kr gE q49 ?_
  refine loadR (enc:=(AV.int .u64)) (l:=p1.Cliques) (n:=Int.tmod (zw (p0.At)) (zn p1.Cliques)) (w:=1) (ob:=3) (c:=0) (bx:=false) (ro:=false) (nr:=true) (fl:=true) (a:=a48) kr kr q49 gE ?_
  refine sy 3 10 ?_
  refine sgL false [] [] true gE ?_
  refine appR (enc:=(AV.int .u64)) (l:=p1.Cliques) (m:=([zv (BitVec.ofInt (IntKind.bits .u64) a48 &&& BitVec.ofInt (IntKind.bits .u64) p0.S).toNat]:(List Int))) (w:=1) (bytes:=8) (ob:=3) (nr:=true) (fl:=true) (nr':=true) (fl':=true) (b:=.ref 6 0 1) (rds:=[6]) false kr kr kr rfl gE kr h (fun h=>?_)
  refine sy 2 14 (rgd (wp_seq (wg [3,4] [1,2,7,4,5] (rn ?_))))
  refine wgc [4] [1,2,3,4] ⟨[(4,.ptr 0 0 0)],[oX false false 3 (.agg [.ref 1 0 ((p1.Cliques++([zv (BitVec.ofInt (IntKind.bits .u64) a48 &&& BitVec.ofInt (IntKind.bits .u64) p0.S).toNat]:(List Int))).length),.ref 2 0 ((p1.Up++([Int.tmod (zw (p0.At)) (zn p1.Cliques)]:(List Int))).length),.ref 3 0 p1.Home.length]),oR true 1 (AV.int .u64) (p1.Cliques++([zv (BitVec.ofInt (IntKind.bits .u64) a48 &&& BitVec.ofInt (IntKind.bits .u64) p0.S).toNat]:(List Int))),oR true 1 eI (p1.Up++([Int.tmod (zw (p0.At)) (zn p1.Cliques)]:(List Int))),oR true 1 eI p1.Home],169⟩ ?_
  refine wp_wk (wk_snapO 0 0 (st':=⟨[(4,.ptr 0 0 0)],[oX false false 3 (.agg [eL true (AV.int .u64) (p1.Cliques++([zv (BitVec.ofInt (IntKind.bits .u64) a48 &&& BitVec.ofInt (IntKind.bits .u64) p0.S).toNat]:(List Int))),z1 (p1.Up++([Int.tmod (zw (p0.At)) (zn p1.Cliques)]:(List Int))),z1 p1.Home]),.row false true true true 1 (List.map (AV.int .u64) (p1.Cliques++([zv (BitVec.ofInt (IntKind.bits .u64) a48 &&& BitVec.ofInt (IntKind.bits .u64) p0.S).toNat]:(List Int)))),.row false true true true 1 (List.map eI (p1.Up++([Int.tmod (zw (p0.At)) (zn p1.Cliques)]:(List Int)))),.row false true true true 1 (List.map eI p1.Home)],169⟩) (y:=.agg [eL true (AV.int .u64) (p1.Cliques++([zv (BitVec.ofInt (IntKind.bits .u64) a48 &&& BitVec.ofInt (IntKind.bits .u64) p0.S).toNat]:(List Int))),z1 (p1.Up++([Int.tmod (zw (p0.At)) (zn p1.Cliques)]:(List Int))),z1 p1.Home]) (ids:=[1,2,3]) rfl rfl rfl (snap_agg (msnap_cons (snap_full (w:=1) (bx:=false) (ro:=false) kr) (msnap_cons (snap_full (w:=1) (bx:=false) (ro:=false) kr) (msnap_cons (snap_full (w:=1) (bx:=false) (ro:=false) kr) msnap_nil (by rfl)) (by rfl)) (by rfl))) kr) ?_
  cases h
  exact wp_ret (show fnOut _ _ _ _=_ from by kernel_rfl)
 refine wp_skip (wp_seq ?_)
 refine wgc [3,4] [1,2,3,4,5] ⟨[(3,.ptr 0 0 0),(4,.ptr 1 0 0)],[oX false false 3 (.agg [.ref 2 0 p1.Cliques.length,.ref 3 0 p1.Up.length,.ref 4 0 p1.Home.length]),oX true false 3 (.agg [.nils,.nils,.nils]),oR true 1 (AV.int .u64) p1.Cliques,oR true 1 eI p1.Up,oR true 1 eI p1.Home],169⟩ ?_
 refine rn ?_
 refine wgc [4] [1,2,3,4] ⟨[(4,.ptr 0 0 0)],[oX false false 3 (.agg [.ref 1 0 p1.Cliques.length,.ref 2 0 p1.Up.length,.ref 3 0 p1.Home.length]),oR true 1 (AV.int .u64) p1.Cliques,oR true 1 eI p1.Up,oR true 1 eI p1.Home],169⟩ ?_
 refine wp_wk (wk_snapO 0 0 (st':=⟨[(4,.ptr 0 0 0)],[oX false false 3 (.agg [eL true (AV.int .u64) p1.Cliques,z1 p1.Up,z1 p1.Home]),.row false true true true 1 (List.map (AV.int .u64) p1.Cliques),.row false true true true 1 (List.map eI p1.Up),.row false true true true 1 (List.map eI p1.Home)],169⟩) (y:=.agg [eL true (AV.int .u64) p1.Cliques,z1 p1.Up,z1 p1.Home]) (ids:=[1,2,3]) rfl rfl rfl (snap_agg (msnap_cons (snap_full (w:=1) (bx:=false) (ro:=false) kr) (msnap_cons (snap_full (w:=1) (bx:=false) (ro:=false) kr) (msnap_cons (snap_full (w:=1) (bx:=false) (ro:=false) kr) msnap_nil (by rfl)) (by rfl)) (by rfl))) kr) ?_
 cases h
 exact wp_ret (show fnOut _ _ _ _=_ from by kernel_rfl)
noncomputable abbrev s31_5  : List (Nat × AV):=[(0,.ptr 0 0 0),(2,.ref 1 0 2),(3,.ref 2 0 2),(4,.ref 3 0 (([[1,1],[2,0]]:(List (List Int))).length)),(1,.ref 3 0 (([[1,1],[2,0]]:(List (List Int))).length)),(5,.ref 3 0 (([[1,1],[2,0]]:(List (List Int))).length)),(6,.ref 3 0 1),(7,.agg [vI 2,.nils,.ref 3 0 1])]++[(8,.ref 4 0 1),(9,.ref 3 0 (([[1,1],[2,0]]:(List (List Int))).length)),(10,.agg [vI 2,.ref 4 0 1,.ref 3 0 (([[1,1],[2,0]]:(List (List Int))).length)]),(11,.ref 5 0 1),(12,.ref 3 0 (([[1,1],[2,0]]:(List (List Int))).length)),(13,.agg [vI 2,.ref 5 0 1,.ref 3 0 (([[1,1],[2,0]]:(List (List Int))).length)])]
noncomputable abbrev s31_7  : List AObj:=[oX true false 2 (.agg [vI 0,.nils]),.row false true true true 1 [vI 1,vI 1],.row false true true true 1 [vI 2,vI 0],oR false 1 z1 ([[1,1],[2,0]]:(List (List Int))),.row false false true true 1 [vI 0],.row false false true true 1 [vI 0],.row false false true true 1 [vI 1,vI 2],.row false true true true 1 [vI 1,vI 1],.row false true true true 1 [vI 2,vI 0],.row false true true true 1 [vI 0,vI 2],.row false true true true 1 [vI 1,vI 1],.row false false true false 1 [.lst true [vI 1,vI 1],.lst true [vI 2,vI 0],.lst true [vI 0,vI 2],.lst true [vI 1,vI 1]]]
noncomputable abbrev o31_28:AV:=.agg [vI 2,.lst true [vI 0],z2 ([[1,1],[2,0]]:(List (List Int)))]
noncomputable abbrev o31_29:AV:=.agg [vI 2,.lst true [vI 1,vI 2],.lst false [.lst true [vI 1,vI 1],.lst true [vI 2,vI 0],.lst true [vI 0,vI 2],.lst true [vI 1,vI 1]]]
noncomputable abbrev o31_30:AV:=.agg [vI 2,.nils,z2 (sub ([[1,1],[2,0]]:(List (List Int))) 0 1)]
theorem g_law10_Diamond_ok  (x:Tapi_Net) (h:g_law10_Diamond=some x):CallOk Tryd.prog 31 [] (.ret (.agg [vI x.Grain,.ref 0 0 x.Nodes.length]) [oR false 3 eTapi_Node x.Nodes]):=by
 refine fn_ok [] Tryd.func31 rfl (by decide +kernel) rfl ?_
 unfold g_law10_Diamond at h
 refine wp_eqB (base':=0) (st':=⟨[],[],23⟩) kr kr ?_
 refine wp_seq (reg_in ?_)
 refine sgL false [] [] false gE ?_
 refine reg_end rfl (wp_seq (reg_in ?_))
 refine sgL false [] [] true gE ?_
 refine sgL (S:=⟨[(0,.ptr 0 0 0),(2,.ref 1 0 2),(3,.ref 2 0 2)],[oX true false 2 (.agg [vI 0,.nils]),.row false false true true 1 [vI 1,vI 1],.row false false true true 1 [vI 2,vI 0]],23⟩) false [] [] true kr ?_
 refine bsR (parts:=[(0,.lst true [vI 1,vI 1]),(1,.lst true [vI 2,vI 0])]) (ids:=[1,2]) (es:=[(1,.row false true true true 1 [vI 1,vI 1]),(2,.row false true true true 1 [vI 2,vI 0]),(3,.row false false true (List.all [.lst true [vI 1,vI 1],.lst true [vI 2,vI 0]] AV.scs) 1 [.lst true [vI 1,vI 1],.lst true [vI 2,vI 0]])]) (S:=⟨[(0,.ptr 0 0 0),(2,.ref 1 0 2),(3,.ref 2 0 2),(4,.ref 3 0 2)],[oX true false 2 (.agg [vI 0,.nils]),.row false true true true 1 [vI 1,vI 1],.row false true true true 1 [vI 2,vI 0],.row false false true false 1 [.lst true [vI 1,vI 1],.lst true [vI 2,vI 0]]],23⟩) [.lst true] false rfl (sparts_snap rfl (show snap _ _ _=some (_,[1]) from kr) (sparts_snap rfl (show snap _ _ _=some (_,[2]) from kr) sparts_nil (by rfl)) (by rfl)) kr ?_
 refine sz 1 4 (reg_end rfl (wp_seq (reg_in (sz 1 1 ?_))))
 refine sliceP (enc:=z1) (l:=([[1,1],[2,0]]:(List (List Int)))) (ob:=3) (ro:=false) (nr:=true) (fl:=false) (lo:=none) (hi:=(some (vI 1))) (a:=0) (b:=1) (w:=1) kr kr rfl rfl gE h (fun q1 h=>?_)
 refine sz 1 3 ?_
 refine sgL false [] [] true gE ?_
 refine sz 2 6 ?_
 refine sgL false [] [] true gE ?_
 refine sz 2 9 ?_
 refine sgL false [] [] true gE ?_
 refine sgL false [] [] true gE ?_
 refine sgL false [] [] true gE ?_
 refine sgL false [] [] true gE ?_
 refine sgL (S:=⟨s31_5++[(14,.ref 6 0 2),(15,.ref 7 0 2),(16,.ref 8 0 2),(17,.ref 9 0 2),(18,.ref 10 0 2)],[oX true false 2 (.agg [vI 0,.nils]),.row false true true true 1 [vI 1,vI 1],.row false true true true 1 [vI 2,vI 0],oR false 1 z1 ([[1,1],[2,0]]:(List (List Int))),.row false false true true 1 [vI 0],.row false false true true 1 [vI 0],.row false false true true 1 [vI 1,vI 2],.row false false true true 1 [vI 1,vI 1],.row false false true true 1 [vI 2,vI 0],.row false false true true 1 [vI 0,vI 2],.row false false true true 1 [vI 1,vI 1]],23⟩) false [] [] true kr ?_
 refine bsR (parts:=[(0,.lst true [vI 1,vI 1]),(1,.lst true [vI 2,vI 0]),(2,.lst true [vI 0,vI 2]),(3,.lst true [vI 1,vI 1])]) (ids:=[7,8,9,10]) (es:=[(7,.row false true true true 1 [vI 1,vI 1]),(8,.row false true true true 1 [vI 2,vI 0]),(9,.row false true true true 1 [vI 0,vI 2]),(10,.row false true true true 1 [vI 1,vI 1]),(11,.row false false true (List.all [.lst true [vI 1,vI 1],.lst true [vI 2,vI 0],.lst true [vI 0,vI 2],.lst true [vI 1,vI 1]] AV.scs) 1 [.lst true [vI 1,vI 1],.lst true [vI 2,vI 0],.lst true [vI 0,vI 2],.lst true [vI 1,vI 1]])]) (S:=⟨s31_5++[(14,.ref 6 0 2),(15,.ref 7 0 2),(16,.ref 8 0 2),(17,.ref 9 0 2),(18,.ref 10 0 2),(19,.ref 11 0 4)],s31_7,23⟩) [.lst true] false rfl (sparts_snap rfl (show snap _ _ _=some (_,[7]) from kr) (sparts_snap rfl (show snap _ _ _=some (_,[8]) from kr) (sparts_snap rfl (show snap _ _ _=some (_,[9]) from kr) (sparts_snap rfl (show snap _ _ _=some (_,[10]) from kr) sparts_nil (by rfl)) (by rfl)) (by rfl)) (by rfl)) kr ?_
 refine sgz 1 16 (S:=⟨s31_5++[(14,.ref 6 0 2),(15,.ref 7 0 2),(16,.ref 8 0 2),(17,.ref 9 0 2),(18,.ref 10 0 2),(19,.ref 11 0 4),(20,.agg [vI 2,.ref 6 0 2,.ref 11 0 4])],s31_7,23⟩) ?_
 refine bsR (parts:=[(0,o31_30),(1,o31_28),(2,o31_28),(3,o31_29)]) (ids:=[3,4,3,5,3,6,11]) (es:=[(3,.row false true true false 1 (List.map z1 ([[1,1],[2,0]]:(List (List Int))))),(4,.row false true true true 1 [vI 0]),(3,.row false true true false 1 (List.map z1 ([[1,1],[2,0]]:(List (List Int))))),(5,.row false true true true 1 [vI 0]),(3,.row false true true false 1 (List.map z1 ([[1,1],[2,0]]:(List (List Int))))),(6,.row false true true true 1 [vI 1,vI 2]),(11,.row false true true false 1 [.lst true [vI 1,vI 1],.lst true [vI 2,vI 0],.lst true [vI 0,vI 2],.lst true [vI 1,vI 1]]),(12,.row false false true (List.all [o31_30,o31_28,o31_28,o31_29] AV.scs) 3 [o31_30,o31_28,o31_28,o31_29])]) (S:=⟨s31_5++[(14,.ref 6 0 2),(15,.ref 7 0 2),(16,.ref 8 0 2),(17,.ref 9 0 2),(18,.ref 10 0 2),(19,.ref 11 0 4),(20,.agg [vI 2,.ref 6 0 2,.ref 11 0 4]),(21,.ref 12 0 4)],[oX true false 2 (.agg [vI 0,.nils]),.row false true true true 1 [vI 1,vI 1],.row false true true true 1 [vI 2,vI 0],.row false true true false 1 (List.map z1 ([[1,1],[2,0]]:(List (List Int)))),.row false true true true 1 [vI 0],.row false true true true 1 [vI 0],.row false true true true 1 [vI 1,vI 2],.row false true true true 1 [vI 1,vI 1],.row false true true true 1 [vI 2,vI 0],.row false true true true 1 [vI 0,vI 2],.row false true true true 1 [vI 1,vI 1],.row false true true false 1 [.lst true [vI 1,vI 1],.lst true [vI 2,vI 0],.lst true [vI 0,vI 2],.lst true [vI 1,vI 1]],.row false false true false 3 [.agg [vI 2,.lst true [],z2 (sub ([[1,1],[2,0]]:(List (List Int))) 0 1)],o31_28,o31_28,o31_29]],23⟩) [.keep,.lst true,.lst false] false rfl (sparts_snap rfl (snap_agg (msnap_cons rfl (msnap_cons rfl (msnap_cons (snap_part (a:=0) (b:=1) (w:=1) (bx:=false) (ro:=false) kr q1) msnap_nil (by rfl)) (by rfl)) (by rfl))) (sparts_snap rfl (snap_agg (msnap_cons rfl (msnap_cons (show snap _ _ _=some (_,[4]) from kr) (msnap_cons (snap_full (w:=1) (bx:=false) (ro:=false) kr) msnap_nil (by rfl)) (by rfl)) (by rfl))) (sparts_snap rfl (snap_agg (msnap_cons rfl (msnap_cons (show snap _ _ _=some (_,[5]) from kr) (msnap_cons (snap_full (w:=1) (bx:=false) (ro:=false) kr) msnap_nil (by rfl)) (by rfl)) (by rfl))) (sparts_snap rfl (snap_agg (msnap_cons rfl (msnap_cons (show snap _ _ _=some (_,[6]) from kr) (msnap_cons (show snap _ _ _=some (_,[11]) from kr) msnap_nil (by rfl)) (by rfl)) (by rfl))) sparts_nil (by rfl)) (by rfl)) (by rfl)) (by rfl)) kr ?_
 refine sz 2 19 (reg_end rfl (wg [0] [0,12] ?_))
 cases h
 exact wp_ret (show fnOut _ _ _ _=_ from by kernel_rfl)
end Go.Ab
