/- What functions compute. No conditions. -/
import Derived.Test.YtcbhkobklhkiiaaDoorProg
import Derived.Test.YtcbhkobklhkiiaaDoorW8
import Derived.KernelRfl
import Derived.Test.YtcbhkobklhkiiaaDoorW9
import Derived.Test.YtcbhkobklhkiiaaDoorW10
import Derived.Test.YtcbhkobklhkiiaaDoorW12
import Derived.Test.YtcbhkobklhkiiaaDoorRows
import Derived.Test.YtcbhkobklhkiiaaDoorEng6
import Derived.WalkKit
import Derived.ProofKit
import Derived.LaidMore
import Derived.Lib.LaidTab
import Derived.Stop.LaidErr
import Derived.Stop.Joined
import Derived.OpenShut
set_option linter.all false
namespace Go.Ab
open Go Go.Proofs
set_option maxRecDepth 100000
set_option maxHeartbeats 4000000
noncomputable abbrev s8_9 (x9:(Tapi_Tree × Int)) (x11:(Tapi_Tree × Int)) (x13:(Int × Int)):List (Nat × AV):=[(1,.ptr 0 0 0),(3,.ptr 1 0 0),(4,vI x9.2),(5,.ptr 2 0 0),(6,vI x11.2),(7,vI x13.1),(8,vI x13.2)]
noncomputable abbrev s8_27 (x9:(Tapi_Tree × Int)) (x11:(Tapi_Tree × Int)) (x13:(Int × Int)) (x15:(Tapi_Tree × Int)) (x17:(Tapi_Tree × Int)) (x19:(Tapi_Tree × Int)) (x23:(Int × Int)) (x27:(Int × Int)) (x29:(Tapi_Tree × Int)) (x31:(Tapi_Tree × Int)):List (Nat × AV):=[(1,.ptr 0 0 0),(3,.ptr 1 0 0),(4,vI x9.2),(5,.ptr 2 0 0),(6,vI x11.2),(7,vI x13.1),(8,vI x13.2),(10,vI x15.2),(12,vI x17.2),(14,vI x19.2),(16,vI x23.2),(18,vI x27.2),(20,vI x29.2),(22,vI x31.2)]
noncomputable abbrev s8_31 (x9:(Tapi_Tree × Int)) (x11:(Tapi_Tree × Int)) (x13:(Int × Int)) (x15:(Tapi_Tree × Int)) (x17:(Tapi_Tree × Int)) (x19:(Tapi_Tree × Int)) (x23:(Int × Int)) (x27:(Int × Int)) (x29:(Tapi_Tree × Int)) (x31:(Tapi_Tree × Int)) (s33:Int):List (Nat × AV):=[(1,.ptr 0 0 0),(3,.ptr 1 0 0),(4,vI x9.2),(5,.ptr 2 0 0),(6,vI x11.2),(7,vI x13.1),(8,vI x13.2),(10,vI x15.2),(12,vI x17.2),(14,vI x19.2),(16,vI x23.2),(18,vI x27.2),(20,vI x29.2),(22,vI x31.2),(108,.ref 3 0 (([(Tharuspexref10_Bend.mk 0 0 0 0),(Tharuspexref10_Bend.mk 0 0 0 14),(Tharuspexref10_Bend.mk 2 0 0 0),(Tharuspexref10_Bend.mk 2 1 1 0),(Tharuspexref10_Bend.mk 2 1 (-1) 0),(Tharuspexref10_Bend.mk 3 0 0 0),(Tharuspexref10_Bend.mk 3 0 2 0),(Tharuspexref10_Bend.mk 4 0 0 0),(Tharuspexref10_Bend.mk 5 0 0 1),(Tharuspexref10_Bend.mk 6 0 0 0),(Tharuspexref10_Bend.mk 7 0 0 0)]:(List Tharuspexref10_Bend)).length)),(109,vI 11),(110,vI s33)]
noncomputable abbrev s8_49 (x9:(Tapi_Tree × Int)) (x11:(Tapi_Tree × Int)) (x13:(Int × Int)) (x15:(Tapi_Tree × Int)) (x17:(Tapi_Tree × Int)) (x19:(Tapi_Tree × Int)) (x23:(Int × Int)) (x27:(Int × Int)) (x29:(Tapi_Tree × Int)) (x31:(Tapi_Tree × Int)) (s53:(Int × (List Tapi_Node))):List (Nat × AV):=[(1,.ptr 0 0 0),(3,.ptr 1 0 0),(4,vI x9.2),(5,.ptr 2 0 0),(6,vI x11.2),(7,vI x13.1),(8,vI x13.2),(10,vI x15.2),(12,vI x17.2),(14,vI x19.2),(16,vI x23.2),(18,vI x27.2),(20,vI x29.2),(22,vI x31.2),(25,.ptr 3 0 0),(26,.ptr 4 0 0),(128,.ref 5 0 (([[],[],[0,1],[0],[1]]:(List (List Int))).length)),(129,vI 5),(130,vI s53.1)]
noncomputable abbrev s8_69 (x9:(Tapi_Tree × Int)) (x11:(Tapi_Tree × Int)) (x13:(Int × Int)) (x15:(Tapi_Tree × Int)) (x17:(Tapi_Tree × Int)) (x19:(Tapi_Tree × Int)) (x23:(Int × Int)) (x27:(Int × Int)) (x29:(Tapi_Tree × Int)) (x31:(Tapi_Tree × Int)) (x60:(Tapi_Tree × Int)):List (Nat × AV):=[(1,.ptr 0 0 0),(3,.ptr 1 0 0),(4,vI x9.2),(5,.ptr 2 0 0),(6,vI x11.2),(7,vI x13.1),(8,vI x13.2),(10,vI x15.2),(12,vI x17.2),(14,vI x19.2),(16,vI x23.2),(18,vI x27.2),(20,vI x29.2),(22,vI x31.2),(25,.ptr 3 0 0),(29,.ptr 4 0 0),(30,vI x60.2)]
noncomputable abbrev s8_140 (x9:(Tapi_Tree × Int)) (x11:(Tapi_Tree × Int)) (x13:(Int × Int)) (x60:(Tapi_Tree × Int)) (x62:(Tapi_Tree × Int)):List (Nat × AV):=[(1,.ptr 0 0 0),(3,.ptr 1 0 0),(4,vI x9.2),(5,.ptr 2 0 0),(6,vI x11.2),(7,vI x13.1),(8,vI x13.2),(25,.ptr 3 0 0),(29,.ptr 4 0 0),(30,vI x60.2),(32,.ptr 5 0 0),(33,vI x62.2),(34,vB false)]
noncomputable abbrev o8_31 (x11:(Tapi_Tree × Int)):AObj:=oX false false 3 (.agg [.ref 10 0 x11.1.Cliques.length,.ref 11 0 x11.1.Up.length,.ref 12 0 x11.1.Home.length])
noncomputable abbrev o8_32 (x9:(Tapi_Tree × Int)):AObj:=oX false false 3 (.agg [.ref 7 0 x9.1.Cliques.length,.ref 8 0 x9.1.Up.length,.ref 9 0 x9.1.Home.length])
noncomputable abbrev o8_33 (x60:(Tapi_Tree × Int)):AObj:=oX false false 3 (.agg [.ref 13 0 x60.1.Cliques.length,.ref 14 0 x60.1.Up.length,.ref 15 0 x60.1.Home.length])
noncomputable abbrev o8_34 (x62:(Tapi_Tree × Int)):AObj:=oX false false 3 (.agg [.ref 16 0 x62.1.Cliques.length,.ref 17 0 x62.1.Up.length,.ref 18 0 x62.1.Home.length])
noncomputable abbrev o8_35 (x11:(Tapi_Tree × Int)):AObj:=oX false false 3 (.agg [.ref 9 0 x11.1.Cliques.length,.ref 10 0 x11.1.Up.length,.ref 11 0 x11.1.Home.length])
noncomputable abbrev o8_36 (x9:(Tapi_Tree × Int)):AObj:=oX false false 3 (.agg [.ref 6 0 x9.1.Cliques.length,.ref 7 0 x9.1.Up.length,.ref 8 0 x9.1.Home.length])
noncomputable abbrev o8_37 (x11:(Tapi_Tree × Int)):AObj:=oX false false 3 (.agg [.ref 7 0 x11.1.Cliques.length,.ref 8 0 x11.1.Up.length,.ref 9 0 x11.1.Home.length])
noncomputable abbrev o8_38 (x9:(Tapi_Tree × Int)):AObj:=oX false false 3 (.agg [.ref 4 0 x9.1.Cliques.length,.ref 5 0 x9.1.Up.length,.ref 6 0 x9.1.Home.length])
noncomputable abbrev o8_39 (x60:(Tapi_Tree × Int)):AObj:=oX false false 3 (.agg [.ref 12 0 x60.1.Cliques.length,.ref 13 0 x60.1.Up.length,.ref 14 0 x60.1.Home.length])
noncomputable abbrev o8_40 (x62:(Tapi_Tree × Int)):AObj:=oX false false 3 (.agg [.ref 12 0 x62.1.Cliques.length,.ref 13 0 x62.1.Up.length,.ref 14 0 x62.1.Home.length])
noncomputable abbrev o8_41 (s53:(Int × (List Tapi_Node))):AObj:=oX false false 2 (.agg [vI 1,.ref 13 0 s53.2.length])
noncomputable abbrev o8_42:AV:=.agg [vI 1,.nils,.lst false [.lst true [vI 1]]]
theorem g_law10_TreeKnown_ok  (x:Bool) (h:g_law10_TreeKnown=some x):CallOk Tryd.prog 8 [] (.ret (vB x) []):=by
 refine fn_ok [] Tryd.func8 rfl (by decide +kernel) rfl ?_
 unfold g_law10_TreeKnown at h
 refine wp_eqB (base':=0) (st':=⟨[],[],265⟩) kr kr ?_
 refine sq (wp_seq (wp_seq (reg_in ?_)))
 refine callW bodyB_10 (g_law10_wakes_ok ) h (fun x1 _ h=>?_)
 refine sz 1 2 (reg_end rfl ?_)
 refine wb [36] h (fun q4 h=>?_) (fun q4 h=>?_)
 ·refine wcT (sq (wg [0] [] ?_))
  cases h
  exact wp_ret (show fnOut _ _ _ _=_ from by kernel_rfl)
 refine wcF (wp_skip (wp_seq (reg_in ?_)))
 refine callW bodyB_30 (g_law09_Sample_ok ) h (fun x5 _ h=>?_)
 refine callW bodyB_31 (g_law10_Diamond_ok ) h (fun x7 _ h=>?_)
 refine sgL false [] [] false gE ?_
 refine sgL false [] [] false gE ?_
 refine sz 2 6 (reg_end rfl (wp_seq ?_))
 refine wgc [1,2] [2,3,0,1] ⟨[(1,.ptr 0 0 0),(2,.ptr 1 0 0)],[oX false false 2 (.agg [vI x5.Grain,.ref 2 0 x5.Nodes.length]),oX false false 2 (.agg [vI x7.Grain,.ref 3 0 x7.Nodes.length]),oR false 3 eTapi_Node x5.Nodes,oR false 3 eTapi_Node x7.Nodes],265⟩ ?_
 refine reg_in (sz 1 1 ?_)
 refine sgL false [] [] true gE ?_
 refine callR (as0:=[.agg [vI x5.Grain,.ref 2 0 x5.Nodes.length],.ref 4 0 3]) (ids:=[2,4]) kr bodyB_22 (msnap_cons (snap_agg (msnap_cons rfl (msnap_cons (snap_full (w:=3) (bx:=false) (ro:=false) kr) msnap_nil (by rfl)) (by rfl))) (msnap_cons (show snap _ _ _=some (_,[4]) from kr) msnap_nil (by rfl)) (by rfl)) (fun x9 q10=>g_tree_Make_ok x5 [1,0,2] x9 q10) gF h (fun x9 q10 h=>?_)
 refine sz 3 6 ?_
 refine sgL false [] [] false gE ?_
 refine sz 2 9 (reg_end rfl (wp_seq (wg [1,2,3,4] [0,1,8,2,3,5,6,7] (reg_in (sz 1 1 ?_)))))
 refine sgL false [] [] true gE ?_
 refine callR (as0:=[.agg [vI x7.Grain,.ref 4 0 x7.Nodes.length],.ref 8 0 4]) (ids:=[4,8]) kr bodyB_22 (msnap_cons (snap_agg (msnap_cons rfl (msnap_cons (snap_full (w:=3) (bx:=false) (ro:=false) kr) msnap_nil (by rfl)) (by rfl))) (msnap_cons (show snap _ _ _=some (_,[8]) from kr) msnap_nil (by rfl)) (by rfl)) (fun x11 q12=>g_tree_Make_ok x7 [0,1,2,3] x11 q12) gF h (fun x11 q12 h=>?_)
 refine sz 3 6 ?_
 refine sgL false [] [] false gE ?_
 refine sz 2 9 (reg_end rfl (wp_seq ?_))
 refine wgc [1,2,3,4,5,6] [0,1,2,12,3,4,5,6,7,9,10,11] ⟨[(1,.ptr 0 0 0),(2,.ptr 1 0 0),(3,.ptr 2 0 0),(4,vI x9.2),(5,.ptr 3 0 0),(6,vI x11.2)],[oX false false 2 (.agg [vI x5.Grain,.ref 4 0 x5.Nodes.length]),oX false false 2 (.agg [vI x7.Grain,.ref 5 0 x7.Nodes.length]),(o8_36 x9),(o8_35 x11),oR false 3 eTapi_Node x5.Nodes,oR false 3 eTapi_Node x7.Nodes,oR true 1 (AV.int .u64) x9.1.Cliques,oR true 1 eI x9.1.Up,oR true 1 eI x9.1.Home,oR true 1 (AV.int .u64) x11.1.Cliques,oR true 1 eI x11.1.Up,oR true 1 eI x11.1.Home],265⟩ ?_
 refine reg_in (sz 2 2 ?_)
 refine callR (as0:=[.agg [vI x7.Grain,.ref 5 0 x7.Nodes.length],.agg [.ref 9 0 x11.1.Cliques.length,.ref 10 0 x11.1.Up.length,.ref 11 0 x11.1.Home.length]]) (ids:=[5,9,10,11]) kr bodyB_18 (msnap_cons (snap_agg (msnap_cons rfl (msnap_cons (snap_full (w:=3) (bx:=false) (ro:=false) kr) msnap_nil (by rfl)) (by rfl))) (msnap_cons (snap_agg (msnap_cons (snap_full (w:=1) (bx:=false) (ro:=false) kr) (msnap_cons (snap_full (w:=1) (bx:=false) (ro:=false) kr) (msnap_cons (snap_full (w:=1) (bx:=false) (ro:=false) kr) msnap_nil (by rfl)) (by rfl)) (by rfl))) msnap_nil (by rfl)) (by rfl)) (fun x13 q14=>g_tree_Width_ok x7 x11.1 x13 q14) gF h (fun x13 q14 h=>?_)
 refine sz 5 8 (reg_end rfl (wp_seq (wg [1,3,4,5,6,7,8] [0,2,3,4,6,7,8,9,10,11] (reg_in (sz 1 1 ?_)))))
 refine sgL false [] [] true gE ?_
 refine callR (as0:=[.agg [vI x5.Grain,.ref 3 0 x5.Nodes.length],.ref 10 0 3]) (ids:=[3,10]) kr bodyB_22 (msnap_cons (snap_agg (msnap_cons rfl (msnap_cons (snap_full (w:=3) (bx:=false) (ro:=false) kr) msnap_nil (by rfl)) (by rfl))) (msnap_cons (show snap _ _ _=some (_,[10]) from kr) msnap_nil (by rfl)) (by rfl)) (fun x15 q16=>g_tree_Make_ok x5 [0,1,1] x15 q16) gF h (fun x15 q16 h=>?_)
 refine sz 3 6 ?_
 refine sgL false [] [] false gE ?_
 refine sz 2 9 (reg_end rfl (wp_seq ?_))
 refine wgc [1,3,4,5,6,7,8,10] [0,1,2,3,4,5,6,7,8,9] ⟨[(1,.ptr 0 0 0),(3,.ptr 1 0 0),(4,vI x9.2),(5,.ptr 2 0 0),(6,vI x11.2),(7,vI x13.1),(8,vI x13.2),(10,vI x15.2)],[oX false false 2 (.agg [vI x5.Grain,.ref 3 0 x5.Nodes.length]),(o8_38 x9),(o8_37 x11),oR false 3 eTapi_Node x5.Nodes,oR true 1 (AV.int .u64) x9.1.Cliques,oR true 1 eI x9.1.Up,oR true 1 eI x9.1.Home,oR true 1 (AV.int .u64) x11.1.Cliques,oR true 1 eI x11.1.Up,oR true 1 eI x11.1.Home],265⟩ ?_
 refine reg_in (sz 1 1 ?_)
 refine sgL false [] [] true gE ?_
 refine callR (as0:=[.agg [vI x5.Grain,.ref 3 0 x5.Nodes.length],.ref 10 0 2]) (ids:=[3,10]) kr bodyB_22 (msnap_cons (snap_agg (msnap_cons rfl (msnap_cons (snap_full (w:=3) (bx:=false) (ro:=false) kr) msnap_nil (by rfl)) (by rfl))) (msnap_cons (show snap _ _ _=some (_,[10]) from kr) msnap_nil (by rfl)) (by rfl)) (fun x17 q18=>g_tree_Make_ok x5 [0,1] x17 q18) gF h (fun x17 q18 h=>?_)
 refine sz 3 6 ?_
 refine sgL false [] [] false gE ?_
 refine sz 2 9 (reg_end rfl (wp_seq (wg [1,3,4,5,6,7,8,10,12] [0,1,2,3,4,5,6,7,8,9] (reg_in (sz 1 1 ?_)))))
 refine sgL false [] [] true gE ?_
 refine callR (as0:=[.agg [vI x5.Grain,.ref 3 0 x5.Nodes.length],.ref 10 0 3]) (ids:=[3,10]) kr bodyB_22 (msnap_cons (snap_agg (msnap_cons rfl (msnap_cons (snap_full (w:=3) (bx:=false) (ro:=false) kr) msnap_nil (by rfl)) (by rfl))) (msnap_cons (show snap _ _ _=some (_,[10]) from kr) msnap_nil (by rfl)) (by rfl)) (fun x19 q20=>g_tree_Make_ok x5 [0,1,3] x19 q20) gF h (fun x19 q20 h=>?_)
 refine sz 3 6 ?_
 refine sgL false [] [] false gE ?_
 refine sz 2 9 (reg_end rfl (wp_seq ?_))
 refine wgc [1,3,4,5,6,7,8,10,12,14] [0,1,2,3,4,5,6,7,8,9] ⟨[(1,.ptr 0 0 0),(3,.ptr 1 0 0),(4,vI x9.2),(5,.ptr 2 0 0),(6,vI x11.2),(7,vI x13.1),(8,vI x13.2),(10,vI x15.2),(12,vI x17.2),(14,vI x19.2)],[oX false false 2 (.agg [vI x5.Grain,.ref 3 0 x5.Nodes.length]),(o8_38 x9),(o8_37 x11),oR false 3 eTapi_Node x5.Nodes,oR true 1 (AV.int .u64) x9.1.Cliques,oR true 1 eI x9.1.Up,oR true 1 eI x9.1.Home,oR true 1 (AV.int .u64) x11.1.Cliques,oR true 1 eI x11.1.Up,oR true 1 eI x11.1.Home],265⟩ ?_
 refine rga hfol (sy 1 1 ?_)
 refine callW bodyB_32 (fun x21 q22=>CallOk.froz (g_law10_Sample_ok  x21 q22) (snap_agg (msnap_cons (snap_full (w:=1) (bx:=false) (ro:=false) rfl) (msnap_cons (snap_full (w:=1) (bx:=false) (ro:=false) rfl) (msnap_cons (snap_full (w:=1) (bx:=false) (ro:=false) rfl) msnap_nil (by rfl)) (by rfl)) (by rfl)))) h (fun x21 q22 h=>?_)
 refine callR (as0:=[.agg [vI x5.Grain,.ref 3 0 x5.Nodes.length],.agg [eL true (AV.int .u64) x21.Cliques,z1 x21.Up,z1 x21.Home],vI 0]) (ids:=[3]) kr bodyB_21 (msnap_cons (snap_agg (msnap_cons rfl (msnap_cons (snap_full (w:=3) (bx:=false) (ro:=false) kr) msnap_nil (by rfl)) (by rfl))) (msnap_cons (snap_agg (msnap_cons rfl (msnap_cons rfl (msnap_cons rfl msnap_nil (by rfl)) (by rfl)) (by rfl))) (msnap_cons rfl msnap_nil (by rfl)) (by rfl)) (by rfl)) (fun x23 q24=>g_tree_Separator_ok x5 x21 0 x23 q24) gF h (fun x23 q24 h=>?_)
 refine sy 5 8 (rgd (wp_seq (wg [1,3,4,5,6,7,8,10,12,14,16] [0,1,2,3,4,5,6,7,8,9] (rga hfol (sy 1 1 ?_)))))
 refine callW bodyB_32 (fun x25 q26=>CallOk.froz (g_law10_Sample_ok  x25 q26) (snap_agg (msnap_cons (snap_full (w:=1) (bx:=false) (ro:=false) rfl) (msnap_cons (snap_full (w:=1) (bx:=false) (ro:=false) rfl) (msnap_cons (snap_full (w:=1) (bx:=false) (ro:=false) rfl) msnap_nil (by rfl)) (by rfl)) (by rfl)))) h (fun x25 q26 h=>?_)
 refine callR (as0:=[.agg [vI x5.Grain,.ref 3 0 x5.Nodes.length],.agg [eL true (AV.int .u64) x25.Cliques,z1 x25.Up,z1 x25.Home],vI 2]) (ids:=[3]) kr bodyB_21 (msnap_cons (snap_agg (msnap_cons rfl (msnap_cons (snap_full (w:=3) (bx:=false) (ro:=false) kr) msnap_nil (by rfl)) (by rfl))) (msnap_cons (snap_agg (msnap_cons rfl (msnap_cons rfl (msnap_cons rfl msnap_nil (by rfl)) (by rfl)) (by rfl))) (msnap_cons rfl msnap_nil (by rfl)) (by rfl)) (by rfl)) (fun x27 q28=>g_tree_Separator_ok x5 x25 2 x27 q28) gF h (fun x27 q28 h=>?_)
 refine sy 5 8 (rgd (wp_seq ?_))
 refine wgc [1,3,4,5,6,7,8,10,12,14,16,18] [0,1,2,3,4,5,6,7,8,9] ⟨[(1,.ptr 0 0 0),(3,.ptr 1 0 0),(4,vI x9.2),(5,.ptr 2 0 0),(6,vI x11.2),(7,vI x13.1),(8,vI x13.2),(10,vI x15.2),(12,vI x17.2),(14,vI x19.2),(16,vI x23.2),(18,vI x27.2)],[oX false false 2 (.agg [vI x5.Grain,.ref 3 0 x5.Nodes.length]),(o8_38 x9),(o8_37 x11),oR false 3 eTapi_Node x5.Nodes,oR true 1 (AV.int .u64) x9.1.Cliques,oR true 1 eI x9.1.Up,oR true 1 eI x9.1.Home,oR true 1 (AV.int .u64) x11.1.Cliques,oR true 1 eI x11.1.Up,oR true 1 eI x11.1.Home],265⟩ ?_
 refine reg_in (sz 1 1 ?_)
 refine callR (as0:=[.agg [vI 0,.nils],.nils]) (us:=[.agg [vI 0,.nils],.nils]) (ids:=[]) kr bodyB_22 (msnap_cons (snap_agg (msnap_cons rfl (msnap_cons rfl msnap_nil))) (msnap_cons rfl msnap_nil)) (fun x29 q30=>CallOk.args [[.keep,.lst false],[.lst true]] (g_tree_Make_ok (Tapi_Net.mk 0 []) [] x29 q30)) gF h (fun x29 q30 h=>?_)
 refine sz 3 5 ?_
 refine sgL false [] [] false gE ?_
 refine sz 2 8 (reg_end rfl (wp_seq (wg [1,3,4,5,6,7,8,10,12,14,16,18,20] [0,1,2,3,4,5,6,7,8,9] (reg_in (sz 1 1 ?_)))))
 refine callR (as0:=[.agg [vI 0,.nils]]) (us:=[.agg [vI 0,.nils]]) (ids:=[]) kr bodyB_26 (msnap_cons (snap_agg (msnap_cons rfl (msnap_cons rfl msnap_nil))) msnap_nil) (fun x31 q32=>CallOk.args [[.keep,.lst false]] (g_tree_Least_ok (Tapi_Net.mk 0 []) x31 q32)) gF h (fun x31 q32 h=>?_)
 refine sz 3 5 ?_
 refine sgL false [] [] false gE ?_
 refine sz 2 8 (reg_end rfl (wp_seq (wp_seq ?_)))
 refine wgc [1,3,4,5,6,7,8,10,12,14,16,18,20,22] [0,1,2,3,4,5,6,7,8,9] ⟨(s8_27 x9 x11 x13 x15 x17 x19 x23 x27 x29 x31),[oX false false 2 (.agg [vI x5.Grain,.ref 3 0 x5.Nodes.length]),(o8_38 x9),(o8_37 x11),oR false 3 eTapi_Node x5.Nodes,oR true 1 (AV.int .u64) x9.1.Cliques,oR true 1 eI x9.1.Up,oR true 1 eI x9.1.Home,oR true 1 (AV.int .u64) x11.1.Cliques,oR true 1 eI x11.1.Up,oR true 1 eI x11.1.Home],265⟩ ?_
 refine reg_in (sz 11 11 ?_)
 refine sgL false [] [] true gE ?_
 refine sz 2 14 (reg_end rfl (wp_block ?_))
 refine wwh h (fun s33=>⟨(s8_31 x9 x11 x13 x15 x17 x19 x23 x27 x29 x31 s33),[oX false false 2 (.agg [vI x5.Grain,.ref 4 0 x5.Nodes.length]),oX false false 3 (.agg [.ref 5 0 x9.1.Cliques.length,.ref 6 0 x9.1.Up.length,.ref 7 0 x9.1.Home.length]),oX false false 3 (.agg [.ref 8 0 x11.1.Cliques.length,.ref 9 0 x11.1.Up.length,.ref 10 0 x11.1.Home.length]),oR true 4 eTharuspexref10_Bend ([(Tharuspexref10_Bend.mk 0 0 0 0),(Tharuspexref10_Bend.mk 0 0 0 14),(Tharuspexref10_Bend.mk 2 0 0 0),(Tharuspexref10_Bend.mk 2 1 1 0),(Tharuspexref10_Bend.mk 2 1 (-1) 0),(Tharuspexref10_Bend.mk 3 0 0 0),(Tharuspexref10_Bend.mk 3 0 2 0),(Tharuspexref10_Bend.mk 4 0 0 0),(Tharuspexref10_Bend.mk 5 0 0 1),(Tharuspexref10_Bend.mk 6 0 0 0),(Tharuspexref10_Bend.mk 7 0 0 0)]:(List Tharuspexref10_Bend)),oR false 3 eTapi_Node x5.Nodes,oR true 1 (AV.int .u64) x9.1.Cliques,oR true 1 eI x9.1.Up,oR true 1 eI x9.1.Home,oR true 1 (AV.int .u64) x11.1.Cliques,oR true 1 eI x11.1.Up,oR true 1 eI x11.1.Home],265⟩) (fun x out=>out=match x with | .inl v=>.go (.ret) ⟨[(0,vB false)],[],265⟩ | .inr v=>.go (.exit 0) ⟨(s8_27 x9 x11 x13 x15 x17 x19 x23 x27 x29 x31),[oX false false 2 (.agg [vI x5.Grain,.ref 3 0 x5.Nodes.length]),(o8_38 x9),(o8_37 x11),oR false 3 eTapi_Node x5.Nodes,oR true 1 (AV.int .u64) x9.1.Cliques,oR true 1 eI x9.1.Up,oR true 1 eI x9.1.Home,oR true 1 (AV.int .u64) x11.1.Cliques,oR true 1 eI x11.1.Up,oR true 1 eI x11.1.Home],265⟩) (wk_gc (live:=[1,3,4,5,6,7,8,10,12,14,16,18,20,22,108,109,110]) (keep:=[0,1,2,10,3,4,5,6,7,8,9]) kr) ?_ ?_
 ·intro s33 o h
  unfold g_law10_TreeKnown_b0 at h
  refine sq (wp_seq ?_)
  refine wb [111] h (fun q35 h=>?_) (fun q35 h=>?_)
  ·refine wcT (wp_skip (wp_seq (wp_block (wp_seq (reg_in ?_)))))
   refine bind_elim h (fun a36 q37 h=>?_)
   refine idxR' (enc:=eTharuspexref10_Bend) (l:=([(Tharuspexref10_Bend.mk 0 0 0 0),(Tharuspexref10_Bend.mk 0 0 0 14),(Tharuspexref10_Bend.mk 2 0 0 0),(Tharuspexref10_Bend.mk 2 1 1 0),(Tharuspexref10_Bend.mk 2 1 (-1) 0),(Tharuspexref10_Bend.mk 3 0 0 0),(Tharuspexref10_Bend.mk 3 0 2 0),(Tharuspexref10_Bend.mk 4 0 0 0),(Tharuspexref10_Bend.mk 5 0 0 1),(Tharuspexref10_Bend.mk 6 0 0 0),(Tharuspexref10_Bend.mk 7 0 0 0)]:(List Tharuspexref10_Bend))) (n:=s33) (w:=4) (ob:=3) (ro:=false) (nr:=true) (fl:=true) (a:=a36) kr kr gE q37 ?_
   refine loadR (enc:=eTharuspexref10_Bend) (l:=([(Tharuspexref10_Bend.mk 0 0 0 0),(Tharuspexref10_Bend.mk 0 0 0 14),(Tharuspexref10_Bend.mk 2 0 0 0),(Tharuspexref10_Bend.mk 2 1 1 0),(Tharuspexref10_Bend.mk 2 1 (-1) 0),(Tharuspexref10_Bend.mk 3 0 0 0),(Tharuspexref10_Bend.mk 3 0 2 0),(Tharuspexref10_Bend.mk 4 0 0 0),(Tharuspexref10_Bend.mk 5 0 0 1),(Tharuspexref10_Bend.mk 6 0 0 0),(Tharuspexref10_Bend.mk 7 0 0 0)]:(List Tharuspexref10_Bend))) (n:=s33) (w:=4) (ob:=3) (c:=0) (bx:=false) (ro:=false) (nr:=true) (fl:=true) (a:=a36) kr kr q37 gE ?_
   refine sz 2 4 (reg_end rfl (wp_seq (rga hfol (sy 2 2 ?_))))
   refine callW bodyB_32 (fun x38 q39=>CallOk.froz (g_law10_Sample_ok  x38 q39) (snap_agg (msnap_cons (snap_full (w:=1) (bx:=false) (ro:=false) rfl) (msnap_cons (snap_full (w:=1) (bx:=false) (ro:=false) rfl) (msnap_cons (snap_full (w:=1) (bx:=false) (ro:=false) rfl) msnap_nil (by rfl)) (by rfl)) (by rfl)))) h (fun x38 q39 h=>?_)
   refine callW bodyB_15 (g_ref10_Bend_Of_ok a36 x38) h (fun x40 _ h=>?_)
   refine callR (as0:=[.agg [vI x5.Grain,.ref 4 0 x5.Nodes.length],.agg [eL true (AV.int .u64) x40.Cliques,z1 x40.Up,z1 x40.Home]]) (ids:=[4]) kr bodyB_19 (msnap_cons (snap_agg (msnap_cons rfl (msnap_cons (snap_full (w:=3) (bx:=false) (ro:=false) kr) msnap_nil (by rfl)) (by rfl))) (msnap_cons (snap_agg (msnap_cons rfl (msnap_cons rfl (msnap_cons rfl msnap_nil (by rfl)) (by rfl)) (by rfl))) msnap_nil (by rfl)) (by rfl)) (fun x42 q43=>g_tree_Check_ok x5 x40 x42 q43) gF h (fun x42 q43 h=>?_)
   refine sy 1 6 (rgd ?_)
   refine wbz h (fun q45 h=>?_) (fun q45 h=>?_)
   ·refine wp_seq ?_
    refine wgc [] [] ⟨[],[],265⟩ ?_
    refine rn (wg [0] [] ?_)
    refine wp_ret ?_
    cases h
    exact ⟨kr,rfl⟩
   refine wp_skip ?_
   refine wgc [1,3,4,5,6,7,8,10,12,14,16,18,20,22,108,109,110] [0,1,2,3,4,5,6,7,8,9,10] ⟨(s8_31 x9 x11 x13 x15 x17 x19 x23 x27 x29 x31 s33),[oX false false 2 (.agg [vI x5.Grain,.ref 4 0 x5.Nodes.length]),oX false false 3 (.agg [.ref 5 0 x9.1.Cliques.length,.ref 6 0 x9.1.Up.length,.ref 7 0 x9.1.Home.length]),oX false false 3 (.agg [.ref 8 0 x11.1.Cliques.length,.ref 9 0 x11.1.Up.length,.ref 10 0 x11.1.Home.length]),oR true 4 eTharuspexref10_Bend ([(Tharuspexref10_Bend.mk 0 0 0 0),(Tharuspexref10_Bend.mk 0 0 0 14),(Tharuspexref10_Bend.mk 2 0 0 0),(Tharuspexref10_Bend.mk 2 1 1 0),(Tharuspexref10_Bend.mk 2 1 (-1) 0),(Tharuspexref10_Bend.mk 3 0 0 0),(Tharuspexref10_Bend.mk 3 0 2 0),(Tharuspexref10_Bend.mk 4 0 0 0),(Tharuspexref10_Bend.mk 5 0 0 1),(Tharuspexref10_Bend.mk 6 0 0 0),(Tharuspexref10_Bend.mk 7 0 0 0)]:(List Tharuspexref10_Bend)),oR false 3 eTapi_Node x5.Nodes,oR true 1 (AV.int .u64) x9.1.Cliques,oR true 1 eI x9.1.Up,oR true 1 eI x9.1.Home,oR true 1 (AV.int .u64) x11.1.Cliques,oR true 1 eI x11.1.Up,oR true 1 eI x11.1.Home],265⟩ ?_
   refine rn ?_
   cases h
   exact ⟨_,rfl,(wk_gc (live:=[1,3,4,5,6,7,8,10,12,14,16,18,20,22,108,109,110]) (keep:=[0,1,2,3,4,5,6,7,8,9,10]) kr)⟩
  refine wcF (wg [1,3,4,5,6,7,8,10,12,14,16,18,20,22] [0,1,2,4,5,6,7,8,9,10] ?_)
  refine wp_exit ?_
  cases h
  exact ⟨kr,rfl⟩
 intro x46 h out hx
 subst hx
 rcases x46 with x47 | x48
 ·dsimp only at h ⊢
  cases h
  show fnOut _ _ _ _=_
  kernel_rfl
 ·dsimp only at h ⊢
  refine wp_seq (reg_in (sz 1 1 ?_))
  refine callW bodyB_32 (g_law10_Sample_ok ) h (fun x49 _ h=>?_)
  refine callR (as0:=[.agg [.int .u8 7,.int .u8 1,vI 0,.int .u64 1],.agg [.ref 10 0 x49.Cliques.length,.ref 11 0 x49.Up.length,.ref 12 0 x49.Home.length]]) (ids:=[10,11,12]) kr bodyB_15 (msnap_cons (snap_agg (msnap_cons rfl (msnap_cons rfl (msnap_cons rfl (msnap_cons rfl msnap_nil (by rfl)) (by rfl)) (by rfl)) (by rfl))) (msnap_cons (snap_agg (msnap_cons (snap_full (w:=1) (bx:=false) (ro:=false) kr) (msnap_cons (snap_full (w:=1) (bx:=false) (ro:=false) kr) (msnap_cons (snap_full (w:=1) (bx:=false) (ro:=false) kr) msnap_nil (by rfl)) (by rfl)) (by rfl))) msnap_nil (by rfl)) (by rfl)) (fun x51 q52=>g_ref10_Bend_Of_ok (Tharuspexref10_Bend.mk 7 1 0 1) x49 x51 q52) gF h (fun x51 q52 h=>?_)
  refine sgL false [] [] false gE ?_
  refine sz 1 5 (reg_end rfl (wp_seq (reg_in (sz 1 1 ?_))))
  refine sgL false [] [] false gE ?_
  refine sz 1 3 (reg_end rfl (wp_seq (wp_seq (reg_in ?_))))
  refine sgL false [] [] true gE ?_
  refine sgL false [] [] true gE ?_
  refine sgL (S:=⟨(s8_27 x9 x11 x13 x15 x17 x19 x23 x27 x29 x31)++[(121,.agg [.int .u8 7,.int .u8 1,vI 0,.int .u64 1]),(122,.agg [.ref 10 0 x49.Cliques.length,.ref 11 0 x49.Up.length,.ref 12 0 x49.Home.length]),(123,.agg [eL true (AV.int .u64) x51.Cliques,z1 x51.Up,z1 x51.Home]),(25,.ptr 13 0 0),(124,.agg [vI 1,.nils])]++[(26,.ptr 14 0 0),(125,.ref 15 0 2),(126,.ref 16 0 1),(127,.ref 17 0 1)],[oX false false 2 (.agg [vI x5.Grain,.ref 3 0 x5.Nodes.length]),(o8_38 x9),(o8_37 x11),oR false 3 eTapi_Node x5.Nodes,oR true 1 (AV.int .u64) x9.1.Cliques,oR true 1 eI x9.1.Up,oR true 1 eI x9.1.Home,oR true 1 (AV.int .u64) x11.1.Cliques,oR true 1 eI x11.1.Up,oR true 1 eI x11.1.Home,.row false true true true 1 (List.map (AV.int .u64) x49.Cliques),.row false true true true 1 (List.map eI x49.Up),.row false true true true 1 (List.map eI x49.Home),oX true false 3 (.agg [eL true (AV.int .u64) x51.Cliques,z1 x51.Up,z1 x51.Home]),oX true false 2 (.agg [vI 1,.nils]),.row false false true true 1 [vI 0,vI 1],.row false false true true 1 [vI 0],.row false false true true 1 [vI 1]],265⟩) false [] [] true kr ?_
  refine bsR (parts:=[(0,.nils),(1,.nils),(2,.lst true [vI 0,vI 1]),(3,.lst true [vI 0]),(4,.lst true [vI 1])]) (ids:=[15,16,17]) (es:=[(15,.row false true true true 1 [vI 0,vI 1]),(16,.row false true true true 1 [vI 0]),(17,.row false true true true 1 [vI 1]),(18,.row false false true (List.all [.nils,.nils,.lst true [vI 0,vI 1],.lst true [vI 0],.lst true [vI 1]] AV.scs) 1 [.nils,.nils,.lst true [vI 0,vI 1],.lst true [vI 0],.lst true [vI 1]])]) (S:=⟨(s8_27 x9 x11 x13 x15 x17 x19 x23 x27 x29 x31)++[(121,.agg [.int .u8 7,.int .u8 1,vI 0,.int .u64 1]),(122,.agg [.ref 10 0 x49.Cliques.length,.ref 11 0 x49.Up.length,.ref 12 0 x49.Home.length]),(123,.agg [eL true (AV.int .u64) x51.Cliques,z1 x51.Up,z1 x51.Home]),(25,.ptr 13 0 0),(124,.agg [vI 1,.nils])]++[(26,.ptr 14 0 0),(125,.ref 15 0 2),(126,.ref 16 0 1),(127,.ref 17 0 1),(128,.ref 18 0 5)],[oX false false 2 (.agg [vI x5.Grain,.ref 3 0 x5.Nodes.length]),(o8_38 x9),(o8_37 x11),oR false 3 eTapi_Node x5.Nodes,oR true 1 (AV.int .u64) x9.1.Cliques,oR true 1 eI x9.1.Up,oR true 1 eI x9.1.Home,oR true 1 (AV.int .u64) x11.1.Cliques,oR true 1 eI x11.1.Up,oR true 1 eI x11.1.Home,.row false true true true 1 (List.map (AV.int .u64) x49.Cliques),.row false true true true 1 (List.map eI x49.Up),.row false true true true 1 (List.map eI x49.Home),oX true false 3 (.agg [eL true (AV.int .u64) x51.Cliques,z1 x51.Up,z1 x51.Home]),oX true false 2 (.agg [vI 1,.nils]),.row false true true true 1 [vI 0,vI 1],.row false true true true 1 [vI 0],.row false true true true 1 [vI 1],.row false false true false 1 [.lst true [],.lst true [],.lst true [vI 0,vI 1],.lst true [vI 0],.lst true [vI 1]]],265⟩) [.lst true] false rfl (sparts_keep rfl (sparts_keep rfl (sparts_snap rfl (show snap _ _ _=some (_,[15]) from kr) (sparts_snap rfl (show snap _ _ _=some (_,[16]) from kr) (sparts_snap rfl (show snap _ _ _=some (_,[17]) from kr) sparts_nil (by rfl)) (by rfl)) (by rfl)))) kr ?_
  refine sz 2 6 (reg_end rfl (wp_block ?_))
  refine wwh h (fun s53=>⟨(s8_49 x9 x11 x13 x15 x17 x19 x23 x27 x29 x31 s53),[oX false false 2 (.agg [vI x5.Grain,.ref 6 0 x5.Nodes.length]),(o8_32 x9),(o8_31 x11),oX true false 3 (.agg [eL true (AV.int .u64) x51.Cliques,z1 x51.Up,z1 x51.Home]),(o8_41 s53),oR false 1 z1 ([[],[],[0,1],[0],[1]]:(List (List Int))),oR false 3 eTapi_Node x5.Nodes,oR true 1 (AV.int .u64) x9.1.Cliques,oR true 1 eI x9.1.Up,oR true 1 eI x9.1.Home,oR true 1 (AV.int .u64) x11.1.Cliques,oR true 1 eI x11.1.Up,oR true 1 eI x11.1.Home,oR false 3 eTapi_Node s53.2],265⟩) (fun v out=>out=.go (.exit 2) ⟨[(1,.ptr 0 0 0),(3,.ptr 1 0 0),(4,vI x9.2),(5,.ptr 2 0 0),(6,vI x11.2),(7,vI x13.1),(8,vI x13.2),(10,vI x15.2),(12,vI x17.2),(14,vI x19.2),(16,vI x23.2),(18,vI x27.2),(20,vI x29.2),(22,vI x31.2),(25,.ptr 3 0 0),(26,.ptr 4 0 0)],[oX false false 2 (.agg [vI x5.Grain,.ref 5 0 x5.Nodes.length]),(o8_36 x9),(o8_35 x11),oX true false 3 (.agg [eL true (AV.int .u64) x51.Cliques,z1 x51.Up,z1 x51.Home]),oX false false 2 (.agg [vI 1,.ref 12 0 v.length]),oR false 3 eTapi_Node x5.Nodes,oR true 1 (AV.int .u64) x9.1.Cliques,oR true 1 eI x9.1.Up,oR true 1 eI x9.1.Home,oR true 1 (AV.int .u64) x11.1.Cliques,oR true 1 eI x11.1.Up,oR true 1 eI x11.1.Home,oR false 3 eTapi_Node v],265⟩) (wk_trans (wk_gc (live:=[1,3,4,5,6,7,8,10,12,14,16,18,20,22,25,26,128,129,130]) (keep:=[0,1,2,13,14,18,3,4,5,6,7,8,9]) (st':=⟨[(1,.ptr 0 0 0),(3,.ptr 1 0 0),(4,vI x9.2),(5,.ptr 2 0 0),(6,vI x11.2),(7,vI x13.1),(8,vI x13.2),(10,vI x15.2),(12,vI x17.2),(14,vI x19.2),(16,vI x23.2),(18,vI x27.2),(20,vI x29.2),(22,vI x31.2),(25,.ptr 3 0 0),(26,.ptr 4 0 0),(128,.ref 5 0 5),(129,vI 5),(130,vI 0)],[oX false false 2 (.agg [vI x5.Grain,.ref 6 0 x5.Nodes.length]),(o8_32 x9),(o8_31 x11),oX true false 3 (.agg [eL true (AV.int .u64) x51.Cliques,z1 x51.Up,z1 x51.Home]),oX true false 2 (.agg [vI 1,.nils]),.row false false true false 1 [.lst true [],.lst true [],.lst true [vI 0,vI 1],.lst true [vI 0],.lst true [vI 1]],oR false 3 eTapi_Node x5.Nodes,oR true 1 (AV.int .u64) x9.1.Cliques,oR true 1 eI x9.1.Up,oR true 1 eI x9.1.Home,oR true 1 (AV.int .u64) x11.1.Cliques,oR true 1 eI x11.1.Up,oR true 1 eI x11.1.Home],265⟩) kr) (wk_trans (wk_nilO 4 0 1 3 true false (st':=⟨[(1,.ptr 0 0 0),(3,.ptr 1 0 0),(4,vI x9.2),(5,.ptr 2 0 0),(6,vI x11.2),(7,vI x13.1),(8,vI x13.2),(10,vI x15.2),(12,vI x17.2),(14,vI x19.2),(16,vI x23.2),(18,vI x27.2),(20,vI x29.2),(22,vI x31.2),(25,.ptr 3 0 0),(26,.ptr 4 0 0),(128,.ref 5 0 5),(129,vI 5),(130,vI 0)],[oX false false 2 (.agg [vI x5.Grain,.ref 6 0 x5.Nodes.length]),(o8_32 x9),(o8_31 x11),oX true false 3 (.agg [eL true (AV.int .u64) x51.Cliques,z1 x51.Up,z1 x51.Home]),oX false false 2 (.agg [vI 1,.ref 13 0 0]),.row false false true false 1 [.lst true [],.lst true [],.lst true [vI 0,vI 1],.lst true [vI 0],.lst true [vI 1]],oR false 3 eTapi_Node x5.Nodes,oR true 1 (AV.int .u64) x9.1.Cliques,oR true 1 eI x9.1.Up,oR true 1 eI x9.1.Home,oR true 1 (AV.int .u64) x11.1.Cliques,oR true 1 eI x11.1.Up,oR true 1 eI x11.1.Home,.row false false true false 3 []],265⟩) kr) (wk_gc (live:=[1,3,4,5,6,7,8,10,12,14,16,18,20,22,25,26,128,129,130]) (keep:=[0,1,2,3,4,5,6,7,8,9,10,11,12,13]) kr))) ?_ ?_
  ·intro s53 o h
   unfold g_law10_TreeKnown_b1 at h
   refine sq (wp_seq ?_)
   refine wb [131] h (fun q55 h=>?_) (fun q55 h=>?_)
   ·refine wcT (wp_skip (wp_seq (wp_block (wp_seq (reg_in ?_)))))
    refine bind_elim h (fun a56 q57 h=>?_)
    refine idxR' (enc:=z1) (l:=([[],[],[0,1],[0],[1]]:(List (List Int)))) (n:=s53.1) (w:=1) (ob:=5) (ro:=false) (nr:=true) (fl:=false) (a:=a56) kr kr gE q57 ?_
    refine loadR (enc:=z1) (l:=([[],[],[0,1],[0],[1]]:(List (List Int)))) (n:=s53.1) (w:=1) (ob:=5) (c:=0) (bx:=false) (ro:=false) (nr:=true) (fl:=false) (a:=a56) kr kr q57 gE ?_
    refine sz 1 3 (reg_end rfl (reg_in (sz 3 3 ?_)))
    refine sgL (S:=⟨(s8_49 x9 x11 x13 x15 x17 x19 x23 x27 x29 x31 s53)++[(131,vB true),(132,.ptr 5 (zt s53.1) 0),(133,z1 a56),(28,z1 a56),(134,.ptr 4 0 1),(135,.ref 13 0 s53.2.length),(136,z1 a56),(137,.ref 14 0 1)],[oX false false 2 (.agg [vI x5.Grain,.ref 6 0 x5.Nodes.length]),(o8_32 x9),(o8_31 x11),oX true false 3 (.agg [eL true (AV.int .u64) x51.Cliques,z1 x51.Up,z1 x51.Home]),(o8_41 s53),oR false 1 z1 ([[],[],[0,1],[0],[1]]:(List (List Int))),oR false 3 eTapi_Node x5.Nodes,oR true 1 (AV.int .u64) x9.1.Cliques,oR true 1 eI x9.1.Up,oR true 1 eI x9.1.Home,oR true 1 (AV.int .u64) x11.1.Cliques,oR true 1 eI x11.1.Up,oR true 1 eI x11.1.Home,oR false 3 eTapi_Node s53.2,.row false false true true 1 [vI 1]],265⟩) false [] [] true kr ?_
    refine bsR (parts:=[(0,.lst true [vI 1])]) (ids:=[14]) (es:=[(14,.row false true true true 1 [vI 1]),(15,.row false false true (List.all [.lst true [vI 1]] AV.scs) 1 [.lst true [vI 1]])]) (S:=⟨(s8_49 x9 x11 x13 x15 x17 x19 x23 x27 x29 x31 s53)++[(131,vB true),(132,.ptr 5 (zt s53.1) 0),(133,z1 a56),(28,z1 a56),(134,.ptr 4 0 1),(135,.ref 13 0 s53.2.length),(136,z1 a56),(137,.ref 14 0 1),(138,.ref 15 0 1)],[oX false false 2 (.agg [vI x5.Grain,.ref 6 0 x5.Nodes.length]),(o8_32 x9),(o8_31 x11),oX true false 3 (.agg [eL true (AV.int .u64) x51.Cliques,z1 x51.Up,z1 x51.Home]),(o8_41 s53),oR false 1 z1 ([[],[],[0,1],[0],[1]]:(List (List Int))),oR false 3 eTapi_Node x5.Nodes,oR true 1 (AV.int .u64) x9.1.Cliques,oR true 1 eI x9.1.Up,oR true 1 eI x9.1.Home,oR true 1 (AV.int .u64) x11.1.Cliques,oR true 1 eI x11.1.Up,oR true 1 eI x11.1.Home,oR false 3 eTapi_Node s53.2,.row false true true true 1 [vI 1],.row false false true false 1 [.lst true [vI 1]]],265⟩) [.lst true] false rfl (sparts_snap rfl (show snap _ _ _=some (_,[14]) from kr) sparts_nil (by rfl)) kr ?_
    refine sgz 1 6 (S:=⟨(s8_49 x9 x11 x13 x15 x17 x19 x23 x27 x29 x31 s53)++[(131,vB true),(132,.ptr 5 (zt s53.1) 0),(133,z1 a56),(28,z1 a56),(134,.ptr 4 0 1),(135,.ref 13 0 s53.2.length),(136,z1 a56),(137,.ref 14 0 1),(138,.ref 15 0 1),(139,.agg [vI 1,z1 a56,.ref 15 0 1])],[oX false false 2 (.agg [vI x5.Grain,.ref 6 0 x5.Nodes.length]),(o8_32 x9),(o8_31 x11),oX true false 3 (.agg [eL true (AV.int .u64) x51.Cliques,z1 x51.Up,z1 x51.Home]),(o8_41 s53),oR false 1 z1 ([[],[],[0,1],[0],[1]]:(List (List Int))),oR false 3 eTapi_Node x5.Nodes,oR true 1 (AV.int .u64) x9.1.Cliques,oR true 1 eI x9.1.Up,oR true 1 eI x9.1.Home,oR true 1 (AV.int .u64) x11.1.Cliques,oR true 1 eI x11.1.Up,oR true 1 eI x11.1.Home,oR false 3 eTapi_Node s53.2,.row false true true true 1 [vI 1],.row false false true false 1 [.lst true [vI 1]]],265⟩) ?_
    refine bsR (parts:=[(0,.agg [vI 1,z1 a56,.lst false [.lst true [vI 1]]])]) (ids:=[15]) (es:=[(15,.row false true true false 1 [.lst true [vI 1]]),(16,.row false false true (List.all [.agg [vI 1,z1 a56,.lst false [.lst true [vI 1]]]] AV.scs) 3 [.agg [vI 1,z1 a56,.lst false [.lst true [vI 1]]]])]) (S:=⟨(s8_49 x9 x11 x13 x15 x17 x19 x23 x27 x29 x31 s53)++[(131,vB true),(132,.ptr 5 (zt s53.1) 0),(133,z1 a56),(28,z1 a56),(134,.ptr 4 0 1),(135,.ref 13 0 s53.2.length),(136,z1 a56),(137,.ref 14 0 1),(138,.ref 15 0 1),(139,.agg [vI 1,z1 a56,.ref 15 0 1])]++[(140,.ref 16 0 1)],[oX false false 2 (.agg [vI x5.Grain,.ref 6 0 x5.Nodes.length]),(o8_32 x9),(o8_31 x11),oX true false 3 (.agg [eL true (AV.int .u64) x51.Cliques,z1 x51.Up,z1 x51.Home]),(o8_41 s53),oR false 1 z1 ([[],[],[0,1],[0],[1]]:(List (List Int))),oR false 3 eTapi_Node x5.Nodes,oR true 1 (AV.int .u64) x9.1.Cliques,oR true 1 eI x9.1.Up,oR true 1 eI x9.1.Home,oR true 1 (AV.int .u64) x11.1.Cliques,oR true 1 eI x11.1.Up,oR true 1 eI x11.1.Home,oR false 3 eTapi_Node s53.2,.row false true true true 1 [vI 1],.row false true true false 1 [.lst true [vI 1]],.row false false true false 3 [.agg [vI 1,z1 a56,.lst false [.lst true [vI 1]]]]],265⟩) [.keep,.lst true,.lst false] false rfl (sparts_snap rfl (snap_agg (msnap_cons rfl (msnap_cons rfl (msnap_cons (show snap _ _ _=some (_,[15]) from kr) msnap_nil (by rfl)) (by rfl)) (by rfl))) sparts_nil (by rfl)) kr ?_
    refine appR (enc:=eTapi_Node) (l:=s53.2) (m:=([(Tapi_Node.mk 1 a56 [[1]])]:(List Tapi_Node))) (w:=3) (bytes:=56) (ob:=13) (nr:=true) (fl:=false) (nr':=true) (fl':=false) (b:=.ref 16 0 1) (rds:=[16]) false kr kr kr rfl gE kr h (fun h=>?_)
    refine sz 2 10 (reg_end rfl (wg [1,3,4,5,6,7,8,10,12,14,16,18,20,22,25,26,128,129,130] [0,1,2,3,4,5,6,7,8,9,10,11,12,17] (rn ?_)))
    cases h
    exact ⟨_,rfl,(wk_gc (live:=[1,3,4,5,6,7,8,10,12,14,16,18,20,22,25,26,128,129,130]) (keep:=[0,1,2,3,4,5,6,7,8,9,10,11,12,13]) kr)⟩
   refine wcF (wg [1,3,4,5,6,7,8,10,12,14,16,18,20,22,25,26] [0,1,2,3,4,6,7,8,9,10,11,12,13] ?_)
   refine wp_exit ?_
   cases h
   exact ⟨kr,rfl⟩
  intro x59 h out hx
  subst hx
  refine wp_seq (reg_in (sz 1 1 ?_))
  refine sgL false [] [] true gE ?_
  refine callR (as0:=[.agg [vI 1,.ref 12 0 x59.length],.ref 13 0 5]) (ids:=[12,13]) kr bodyB_22 (msnap_cons (snap_agg (msnap_cons rfl (msnap_cons (snap_full (w:=3) (bx:=false) (ro:=false) kr) msnap_nil (by rfl)) (by rfl))) (msnap_cons (show snap _ _ _=some (_,[13]) from kr) msnap_nil (by rfl)) (by rfl)) (fun x60 q61=>g_tree_Make_ok (Tapi_Net.mk 1 x59) [2,3,0,1,4] x60 q61) gF h (fun x60 q61 h=>?_)
  refine sz 3 6 ?_
  refine sgL false [] [] false gE ?_
  refine sz 2 9 (reg_end rfl (wp_seq (wg [1,3,4,5,6,7,8,10,12,14,16,18,20,22,25,29,30] [0,1,2,3,17,5,6,7,8,9,10,11,14,15,16] (reg_in ?_))))
  refine sgL (S:=⟨(s8_69 x9 x11 x13 x15 x17 x19 x23 x27 x29 x31 x60)++[(150,.ref 15 0 1)],[oX false false 2 (.agg [vI x5.Grain,.ref 5 0 x5.Nodes.length]),(o8_36 x9),(o8_35 x11),oX true false 3 (.agg [eL true (AV.int .u64) x51.Cliques,z1 x51.Up,z1 x51.Home]),(o8_39 x60),oR false 3 eTapi_Node x5.Nodes,oR true 1 (AV.int .u64) x9.1.Cliques,oR true 1 eI x9.1.Up,oR true 1 eI x9.1.Home,oR true 1 (AV.int .u64) x11.1.Cliques,oR true 1 eI x11.1.Up,oR true 1 eI x11.1.Home,oR true 1 (AV.int .u64) x60.1.Cliques,oR true 1 eI x60.1.Up,oR true 1 eI x60.1.Home,.row false false true true 1 [vI 1]],265⟩) false [] [] true kr ?_
  refine bsR (parts:=[(0,.lst true [vI 1])]) (ids:=[15]) (es:=[(15,.row false true true true 1 [vI 1]),(16,.row false false true (List.all [.lst true [vI 1]] AV.scs) 1 [.lst true [vI 1]])]) (S:=⟨(s8_69 x9 x11 x13 x15 x17 x19 x23 x27 x29 x31 x60)++[(150,.ref 15 0 1),(151,.ref 16 0 1)],[oX false false 2 (.agg [vI x5.Grain,.ref 5 0 x5.Nodes.length]),(o8_36 x9),(o8_35 x11),oX true false 3 (.agg [eL true (AV.int .u64) x51.Cliques,z1 x51.Up,z1 x51.Home]),(o8_39 x60),oR false 3 eTapi_Node x5.Nodes,oR true 1 (AV.int .u64) x9.1.Cliques,oR true 1 eI x9.1.Up,oR true 1 eI x9.1.Home,oR true 1 (AV.int .u64) x11.1.Cliques,oR true 1 eI x11.1.Up,oR true 1 eI x11.1.Home,oR true 1 (AV.int .u64) x60.1.Cliques,oR true 1 eI x60.1.Up,oR true 1 eI x60.1.Home,.row false true true true 1 [vI 1],.row false false true false 1 [.lst true [vI 1]]],265⟩) [.lst true] false rfl (sparts_snap rfl (show snap _ _ _=some (_,[15]) from kr) sparts_nil (by rfl)) kr ?_
  refine sz 1 3 ?_
  refine sgL (S:=⟨(s8_69 x9 x11 x13 x15 x17 x19 x23 x27 x29 x31 x60)++[(150,.ref 15 0 1),(151,.ref 16 0 1),(152,.agg [vI 1,.nils,.ref 16 0 1]),(153,.ref 17 0 1)],[oX false false 2 (.agg [vI x5.Grain,.ref 5 0 x5.Nodes.length]),(o8_36 x9),(o8_35 x11),oX true false 3 (.agg [eL true (AV.int .u64) x51.Cliques,z1 x51.Up,z1 x51.Home]),(o8_39 x60),oR false 3 eTapi_Node x5.Nodes,oR true 1 (AV.int .u64) x9.1.Cliques,oR true 1 eI x9.1.Up,oR true 1 eI x9.1.Home,oR true 1 (AV.int .u64) x11.1.Cliques,oR true 1 eI x11.1.Up,oR true 1 eI x11.1.Home,oR true 1 (AV.int .u64) x60.1.Cliques,oR true 1 eI x60.1.Up,oR true 1 eI x60.1.Home,.row false true true true 1 [vI 1],.row false false true false 1 [.lst true [vI 1]],.row false false true true 1 [vI 1]],265⟩) false [] [] true kr ?_
  refine bsR (parts:=[(0,.lst true [vI 1])]) (ids:=[17]) (es:=[(17,.row false true true true 1 [vI 1]),(18,.row false false true (List.all [.lst true [vI 1]] AV.scs) 1 [.lst true [vI 1]])]) (S:=⟨(s8_69 x9 x11 x13 x15 x17 x19 x23 x27 x29 x31 x60)++[(150,.ref 15 0 1),(151,.ref 16 0 1),(152,.agg [vI 1,.nils,.ref 16 0 1]),(153,.ref 17 0 1),(154,.ref 18 0 1)],[oX false false 2 (.agg [vI x5.Grain,.ref 5 0 x5.Nodes.length]),(o8_36 x9),(o8_35 x11),oX true false 3 (.agg [eL true (AV.int .u64) x51.Cliques,z1 x51.Up,z1 x51.Home]),(o8_39 x60),oR false 3 eTapi_Node x5.Nodes,oR true 1 (AV.int .u64) x9.1.Cliques,oR true 1 eI x9.1.Up,oR true 1 eI x9.1.Home,oR true 1 (AV.int .u64) x11.1.Cliques,oR true 1 eI x11.1.Up,oR true 1 eI x11.1.Home,oR true 1 (AV.int .u64) x60.1.Cliques,oR true 1 eI x60.1.Up,oR true 1 eI x60.1.Home,.row false true true true 1 [vI 1],.row false false true false 1 [.lst true [vI 1]],.row false true true true 1 [vI 1],.row false false true false 1 [.lst true [vI 1]]],265⟩) [.lst true] false rfl (sparts_snap rfl (show snap _ _ _=some (_,[17]) from kr) sparts_nil (by rfl)) kr ?_
  refine sgz 1 6 (S:=⟨(s8_69 x9 x11 x13 x15 x17 x19 x23 x27 x29 x31 x60)++[(150,.ref 15 0 1),(151,.ref 16 0 1),(152,.agg [vI 1,.nils,.ref 16 0 1]),(153,.ref 17 0 1),(154,.ref 18 0 1),(155,.agg [vI 1,.nils,.ref 18 0 1])],[oX false false 2 (.agg [vI x5.Grain,.ref 5 0 x5.Nodes.length]),(o8_36 x9),(o8_35 x11),oX true false 3 (.agg [eL true (AV.int .u64) x51.Cliques,z1 x51.Up,z1 x51.Home]),(o8_39 x60),oR false 3 eTapi_Node x5.Nodes,oR true 1 (AV.int .u64) x9.1.Cliques,oR true 1 eI x9.1.Up,oR true 1 eI x9.1.Home,oR true 1 (AV.int .u64) x11.1.Cliques,oR true 1 eI x11.1.Up,oR true 1 eI x11.1.Home,oR true 1 (AV.int .u64) x60.1.Cliques,oR true 1 eI x60.1.Up,oR true 1 eI x60.1.Home,.row false true true true 1 [vI 1],.row false false true false 1 [.lst true [vI 1]],.row false true true true 1 [vI 1],.row false false true false 1 [.lst true [vI 1]]],265⟩) ?_
  refine bsR (parts:=[(0,o8_42),(1,o8_42)]) (ids:=[16,18]) (es:=[(16,.row false true true false 1 [.lst true [vI 1]]),(18,.row false true true false 1 [.lst true [vI 1]]),(19,.row false false true (List.all [o8_42,o8_42] AV.scs) 3 [o8_42,o8_42])]) (S:=⟨(s8_69 x9 x11 x13 x15 x17 x19 x23 x27 x29 x31 x60)++[(150,.ref 15 0 1),(151,.ref 16 0 1),(152,.agg [vI 1,.nils,.ref 16 0 1]),(153,.ref 17 0 1),(154,.ref 18 0 1),(155,.agg [vI 1,.nils,.ref 18 0 1]),(156,.ref 19 0 2)],[oX false false 2 (.agg [vI x5.Grain,.ref 5 0 x5.Nodes.length]),(o8_36 x9),(o8_35 x11),oX true false 3 (.agg [eL true (AV.int .u64) x51.Cliques,z1 x51.Up,z1 x51.Home]),(o8_39 x60),oR false 3 eTapi_Node x5.Nodes,oR true 1 (AV.int .u64) x9.1.Cliques,oR true 1 eI x9.1.Up,oR true 1 eI x9.1.Home,oR true 1 (AV.int .u64) x11.1.Cliques,oR true 1 eI x11.1.Up,oR true 1 eI x11.1.Home,oR true 1 (AV.int .u64) x60.1.Cliques,oR true 1 eI x60.1.Up,oR true 1 eI x60.1.Home,.row false true true true 1 [vI 1],.row false true true false 1 [.lst true [vI 1]],.row false true true true 1 [vI 1],.row false true true false 1 [.lst true [vI 1]],.row false false true false 3 [.agg [vI 1,.lst true [],.lst false [.lst true [vI 1]]],.agg [vI 1,.lst true [],.lst false [.lst true [vI 1]]]]],265⟩) [.keep,.lst true,.lst false] false rfl (sparts_snap rfl (snap_agg (msnap_cons rfl (msnap_cons rfl (msnap_cons (show snap _ _ _=some (_,[16]) from kr) msnap_nil (by rfl)) (by rfl)) (by rfl))) (sparts_snap rfl (snap_agg (msnap_cons rfl (msnap_cons rfl (msnap_cons (show snap _ _ _=some (_,[18]) from kr) msnap_nil (by rfl)) (by rfl)) (by rfl))) sparts_nil (by rfl)) (by rfl)) kr ?_
  refine sz 1 8 ?_
  refine sgL false [] [] false gE ?_
  refine sz 1 10 (reg_end rfl (wp_seq (wg [1,3,4,5,6,7,8,10,12,14,16,18,20,22,25,29,30,31] [0,1,2,3,4,20,5,6,7,8,9,10,11,12,13,14,19] (reg_in (sz 1 1 ?_)))))
  refine sgL false [] [] true gE ?_
  refine callR (as0:=[.agg [vI 1,.ref 16 0 2],.ref 17 0 2]) (ids:=[16,17]) kr bodyB_22 (msnap_cons (snap_agg (msnap_cons rfl (msnap_cons (show snap _ _ _=some (_,[16]) from kr) msnap_nil (by rfl)) (by rfl))) (msnap_cons (show snap _ _ _=some (_,[17]) from kr) msnap_nil (by rfl)) (by rfl)) (fun x62 q63=>g_tree_Make_ok (Tapi_Net.mk 1 [(Tapi_Node.mk 1 [] [[1]]),(Tapi_Node.mk 1 [] [[1]])]) [0,1] x62 q63) gF h (fun x62 q63 h=>?_)
  refine sz 3 6 ?_
  refine sgL false [] [] false gE ?_
  refine sz 2 9 (reg_end rfl (wp_seq (wg [1,3,4,5,6,7,8,10,12,14,16,18,20,22,25,29,30,32,33] [0,1,2,3,4,21,6,7,8,9,10,11,12,13,14,15,18,19,20] (reg_in (sz 3 3 ?_)))))
  refine rb [165,166] h (fun q65 h=>?_) (fun q65 h=>?_)
  ·refine sz 4 7 ?_
   refine rw_wk (wk_gc (live:=[1,3,4,5,6,7,8,14,16,18,20,22,25,29,30,32,33,170]) (keep:=[0,1,2,3,4,5,6,7,8,9,10,11,12,13,14,15,16,17,18]) (st':=⟨[(1,.ptr 0 0 0),(3,.ptr 1 0 0),(4,vI x9.2),(5,.ptr 2 0 0),(6,vI x11.2),(7,vI x13.1),(8,vI x13.2),(14,vI x19.2),(16,vI x23.2),(18,vI x27.2),(20,vI x29.2),(22,vI x31.2),(25,.ptr 3 0 0),(29,.ptr 4 0 0),(30,vI x60.2),(32,.ptr 5 0 0),(33,vI x62.2),(170,vB (x17.2==2))],[oX false false 2 (.agg [vI x5.Grain,.ref 6 0 x5.Nodes.length]),(o8_32 x9),(o8_31 x11),oX true false 3 (.agg [eL true (AV.int .u64) x51.Cliques,z1 x51.Up,z1 x51.Home]),(o8_33 x60),(o8_34 x62),oR false 3 eTapi_Node x5.Nodes,oR true 1 (AV.int .u64) x9.1.Cliques,oR true 1 eI x9.1.Up,oR true 1 eI x9.1.Home,oR true 1 (AV.int .u64) x11.1.Cliques,oR true 1 eI x11.1.Up,oR true 1 eI x11.1.Home,oR true 1 (AV.int .u64) x60.1.Cliques,oR true 1 eI x60.1.Up,oR true 1 eI x60.1.Home,oR true 1 (AV.int .u64) x62.1.Cliques,oR true 1 eI x62.1.Up,oR true 1 eI x62.1.Home],265⟩) kr) ?_
   refine rb [170] h (fun q67 h=>?_) (fun q67 h=>?_)
   ·refine sz 4 11 (rwg [1,3,4,5,6,7,8,16,18,20,22,25,29,30,32,33,174] [0,1,2,3,4,5,6,7,8,9,10,11,12,13,14,15,16,17,18] ?_)
    refine rb [174] h (fun q69 h=>?_) (fun q69 h=>?_)
    ·refine sz 4 15 (rwg [1,3,4,5,6,7,8,18,20,22,25,29,30,32,33,178] [0,1,2,3,4,5,6,7,8,9,10,11,12,13,14,15,16,17,18] ?_)
     refine rb [178] h (fun q71 h=>?_) (fun q71 h=>?_)
     ·refine sz 4 19 (rwg [1,3,4,5,6,7,8,20,22,25,29,30,32,33,182] [0,1,2,3,4,5,6,7,8,9,10,11,12,13,14,15,16,17,18] ?_)
      refine rb [182] h (fun q73 h=>?_) (fun q73 h=>?_)
      ·refine sz 4 23 ?_
       refine rw_wk (wk_gc (live:=[1,3,4,5,6,7,8,22,25,29,30,32,33,186]) (keep:=[0,1,2,3,4,5,6,7,8,9,10,11,12,13,14,15,16,17,18]) (st':=⟨[(1,.ptr 0 0 0),(3,.ptr 1 0 0),(4,vI x9.2),(5,.ptr 2 0 0),(6,vI x11.2),(7,vI x13.1),(8,vI x13.2),(22,vI x31.2),(25,.ptr 3 0 0),(29,.ptr 4 0 0),(30,vI x60.2),(32,.ptr 5 0 0),(33,vI x62.2),(186,vB (x29.2==50))],[oX false false 2 (.agg [vI x5.Grain,.ref 6 0 x5.Nodes.length]),(o8_32 x9),(o8_31 x11),oX true false 3 (.agg [eL true (AV.int .u64) x51.Cliques,z1 x51.Up,z1 x51.Home]),(o8_33 x60),(o8_34 x62),oR false 3 eTapi_Node x5.Nodes,oR true 1 (AV.int .u64) x9.1.Cliques,oR true 1 eI x9.1.Up,oR true 1 eI x9.1.Home,oR true 1 (AV.int .u64) x11.1.Cliques,oR true 1 eI x11.1.Up,oR true 1 eI x11.1.Home,oR true 1 (AV.int .u64) x60.1.Cliques,oR true 1 eI x60.1.Up,oR true 1 eI x60.1.Home,oR true 1 (AV.int .u64) x62.1.Cliques,oR true 1 eI x62.1.Up,oR true 1 eI x62.1.Home],265⟩) kr) ?_
       refine rb [186] h (fun q75 h=>?_) (fun q75 h=>?_)
       ·refine sz 4 27 (rwg [1,3,4,5,6,7,8,25,29,30,32,33,190] [0,1,2,3,4,5,6,7,8,9,10,11,12,13,14,15,16,17,18] ?_)
        refine rb [190] h (fun q77 h=>?_) (fun q77 h=>?_)
        ·refine sz 1 28 ?_
         refine callW bodyB_32 (g_law10_Sample_ok ) h (fun x78 _ h=>?_)
         refine callR (as0:=[.agg [vI 0,.nils],.agg [.ref 19 0 x78.Cliques.length,.ref 20 0 x78.Up.length,.ref 21 0 x78.Home.length]]) (us:=[.agg [vI 0,.nils],.agg [eL true (AV.int .u64) x78.Cliques,z1 x78.Up,z1 x78.Home]]) (ids:=[19,20,21]) kr bodyB_19 (msnap_cons (snap_agg (msnap_cons rfl (msnap_cons rfl msnap_nil (by rfl)) (by rfl))) (msnap_cons (snap_agg (msnap_cons (snap_full (w:=1) (bx:=false) (ro:=false) kr) (msnap_cons (snap_full (w:=1) (bx:=false) (ro:=false) kr) (msnap_cons (snap_full (w:=1) (bx:=false) (ro:=false) kr) msnap_nil (by rfl)) (by rfl)) (by rfl))) msnap_nil (by rfl)) (by rfl)) (fun x80 q81=>CallOk.args [[.keep,.lst false],[.keep,.keep,.keep]] (g_tree_Check_ok (Tapi_Net.mk 0 []) x78 x80 q81)) gF h (fun x80 q81 h=>?_)
         refine sz 3 33 (rwg [1,3,4,5,6,7,8,25,29,30,32,33,196] [0,1,2,3,4,5,6,7,8,9,10,11,12,13,14,15,16,17,18] ?_)
         refine rb [196] h (fun q83 h=>?_) (fun q83 h=>?_)
         ·refine sz 2 35 ?_
          refine callR (as0:=[.agg [vI x5.Grain,.ref 6 0 x5.Nodes.length],.agg [.ref 10 0 x11.1.Cliques.length,.ref 11 0 x11.1.Up.length,.ref 12 0 x11.1.Home.length]]) (ids:=[6,10,11,12]) kr bodyB_19 (msnap_cons (snap_agg (msnap_cons rfl (msnap_cons (snap_full (w:=3) (bx:=false) (ro:=false) kr) msnap_nil (by rfl)) (by rfl))) (msnap_cons (snap_agg (msnap_cons (snap_full (w:=1) (bx:=false) (ro:=false) kr) (msnap_cons (snap_full (w:=1) (bx:=false) (ro:=false) kr) (msnap_cons (snap_full (w:=1) (bx:=false) (ro:=false) kr) msnap_nil (by rfl)) (by rfl)) (by rfl))) msnap_nil (by rfl)) (by rfl)) (fun x84 q85=>g_tree_Check_ok x5 x11.1 x84 q85) gF h (fun x84 q85 h=>?_)
          refine sz 3 39 (reg_end rfl (wp_seq ?_))
          refine wgc [1,3,4,5,6,7,8,25,29,30,32,33,34] [0,1,2,3,4,5,6,7,8,9,10,11,12,13,14,15,16,17,18] ⟨[(1,.ptr 0 0 0),(3,.ptr 1 0 0),(4,vI x9.2),(5,.ptr 2 0 0),(6,vI x11.2),(7,vI x13.1),(8,vI x13.2),(25,.ptr 3 0 0),(29,.ptr 4 0 0),(30,vI x60.2),(32,.ptr 5 0 0),(33,vI x62.2),(34,vB (x84==100))],[oX false false 2 (.agg [vI x5.Grain,.ref 6 0 x5.Nodes.length]),(o8_32 x9),(o8_31 x11),oX true false 3 (.agg [eL true (AV.int .u64) x51.Cliques,z1 x51.Up,z1 x51.Home]),(o8_33 x60),(o8_34 x62),oR false 3 eTapi_Node x5.Nodes,oR true 1 (AV.int .u64) x9.1.Cliques,oR true 1 eI x9.1.Up,oR true 1 eI x9.1.Home,oR true 1 (AV.int .u64) x11.1.Cliques,oR true 1 eI x11.1.Up,oR true 1 eI x11.1.Home,oR true 1 (AV.int .u64) x60.1.Cliques,oR true 1 eI x60.1.Up,oR true 1 eI x60.1.Home,oR true 1 (AV.int .u64) x62.1.Cliques,oR true 1 eI x62.1.Up,oR true 1 eI x62.1.Home],265⟩ ?_
          refine reg_in (sz 2 2 ?_)
          refine rb [34,202,203] h (fun q87 h=>?_) (fun q87 h=>?_)
          ·refine sz 4 6 (rwg [1,3,4,5,6,7,8,25,29,32,33,207] [0,1,2,3,4,5,6,7,8,9,10,11,12,13,14,15,16,17,18] ?_)
           refine rb [207] h (fun q89 h=>?_) (fun q89 h=>?_)
           ·refine sz 1 7 ?_
            refine sgL false [] [] true gE ?_
            refine sgL false [] [] true gE ?_
            refine sgL false [] [] true gE ?_
            refine sz 1 11 ?_
            refine callR (as0:=[.agg [.ref 13 0 x60.1.Cliques.length,.ref 14 0 x60.1.Up.length,.ref 15 0 x60.1.Home.length],.agg [.ref 19 0 3,.ref 20 0 3,.ref 21 0 5]]) (ids:=[13,14,15,19,20,21]) kr bodyB_24 (msnap_cons (snap_agg (msnap_cons (snap_full (w:=1) (bx:=false) (ro:=false) kr) (msnap_cons (snap_full (w:=1) (bx:=false) (ro:=false) kr) (msnap_cons (snap_full (w:=1) (bx:=false) (ro:=false) kr) msnap_nil (by rfl)) (by rfl)) (by rfl))) (msnap_cons (snap_agg (msnap_cons (show snap _ _ _=some (_,[19]) from kr) (msnap_cons (show snap _ _ _=some (_,[20]) from kr) (msnap_cons (show snap _ _ _=some (_,[21]) from kr) msnap_nil (by rfl)) (by rfl)) (by rfl))) msnap_nil (by rfl)) (by rfl)) (fun x90 q91=>g_ref10_Same_ok x60.1 (Tapi_Tree.mk [18,7,9] [-1,0,1] [1,0,1,2,0]) x90 q91) gF h (fun x90 q91 h=>?_)
            refine sz 2 14 (rwg [1,3,4,5,6,7,8,25,32,33,215] [0,1,2,3,5,6,7,8,9,10,11,12,16,17,18] ?_)
            refine rb [215] h (fun q93 h=>?_) (fun q93 h=>?_)
            ·refine sz 4 18 ?_
             refine rw_wk (wk_gc (live:=[1,3,5,6,7,8,25,32,33,219]) (keep:=[0,1,2,3,4,5,6,7,8,9,10,11,12,13,14]) (st':=⟨[(1,.ptr 0 0 0),(3,.ptr 1 0 0),(5,.ptr 2 0 0),(6,vI x11.2),(7,vI x13.1),(8,vI x13.2),(25,.ptr 3 0 0),(32,.ptr 4 0 0),(33,vI x62.2),(219,vB (x9.2==0))],[oX false false 2 (.agg [vI x5.Grain,.ref 5 0 x5.Nodes.length]),(o8_36 x9),(o8_35 x11),oX true false 3 (.agg [eL true (AV.int .u64) x51.Cliques,z1 x51.Up,z1 x51.Home]),(o8_40 x62),oR false 3 eTapi_Node x5.Nodes,oR true 1 (AV.int .u64) x9.1.Cliques,oR true 1 eI x9.1.Up,oR true 1 eI x9.1.Home,oR true 1 (AV.int .u64) x11.1.Cliques,oR true 1 eI x11.1.Up,oR true 1 eI x11.1.Home,oR true 1 (AV.int .u64) x62.1.Cliques,oR true 1 eI x62.1.Up,oR true 1 eI x62.1.Home],265⟩) kr) ?_
             refine rb [219] h (fun q95 h=>?_) (fun q95 h=>?_)
             ·refine sz 1 19 ?_
              refine sgL false [] [] true gE ?_
              refine sgL false [] [] true gE ?_
              refine sgL false [] [] true gE ?_
              refine sz 1 23 ?_
              refine callR (as0:=[.agg [.ref 6 0 x9.1.Cliques.length,.ref 7 0 x9.1.Up.length,.ref 8 0 x9.1.Home.length],.agg [.ref 15 0 1,.ref 16 0 1,.ref 17 0 3]]) (ids:=[6,7,8,15,16,17]) kr bodyB_24 (msnap_cons (snap_agg (msnap_cons (snap_full (w:=1) (bx:=false) (ro:=false) kr) (msnap_cons (snap_full (w:=1) (bx:=false) (ro:=false) kr) (msnap_cons (snap_full (w:=1) (bx:=false) (ro:=false) kr) msnap_nil (by rfl)) (by rfl)) (by rfl))) (msnap_cons (snap_agg (msnap_cons (show snap _ _ _=some (_,[15]) from kr) (msnap_cons (show snap _ _ _=some (_,[16]) from kr) (msnap_cons (show snap _ _ _=some (_,[17]) from kr) msnap_nil (by rfl)) (by rfl)) (by rfl))) msnap_nil (by rfl)) (by rfl)) (fun x96 q97=>g_ref10_Same_ok x9.1 (Tapi_Tree.mk [7] [-1] [0,0,0]) x96 q97) gF h (fun x96 q97 h=>?_)
              refine sz 2 26 (rwg [1,5,6,7,8,25,32,33,227] [0,2,3,4,5,9,10,11,12,13,14] ?_)
              refine rb [227] h (fun q99 h=>?_) (fun q99 h=>?_)
              ·refine sz 4 30 (rwg [1,5,7,8,25,32,33,231] [0,1,2,3,4,5,6,7,8,9,10] ?_)
               refine rb [231] h (fun q101 h=>?_) (fun q101 h=>?_)
               ·refine sz 1 31 ?_
                refine sgL false [] [] true gE ?_
                refine sgL false [] [] true gE ?_
                refine sgL false [] [] true gE ?_
                refine sz 1 35 ?_
                refine callR (as0:=[.agg [.ref 5 0 x11.1.Cliques.length,.ref 6 0 x11.1.Up.length,.ref 7 0 x11.1.Home.length],.agg [.ref 11 0 2,.ref 12 0 2,.ref 13 0 4]]) (ids:=[5,6,7,11,12,13]) kr bodyB_24 (msnap_cons (snap_agg (msnap_cons (snap_full (w:=1) (bx:=false) (ro:=false) kr) (msnap_cons (snap_full (w:=1) (bx:=false) (ro:=false) kr) (msnap_cons (snap_full (w:=1) (bx:=false) (ro:=false) kr) msnap_nil (by rfl)) (by rfl)) (by rfl))) (msnap_cons (snap_agg (msnap_cons (show snap _ _ _=some (_,[11]) from kr) (msnap_cons (show snap _ _ _=some (_,[12]) from kr) (msnap_cons (show snap _ _ _=some (_,[13]) from kr) msnap_nil (by rfl)) (by rfl)) (by rfl))) msnap_nil (by rfl)) (by rfl)) (fun x102 q103=>g_ref10_Same_ok x11.1 (Tapi_Tree.mk [14,7] [-1,0] [1,1,1,0]) x102 q103) gF h (fun x102 q103 h=>?_)
                refine sz 2 38 ?_
                refine rw_wk (wk_gc (live:=[1,7,8,25,32,33,239]) (keep:=[0,2,3,4,8,9,10]) (st':=⟨[(1,.ptr 0 0 0),(7,vI x13.1),(8,vI x13.2),(25,.ptr 1 0 0),(32,.ptr 2 0 0),(33,vI x62.2),(239,vB x102)],[oX false false 2 (.agg [vI x5.Grain,.ref 3 0 x5.Nodes.length]),oX true false 3 (.agg [eL true (AV.int .u64) x51.Cliques,z1 x51.Up,z1 x51.Home]),oX false false 3 (.agg [.ref 4 0 x62.1.Cliques.length,.ref 5 0 x62.1.Up.length,.ref 6 0 x62.1.Home.length]),oR false 3 eTapi_Node x5.Nodes,oR true 1 (AV.int .u64) x62.1.Cliques,oR true 1 eI x62.1.Up,oR true 1 eI x62.1.Home],265⟩) kr) ?_
                refine rb [239] h (fun q105 h=>?_) (fun q105 h=>?_)
                ·refine sz 4 42 (rwg [1,8,25,32,33,243] [0,1,2,3,4,5,6] ?_)
                 refine rb [243] h (fun q107 h=>?_) (fun q107 h=>?_)
                 ·refine sz 4 46 (rwg [1,25,32,33,247] [0,1,2,3,4,5,6] ?_)
                  refine rb [247] h (fun q109 h=>?_) (fun q109 h=>?_)
                  ·refine sz 2 48 ?_
                   refine callR (as0:=[.agg [vI x5.Grain,.ref 3 0 x5.Nodes.length],.agg [eL true (AV.int .u64) x51.Cliques,z1 x51.Up,z1 x51.Home]]) (ids:=[3]) kr bodyB_19 (msnap_cons (snap_agg (msnap_cons rfl (msnap_cons (snap_full (w:=3) (bx:=false) (ro:=false) kr) msnap_nil (by rfl)) (by rfl))) (msnap_cons (snap_agg (msnap_cons rfl (msnap_cons rfl (msnap_cons rfl msnap_nil (by rfl)) (by rfl)) (by rfl))) msnap_nil (by rfl)) (by rfl)) (fun x110 q111=>g_tree_Check_ok x5 x51 x110 q111) gF h (fun x110 q111 h=>?_)
                   refine sz 3 52 ?_
                   refine rw_wk (wk_gc (live:=[32,33,253]) (keep:=[2,4,5,6]) (st':=⟨[(32,.ptr 0 0 0),(33,vI x62.2),(253,vB (x110==0))],[oX false false 3 (.agg [.ref 1 0 x62.1.Cliques.length,.ref 2 0 x62.1.Up.length,.ref 3 0 x62.1.Home.length]),oR true 1 (AV.int .u64) x62.1.Cliques,oR true 1 eI x62.1.Up,oR true 1 eI x62.1.Home],265⟩) kr) ?_
                   refine rb [253] h (fun q113 h=>?_) (fun q113 h=>?_)
                   ·refine sz 4 56 (rwg [32,257] [0,1,2,3] ?_)
                    refine rb [257] h (fun q115 h=>?_) (fun q115 h=>?_)
                    ·refine sz 1 57 ?_
                     refine sgL false [] [] true gE ?_
                     refine sgL false [] [] true gE ?_
                     refine sgL false [] [] true gE ?_
                     refine sz 1 61 ?_
                     refine callR (as0:=[.agg [.ref 1 0 x62.1.Cliques.length,.ref 2 0 x62.1.Up.length,.ref 3 0 x62.1.Home.length],.agg [.ref 4 0 2,.ref 5 0 2,.ref 6 0 2]]) (ids:=[1,2,3,4,5,6]) kr bodyB_24 (msnap_cons (snap_agg (msnap_cons (snap_full (w:=1) (bx:=false) (ro:=false) kr) (msnap_cons (snap_full (w:=1) (bx:=false) (ro:=false) kr) (msnap_cons (snap_full (w:=1) (bx:=false) (ro:=false) kr) msnap_nil (by rfl)) (by rfl)) (by rfl))) (msnap_cons (snap_agg (msnap_cons (show snap _ _ _=some (_,[4]) from kr) (msnap_cons (show snap _ _ _=some (_,[5]) from kr) (msnap_cons (show snap _ _ _=some (_,[6]) from kr) msnap_nil (by rfl)) (by rfl)) (by rfl))) msnap_nil (by rfl)) (by rfl)) (fun x116 q117=>g_ref10_Same_ok x62.1 (Tapi_Tree.mk [2,1] [-1,0] [1,0]) x116 q117) gF h (fun x116 q117 h=>?_)
                     refine sz 2 64 (reg_end rfl (wg [0] [] ?_))
                     cases h
                     exact wp_ret (show fnOut _ _ _ _=_ from by kernel_rfl)
                    refine sz 8 64 (reg_end rfl (wg [0] [] ?_))
                    cases h
                    exact wp_ret (show fnOut _ _ _ _=_ from by kernel_rfl)
                   refine sz 12 64 (reg_end rfl (wg [0] [] ?_))
                   cases h
                   exact wp_ret (show fnOut _ _ _ _=_ from by kernel_rfl)
                  refine sz 18 64 (reg_end rfl ?_)
                  refine wgc [0] [] ⟨[(0,vB false)],[],265⟩ ?_
                  cases h
                  exact wp_ret (show fnOut _ _ _ _=_ from by kernel_rfl)
                 refine sz 22 64 (reg_end rfl ?_)
                 refine wgc [0] [] ⟨[(0,vB false)],[],265⟩ ?_
                 cases h
                 exact wp_ret (show fnOut _ _ _ _=_ from by kernel_rfl)
                refine sz 26 64 (reg_end rfl ?_)
                refine wgc [0] [] ⟨[(0,vB false)],[],265⟩ ?_
                cases h
                exact wp_ret (show fnOut _ _ _ _=_ from by kernel_rfl)
               refine sgz 34 64 (S:=⟨[(1,.ptr 0 0 0),(5,.ptr 1 0 0),(7,vI x13.1),(8,vI x13.2),(25,.ptr 2 0 0),(32,.ptr 3 0 0),(33,vI x62.2),(231,vB false),(232,.tup []),(233,.tup []),(234,.tup []),(235,.tup []),(236,.tup []),(237,.tup []),(238,vB false),(239,vB false),(240,.tup []),(241,.tup []),(242,vB false),(243,vB false),(244,.tup []),(245,.tup []),(246,vB false),(247,vB false),(248,.tup []),(249,.tup []),(250,.tup []),(251,.tup []),(252,vB false),(253,vB false),(254,.tup []),(255,.tup []),(256,vB false),(257,vB false),(258,.tup []),(259,.tup []),(260,.tup []),(261,.tup []),(262,.tup []),(263,.tup []),(264,vB false),(0,vB false)],[oX false false 2 (.agg [vI x5.Grain,.ref 4 0 x5.Nodes.length]),oX false false 3 (.agg [.ref 5 0 x11.1.Cliques.length,.ref 6 0 x11.1.Up.length,.ref 7 0 x11.1.Home.length]),oX true false 3 (.agg [eL true (AV.int .u64) x51.Cliques,z1 x51.Up,z1 x51.Home]),oX false false 3 (.agg [.ref 8 0 x62.1.Cliques.length,.ref 9 0 x62.1.Up.length,.ref 10 0 x62.1.Home.length]),oR false 3 eTapi_Node x5.Nodes,oR true 1 (AV.int .u64) x11.1.Cliques,oR true 1 eI x11.1.Up,oR true 1 eI x11.1.Home,oR true 1 (AV.int .u64) x62.1.Cliques,oR true 1 eI x62.1.Up,oR true 1 eI x62.1.Home],265⟩) ?_
               refine reg_end rfl (wg [0] [] ?_)
               cases h
               exact wp_ret (show fnOut _ _ _ _=_ from by kernel_rfl)
              refine sgz 38 64 (S:=⟨[(1,.ptr 0 0 0),(5,.ptr 1 0 0),(6,vI x11.2),(7,vI x13.1),(8,vI x13.2),(25,.ptr 2 0 0),(32,.ptr 3 0 0),(33,vI x62.2),(227,vB false),(228,.tup []),(229,.tup []),(230,vB false),(231,vB false),(232,.tup []),(233,.tup []),(234,.tup []),(235,.tup []),(236,.tup []),(237,.tup []),(238,vB false),(239,vB false),(240,.tup []),(241,.tup []),(242,vB false),(243,vB false),(244,.tup []),(245,.tup []),(246,vB false),(247,vB false),(248,.tup []),(249,.tup []),(250,.tup []),(251,.tup []),(252,vB false),(253,vB false),(254,.tup []),(255,.tup []),(256,vB false),(257,vB false),(258,.tup []),(259,.tup []),(260,.tup []),(261,.tup []),(262,.tup []),(263,.tup []),(264,vB false),(0,vB false)],[oX false false 2 (.agg [vI x5.Grain,.ref 4 0 x5.Nodes.length]),oX false false 3 (.agg [.ref 5 0 x11.1.Cliques.length,.ref 6 0 x11.1.Up.length,.ref 7 0 x11.1.Home.length]),oX true false 3 (.agg [eL true (AV.int .u64) x51.Cliques,z1 x51.Up,z1 x51.Home]),oX false false 3 (.agg [.ref 8 0 x62.1.Cliques.length,.ref 9 0 x62.1.Up.length,.ref 10 0 x62.1.Home.length]),oR false 3 eTapi_Node x5.Nodes,oR true 1 (AV.int .u64) x11.1.Cliques,oR true 1 eI x11.1.Up,oR true 1 eI x11.1.Home,oR true 1 (AV.int .u64) x62.1.Cliques,oR true 1 eI x62.1.Up,oR true 1 eI x62.1.Home],265⟩) ?_
              refine reg_end rfl (wg [0] [] ?_)
              cases h
              exact wp_ret (show fnOut _ _ _ _=_ from by kernel_rfl)
             refine sgz 46 64 (S:=⟨[(1,.ptr 0 0 0),(3,.ptr 1 0 0),(5,.ptr 2 0 0),(6,vI x11.2),(7,vI x13.1),(8,vI x13.2),(25,.ptr 3 0 0),(32,.ptr 4 0 0),(33,vI x62.2),(219,vB false),(220,.tup []),(221,.tup []),(222,.tup []),(223,.tup []),(224,.tup []),(225,.tup []),(226,vB false),(227,vB false),(228,.tup []),(229,.tup []),(230,vB false),(231,vB false),(232,.tup []),(233,.tup []),(234,.tup []),(235,.tup []),(236,.tup []),(237,.tup []),(238,vB false),(239,vB false),(240,.tup []),(241,.tup []),(242,vB false),(243,vB false),(244,.tup []),(245,.tup []),(246,vB false),(247,vB false),(248,.tup []),(249,.tup []),(250,.tup []),(251,.tup []),(252,vB false),(253,vB false),(254,.tup []),(255,.tup []),(256,vB false),(257,vB false),(258,.tup []),(259,.tup []),(260,.tup []),(261,.tup []),(262,.tup []),(263,.tup []),(264,vB false),(0,vB false)],[oX false false 2 (.agg [vI x5.Grain,.ref 5 0 x5.Nodes.length]),(o8_36 x9),(o8_35 x11),oX true false 3 (.agg [eL true (AV.int .u64) x51.Cliques,z1 x51.Up,z1 x51.Home]),(o8_40 x62),oR false 3 eTapi_Node x5.Nodes,oR true 1 (AV.int .u64) x9.1.Cliques,oR true 1 eI x9.1.Up,oR true 1 eI x9.1.Home,oR true 1 (AV.int .u64) x11.1.Cliques,oR true 1 eI x11.1.Up,oR true 1 eI x11.1.Home,oR true 1 (AV.int .u64) x62.1.Cliques,oR true 1 eI x62.1.Up,oR true 1 eI x62.1.Home],265⟩) ?_
             refine reg_end rfl (wg [0] [] ?_)
             cases h
             exact wp_ret (show fnOut _ _ _ _=_ from by kernel_rfl)
            refine sgz 50 64 (S:=⟨(s8_9 x9 x11 x13)++[(25,.ptr 3 0 0),(32,.ptr 4 0 0),(33,vI x62.2),(215,vB false),(216,.tup []),(217,.tup []),(218,vB false),(219,vB false),(220,.tup []),(221,.tup []),(222,.tup []),(223,.tup []),(224,.tup []),(225,.tup []),(226,vB false),(227,vB false),(228,.tup []),(229,.tup []),(230,vB false),(231,vB false),(232,.tup []),(233,.tup []),(234,.tup []),(235,.tup []),(236,.tup []),(237,.tup []),(238,vB false),(239,vB false),(240,.tup []),(241,.tup []),(242,vB false),(243,vB false),(244,.tup []),(245,.tup []),(246,vB false),(247,vB false),(248,.tup []),(249,.tup []),(250,.tup []),(251,.tup []),(252,vB false),(253,vB false),(254,.tup []),(255,.tup []),(256,vB false),(257,vB false),(258,.tup []),(259,.tup []),(260,.tup []),(261,.tup []),(262,.tup []),(263,.tup []),(264,vB false),(0,vB false)],[oX false false 2 (.agg [vI x5.Grain,.ref 5 0 x5.Nodes.length]),(o8_36 x9),(o8_35 x11),oX true false 3 (.agg [eL true (AV.int .u64) x51.Cliques,z1 x51.Up,z1 x51.Home]),(o8_40 x62),oR false 3 eTapi_Node x5.Nodes,oR true 1 (AV.int .u64) x9.1.Cliques,oR true 1 eI x9.1.Up,oR true 1 eI x9.1.Home,oR true 1 (AV.int .u64) x11.1.Cliques,oR true 1 eI x11.1.Up,oR true 1 eI x11.1.Home,oR true 1 (AV.int .u64) x62.1.Cliques,oR true 1 eI x62.1.Up,oR true 1 eI x62.1.Home],265⟩) ?_
            refine reg_end rfl (wg [0] [] ?_)
            cases h
            exact wp_ret (show fnOut _ _ _ _=_ from by kernel_rfl)
           refine sgz 58 64 (S:=⟨(s8_9 x9 x11 x13)++[(25,.ptr 3 0 0),(29,.ptr 4 0 0),(32,.ptr 5 0 0),(33,vI x62.2),(207,vB false),(208,.tup []),(209,.tup []),(210,.tup []),(211,.tup []),(212,.tup []),(213,.tup []),(214,vB false),(215,vB false),(216,.tup []),(217,.tup []),(218,vB false),(219,vB false),(220,.tup []),(221,.tup []),(222,.tup []),(223,.tup []),(224,.tup []),(225,.tup []),(226,vB false),(227,vB false),(228,.tup []),(229,.tup []),(230,vB false),(231,vB false),(232,.tup []),(233,.tup []),(234,.tup []),(235,.tup []),(236,.tup []),(237,.tup []),(238,vB false),(239,vB false),(240,.tup []),(241,.tup []),(242,vB false),(243,vB false),(244,.tup []),(245,.tup []),(246,vB false),(247,vB false),(248,.tup []),(249,.tup []),(250,.tup []),(251,.tup []),(252,vB false),(253,vB false),(254,.tup []),(255,.tup []),(256,vB false),(257,vB false),(258,.tup []),(259,.tup []),(260,.tup []),(261,.tup []),(262,.tup []),(263,.tup []),(264,vB false),(0,vB false)],[oX false false 2 (.agg [vI x5.Grain,.ref 6 0 x5.Nodes.length]),(o8_32 x9),(o8_31 x11),oX true false 3 (.agg [eL true (AV.int .u64) x51.Cliques,z1 x51.Up,z1 x51.Home]),(o8_33 x60),(o8_34 x62),oR false 3 eTapi_Node x5.Nodes,oR true 1 (AV.int .u64) x9.1.Cliques,oR true 1 eI x9.1.Up,oR true 1 eI x9.1.Home,oR true 1 (AV.int .u64) x11.1.Cliques,oR true 1 eI x11.1.Up,oR true 1 eI x11.1.Home,oR true 1 (AV.int .u64) x60.1.Cliques,oR true 1 eI x60.1.Up,oR true 1 eI x60.1.Home,oR true 1 (AV.int .u64) x62.1.Cliques,oR true 1 eI x62.1.Up,oR true 1 eI x62.1.Home],265⟩) ?_
           refine reg_end rfl (wg [0] [] ?_)
           cases h
           exact wp_ret (show fnOut _ _ _ _=_ from by kernel_rfl)
          refine sgz 62 64 (S:=⟨(s8_9 x9 x11 x13)++[(25,.ptr 3 0 0),(29,.ptr 4 0 0),(30,vI x60.2),(32,.ptr 5 0 0),(33,vI x62.2),(34,vB false),(202,vB false),(203,vB false),(204,.tup []),(205,.tup []),(206,vB false),(207,vB false),(208,.tup []),(209,.tup []),(210,.tup []),(211,.tup []),(212,.tup []),(213,.tup []),(214,vB false),(215,vB false),(216,.tup []),(217,.tup []),(218,vB false),(219,vB false),(220,.tup []),(221,.tup []),(222,.tup []),(223,.tup []),(224,.tup []),(225,.tup []),(226,vB false),(227,vB false),(228,.tup []),(229,.tup []),(230,vB false),(231,vB false),(232,.tup []),(233,.tup []),(234,.tup []),(235,.tup []),(236,.tup []),(237,.tup []),(238,vB false),(239,vB false),(240,.tup []),(241,.tup []),(242,vB false),(243,vB false),(244,.tup []),(245,.tup []),(246,vB false),(247,vB false),(248,.tup []),(249,.tup []),(250,.tup []),(251,.tup []),(252,vB false),(253,vB false),(254,.tup []),(255,.tup []),(256,vB false),(257,vB false),(258,.tup []),(259,.tup []),(260,.tup []),(261,.tup []),(262,.tup []),(263,.tup []),(264,vB false),(0,vB false)],[oX false false 2 (.agg [vI x5.Grain,.ref 6 0 x5.Nodes.length]),(o8_32 x9),(o8_31 x11),oX true false 3 (.agg [eL true (AV.int .u64) x51.Cliques,z1 x51.Up,z1 x51.Home]),(o8_33 x60),(o8_34 x62),oR false 3 eTapi_Node x5.Nodes,oR true 1 (AV.int .u64) x9.1.Cliques,oR true 1 eI x9.1.Up,oR true 1 eI x9.1.Home,oR true 1 (AV.int .u64) x11.1.Cliques,oR true 1 eI x11.1.Up,oR true 1 eI x11.1.Home,oR true 1 (AV.int .u64) x60.1.Cliques,oR true 1 eI x60.1.Up,oR true 1 eI x60.1.Home,oR true 1 (AV.int .u64) x62.1.Cliques,oR true 1 eI x62.1.Up,oR true 1 eI x62.1.Home],265⟩) ?_
          refine reg_end rfl (wg [0] [] ?_)
          cases h
          exact wp_ret (show fnOut _ _ _ _=_ from by kernel_rfl)
         refine sz 6 39 (reg_end rfl (wp_seq ?_))
         refine wgc [1,3,4,5,6,7,8,25,29,30,32,33,34] [0,1,2,3,4,5,6,7,8,9,10,11,12,13,14,15,16,17,18] ⟨(s8_140 x9 x11 x13 x60 x62),[oX false false 2 (.agg [vI x5.Grain,.ref 6 0 x5.Nodes.length]),(o8_32 x9),(o8_31 x11),oX true false 3 (.agg [eL true (AV.int .u64) x51.Cliques,z1 x51.Up,z1 x51.Home]),(o8_33 x60),(o8_34 x62),oR false 3 eTapi_Node x5.Nodes,oR true 1 (AV.int .u64) x9.1.Cliques,oR true 1 eI x9.1.Up,oR true 1 eI x9.1.Home,oR true 1 (AV.int .u64) x11.1.Cliques,oR true 1 eI x11.1.Up,oR true 1 eI x11.1.Home,oR true 1 (AV.int .u64) x60.1.Cliques,oR true 1 eI x60.1.Up,oR true 1 eI x60.1.Home,oR true 1 (AV.int .u64) x62.1.Cliques,oR true 1 eI x62.1.Up,oR true 1 eI x62.1.Home],265⟩ ?_
         refine rn (wg [0] [] ?_)
         cases h
         exact wp_ret (show fnOut _ _ _ _=_ from by kernel_rfl)
        refine sz 12 39 (reg_end rfl (wp_seq ?_))
        refine wgc [1,3,4,5,6,7,8,25,29,30,32,33,34] [0,1,2,3,4,5,6,7,8,9,10,11,12,13,14,15,16,17,18] ⟨(s8_140 x9 x11 x13 x60 x62),[oX false false 2 (.agg [vI x5.Grain,.ref 6 0 x5.Nodes.length]),(o8_32 x9),(o8_31 x11),oX true false 3 (.agg [eL true (AV.int .u64) x51.Cliques,z1 x51.Up,z1 x51.Home]),(o8_33 x60),(o8_34 x62),oR false 3 eTapi_Node x5.Nodes,oR true 1 (AV.int .u64) x9.1.Cliques,oR true 1 eI x9.1.Up,oR true 1 eI x9.1.Home,oR true 1 (AV.int .u64) x11.1.Cliques,oR true 1 eI x11.1.Up,oR true 1 eI x11.1.Home,oR true 1 (AV.int .u64) x60.1.Cliques,oR true 1 eI x60.1.Up,oR true 1 eI x60.1.Home,oR true 1 (AV.int .u64) x62.1.Cliques,oR true 1 eI x62.1.Up,oR true 1 eI x62.1.Home],265⟩ ?_
        refine rn (wg [0] [] ?_)
        cases h
        exact wp_ret (show fnOut _ _ _ _=_ from by kernel_rfl)
       refine sz 16 39 (reg_end rfl (wp_seq ?_))
       refine wgc [1,3,4,5,6,7,8,25,29,30,32,33,34] [0,1,2,3,4,5,6,7,8,9,10,11,12,13,14,15,16,17,18] ⟨(s8_140 x9 x11 x13 x60 x62),[oX false false 2 (.agg [vI x5.Grain,.ref 6 0 x5.Nodes.length]),(o8_32 x9),(o8_31 x11),oX true false 3 (.agg [eL true (AV.int .u64) x51.Cliques,z1 x51.Up,z1 x51.Home]),(o8_33 x60),(o8_34 x62),oR false 3 eTapi_Node x5.Nodes,oR true 1 (AV.int .u64) x9.1.Cliques,oR true 1 eI x9.1.Up,oR true 1 eI x9.1.Home,oR true 1 (AV.int .u64) x11.1.Cliques,oR true 1 eI x11.1.Up,oR true 1 eI x11.1.Home,oR true 1 (AV.int .u64) x60.1.Cliques,oR true 1 eI x60.1.Up,oR true 1 eI x60.1.Home,oR true 1 (AV.int .u64) x62.1.Cliques,oR true 1 eI x62.1.Up,oR true 1 eI x62.1.Home],265⟩ ?_
       refine rn (wg [0] [] ?_)
       cases h
       exact wp_ret (show fnOut _ _ _ _=_ from by kernel_rfl)
      refine sz 20 39 (reg_end rfl (wp_seq ?_))
      refine wgc [1,3,4,5,6,7,8,25,29,30,32,33,34] [0,1,2,3,4,5,6,7,8,9,10,11,12,13,14,15,16,17,18] ⟨(s8_140 x9 x11 x13 x60 x62),[oX false false 2 (.agg [vI x5.Grain,.ref 6 0 x5.Nodes.length]),(o8_32 x9),(o8_31 x11),oX true false 3 (.agg [eL true (AV.int .u64) x51.Cliques,z1 x51.Up,z1 x51.Home]),(o8_33 x60),(o8_34 x62),oR false 3 eTapi_Node x5.Nodes,oR true 1 (AV.int .u64) x9.1.Cliques,oR true 1 eI x9.1.Up,oR true 1 eI x9.1.Home,oR true 1 (AV.int .u64) x11.1.Cliques,oR true 1 eI x11.1.Up,oR true 1 eI x11.1.Home,oR true 1 (AV.int .u64) x60.1.Cliques,oR true 1 eI x60.1.Up,oR true 1 eI x60.1.Home,oR true 1 (AV.int .u64) x62.1.Cliques,oR true 1 eI x62.1.Up,oR true 1 eI x62.1.Home],265⟩ ?_
      refine rn (wg [0] [] ?_)
      cases h
      exact wp_ret (show fnOut _ _ _ _=_ from by kernel_rfl)
     refine sz 24 39 (reg_end rfl (wp_seq ?_))
     refine wgc [1,3,4,5,6,7,8,25,29,30,32,33,34] [0,1,2,3,4,5,6,7,8,9,10,11,12,13,14,15,16,17,18] ⟨(s8_140 x9 x11 x13 x60 x62),[oX false false 2 (.agg [vI x5.Grain,.ref 6 0 x5.Nodes.length]),(o8_32 x9),(o8_31 x11),oX true false 3 (.agg [eL true (AV.int .u64) x51.Cliques,z1 x51.Up,z1 x51.Home]),(o8_33 x60),(o8_34 x62),oR false 3 eTapi_Node x5.Nodes,oR true 1 (AV.int .u64) x9.1.Cliques,oR true 1 eI x9.1.Up,oR true 1 eI x9.1.Home,oR true 1 (AV.int .u64) x11.1.Cliques,oR true 1 eI x11.1.Up,oR true 1 eI x11.1.Home,oR true 1 (AV.int .u64) x60.1.Cliques,oR true 1 eI x60.1.Up,oR true 1 eI x60.1.Home,oR true 1 (AV.int .u64) x62.1.Cliques,oR true 1 eI x62.1.Up,oR true 1 eI x62.1.Home],265⟩ ?_
     refine rn (wg [0] [] ?_)
     cases h
     exact wp_ret (show fnOut _ _ _ _=_ from by kernel_rfl)
    refine sz 28 39 (reg_end rfl (wp_seq ?_))
    refine wgc [1,3,4,5,6,7,8,25,29,30,32,33,34] [0,1,2,3,4,5,6,7,8,9,10,11,12,13,14,15,16,17,18] ⟨(s8_140 x9 x11 x13 x60 x62),[oX false false 2 (.agg [vI x5.Grain,.ref 6 0 x5.Nodes.length]),(o8_32 x9),(o8_31 x11),oX true false 3 (.agg [eL true (AV.int .u64) x51.Cliques,z1 x51.Up,z1 x51.Home]),(o8_33 x60),(o8_34 x62),oR false 3 eTapi_Node x5.Nodes,oR true 1 (AV.int .u64) x9.1.Cliques,oR true 1 eI x9.1.Up,oR true 1 eI x9.1.Home,oR true 1 (AV.int .u64) x11.1.Cliques,oR true 1 eI x11.1.Up,oR true 1 eI x11.1.Home,oR true 1 (AV.int .u64) x60.1.Cliques,oR true 1 eI x60.1.Up,oR true 1 eI x60.1.Home,oR true 1 (AV.int .u64) x62.1.Cliques,oR true 1 eI x62.1.Up,oR true 1 eI x62.1.Home],265⟩ ?_
    refine rn (wg [0] [] ?_)
    cases h
    exact wp_ret (show fnOut _ _ _ _=_ from by kernel_rfl)
   refine sz 32 39 (reg_end rfl (wp_seq ?_))
   refine wgc [1,3,4,5,6,7,8,25,29,30,32,33,34] [0,1,2,3,4,5,6,7,8,9,10,11,12,13,14,15,16,17,18] ⟨(s8_140 x9 x11 x13 x60 x62),[oX false false 2 (.agg [vI x5.Grain,.ref 6 0 x5.Nodes.length]),(o8_32 x9),(o8_31 x11),oX true false 3 (.agg [eL true (AV.int .u64) x51.Cliques,z1 x51.Up,z1 x51.Home]),(o8_33 x60),(o8_34 x62),oR false 3 eTapi_Node x5.Nodes,oR true 1 (AV.int .u64) x9.1.Cliques,oR true 1 eI x9.1.Up,oR true 1 eI x9.1.Home,oR true 1 (AV.int .u64) x11.1.Cliques,oR true 1 eI x11.1.Up,oR true 1 eI x11.1.Home,oR true 1 (AV.int .u64) x60.1.Cliques,oR true 1 eI x60.1.Up,oR true 1 eI x60.1.Home,oR true 1 (AV.int .u64) x62.1.Cliques,oR true 1 eI x62.1.Up,oR true 1 eI x62.1.Home],265⟩ ?_
   refine rn (wg [0] [] ?_)
   cases h
   exact wp_ret (show fnOut _ _ _ _=_ from by kernel_rfl)
  refine sgz 36 39 (S:=⟨[(1,.ptr 0 0 0),(3,.ptr 1 0 0),(4,vI x9.2),(5,.ptr 2 0 0),(6,vI x11.2),(7,vI x13.1),(8,vI x13.2),(10,vI x15.2),(12,vI x17.2),(14,vI x19.2),(16,vI x23.2),(18,vI x27.2),(20,vI x29.2),(22,vI x31.2),(25,.ptr 3 0 0),(29,.ptr 4 0 0),(30,vI x60.2),(32,.ptr 5 0 0),(33,vI x62.2)]++[(164,vI x15.2),(165,vB false),(166,vB false),(167,.tup []),(168,.tup []),(169,vB false),(170,vB false),(171,.tup []),(172,.tup []),(173,vB false),(174,vB false),(175,.tup []),(176,.tup []),(177,vB false),(178,vB false),(179,.tup []),(180,.tup []),(181,vB false),(182,vB false),(183,.tup []),(184,.tup []),(185,vB false),(186,vB false),(187,.tup []),(188,.tup []),(189,vB false),(190,vB false),(191,.tup []),(192,.tup []),(193,.tup []),(194,.tup []),(195,vB false),(196,vB false),(197,.tup []),(198,.tup []),(199,.tup []),(200,.tup []),(201,vB false),(34,vB false)],[oX false false 2 (.agg [vI x5.Grain,.ref 6 0 x5.Nodes.length]),(o8_32 x9),(o8_31 x11),oX true false 3 (.agg [eL true (AV.int .u64) x51.Cliques,z1 x51.Up,z1 x51.Home]),(o8_33 x60),(o8_34 x62),oR false 3 eTapi_Node x5.Nodes,oR true 1 (AV.int .u64) x9.1.Cliques,oR true 1 eI x9.1.Up,oR true 1 eI x9.1.Home,oR true 1 (AV.int .u64) x11.1.Cliques,oR true 1 eI x11.1.Up,oR true 1 eI x11.1.Home,oR true 1 (AV.int .u64) x60.1.Cliques,oR true 1 eI x60.1.Up,oR true 1 eI x60.1.Home,oR true 1 (AV.int .u64) x62.1.Cliques,oR true 1 eI x62.1.Up,oR true 1 eI x62.1.Home],265⟩) ?_
  refine reg_end rfl (wp_seq (wg [1,3,4,5,6,7,8,25,29,30,32,33,34] [0,1,2,3,4,5,6,7,8,9,10,11,12,13,14,15,16,17,18] (rn (wg [0] [] ?_))))
  cases h
  exact wp_ret (show fnOut _ _ _ _=_ from by kernel_rfl)
end Go.Ab
namespace Go.Ab
set_option maxRecDepth 100000
set_option maxHeartbeats 0
theorem tk_true:g_law10_TreeKnown=some true:=by kernel_rfl
end Go.Ab
namespace Go.Ab
open Go Go.Proofs Go.Proofs.YtcbhkobklhkiiaaDoor
open Go.ChangeShapes Go.WideShapes Go.ChangeAt Go.RowKit
abbrev dr_laid:List (String × DataW Unit):=[("math/bits.deBruijn32tab",Rows.laid_math_bits_deBruijn32tab),("math/bits.deBruijn64tab",Rows.laid_math_bits_deBruijn64tab)]
theorem dr_own:ownKnob Tryd.prog.godebug=none:=by kernel_rfl
theorem dr_g0:Tryd.prog.globalNamed "math/bits.deBruijn32tab" = some 0:=by kernel_rfl
theorem dr_g1:Tryd.prog.globalNamed "math/bits.deBruijn64tab" = some 1:=by kernel_rfl
theorem dr_met (os:Os) (args:Array Value):laidMetH Tryd.prog dr_laid ((World.doorLaid Tryd.prog 19 os).forCall (fun _ _=>0) ⟨#[],args,[]⟩).memory :=
 laidMetH_of_parts3 (fuel:=8) (laidMet_of_run' 8 (by kernel_rfl) (by kernel_rfl)) (by kernel_rfl) (by kernel_rfl)
theorem dr_glob {W:World} (h:laidMetH Tryd.prog dr_laid W):Go.Ab.GlobIn W:=by
 rw [MakeChecks.laidMetH_plain _ _ _ (by kernel_rfl)] at h
 have h0:=Lib.tabIs_of_head (k:=.u8) (zs:=Go.Ab.tab0) (t:=158) (e:=5) (n:=32) dr_g0 (by kernel_rfl) (by kernel_rfl) (by kernel_rfl) (by kernel_rfl) (by kernel_rfl) h
 have h1:=Lib.tabIs_of_head (k:=.u8) (zs:=Go.Ab.tab1) (t:=159) (e:=5) (n:=64) dr_g1 (by kernel_rfl) (by kernel_rfl) (by kernel_rfl) (by kernel_rfl) (by kernel_rfl) h.tail
 intro g xs hg i v hv
 match g,hg with
 | 0,hg =>
  cases hg
  have hi:i < Go.Ab.tab0.length:=by have:=(List.getElem?_eq_some_iff.1 hv).1; simpa using this
  have:=h0.cell dr_g0 i hi
  rw [this]
  rw [List.getElem?_map] at hv
  simpa [List.getD,hi] using hv
 | 1,hg =>
  cases hg
  have hi:i < Go.Ab.tab1.length:=by have:=(List.getElem?_eq_some_iff.1 hv).1; simpa using this
  have:=h1.cell dr_g1 i hi
  rw [this]
  rw [List.getElem?_map] at hv
  simpa [List.getD,hi] using hv
 | n+2,hg=>cases hg
end Go.Ab
