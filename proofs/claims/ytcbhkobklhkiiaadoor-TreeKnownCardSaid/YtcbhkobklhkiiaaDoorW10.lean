/- What functions compute. No conditions. -/
import Derived.Test.YtcbhkobklhkiiaaDoorProg
import Derived.Test.YtcbhkobklhkiiaaDoorW8
import Derived.KernelRfl
import Derived.Test.YtcbhkobklhkiiaaDoorW9
set_option linter.all false
namespace Go.Ab
open Go Go.Proofs
set_option maxRecDepth 100000
set_option maxHeartbeats 4000000
noncomputable abbrev s44_133 (s11:((List Int) × (List Int) × (List Int))) (s31:Int):List (Nat × AV):=[(1,.fn (.func 67) [] [.ptr 6 0 0,.ptr 3 0 0]),(7,.ref 4 0 s11.2.1.length),(8,vI (zn s11.2.1)),(9,vI s31)]
noncomputable abbrev o44_14:AObj:=oX true false 3 (.agg [.nils,.nils,.nils])
noncomputable abbrev o44_15 (s11:((List Int) × (List Int) × (List Int))):AObj:=oX false false 3 (.agg [.ref 4 0 s11.2.1.length,.ref 5 0 s11.2.2.length,.nils])
noncomputable abbrev o44_16:AObj:=oX false false 3 (.agg [.ref 3 0 1,.ref 4 0 1,.nils])
theorem g_tree_build_ok (p0:Tapi_Net) (p1:(List Int)) (p2:(List Int)) (x:(Tapi_Tree × Int)) (h:g_tree_build p0 p1 p2=some x):CallOk Tryd.prog 44 [.agg [vI p0.Grain,eL false eTapi_Node p0.Nodes],eL true (AV.int .u64) p1,z1 p2] (.ret (.tup [.agg [.ref 0 0 x.1.Cliques.length,.ref 1 0 x.1.Up.length,.ref 2 0 x.1.Home.length],vI x.2]) [oR true 1 (AV.int .u64) x.1.Cliques,oR true 1 eI x.1.Up,oR true 1 eI x.1.Home]):=by
 refine fn_ok [] Tryd.func44 rfl (by decide +kernel) rfl ?_
 unfold g_tree_build at h
 refine wp_eqB (base':=0) (st':=⟨[(0,.agg [vI p0.Grain,eL false eTapi_Node p0.Nodes]),(1,eL true (AV.int .u64) p1),(2,z1 p2)],[],113⟩) kr kr ?_
 refine wp_seq (reg_in ?_)
 refine sgL false [] [] false gE ?_
 refine sgL false [] [] false gE ?_
 refine sz 1 3 (reg_end rfl (wp_seq (reg_in (sz 1 1 ?_))))
 refine callW bodyB_28 (g_net_Moral_ok p0) h (fun x1 _ h=>?_)
 refine sz 5 7 (reg_end rfl (wp_seq (wp_seq (wg [1,2,6,8,9] [1,2] (rn ?_)))))
 refine wb [28] h (fun q4 h=>?_) (fun q4 h=>?_)
 ·refine wcT (wp_seq ?_)
  refine wgc [6,9] [0] ⟨[(6,.ptr 0 0 0),(9,vI x1.2)],[o44_14],113⟩ ?_
  refine rn (wg [6,7] [0] ?_)
  refine wp_wk (wk_nilO 0 0 0 1 true true gE) ?_
  refine wp_wk (wk_nilO 0 0 1 1 true true gE) ?_
  refine wp_wk (wk_nilO 0 0 2 1 true true gE) ?_
  cases h
  exact wp_ret (show fnOut _ _ _ _=_ from by kernel_rfl)
 refine wcF (wp_skip (wp_seq (reg_in (sz 4 4 ?_))))
 refine sgL false [] [] false gE ?_
 refine sz 1 6 (reg_end rfl (wp_seq ?_))
 refine wgc [1,6,10] [0,2,1] ⟨[(1,eL true (AV.int .u64) p1),(6,.ptr 0 0 0),(10,.ptr 1 0 0)],[o44_14,oX false false 2 (.agg [.ref 2 0 x1.1.length,z1 p2]),oR true 1 (AV.int .u64) x1.1],113⟩ ?_
 refine reg_in (sz 1 1 ?_)
 refine callR (as0:=[.agg [.ref 2 0 x1.1.length,z1 p2]]) (ids:=[2]) kr bodyB_64 (msnap_cons (snap_agg (msnap_cons (snap_full (w:=1) (bx:=false) (ro:=false) kr) (msnap_cons rfl msnap_nil (by rfl)) (by rfl))) msnap_nil (by rfl)) (fun x5 q6=>g_tree_maker_cliques_ok (Ttree_maker.mk (Ttree_graph.mk x1.1) p2) x5 q6) gF h (fun x5 q6 h=>?_)
 refine sz 1 3 (reg_end rfl (wp_seq (reg_in (sz 4 4 ?_))))
 refine bind_elim h (fun a7 q8 h=>?_)
 refine idxR' (enc:=(AV.int .u64)) (l:=x5) (n:=zw ((zn x5) - 1)) (w:=1) (ob:=3) (ro:=false) (nr:=true) (fl:=true) (a:=a7) kr kr gE q8 ?_
 refine loadR (enc:=(AV.int .u64)) (l:=x5) (n:=zw ((zn x5) - 1)) (w:=1) (ob:=3) (c:=0) (bx:=false) (ro:=false) (nr:=true) (fl:=true) (a:=a7) kr kr q8 gE ?_
 refine sgL false [] [] true gE ?_
 refine sgL false [] [] true gE ?_
 refine sz 1 9 ?_
 refine sgL false [] [] false gE ?_
 refine sz 1 11 (reg_end rfl (wp_seq ?_))
 refine wgc [1,6,11,12] [0,3,6,4,5] ⟨[(1,eL true (AV.int .u64) p1),(6,.ptr 0 0 0),(11,.ref 1 0 x5.length),(12,.ptr 2 0 0)],[o44_14,oR true 1 (AV.int .u64) x5,o44_16,.row false false true true 1 [.int .u64 a7],.row false false true true 1 [vI (-1)]],113⟩ ?_
 refine reg_in (sz 4 4 ?_)
 refine sliceP (enc:=(AV.int .u64)) (l:=x5) (ob:=1) (ro:=false) (nr:=true) (fl:=true) (lo:=none) (hi:=(some (vI (zw ((zn x5) - 1))))) (a:=0) (b:=zw ((zn x5) - 1)) (w:=1) kr kr rfl rfl gE h (fun q9 h=>?_)
 refine sz 1 6 (reg_end rfl (wp_seq (wp_block ?_)))
 refine wgc [1,6,11,12] [0,1,2,3,4] ⟨[(1,eL true (AV.int .u64) p1),(6,.ptr 0 0 0),(11,.ref 1 0 (zt (zw ((zn x5) - 1)) - zt (0:Int))),(12,.ptr 2 0 0)],[o44_14,oR true 1 (AV.int .u64) x5,o44_16,.row false false true true 1 [.int .u64 a7],.row false false true true 1 [vI (-1)]],113⟩ ?_
 refine wp_wk (wk_take 1 (zt (zw ((zn x5) - 1))) (enc:=(AV.int .u64)) (l:=x5) (st':=⟨[(1,eL true (AV.int .u64) p1),(6,.ptr 0 0 0),(11,.ref 1 0 (zt (zw ((zn x5) - 1)) - zt (0:Int))),(12,.ptr 2 0 0)],[o44_14,oR true 1 (AV.int .u64) (List.take (zt (zw ((zn x5) - 1))) x5),o44_16,.row false false true true 1 [.int .u64 a7],.row false false true true 1 [vI (-1)]],113⟩) rfl kr) ?_
 refine wp_wk (wk_eq (congrArg (fun n10=>(⟨[(1,eL true (AV.int .u64) p1),(6,.ptr 0 0 0),(11,.ref 1 0 n10),(12,.ptr 2 0 0)],[o44_14,oR true 1 (AV.int .u64) (List.take (zt (zw ((zn x5) - 1))) x5),o44_16,.row false false true true 1 [.int .u64 a7],.row false false true true 1 [vI (-1)]],113⟩:St)) (take_len q9))) ?_
 refine wwh h (fun s11=>⟨[(1,eL true (AV.int .u64) p1),(6,.ptr 0 0 0),(11,.ref 1 0 s11.1.length),(12,.ptr 2 0 0)],[o44_14,oR true 1 (AV.int .u64) s11.1,oX false false 3 (.agg [.ref 3 0 s11.2.1.length,.ref 4 0 s11.2.2.length,.nils]),oR true 1 (AV.int .u64) s11.2.1,oR true 1 eI s11.2.2],113⟩) (fun v out=>out=.go (.exit 0) ⟨[(1,eL true (AV.int .u64) p1),(6,.ptr 0 0 0),(12,.ptr 1 0 0)],[o44_14,oX false false 3 (.agg [.ref 2 0 v.1.length,.ref 3 0 v.2.length,.nils]),oR true 1 (AV.int .u64) v.1,oR true 1 eI v.2],113⟩) (wk_gc (live:=[1,6,11,12]) (keep:=[0,1,2,3,4]) kr) ?_ ?_
 ·intro s11 o h
  unfold g_tree_build_b2 at h
  refine wp_seq (sq ?_)
  refine wb [53] h (fun q17 h=>?_) (fun q17 h=>?_)
  ·refine wcT (wp_skip (wp_block (sq (wp_seq (sq (wp_block ?_))))))
   refine wwh h (fun s18=>⟨[(1,eL true (AV.int .u64) p1),(6,.ptr 0 0 0),(11,.ref 1 0 s11.1.length),(12,.ptr 2 0 0),(13,vI s18.1),(14,.ptr 3 0 0),(54,.ref 1 0 s11.1.length),(55,vI (zn s11.1)),(56,vI s18.2.1)],[o44_14,oR true 1 (AV.int .u64) s11.1,(o44_15 s11),oX true true 1 (vI s18.2.2),oR true 1 (AV.int .u64) s11.2.1,oR true 1 eI s11.2.2],113⟩) (fun v out=>out=.go (.exit 2) ⟨[(1,eL true (AV.int .u64) p1),(6,.ptr 0 0 0),(11,.ref 1 0 s11.1.length),(12,.ptr 2 0 0),(13,vI v.1),(14,.ptr 3 0 0)],[o44_14,oR true 1 (AV.int .u64) s11.1,(o44_15 s11),oX true true 1 (vI v.2),oR true 1 (AV.int .u64) s11.2.1,oR true 1 eI s11.2.2],113⟩) (wk_gc (live:=[1,6,11,12,13,14,54,55,56]) (keep:=[0,1,2,5,3,4]) kr) ?_ ?_
   ·intro s18 o h
    unfold g_tree_build_b0 at h
    refine sq (wp_seq ?_)
    refine wb [57] h (fun q20 h=>?_) (fun q20 h=>?_)
    ·refine wcT (wp_skip (wp_seq (wp_block (wp_seq (reg_in (sz 1 1 ?_))))))
     refine bind_elim h (fun a21 q22 h=>?_)
     refine idxR' (enc:=(AV.int .u64)) (l:=s11.1) (n:=s18.2.1) (w:=1) (ob:=1) (ro:=false) (nr:=true) (fl:=true) (a:=a21) kr kr gE q22 ?_
     refine loadR (enc:=(AV.int .u64)) (l:=s11.1) (n:=s18.2.1) (w:=1) (ob:=1) (c:=0) (bx:=false) (ro:=false) (nr:=true) (fl:=true) (a:=a21) kr kr q22 gE ?_
     refine sz 2 5 (reg_end rfl (wp_seq (reg_in (sz 3 3 ?_))))
     refine callR (as0:=[.ref 4 0 s11.2.1.length,.int .u64 a21]) (ids:=[4]) kr bodyB_65 (msnap_cons (snap_full (w:=1) (bx:=false) (ro:=false) kr) (msnap_cons rfl msnap_nil (by rfl)) (by rfl)) (fun x23 q24=>g_tree_most_ok s11.2.1 a21 x23 q24) gF h (fun x23 q24 h=>?_)
     refine sz 1 5 (reg_end rfl (wp_seq ?_))
     refine wgc [1,6,11,12,13,14,54,55,56,15,17] [0,1,2,3,4,5] ⟨[(1,eL true (AV.int .u64) p1),(6,.ptr 0 0 0),(11,.ref 1 0 s11.1.length),(12,.ptr 2 0 0),(13,vI s18.1),(14,.ptr 3 0 0),(54,.ref 1 0 s11.1.length),(55,vI (zn s11.1)),(56,vI s18.2.1),(15,vI s18.2.1),(17,vI x23)],[o44_14,oR true 1 (AV.int .u64) s11.1,(o44_15 s11),oX true true 1 (vI s18.2.2),oR true 1 (AV.int .u64) s11.2.1,oR true 1 eI s11.2.2],113⟩ ?_
     refine rn ?_
     refine wb [67] h (fun q26 h=>?_) (fun q26 h=>?_)
     ·refine wcT (rn (wg [1,6,11,12,13,14,54,55,56] [0,1,2,3,4,5] (rn ?_)))
      cases h
      exact ⟨_,rfl,(wk_gc (live:=[1,6,11,12,13,14,54,55,56]) (keep:=[0,1,2,3,4,5]) kr)⟩
     refine wcF (wp_skip (wg [1,6,11,12,13,14,54,55,56] [0,1,2,3,4,5] (rn ?_)))
     cases h
     exact ⟨_,rfl,(wk_gc (live:=[1,6,11,12,13,14,54,55,56]) (keep:=[0,1,2,3,4,5]) kr)⟩
    refine wcF (wg [1,6,11,12,13,14] [0,1,2,3,4,5] ?_)
    refine wp_exit ?_
    cases h
    exact ⟨kr,rfl⟩
   intro x28 h out hx
   subst hx
   refine wp_seq (reg_in (sz 2 2 ?_))
   refine bind_elim h (fun a29 q30 h=>?_)
   refine idxR' (enc:=(AV.int .u64)) (l:=s11.1) (n:=x28.1) (w:=1) (ob:=1) (ro:=false) (nr:=true) (fl:=true) (a:=a29) kr kr gE q30 ?_
   refine loadR (enc:=(AV.int .u64)) (l:=s11.1) (n:=x28.1) (w:=1) (ob:=1) (c:=0) (bx:=false) (ro:=false) (nr:=true) (fl:=true) (a:=a29) kr kr q30 gE ?_
   refine sz 2 6 (reg_end rfl (wp_seq (reg_in (sz 3 3 ?_))))
   refine inlR (f:=66) (fn:=Tryd.f66) (as0:=[.ref 4 0 s11.2.1.length,.fn (.func 67) [] [.ptr 6 0 0,.ptr 3 0 0]]) kr Tryd.func66 rfl (by decide +kernel) rfl ?_
   refine wp_eqB (base':=7) (st':=⟨[(0,.ref 4 0 s11.2.1.length),(1,.fn (.func 67) [] [.ptr 6 0 0,.ptr 3 0 0])],[o44_14,oR true 1 (AV.int .u64) s11.1,(o44_15 s11),oX true true 1 (vI x28.2),oR true 1 (AV.int .u64) s11.2.1,oR true 1 eI s11.2.2,oX true true 1 (.int .u64 a29)],19⟩) kr kr ?_
   refine sq (wp_seq (sq (wp_block ?_)))
   refine wwh h (fun s31=>⟨(s44_133 s11 s31),[o44_14,oR true 1 (AV.int .u64) s11.1,(o44_15 s11),oX true true 1 (vI x28.2),oR true 1 (AV.int .u64) s11.2.1,oR true 1 eI s11.2.2,oX true true 1 (.int .u64 a29)],19⟩) (fun x out=>out=match x with | .inl v=>.go (.ret) ⟨[(4,vI v)],[o44_14,oR true 1 (AV.int .u64) s11.1,(o44_15 s11),oX true true 1 (vI x28.2),oR true 1 (AV.int .u64) s11.2.1,oR true 1 eI s11.2.2,oX true true 1 (.int .u64 a29)],19⟩ | .inr v=>.go (.exit 0) ⟨[],[o44_14,oR true 1 (AV.int .u64) s11.1,(o44_15 s11),oX true true 1 (vI x28.2),oR true 1 (AV.int .u64) s11.2.1,oR true 1 eI s11.2.2,oX true true 1 (.int .u64 a29)],19⟩) (wk_gc (live:=[1,7,8,9]) (keep:=[]) kr) ?_ ?_
   ·intro s31 o h
    unfold g_tree_build_b1 at h
    refine sq (wp_seq ?_)
    refine wb [10] h (fun q33 h=>?_) (fun q33 h=>?_)
    ·refine wcT (wp_skip (wp_seq (wp_block (wp_seq (reg_in (sz 1 1 ?_))))))
     refine bind_elim h (fun a34 q35 h=>?_)
     refine idxR' (enc:=(AV.int .u64)) (l:=s11.2.1) (n:=s31) (w:=1) (ob:=4) (ro:=false) (nr:=true) (fl:=true) (a:=a34) kr kr gE q35 ?_
     refine loadR (enc:=(AV.int .u64)) (l:=s11.2.1) (n:=s31) (w:=1) (ob:=4) (c:=0) (bx:=false) (ro:=false) (nr:=true) (fl:=true) (a:=a34) kr kr q35 gE ?_
     refine sz 2 5 (reg_end rfl (wp_seq (reg_in (sz 2 2 ?_))))
     refine inlR (f:=67) (fn:=Tryd.f67) (as0:=[.int .u64 a34,.ptr 6 0 0,.ptr 3 0 0]) kr Tryd.func67 rfl (by decide +kernel) rfl ?_
     refine wp_eqB (base':=7) (st':=⟨[(0,.int .u64 a34),(1,.ptr 6 0 0),(2,.ptr 3 0 0)],[o44_14,oR true 1 (AV.int .u64) s11.1,(o44_15 s11),oX true true 1 (vI x28.2),oR true 1 (AV.int .u64) s11.2.1,oR true 1 eI s11.2.2,oX true true 1 (.int .u64 a29)],11⟩) kr kr ?_
     refine sq (wp_seq (rga hfol (sy 3 3 ?_)))
     refine callW bodyB_41 (g_math_bits_OnesCount_ok (zv (BitVec.ofInt (IntKind.bits .u64) a34 &&& BitVec.ofInt (IntKind.bits .u64) a29).toNat)) h (fun x36 _ h=>?_)
     refine sy 3 7 (rgd (wg [4] [] ?_))
     refine wp_ret ?_
     refine ⟨⟨(s44_133 s11 s31)++[(10,vB true),(11,vI s31),(12,.ptr 4 (zt s31) 0),(13,.int .u64 a34),(5,vI s31),(6,.int .u64 a34),(14,.fn (.func 67) [] [.ptr 6 0 0,.ptr 3 0 0]),(15,.int .u64 a34)]++[(16,vB (x36==x28.2))],[o44_14,oR true 1 (AV.int .u64) s11.1,(o44_15 s11),oX true true 1 (vI x28.2),oR true 1 (AV.int .u64) s11.2.1,oR true 1 eI s11.2.2,oX true true 1 (.int .u64 a29)],19⟩,by as_aux_lemma=>kernel_rfl,?_⟩
     refine reg_end rfl ?_
     refine wbz h (fun q39 h=>?_) (fun q39 h=>?_)
     ·refine wp_seq ?_
      refine wgc [5] [] ⟨[(5,vI s31)],[o44_14,oR true 1 (AV.int .u64) s11.1,(o44_15 s11),oX true true 1 (vI x28.2),oR true 1 (AV.int .u64) s11.2.1,oR true 1 eI s11.2.2,oX true true 1 (.int .u64 a29)],19⟩ ?_
      refine rn (wg [4] [] ?_)
      refine wp_ret ?_
      cases h
      exact ⟨kr,rfl⟩
     refine wp_skip ?_
     refine wgc [1,7,8,9] [] ⟨(s44_133 s11 s31),[o44_14,oR true 1 (AV.int .u64) s11.1,(o44_15 s11),oX true true 1 (vI x28.2),oR true 1 (AV.int .u64) s11.2.1,oR true 1 eI s11.2.2,oX true true 1 (.int .u64 a29)],19⟩ ?_
     refine rn ?_
     cases h
     exact ⟨_,rfl,(wk_gc (live:=[1,7,8,9]) (keep:=[]) kr)⟩
    refine wcF (wg [] [] ?_)
    refine wp_exit ?_
    cases h
    exact ⟨kr,rfl⟩
   intro x40 h out hx
   subst hx
   rcases x40 with x41 | x51
   ·dsimp only at h ⊢
    refine ⟨⟨[(1,eL true (AV.int .u64) p1),(6,.ptr 0 0 0),(11,.ref 1 0 s11.1.length),(12,.ptr 2 0 0),(13,vI x28.1),(14,.ptr 3 0 0)]++[(71,.ref 1 0 s11.1.length),(72,vI x28.1),(73,.ptr 1 (zt x28.1) 0),(74,.int .u64 a29),(18,.ptr 6 0 0),(75,.ptr 2 0 0),(76,.ref 4 0 s11.2.1.length),(77,.fn (.func 67) [] [.ptr 6 0 0,.ptr 3 0 0])]++[(78,vI x41)],[o44_14,oR true 1 (AV.int .u64) s11.1,(o44_15 s11),oX true true 1 (vI x28.2),oR true 1 (AV.int .u64) s11.2.1,oR true 1 eI s11.2.2,oX true true 1 (.int .u64 a29)],113⟩,by as_aux_lemma=>kernel_rfl,?_⟩
    refine sz 1 5 (reg_end rfl (wp_seq (wg [1,6,11,12,13,18,19] [0,1,2,6,4,5] (reg_in (sz 3 3 ?_)))))
    refine sgL false [] [] true gE ?_
    refine appR (enc:=(AV.int .u64)) (l:=s11.2.1) (m:=([a29]:(List Int))) (w:=1) (bytes:=8) (ob:=4) (nr:=true) (fl:=true) (nr':=true) (fl':=true) (b:=.ref 6 0 1) (rds:=[6]) false kr kr kr rfl gE kr h (fun h=>?_)
    refine sz 2 7 (reg_end rfl (wp_seq (wg [1,6,11,12,13,19] [0,1,2,7,5] (reg_in (sz 3 3 ?_)))))
    refine sgL false [] [] true gE ?_
    refine appR (enc:=eI) (l:=s11.2.2) (m:=([x41]:(List Int))) (w:=1) (bytes:=8) (ob:=4) (nr:=true) (fl:=true) (nr':=true) (fl':=true) (b:=.ref 5 0 1) (rds:=[5]) false kr kr kr rfl gE kr h (fun h=>?_)
    refine sz 2 7 (reg_end rfl ?_)
    refine wgc [1,6,11,12,13] [0,1,2,3,6] ⟨[(1,eL true (AV.int .u64) p1),(6,.ptr 0 0 0),(11,.ref 1 0 s11.1.length),(12,.ptr 2 0 0),(13,vI x28.1)],[o44_14,oR true 1 (AV.int .u64) s11.1,oX false false 3 (.agg [.ref 3 0 ((s11.2.1++([a29]:(List Int))).length),.ref 4 0 ((s11.2.2++([x41]:(List Int))).length),.nils]),oR true 1 (AV.int .u64) (s11.2.1++([a29]:(List Int))),oR true 1 eI (s11.2.2++([x41]:(List Int)))],113⟩ ?_
    refine reg_in (sz 4 4 ?_)
    refine inlR (f:=68) (fn:=Tryd.f68) (as0:=[.ref 1 0 s11.1.length,vI x28.1,vI (zw (x28.1+1))]) kr Tryd.func68 rfl (by decide +kernel) rfl ?_
    refine wp_eqB (base':=5) (st':=⟨[(0,.ref 1 0 s11.1.length),(1,vI x28.1),(2,vI (zw (x28.1+1)))],[o44_14,oR true 1 (AV.int .u64) s11.1,oX false false 3 (.agg [.ref 3 0 ((s11.2.1++([a29]:(List Int))).length),.ref 4 0 ((s11.2.2++([x41]:(List Int))).length),.nils]),oR true 1 (AV.int .u64) (s11.2.1++([a29]:(List Int))),oR true 1 eI (s11.2.2++([x41]:(List Int)))],33⟩) kr kr ?_
    refine sq (wp_seq (reg_in ?_))
    refine sgz 5 5 (S:=⟨[(0,.ref 1 0 s11.1.length),(1,vI x28.1),(2,vI (zw (x28.1+1))),(6,.nils),(8,.ref 1 0 s11.1.length),(9,vI x28.1),(10,vI (zw (x28.1+1))),(11,.ref 1 0 s11.1.length),(12,vI (zn s11.1))],[o44_14,oR true 1 (AV.int .u64) s11.1,oX false false 3 (.agg [.ref 3 0 ((s11.2.1++([a29]:(List Int))).length),.ref 4 0 ((s11.2.2++([x41]:(List Int))).length),.nils]),oR true 1 (AV.int .u64) (s11.2.1++([a29]:(List Int))),oR true 1 eI (s11.2.2++([x41]:(List Int)))],33⟩) ?_
    refine slice3R (enc:=(AV.int .u64)) (l:=s11.1) (ob:=1) (ro:=false) (nr:=true) (fl:=true) (k1:=.i64) (k2:=.i64) (k3:=.i64) (a:=x28.1) (b:=zw (x28.1+1)) (c:=(zn s11.1)) (w:=1) kr kr gE h (fun h=>?_)
    refine reg_end rfl (wp_seq (wp_seq (wg [0,1,2] [] (rn ?_))))
    refine wb [16] h (fun q43 h=>?_) (fun q43 h=>?_)
    ·refine wcT (wp_seq (wg [0] [] (rn (wg [6] [] ?_))))
     refine wp_ret ?_
     refine ⟨⟨[(1,eL true (AV.int .u64) p1),(6,.ptr 0 0 0),(11,.ref 1 0 s11.1.length),(12,.ptr 2 0 0),(13,vI x28.1)]++[(91,.ref 1 0 s11.1.length),(92,vI x28.1),(93,vI x28.1),(94,vI (zw (x28.1+1))),(95,.ref 1 0 s11.1.length)],[o44_14,oR true 1 (AV.int .u64) s11.1,oX false false 3 (.agg [.ref 3 0 ((s11.2.1++([a29]:(List Int))).length),.ref 4 0 ((s11.2.2++([x41]:(List Int))).length),.nils]),oR true 1 (AV.int .u64) (s11.2.1++([a29]:(List Int))),oR true 1 eI (s11.2.2++([x41]:(List Int)))],113⟩,by as_aux_lemma=>kernel_rfl,?_⟩
     refine sz 1 6 (reg_end rfl ?_)
     cases h
     exact ⟨_,rfl,(wk_gc (live:=[1,6,11,12]) (keep:=[0,1,2,3,4]) kr)⟩
    refine wcF (wp_skip (sq (wp_seq (wg [0,1,2,7] [] (rga hfol (sy 2 2 ?_))))))
    refine sliceP (enc:=(AV.int .u64)) (l:=s11.1) (ob:=1) (ro:=false) (nr:=true) (fl:=true) (lo:=none) (hi:=(some (vI x28.1))) (a:=0) (b:=x28.1) (w:=1) kr kr rfl rfl gE h (fun _ h=>?_)
    refine sy 2 5 ?_
    refine sliceP (enc:=(AV.int .u64)) (l:=s11.1) (ob:=1) (ro:=false) (nr:=true) (fl:=true) (lo:=(some (vI (zw (x28.1+1))))) (hi:=none) (a:=zw (x28.1+1)) (b:=(zn s11.1)) (w:=1) (S:=⟨[(0,.ref 1 0 s11.1.length),(1,vI x28.1),(2,vI (zw (x28.1+1))),(7,vI (zn s11.1))]++[(20,.ref 1 0 s11.1.length),(21,vI x28.1),(22,.ref 1 0 (zt x28.1 - zt (0:Int))),(23,.ref 1 0 s11.1.length),(24,vI (zw (x28.1+1))),(25,.ref 1 (zt (zw (x28.1+1))) (zt (zn s11.1) - zt (zw (x28.1+1))))],[o44_14,oR true 1 (AV.int .u64) s11.1,oX false false 3 (.agg [.ref 3 0 ((s11.2.1++([a29]:(List Int))).length),.ref 4 0 ((s11.2.2++([x41]:(List Int))).length),.nils]),oR true 1 (AV.int .u64) (s11.2.1++([a29]:(List Int))),oR true 1 eI (s11.2.2++([x41]:(List Int)))],33⟩) kr kr rfl rfl kr h (fun q45 h=>?_)
    refine appY (enc:=(AV.int .u64)) (l:=s11.1) (m:=(sub s11.1 (zw (x28.1+1)) (zn s11.1))) (w:=1) (bytes:=8) (ob:=1) (n0:=(zt x28.1 - zt (0:Int))) (nr:=true) (fl:=true) (b:=.ref 1 (zt (zw (x28.1+1))) (zt (zn s11.1) - zt (zw (x28.1+1)))) (rds:=[1]) kr kr (elems_part (a:=zw (x28.1+1)) (b:=(zn s11.1)) (ro:=false) kr q45) rfl gE kr h (fun q46 h=>?_)
    refine rknN (n:=s11.1.length) (m:=(ovr s11.1 (zt x28.1 - zt (0:Int)) (sub s11.1 (zw (x28.1+1)) (zn s11.1))).length) (S:=fun n47=>⟨[(0,.ref 1 0 n47),(1,vI x28.1),(2,vI (zw (x28.1+1))),(7,vI (zn s11.1)),(20,.ref 1 0 n47),(21,vI x28.1),(22,.ref 1 0 (zt x28.1 - zt (0:Int))),(23,.ref 1 0 n47),(24,vI (zw (x28.1+1))),(25,.ref 1 (zt (zw (x28.1+1))) (zt (zn s11.1) - zt (zw (x28.1+1)))),(26,.ref 1 0 ((zt x28.1 - zt (0:Int))+(sub s11.1 (zw (x28.1+1)) (zn s11.1)).length))],[o44_14,oR true 1 (AV.int .u64) (ovr s11.1 (zt x28.1 - zt (0:Int)) (sub s11.1 (zw (x28.1+1)) (zn s11.1))),oX false false 3 (.agg [.ref 3 0 ((s11.2.1++([a29]:(List Int))).length),.ref 4 0 ((s11.2.2++([x41]:(List Int))).length),.nils]),oR true 1 (AV.int .u64) (s11.2.1++([a29]:(List Int))),oR true 1 eI (s11.2.2++([x41]:(List Int)))],33⟩) (ovr_len ..) ?_
    refine sy 1 8 (rgd (wp_seq (wg [0,7] [] (reg_in ?_))))
    refine sgz 4 4 (S:=⟨[(0,.ref 1 0 ((zt x28.1 - zt (0:Int))+(sub s11.1 (zw (x28.1+1)) (zn s11.1)).length)),(7,vI (zn s11.1))]++[(27,.ref 1 0 ((zt x28.1 - zt (0:Int))+(sub s11.1 (zw (x28.1+1)) (zn s11.1)).length)),(28,.ref 1 0 ((zt x28.1 - zt (0:Int))+(sub s11.1 (zw (x28.1+1)) (zn s11.1)).length)),(29,vI ((((zt x28.1 - zt (0:Int))+(sub s11.1 (zw (x28.1+1)) (zn s11.1)).length):Nat):Int)),(30,vI (zn s11.1))],[o44_14,oR true 1 (AV.int .u64) (ovr s11.1 (zt x28.1 - zt (0:Int)) (sub s11.1 (zw (x28.1+1)) (zn s11.1))),oX false false 3 (.agg [.ref 3 0 ((s11.2.1++([a29]:(List Int))).length),.ref 4 0 ((s11.2.2++([x41]:(List Int))).length),.nils]),oR true 1 (AV.int .u64) (s11.2.1++([a29]:(List Int))),oR true 1 eI (s11.2.2++([x41]:(List Int)))],33⟩) ?_
    refine sliceQ (enc:=(AV.int .u64)) (l:=(ovr s11.1 (zt x28.1 - zt (0:Int)) (sub s11.1 (zw (x28.1+1)) (zn s11.1)))) (ob:=1) (n:=((zt x28.1 - zt (0:Int))+(sub s11.1 (zw (x28.1+1)) (zn s11.1)).length)) (ro:=false) (nr:=true) (fl:=true) (lo:=(some (vI ((((zt x28.1 - zt (0:Int))+(sub s11.1 (zw (x28.1+1)) (zn s11.1)).length):Nat):Int)))) (hi:=(some (vI (zn s11.1)))) (a:=((((zt x28.1 - zt (0:Int))+(sub s11.1 (zw (x28.1+1)) (zn s11.1)).length):Nat):Int)) (b:=(zn s11.1)) (w:=1) (S:=⟨[(0,.ref 1 0 ((zt x28.1 - zt (0:Int))+(sub s11.1 (zw (x28.1+1)) (zn s11.1)).length)),(7,vI (zn s11.1))]++[(27,.ref 1 0 ((zt x28.1 - zt (0:Int))+(sub s11.1 (zw (x28.1+1)) (zn s11.1)).length)),(28,.ref 1 0 ((zt x28.1 - zt (0:Int))+(sub s11.1 (zw (x28.1+1)) (zn s11.1)).length)),(29,vI ((((zt x28.1 - zt (0:Int))+(sub s11.1 (zw (x28.1+1)) (zn s11.1)).length):Nat):Int)),(30,vI (zn s11.1))]++[(31,.ref 1 (zt ((((zt x28.1 - zt (0:Int))+(sub s11.1 (zw (x28.1+1)) (zn s11.1)).length):Nat):Int)) (zt (zn s11.1) - zt ((((zt x28.1 - zt (0:Int))+(sub s11.1 (zw (x28.1+1)) (zn s11.1)).length):Nat):Int)))],[o44_14,oR true 1 (AV.int .u64) (ovr s11.1 (zt x28.1 - zt (0:Int)) (sub s11.1 (zw (x28.1+1)) (zn s11.1))),oX false false 3 (.agg [.ref 3 0 ((s11.2.1++([a29]:(List Int))).length),.ref 4 0 ((s11.2.2++([x41]:(List Int))).length),.nils]),oR true 1 (AV.int .u64) (s11.2.1++([a29]:(List Int))),oR true 1 eI (s11.2.2++([x41]:(List Int)))],33⟩) kr kr rfl rfl kr h (fun _ h=>?_)
    refine clearR (l:=(ovr s11.1 (zt x28.1 - zt (0:Int)) (sub s11.1 (zw (x28.1+1)) (zn s11.1)))) (kk:=.u64) (ob:=1) (i0:=(zt ((((zt x28.1 - zt (0:Int))+(sub s11.1 (zw (x28.1+1)) (zn s11.1)).length):Nat):Int))) (n0:=(zt (zn s11.1) - zt ((((zt x28.1 - zt (0:Int))+(sub s11.1 (zw (x28.1+1)) (zn s11.1)).length):Nat):Int))) (nr:=true) (fl:=true) kr kr gE kr h (fun h=>?_)
    refine reg_end rfl (wp_seq (wg [0] [] (rn (wg [6] [] ?_))))
    refine wp_ret ?_
    refine ⟨⟨[(1,eL true (AV.int .u64) p1),(6,.ptr 0 0 0),(11,.ref 1 0 s11.1.length),(12,.ptr 2 0 0),(13,vI x28.1)]++[(91,.ref 1 0 s11.1.length),(92,vI x28.1),(93,vI x28.1),(94,vI (zw (x28.1+1))),(95,.ref 1 0 ((zt x28.1 - zt (0:Int))+(sub s11.1 (zw (x28.1+1)) (zn s11.1)).length))],[o44_14,oR true 1 (AV.int .u64) (ovr (ovr s11.1 (zt x28.1 - zt (0:Int)) (sub s11.1 (zw (x28.1+1)) (zn s11.1))) (zt ((((zt x28.1 - zt (0:Int))+(sub s11.1 (zw (x28.1+1)) (zn s11.1)).length):Nat):Int)) (List.replicate (zt (zn s11.1) - zt ((((zt x28.1 - zt (0:Int))+(sub s11.1 (zw (x28.1+1)) (zn s11.1)).length):Nat):Int)) 0)),oX false false 3 (.agg [.ref 3 0 ((s11.2.1++([a29]:(List Int))).length),.ref 4 0 ((s11.2.2++([x41]:(List Int))).length),.nils]),oR true 1 (AV.int .u64) (s11.2.1++([a29]:(List Int))),oR true 1 eI (s11.2.2++([x41]:(List Int)))],113⟩,by as_aux_lemma=>kernel_rfl,?_⟩
    refine sgz 1 6 (S:=⟨[(1,eL true (AV.int .u64) p1),(6,.ptr 0 0 0),(11,.ref 1 0 ((zt x28.1 - zt (0:Int))+(sub s11.1 (zw (x28.1+1)) (zn s11.1)).length)),(12,.ptr 2 0 0)]++[(13,vI x28.1),(91,.ref 1 0 s11.1.length),(92,vI x28.1),(93,vI x28.1),(94,vI (zw (x28.1+1))),(95,.ref 1 0 ((zt x28.1 - zt (0:Int))+(sub s11.1 (zw (x28.1+1)) (zn s11.1)).length))],[o44_14,oR true 1 (AV.int .u64) (ovr (ovr s11.1 (zt x28.1 - zt (0:Int)) (sub s11.1 (zw (x28.1+1)) (zn s11.1))) (zt ((((zt x28.1 - zt (0:Int))+(sub s11.1 (zw (x28.1+1)) (zn s11.1)).length):Nat):Int)) (List.replicate (zt (zn s11.1) - zt ((((zt x28.1 - zt (0:Int))+(sub s11.1 (zw (x28.1+1)) (zn s11.1)).length):Nat):Int)) 0)),oX false false 3 (.agg [.ref 3 0 ((s11.2.1++([a29]:(List Int))).length),.ref 4 0 ((s11.2.2++([x41]:(List Int))).length),.nils]),oR true 1 (AV.int .u64) (s11.2.1++([a29]:(List Int))),oR true 1 eI (s11.2.2++([x41]:(List Int)))],113⟩) ?_
    refine reg_end rfl ?_
    cases h
    exact ⟨_,rfl,(wk_trans (wk_gc (live:=[1,6,11,12]) (keep:=[0,1,2,3,4]) (st':=⟨[(1,eL true (AV.int .u64) p1),(6,.ptr 0 0 0),(11,.ref 1 0 ((zt x28.1 - zt (0:Int))+(sub s11.1 (zw (x28.1+1)) (zn s11.1)).length)),(12,.ptr 2 0 0)],[o44_14,oR true 1 (AV.int .u64) (ovr (ovr s11.1 (zt x28.1 - zt (0:Int)) (sub s11.1 (zw (x28.1+1)) (zn s11.1))) (zt ((((zt x28.1 - zt (0:Int))+(sub s11.1 (zw (x28.1+1)) (zn s11.1)).length):Nat):Int)) (List.replicate (zt (zn s11.1) - zt ((((zt x28.1 - zt (0:Int))+(sub s11.1 (zw (x28.1+1)) (zn s11.1)).length):Nat):Int)) 0)),oX false false 3 (.agg [.ref 3 0 ((s11.2.1++([a29]:(List Int))).length),.ref 4 0 ((s11.2.2++([x41]:(List Int))).length),.nils]),oR true 1 (AV.int .u64) (s11.2.1++([a29]:(List Int))),oR true 1 eI (s11.2.2++([x41]:(List Int)))],113⟩) kr) (wk_trans (wk_take 1 ((zt x28.1 - zt (0:Int))+(sub s11.1 (zw (x28.1+1)) (zn s11.1)).length) (enc:=(AV.int .u64)) (l:=(ovr (ovr s11.1 (zt x28.1 - zt (0:Int)) (sub s11.1 (zw (x28.1+1)) (zn s11.1))) (zt ((((zt x28.1 - zt (0:Int))+(sub s11.1 (zw (x28.1+1)) (zn s11.1)).length):Nat):Int)) (List.replicate (zt (zn s11.1) - zt ((((zt x28.1 - zt (0:Int))+(sub s11.1 (zw (x28.1+1)) (zn s11.1)).length):Nat):Int)) 0))) rfl kr) (wk_eq (congrArg (fun n50=>(⟨[(1,eL true (AV.int .u64) p1),(6,.ptr 0 0 0),(11,.ref 1 0 n50),(12,.ptr 2 0 0)],[o44_14,oR true 1 (AV.int .u64) (List.take ((zt x28.1 - zt (0:Int))+(sub s11.1 (zw (x28.1+1)) (zn s11.1)).length) (ovr (ovr s11.1 (zt x28.1 - zt (0:Int)) (sub s11.1 (zw (x28.1+1)) (zn s11.1))) (zt ((((zt x28.1 - zt (0:Int))+(sub s11.1 (zw (x28.1+1)) (zn s11.1)).length):Nat):Int)) (List.replicate (zt (zn s11.1) - zt ((((zt x28.1 - zt (0:Int))+(sub s11.1 (zw (x28.1+1)) (zn s11.1)).length):Nat):Int)) 0))),oX false false 3 (.agg [.ref 3 0 ((s11.2.1++([a29]:(List Int))).length),.ref 4 0 ((s11.2.2++([x41]:(List Int))).length),.nils]),oR true 1 (AV.int .u64) (s11.2.1++([a29]:(List Int))),oR true 1 eI (s11.2.2++([x41]:(List Int)))],113⟩:St)) (take_len' (Nat.le_trans (Nat.le_trans q46.2 (Nat.le_of_eq (ovr_len ..))) (Nat.le_of_eq (ovr_len ..))))))))⟩
   ·dsimp only at h ⊢
    refine sq (wg [4] [] ?_)
    refine wp_ret ?_
    refine ⟨⟨[(1,eL true (AV.int .u64) p1),(6,.ptr 0 0 0),(11,.ref 1 0 s11.1.length),(12,.ptr 2 0 0),(13,vI x28.1),(14,.ptr 3 0 0)]++[(71,.ref 1 0 s11.1.length),(72,vI x28.1),(73,.ptr 1 (zt x28.1) 0),(74,.int .u64 a29),(18,.ptr 6 0 0),(75,.ptr 2 0 0),(76,.ref 4 0 s11.2.1.length),(77,.fn (.func 67) [] [.ptr 6 0 0,.ptr 3 0 0])]++[(78,vI (-1))],[o44_14,oR true 1 (AV.int .u64) s11.1,(o44_15 s11),oX true true 1 (vI x28.2),oR true 1 (AV.int .u64) s11.2.1,oR true 1 eI s11.2.2,oX true true 1 (.int .u64 a29)],113⟩,by as_aux_lemma=>kernel_rfl,?_⟩
    refine sz 1 5 (reg_end rfl (wp_seq (wg [1,6,11,12,13,18,19] [0,1,2,6,4,5] (reg_in (sz 3 3 ?_)))))
    refine sgL false [] [] true gE ?_
    refine appR (enc:=(AV.int .u64)) (l:=s11.2.1) (m:=([a29]:(List Int))) (w:=1) (bytes:=8) (ob:=4) (nr:=true) (fl:=true) (nr':=true) (fl':=true) (b:=.ref 6 0 1) (rds:=[6]) false kr kr kr rfl gE kr h (fun h=>?_)
    refine sz 2 7 (reg_end rfl (wp_seq ?_))
    refine wgc [1,6,11,12,13,19] [0,1,2,7,5] ⟨[(1,eL true (AV.int .u64) p1),(6,.ptr 0 0 0),(11,.ref 1 0 s11.1.length),(12,.ptr 2 0 0),(13,vI x28.1),(19,vI (-1))],[o44_14,oR true 1 (AV.int .u64) s11.1,oX false false 3 (.agg [.ref 3 0 ((s11.2.1++([a29]:(List Int))).length),.ref 4 0 s11.2.2.length,.nils]),oR true 1 (AV.int .u64) (s11.2.1++([a29]:(List Int))),oR true 1 eI s11.2.2],113⟩ ?_
    refine reg_in (sz 3 3 ?_)
    refine sgL false [] [] true gE ?_
    refine appR (enc:=eI) (l:=s11.2.2) (m:=([-1]:(List Int))) (w:=1) (bytes:=8) (ob:=4) (nr:=true) (fl:=true) (nr':=true) (fl':=true) (b:=.ref 5 0 1) (rds:=[5]) false kr kr kr rfl gE kr h (fun h=>?_)
    refine sz 2 7 (reg_end rfl (wg [1,6,11,12,13] [0,1,2,3,6] (reg_in (sz 4 4 ?_))))
    refine inlR (f:=68) (fn:=Tryd.f68) (as0:=[.ref 1 0 s11.1.length,vI x28.1,vI (zw (x28.1+1))]) kr Tryd.func68 rfl (by decide +kernel) rfl ?_
    refine wp_eqB (base':=5) (st':=⟨[(0,.ref 1 0 s11.1.length),(1,vI x28.1),(2,vI (zw (x28.1+1)))],[o44_14,oR true 1 (AV.int .u64) s11.1,oX false false 3 (.agg [.ref 3 0 ((s11.2.1++([a29]:(List Int))).length),.ref 4 0 ((s11.2.2++([-1]:(List Int))).length),.nils]),oR true 1 (AV.int .u64) (s11.2.1++([a29]:(List Int))),oR true 1 eI (s11.2.2++([-1]:(List Int)))],33⟩) kr kr ?_
    refine sq (wp_seq (reg_in ?_))
    refine sgz 5 5 (S:=⟨[(0,.ref 1 0 s11.1.length),(1,vI x28.1),(2,vI (zw (x28.1+1))),(6,.nils),(8,.ref 1 0 s11.1.length),(9,vI x28.1),(10,vI (zw (x28.1+1))),(11,.ref 1 0 s11.1.length),(12,vI (zn s11.1))],[o44_14,oR true 1 (AV.int .u64) s11.1,oX false false 3 (.agg [.ref 3 0 ((s11.2.1++([a29]:(List Int))).length),.ref 4 0 ((s11.2.2++([-1]:(List Int))).length),.nils]),oR true 1 (AV.int .u64) (s11.2.1++([a29]:(List Int))),oR true 1 eI (s11.2.2++([-1]:(List Int)))],33⟩) ?_
    refine slice3R (enc:=(AV.int .u64)) (l:=s11.1) (ob:=1) (ro:=false) (nr:=true) (fl:=true) (k1:=.i64) (k2:=.i64) (k3:=.i64) (a:=x28.1) (b:=zw (x28.1+1)) (c:=(zn s11.1)) (w:=1) kr kr gE h (fun h=>?_)
    refine reg_end rfl (wp_seq (wp_seq (wg [0,1,2] [] (rn ?_))))
    refine wb [16] h (fun q53 h=>?_) (fun q53 h=>?_)
    ·refine wcT (wp_seq (wg [0] [] (rn (wg [6] [] ?_))))
     refine wp_ret ?_
     refine ⟨⟨[(1,eL true (AV.int .u64) p1),(6,.ptr 0 0 0),(11,.ref 1 0 s11.1.length),(12,.ptr 2 0 0),(13,vI x28.1)]++[(91,.ref 1 0 s11.1.length),(92,vI x28.1),(93,vI x28.1),(94,vI (zw (x28.1+1))),(95,.ref 1 0 s11.1.length)],[o44_14,oR true 1 (AV.int .u64) s11.1,oX false false 3 (.agg [.ref 3 0 ((s11.2.1++([a29]:(List Int))).length),.ref 4 0 ((s11.2.2++([-1]:(List Int))).length),.nils]),oR true 1 (AV.int .u64) (s11.2.1++([a29]:(List Int))),oR true 1 eI (s11.2.2++([-1]:(List Int)))],113⟩,by as_aux_lemma=>kernel_rfl,?_⟩
     refine sz 1 6 (reg_end rfl ?_)
     cases h
     exact ⟨_,rfl,(wk_gc (live:=[1,6,11,12]) (keep:=[0,1,2,3,4]) kr)⟩
    refine wcF (wp_skip (sq (wp_seq (wg [0,1,2,7] [] (rga hfol (sy 2 2 ?_))))))
    refine sliceP (enc:=(AV.int .u64)) (l:=s11.1) (ob:=1) (ro:=false) (nr:=true) (fl:=true) (lo:=none) (hi:=(some (vI x28.1))) (a:=0) (b:=x28.1) (w:=1) kr kr rfl rfl gE h (fun _ h=>?_)
    refine sy 2 5 ?_
    refine sliceP (enc:=(AV.int .u64)) (l:=s11.1) (ob:=1) (ro:=false) (nr:=true) (fl:=true) (lo:=(some (vI (zw (x28.1+1))))) (hi:=none) (a:=zw (x28.1+1)) (b:=(zn s11.1)) (w:=1) (S:=⟨[(0,.ref 1 0 s11.1.length),(1,vI x28.1),(2,vI (zw (x28.1+1))),(7,vI (zn s11.1))]++[(20,.ref 1 0 s11.1.length),(21,vI x28.1),(22,.ref 1 0 (zt x28.1 - zt (0:Int))),(23,.ref 1 0 s11.1.length),(24,vI (zw (x28.1+1))),(25,.ref 1 (zt (zw (x28.1+1))) (zt (zn s11.1) - zt (zw (x28.1+1))))],[o44_14,oR true 1 (AV.int .u64) s11.1,oX false false 3 (.agg [.ref 3 0 ((s11.2.1++([a29]:(List Int))).length),.ref 4 0 ((s11.2.2++([-1]:(List Int))).length),.nils]),oR true 1 (AV.int .u64) (s11.2.1++([a29]:(List Int))),oR true 1 eI (s11.2.2++([-1]:(List Int)))],33⟩) kr kr rfl rfl kr h (fun q55 h=>?_)
    refine appY (enc:=(AV.int .u64)) (l:=s11.1) (m:=(sub s11.1 (zw (x28.1+1)) (zn s11.1))) (w:=1) (bytes:=8) (ob:=1) (n0:=(zt x28.1 - zt (0:Int))) (nr:=true) (fl:=true) (b:=.ref 1 (zt (zw (x28.1+1))) (zt (zn s11.1) - zt (zw (x28.1+1)))) (rds:=[1]) kr kr (elems_part (a:=zw (x28.1+1)) (b:=(zn s11.1)) (ro:=false) kr q55) rfl gE kr h (fun q56 h=>?_)
    refine rknN (n:=s11.1.length) (m:=(ovr s11.1 (zt x28.1 - zt (0:Int)) (sub s11.1 (zw (x28.1+1)) (zn s11.1))).length) (S:=fun n57=>⟨[(0,.ref 1 0 n57),(1,vI x28.1),(2,vI (zw (x28.1+1))),(7,vI (zn s11.1)),(20,.ref 1 0 n57),(21,vI x28.1),(22,.ref 1 0 (zt x28.1 - zt (0:Int))),(23,.ref 1 0 n57),(24,vI (zw (x28.1+1))),(25,.ref 1 (zt (zw (x28.1+1))) (zt (zn s11.1) - zt (zw (x28.1+1)))),(26,.ref 1 0 ((zt x28.1 - zt (0:Int))+(sub s11.1 (zw (x28.1+1)) (zn s11.1)).length))],[o44_14,oR true 1 (AV.int .u64) (ovr s11.1 (zt x28.1 - zt (0:Int)) (sub s11.1 (zw (x28.1+1)) (zn s11.1))),oX false false 3 (.agg [.ref 3 0 ((s11.2.1++([a29]:(List Int))).length),.ref 4 0 ((s11.2.2++([-1]:(List Int))).length),.nils]),oR true 1 (AV.int .u64) (s11.2.1++([a29]:(List Int))),oR true 1 eI (s11.2.2++([-1]:(List Int)))],33⟩) (ovr_len ..) ?_
    refine sy 1 8 (rgd (wp_seq (wg [0,7] [] (reg_in ?_))))
    refine sgz 4 4 (S:=⟨[(0,.ref 1 0 ((zt x28.1 - zt (0:Int))+(sub s11.1 (zw (x28.1+1)) (zn s11.1)).length)),(7,vI (zn s11.1))]++[(27,.ref 1 0 ((zt x28.1 - zt (0:Int))+(sub s11.1 (zw (x28.1+1)) (zn s11.1)).length)),(28,.ref 1 0 ((zt x28.1 - zt (0:Int))+(sub s11.1 (zw (x28.1+1)) (zn s11.1)).length)),(29,vI ((((zt x28.1 - zt (0:Int))+(sub s11.1 (zw (x28.1+1)) (zn s11.1)).length):Nat):Int)),(30,vI (zn s11.1))],[o44_14,oR true 1 (AV.int .u64) (ovr s11.1 (zt x28.1 - zt (0:Int)) (sub s11.1 (zw (x28.1+1)) (zn s11.1))),oX false false 3 (.agg [.ref 3 0 ((s11.2.1++([a29]:(List Int))).length),.ref 4 0 ((s11.2.2++([-1]:(List Int))).length),.nils]),oR true 1 (AV.int .u64) (s11.2.1++([a29]:(List Int))),oR true 1 eI (s11.2.2++([-1]:(List Int)))],33⟩) ?_
    refine sliceQ (enc:=(AV.int .u64)) (l:=(ovr s11.1 (zt x28.1 - zt (0:Int)) (sub s11.1 (zw (x28.1+1)) (zn s11.1)))) (ob:=1) (n:=((zt x28.1 - zt (0:Int))+(sub s11.1 (zw (x28.1+1)) (zn s11.1)).length)) (ro:=false) (nr:=true) (fl:=true) (lo:=(some (vI ((((zt x28.1 - zt (0:Int))+(sub s11.1 (zw (x28.1+1)) (zn s11.1)).length):Nat):Int)))) (hi:=(some (vI (zn s11.1)))) (a:=((((zt x28.1 - zt (0:Int))+(sub s11.1 (zw (x28.1+1)) (zn s11.1)).length):Nat):Int)) (b:=(zn s11.1)) (w:=1) (S:=⟨[(0,.ref 1 0 ((zt x28.1 - zt (0:Int))+(sub s11.1 (zw (x28.1+1)) (zn s11.1)).length)),(7,vI (zn s11.1))]++[(27,.ref 1 0 ((zt x28.1 - zt (0:Int))+(sub s11.1 (zw (x28.1+1)) (zn s11.1)).length)),(28,.ref 1 0 ((zt x28.1 - zt (0:Int))+(sub s11.1 (zw (x28.1+1)) (zn s11.1)).length)),(29,vI ((((zt x28.1 - zt (0:Int))+(sub s11.1 (zw (x28.1+1)) (zn s11.1)).length):Nat):Int)),(30,vI (zn s11.1))]++[(31,.ref 1 (zt ((((zt x28.1 - zt (0:Int))+(sub s11.1 (zw (x28.1+1)) (zn s11.1)).length):Nat):Int)) (zt (zn s11.1) - zt ((((zt x28.1 - zt (0:Int))+(sub s11.1 (zw (x28.1+1)) (zn s11.1)).length):Nat):Int)))],[o44_14,oR true 1 (AV.int .u64) (ovr s11.1 (zt x28.1 - zt (0:Int)) (sub s11.1 (zw (x28.1+1)) (zn s11.1))),oX false false 3 (.agg [.ref 3 0 ((s11.2.1++([a29]:(List Int))).length),.ref 4 0 ((s11.2.2++([-1]:(List Int))).length),.nils]),oR true 1 (AV.int .u64) (s11.2.1++([a29]:(List Int))),oR true 1 eI (s11.2.2++([-1]:(List Int)))],33⟩) kr kr rfl rfl kr h (fun _ h=>?_)
    refine clearR (l:=(ovr s11.1 (zt x28.1 - zt (0:Int)) (sub s11.1 (zw (x28.1+1)) (zn s11.1)))) (kk:=.u64) (ob:=1) (i0:=(zt ((((zt x28.1 - zt (0:Int))+(sub s11.1 (zw (x28.1+1)) (zn s11.1)).length):Nat):Int))) (n0:=(zt (zn s11.1) - zt ((((zt x28.1 - zt (0:Int))+(sub s11.1 (zw (x28.1+1)) (zn s11.1)).length):Nat):Int))) (nr:=true) (fl:=true) kr kr gE kr h (fun h=>?_)
    refine reg_end rfl (wp_seq (wg [0] [] (rn (wg [6] [] ?_))))
    refine wp_ret ?_
    refine ⟨⟨[(1,eL true (AV.int .u64) p1),(6,.ptr 0 0 0),(11,.ref 1 0 s11.1.length),(12,.ptr 2 0 0),(13,vI x28.1)]++[(91,.ref 1 0 s11.1.length),(92,vI x28.1),(93,vI x28.1),(94,vI (zw (x28.1+1))),(95,.ref 1 0 ((zt x28.1 - zt (0:Int))+(sub s11.1 (zw (x28.1+1)) (zn s11.1)).length))],[o44_14,oR true 1 (AV.int .u64) (ovr (ovr s11.1 (zt x28.1 - zt (0:Int)) (sub s11.1 (zw (x28.1+1)) (zn s11.1))) (zt ((((zt x28.1 - zt (0:Int))+(sub s11.1 (zw (x28.1+1)) (zn s11.1)).length):Nat):Int)) (List.replicate (zt (zn s11.1) - zt ((((zt x28.1 - zt (0:Int))+(sub s11.1 (zw (x28.1+1)) (zn s11.1)).length):Nat):Int)) 0)),oX false false 3 (.agg [.ref 3 0 ((s11.2.1++([a29]:(List Int))).length),.ref 4 0 ((s11.2.2++([-1]:(List Int))).length),.nils]),oR true 1 (AV.int .u64) (s11.2.1++([a29]:(List Int))),oR true 1 eI (s11.2.2++([-1]:(List Int)))],113⟩,by as_aux_lemma=>kernel_rfl,?_⟩
    refine sgz 1 6 (S:=⟨[(1,eL true (AV.int .u64) p1),(6,.ptr 0 0 0),(11,.ref 1 0 ((zt x28.1 - zt (0:Int))+(sub s11.1 (zw (x28.1+1)) (zn s11.1)).length)),(12,.ptr 2 0 0)]++[(13,vI x28.1),(91,.ref 1 0 s11.1.length),(92,vI x28.1),(93,vI x28.1),(94,vI (zw (x28.1+1))),(95,.ref 1 0 ((zt x28.1 - zt (0:Int))+(sub s11.1 (zw (x28.1+1)) (zn s11.1)).length))],[o44_14,oR true 1 (AV.int .u64) (ovr (ovr s11.1 (zt x28.1 - zt (0:Int)) (sub s11.1 (zw (x28.1+1)) (zn s11.1))) (zt ((((zt x28.1 - zt (0:Int))+(sub s11.1 (zw (x28.1+1)) (zn s11.1)).length):Nat):Int)) (List.replicate (zt (zn s11.1) - zt ((((zt x28.1 - zt (0:Int))+(sub s11.1 (zw (x28.1+1)) (zn s11.1)).length):Nat):Int)) 0)),oX false false 3 (.agg [.ref 3 0 ((s11.2.1++([a29]:(List Int))).length),.ref 4 0 ((s11.2.2++([-1]:(List Int))).length),.nils]),oR true 1 (AV.int .u64) (s11.2.1++([a29]:(List Int))),oR true 1 eI (s11.2.2++([-1]:(List Int)))],113⟩) ?_
    refine reg_end rfl ?_
    cases h
    exact ⟨_,rfl,(wk_trans (wk_gc (live:=[1,6,11,12]) (keep:=[0,1,2,3,4]) (st':=⟨[(1,eL true (AV.int .u64) p1),(6,.ptr 0 0 0),(11,.ref 1 0 ((zt x28.1 - zt (0:Int))+(sub s11.1 (zw (x28.1+1)) (zn s11.1)).length)),(12,.ptr 2 0 0)],[o44_14,oR true 1 (AV.int .u64) (ovr (ovr s11.1 (zt x28.1 - zt (0:Int)) (sub s11.1 (zw (x28.1+1)) (zn s11.1))) (zt ((((zt x28.1 - zt (0:Int))+(sub s11.1 (zw (x28.1+1)) (zn s11.1)).length):Nat):Int)) (List.replicate (zt (zn s11.1) - zt ((((zt x28.1 - zt (0:Int))+(sub s11.1 (zw (x28.1+1)) (zn s11.1)).length):Nat):Int)) 0)),oX false false 3 (.agg [.ref 3 0 ((s11.2.1++([a29]:(List Int))).length),.ref 4 0 ((s11.2.2++([-1]:(List Int))).length),.nils]),oR true 1 (AV.int .u64) (s11.2.1++([a29]:(List Int))),oR true 1 eI (s11.2.2++([-1]:(List Int)))],113⟩) kr) (wk_trans (wk_take 1 ((zt x28.1 - zt (0:Int))+(sub s11.1 (zw (x28.1+1)) (zn s11.1)).length) (enc:=(AV.int .u64)) (l:=(ovr (ovr s11.1 (zt x28.1 - zt (0:Int)) (sub s11.1 (zw (x28.1+1)) (zn s11.1))) (zt ((((zt x28.1 - zt (0:Int))+(sub s11.1 (zw (x28.1+1)) (zn s11.1)).length):Nat):Int)) (List.replicate (zt (zn s11.1) - zt ((((zt x28.1 - zt (0:Int))+(sub s11.1 (zw (x28.1+1)) (zn s11.1)).length):Nat):Int)) 0))) rfl kr) (wk_eq (congrArg (fun n60=>(⟨[(1,eL true (AV.int .u64) p1),(6,.ptr 0 0 0),(11,.ref 1 0 n60),(12,.ptr 2 0 0)],[o44_14,oR true 1 (AV.int .u64) (List.take ((zt x28.1 - zt (0:Int))+(sub s11.1 (zw (x28.1+1)) (zn s11.1)).length) (ovr (ovr s11.1 (zt x28.1 - zt (0:Int)) (sub s11.1 (zw (x28.1+1)) (zn s11.1))) (zt ((((zt x28.1 - zt (0:Int))+(sub s11.1 (zw (x28.1+1)) (zn s11.1)).length):Nat):Int)) (List.replicate (zt (zn s11.1) - zt ((((zt x28.1 - zt (0:Int))+(sub s11.1 (zw (x28.1+1)) (zn s11.1)).length):Nat):Int)) 0))),oX false false 3 (.agg [.ref 3 0 ((s11.2.1++([a29]:(List Int))).length),.ref 4 0 ((s11.2.2++([-1]:(List Int))).length),.nils]),oR true 1 (AV.int .u64) (s11.2.1++([a29]:(List Int))),oR true 1 eI (s11.2.2++([-1]:(List Int)))],113⟩:St)) (take_len' (Nat.le_trans (Nat.le_trans q56.2 (Nat.le_of_eq (ovr_len ..))) (Nat.le_of_eq (ovr_len ..))))))))⟩
  refine wcF (wg [1,6,12] [0,2,3,4] ?_)
  refine wp_exit ?_
  cases h
  exact ⟨kr,rfl⟩
 intro x62 h out hx
 subst hx
 refine wp_seq (wp_seq (reg_in (sz 1 1 ?_)))
 refine lenL (enc:=(AV.int .u64)) (l:=p1) (fl:=true) kr gE ?_
 refine sz 1 3 (reg_end rfl (wp_block ?_))
 refine wwh h (fun s63=>⟨[(6,.ptr 0 0 0),(12,.ptr 1 0 0),(96,eL true (AV.int .u64) p1),(97,vI (zn p1)),(98,vI s63.1)],[o44_14,oX false false 3 (.agg [.ref 2 0 x62.1.length,.ref 3 0 x62.2.length,.ref 4 0 s63.2.length]),oR true 1 (AV.int .u64) x62.1,oR true 1 eI x62.2,oR true 1 eI s63.2],113⟩) (fun v out=>out=.go (.exit 4) ⟨[(6,.ptr 0 0 0),(12,.ptr 1 0 0)],[o44_14,oX false false 3 (.agg [.ref 2 0 x62.1.length,.ref 3 0 x62.2.length,.ref 4 0 v.length]),oR true 1 (AV.int .u64) x62.1,oR true 1 eI x62.2,oR true 1 eI v],113⟩) (wk_trans (wk_gc (live:=[6,12,96,97,98]) (keep:=[0,1,2,3]) (st':=⟨[(6,.ptr 0 0 0),(12,.ptr 1 0 0),(96,eL true (AV.int .u64) p1),(97,vI (zn p1)),(98,vI 0)],[o44_14,oX false false 3 (.agg [.ref 2 0 x62.1.length,.ref 3 0 x62.2.length,.nils]),oR true 1 (AV.int .u64) x62.1,oR true 1 eI x62.2],113⟩) kr) (wk_trans (wk_nilO 1 0 2 1 true true (st':=⟨[(6,.ptr 0 0 0),(12,.ptr 1 0 0),(96,eL true (AV.int .u64) p1),(97,vI (zn p1)),(98,vI 0)],[o44_14,oX false false 3 (.agg [.ref 2 0 x62.1.length,.ref 3 0 x62.2.length,.ref 4 0 0]),oR true 1 (AV.int .u64) x62.1,oR true 1 eI x62.2,.row false false true true 1 []],113⟩) kr) (wk_gc (live:=[6,12,96,97,98]) (keep:=[0,1,2,3,4]) kr))) ?_ ?_
 ·intro s63 o h
  unfold g_tree_build_b3 at h
  refine sq (wp_seq ?_)
  refine wb [99] h (fun q65 h=>?_) (fun q65 h=>?_)
  ·refine wcT (wp_skip (wp_seq (wp_block (wp_seq (reg_in ?_)))))
   refine bind_elim h (fun a66 q67 h=>?_)
   refine idxL' (enc:=(AV.int .u64)) (l:=p1) (n:=s63.1) (fl:=true) (w:=1) (a:=a66) kr rfl gE q67 ?_
   refine sz 3 4 (reg_end rfl (rga hfol ?_))
   refine sgy 5 5 (S:=⟨[(6,.ptr 0 0 0),(12,.ptr 1 0 0),(96,eL true (AV.int .u64) p1),(97,vI (zn p1)),(98,vI s63.1)]++[(99,vB true),(100,.fz [.int .u64 a66]),(101,.int .u64 a66),(21,.ptr 5 0 0),(102,.ptr 1 0 2),(103,.ref 4 0 s63.2.length),(104,.ptr 1 0 0),(105,.ref 2 0 x62.1.length),(106,.fn (.func 69) [] [.ptr 5 0 0])],[o44_14,oX false false 3 (.agg [.ref 2 0 x62.1.length,.ref 3 0 x62.2.length,.ref 4 0 s63.2.length]),oR true 1 (AV.int .u64) x62.1,oR true 1 eI x62.2,oR true 1 eI s63.2,oX true true 1 (.int .u64 a66)],113⟩) ?_
   refine callR (as0:=[.ref 2 0 x62.1.length,.fn (.func 69) [] [.ptr 5 0 0]]) (ids:=[2,5]) kr bodyB_66 (msnap_cons (snap_full (w:=1) (bx:=false) (ro:=false) kr) (msnap_cons (snap_fn msnap_nil (msnap_cons (snap_ptr rfl (msnap_cons rfl msnap_nil (by rfl)) (by rfl) (by rfl)) msnap_nil (by rfl)) (by rfl)) msnap_nil (by rfl)) (by rfl)) (fun x68 q69=>g_tree_first_uint_k0_ok x62.1 a66 x68 q69) gF h (fun x68 q69 h=>?_)
   refine sgL false [] [] true gE ?_
   refine appR (enc:=eI) (l:=s63.2) (m:=([x68]:(List Int))) (w:=1) (bytes:=8) (ob:=4) (nr:=true) (fl:=true) (nr':=true) (fl':=true) (b:=.ref 6 0 1) (rds:=[6]) false kr kr kr rfl gE kr h (fun h=>?_)
   refine sy 2 10 (rgd (wg [6,12,96,97,98] [0,1,2,3,7] (rn ?_)))
   cases h
   exact ⟨_,rfl,(wk_gc (live:=[6,12,96,97,98]) (keep:=[0,1,2,3,4]) kr)⟩
  refine wcF (wg [6,12] [0,1,2,3,4] ?_)
  refine wp_exit ?_
  cases h
  exact ⟨kr,rfl⟩
 intro x71 h out hx
 subst hx
 refine sq (wg [6,7] [0,2,3,4] ?_)
 cases h
 exact wp_ret (show fnOut _ _ _ _=_ from by kernel_rfl)
theorem g_tree_Make_ok (p0:Tapi_Net) (p1:(List Int)) (x:(Tapi_Tree × Int)) (h:g_tree_Make p0 p1=some x):CallOk Tryd.prog 22 [.agg [vI p0.Grain,eL false eTapi_Node p0.Nodes],z1 p1] (.ret (.tup [.agg [.ref 0 0 x.1.Cliques.length,.ref 1 0 x.1.Up.length,.ref 2 0 x.1.Home.length],vI x.2]) [oR true 1 (AV.int .u64) x.1.Cliques,oR true 1 eI x.1.Up,oR true 1 eI x.1.Home]):=by
 refine fn_ok [] Tryd.func22 rfl (by decide +kernel) rfl ?_
 unfold g_tree_Make at h
 refine wp_eqB (base':=0) (st':=⟨[(0,.agg [vI p0.Grain,eL false eTapi_Node p0.Nodes]),(1,z1 p1)],[],59⟩) kr kr ?_
 refine wp_seq (reg_in ?_)
 refine sgL false [] [] false gE ?_
 refine sgL false [] [] false gE ?_
 refine sz 1 3 (reg_end rfl (wp_seq (reg_in (sz 1 1 ?_))))
 refine callW bodyB_42 (g_tree_readFamilies_ok p0) h (fun x1 _ h=>?_)
 refine sz 5 7 (reg_end rfl (wp_seq (wp_seq (wg [1,2,4,6,7] [0,1,2] (rn ?_)))))
 refine wb [17] h (fun q4 h=>?_) (fun q4 h=>?_)
 ·refine wcT (wp_seq ?_)
  refine wgc [4,7] [1] ⟨[(4,.ptr 0 0 0),(7,vI x1.2)],[oX true false 3 (.agg [.nils,.nils,.nils])],59⟩ ?_
  refine rn (wg [4,5] [0] ?_)
  refine wp_wk (wk_nilO 0 0 0 1 true true gE) ?_
  refine wp_wk (wk_nilO 0 0 1 1 true true gE) ?_
  refine wp_wk (wk_nilO 0 0 2 1 true true gE) ?_
  cases h
  exact wp_ret (show fnOut _ _ _ _=_ from by kernel_rfl)
 refine wcF (wp_skip (wp_seq (wp_seq (reg_in (sz 1 1 ?_)))))
 refine lenL (enc:=eI) (l:=p1) (fl:=true) kr gE ?_
 refine sz 3 5 (reg_end rfl ?_)
 refine wbz h (fun q6 h=>?_) (fun q6 h=>?_)
 ·refine wp_seq ?_
  refine wgc [4] [1] ⟨[(4,.ptr 0 0 0)],[oX true false 3 (.agg [.nils,.nils,.nils])],59⟩ ?_
  refine rn (wg [4,5] [0] ?_)
  refine wp_wk (wk_nilO 0 0 0 1 true true gE) ?_
  refine wp_wk (wk_nilO 0 0 1 1 true true gE) ?_
  refine wp_wk (wk_nilO 0 0 2 1 true true gE) ?_
  cases h
  exact wp_ret (show fnOut _ _ _ _=_ from by kernel_rfl)
 refine wp_skip (wp_seq ?_)
 refine wgc [1,2,4,6] [0,1,2] ⟨[(1,z1 p1),(2,.ptr 0 0 0),(4,.ptr 1 0 0),(6,.ref 2 0 x1.1.length)],[oX true false 2 (.agg [vI p0.Grain,eL false eTapi_Node p0.Nodes]),oX true false 3 (.agg [.nils,.nils,.nils]),oR true 1 (AV.int .u64) x1.1],59⟩ ?_
 refine rn (wp_seq (wp_seq (reg_in (sz 1 1 ?_))))
 refine lenL (enc:=eI) (l:=p1) (fl:=true) kr gE ?_
 refine sz 1 3 (reg_end rfl (wp_block ?_))
 refine wwh h (fun s7=>⟨[(1,z1 p1),(2,.ptr 0 0 0),(4,.ptr 1 0 0),(6,.ref 2 0 x1.1.length),(8,.int .u64 s7.1),(26,z1 p1),(27,vI (zn p1)),(28,vI s7.2)],[oX true false 2 (.agg [vI p0.Grain,eL false eTapi_Node p0.Nodes]),oX true false 3 (.agg [.nils,.nils,.nils]),oR true 1 (AV.int .u64) x1.1],59⟩) (fun x out=>out=match x with | .inl v=>.go (.ret) ⟨[(4,.ptr 0 0 0),(5,vI 2)],[oX false false 3 (.agg [.ref 1 0 0,.ref 2 0 0,.ref 3 0 0]),.row false false true true 1 [],.row false false true true 1 [],.row false false true true 1 []],59⟩ | .inr v=>.go (.exit 0) ⟨[(1,z1 p1),(2,.ptr 0 0 0),(4,.ptr 1 0 0),(6,.ref 2 0 x1.1.length)],[oX true false 2 (.agg [vI p0.Grain,eL false eTapi_Node p0.Nodes]),oX true false 3 (.agg [.nils,.nils,.nils]),oR true 1 (AV.int .u64) x1.1],59⟩) (wk_gc (live:=[1,2,4,6,8,26,27,28]) (keep:=[0,1,2]) kr) ?_ ?_
 ·intro s7 o h
  unfold g_tree_Make_b0 at h
  refine sq (wp_seq ?_)
  refine wb [29] h (fun q9 h=>?_) (fun q9 h=>?_)
  ·refine wcT (wp_skip (wp_seq (wp_block (wp_seq (reg_in ?_)))))
   refine bind_elim h (fun a10 q11 h=>?_)
   refine idxL' (enc:=eI) (l:=p1) (n:=s7.2) (fl:=true) (w:=1) (a:=a10) kr rfl gE q11 ?_
   refine sz 2 3 (reg_end rfl (wp_seq (wp_seq (reg_in (sz 3 3 ?_)))))
   refine rw_wk (wk_gc (live:=[1,2,4,6,8,26,27,28,10,34]) (keep:=[0,1,2]) (st':=⟨[(1,z1 p1),(2,.ptr 0 0 0),(4,.ptr 1 0 0),(6,.ref 2 0 x1.1.length),(8,.int .u64 s7.1),(26,z1 p1),(27,vI (zn p1)),(28,vI s7.2),(10,vI a10),(34,vB (decide (a10 < 0)))],[oX true false 2 (.agg [vI p0.Grain,eL false eTapi_Node p0.Nodes]),oX true false 3 (.agg [.nils,.nils,.nils]),oR true 1 (AV.int .u64) x1.1],59⟩) kr) ?_
   refine rb [34] h (fun q13 h=>?_) (fun q13 h=>?_)
   ·refine sz 12 15 (reg_end rfl (wcT (wp_seq (wg [4] [1] (rn ?_)))))
    refine wgc [4,5] [0] ⟨[(4,.ptr 0 0 0),(5,vI 2)],[oX true false 3 (.agg [.nils,.nils,.nils])],59⟩ ?_
    refine wp_wk (wk_nilO 0 0 0 1 true true gE) ?_
    refine wp_wk (wk_nilO 0 0 1 1 true true gE) ?_
    refine wp_wk (wk_nilO 0 0 2 1 true true gE) ?_
    refine wp_ret ?_
    cases h
    exact ⟨kr,rfl⟩
   refine sz 6 9 (rwg [1,2,4,6,8,26,27,28,10,40] [0,1,2] ?_)
   refine rb [40] h (fun q15 h=>?_) (fun q15 h=>?_)
   ·refine sz 6 15 (reg_end rfl (wcT (wp_seq (wg [4] [1] (rn ?_)))))
    refine wgc [4,5] [0] ⟨[(4,.ptr 0 0 0),(5,vI 2)],[oX true false 3 (.agg [.nils,.nils,.nils])],59⟩ ?_
    refine wp_wk (wk_nilO 0 0 0 1 true true gE) ?_
    refine wp_wk (wk_nilO 0 0 1 1 true true gE) ?_
    refine wp_wk (wk_nilO 0 0 2 1 true true gE) ?_
    refine wp_ret ?_
    cases h
    exact ⟨kr,rfl⟩
   refine sz 2 11 ?_
   refine shrR (k:=.u64) (k':=.i64) (a:=s7.1) (b:=a10) kr gE h (fun h=>?_)
   refine sz 3 15 (reg_end rfl ?_)
   refine wbz h (fun q17 h=>?_) (fun q17 h=>?_)
   ·refine wp_seq (wg [4] [1] (rn ?_))
    refine wgc [4,5] [0] ⟨[(4,.ptr 0 0 0),(5,vI 2)],[oX true false 3 (.agg [.nils,.nils,.nils])],59⟩ ?_
    refine wp_wk (wk_nilO 0 0 0 1 true true gE) ?_
    refine wp_wk (wk_nilO 0 0 1 1 true true gE) ?_
    refine wp_wk (wk_nilO 0 0 2 1 true true gE) ?_
    refine wp_ret ?_
    cases h
    exact ⟨kr,rfl⟩
   refine wp_skip (wg [1,2,4,6,8,26,27,28,10] [0,1,2] (reg_in (sz 2 2 ?_)))
   refine shlR (k:=.u64) (k':=.i64) (a:=1) (b:=a10) kr gE h (fun h=>?_)
   refine sz 2 5 (reg_end rfl ?_)
   refine wgc [1,2,4,6,8,26,27,28] [0,1,2] ⟨[(1,z1 p1),(2,.ptr 0 0 0),(4,.ptr 1 0 0),(6,.ref 2 0 x1.1.length),(8,.int .u64 (zv (BitVec.ofInt (IntKind.bits .u64) s7.1 ||| BitVec.ofInt (IntKind.bits .u64) (zv (1*2^min (zt a10) (IntKind.bits .u64)))).toNat)),(26,z1 p1),(27,vI (zn p1)),(28,vI s7.2)],[oX true false 2 (.agg [vI p0.Grain,eL false eTapi_Node p0.Nodes]),oX true false 3 (.agg [.nils,.nils,.nils]),oR true 1 (AV.int .u64) x1.1],59⟩ ?_
   refine rn ?_
   cases h
   exact ⟨_,rfl,(wk_gc (live:=[1,2,4,6,8,26,27,28]) (keep:=[0,1,2]) kr)⟩
  refine wcF (wg [1,2,4,6] [0,1,2] ?_)
  refine wp_exit ?_
  cases h
  exact ⟨kr,rfl⟩
 intro x18 h out hx
 subst hx
 rcases x18 with x19 | x20
 ·dsimp only at h ⊢
  cases h
  show fnOut _ _ _ _=_
  kernel_rfl
 ·dsimp only at h ⊢
  refine wp_seq (reg_in (sz 3 3 ?_))
  refine callR (as0:=[.agg [vI p0.Grain,eL false eTapi_Node p0.Nodes],.ref 2 0 x1.1.length,z1 p1]) (ids:=[2]) kr bodyB_44 (msnap_cons (snap_agg (msnap_cons rfl (msnap_cons rfl msnap_nil (by rfl)) (by rfl))) (msnap_cons (snap_full (w:=1) (bx:=false) (ro:=false) kr) (msnap_cons rfl msnap_nil (by rfl)) (by rfl)) (by rfl)) (fun x21 q22=>g_tree_build_ok p0 x1.1 p1 x21 q22) gF h (fun x21 q22 h=>?_)
  refine sz 4 8 (reg_end rfl (wg [4,5] [1,3,4,5] ?_))
  cases h
  exact wp_ret (show fnOut _ _ _ _=_ from by kernel_rfl)
theorem g_ref05_Sets_ok (p0:(List Int)) (p1:(List Int)) (x:Bool) (h:g_ref05_Sets p0 p1=some x):CallOk Tryd.prog 48 [eL true (AV.int .u64) p0,eL true (AV.int .u64) p1] (.ret (vB x) []):=by
 refine fn_ok [] Tryd.func48 rfl (by decide +kernel) rfl ?_
 unfold g_ref05_Sets at h
 refine wp_eqB (base':=0) (st':=⟨[(0,eL true (AV.int .u64) p0),(1,eL true (AV.int .u64) p1)],[],26⟩) kr kr ?_
 refine sq (wp_seq (wp_seq (reg_in (sz 1 1 ?_))))
 refine lenL (enc:=(AV.int .u64)) (l:=p0) (fl:=true) kr gE ?_
 refine sz 1 3 ?_
 refine lenL (enc:=(AV.int .u64)) (l:=p1) (fl:=true) kr gE ?_
 refine sz 1 5 (reg_end rfl ?_)
 refine wbz h (fun q2 h=>?_) (fun q2 h=>?_)
 ·refine wp_seq (wg [] [] (rn ?_))
  refine wgc [4] [] ⟨[(4,vB false)],[],26⟩ ?_
  cases h
  exact wp_ret (show fnOut _ _ _ _=_ from by kernel_rfl)
 refine wp_skip (wp_seq (wp_seq (wg [0,1] [] (rn (wp_block ?_)))))
 refine wwh h (fun s3=>⟨[(0,eL true (AV.int .u64) p0),(1,eL true (AV.int .u64) p1),(5,vI s3)],[],26⟩) (fun x out=>out=match x with | .inl v=>.go (.ret) ⟨[(4,vB false)],[],26⟩ | .inr v=>.go (.exit 0) ⟨[],[],26⟩) (wk_gc (live:=[0,1,5]) (keep:=[]) kr) ?_ ?_
 ·intro s3 o h
  unfold g_ref05_Sets_b0 at h
  refine wp_seq (wp_seq (reg_in (sz 2 2 ?_)))
  refine lenL (enc:=(AV.int .u64)) (l:=p0) (fl:=true) kr gE ?_
  refine sz 1 4 (reg_end rfl ?_)
  refine wb [14] h (fun q5 h=>?_) (fun q5 h=>?_)
  ·refine wcT (wp_skip (wp_seq (wp_block (wp_seq (rga hfol (sy 2 2 ?_))))))
   refine bind_elim h (fun a6 q7 h=>?_)
   refine idxL' (enc:=(AV.int .u64)) (l:=p0) (n:=s3) (fl:=true) (w:=1) (a:=a6) kr rfl gE q7 ?_
   refine sy 3 6 ?_
   refine bind_elim h (fun a8 q9 h=>?_)
   refine idxL' (enc:=(AV.int .u64)) (l:=p1) (n:=s3) (fl:=true) (w:=1) (a:=a8) kr rfl gE q9 ?_
   refine sy 2 9 (rgd ?_)
   refine wbz h (fun q11 h=>?_) (fun q11 h=>?_)
   ·refine wp_seq ?_
    refine wgc [] [] ⟨[],[],26⟩ ?_
    refine rn (wg [4] [] ?_)
    refine wp_ret ?_
    cases h
    exact ⟨kr,rfl⟩
   refine wp_skip ?_
   refine wgc [0,1,5] [] ⟨[(0,eL true (AV.int .u64) p0),(1,eL true (AV.int .u64) p1),(5,vI s3)],[],26⟩ ?_
   refine rn ?_
   cases h
   exact ⟨_,rfl,(wk_gc (live:=[0,1,5]) (keep:=[]) kr)⟩
  refine wcF (wg [] [] ?_)
  refine wp_exit ?_
  cases h
  exact ⟨kr,rfl⟩
 intro x12 h out hx
 subst hx
 rcases x12 with x13 | x14
 ·dsimp only at h ⊢
  cases h
  show fnOut _ _ _ _=_
  kernel_rfl
 ·dsimp only at h ⊢
  refine sq (wg [4] [] ?_)
  cases h
  exact wp_ret (show fnOut _ _ _ _=_ from by kernel_rfl)
theorem g_ref02_Same_ok (p0:(List Int)) (p1:(List Int)) (x:Bool) (h:g_ref02_Same p0 p1=some x):CallOk Tryd.prog 49 [z1 p0,z1 p1] (.ret (vB x) []):=by
 refine fn_ok [] Tryd.func49 rfl (by decide +kernel) rfl ?_
 unfold g_ref02_Same at h
 refine wp_eqB (base':=0) (st':=⟨[(0,z1 p0),(1,z1 p1)],[],26⟩) kr kr ?_
 refine sq (wp_seq (wp_seq (reg_in (sz 1 1 ?_))))
 refine lenL (enc:=eI) (l:=p0) (fl:=true) kr gE ?_
 refine sz 1 3 ?_
 refine lenL (enc:=eI) (l:=p1) (fl:=true) kr gE ?_
 refine sz 1 5 (reg_end rfl ?_)
 refine wbz h (fun q2 h=>?_) (fun q2 h=>?_)
 ·refine wp_seq (wg [] [] (rn ?_))
  refine wgc [4] [] ⟨[(4,vB false)],[],26⟩ ?_
  cases h
  exact wp_ret (show fnOut _ _ _ _=_ from by kernel_rfl)
 refine wp_skip (wp_seq (wp_seq (wg [0,1] [] (rn (wp_block ?_)))))
 refine wwh h (fun s3=>⟨[(0,z1 p0),(1,z1 p1),(5,vI s3)],[],26⟩) (fun x out=>out=match x with | .inl v=>.go (.ret) ⟨[(4,vB false)],[],26⟩ | .inr v=>.go (.exit 0) ⟨[],[],26⟩) (wk_gc (live:=[0,1,5]) (keep:=[]) kr) ?_ ?_
 ·intro s3 o h
  unfold g_ref02_Same_b0 at h
  refine wp_seq (wp_seq (reg_in (sz 2 2 ?_)))
  refine lenL (enc:=eI) (l:=p0) (fl:=true) kr gE ?_
  refine sz 1 4 (reg_end rfl ?_)
  refine wb [14] h (fun q5 h=>?_) (fun q5 h=>?_)
  ·refine wcT (wp_skip (wp_seq (wp_block (wp_seq (rga hfol (sy 2 2 ?_))))))
   refine bind_elim h (fun a6 q7 h=>?_)
   refine idxL' (enc:=eI) (l:=p0) (n:=s3) (fl:=true) (w:=1) (a:=a6) kr rfl gE q7 ?_
   refine sy 3 6 ?_
   refine bind_elim h (fun a8 q9 h=>?_)
   refine idxL' (enc:=eI) (l:=p1) (n:=s3) (fl:=true) (w:=1) (a:=a8) kr rfl gE q9 ?_
   refine sy 2 9 (rgd ?_)
   refine wbz h (fun q11 h=>?_) (fun q11 h=>?_)
   ·refine wp_seq ?_
    refine wgc [] [] ⟨[],[],26⟩ ?_
    refine rn (wg [4] [] ?_)
    refine wp_ret ?_
    cases h
    exact ⟨kr,rfl⟩
   refine wp_skip ?_
   refine wgc [0,1,5] [] ⟨[(0,z1 p0),(1,z1 p1),(5,vI s3)],[],26⟩ ?_
   refine rn ?_
   cases h
   exact ⟨_,rfl,(wk_gc (live:=[0,1,5]) (keep:=[]) kr)⟩
  refine wcF (wg [] [] ?_)
  refine wp_exit ?_
  cases h
  exact ⟨kr,rfl⟩
 intro x12 h out hx
 subst hx
 rcases x12 with x13 | x14
 ·dsimp only at h ⊢
  cases h
  show fnOut _ _ _ _=_
  kernel_rfl
 ·dsimp only at h ⊢
  refine sq (wg [4] [] ?_)
  cases h
  exact wp_ret (show fnOut _ _ _ _=_ from by kernel_rfl)
theorem g_ref10_Same_ok (p0:Tapi_Tree) (p1:Tapi_Tree) (x:Bool) (h:g_ref10_Same p0 p1=some x):CallOk Tryd.prog 24 [.agg [eL true (AV.int .u64) p0.Cliques,z1 p0.Up,z1 p0.Home],.agg [eL true (AV.int .u64) p1.Cliques,z1 p1.Up,z1 p1.Home]] (.ret (vB x) []):=by
 refine fn_ok [] Tryd.func24 rfl (by decide +kernel) rfl ?_
 unfold g_ref10_Same at h
 refine wp_eqB (base':=0) (st':=⟨[(0,.agg [eL true (AV.int .u64) p0.Cliques,z1 p0.Up,z1 p0.Home]),(1,.agg [eL true (AV.int .u64) p1.Cliques,z1 p1.Up,z1 p1.Home])],[],24⟩) kr kr ?_
 refine wp_seq (reg_in ?_)
 refine sgL false [] [] false gE ?_
 refine sgL false [] [] false gE ?_
 refine sz 1 3 (reg_end rfl (wp_seq (reg_in (sz 4 4 ?_))))
 refine callW bodyB_48 (g_ref05_Sets_ok p0.Cliques p1.Cliques) h (fun x1 _ h=>?_)
 refine sz 1 6 (rwg [2,3,10] [0,1] ?_)
 refine rb [10] h (fun q4 h=>?_) (fun q4 h=>?_)
 ·refine sz 4 10 ?_
  refine callW bodyB_49 (g_ref02_Same_ok p0.Up p1.Up) h (fun x5 _ h=>?_)
  refine sz 2 13 ?_
  refine rw_wk (wk_gc (live:=[2,3,17]) (keep:=[0,1]) (st':=⟨[(2,.ptr 0 0 0),(3,.ptr 1 0 0),(17,vB x5)],[oX true false 3 (.agg [eL true (AV.int .u64) p0.Cliques,z1 p0.Up,z1 p0.Home]),oX true false 3 (.agg [eL true (AV.int .u64) p1.Cliques,z1 p1.Up,z1 p1.Home])],24⟩) kr) ?_
  refine rb [17] h (fun q8 h=>?_) (fun q8 h=>?_)
  ·refine sz 4 17 ?_
   refine callW bodyB_49 (g_ref02_Same_ok p0.Home p1.Home) h (fun x9 _ h=>?_)
   refine sz 2 20 (reg_end rfl (wg [4] [] ?_))
   cases h
   exact wp_ret (show fnOut _ _ _ _=_ from by kernel_rfl)
  refine sz 7 20 (reg_end rfl (wg [4] [] ?_))
  cases h
  exact wp_ret (show fnOut _ _ _ _=_ from by kernel_rfl)
 refine sz 14 20 (reg_end rfl ?_)
 refine wgc [4] [] ⟨[(4,vB false)],[],24⟩ ?_
 cases h
 exact wp_ret (show fnOut _ _ _ _=_ from by kernel_rfl)
theorem g_order_Check_ok (p0:(List Int)) (x:Int) (h:g_order_Check p0=some x):CallOk Tryd.prog 71 [eL true (AV.int .u64) p0] (.ret (vI x) []):=by
 refine fn_ok [] Tryd.func71 rfl (by decide +kernel) rfl ?_
 unfold g_order_Check at h
 refine wp_eqB (base':=0) (st':=⟨[(0,eL true (AV.int .u64) p0)],[],52⟩) kr kr ?_
 refine sq (wp_seq (wp_seq (reg_in (sz 1 1 ?_))))
 refine lenL (enc:=(AV.int .u64)) (l:=p0) (fl:=true) kr gE ?_
 refine sz 2 4 (rwg [0,9] [] ?_)
 refine rb [9] h (fun q2 h=>?_) (fun q2 h=>?_)
 ·refine sz 4 8 (reg_end rfl (wcT (wp_seq ?_)))
  refine wgc [] [] ⟨[],[],52⟩ ?_
  refine rn (wg [2] [] ?_)
  cases h
  exact wp_ret (show fnOut _ _ _ _=_ from by kernel_rfl)
 refine sz 1 5 ?_
 refine lenL (enc:=(AV.int .u64)) (l:=p0) (fl:=true) kr gE ?_
 refine sz 2 8 (reg_end rfl ?_)
 refine wbz h (fun q4 h=>?_) (fun q4 h=>?_)
 ·refine wp_seq ?_
  refine wgc [] [] ⟨[],[],52⟩ ?_
  refine rn (wg [2] [] ?_)
  cases h
  exact wp_ret (show fnOut _ _ _ _=_ from by kernel_rfl)
 refine wp_skip (wp_seq (wp_seq ?_))
 refine wgc [0] [] ⟨[(0,eL true (AV.int .u64) p0)],[],52⟩ ?_
 refine reg_in (sz 1 1 ?_)
 refine lenL (enc:=(AV.int .u64)) (l:=p0) (fl:=true) kr gE ?_
 refine sz 1 3 (reg_end rfl (wp_block ?_))
 refine wwh h (fun s5=>⟨[(0,eL true (AV.int .u64) p0),(14,eL true (AV.int .u64) p0),(15,vI (zn p0)),(16,vI s5)],[],52⟩) (fun x out=>out=match x with | .inl v=>.go (.ret) ⟨[(2,vI 80)],[],52⟩ | .inr v=>.go (.exit 0) ⟨[],[],52⟩) (wk_gc (live:=[0,14,15,16]) (keep:=[]) kr) ?_ ?_
 ·intro s5 o h
  unfold g_order_Check_b1 at h
  refine sq (wp_seq ?_)
  refine wb [17] h (fun q7 h=>?_) (fun q7 h=>?_)
  ·refine wcT (wp_skip (wp_seq (wp_block (wp_seq (reg_in (sz 1 1 ?_))))))
   refine bind_elim h (fun a8 q9 h=>?_)
   refine idxL' (enc:=(AV.int .u64)) (l:=p0) (n:=s5) (fl:=true) (w:=1) (a:=a8) kr rfl gE q9 ?_
   refine sz 3 5 (reg_end rfl (wp_seq (wp_seq (reg_in (sz 2 2 ?_)))))
   refine lenL (enc:=(AV.int .u64)) (l:=p0) (fl:=true) kr gE ?_
   refine shrR (k:=.u64) (k':=.i64) (a:=a8) (b:=(zn p0)) kr gE h (fun h=>?_)
   refine sz 2 6 ?_
   refine rw_wk (wk_gc (live:=[0,14,15,16,3,4,26]) (keep:=[]) (st':=⟨[(0,eL true (AV.int .u64) p0),(14,eL true (AV.int .u64) p0),(15,vI (zn p0)),(16,vI s5),(3,vI s5),(4,.int .u64 a8),(26,vB ((Int.fdiv a8 (2^min (zt (zn p0)) (IntKind.bits .u64))) != 0))],[],52⟩) kr) ?_
   refine rb [26] h (fun q11 h=>?_) (fun q11 h=>?_)
   ·refine sz 6 12 (reg_end rfl (wcT (wp_seq (wg [] [] (rn (wg [2] [] ?_))))))
    refine wp_ret ?_
    cases h
    exact ⟨kr,rfl⟩
   refine sz 2 8 ?_
   refine shrR (k:=.u64) (k':=.i64) (a:=a8) (b:=s5) kr gE h (fun h=>?_)
   refine sz 3 12 (reg_end rfl ?_)
   refine wbz h (fun q13 h=>?_) (fun q13 h=>?_)
   ·refine wp_seq (wg [] [] (rn (wg [2] [] ?_)))
    refine wp_ret ?_
    cases h
    exact ⟨kr,rfl⟩
   refine wp_skip (wp_seq (wg [0,14,15,16,3,4] [] (reg_in (sz 1 1 ?_))))
   refine lenL (enc:=(AV.int .u64)) (l:=p0) (fl:=true) kr gE ?_
   refine sz 1 3 (reg_end rfl (wp_block ?_))
   refine wwh h (fun s14=>⟨[(0,eL true (AV.int .u64) p0),(3,vI s5),(4,.int .u64 a8),(14,eL true (AV.int .u64) p0),(15,vI (zn p0)),(16,vI s5),(34,vI (zn p0)),(35,vI s14)],[],52⟩) (fun x out=>out=match x with | .inl v=>.go (.ret) ⟨[(2,vI 80)],[],52⟩ | .inr v=>.go (.exit 2) ⟨[(0,eL true (AV.int .u64) p0),(14,eL true (AV.int .u64) p0),(15,vI (zn p0)),(16,vI s5)],[],52⟩) (wk_gc (live:=[0,3,4,14,15,16,34,35]) (keep:=[]) kr) ?_ ?_
   ·intro s14 o h
    unfold g_order_Check_b0 at h
    refine sq (wp_seq ?_)
    refine wb [36] h (fun q16 h=>?_) (fun q16 h=>?_)
    ·refine wcT (wp_skip (wp_seq (wp_block (sq (wp_seq (rga hfol (sy 2 2 ?_)))))))
     refine shrR (k:=.u64) (k':=.i64) (a:=a8) (b:=s14) kr gE h (fun h=>?_)
     refine sy 3 6 ?_
     refine bind_elim h (fun a17 q18 h=>?_)
     refine idxL' (enc:=(AV.int .u64)) (l:=p0) (n:=s14) (fl:=true) (w:=1) (a:=a17) kr rfl gE q18 ?_
     refine sy 2 9 ?_
     refine shrR (k:=.u64) (k':=.i64) (a:=a17) (b:=s5) kr gE h (fun h=>?_)
     refine sy 2 12 (rgd ?_)
     refine wbz h (fun q20 h=>?_) (fun q20 h=>?_)
     ·refine wp_seq ?_
      refine wgc [] [] ⟨[],[],52⟩ ?_
      refine rn (wg [2] [] ?_)
      refine wp_ret ?_
      cases h
      exact ⟨kr,rfl⟩
     refine wp_skip ?_
     refine wgc [0,3,4,14,15,16,34,35] [] ⟨[(0,eL true (AV.int .u64) p0),(3,vI s5),(4,.int .u64 a8),(14,eL true (AV.int .u64) p0),(15,vI (zn p0)),(16,vI s5),(34,vI (zn p0)),(35,vI s14)],[],52⟩ ?_
     refine rn ?_
     cases h
     exact ⟨_,rfl,(wk_gc (live:=[0,3,4,14,15,16,34,35]) (keep:=[]) kr)⟩
    refine wcF (wg [0,14,15,16] [] ?_)
    refine wp_exit ?_
    cases h
    exact ⟨kr,rfl⟩
   intro x21 h out hx
   subst hx
   rcases x21 with x22 | x23
   ·dsimp only at h ⊢
    cases h
    exact ⟨kr,rfl⟩
   ·dsimp only at h ⊢
    refine rn ?_
    cases h
    exact ⟨_,rfl,(wk_gc (live:=[0,14,15,16]) (keep:=[]) kr)⟩
  refine wcF (wg [] [] ?_)
  refine wp_exit ?_
  cases h
  exact ⟨kr,rfl⟩
 intro x24 h out hx
 subst hx
 rcases x24 with x25 | x26
 ·dsimp only at h ⊢
  cases h
  show fnOut _ _ _ _=_
  kernel_rfl
 ·dsimp only at h ⊢
  refine sq (wg [2] [] ?_)
  cases h
  exact wp_ret (show fnOut _ _ _ _=_ from by kernel_rfl)
theorem g_math_bits_TrailingZeros64_ok (p0:Int) (x:Int) (h:g_math_bits_TrailingZeros64 p0=some x):CallOk Tryd.prog 88 [.int .u64 p0] (.ret (vI x) []):=by
 refine fn_ok [] Tryd.func88 rfl (by decide +kernel) rfl ?_
 unfold g_math_bits_TrailingZeros64 at h
 refine wp_eqB (base':=0) (st':=⟨[(0,.int .u64 p0)],[],14⟩) kr kr ?_
 refine sq (wp_seq (sq ?_))
 refine wb [4] h (fun q2 h=>?_) (fun q2 h=>?_)
 ·refine wcT (sq (wg [2] [] ?_))
  cases h
  exact wp_ret (show fnOut _ _ _ _=_ from by kernel_rfl)
 refine wcF (wp_skip (wp_seq (reg_in ?_)))
 refine sgz 6 6 (S:=⟨[(0,.int .u64 p0),(2,vI 0),(3,.int .u64 p0),(4,vB false),(5,.int .u64 p0),(6,.int .u64 p0),(7,.int .u64 (zv (0 - p0))),(8,.int .u64 (zv (BitVec.ofInt (IntKind.bits .u64) p0 &&& BitVec.ofInt (IntKind.bits .u64) (zv (0 - p0))).toNat)),(9,.int .u64 (zv ((zv (BitVec.ofInt (IntKind.bits .u64) p0 &&& BitVec.ofInt (IntKind.bits .u64) (zv (0 - p0))).toNat)*285870213051353865))),(10,.int .u64 (Int.fdiv (zv ((zv (BitVec.ofInt (IntKind.bits .u64) p0 &&& BitVec.ofInt (IntKind.bits .u64) (zv (0 - p0))).toNat)*285870213051353865)) (2^min (zt 58) (IntKind.bits .u64))))],[],14⟩) ?_
 refine bind_elim h (fun a3 q4 h=>?_)
 refine tabR (l:=tab1) (n:=Int.fdiv (zv ((zv (BitVec.ofInt (IntKind.bits .u64) p0 &&& BitVec.ofInt (IntKind.bits .u64) (zv (0 - p0))).toNat)*285870213051353865)) (2^min (zt 58) (IntKind.bits .u64))) (a:=a3) (kk:=.u8) (len:=64) (cells:=List.map (AV.int .u8) tab1) (S1:=⟨[(0,.int .u64 p0),(2,vI 0),(3,.int .u64 p0),(4,vB false),(5,.int .u64 p0),(6,.int .u64 p0),(7,.int .u64 (zv (0 - p0))),(8,.int .u64 (zv (BitVec.ofInt (IntKind.bits .u64) p0 &&& BitVec.ofInt (IntKind.bits .u64) (zv (0 - p0))).toNat)),(9,.int .u64 (zv ((zv (BitVec.ofInt (IntKind.bits .u64) p0 &&& BitVec.ofInt (IntKind.bits .u64) (zv (0 - p0))).toNat)*285870213051353865))),(10,.int .u64 (Int.fdiv (zv ((zv (BitVec.ofInt (IntKind.bits .u64) p0 &&& BitVec.ofInt (IntKind.bits .u64) (zv (0 - p0))).toNat)*285870213051353865)) (2^min (zt 58) (IntKind.bits .u64))))]++[(11,.fz (List.drop (zt (Int.fdiv (zv ((zv (BitVec.ofInt (IntKind.bits .u64) p0 &&& BitVec.ofInt (IntKind.bits .u64) (zv (0 - p0))).toNat)*285870213051353865)) (2^min (zt 58) (IntKind.bits .u64)))) (List.map (AV.int .u8) tab1)))],[],14⟩) kr kr kr q4 kr kr gE ?_
 refine sz 2 10 (reg_end rfl (wg [2] [] ?_))
 cases h
 exact wp_ret (show fnOut _ _ _ _=_ from by kernel_rfl)
theorem g_math_bits_TrailingZeros_ok (p0:Int) (x:Int) (h:g_math_bits_TrailingZeros p0=some x):CallOk Tryd.prog 82 [.int .u64 p0] (.ret (vI x) []):=by
 refine fn_ok [] Tryd.func82 rfl (by decide +kernel) rfl ?_
 unfold g_math_bits_TrailingZeros at h
 refine wp_eqB (base':=0) (st':=⟨[(0,.int .u64 p0)],[],8⟩) kr kr ?_
 refine sq (wp_seq (wcF (wp_skip (wp_seq (reg_in (sz 1 1 ?_))))))
 refine callW bodyB_88 (g_math_bits_TrailingZeros64_ok p0) h (fun x1 _ h=>?_)
 refine sz 1 3 (reg_end rfl (wg [2] [] ?_))
 cases h
 exact wp_ret (show fnOut _ _ _ _=_ from by kernel_rfl)
theorem g_order_late_ok (p0:(List Int)) (p1:Int) (p2:Int) (x:Int) (h:g_order_late p0 p1 p2=some x):CallOk Tryd.prog 74 [eL true (AV.int .u64) p0,vI p1,.int .u64 p2] (.ret (vI x) []):=by
 refine fn_ok [] Tryd.func74 rfl (by decide +kernel) rfl ?_
 unfold g_order_late at h
 refine wp_eqB (base':=0) (st':=⟨[(0,eL true (AV.int .u64) p0),(1,vI p1),(2,.int .u64 p2)],[],48⟩) kr kr ?_
 refine sq (wp_seq (rga hfol (sy 1 1 ?_)))
 refine shlR (k:=.u64) (k':=.i64) (a:=1) (b:=p1) kr gE h (fun h=>?_)
 refine sy 2 4 ?_
 refine bind_elim h (fun a1 q2 h=>?_)
 refine idxL' (enc:=(AV.int .u64)) (l:=p0) (n:=p1) (fl:=true) (w:=1) (a:=a1) kr rfl gE q2 ?_
 refine sy 4 9 (rgd (wp_seq (wp_block ?_)))
 refine wwh h (fun s3=>⟨[(0,eL true (AV.int .u64) p0),(2,.int .u64 p2),(7,.int .u64 s3.1),(8,.int .u64 s3.2.1),(9,.int .u64 s3.2.2)],[],48⟩) (fun v out=>out=.go (.exit 0) ⟨[(8,.int .u64 v)],[],48⟩) (wk_gc (live:=[0,2,7,8,9]) (keep:=[]) kr) ?_ ?_
 ·intro s3 o h
  unfold g_order_late_b0 at h
  refine wp_seq (sq ?_)
  refine wb [18] h (fun q5 h=>?_) (fun q5 h=>?_)
  ·refine wcT (wp_skip (wp_block (wp_seq (reg_in (sz 1 1 ?_)))))
   refine callW bodyB_82 (g_math_bits_TrailingZeros_ok s3.2.2) h (fun x6 _ h=>?_)
   refine sz 1 3 (reg_end rfl (sq (wp_seq ?_)))
   refine wgc [0,2,7,8,9,10] [] ⟨[(0,eL true (AV.int .u64) p0),(2,.int .u64 p2),(7,.int .u64 s3.1),(8,.int .u64 s3.2.1),(9,.int .u64 (zv (BitVec.ofInt (IntKind.bits .u64) s3.2.2 &&& BitVec.ofInt (IntKind.bits .u64) (zv (s3.2.2 - 1))).toNat)),(10,vI x6)],[],48⟩ ?_
   refine reg_in (sz 2 2 ?_)
   refine shlR (k:=.u64) (k':=.i64) (a:=1) (b:=x6) kr gE h (fun h=>?_)
   refine sz 2 5 (reg_end rfl (wp_seq (wp_seq (reg_in (sz 2 2 ?_)))))
   refine shrR (k:=.u64) (k':=.i64) (a:=p2) (b:=x6) kr gE h (fun h=>?_)
   refine sz 2 5 (reg_end rfl ?_)
   refine wbz h (fun q9 h=>?_) (fun q9 h=>?_)
   ·refine wp_seq (wg [0,2,7,8,9,10] [] (reg_in (sz 2 2 ?_)))
    refine shlR (k:=.u64) (k':=.i64) (a:=1) (b:=x6) kr gE h (fun h=>?_)
    refine sz 2 5 (reg_end rfl ?_)
    refine wgc [0,2,7,8,9] [] ⟨[(0,eL true (AV.int .u64) p0),(2,.int .u64 p2),(7,.int .u64 (zv (BitVec.ofInt (IntKind.bits .u64) s3.1 ||| BitVec.ofInt (IntKind.bits .u64) (zv (1*2^min (zt x6) (IntKind.bits .u64)))).toNat)),(8,.int .u64 (zv (BitVec.ofInt (IntKind.bits .u64) s3.2.1 ||| BitVec.ofInt (IntKind.bits .u64) (zv (1*2^min (zt x6) (IntKind.bits .u64)))).toNat)),(9,.int .u64 (zv (BitVec.ofInt (IntKind.bits .u64) s3.2.2 &&& BitVec.ofInt (IntKind.bits .u64) (zv (s3.2.2 - 1))).toNat))],[],48⟩ ?_
    refine wp_exit ?_
    cases h
    exact ⟨_,rfl,(wk_gc (live:=[0,2,7,8,9]) (keep:=[]) kr)⟩
   refine wp_skip (wg [0,2,7,8,9,10] [] (reg_in (sz 3 3 ?_)))
   refine bind_elim h (fun a10 q11 h=>?_)
   refine idxL' (enc:=(AV.int .u64)) (l:=p0) (n:=x6) (fl:=true) (w:=1) (a:=a10) kr rfl gE q11 ?_
   refine sz 5 9 (reg_end rfl ?_)
   cases h
   exact ⟨_,rfl,(wk_gc (live:=[0,2,7,8,9]) (keep:=[]) kr)⟩
  refine wcF (wg [8] [] ?_)
  refine wp_exit ?_
  cases h
  exact ⟨kr,rfl⟩
 intro x13 h out hx
 subst hx
 refine wp_seq (reg_in (sz 1 1 ?_))
 refine callW bodyB_41 (g_math_bits_OnesCount_ok x13) h (fun x14 _ h=>?_)
 refine sz 1 3 (reg_end rfl (wg [6] [] ?_))
 cases h
 exact wp_ret (show fnOut _ _ _ _=_ from by kernel_rfl)
end Go.Ab
