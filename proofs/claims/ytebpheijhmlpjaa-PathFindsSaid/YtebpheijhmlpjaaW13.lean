/- What functions compute. No conditions. -/
import Derived.Test.YtebpheijhmlpjaaProg
import Derived.Test.YtebpheijhmlpjaaW9
import Derived.KernelRfl
import Derived.Test.YtebpheijhmlpjaaW10
import Derived.Test.YtebpheijhmlpjaaW11
import Derived.Test.YtebpheijhmlpjaaW12
set_option linter.all false
namespace Go.Ab
open Go Go.Proofs
set_option maxRecDepth 100000
set_option maxHeartbeats 4000000
theorem g_law18_sample_ok  (x:Tapi_Hidden) (h:g_law18_sample=some x):CallOk Try.prog 28 [] (.ret (.agg [vI x.Grain,.ref 0 0 x.First.length,.ref 1 0 x.Step.length,.ref 2 0 x.Show.length]) [oR true 1 eI x.First,oR false 1 z1 x.Step,oR false 1 z1 x.Show]):=by
 refine fn_ok [] Try.func28 rfl (by decide +kernel) rfl ?_
 unfold g_law18_sample at h
 refine wp_eqB (base':=0) (st':=⟨[],[],9⟩) kr kr ?_
 refine wp_seq (reg_in ?_)
 refine sgL false [] [] false gE ?_
 refine reg_end rfl (wp_seq (reg_in ?_))
 refine sgL false [] [] true gE ?_
 refine sgL false [] [] true gE ?_
 refine sgL (S:=⟨[(0,.ptr 0 0 0),(1,.ref 1 0 2),(2,.ref 2 0 2),(3,.ref 3 0 2)],[oX true false 4 (.agg [vI 0,.nils,.nils,.nils]),.row false false true true 1 [vI 1,vI 3],.row false false true true 1 [vI 2,vI 2],.row false false true true 1 [vI 0,vI 4]],9⟩) false [] [] true kr ?_
 refine bsR (parts:=[(0,.lst true [vI 2,vI 2]),(1,.lst true [vI 0,vI 4])]) (ids:=[2,3]) (es:=[(2,.row false true true true 1 [vI 2,vI 2]),(3,.row false true true true 1 [vI 0,vI 4]),(4,.row false false true (List.all [.lst true [vI 2,vI 2],.lst true [vI 0,vI 4]] AV.scs) 1 [.lst true [vI 2,vI 2],.lst true [vI 0,vI 4]])]) (S:=⟨[(0,.ptr 0 0 0),(1,.ref 1 0 2),(2,.ref 2 0 2),(3,.ref 3 0 2),(4,.ref 4 0 2)],[oX true false 4 (.agg [vI 0,.nils,.nils,.nils]),.row false false true true 1 [vI 1,vI 3],.row false true true true 1 [vI 2,vI 2],.row false true true true 1 [vI 0,vI 4],.row false false true false 1 [.lst true [vI 2,vI 2],.lst true [vI 0,vI 4]]],9⟩) [.lst true] false rfl (sparts_snap rfl (show snap _ _ _=some (_,[2]) from kr) (sparts_snap rfl (show snap _ _ _=some (_,[3]) from kr) sparts_nil (by rfl)) (by rfl)) kr ?_
 refine sgL false [] [] true gE ?_
 refine sgL (S:=⟨[(0,.ptr 0 0 0),(1,.ref 1 0 2),(2,.ref 2 0 2),(3,.ref 3 0 2),(4,.ref 4 0 2),(5,.ref 5 0 2),(6,.ref 6 0 2)],[oX true false 4 (.agg [vI 0,.nils,.nils,.nils]),.row false false true true 1 [vI 1,vI 3],.row false true true true 1 [vI 2,vI 2],.row false true true true 1 [vI 0,vI 4],.row false false true false 1 [.lst true [vI 2,vI 2],.lst true [vI 0,vI 4]],.row false false true true 1 [vI 4,vI 0],.row false false true true 1 [vI 1,vI 3]],9⟩) false [] [] true kr ?_
 refine bsR (parts:=[(0,.lst true [vI 4,vI 0]),(1,.lst true [vI 1,vI 3])]) (ids:=[5,6]) (es:=[(5,.row false true true true 1 [vI 4,vI 0]),(6,.row false true true true 1 [vI 1,vI 3]),(7,.row false false true (List.all [.lst true [vI 4,vI 0],.lst true [vI 1,vI 3]] AV.scs) 1 [.lst true [vI 4,vI 0],.lst true [vI 1,vI 3]])]) (S:=⟨[(0,.ptr 0 0 0),(1,.ref 1 0 2),(2,.ref 2 0 2),(3,.ref 3 0 2),(4,.ref 4 0 2),(5,.ref 5 0 2),(6,.ref 6 0 2),(7,.ref 7 0 2)],[oX true false 4 (.agg [vI 0,.nils,.nils,.nils]),.row false false true true 1 [vI 1,vI 3],.row false true true true 1 [vI 2,vI 2],.row false true true true 1 [vI 0,vI 4],.row false false true false 1 [.lst true [vI 2,vI 2],.lst true [vI 0,vI 4]],.row false true true true 1 [vI 4,vI 0],.row false true true true 1 [vI 1,vI 3],.row false false true false 1 [.lst true [vI 4,vI 0],.lst true [vI 1,vI 3]]],9⟩) [.lst true] false rfl (sparts_snap rfl (show snap _ _ _=some (_,[5]) from kr) (sparts_snap rfl (show snap _ _ _=some (_,[6]) from kr) sparts_nil (by rfl)) (by rfl)) kr ?_
 refine sz 2 9 (reg_end rfl (wg [0] [0,1,4,7] ?_))
 cases h
 exact wp_ret (show fnOut _ _ _ _=_ from by kernel_rfl)
theorem g_ref02_Same_ok (p0:(List Int)) (p1:(List Int)) (x:Bool) (h:g_ref02_Same p0 p1=some x):CallOk Try.prog 68 [z1 p0,z1 p1] (.ret (vB x) []):=by
 refine fn_ok [] Try.func68 rfl (by decide +kernel) rfl ?_
 unfold g_ref02_Same at h
 refine wp_eqB (base':=0) (st':=⟨[(0,z1 p0),(1,z1 p1)],[],26⟩) kr kr ?_
 refine sq (wp_seq (wp_seq (reg_in (sz 1 1 ?_))))
 refine lenL (enc:=eI) (l:=p0) (fl:=true) kr gE ?_
 refine sz 1 3 ?_
 refine lenL (enc:=eI) (l:=p1) (fl:=true) kr gE ?_
 refine sz 1 5 (reg_end rfl ?_)
 refine wbz h (fun q2 h=>?_) (fun q2 h=>?_)
 ·refine wp_seq (wg [] [] (rn ?_))
  refine wgc [4] [] ⟨[(4,vB false)],[],26⟩ ?_
  cases h
  exact wp_ret (show fnOut _ _ _ _=_ from by kernel_rfl)
 refine wp_skip (wp_seq (wp_seq (wg [0,1] [] (rn (wp_block ?_)))))
 refine wwh h (fun s3=>⟨[(0,z1 p0),(1,z1 p1),(5,vI s3)],[],26⟩) (fun x out=>out=match x with | .inl v=>.go (.ret) ⟨[(4,vB false)],[],26⟩ | .inr v=>.go (.exit 0) ⟨[],[],26⟩) (wk_gc (live:=[0,1,5]) (keep:=[]) kr) ?_ ?_
 ·intro s3 o h
  unfold g_ref02_Same_b0 at h
  refine wp_seq (wp_seq (reg_in (sz 2 2 ?_)))
  refine lenL (enc:=eI) (l:=p0) (fl:=true) kr gE ?_
  refine sz 1 4 (reg_end rfl ?_)
  refine wb [14] h (fun q5 h=>?_) (fun q5 h=>?_)
  ·refine wcT (wp_skip (wp_seq (wp_block (wp_seq (rga hfol (sy 2 2 ?_))))))
   refine bind_elim h (fun a6 q7 h=>?_)
   refine idxL' (enc:=eI) (l:=p0) (n:=s3) (fl:=true) (w:=1) (a:=a6) kr rfl gE q7 ?_
   refine sy 3 6 ?_
   refine bind_elim h (fun a8 q9 h=>?_)
   refine idxL' (enc:=eI) (l:=p1) (n:=s3) (fl:=true) (w:=1) (a:=a8) kr rfl gE q9 ?_
   refine sy 2 9 (rgd ?_)
   refine wbz h (fun q11 h=>?_) (fun q11 h=>?_)
   ·refine wp_seq ?_
    refine wgc [] [] ⟨[],[],26⟩ ?_
    refine rn (wg [4] [] ?_)
    refine wp_ret ?_
    cases h
    exact ⟨kr,rfl⟩
   refine wp_skip ?_
   refine wgc [0,1,5] [] ⟨[(0,z1 p0),(1,z1 p1),(5,vI s3)],[],26⟩ ?_
   refine rn ?_
   cases h
   exact ⟨_,rfl,(wk_gc (live:=[0,1,5]) (keep:=[]) kr)⟩
  refine wcF (wg [] [] ?_)
  refine wp_exit ?_
  cases h
  exact ⟨kr,rfl⟩
 intro x12 h out hx
 subst hx
 rcases x12 with x13 | x14
 ·dsimp only at h ⊢
  cases h
  show fnOut _ _ _ _=_
  kernel_rfl
 ·dsimp only at h ⊢
  refine sq (wg [4] [] ?_)
  cases h
  exact wp_ret (show fnOut _ _ _ _=_ from by kernel_rfl)
theorem g_ref17_SameTable_ok (p0:(List (List Int))) (p1:(List (List Int))) (x:Bool) (h:g_ref17_SameTable p0 p1=some x):CallOk Try.prog 33 [z2 p0,z2 p1] (.ret (vB x) []):=by
 refine fn_ok [] Try.func33 rfl (by decide +kernel) rfl ?_
 unfold g_ref17_SameTable at h
 refine wp_eqB (base':=0) (st':=⟨[(0,z2 p0),(1,z2 p1)],[],27⟩) kr kr ?_
 refine sq (wp_seq (wp_seq (reg_in (sz 1 1 ?_))))
 refine lenL (enc:=z1) (l:=p0) (fl:=false) kr gE ?_
 refine sz 1 3 ?_
 refine lenL (enc:=z1) (l:=p1) (fl:=false) kr gE ?_
 refine sz 1 5 (reg_end rfl ?_)
 refine wbz h (fun q2 h=>?_) (fun q2 h=>?_)
 ·refine wp_seq (wg [] [] (rn ?_))
  refine wgc [4] [] ⟨[(4,vB false)],[],27⟩ ?_
  cases h
  exact wp_ret (show fnOut _ _ _ _=_ from by kernel_rfl)
 refine wp_skip (wp_seq (wp_seq (wg [0,1] [] (rn (wp_block ?_)))))
 refine wwh h (fun s3=>⟨[(0,z2 p0),(1,z2 p1),(5,vI s3)],[],27⟩) (fun x out=>out=match x with | .inl v=>.go (.ret) ⟨[(4,vB false)],[],27⟩ | .inr v=>.go (.exit 0) ⟨[],[],27⟩) (wk_gc (live:=[0,1,5]) (keep:=[]) kr) ?_ ?_
 ·intro s3 o h
  unfold g_ref17_SameTable_b0 at h
  refine wp_seq (wp_seq (reg_in (sz 2 2 ?_)))
  refine lenL (enc:=z1) (l:=p0) (fl:=false) kr gE ?_
  refine sz 1 4 (reg_end rfl ?_)
  refine wb [14] h (fun q5 h=>?_) (fun q5 h=>?_)
  ·refine wcT (wp_skip (wp_seq (wp_block (wp_seq (rga hfol (sy 2 2 ?_))))))
   refine bind_elim h (fun a6 q7 h=>?_)
   refine idxL' (enc:=z1) (l:=p0) (n:=s3) (fl:=false) (w:=1) (a:=a6) kr rfl gE q7 ?_
   refine sy 3 6 ?_
   refine bind_elim h (fun a8 q9 h=>?_)
   refine idxL' (enc:=z1) (l:=p1) (n:=s3) (fl:=false) (w:=1) (a:=a8) kr rfl gE q9 ?_
   refine sy 1 8 ?_
   refine callW bodyB_68 (g_ref02_Same_ok a6 a8) h (fun x10 _ h=>?_)
   refine sy 1 10 (rgd ?_)
   refine wbz h (fun q13 h=>?_) (fun q13 h=>?_)
   ·refine wp_seq ?_
    refine wgc [] [] ⟨[],[],27⟩ ?_
    refine rn (wg [4] [] ?_)
    refine wp_ret ?_
    cases h
    exact ⟨kr,rfl⟩
   refine wp_skip ?_
   refine wgc [0,1,5] [] ⟨[(0,z2 p0),(1,z2 p1),(5,vI s3)],[],27⟩ ?_
   refine rn ?_
   cases h
   exact ⟨_,rfl,(wk_gc (live:=[0,1,5]) (keep:=[]) kr)⟩
  refine wcF (wg [] [] ?_)
  refine wp_exit ?_
  cases h
  exact ⟨kr,rfl⟩
 intro x14 h out hx
 subst hx
 rcases x14 with x15 | x16
 ·dsimp only at h ⊢
  cases h
  show fnOut _ _ _ _=_
  kernel_rfl
 ·dsimp only at h ⊢
  refine sq (wg [4] [] ?_)
  cases h
  exact wp_ret (show fnOut _ _ _ _=_ from by kernel_rfl)
noncomputable abbrev s11_12 (x5:((List Int) × Int × Int)) (x7:((List (List Int)) × (List Int) × Int)) (x9:((List Int) × Int)):List AObj:=[oR true 1 eI x5.1,oR false 1 z1 x7.1,oR true 1 eI x7.2.1,oR true 1 eI x9.1]
theorem g_law18_wakes_ok  (x:Bool) (h:g_law18_wakes=some x):CallOk Try.prog 11 [] (.ret (vB x) []):=by
 refine fn_ok [] Try.func11 rfl (by decide +kernel) rfl ?_
 unfold g_law18_wakes at h
 refine wp_eqB (base':=0) (st':=⟨[],[],102⟩) kr kr ?_
 refine sq (wp_seq (reg_in ?_))
 refine callW bodyB_28 (g_law18_sample_ok ) h (fun x1 _ h=>?_)
 refine sgL false [] [] true gE ?_
 refine sgL false [] [] false gE ?_
 refine sz 2 5 (reg_end rfl (wp_seq (reg_in (sz 2 2 ?_))))
 refine sgL false [] [] true gE ?_
 refine callR (as0:=[.agg [vI x1.Grain,.ref 0 0 x1.First.length,.ref 1 0 x1.Step.length,.ref 2 0 x1.Show.length],.ref 3 0 2,.ref 5 0 2]) (ids:=[0,1,2,3,5]) kr bodyB_15 (msnap_cons (snap_agg (msnap_cons rfl (msnap_cons (snap_full (w:=1) (bx:=false) (ro:=false) kr) (msnap_cons (snap_full (w:=1) (bx:=false) (ro:=false) kr) (msnap_cons (snap_full (w:=1) (bx:=false) (ro:=false) kr) msnap_nil (by rfl)) (by rfl)) (by rfl)) (by rfl))) (msnap_cons (show snap _ _ _=some (_,[3]) from kr) (msnap_cons (show snap _ _ _=some (_,[5]) from kr) msnap_nil (by rfl)) (by rfl)) (by rfl)) (fun x3 q4=>g_path_Weight_ok x1 [0,1] [0,1] x3 q4) gF h (fun x3 q4 h=>?_)
 refine sz 5 9 (reg_end rfl (wp_seq ?_))
 refine wgc [1,2,3,4] [4,3,0,1,2] ⟨[(1,.ptr 0 0 0),(2,.ref 1 0 2),(3,vI x3.1),(4,vI x3.2)],[oX false false 4 (.agg [vI x1.Grain,.ref 2 0 x1.First.length,.ref 3 0 x1.Step.length,.ref 4 0 x1.Show.length]),.row false false true true 1 [vI 0,vI 1],oR true 1 eI x1.First,oR false 1 z1 x1.Step,oR false 1 z1 x1.Show],102⟩ ?_
 refine reg_in (sz 2 2 ?_)
 refine callR (as0:=[.agg [vI x1.Grain,.ref 2 0 x1.First.length,.ref 3 0 x1.Step.length,.ref 4 0 x1.Show.length],.ref 1 0 2]) (ids:=[2,3,4,1]) kr bodyB_20 (msnap_cons (snap_agg (msnap_cons rfl (msnap_cons (snap_full (w:=1) (bx:=false) (ro:=false) kr) (msnap_cons (snap_full (w:=1) (bx:=false) (ro:=false) kr) (msnap_cons (snap_full (w:=1) (bx:=false) (ro:=false) kr) msnap_nil (by rfl)) (by rfl)) (by rfl)) (by rfl))) (msnap_cons (show snap _ _ _=some (_,[1]) from kr) msnap_nil (by rfl)) (by rfl)) (fun x5 q6=>g_path_Best_ok x1 [0,1] x5 q6) gF h (fun x5 q6 h=>?_)
 refine sz 7 10 (reg_end rfl (wp_seq (wg [1,2,3,4,5,6,7] [0,1,5,2,3,4] (reg_in (sz 2 2 ?_)))))
 refine callR (as0:=[.agg [vI x1.Grain,.ref 3 0 x1.First.length,.ref 4 0 x1.Step.length,.ref 5 0 x1.Show.length],.ref 1 0 2,vI 5]) (ids:=[3,4,5,1]) kr bodyB_17 (msnap_cons (snap_agg (msnap_cons rfl (msnap_cons (snap_full (w:=1) (bx:=false) (ro:=false) kr) (msnap_cons (snap_full (w:=1) (bx:=false) (ro:=false) kr) (msnap_cons (snap_full (w:=1) (bx:=false) (ro:=false) kr) msnap_nil (by rfl)) (by rfl)) (by rfl)) (by rfl))) (msnap_cons (show snap _ _ _=some (_,[1]) from kr) (msnap_cons rfl msnap_nil (by rfl)) (by rfl)) (by rfl)) (fun x7 q8=>g_path_Most_ok x1 [0,1] 5 x7 q8) gF h (fun x7 q8 h=>?_)
 refine sz 7 10 (reg_end rfl (wp_seq ?_))
 refine wgc [1,2,3,4,5,6,7,8,9,10] [0,1,2,6,7,3,4,5] ⟨[(1,.ptr 0 0 0),(2,.ref 1 0 2),(3,vI x3.1),(4,vI x3.2),(5,.ref 2 0 x5.1.length),(6,vI x5.2.1),(7,vI x5.2.2),(8,.ref 3 0 x7.1.length),(9,.ref 4 0 x7.2.1.length),(10,vI x7.2.2)],[oX false false 4 (.agg [vI x1.Grain,.ref 5 0 x1.First.length,.ref 6 0 x1.Step.length,.ref 7 0 x1.Show.length]),.row false true true true 1 [vI 0,vI 1],oR true 1 eI x5.1,oR false 1 z1 x7.1,oR true 1 eI x7.2.1,.row false true true true 1 (List.map eI x1.First),.row false true true false 1 (List.map z1 x1.Step),.row false true true false 1 (List.map z1 x1.Show)],102⟩ ?_
 refine reg_in (sz 2 2 ?_)
 refine callR (as0:=[.agg [vI x1.Grain,.ref 5 0 x1.First.length,.ref 6 0 x1.Step.length,.ref 7 0 x1.Show.length],.ref 1 0 2]) (ids:=[5,6,7,1]) kr bodyB_23 (msnap_cons (snap_agg (msnap_cons rfl (msnap_cons (snap_full (w:=1) (bx:=false) (ro:=true) kr) (msnap_cons (snap_full (w:=1) (bx:=false) (ro:=true) kr) (msnap_cons (snap_full (w:=1) (bx:=false) (ro:=true) kr) msnap_nil (by rfl)) (by rfl)) (by rfl)) (by rfl))) (msnap_cons (show snap _ _ _=some (_,[1]) from kr) msnap_nil (by rfl)) (by rfl)) (fun x9 q10=>g_path_States_ok x1 [0,1] x9 q10) gF h (fun x9 q10 h=>?_)
 refine sz 5 8 (reg_end rfl (wp_seq (wg [1,2,3,4,5,6,7,8,9,10,11,12] [0,1,2,3,4,8,5,6,7] (reg_in (sz 2 2 ?_)))))
 refine callR (as0:=[.agg [vI x1.Grain,.ref 6 0 x1.First.length,.ref 7 0 x1.Step.length,.ref 8 0 x1.Show.length],.ref 1 0 2]) (ids:=[6,7,8,1]) kr bodyB_21 (msnap_cons (snap_agg (msnap_cons rfl (msnap_cons (snap_full (w:=1) (bx:=false) (ro:=true) kr) (msnap_cons (snap_full (w:=1) (bx:=false) (ro:=true) kr) (msnap_cons (snap_full (w:=1) (bx:=false) (ro:=true) kr) msnap_nil (by rfl)) (by rfl)) (by rfl)) (by rfl))) (msnap_cons (show snap _ _ _=some (_,[1]) from kr) msnap_nil (by rfl)) (by rfl)) (fun x11 q12=>g_path_Count_ok x1 [0,1] x11 q12) gF h (fun x11 q12 h=>?_)
 refine sz 5 8 (reg_end rfl (wp_seq ?_))
 refine wgc [3,4,5,6,7,8,9,10,11,12,13,14] [2,3,4,5] ⟨[(3,vI x3.1),(4,vI x3.2),(5,.ref 0 0 x5.1.length),(6,vI x5.2.1),(7,vI x5.2.2),(8,.ref 1 0 x7.1.length),(9,.ref 2 0 x7.2.1.length),(10,vI x7.2.2),(11,.ref 3 0 x9.1.length),(12,vI x9.2),(13,vI x11.1),(14,vI x11.2)],(s11_12 x5 x7 x9),102⟩ ?_
 refine reg_in (sz 3 3 ?_)
 refine rb [51,52] h (fun q14 h=>?_) (fun q14 h=>?_)
 ·refine sz 4 7 (rwg [3,5,6,8,9,10,11,12,13,14,56] [0,1,2,3] ?_)
  refine rb [56] h (fun q16 h=>?_) (fun q16 h=>?_)
  ·refine sz 4 11 (rwg [3,5,6,8,9,11,12,13,14,60] [0,1,2,3] ?_)
   refine rb [60] h (fun q18 h=>?_) (fun q18 h=>?_)
   ·refine sz 4 15 ?_
    refine rw_wk (wk_gc (live:=[3,5,6,8,9,11,13,14,64]) (keep:=[0,1,2,3]) (st':=⟨[(3,vI x3.1),(5,.ref 0 0 x5.1.length),(6,vI x5.2.1),(8,.ref 1 0 x7.1.length),(9,.ref 2 0 x7.2.1.length),(11,.ref 3 0 x9.1.length),(13,vI x11.1),(14,vI x11.2),(64,vB (x9.2==0))],(s11_12 x5 x7 x9),102⟩) kr) ?_
    refine rb [64] h (fun q20 h=>?_) (fun q20 h=>?_)
    ·refine sz 4 19 (rwg [3,5,6,8,9,11,13,68] [0,1,2,3] ?_)
     refine rb [68] h (fun q22 h=>?_) (fun q22 h=>?_)
     ·refine sz 4 23 (rwg [5,6,8,9,11,13,72] [0,1,2,3] ?_)
      refine rb [72] h (fun q24 h=>?_) (fun q24 h=>?_)
      ·refine sz 4 27 (rwg [5,8,9,11,13,76] [0,1,2,3] ?_)
       refine rb [76] h (fun q26 h=>?_) (fun q26 h=>?_)
       ·refine sz 1 28 ?_
        refine sgL false [] [] true gE ?_
        refine callR (as0:=[.ref 0 0 x5.1.length,.ref 4 0 2]) (ids:=[0,4]) kr bodyB_19 (msnap_cons (snap_full (w:=1) (bx:=false) (ro:=false) kr) (msnap_cons (show snap _ _ _=some (_,[4]) from kr) msnap_nil (by rfl)) (by rfl)) (fun x27 q28=>g_slices_Equal_int_int_ok x5.1 [1,1] x27 q28) gF h (fun x27 q28 h=>?_)
        refine sz 2 32 ?_
        refine rw_wk (wk_gc (live:=[8,9,11,13,81]) (keep:=[1,2,3]) (st':=⟨[(8,.ref 0 0 x7.1.length),(9,.ref 1 0 x7.2.1.length),(11,.ref 2 0 x9.1.length),(13,vI x11.1),(81,vB x27)],[oR false 1 z1 x7.1,oR true 1 eI x7.2.1,oR true 1 eI x9.1],102⟩) kr) ?_
        refine rb [81] h (fun q30 h=>?_) (fun q30 h=>?_)
        ·refine sz 1 33 ?_
         refine sgL false [] [] true gE ?_
         refine sgL (S:=⟨[(8,.ref 0 0 x7.1.length),(9,.ref 1 0 x7.2.1.length),(11,.ref 2 0 x9.1.length),(13,vI x11.1),(81,vB true),(82,.ref 0 0 x7.1.length),(83,.ref 3 0 2),(84,.ref 4 0 2)],[oR false 1 z1 x7.1,oR true 1 eI x7.2.1,oR true 1 eI x9.1,.row false false true true 1 [vI 1,vI 1],.row false false true true 1 [vI 0,vI 1]],102⟩) false [] [] true kr ?_
         refine bsR (parts:=[(0,.lst true [vI 1,vI 1]),(1,.lst true [vI 0,vI 1])]) (ids:=[3,4]) (es:=[(3,.row false true true true 1 [vI 1,vI 1]),(4,.row false true true true 1 [vI 0,vI 1]),(5,.row false false true (List.all [.lst true [vI 1,vI 1],.lst true [vI 0,vI 1]] AV.scs) 1 [.lst true [vI 1,vI 1],.lst true [vI 0,vI 1]])]) (S:=⟨[(8,.ref 0 0 x7.1.length),(9,.ref 1 0 x7.2.1.length),(11,.ref 2 0 x9.1.length),(13,vI x11.1),(81,vB true),(82,.ref 0 0 x7.1.length),(83,.ref 3 0 2),(84,.ref 4 0 2),(85,.ref 5 0 2)],[oR false 1 z1 x7.1,oR true 1 eI x7.2.1,oR true 1 eI x9.1,.row false true true true 1 [vI 1,vI 1],.row false true true true 1 [vI 0,vI 1],.row false false true false 1 [.lst true [vI 1,vI 1],.lst true [vI 0,vI 1]]],102⟩) [.lst true] false rfl (sparts_snap rfl (show snap _ _ _=some (_,[3]) from kr) (sparts_snap rfl (show snap _ _ _=some (_,[4]) from kr) sparts_nil (by rfl)) (by rfl)) kr ?_
         refine callR (as0:=[.ref 0 0 x7.1.length,.ref 5 0 2]) (ids:=[0,5]) kr bodyB_33 (msnap_cons (snap_full (w:=1) (bx:=false) (ro:=false) kr) (msnap_cons (show snap _ _ _=some (_,[5]) from kr) msnap_nil (by rfl)) (by rfl)) (fun x31 q32=>g_ref17_SameTable_ok x7.1 [[1,1],[0,1]] x31 q32) gF h (fun x31 q32 h=>?_)
         refine sz 2 39 (rwg [9,11,13,88] [1,2] ?_)
         refine rb [88] h (fun q34 h=>?_) (fun q34 h=>?_)
         ·refine sz 1 40 ?_
          refine sgL false [] [] true gE ?_
          refine callR (as0:=[.ref 0 0 x7.2.1.length,.ref 2 0 2]) (ids:=[0,2]) kr bodyB_19 (msnap_cons (snap_full (w:=1) (bx:=false) (ro:=false) kr) (msnap_cons (show snap _ _ _=some (_,[2]) from kr) msnap_nil (by rfl)) (by rfl)) (fun x35 q36=>g_slices_Equal_int_int_ok x7.2.1 [36,24] x35 q36) gF h (fun x35 q36 h=>?_)
          refine sz 2 44 (rwg [11,13,93] [1] ?_)
          refine rb [93] h (fun q38 h=>?_) (fun q38 h=>?_)
          ·refine sz 1 45 ?_
           refine sgL false [] [] true gE ?_
           refine callR (as0:=[.ref 0 0 x9.1.length,.ref 1 0 2]) (ids:=[0,1]) kr bodyB_19 (msnap_cons (snap_full (w:=1) (bx:=false) (ro:=false) kr) (msnap_cons (show snap _ _ _=some (_,[1]) from kr) msnap_nil (by rfl)) (by rfl)) (fun x39 q40=>g_slices_Equal_int_int_ok x9.1 [1,1] x39 q40) gF h (fun x39 q40 h=>?_)
           refine sz 2 49 (rwg [13,98] [] ?_)
           refine rb [98] h (fun q42 h=>?_) (fun q42 h=>?_)
           ·refine sz 4 53 (reg_end rfl ?_)
            refine wgc [0] [] ⟨[(0,vB (x11.1==2))],[],102⟩ ?_
            cases h
            exact wp_ret (show fnOut _ _ _ _=_ from by kernel_rfl)
           refine sz 4 53 (reg_end rfl ?_)
           refine wgc [0] [] ⟨[(0,vB false)],[],102⟩ ?_
           cases h
           exact wp_ret (show fnOut _ _ _ _=_ from by kernel_rfl)
          refine sz 9 53 (reg_end rfl ?_)
          refine wgc [0] [] ⟨[(0,vB false)],[],102⟩ ?_
          cases h
          exact wp_ret (show fnOut _ _ _ _=_ from by kernel_rfl)
         refine sz 14 53 (reg_end rfl ?_)
         refine wgc [0] [] ⟨[(0,vB false)],[],102⟩ ?_
         cases h
         exact wp_ret (show fnOut _ _ _ _=_ from by kernel_rfl)
        refine sz 21 53 (reg_end rfl ?_)
        refine wgc [0] [] ⟨[(0,vB false)],[],102⟩ ?_
        cases h
        exact wp_ret (show fnOut _ _ _ _=_ from by kernel_rfl)
       refine sgz 26 53 (S:=⟨[(5,.ref 0 0 x5.1.length),(8,.ref 1 0 x7.1.length),(9,.ref 2 0 x7.2.1.length),(11,.ref 3 0 x9.1.length),(13,vI x11.1),(76,vB false),(77,.tup []),(78,.tup []),(79,.tup []),(80,vB false),(81,vB false),(82,.tup []),(83,.tup []),(84,.tup []),(85,.tup []),(86,.tup []),(87,vB false),(88,vB false),(89,.tup []),(90,.tup []),(91,.tup []),(92,vB false),(93,vB false),(94,.tup []),(95,.tup []),(96,.tup []),(97,vB false),(98,vB false),(99,.tup []),(100,.tup []),(101,vB false),(0,vB false)],(s11_12 x5 x7 x9),102⟩) ?_
       refine reg_end rfl (wg [0] [] ?_)
       cases h
       exact wp_ret (show fnOut _ _ _ _=_ from by kernel_rfl)
      refine sgz 30 53 (S:=⟨[(5,.ref 0 0 x5.1.length),(6,vI x5.2.1),(8,.ref 1 0 x7.1.length),(9,.ref 2 0 x7.2.1.length),(11,.ref 3 0 x9.1.length),(13,vI x11.1),(72,vB false),(73,.tup []),(74,.tup []),(75,vB false),(76,vB false),(77,.tup []),(78,.tup []),(79,.tup []),(80,vB false),(81,vB false),(82,.tup []),(83,.tup []),(84,.tup []),(85,.tup []),(86,.tup []),(87,vB false),(88,vB false),(89,.tup []),(90,.tup []),(91,.tup []),(92,vB false),(93,vB false),(94,.tup []),(95,.tup []),(96,.tup []),(97,vB false),(98,vB false),(99,.tup []),(100,.tup []),(101,vB false),(0,vB false)],(s11_12 x5 x7 x9),102⟩) ?_
      refine reg_end rfl (wg [0] [] ?_)
      cases h
      exact wp_ret (show fnOut _ _ _ _=_ from by kernel_rfl)
     refine sgz 34 53 (S:=⟨[(3,vI x3.1),(5,.ref 0 0 x5.1.length),(6,vI x5.2.1),(8,.ref 1 0 x7.1.length),(9,.ref 2 0 x7.2.1.length),(11,.ref 3 0 x9.1.length),(13,vI x11.1),(68,vB false),(69,.tup []),(70,.tup []),(71,vB false),(72,vB false),(73,.tup []),(74,.tup []),(75,vB false),(76,vB false),(77,.tup []),(78,.tup []),(79,.tup []),(80,vB false),(81,vB false),(82,.tup []),(83,.tup []),(84,.tup []),(85,.tup []),(86,.tup []),(87,vB false),(88,vB false),(89,.tup []),(90,.tup []),(91,.tup []),(92,vB false),(93,vB false),(94,.tup []),(95,.tup []),(96,.tup []),(97,vB false),(98,vB false),(99,.tup []),(100,.tup []),(101,vB false),(0,vB false)],(s11_12 x5 x7 x9),102⟩) ?_
     refine reg_end rfl (wg [0] [] ?_)
     cases h
     exact wp_ret (show fnOut _ _ _ _=_ from by kernel_rfl)
    refine sz 38 53 (reg_end rfl ?_)
    refine wgc [0] [] ⟨[(0,vB false)],[],102⟩ ?_
    cases h
    exact wp_ret (show fnOut _ _ _ _=_ from by kernel_rfl)
   refine sgz 42 53 (S:=⟨[(3,vI x3.1),(5,.ref 0 0 x5.1.length),(6,vI x5.2.1),(8,.ref 1 0 x7.1.length),(9,.ref 2 0 x7.2.1.length),(11,.ref 3 0 x9.1.length),(12,vI x9.2),(13,vI x11.1),(14,vI x11.2),(60,vB false),(61,.tup []),(62,.tup []),(63,vB false),(64,vB false),(65,.tup []),(66,.tup []),(67,vB false),(68,vB false),(69,.tup []),(70,.tup []),(71,vB false),(72,vB false),(73,.tup []),(74,.tup []),(75,vB false),(76,vB false),(77,.tup []),(78,.tup []),(79,.tup []),(80,vB false),(81,vB false),(82,.tup []),(83,.tup []),(84,.tup []),(85,.tup []),(86,.tup []),(87,vB false),(88,vB false),(89,.tup []),(90,.tup []),(91,.tup []),(92,vB false),(93,vB false),(94,.tup []),(95,.tup []),(96,.tup []),(97,vB false),(98,vB false),(99,.tup []),(100,.tup []),(101,vB false),(0,vB false)],(s11_12 x5 x7 x9),102⟩) ?_
   refine reg_end rfl (wg [0] [] ?_)
   cases h
   exact wp_ret (show fnOut _ _ _ _=_ from by kernel_rfl)
  refine sgz 46 53 (S:=⟨[(3,vI x3.1),(5,.ref 0 0 x5.1.length),(6,vI x5.2.1),(8,.ref 1 0 x7.1.length),(9,.ref 2 0 x7.2.1.length),(10,vI x7.2.2),(11,.ref 3 0 x9.1.length),(12,vI x9.2),(13,vI x11.1),(14,vI x11.2),(56,vB false),(57,.tup []),(58,.tup []),(59,vB false),(60,vB false),(61,.tup []),(62,.tup []),(63,vB false),(64,vB false),(65,.tup []),(66,.tup []),(67,vB false),(68,vB false),(69,.tup []),(70,.tup []),(71,vB false),(72,vB false),(73,.tup []),(74,.tup []),(75,vB false),(76,vB false),(77,.tup []),(78,.tup []),(79,.tup []),(80,vB false),(81,vB false),(82,.tup []),(83,.tup []),(84,.tup []),(85,.tup []),(86,.tup []),(87,vB false),(88,vB false),(89,.tup []),(90,.tup []),(91,.tup []),(92,vB false),(93,vB false),(94,.tup []),(95,.tup []),(96,.tup []),(97,vB false),(98,vB false),(99,.tup []),(100,.tup []),(101,vB false),(0,vB false)],(s11_12 x5 x7 x9),102⟩) ?_
  refine reg_end rfl (wg [0] [] ?_)
  cases h
  exact wp_ret (show fnOut _ _ _ _=_ from by kernel_rfl)
 refine sgz 50 53 (S:=⟨[(3,vI x3.1),(4,vI x3.2),(5,.ref 0 0 x5.1.length),(6,vI x5.2.1),(7,vI x5.2.2),(8,.ref 1 0 x7.1.length),(9,.ref 2 0 x7.2.1.length),(10,vI x7.2.2),(11,.ref 3 0 x9.1.length),(12,vI x9.2),(13,vI x11.1),(14,vI x11.2)]++[(50,vI x3.2),(51,vB false),(52,vB false),(53,.tup []),(54,.tup []),(55,vB false),(56,vB false),(57,.tup []),(58,.tup []),(59,vB false),(60,vB false),(61,.tup []),(62,.tup []),(63,vB false),(64,vB false),(65,.tup []),(66,.tup []),(67,vB false),(68,vB false),(69,.tup []),(70,.tup []),(71,vB false),(72,vB false),(73,.tup []),(74,.tup []),(75,vB false),(76,vB false),(77,.tup []),(78,.tup []),(79,.tup []),(80,vB false),(81,vB false),(82,.tup []),(83,.tup []),(84,.tup []),(85,.tup []),(86,.tup []),(87,vB false),(88,vB false),(89,.tup []),(90,.tup []),(91,.tup []),(92,vB false),(93,vB false),(94,.tup []),(95,.tup []),(96,.tup []),(97,vB false),(98,vB false),(99,.tup []),(100,.tup []),(101,vB false),(0,vB false)],(s11_12 x5 x7 x9),102⟩) ?_
 refine reg_end rfl (wg [0] [] ?_)
 cases h
 exact wp_ret (show fnOut _ _ _ _=_ from by kernel_rfl)
theorem g_ref17_Split_ok (p0:Int) (p1:Int) (p2:(List Int)) (x:(List Int)) (h:g_ref17_Split p0 p1 p2=some x):CallOk Try.prog 60 [vI p0,vI p1,eL true (AV.int .u8) p2] (.ret (.ref 0 0 x.length) [oR true 1 eI x]):=by
 refine fn_ok [] Try.func60 rfl (by decide +kernel) rfl ?_
 unfold g_ref17_Split at h
 refine wp_eqB (base':=0) (st':=⟨[(0,vI p0),(1,vI p1),(2,eL true (AV.int .u8) p2)],[],42⟩) kr kr ?_
 refine sq (sq (sq (wp_seq (sq (wp_block ?_)))))
 refine wwh h (fun s1=>⟨[(0,vI p0),(2,eL true (AV.int .u8) p2),(7,.ref 0 0 s1.2.2.length),(8,vI s1.1),(9,vI s1.2.1)],[oR true 1 eI s1.2.2],42⟩) (fun v out=>out=.go (.exit 0) ⟨[(7,.ref 0 0 v.length)],[oR true 1 eI v],42⟩) (wk_trans (wk_gc (live:=[0,2,7,8,9]) (keep:=[]) (st':=⟨[(0,vI p0),(2,eL true (AV.int .u8) p2),(7,.nils),(8,vI p1),(9,vI 0)],[],42⟩) kr) (wk_trans (wk_nil 7 1 true true (st':=⟨[(0,vI p0),(2,eL true (AV.int .u8) p2),(7,.ref 0 0 0),(8,vI p1),(9,vI 0)],[.row false false true true 1 []],42⟩) kr) (wk_gc (live:=[0,2,7,8,9]) (keep:=[0]) kr))) ?_ ?_
 ·intro s1 o h
  unfold g_ref17_Split_b0 at h
  refine wp_seq (sq ?_)
  refine wb [14] h (fun q3 h=>?_) (fun q3 h=>?_)
  ·refine wcT (wp_skip (wp_seq (wp_block (sq (wp_seq (sq ?_))))))
   refine wbz h (fun q5 h=>?_) (fun q5 h=>?_)
   ·refine wp_seq ?_
    refine wgc [0,2,7,8,9] [0] ⟨[(0,vI p0),(2,eL true (AV.int .u8) p2),(7,.ref 0 0 s1.2.2.length),(8,vI s1.1),(9,vI s1.2.1)],[oR true 1 eI s1.2.2],42⟩ ?_
    refine rn (wp_seq (reg_in (sz 2 2 ?_)))
    refine lenL (enc:=(AV.int .u8)) (l:=p2) (fl:=true) kr gE ?_
    refine sz 1 4 (reg_end rfl ?_)
    refine wb [25] h (fun q7 h=>?_) (fun q7 h=>?_)
    ·refine wcT (wg [0,2,7,8,9] [0] (reg_in (sz 2 2 ?_)))
     refine bind_elim h (fun a8 q9 h=>?_)
     refine idxL' (enc:=(AV.int .u8)) (l:=p2) (n:=s1.2.1) (fl:=true) (w:=1) (a:=a8) kr rfl gE q9 ?_
     refine sz 4 7 ?_
     refine remR (k:=.i64) (a:=zw (a8)) (b:=zw (s1.1+1)) kr gE h (fun h=>?_)
     refine sz 1 9 (reg_end rfl (wp_seq ?_))
     refine wgc [0,2,7,8,9,10] [0] ⟨[(0,vI p0),(2,eL true (AV.int .u8) p2),(7,.ref 0 0 s1.2.2.length),(8,vI s1.1),(9,vI s1.2.1),(10,vI (Int.tmod (zw (a8)) (zw (s1.1+1))))],[oR true 1 eI s1.2.2],42⟩ ?_
     refine reg_in (sz 2 2 ?_)
     refine sgL false [] [] true gE ?_
     refine appR (enc:=eI) (l:=s1.2.2) (m:=([Int.tmod (zw (a8)) (zw (s1.1+1))]:(List Int))) (w:=1) (bytes:=8) (ob:=0) (nr:=true) (fl:=true) (nr':=true) (fl':=true) (b:=.ref 1 0 1) (rds:=[1]) false kr kr kr rfl gE kr h (fun h=>?_)
     refine sz 1 5 (reg_end rfl (rn (wg [0,2,7,8,9] [2] (rn ?_))))
     cases h
     exact ⟨_,rfl,(wk_gc (live:=[0,2,7,8,9]) (keep:=[0]) kr)⟩
    refine wcF (wp_skip (wp_seq (reg_in (sz 2 2 ?_))))
    refine sgL false [] [] true gE ?_
    refine appR (enc:=eI) (l:=s1.2.2) (m:=([0]:(List Int))) (w:=1) (bytes:=8) (ob:=0) (nr:=true) (fl:=true) (nr':=true) (fl':=true) (b:=.ref 1 0 1) (rds:=[1]) false kr kr kr rfl gE kr h (fun h=>?_)
    refine sz 1 5 (reg_end rfl ?_)
    refine wgc [0,2,7,8,9,10] [2] ⟨[(0,vI p0),(2,eL true (AV.int .u8) p2),(7,.ref 0 0 ((s1.2.2++([0]:(List Int))).length)),(8,vI s1.1),(9,vI s1.2.1),(10,vI 0)],[oR true 1 eI (s1.2.2++([0]:(List Int)))],42⟩ ?_
    refine rn (rn ?_)
    cases h
    exact ⟨_,rfl,(wk_gc (live:=[0,2,7,8,9]) (keep:=[0]) kr)⟩
   refine wp_skip (wp_seq ?_)
   refine wgc [0,2,7,8,9,10] [0] ⟨[(0,vI p0),(2,eL true (AV.int .u8) p2),(7,.ref 0 0 s1.2.2.length),(8,vI s1.1),(9,vI s1.2.1),(10,vI s1.1)],[oR true 1 eI s1.2.2],42⟩ ?_
   refine reg_in (sz 2 2 ?_)
   refine sgL false [] [] true gE ?_
   refine appR (enc:=eI) (l:=s1.2.2) (m:=([s1.1]:(List Int))) (w:=1) (bytes:=8) (ob:=0) (nr:=true) (fl:=true) (nr':=true) (fl':=true) (b:=.ref 1 0 1) (rds:=[1]) false kr kr kr rfl gE kr h (fun h=>?_)
   refine sz 1 5 (reg_end rfl (rn (wg [0,2,7,8,9] [2] (rn ?_))))
   cases h
   exact ⟨_,rfl,(wk_gc (live:=[0,2,7,8,9]) (keep:=[0]) kr)⟩
  refine wcF (wg [7] [0] ?_)
  refine wp_exit ?_
  cases h
  exact ⟨kr,rfl⟩
 intro x11 h out hx
 subst hx
 refine sq (wg [6] [0] ?_)
 cases h
 exact wp_ret (show fnOut _ _ _ _=_ from by kernel_rfl)
theorem g_ref17_Draft_from_ok (p0:Tharuspexref17_Draft) (p1:Int) (x:(List Int)) (h:g_ref17_Draft_from p0 p1=some x):CallOk Try.prog 61 [.agg [.int .u8 p0.Grain,.int .u8 p0.States,.int .u8 p0.Shows,eL true (AV.int .u8) p0.L,eL true (AV.int .u8) p0.Seen],vI p1] (.ret (.ref 0 0 x.length) [oR true 1 (AV.int .u8) x]):=by
 refine fn_ok [] Try.func61 rfl (by decide +kernel) rfl ?_
 unfold g_ref17_Draft_from at h
 refine wp_eqB (base':=0) (st':=⟨[(0,.agg [.int .u8 p0.Grain,.int .u8 p0.States,.int .u8 p0.Shows,eL true (AV.int .u8) p0.L,eL true (AV.int .u8) p0.Seen]),(1,vI p1)],[],30⟩) kr kr ?_
 refine wp_seq (reg_in ?_)
 refine sgL false [] [] false gE ?_
 refine sz 1 2 (reg_end rfl (wp_seq (wp_seq (reg_in (sz 2 2 ?_)))))
 refine lenL (enc:=(AV.int .u8)) (l:=p0.L) (fl:=true) kr gE ?_
 refine sz 1 4 (reg_end rfl ?_)
 refine wbz h (fun q2 h=>?_) (fun q2 h=>?_)
 ·refine wp_seq (wg [] [] (rn ?_))
  refine wgc [4] [] ⟨[(4,.nils)],[],30⟩ ?_
  refine wp_wk (wk_nil 4 1 true true gE) ?_
  cases h
  exact wp_ret (show fnOut _ _ _ _=_ from by kernel_rfl)
 refine wp_skip (wp_seq (wg [1,2] [0] (rn (wp_seq (sq (wp_block ?_))))))
 refine wwh h (fun s3=>⟨[(1,vI p1),(2,.ptr 0 0 0),(5,.ref 1 0 s3.2.length),(6,vI s3.1)],[oX true false 5 (.agg [.int .u8 p0.Grain,.int .u8 p0.States,.int .u8 p0.Shows,eL true (AV.int .u8) p0.L,eL true (AV.int .u8) p0.Seen]),oR true 1 (AV.int .u8) s3.2],30⟩) (fun v out=>out=.go (.exit 0) ⟨[(5,.ref 0 0 v.length)],[oR true 1 (AV.int .u8) v],30⟩) (wk_trans (wk_gc (live:=[1,2,5,6]) (keep:=[0]) (st':=⟨[(1,vI p1),(2,.ptr 0 0 0),(5,.nils),(6,vI 0)],[oX true false 5 (.agg [.int .u8 p0.Grain,.int .u8 p0.States,.int .u8 p0.Shows,eL true (AV.int .u8) p0.L,eL true (AV.int .u8) p0.Seen])],30⟩) kr) (wk_trans (wk_nil 5 1 true true (st':=⟨[(1,vI p1),(2,.ptr 0 0 0),(5,.ref 1 0 0),(6,vI 0)],[oX true false 5 (.agg [.int .u8 p0.Grain,.int .u8 p0.States,.int .u8 p0.Shows,eL true (AV.int .u8) p0.L,eL true (AV.int .u8) p0.Seen]),.row false false true true 1 []],30⟩) kr) (wk_gc (live:=[1,2,5,6]) (keep:=[0,1]) kr))) ?_ ?_
 ·intro s3 o h
  unfold g_ref17_Draft_from_b0 at h
  refine wp_seq (sq ?_)
  refine wb [12] h (fun q5 h=>?_) (fun q5 h=>?_)
  ·refine wcT (wp_skip (wp_seq (wp_block (rga hfol (sy 8 8 ?_)))))
   refine lenL (enc:=(AV.int .u8)) (l:=p0.L) (fl:=true) kr gE ?_
   refine remR (k:=.i64) (a:=zw (p1+s3.1)) (b:=(zn p0.L)) kr gE h (fun h=>?_)
   refine bind_elim h (fun a6 q7 h=>?_)
   refine idxL' (enc:=(AV.int .u8)) (l:=p0.L) (n:=Int.tmod (zw (p1+s3.1)) (zn p0.L)) (fl:=true) (w:=1) (a:=a6) kr rfl gE q7 ?_
   refine sy 1 12 ?_
   refine sgL false [] [] true gE ?_
   refine appR (enc:=(AV.int .u8)) (l:=s3.2) (m:=([a6]:(List Int))) (w:=1) (bytes:=1) (ob:=1) (nr:=true) (fl:=true) (nr':=true) (fl':=true) (b:=.ref 2 0 1) (rds:=[2]) false kr kr kr rfl gE kr h (fun h=>?_)
   refine sy 1 15 (rgd ?_)
   refine wgc [1,2,5,6] [0,3] ⟨[(1,vI p1),(2,.ptr 0 0 0),(5,.ref 1 0 ((s3.2++([a6]:(List Int))).length)),(6,vI s3.1)],[oX true false 5 (.agg [.int .u8 p0.Grain,.int .u8 p0.States,.int .u8 p0.Shows,eL true (AV.int .u8) p0.L,eL true (AV.int .u8) p0.Seen]),oR true 1 (AV.int .u8) (s3.2++([a6]:(List Int)))],30⟩ ?_
   refine rn ?_
   cases h
   exact ⟨_,rfl,(wk_gc (live:=[1,2,5,6]) (keep:=[0,1]) kr)⟩
  refine wcF (wg [5] [1] ?_)
  refine wp_exit ?_
  cases h
  exact ⟨kr,rfl⟩
 intro x9 h out hx
 subst hx
 refine sq (wg [4] [0] ?_)
 cases h
 exact wp_ret (show fnOut _ _ _ _=_ from by kernel_rfl)
theorem g_ref17_Draft_Hidden_ok (p0:Tharuspexref17_Draft) (x:Tapi_Hidden) (h:g_ref17_Draft_Hidden p0=some x):CallOk Try.prog 25 [.agg [.int .u8 p0.Grain,.int .u8 p0.States,.int .u8 p0.Shows,eL true (AV.int .u8) p0.L,eL true (AV.int .u8) p0.Seen]] (.ret (.agg [vI x.Grain,.ref 0 0 x.First.length,.ref 1 0 x.Step.length,.ref 2 0 x.Show.length]) [oR true 1 eI x.First,oR false 1 z1 x.Step,oR false 1 z1 x.Show]):=by
 refine fn_ok [] Try.func25 rfl (by decide +kernel) rfl ?_
 unfold g_ref17_Draft_Hidden at h
 refine wp_eqB (base':=0) (st':=⟨[(0,.agg [.int .u8 p0.Grain,.int .u8 p0.States,.int .u8 p0.Shows,eL true (AV.int .u8) p0.L,eL true (AV.int .u8) p0.Seen])],[],62⟩) kr kr ?_
 refine wp_seq (reg_in ?_)
 refine sgL false [] [] false gE ?_
 refine sgL false [] [] false gE ?_
 refine reg_end rfl (wp_seq (rga hfol (sy 18 18 (rgd (wp_seq ?_)))))
 refine wgc [1,2,3,4,5] [0,1] ⟨[(1,.ptr 0 0 0),(2,.ptr 1 0 0),(3,vI (zw (1+(zw (Int.tmod p0.Grain 12))))),(4,vI (zw (1+(zw (Int.tmod p0.States 4))))),(5,vI (zw (1+(zw (Int.tmod p0.Shows 4)))))],[oX true false 5 (.agg [.int .u8 p0.Grain,.int .u8 p0.States,.int .u8 p0.Shows,eL true (AV.int .u8) p0.L,eL true (AV.int .u8) p0.Seen]),oX true false 4 (.agg [vI 0,.nils,.nils,.nils])],62⟩ ?_
 refine reg_in (sz 4 4 ?_)
 refine callW bodyB_61 (g_ref17_Draft_from_ok p0 0) h (fun x1 _ h=>?_)
 refine callR (as0:=[vI (zw (1+(zw (Int.tmod p0.States 4)))),vI (zw (1+(zw (Int.tmod p0.Grain 12)))),.ref 2 0 x1.length]) (ids:=[2]) kr bodyB_60 (msnap_cons rfl (msnap_cons rfl (msnap_cons (snap_full (w:=1) (bx:=false) (ro:=false) kr) msnap_nil (by rfl)) (by rfl)) (by rfl)) (fun x3 q4=>g_ref17_Split_ok (zw (1+(zw (Int.tmod p0.States 4)))) (zw (1+(zw (Int.tmod p0.Grain 12)))) x1 x3 q4) gF h (fun x3 q4 h=>?_)
 refine sz 1 7 ?_
 refine sgL false [] [] false gE ?_
 refine sz 1 9 (reg_end rfl (wp_seq (wp_seq (wg [1,2,3,4,5,6] [0,1,4,3] (rn (wp_block ?_))))))
 refine wwh h (fun s5=>⟨[(1,.ptr 0 0 0),(2,.ptr 1 0 0),(3,vI (zw (1+(zw (Int.tmod p0.Grain 12))))),(4,vI (zw (1+(zw (Int.tmod p0.States 4))))),(5,vI (zw (1+(zw (Int.tmod p0.Shows 4))))),(6,.ptr 2 0 0),(7,vI s5.1)],[oX true false 5 (.agg [.int .u8 p0.Grain,.int .u8 p0.States,.int .u8 p0.Shows,eL true (AV.int .u8) p0.L,eL true (AV.int .u8) p0.Seen]),oX true false 4 (.agg [vI 0,.nils,.nils,.nils]),oX false false 4 (.agg [vI (zw (1+(zw (Int.tmod p0.Grain 12)))),.ref 3 0 x3.length,.ref 4 0 s5.2.1.length,.ref 5 0 s5.2.2.length]),oR true 1 eI x3,oR false 1 z1 s5.2.1,oR false 1 z1 s5.2.2],62⟩) (fun v out=>out=.go (.exit 0) ⟨[(2,.ptr 0 0 0),(6,.ptr 1 0 0)],[oX true false 4 (.agg [vI 0,.nils,.nils,.nils]),oX false false 4 (.agg [vI (zw (1+(zw (Int.tmod p0.Grain 12)))),.ref 2 0 x3.length,.ref 3 0 v.1.length,.ref 4 0 v.2.length]),oR true 1 eI x3,oR false 1 z1 v.1,oR false 1 z1 v.2],62⟩) (wk_trans (wk_gc (live:=[1,2,3,4,5,6,7]) (keep:=[0,1,2,3]) (st':=⟨[(1,.ptr 0 0 0),(2,.ptr 1 0 0),(3,vI (zw (1+(zw (Int.tmod p0.Grain 12))))),(4,vI (zw (1+(zw (Int.tmod p0.States 4))))),(5,vI (zw (1+(zw (Int.tmod p0.Shows 4))))),(6,.ptr 2 0 0),(7,vI 0)],[oX true false 5 (.agg [.int .u8 p0.Grain,.int .u8 p0.States,.int .u8 p0.Shows,eL true (AV.int .u8) p0.L,eL true (AV.int .u8) p0.Seen]),oX true false 4 (.agg [vI 0,.nils,.nils,.nils]),oX false false 4 (.agg [vI (zw (1+(zw (Int.tmod p0.Grain 12)))),.ref 3 0 x3.length,.nils,.nils]),oR true 1 eI x3],62⟩) kr) (wk_trans (wk_nilO 2 0 2 1 true false (st':=⟨[(1,.ptr 0 0 0),(2,.ptr 1 0 0),(3,vI (zw (1+(zw (Int.tmod p0.Grain 12))))),(4,vI (zw (1+(zw (Int.tmod p0.States 4))))),(5,vI (zw (1+(zw (Int.tmod p0.Shows 4))))),(6,.ptr 2 0 0),(7,vI 0)],[oX true false 5 (.agg [.int .u8 p0.Grain,.int .u8 p0.States,.int .u8 p0.Shows,eL true (AV.int .u8) p0.L,eL true (AV.int .u8) p0.Seen]),oX true false 4 (.agg [vI 0,.nils,.nils,.nils]),oX false false 4 (.agg [vI (zw (1+(zw (Int.tmod p0.Grain 12)))),.ref 3 0 x3.length,.ref 4 0 0,.nils]),oR true 1 eI x3,.row false false true false 1 []],62⟩) kr) (wk_trans (wk_nilO 2 0 3 1 true false (st':=⟨[(1,.ptr 0 0 0),(2,.ptr 1 0 0),(3,vI (zw (1+(zw (Int.tmod p0.Grain 12))))),(4,vI (zw (1+(zw (Int.tmod p0.States 4))))),(5,vI (zw (1+(zw (Int.tmod p0.Shows 4))))),(6,.ptr 2 0 0),(7,vI 0)],[oX true false 5 (.agg [.int .u8 p0.Grain,.int .u8 p0.States,.int .u8 p0.Shows,eL true (AV.int .u8) p0.L,eL true (AV.int .u8) p0.Seen]),oX true false 4 (.agg [vI 0,.nils,.nils,.nils]),oX false false 4 (.agg [vI (zw (1+(zw (Int.tmod p0.Grain 12)))),.ref 3 0 x3.length,.ref 4 0 0,.ref 5 0 0]),oR true 1 eI x3,.row false false true false 1 [],.row false false true false 1 []],62⟩) kr) (wk_gc (live:=[1,2,3,4,5,6,7]) (keep:=[0,1,2,3,4,5]) kr)))) ?_ ?_
 ·intro s5 o h
  unfold g_ref17_Draft_Hidden_b0 at h
  refine wp_seq (sq ?_)
  refine wb [32] h (fun q7 h=>?_) (fun q7 h=>?_)
  ·refine wcT (wp_skip (wp_seq (wp_block (wp_seq (rga hfol (sy 8 8 ?_))))))
   refine callW bodyB_61 (fun x8 q9=>CallOk.froz (g_ref17_Draft_from_ok p0 (zw (4+(zw (8*s5.1)))) x8 q9) (snap_full (w:=1) (bx:=false) (ro:=false) rfl)) h (fun x8 q9 h=>?_)
   refine callW bodyB_60 (fun x10 q11=>CallOk.froz (g_ref17_Split_ok (zw (1+(zw (Int.tmod p0.States 4)))) (zw (1+(zw (Int.tmod p0.Grain 12)))) x8 x10 q11) (snap_full (w:=1) (bx:=false) (ro:=false) rfl)) h (fun x10 q11 h=>?_)
   refine sgL false [] [.lst true] false gE ?_
   refine appR (enc:=z1) (l:=s5.2.1) (m:=([x10]:(List (List Int)))) (w:=1) (bytes:=24) (ob:=4) (nr:=true) (fl:=false) (nr':=true) (fl':=false) (b:=.ref 6 0 1) (rds:=[6]) false kr kr kr rfl gE kr h (fun h=>?_)
   refine sy 2 14 (rgd ?_)
   refine wgc [1,2,3,4,5,6,7] [0,1,2,3,7,5] ⟨[(1,.ptr 0 0 0),(2,.ptr 1 0 0),(3,vI (zw (1+(zw (Int.tmod p0.Grain 12))))),(4,vI (zw (1+(zw (Int.tmod p0.States 4))))),(5,vI (zw (1+(zw (Int.tmod p0.Shows 4))))),(6,.ptr 2 0 0),(7,vI s5.1)],[oX true false 5 (.agg [.int .u8 p0.Grain,.int .u8 p0.States,.int .u8 p0.Shows,eL true (AV.int .u8) p0.L,eL true (AV.int .u8) p0.Seen]),oX true false 4 (.agg [vI 0,.nils,.nils,.nils]),oX false false 4 (.agg [vI (zw (1+(zw (Int.tmod p0.Grain 12)))),.ref 3 0 x3.length,.ref 4 0 ((s5.2.1++([x10]:(List (List Int)))).length),.ref 5 0 s5.2.2.length]),oR true 1 eI x3,oR false 1 z1 (s5.2.1++([x10]:(List (List Int)))),oR false 1 z1 s5.2.2],62⟩ ?_
   refine rga hfol (sy 8 8 ?_)
   refine callW bodyB_61 (fun x12 q13=>CallOk.froz (g_ref17_Draft_from_ok p0 (zw (8+(zw (8*s5.1)))) x12 q13) (snap_full (w:=1) (bx:=false) (ro:=false) rfl)) h (fun x12 q13 h=>?_)
   refine callW bodyB_60 (fun x14 q15=>CallOk.froz (g_ref17_Split_ok (zw (1+(zw (Int.tmod p0.Shows 4)))) (zw (1+(zw (Int.tmod p0.Grain 12)))) x12 x14 q15) (snap_full (w:=1) (bx:=false) (ro:=false) rfl)) h (fun x14 q15 h=>?_)
   refine sgL false [] [.lst true] false gE ?_
   refine appR (enc:=z1) (l:=s5.2.2) (m:=([x14]:(List (List Int)))) (w:=1) (bytes:=24) (ob:=5) (nr:=true) (fl:=false) (nr':=true) (fl':=false) (b:=.ref 6 0 1) (rds:=[6]) false kr kr kr rfl gE kr h (fun h=>?_)
   refine sy 2 14 (rgd (wg [1,2,3,4,5,6,7] [0,1,2,3,4,7] (rn ?_)))
   cases h
   exact ⟨_,rfl,(wk_gc (live:=[1,2,3,4,5,6,7]) (keep:=[0,1,2,3,4,5]) kr)⟩
  refine wcF (wg [2,6] [1,2,3,4,5] ?_)
  refine wp_exit ?_
  cases h
  exact ⟨kr,rfl⟩
 intro x17 h out hx
 subst hx
 refine sq (wg [2] [0,2,3,4] ?_)
 cases h
 exact wp_ret (show fnOut _ _ _ _=_ from by kernel_rfl)
noncomputable abbrev s34_9 (p1:Tapi_Hidden) (s1:(Int × (List (List Int)))) (a4:(List Int)):List (Nat × AV):=[(0,z2 p1.Step),(3,.ref 7 0 ((s1.2++[a4]).length)),(4,vI s1.1),(6,vI s1.1),(7,z2 p1.Step),(8,vI (zn p1.Step)),(9,vB true),(5,.nils),(12,.ref 3 0 s1.2.length),(13,.nils),(14,z2 p1.Step),(15,vI s1.1),(16,.fz [z1 a4]),(17,z1 a4),(18,.ref 5 0 a4.length),(19,.ref 6 0 1),(20,.ref 7 0 ((s1.2++[a4]).length))]
noncomputable abbrev s34_11 (p1:Tapi_Hidden) (s1:(Int × (List (List Int)))) (a4:(List Int)):List (Nat × AV):=[(0,z2 p1.Step),(3,.ref 7 0 ((s1.2++[a4]).length)),(4,vI s1.1),(6,vI s1.1),(7,z2 p1.Step),(8,vI (zn p1.Step)),(9,vB true),(5,.nils),(12,.ref 3 0 s1.2.length),(13,.nils),(14,z2 p1.Step),(15,vI s1.1),(16,.fz [z1 a4]),(17,z1 a4),(19,.ref 6 0 1),(20,.ref 7 0 ((s1.2++[a4]).length))]
noncomputable abbrev s34_26 (p1:Tapi_Hidden) (s8:(Int × (List (List Int)))) (a11:(List Int)):List (Nat × AV):=[(0,z2 p1.Show),(3,.ref 9 0 ((s8.2++[a11]).length)),(4,vI s8.1),(6,vI s8.1),(7,z2 p1.Show),(8,vI (zn p1.Show)),(9,vB true),(5,.nils),(12,.ref 5 0 s8.2.length),(13,.nils),(14,z2 p1.Show),(15,vI s8.1),(16,.fz [z1 a11]),(17,z1 a11),(18,.ref 7 0 a11.length),(19,.ref 8 0 1),(20,.ref 9 0 ((s8.2++[a11]).length))]
noncomputable abbrev s34_28 (p1:Tapi_Hidden) (s8:(Int × (List (List Int)))) (a11:(List Int)):List (Nat × AV):=[(0,z2 p1.Show),(3,.ref 9 0 ((s8.2++[a11]).length)),(4,vI s8.1),(6,vI s8.1),(7,z2 p1.Show),(8,vI (zn p1.Show)),(9,vB true),(5,.nils),(12,.ref 5 0 s8.2.length),(13,.nils),(14,z2 p1.Show),(15,vI s8.1),(16,.fz [z1 a11]),(17,z1 a11),(19,.ref 8 0 1),(20,.ref 9 0 ((s8.2++[a11]).length))]
noncomputable abbrev s34_96 (p1:Tapi_Hidden) (x7:(List (List Int))) (x14:(List (List Int))):List AObj:=[oX false false 4 (.agg [vI p1.Grain,.ref 2 0 p1.First.length,.ref 3 0 x7.length,.ref 4 0 x14.length]),oX true false 4 (.agg [vI 0,.nils,.nils,.nils]),oR true 1 eI p1.First,.refs 5 (eF eI x7),.refs 6 (eF eI x14),.fam 1 true (eF eI x7),.fam 1 true (eF eI x14)]
theorem g_ref17_Bend_Of_ok (p0:Tharuspexref17_Bend) (p1:Tapi_Hidden) (x:Tapi_Hidden) (h:g_ref17_Bend_Of p0 p1=some x):CallOk Try.prog 34 [.agg [.int .u8 p0.What,.int .u8 p0.S,.int .u8 p0.At,vI p0.N],.agg [vI p1.Grain,z1 p1.First,z2 p1.Step,z2 p1.Show]] (.ret (.agg [vI x.Grain,z1 x.First,z2 x.Step,z2 x.Show]) []):=by
 refine fn_ok [[.keep,.lst true,.lst false,.lst false]] Try.func34 rfl (by decide +kernel) rfl ?_
 unfold g_ref17_Bend_Of at h
 refine wp_eqB (base':=0) (st':=⟨[(0,.agg [.int .u8 p0.What,.int .u8 p0.S,.int .u8 p0.At,vI p0.N]),(1,.agg [vI p1.Grain,z1 p1.First,z2 p1.Step,z2 p1.Show])],[],123⟩) kr kr ?_
 refine wp_seq (reg_in (sz 1 1 ?_))
 refine sgL false [] [] false gE ?_
 refine sgL false [] [] false gE ?_
 refine reg_end rfl (wp_seq ?_)
 refine wp_post ?_
 refine rga hfol (sy 2 2 ?_)
 refine inlN (f:=69) (fn:=Try.f69) (as0:=[z2 p1.Step]) kr kr Try.func69 rfl (by decide +kernel) rfl ?_
 refine wp_eqB (base':=3) (st':=⟨[(0,z2 p1.Step)],[.dead,.dead,.dead],22⟩) kr kr ?_
 refine sq (sq (wp_seq ?_))
 refine sqN (S:=⟨[(0,z2 p1.Step),(2,.nils),(3,.nils),(4,vI 0)],[.dead,.dead,.dead],22⟩) ?_
 refine wp_block ?_
 refine wwh h (fun s1=>⟨[(0,z2 p1.Step),(3,.ref 3 0 s1.2.length),(4,vI s1.1)],[.dead,.dead,.dead,.refs 4 (eF eI s1.2),.fam 1 true (eF eI s1.2)],22⟩) (fun v out=>out=.go (.exit 0) ⟨[(3,.ref 3 0 v.length)],[.dead,.dead,.dead,.refs 4 (eF eI v),.fam 1 true (eF eI v)],22⟩) (wk_trans (wk_gc (live:=[0,3,4]) (keep:=[]) (st':=⟨[(0,z2 p1.Step),(3,.nils),(4,vI 0)],[.dead,.dead,.dead],22⟩) kr) (wk_trans (wk_nil 3 1 true true (st':=⟨[(0,z2 p1.Step),(3,.ref 3 0 0),(4,vI 0)],[.dead,.dead,.dead,.row false false true true 1 []],22⟩) kr) (wk_trans (wk_fam 3 1 true (x0:=([]:List Int)) (n:=0) (enc1:=fun _=>AV.nils) eI rfl rfl rfl (st':=⟨[(0,z2 p1.Step),(3,.ref 3 0 (([]:List (List Int)).length)),(4,vI 0)],[.dead,.dead,.dead,.refs 4 (eF eI ([]:List (List Int))),.fam 1 true (eF eI ([]:List (List Int)))],22⟩) kr) (wk_gc (live:=[0,3,4]) (keep:=[3,4]) kr)))) ?_ ?_
 ·intro s1 o h
  unfold g_ref17_Bend_Of_b0 at h
  refine wp_seq (wp_seq (reg_in (sz 2 2 ?_)))
  refine lenL (enc:=z1) (l:=p1.Step) (fl:=false) kr gE ?_
  refine sz 1 4 (reg_end rfl ?_)
  refine wb [9] h (fun q3 h=>?_) (fun q3 h=>?_)
  ·refine wcT (wp_skip (wp_seq (wp_block (sq ?_))))
   refine wp_post ?_
   refine reg_in (sz 4 4 ?_)
   refine bind_elim h (fun a4 q5 h=>?_)
   refine idxL' (enc:=z1) (l:=p1.Step) (n:=s1.1) (fl:=false) (w:=1) (a:=a4) kr rfl gE q5 ?_
   refine sz 1 6 ?_
   refine appN (enc:=eI) (m:=a4) (w:=1) (bytes:=8) (nr':=true) (fl':=true) (a:=.nils) (b:=z1 a4) (rds:=[]) (S:=⟨[(0,z2 p1.Step),(3,.ref 3 0 s1.2.length),(4,vI s1.1),(6,vI s1.1),(7,z2 p1.Step),(8,vI (zn p1.Step)),(9,vB true),(5,.nils),(12,.ref 3 0 s1.2.length),(13,.nils),(14,z2 p1.Step),(15,vI s1.1)]++[(16,.fz [z1 a4]),(17,z1 a4),(18,.ref 5 0 a4.length)],[.dead,.dead,.dead,.refs 4 (eF eI s1.2),.fam 1 true (eF eI s1.2),oR true 1 eI a4],22⟩) false kr (.inl rfl) (elems_lst (fun _=>rfl)) rfl kr kr h (fun h=>?_)
   refine sgN true 1 8 gE rfl ?_
   refine appF (enc:=eI) (ls:=s1.2) (q:=a4) (bytes:=24) (ob:=3) (j:=4) (tm:=6) (m:=5) kr kr rfl kr gE kr h (fun h=>?_)
   refine sgz 1 10 (S:=⟨(s34_9 p1 s1 a4),[.dead,.dead,.dead,.dead,.fam 1 true (eF eI s1.2),oR true 1 eI a4,.row false false false false 1 [.ref 5 0 a4.length],.row false false false false 1 (famRefs 4 0 (eF eI s1.2)++[.ref 5 0 a4.length])],22⟩) ?_
   refine reg_end rfl ?_
   refine ⟨⟨(s34_11 p1 s1 a4),[.dead,.dead,.dead,.dead,.fam 1 true (eF eI (s1.2++[a4])),.dead,.dead,.refs 4 (eF eI (s1.2++[a4]))],22⟩,(wk_trans (wk_dead 6 (st':=⟨(s34_9 p1 s1 a4),[.dead,.dead,.dead,.dead,.fam 1 true (eF eI s1.2),oR true 1 eI a4,.dead,.row false false false false 1 (famRefs 4 0 (eF eI s1.2)++[.ref 5 0 a4.length])],22⟩) (by kernel_rfl)) (wk_adoptA 7 4 5 (enc:=eI) (ls:=s1.2) (b:=a4) [0,3,4,6,7,8,9,5,12,13,14,15,16,17,19,20] (st':=⟨(s34_11 p1 s1 a4),[.dead,.dead,.dead,.dead,.fam 1 true (eF eI (s1.2++[a4])),.dead,.dead,.refs 4 (eF eI (s1.2++[a4]))],22⟩) rfl rfl rfl (by kernel_rfl) (by kernel_rfl))),?_⟩
   refine wg [0,3,4] [7,4] (rn ?_)
   cases h
   exact ⟨_,rfl,(wk_gc (live:=[0,3,4]) (keep:=[3,4]) kr)⟩
  refine wcF (wg [3] [3,4] ?_)
  refine wp_exit ?_
  cases h
  exact ⟨kr,rfl⟩
 intro x7 h out hx
 subst hx
 refine sq (wg [2] [3,4] ?_)
 refine wp_ret ?_
 refine ⟨⟨[(0,.agg [.int .u8 p0.What,.int .u8 p0.S,.int .u8 p0.At,vI p0.N]),(1,.agg [vI p1.Grain,z1 p1.First,z2 p1.Step,z2 p1.Show])]++[(2,.ptr 0 0 0),(3,.ptr 1 0 0),(4,.ptr 2 0 0),(10,.ptr 1 0 2),(11,z2 p1.Step),(12,.ref 3 0 x7.length)],[oX true true 4 (.agg [.int .u8 p0.What,.int .u8 p0.S,.int .u8 p0.At,vI p0.N]),oX true false 4 (.agg [vI p1.Grain,z1 p1.First,z2 p1.Step,z2 p1.Show]),oX true false 4 (.agg [vI 0,.nils,.nils,.nils]),.refs 4 (eF eI x7),.fam 1 true (eF eI x7)],123⟩,by as_aux_lemma=>kernel_rfl,?_⟩
 refine sy 2 5 ?_
 refine inlN (f:=69) (fn:=Try.f69) (as0:=[z2 p1.Show]) kr kr Try.func69 rfl (by decide +kernel) rfl ?_
 refine wp_eqB (base':=5) (st':=⟨[(0,z2 p1.Show)],[.dead,.dead,.dead,.dead,.dead],22⟩) kr kr ?_
 refine sq (sq (wp_seq ?_))
 refine sqN (S:=⟨[(0,z2 p1.Show),(2,.nils),(3,.nils),(4,vI 0)],[.dead,.dead,.dead,.dead,.dead],22⟩) ?_
 refine wp_block ?_
 refine wwh h (fun s8=>⟨[(0,z2 p1.Show),(3,.ref 5 0 s8.2.length),(4,vI s8.1)],[.dead,.dead,.dead,.dead,.dead,.refs 6 (eF eI s8.2),.fam 1 true (eF eI s8.2)],22⟩) (fun v out=>out=.go (.exit 0) ⟨[(3,.ref 5 0 v.length)],[.dead,.dead,.dead,.dead,.dead,.refs 6 (eF eI v),.fam 1 true (eF eI v)],22⟩) (wk_trans (wk_gc (live:=[0,3,4]) (keep:=[]) (st':=⟨[(0,z2 p1.Show),(3,.nils),(4,vI 0)],[.dead,.dead,.dead,.dead,.dead],22⟩) kr) (wk_trans (wk_nil 3 1 true true (st':=⟨[(0,z2 p1.Show),(3,.ref 5 0 0),(4,vI 0)],[.dead,.dead,.dead,.dead,.dead,.row false false true true 1 []],22⟩) kr) (wk_trans (wk_fam 5 1 true (x0:=([]:List Int)) (n:=0) (enc1:=fun _=>AV.nils) eI rfl rfl rfl (st':=⟨[(0,z2 p1.Show),(3,.ref 5 0 (([]:List (List Int)).length)),(4,vI 0)],[.dead,.dead,.dead,.dead,.dead,.refs 6 (eF eI ([]:List (List Int))),.fam 1 true (eF eI ([]:List (List Int)))],22⟩) kr) (wk_gc (live:=[0,3,4]) (keep:=[5,6]) kr)))) ?_ ?_
 ·intro s8 o h
  unfold g_ref17_Bend_Of_b1 at h
  refine wp_seq (wp_seq (reg_in (sz 2 2 ?_)))
  refine lenL (enc:=z1) (l:=p1.Show) (fl:=false) kr gE ?_
  refine sz 1 4 (reg_end rfl ?_)
  refine wb [9] h (fun q10 h=>?_) (fun q10 h=>?_)
  ·refine wcT (wp_skip (wp_seq (wp_block (sq ?_))))
   refine wp_post ?_
   refine reg_in (sz 4 4 ?_)
   refine bind_elim h (fun a11 q12 h=>?_)
   refine idxL' (enc:=z1) (l:=p1.Show) (n:=s8.1) (fl:=false) (w:=1) (a:=a11) kr rfl gE q12 ?_
   refine sz 1 6 ?_
   refine appN (enc:=eI) (m:=a11) (w:=1) (bytes:=8) (nr':=true) (fl':=true) (a:=.nils) (b:=z1 a11) (rds:=[]) (S:=⟨[(0,z2 p1.Show),(3,.ref 5 0 s8.2.length),(4,vI s8.1),(6,vI s8.1),(7,z2 p1.Show),(8,vI (zn p1.Show)),(9,vB true),(5,.nils),(12,.ref 5 0 s8.2.length),(13,.nils),(14,z2 p1.Show),(15,vI s8.1)]++[(16,.fz [z1 a11]),(17,z1 a11),(18,.ref 7 0 a11.length)],[.dead,.dead,.dead,.dead,.dead,.refs 6 (eF eI s8.2),.fam 1 true (eF eI s8.2),oR true 1 eI a11],22⟩) false kr (.inl rfl) (elems_lst (fun _=>rfl)) rfl kr kr h (fun h=>?_)
   refine sgN true 1 8 gE rfl ?_
   refine appF (enc:=eI) (ls:=s8.2) (q:=a11) (bytes:=24) (ob:=5) (j:=6) (tm:=8) (m:=7) kr kr rfl kr gE kr h (fun h=>?_)
   refine sgz 1 10 (S:=⟨(s34_26 p1 s8 a11),[.dead,.dead,.dead,.dead,.dead,.dead,.fam 1 true (eF eI s8.2),oR true 1 eI a11,.row false false false false 1 [.ref 7 0 a11.length],.row false false false false 1 (famRefs 6 0 (eF eI s8.2)++[.ref 7 0 a11.length])],22⟩) ?_
   refine reg_end rfl ?_
   refine ⟨⟨(s34_28 p1 s8 a11),[.dead,.dead,.dead,.dead,.dead,.dead,.fam 1 true (eF eI (s8.2++[a11])),.dead,.dead,.refs 6 (eF eI (s8.2++[a11]))],22⟩,(wk_trans (wk_dead 8 (st':=⟨(s34_26 p1 s8 a11),[.dead,.dead,.dead,.dead,.dead,.dead,.fam 1 true (eF eI s8.2),oR true 1 eI a11,.dead,.row false false false false 1 (famRefs 6 0 (eF eI s8.2)++[.ref 7 0 a11.length])],22⟩) (by kernel_rfl)) (wk_adoptA 9 6 7 (enc:=eI) (ls:=s8.2) (b:=a11) [0,3,4,6,7,8,9,5,12,13,14,15,16,17,19,20] (st':=⟨(s34_28 p1 s8 a11),[.dead,.dead,.dead,.dead,.dead,.dead,.fam 1 true (eF eI (s8.2++[a11])),.dead,.dead,.refs 6 (eF eI (s8.2++[a11]))],22⟩) rfl rfl rfl (by kernel_rfl) (by kernel_rfl))),?_⟩
   refine wg [0,3,4] [9,6] (rn ?_)
   cases h
   exact ⟨_,rfl,(wk_gc (live:=[0,3,4]) (keep:=[5,6]) kr)⟩
  refine wcF (wg [3] [5,6] ?_)
  refine wp_exit ?_
  cases h
  exact ⟨kr,rfl⟩
 intro x14 h out hx
 subst hx
 refine sq (wg [2] [5,6] ?_)
 refine wp_ret ?_
 refine ⟨⟨[(0,.agg [.int .u8 p0.What,.int .u8 p0.S,.int .u8 p0.At,vI p0.N]),(1,.agg [vI p1.Grain,z1 p1.First,z2 p1.Step,z2 p1.Show])]++[(2,.ptr 0 0 0),(3,.ptr 1 0 0),(4,.ptr 2 0 0),(10,.ptr 1 0 2),(11,z2 p1.Step),(12,.ref 3 0 x7.length),(13,.ptr 1 0 3),(14,z2 p1.Show)]++[(15,.ref 5 0 x14.length)],[oX true true 4 (.agg [.int .u8 p0.What,.int .u8 p0.S,.int .u8 p0.At,vI p0.N]),oX true false 4 (.agg [vI p1.Grain,z1 p1.First,z2 p1.Step,z2 p1.Show]),oX true false 4 (.agg [vI 0,.nils,.nils,.nils]),.refs 4 (eF eI x7),.fam 1 true (eF eI x7),.refs 6 (eF eI x14),.fam 1 true (eF eI x14)],123⟩,by as_aux_lemma=>kernel_rfl,?_⟩
 refine sy 4 10 (rgd ?_)
 refine ⟨_,wk_refl,?_⟩
 refine wp_seq (wg [2,3,4] [0,1,2,3,5,4,6] (rn (wp_seq ?_)))
 refine wp_post ?_
 refine reg_in (sz 3 3 ?_)
 refine appN (enc:=eI) (m:=p1.First) (w:=1) (bytes:=8) (nr':=true) (fl':=true) (a:=.nils) (b:=z1 p1.First) (rds:=[]) false kr (.inl rfl) (elems_lst (fun _=>rfl)) rfl gE kr h (fun h=>?_)
 refine sz 2 6 (reg_end rfl ?_)
 refine ⟨_,wk_refl,?_⟩
 refine wp_seq ?_
 refine wgc [2,3,4] [0,1,2,7,3,4,5,6] ⟨[(2,.ptr 0 0 0),(3,.ptr 1 0 0),(4,.ptr 2 0 0)],[oX true true 4 (.agg [.int .u8 p0.What,.int .u8 p0.S,.int .u8 p0.At,vI p0.N]),oX false false 4 (.agg [vI p1.Grain,.ref 3 0 p1.First.length,.ref 4 0 x7.length,.ref 5 0 x14.length]),oX true false 4 (.agg [vI 0,.nils,.nils,.nils]),oR true 1 eI p1.First,.refs 6 (eF eI x7),.refs 7 (eF eI x14),.fam 1 true (eF eI x7),.fam 1 true (eF eI x14)],123⟩ ?_
 refine wp_post ?_
 refine rga hfol (sy 8 8 (rgd ?_))
 refine ⟨_,wk_refl,?_⟩
 refine wp_seq (wp_seq (wg [2,3,4,6,7] [0,1,2,3,4,5,6,7] ?_))
 refine wp_post ?_
 refine rn ?_
 refine ⟨_,wk_refl,?_⟩
 refine wp_block (sq ?_)
 refine wb [34,33] h (fun q16 h=>?_) (fun q16 h=>?_)
 ·refine wcT ?_
  refine wgc [2,3,4] [0,1,2,3,4,5,6,7] ⟨[(2,.ptr 0 0 0),(3,.ptr 1 0 0),(4,.ptr 2 0 0)],[oX true true 4 (.agg [.int .u8 p0.What,.int .u8 p0.S,.int .u8 p0.At,vI p0.N]),oX false false 4 (.agg [vI p1.Grain,.ref 3 0 p1.First.length,.ref 4 0 x7.length,.ref 5 0 x14.length]),oX true false 4 (.agg [vI 0,.nils,.nils,.nils]),oR true 1 eI p1.First,.refs 6 (eF eI x7),.refs 7 (eF eI x14),.fam 1 true (eF eI x7),.fam 1 true (eF eI x14)],123⟩ ?_
  refine wp_post ?_
  refine rn ?_
  refine ⟨_,wk_refl,?_⟩
  refine wp_seq ?_
  refine wp_post ?_
  refine rn ?_
  refine ⟨_,wk_refl,?_⟩
  refine wgc [4] [2,3,4,5,6,7] ⟨[(4,.ptr 0 0 0)],[oX false false 4 (.agg [vI p0.N,.ref 1 0 p1.First.length,.ref 2 0 x7.length,.ref 3 0 x14.length]),oR true 1 eI p1.First,.refs 4 (eF eI x7),.refs 5 (eF eI x14),.fam 1 true (eF eI x7),.fam 1 true (eF eI x14)],123⟩ ?_
  refine wp_wk (wk_frzF 2 4 (enc:=eI) (ls:=x7) (st':=⟨[(4,.ptr 0 0 0)],[oX false false 4 (.agg [vI p0.N,.ref 1 0 p1.First.length,.ref 2 0 x7.length,.ref 3 0 x14.length]),oR true 1 eI p1.First,oR false 1 z1 x7,.refs 5 (eF eI x14),.dead,.fam 1 true (eF eI x14)],123⟩) rfl rfl kr) ?_
  refine wp_wk (wk_frzF 3 5 (enc:=eI) (ls:=x14) (st':=⟨[(4,.ptr 0 0 0)],[oX false false 4 (.agg [vI p0.N,.ref 1 0 p1.First.length,.ref 2 0 x7.length,.ref 3 0 x14.length]),oR true 1 eI p1.First,oR false 1 z1 x7,oR false 1 z1 x14,.dead,.dead],123⟩) rfl rfl kr) ?_
  refine wp_wk (wk_snapO 0 0 (st':=⟨[(4,.ptr 0 0 0)],[oX false false 4 (.agg [vI p0.N,z1 p1.First,z2 x7,z2 x14]),.row false true true true 1 (List.map eI p1.First),.row false true true false 1 (List.map z1 x7),.row false true true false 1 (List.map z1 x14),.dead,.dead],123⟩) (y:=.agg [vI p0.N,z1 p1.First,z2 x7,z2 x14]) (ids:=[1,2,3]) rfl rfl rfl (snap_agg (msnap_cons rfl (msnap_cons (snap_full (w:=1) (bx:=false) (ro:=false) kr) (msnap_cons (snap_full (w:=1) (bx:=false) (ro:=false) kr) (msnap_cons (snap_full (w:=1) (bx:=false) (ro:=false) kr) msnap_nil (by rfl)) (by rfl)) (by rfl)) (by rfl))) kr) ?_
  cases h
  exact wp_ret (show fnOut _ _ _ _=_ from by kernel_rfl)
 refine wcF (sq ?_)
 refine wbz h (fun q18 h=>?_) (fun q18 h=>?_)
 ·refine wgc [2,3,4,7] [0,1,2,3,4,5,6,7] ⟨[(2,.ptr 0 0 0),(3,.ptr 1 0 0),(4,.ptr 2 0 0),(7,vI (zw (p0.At)))],[oX true true 4 (.agg [.int .u8 p0.What,.int .u8 p0.S,.int .u8 p0.At,vI p0.N]),oX false false 4 (.agg [vI p1.Grain,.ref 3 0 p1.First.length,.ref 4 0 x7.length,.ref 5 0 x14.length]),oX true false 4 (.agg [vI 0,.nils,.nils,.nils]),oR true 1 eI p1.First,.refs 6 (eF eI x7),.refs 7 (eF eI x14),.fam 1 true (eF eI x7),.fam 1 true (eF eI x14)],123⟩ ?_
  refine wp_post ?_
  refine rga hfol (sy 6 6 ?_)
  refine remR (k:=.i64) (a:=zw (p0.At)) (b:=(zn p1.First)) kr gE h (fun h=>?_)
  refine sy 2 9 ?_
  refine bind_elim h (fun a19 q20 h=>?_)
  refine idxR' (enc:=eI) (l:=p1.First) (n:=Int.tmod (zw (p0.At)) (zn p1.First)) (w:=1) (ob:=3) (ro:=false) (nr:=true) (fl:=true) (a:=a19) kr kr gE q20 ?_
  refine bind_elim h (fun a21 q22 h=>?_)
  refine storeR (enc:=eI) (l:=p1.First) (n:=(Int.tmod (zw (p0.At)) (zn p1.First))) (ob:=3) (w:=1) (bx:=false) (nr:=true) (fl:=true) (c:=0) (a:=a21) (a':=p0.N) (v:=vI p0.N) false kr kr q22 kr rfl kr gE kr ?_
  refine rknN (n:=p1.First.length) (m:=(List.set p1.First (zt (Int.tmod (zw (p0.At)) (zn p1.First))) p0.N).length) (S:=fun n23=>⟨[(2,.ptr 0 0 0),(3,.ptr 1 0 0),(4,.ptr 2 0 0),(7,vI (zw (p0.At))),(40,.ptr 1 0 1),(41,.ref 3 0 n23),(42,vI (zw (p0.At))),(43,.ptr 1 0 1),(44,.ref 3 0 n23),(45,vI (zn p1.First)),(46,vI (Int.tmod (zw (p0.At)) (zn p1.First))),(47,.ptr 0 0 3),(48,vI p0.N),(49,.ptr 3 (zt (Int.tmod (zw (p0.At)) (zn p1.First))) 0)],[oX true true 4 (.agg [.int .u8 p0.What,.int .u8 p0.S,.int .u8 p0.At,vI p0.N]),oX false false 4 (.agg [vI p1.Grain,.ref 3 0 n23,.ref 4 0 x7.length,.ref 5 0 x14.length]),oX true false 4 (.agg [vI 0,.nils,.nils,.nils]),oR true 1 eI (List.set p1.First (zt (Int.tmod (zw (p0.At)) (zn p1.First))) p0.N),.refs 6 (eF eI x7),.refs 7 (eF eI x14),.fam 1 true (eF eI x7),.fam 1 true (eF eI x14)],123⟩) (by simp only [List.length_set]) ?_
  refine rgd ?_
  refine ⟨_,wk_refl,?_⟩
  refine wp_seq (wg [3,4] [1,2,3,4,5,6,7] ?_)
  refine wp_post ?_
  refine rn ?_
  refine ⟨_,wk_refl,?_⟩
  refine wgc [4] [1,2,3,4,5,6] ⟨[(4,.ptr 0 0 0)],[oX false false 4 (.agg [vI p1.Grain,.ref 1 0 ((List.set p1.First (zt (Int.tmod (zw (p0.At)) (zn p1.First))) p0.N).length),.ref 2 0 x7.length,.ref 3 0 x14.length]),oR true 1 eI (List.set p1.First (zt (Int.tmod (zw (p0.At)) (zn p1.First))) p0.N),.refs 4 (eF eI x7),.refs 5 (eF eI x14),.fam 1 true (eF eI x7),.fam 1 true (eF eI x14)],123⟩ ?_
  refine wp_wk (wk_frzF 2 4 (enc:=eI) (ls:=x7) (st':=⟨[(4,.ptr 0 0 0)],[oX false false 4 (.agg [vI p1.Grain,.ref 1 0 ((List.set p1.First (zt (Int.tmod (zw (p0.At)) (zn p1.First))) p0.N).length),.ref 2 0 x7.length,.ref 3 0 x14.length]),oR true 1 eI (List.set p1.First (zt (Int.tmod (zw (p0.At)) (zn p1.First))) p0.N),oR false 1 z1 x7,.refs 5 (eF eI x14),.dead,.fam 1 true (eF eI x14)],123⟩) rfl rfl kr) ?_
  refine wp_wk (wk_frzF 3 5 (enc:=eI) (ls:=x14) (st':=⟨[(4,.ptr 0 0 0)],[oX false false 4 (.agg [vI p1.Grain,.ref 1 0 ((List.set p1.First (zt (Int.tmod (zw (p0.At)) (zn p1.First))) p0.N).length),.ref 2 0 x7.length,.ref 3 0 x14.length]),oR true 1 eI (List.set p1.First (zt (Int.tmod (zw (p0.At)) (zn p1.First))) p0.N),oR false 1 z1 x7,oR false 1 z1 x14,.dead,.dead],123⟩) rfl rfl kr) ?_
  refine wp_wk (wk_snapO 0 0 (st':=⟨[(4,.ptr 0 0 0)],[oX false false 4 (.agg [vI p1.Grain,z1 (List.set p1.First (zt (Int.tmod (zw (p0.At)) (zn p1.First))) p0.N),z2 x7,z2 x14]),.row false true true true 1 (List.map eI (List.set p1.First (zt (Int.tmod (zw (p0.At)) (zn p1.First))) p0.N)),.row false true true false 1 (List.map z1 x7),.row false true true false 1 (List.map z1 x14),.dead,.dead],123⟩) (y:=.agg [vI p1.Grain,z1 (List.set p1.First (zt (Int.tmod (zw (p0.At)) (zn p1.First))) p0.N),z2 x7,z2 x14]) (ids:=[1,2,3]) rfl rfl rfl (snap_agg (msnap_cons rfl (msnap_cons (snap_full (w:=1) (bx:=false) (ro:=false) kr) (msnap_cons (snap_full (w:=1) (bx:=false) (ro:=false) kr) (msnap_cons (snap_full (w:=1) (bx:=false) (ro:=false) kr) msnap_nil (by rfl)) (by rfl)) (by rfl)) (by rfl))) kr) ?_
  cases h
  exact wp_ret (show fnOut _ _ _ _=_ from by kernel_rfl)
 refine wp_seq ?_
 refine wgc [2,3,4,6,7,31] [0,1,2,3,4,5,6,7] ⟨[(2,.ptr 0 0 0),(3,.ptr 1 0 0),(4,.ptr 2 0 0),(6,vI (zw (p0.S))),(7,vI (zw (p0.At))),(31,.int .u8 (Int.tmod p0.What 8))],[oX true true 4 (.agg [.int .u8 p0.What,.int .u8 p0.S,.int .u8 p0.At,vI p0.N]),oX false false 4 (.agg [vI p1.Grain,.ref 3 0 p1.First.length,.ref 4 0 x7.length,.ref 5 0 x14.length]),oX true false 4 (.agg [vI 0,.nils,.nils,.nils]),oR true 1 eI p1.First,.refs 6 (eF eI x7),.refs 7 (eF eI x14),.fam 1 true (eF eI x7),.fam 1 true (eF eI x14)],123⟩ ?_
 refine rn ?_
 refine wb [51,50] h (fun q25 h=>?_) (fun q25 h=>?_)
 ·refine wcT (wp_seq ?_)
  refine wp_post ?_
  refine rga hfol (sy 6 6 ?_)
  refine remR (k:=.i64) (a:=zw (p0.S)) (b:=(zn x7)) kr gE h (fun h=>?_)
  refine bind_elim h (fun a26 q27 h=>?_)
  refine idxF (enc:=eI) (ls:=x7) (x:=a26) (n:=Int.tmod (zw (p0.S)) (zn x7)) (ob:=4) (j:=6) kr kr q27 gE ?_
  refine loadF (enc:=eI) (ls:=x7) (x:=a26) (n:=Int.tmod (zw (p0.S)) (zn x7)) (ob:=4) (j:=6) kr kr q27 gE ?_
  refine sgy 1 10 (S:=⟨[(2,.ptr 0 0 0),(3,.ptr 1 0 0),(4,.ptr 2 0 0),(6,vI (zw (p0.S))),(7,vI (zw (p0.At))),(31,.int .u8 (Int.tmod p0.What 8))]++[(51,vB true),(50,vB true),(52,.ptr 1 0 2),(53,.ref 4 0 x7.length),(54,vI (zw (p0.S))),(55,.ptr 1 0 2),(56,.ref 4 0 x7.length),(57,vI (zn x7))]++[(58,vI (Int.tmod (zw (p0.S)) (zn x7))),(59,.ptr 4 (zt (Int.tmod (zw (p0.S)) (zn x7))) 0),(60,.ref (fid 6 (zt (Int.tmod (zw (p0.S)) (zn x7)))) 0 a26.length),(8,.ref (fid 6 (zt (Int.tmod (zw (p0.S)) (zn x7)))) 0 a26.length)],[oX true true 4 (.agg [.int .u8 p0.What,.int .u8 p0.S,.int .u8 p0.At,vI p0.N]),oX false false 4 (.agg [vI p1.Grain,.ref 3 0 p1.First.length,.ref 4 0 x7.length,.ref 5 0 x14.length]),oX true false 4 (.agg [vI 0,.nils,.nils,.nils]),oR true 1 eI p1.First,.refs 6 (eF eI x7),.refs 7 (eF eI x14),.fam 1 true (eF eI x7),.fam 1 true (eF eI x14)],123⟩) ?_
  refine rgd ?_
  refine ⟨⟨[(2,.ptr 0 0 0),(3,.ptr 1 0 0),(4,.ptr 2 0 0),(6,vI (zw (p0.S))),(7,vI (zw (p0.At))),(31,.int .u8 (Int.tmod p0.What 8))]++[(51,vB true),(50,vB true),(52,.ptr 1 0 2),(53,.ref 4 0 x7.length),(54,vI (zw (p0.S))),(55,.ptr 1 0 2),(56,.ref 4 0 x7.length),(57,vI (zn x7))]++[(58,vI (Int.tmod (zw (p0.S)) (zn x7))),(59,.ptr 4 (zt (Int.tmod (zw (p0.S)) (zn x7))) 0),(60,.ref (fid 6 (zt (Int.tmod (zw (p0.S)) (zn x7)))) 0 a26.length),(8,.lin 6 (zt (Int.tmod (zw (p0.S)) (zn x7))) a26.length)],[oX true true 4 (.agg [.int .u8 p0.What,.int .u8 p0.S,.int .u8 p0.At,vI p0.N]),oX false false 4 (.agg [vI p1.Grain,.ref 3 0 p1.First.length,.ref 4 0 x7.length,.ref 5 0 x14.length]),oX true false 4 (.agg [vI 0,.nils,.nils,.nils]),oR true 1 eI p1.First,.refs 6 (eF eI x7),.refs 7 (eF eI x14),.fam 1 true (eF eI x7),.fam 1 true (eF eI x14)],123⟩,(wk_lin 8 (st':=⟨[(2,.ptr 0 0 0),(3,.ptr 1 0 0),(4,.ptr 2 0 0),(6,vI (zw (p0.S))),(7,vI (zw (p0.At))),(31,.int .u8 (Int.tmod p0.What 8))]++[(51,vB true),(50,vB true),(52,.ptr 1 0 2),(53,.ref 4 0 x7.length),(54,vI (zw (p0.S))),(55,.ptr 1 0 2),(56,.ref 4 0 x7.length),(57,vI (zn x7))]++[(58,vI (Int.tmod (zw (p0.S)) (zn x7))),(59,.ptr 4 (zt (Int.tmod (zw (p0.S)) (zn x7))) 0),(60,.ref (fid 6 (zt (Int.tmod (zw (p0.S)) (zn x7)))) 0 a26.length),(8,.lin 6 (zt (Int.tmod (zw (p0.S)) (zn x7))) a26.length)],[oX true true 4 (.agg [.int .u8 p0.What,.int .u8 p0.S,.int .u8 p0.At,vI p0.N]),oX false false 4 (.agg [vI p1.Grain,.ref 3 0 p1.First.length,.ref 4 0 x7.length,.ref 5 0 x14.length]),oX true false 4 (.agg [vI 0,.nils,.nils,.nils]),oR true 1 eI p1.First,.refs 6 (eF eI x7),.refs 7 (eF eI x14),.fam 1 true (eF eI x7),.fam 1 true (eF eI x14)],123⟩) rfl (by kernel_rfl)),?_⟩
  refine wgc [2,3,4,7,8] [0,1,2,6,3,4,5,7] ⟨[(2,.ptr 0 0 0),(3,.ptr 1 0 0),(4,.ptr 2 0 0),(7,vI (zw (p0.At))),(8,.lin 3 (zt (Int.tmod (zw (p0.S)) (zn x7))) a26.length)],[oX true true 4 (.agg [.int .u8 p0.What,.int .u8 p0.S,.int .u8 p0.At,vI p0.N]),oX false false 4 (.agg [vI p1.Grain,.ref 4 0 p1.First.length,.ref 5 0 x7.length,.ref 6 0 x14.length]),oX true false 4 (.agg [vI 0,.nils,.nils,.nils]),.fam 1 true (eF eI x7),oR true 1 eI p1.First,.refs 3 (eF eI x7),.refs 7 (eF eI x14),.fam 1 true (eF eI x14)],123⟩ ?_
  refine wp_wk (wk_unlin 8 (st':=⟨[(2,.ptr 0 0 0),(3,.ptr 1 0 0),(4,.ptr 2 0 0),(7,vI (zw (p0.At))),(8,.ref (fid 3 (zt (Int.tmod (zw (p0.S)) (zn x7)))) 0 a26.length)],[oX true true 4 (.agg [.int .u8 p0.What,.int .u8 p0.S,.int .u8 p0.At,vI p0.N]),oX false false 4 (.agg [vI p1.Grain,.ref 4 0 p1.First.length,.ref 5 0 x7.length,.ref 6 0 x14.length]),oX true false 4 (.agg [vI 0,.nils,.nils,.nils]),.fam 1 true (eF eI x7),oR true 1 eI p1.First,.refs 3 (eF eI x7),.refs 7 (eF eI x14),.fam 1 true (eF eI x14)],123⟩) rfl kr) ?_
  refine wp_post ?_
  refine rga hfol (sy 4 4 ?_)
  refine remR (k:=.i64) (a:=zw (p0.At)) (b:=(zn a26)) kr gE h (fun h=>?_)
  refine sy 2 7 ?_
  refine bind_elim h (fun a28 q29 h=>?_)
  refine idxI (enc:=eI) (ls:=x7) (x:=a26) (y:=a28) (n:=Int.tmod (zw (p0.S)) (zn x7)) (c:=Int.tmod (zw (p0.At)) (zn a26)) (w:=1) (j:=3) (fl:=true) kr kr q27 q29 rfl gE ?_
  refine storeI (enc:=eI) (ls:=x7) (x:=a26) (y:=a28) (y':=p0.N) (n:=Int.tmod (zw (p0.S)) (zn x7)) (m:=Int.tmod (zw (p0.At)) (zn a26)) (w:=1) (j:=3) (q:=5) (c:=0) (fl:=true) (v:=vI p0.N) kr kr kr q27 q29 rfl kr kr kr gE ?_
  refine rknN (n:=x7.length) (m:=(List.set x7 (zt (Int.tmod (zw (p0.S)) (zn x7))) (List.set a26 (zt (Int.tmod (zw (p0.At)) (zn a26))) p0.N)).length) (S:=fun n30=>⟨[(2,.ptr 0 0 0),(3,.ptr 1 0 0),(4,.ptr 2 0 0),(7,vI (zw (p0.At))),(8,.ref (fid 3 (zt (Int.tmod (zw (p0.S)) (zn x7)))) 0 a26.length),(61,.ref (fid 3 (zt (Int.tmod (zw (p0.S)) (zn x7)))) 0 a26.length),(62,vI (zw (p0.At))),(63,.ref (fid 3 (zt (Int.tmod (zw (p0.S)) (zn x7)))) 0 a26.length),(64,vI (zn a26)),(65,vI (Int.tmod (zw (p0.At)) (zn a26))),(66,.ptr 0 0 3),(67,vI p0.N),(68,.ptr (fid 3 (zt (Int.tmod (zw (p0.S)) (zn x7)))) (zt (Int.tmod (zw (p0.At)) (zn a26))) 0)],[oX true true 4 (.agg [.int .u8 p0.What,.int .u8 p0.S,.int .u8 p0.At,vI p0.N]),oX false false 4 (.agg [vI p1.Grain,.ref 4 0 p1.First.length,.ref 5 0 n30,.ref 6 0 x14.length]),oX true false 4 (.agg [vI 0,.nils,.nils,.nils]),.fam 1 true (eF eI (List.set x7 (zt (Int.tmod (zw (p0.S)) (zn x7))) (List.set a26 (zt (Int.tmod (zw (p0.At)) (zn a26))) p0.N))),oR true 1 eI p1.First,.refs 3 (eF eI (List.set x7 (zt (Int.tmod (zw (p0.S)) (zn x7))) (List.set a26 (zt (Int.tmod (zw (p0.At)) (zn a26))) p0.N))),.refs 7 (eF eI x14),.fam 1 true (eF eI x14)],123⟩) (by simp only [List.length_set]) ?_
  refine rgd ?_
  refine ⟨_,wk_refl,?_⟩
  refine wp_seq (wg [3,4] [1,2,4,5,6,3,7] ?_)
  refine wp_post ?_
  refine rn ?_
  refine ⟨_,wk_refl,?_⟩
  refine wgc [4] [1,2,3,4,5,6] ⟨[(4,.ptr 0 0 0)],[oX false false 4 (.agg [vI p1.Grain,.ref 1 0 p1.First.length,.ref 2 0 ((List.set x7 (zt (Int.tmod (zw (p0.S)) (zn x7))) (List.set a26 (zt (Int.tmod (zw (p0.At)) (zn a26))) p0.N)).length),.ref 3 0 x14.length]),oR true 1 eI p1.First,.refs 4 (eF eI (List.set x7 (zt (Int.tmod (zw (p0.S)) (zn x7))) (List.set a26 (zt (Int.tmod (zw (p0.At)) (zn a26))) p0.N))),.refs 5 (eF eI x14),.fam 1 true (eF eI (List.set x7 (zt (Int.tmod (zw (p0.S)) (zn x7))) (List.set a26 (zt (Int.tmod (zw (p0.At)) (zn a26))) p0.N))),.fam 1 true (eF eI x14)],123⟩ ?_
  refine wp_wk (wk_frzF 2 4 (enc:=eI) (ls:=(List.set x7 (zt (Int.tmod (zw (p0.S)) (zn x7))) (List.set a26 (zt (Int.tmod (zw (p0.At)) (zn a26))) p0.N))) (st':=⟨[(4,.ptr 0 0 0)],[oX false false 4 (.agg [vI p1.Grain,.ref 1 0 p1.First.length,.ref 2 0 ((List.set x7 (zt (Int.tmod (zw (p0.S)) (zn x7))) (List.set a26 (zt (Int.tmod (zw (p0.At)) (zn a26))) p0.N)).length),.ref 3 0 x14.length]),oR true 1 eI p1.First,oR false 1 z1 (List.set x7 (zt (Int.tmod (zw (p0.S)) (zn x7))) (List.set a26 (zt (Int.tmod (zw (p0.At)) (zn a26))) p0.N)),.refs 5 (eF eI x14),.dead,.fam 1 true (eF eI x14)],123⟩) rfl rfl kr) ?_
  refine wp_wk (wk_frzF 3 5 (enc:=eI) (ls:=x14) (st':=⟨[(4,.ptr 0 0 0)],[oX false false 4 (.agg [vI p1.Grain,.ref 1 0 p1.First.length,.ref 2 0 ((List.set x7 (zt (Int.tmod (zw (p0.S)) (zn x7))) (List.set a26 (zt (Int.tmod (zw (p0.At)) (zn a26))) p0.N)).length),.ref 3 0 x14.length]),oR true 1 eI p1.First,oR false 1 z1 (List.set x7 (zt (Int.tmod (zw (p0.S)) (zn x7))) (List.set a26 (zt (Int.tmod (zw (p0.At)) (zn a26))) p0.N)),oR false 1 z1 x14,.dead,.dead],123⟩) rfl rfl kr) ?_
  refine wp_wk (wk_snapO 0 0 (st':=⟨[(4,.ptr 0 0 0)],[oX false false 4 (.agg [vI p1.Grain,z1 p1.First,z2 (List.set x7 (zt (Int.tmod (zw (p0.S)) (zn x7))) (List.set a26 (zt (Int.tmod (zw (p0.At)) (zn a26))) p0.N)),z2 x14]),.row false true true true 1 (List.map eI p1.First),.row false true true false 1 (List.map z1 (List.set x7 (zt (Int.tmod (zw (p0.S)) (zn x7))) (List.set a26 (zt (Int.tmod (zw (p0.At)) (zn a26))) p0.N))),.row false true true false 1 (List.map z1 x14),.dead,.dead],123⟩) (y:=.agg [vI p1.Grain,z1 p1.First,z2 (List.set x7 (zt (Int.tmod (zw (p0.S)) (zn x7))) (List.set a26 (zt (Int.tmod (zw (p0.At)) (zn a26))) p0.N)),z2 x14]) (ids:=[1,2,3]) rfl rfl rfl (snap_agg (msnap_cons rfl (msnap_cons (snap_full (w:=1) (bx:=false) (ro:=false) kr) (msnap_cons (snap_full (w:=1) (bx:=false) (ro:=false) kr) (msnap_cons (snap_full (w:=1) (bx:=false) (ro:=false) kr) msnap_nil (by rfl)) (by rfl)) (by rfl)) (by rfl))) kr) ?_
  cases h
  exact wp_ret (show fnOut _ _ _ _=_ from by kernel_rfl)
 refine wcF (sq ?_)
 refine wbz h (fun q32 h=>?_) (fun q32 h=>?_)
 ·refine wp_seq (wg [2,3,4,6,7] [0,1,2,3,4,5,6,7] ?_)
  refine wp_post ?_
  refine rga hfol (sy 6 6 ?_)
  refine remR (k:=.i64) (a:=zw (p0.S)) (b:=(zn x14)) kr gE h (fun h=>?_)
  refine bind_elim h (fun a33 q34 h=>?_)
  refine idxF (enc:=eI) (ls:=x14) (x:=a33) (n:=Int.tmod (zw (p0.S)) (zn x14)) (ob:=5) (j:=7) kr kr q34 gE ?_
  refine loadF (enc:=eI) (ls:=x14) (x:=a33) (n:=Int.tmod (zw (p0.S)) (zn x14)) (ob:=5) (j:=7) kr kr q34 gE ?_
  refine sgy 1 10 (S:=⟨[(2,.ptr 0 0 0),(3,.ptr 1 0 0),(4,.ptr 2 0 0),(6,vI (zw (p0.S))),(7,vI (zw (p0.At)))]++[(71,.ptr 1 0 3),(72,.ref 5 0 x14.length),(73,vI (zw (p0.S))),(74,.ptr 1 0 3),(75,.ref 5 0 x14.length),(76,vI (zn x14)),(77,vI (Int.tmod (zw (p0.S)) (zn x14))),(78,.ptr 5 (zt (Int.tmod (zw (p0.S)) (zn x14))) 0),(79,.ref (fid 7 (zt (Int.tmod (zw (p0.S)) (zn x14)))) 0 a33.length),(9,.ref (fid 7 (zt (Int.tmod (zw (p0.S)) (zn x14)))) 0 a33.length)],[oX true true 4 (.agg [.int .u8 p0.What,.int .u8 p0.S,.int .u8 p0.At,vI p0.N]),oX false false 4 (.agg [vI p1.Grain,.ref 3 0 p1.First.length,.ref 4 0 x7.length,.ref 5 0 x14.length]),oX true false 4 (.agg [vI 0,.nils,.nils,.nils]),oR true 1 eI p1.First,.refs 6 (eF eI x7),.refs 7 (eF eI x14),.fam 1 true (eF eI x7),.fam 1 true (eF eI x14)],123⟩) ?_
  refine rgd ?_
  refine ⟨⟨[(2,.ptr 0 0 0),(3,.ptr 1 0 0),(4,.ptr 2 0 0),(6,vI (zw (p0.S))),(7,vI (zw (p0.At)))]++[(71,.ptr 1 0 3),(72,.ref 5 0 x14.length),(73,vI (zw (p0.S))),(74,.ptr 1 0 3),(75,.ref 5 0 x14.length),(76,vI (zn x14)),(77,vI (Int.tmod (zw (p0.S)) (zn x14))),(78,.ptr 5 (zt (Int.tmod (zw (p0.S)) (zn x14))) 0),(79,.ref (fid 7 (zt (Int.tmod (zw (p0.S)) (zn x14)))) 0 a33.length),(9,.lin 7 (zt (Int.tmod (zw (p0.S)) (zn x14))) a33.length)],[oX true true 4 (.agg [.int .u8 p0.What,.int .u8 p0.S,.int .u8 p0.At,vI p0.N]),oX false false 4 (.agg [vI p1.Grain,.ref 3 0 p1.First.length,.ref 4 0 x7.length,.ref 5 0 x14.length]),oX true false 4 (.agg [vI 0,.nils,.nils,.nils]),oR true 1 eI p1.First,.refs 6 (eF eI x7),.refs 7 (eF eI x14),.fam 1 true (eF eI x7),.fam 1 true (eF eI x14)],123⟩,(wk_lin 9 (st':=⟨[(2,.ptr 0 0 0),(3,.ptr 1 0 0),(4,.ptr 2 0 0),(6,vI (zw (p0.S))),(7,vI (zw (p0.At)))]++[(71,.ptr 1 0 3),(72,.ref 5 0 x14.length),(73,vI (zw (p0.S))),(74,.ptr 1 0 3),(75,.ref 5 0 x14.length),(76,vI (zn x14)),(77,vI (Int.tmod (zw (p0.S)) (zn x14))),(78,.ptr 5 (zt (Int.tmod (zw (p0.S)) (zn x14))) 0),(79,.ref (fid 7 (zt (Int.tmod (zw (p0.S)) (zn x14)))) 0 a33.length),(9,.lin 7 (zt (Int.tmod (zw (p0.S)) (zn x14))) a33.length)],[oX true true 4 (.agg [.int .u8 p0.What,.int .u8 p0.S,.int .u8 p0.At,vI p0.N]),oX false false 4 (.agg [vI p1.Grain,.ref 3 0 p1.First.length,.ref 4 0 x7.length,.ref 5 0 x14.length]),oX true false 4 (.agg [vI 0,.nils,.nils,.nils]),oR true 1 eI p1.First,.refs 6 (eF eI x7),.refs 7 (eF eI x14),.fam 1 true (eF eI x7),.fam 1 true (eF eI x14)],123⟩) rfl (by kernel_rfl)),?_⟩
  refine wgc [2,3,4,7,9] [0,1,2,7,3,4,5,6] ⟨[(2,.ptr 0 0 0),(3,.ptr 1 0 0),(4,.ptr 2 0 0),(7,vI (zw (p0.At))),(9,.lin 3 (zt (Int.tmod (zw (p0.S)) (zn x14))) a33.length)],[oX true true 4 (.agg [.int .u8 p0.What,.int .u8 p0.S,.int .u8 p0.At,vI p0.N]),oX false false 4 (.agg [vI p1.Grain,.ref 4 0 p1.First.length,.ref 5 0 x7.length,.ref 6 0 x14.length]),oX true false 4 (.agg [vI 0,.nils,.nils,.nils]),.fam 1 true (eF eI x14),oR true 1 eI p1.First,.refs 7 (eF eI x7),.refs 3 (eF eI x14),.fam 1 true (eF eI x7)],123⟩ ?_
  refine wp_wk (wk_unlin 9 (st':=⟨[(2,.ptr 0 0 0),(3,.ptr 1 0 0),(4,.ptr 2 0 0),(7,vI (zw (p0.At))),(9,.ref (fid 3 (zt (Int.tmod (zw (p0.S)) (zn x14)))) 0 a33.length)],[oX true true 4 (.agg [.int .u8 p0.What,.int .u8 p0.S,.int .u8 p0.At,vI p0.N]),oX false false 4 (.agg [vI p1.Grain,.ref 4 0 p1.First.length,.ref 5 0 x7.length,.ref 6 0 x14.length]),oX true false 4 (.agg [vI 0,.nils,.nils,.nils]),.fam 1 true (eF eI x14),oR true 1 eI p1.First,.refs 7 (eF eI x7),.refs 3 (eF eI x14),.fam 1 true (eF eI x7)],123⟩) rfl kr) ?_
  refine wp_post ?_
  refine rga hfol (sy 4 4 ?_)
  refine remR (k:=.i64) (a:=zw (p0.At)) (b:=(zn a33)) kr gE h (fun h=>?_)
  refine sy 2 7 ?_
  refine bind_elim h (fun a35 q36 h=>?_)
  refine idxI (enc:=eI) (ls:=x14) (x:=a33) (y:=a35) (n:=Int.tmod (zw (p0.S)) (zn x14)) (c:=Int.tmod (zw (p0.At)) (zn a33)) (w:=1) (j:=3) (fl:=true) kr kr q34 q36 rfl gE ?_
  refine storeI (enc:=eI) (ls:=x14) (x:=a33) (y:=a35) (y':=p0.N) (n:=Int.tmod (zw (p0.S)) (zn x14)) (m:=Int.tmod (zw (p0.At)) (zn a33)) (w:=1) (j:=3) (q:=6) (c:=0) (fl:=true) (v:=vI p0.N) kr kr kr q34 q36 rfl kr kr kr gE ?_
  refine rknN (n:=x14.length) (m:=(List.set x14 (zt (Int.tmod (zw (p0.S)) (zn x14))) (List.set a33 (zt (Int.tmod (zw (p0.At)) (zn a33))) p0.N)).length) (S:=fun n37=>⟨[(2,.ptr 0 0 0),(3,.ptr 1 0 0),(4,.ptr 2 0 0),(7,vI (zw (p0.At))),(9,.ref (fid 3 (zt (Int.tmod (zw (p0.S)) (zn x14)))) 0 a33.length),(80,.ref (fid 3 (zt (Int.tmod (zw (p0.S)) (zn x14)))) 0 a33.length),(81,vI (zw (p0.At))),(82,.ref (fid 3 (zt (Int.tmod (zw (p0.S)) (zn x14)))) 0 a33.length),(83,vI (zn a33)),(84,vI (Int.tmod (zw (p0.At)) (zn a33))),(85,.ptr 0 0 3),(86,vI p0.N),(87,.ptr (fid 3 (zt (Int.tmod (zw (p0.S)) (zn x14)))) (zt (Int.tmod (zw (p0.At)) (zn a33))) 0)],[oX true true 4 (.agg [.int .u8 p0.What,.int .u8 p0.S,.int .u8 p0.At,vI p0.N]),oX false false 4 (.agg [vI p1.Grain,.ref 4 0 p1.First.length,.ref 5 0 x7.length,.ref 6 0 n37]),oX true false 4 (.agg [vI 0,.nils,.nils,.nils]),.fam 1 true (eF eI (List.set x14 (zt (Int.tmod (zw (p0.S)) (zn x14))) (List.set a33 (zt (Int.tmod (zw (p0.At)) (zn a33))) p0.N))),oR true 1 eI p1.First,.refs 7 (eF eI x7),.refs 3 (eF eI (List.set x14 (zt (Int.tmod (zw (p0.S)) (zn x14))) (List.set a33 (zt (Int.tmod (zw (p0.At)) (zn a33))) p0.N))),.fam 1 true (eF eI x7)],123⟩) (by simp only [List.length_set]) ?_
  refine rgd ?_
  refine ⟨_,wk_refl,?_⟩
  refine wp_seq (wg [3,4] [1,2,4,5,6,7,3] ?_)
  refine wp_post ?_
  refine rn ?_
  refine ⟨_,wk_refl,?_⟩
  refine wgc [4] [1,2,3,4,5,6] ⟨[(4,.ptr 0 0 0)],[oX false false 4 (.agg [vI p1.Grain,.ref 1 0 p1.First.length,.ref 2 0 x7.length,.ref 3 0 ((List.set x14 (zt (Int.tmod (zw (p0.S)) (zn x14))) (List.set a33 (zt (Int.tmod (zw (p0.At)) (zn a33))) p0.N)).length)]),oR true 1 eI p1.First,.refs 4 (eF eI x7),.refs 5 (eF eI (List.set x14 (zt (Int.tmod (zw (p0.S)) (zn x14))) (List.set a33 (zt (Int.tmod (zw (p0.At)) (zn a33))) p0.N))),.fam 1 true (eF eI x7),.fam 1 true (eF eI (List.set x14 (zt (Int.tmod (zw (p0.S)) (zn x14))) (List.set a33 (zt (Int.tmod (zw (p0.At)) (zn a33))) p0.N)))],123⟩ ?_
  refine wp_wk (wk_frzF 2 4 (enc:=eI) (ls:=x7) (st':=⟨[(4,.ptr 0 0 0)],[oX false false 4 (.agg [vI p1.Grain,.ref 1 0 p1.First.length,.ref 2 0 x7.length,.ref 3 0 ((List.set x14 (zt (Int.tmod (zw (p0.S)) (zn x14))) (List.set a33 (zt (Int.tmod (zw (p0.At)) (zn a33))) p0.N)).length)]),oR true 1 eI p1.First,oR false 1 z1 x7,.refs 5 (eF eI (List.set x14 (zt (Int.tmod (zw (p0.S)) (zn x14))) (List.set a33 (zt (Int.tmod (zw (p0.At)) (zn a33))) p0.N))),.dead,.fam 1 true (eF eI (List.set x14 (zt (Int.tmod (zw (p0.S)) (zn x14))) (List.set a33 (zt (Int.tmod (zw (p0.At)) (zn a33))) p0.N)))],123⟩) rfl rfl kr) ?_
  refine wp_wk (wk_frzF 3 5 (enc:=eI) (ls:=(List.set x14 (zt (Int.tmod (zw (p0.S)) (zn x14))) (List.set a33 (zt (Int.tmod (zw (p0.At)) (zn a33))) p0.N))) (st':=⟨[(4,.ptr 0 0 0)],[oX false false 4 (.agg [vI p1.Grain,.ref 1 0 p1.First.length,.ref 2 0 x7.length,.ref 3 0 ((List.set x14 (zt (Int.tmod (zw (p0.S)) (zn x14))) (List.set a33 (zt (Int.tmod (zw (p0.At)) (zn a33))) p0.N)).length)]),oR true 1 eI p1.First,oR false 1 z1 x7,oR false 1 z1 (List.set x14 (zt (Int.tmod (zw (p0.S)) (zn x14))) (List.set a33 (zt (Int.tmod (zw (p0.At)) (zn a33))) p0.N)),.dead,.dead],123⟩) rfl rfl kr) ?_
  refine wp_wk (wk_snapO 0 0 (st':=⟨[(4,.ptr 0 0 0)],[oX false false 4 (.agg [vI p1.Grain,z1 p1.First,z2 x7,z2 (List.set x14 (zt (Int.tmod (zw (p0.S)) (zn x14))) (List.set a33 (zt (Int.tmod (zw (p0.At)) (zn a33))) p0.N))]),.row false true true true 1 (List.map eI p1.First),.row false true true false 1 (List.map z1 x7),.row false true true false 1 (List.map z1 (List.set x14 (zt (Int.tmod (zw (p0.S)) (zn x14))) (List.set a33 (zt (Int.tmod (zw (p0.At)) (zn a33))) p0.N))),.dead,.dead],123⟩) (y:=.agg [vI p1.Grain,z1 p1.First,z2 x7,z2 (List.set x14 (zt (Int.tmod (zw (p0.S)) (zn x14))) (List.set a33 (zt (Int.tmod (zw (p0.At)) (zn a33))) p0.N))]) (ids:=[1,2,3]) rfl rfl rfl (snap_agg (msnap_cons rfl (msnap_cons (snap_full (w:=1) (bx:=false) (ro:=false) kr) (msnap_cons (snap_full (w:=1) (bx:=false) (ro:=false) kr) (msnap_cons (snap_full (w:=1) (bx:=false) (ro:=false) kr) msnap_nil (by rfl)) (by rfl)) (by rfl)) (by rfl))) kr) ?_
  cases h
  exact wp_ret (show fnOut _ _ _ _=_ from by kernel_rfl)
 refine wp_seq (wg [3,4,6,31] [1,2,3,4,5,6,7] (rn ?_))
 refine wbr (S:=fun b38=>⟨[(3,.ptr 0 0 0),(4,.ptr 1 0 0),(6,vI (zw (p0.S))),(31,.int .u8 (Int.tmod p0.What 8))]++[(89,vB b38),(88,vB b38)],(s34_96 p1 x7 x14),123⟩) h (fun q39 h=>?_) (fun q39 h=>?_)
 ·refine wcT ?_
  refine wp_wk (wk_frzF 3 5 (enc:=eI) (ls:=x7) (st':=⟨[(3,.ptr 0 0 0),(4,.ptr 1 0 0),(6,vI (zw (p0.S))),(31,.int .u8 (Int.tmod p0.What 8))]++[(89,vB true),(88,vB true)],[oX false false 4 (.agg [vI p1.Grain,.ref 2 0 p1.First.length,.ref 3 0 x7.length,.ref 4 0 x14.length]),oX true false 4 (.agg [vI 0,.nils,.nils,.nils]),oR true 1 eI p1.First,oR false 1 z1 x7,.refs 6 (eF eI x14),.dead,.fam 1 true (eF eI x14)],123⟩) rfl rfl kr) ?_
  refine wp_post ?_
  refine reg_in (sz 2 2 ?_)
  refine sliceP (enc:=z1) (l:=x7) (ob:=3) (ro:=false) (nr:=true) (fl:=false) (lo:=(some (vI 1))) (hi:=none) (a:=1) (b:=(zn x7)) (w:=1) kr kr rfl rfl gE h (fun q40 h=>?_)
  refine sz 2 5 (reg_end rfl ?_)
  refine ⟨_,wk_refl,?_⟩
  refine wp_seq (wg [3,4] [0,1,2,3,4,6] ?_)
  refine wp_post ?_
  refine rn ?_
  refine ⟨_,wk_refl,?_⟩
  refine wgc [4] [1,2,3,4,5] ⟨[(4,.ptr 0 0 0)],[oX false false 4 (.agg [vI p1.Grain,.ref 1 0 p1.First.length,.ref 2 1 (zt (zn x7) - zt (1:Int)),.ref 3 0 x14.length]),oR true 1 eI p1.First,oR false 1 z1 x7,.refs 4 (eF eI x14),.fam 1 true (eF eI x14)],123⟩ ?_
  refine wp_wk (wk_frzF 3 4 (enc:=eI) (ls:=x14) (st':=⟨[(4,.ptr 0 0 0)],[oX false false 4 (.agg [vI p1.Grain,.ref 1 0 p1.First.length,.ref 2 1 (zt (zn x7) - zt (1:Int)),.ref 3 0 x14.length]),oR true 1 eI p1.First,oR false 1 z1 x7,oR false 1 z1 x14,.dead],123⟩) rfl rfl kr) ?_
  refine wp_wk (wk_snapO 0 0 (st':=⟨[(4,.ptr 0 0 0)],[oX false false 4 (.agg [vI p1.Grain,z1 p1.First,z2 (sub x7 1 (zn x7)),z2 x14]),.row false true true true 1 (List.map eI p1.First),.row false true true false 1 (List.map z1 x7),.row false true true false 1 (List.map z1 x14),.dead],123⟩) (y:=.agg [vI p1.Grain,z1 p1.First,z2 (sub x7 1 (zn x7)),z2 x14]) (ids:=[1,2,3]) rfl rfl rfl (snap_agg (msnap_cons rfl (msnap_cons (snap_full (w:=1) (bx:=false) (ro:=false) kr) (msnap_cons (snap_part (a:=1) (b:=(zn x7)) (w:=1) (bx:=false) (ro:=false) kr q40) (msnap_cons (snap_full (w:=1) (bx:=false) (ro:=false) kr) msnap_nil (by rfl)) (by rfl)) (by rfl)) (by rfl))) kr) ?_
  cases h
  exact wp_ret (show fnOut _ _ _ _=_ from by kernel_rfl)
 refine wcF (sq ?_)
 refine wbz h (fun q42 h=>?_) (fun q42 h=>?_)
 ·refine wgc [3,4,6] [0,1,2,3,4,5,6] ⟨[(3,.ptr 0 0 0),(4,.ptr 1 0 0),(6,vI (zw (p0.S)))],(s34_96 p1 x7 x14),123⟩ ?_
  refine bind_elim h (fun a43 q44 h=>?_)
  refine wp_wk (wk_steal 4 6 (enc:=eI) (ls:=x14) (x:=a43) (n:=Int.tmod (zw (p0.S)) (zn x14)) [3,4,6] (st':=⟨[(3,.ptr 0 0 0),(4,.ptr 1 0 0),(6,vI (zw (p0.S)))],[oX false false 4 (.agg [vI p1.Grain,.ref 2 0 p1.First.length,.ref 3 0 x7.length,.ref 4 0 x14.length]),oX true false 4 (.agg [vI 0,.nils,.nils,.nils]),oR true 1 eI p1.First,.refs 5 (eF eI x7),.row false false false false 1 ((famRefs 6 0 (eF eI (List.set x14 (zt (Int.tmod (zw (p0.S)) (zn x14))) ([]:List Int)))).set (zt (Int.tmod (zw (p0.S)) (zn x14))) (.ref 7 0 a43.length)),.fam 1 true (eF eI x7),.fam 1 true (eF eI (List.set x14 (zt (Int.tmod (zw (p0.S)) (zn x14))) ([]:List Int))),oR true 1 eI a43],123⟩) rfl rfl q44 kr kr) ?_
  refine wp_wk (wk_eq (congrArg (fun n45=>(⟨[(3,.ptr 0 0 0),(4,.ptr 1 0 0),(6,vI (zw (p0.S)))],[oX false false 4 (.agg [vI p1.Grain,.ref 2 0 p1.First.length,.ref 3 0 x7.length,.ref 4 0 n45]),oX true false 4 (.agg [vI 0,.nils,.nils,.nils]),oR true 1 eI p1.First,.refs 5 (eF eI x7),.row false false false false 1 ((famRefs 6 0 (eF eI (List.set x14 (zt (Int.tmod (zw (p0.S)) (zn x14))) ([]:List Int)))).set (zt (Int.tmod (zw (p0.S)) (zn x14))) (.ref 7 0 a43.length)),.fam 1 true (eF eI x7),.fam 1 true (eF eI (List.set x14 (zt (Int.tmod (zw (p0.S)) (zn x14))) ([]:List Int))),oR true 1 eI a43],123⟩:St)) (show x14.length=(List.set x14 (zt (Int.tmod (zw (p0.S)) (zn x14))) ([]:List Int)).length by simp only [List.length_set]))) ?_
  refine wp_post ?_
  refine rga hfol (sy 6 6 ?_)
  refine remR (k:=.i64) (a:=zw (p0.S)) (b:=(((List.set x14 (zt (Int.tmod (zw (p0.S)) (zn x14))) ([]:List Int)).length):Int)) kr gE h (fun h=>?_)
  refine sy 6 13 ?_
  refine remR (k:=.i64) (a:=zw (p0.S)) (b:=(((List.set x14 (zt (Int.tmod (zw (p0.S)) (zn x14))) ([]:List Int)).length):Int)) kr gE h (fun h=>?_)
  refine rknI (n:=Int.tmod (zw (p0.S)) (((List.set x14 (zt (Int.tmod (zw (p0.S)) (zn x14))) ([]:List Int)).length):Int)) (m:=Int.tmod (zw (p0.S)) (zn x14)) (S:=fun n46=>⟨[(3,.ptr 0 0 0),(4,.ptr 1 0 0),(6,vI (zw (p0.S))),(96,.ptr 0 0 3),(97,.ref 4 0 ((List.set x14 (zt (Int.tmod (zw (p0.S)) (zn x14))) ([]:List Int)).length)),(98,vI (zw (p0.S))),(99,.ptr 0 0 3),(100,.ref 4 0 ((List.set x14 (zt (Int.tmod (zw (p0.S)) (zn x14))) ([]:List Int)).length)),(101,vI (((List.set x14 (zt (Int.tmod (zw (p0.S)) (zn x14))) ([]:List Int)).length):Int))]++[(102,vI n46),(103,.ptr 0 0 3),(104,.ref 4 0 ((List.set x14 (zt (Int.tmod (zw (p0.S)) (zn x14))) ([]:List Int)).length)),(105,vI (zw (p0.S))),(106,.ptr 0 0 3),(107,.ref 4 0 ((List.set x14 (zt (Int.tmod (zw (p0.S)) (zn x14))) ([]:List Int)).length)),(108,vI (((List.set x14 (zt (Int.tmod (zw (p0.S)) (zn x14))) ([]:List Int)).length):Int)),(109,vI n46)],[oX false false 4 (.agg [vI p1.Grain,.ref 2 0 p1.First.length,.ref 3 0 x7.length,.ref 4 0 ((List.set x14 (zt (Int.tmod (zw (p0.S)) (zn x14))) ([]:List Int)).length)]),oX true false 4 (.agg [vI 0,.nils,.nils,.nils]),oR true 1 eI p1.First,.refs 5 (eF eI x7),.row false false false false 1 ((famRefs 6 0 (eF eI (List.set x14 (zt (Int.tmod (zw (p0.S)) (zn x14))) ([]:List Int)))).set (zt (Int.tmod (zw (p0.S)) (zn x14))) (.ref 7 0 a43.length)),.fam 1 true (eF eI x7),.fam 1 true (eF eI (List.set x14 (zt (Int.tmod (zw (p0.S)) (zn x14))) ([]:List Int))),oR true 1 eI a43],123⟩) (by simp only [List.length_set]) ?_
  refine idxS (enc:=eI) (ls:=(List.set x14 (zt (Int.tmod (zw (p0.S)) (zn x14))) ([]:List Int))) (x:=([]:List Int)) (n:=Int.tmod (zw (p0.S)) (zn x14)) (ob:=4) (j:=6) (m:=7) (q:=a43.length) kr kr (lkI_set ([]:List Int) q44) gE ?_
  refine loadS (enc:=eI) (ls:=(List.set x14 (zt (Int.tmod (zw (p0.S)) (zn x14))) ([]:List Int))) (x:=([]:List Int)) (n:=Int.tmod (zw (p0.S)) (zn x14)) (ob:=4) (j:=6) (m:=7) (q:=a43.length) kr kr (lkI_set ([]:List Int) q44) gE ?_
  refine sgL false [] [] true gE ?_
  refine appR (enc:=eI) (l:=a43) (m:=([0]:(List Int))) (w:=1) (bytes:=8) (ob:=7) (nr:=true) (fl:=true) (nr':=true) (fl':=true) (b:=.ref 8 0 1) (rds:=[8]) false kr kr kr rfl gE kr h (fun h=>?_)
  refine idxS (enc:=eI) (ls:=(List.set x14 (zt (Int.tmod (zw (p0.S)) (zn x14))) ([]:List Int))) (x:=([]:List Int)) (n:=Int.tmod (zw (p0.S)) (zn x14)) (ob:=4) (j:=6) (m:=7) (q:=a43.length) kr kr (lkI_set ([]:List Int) q44) gE ?_
  refine storeS2 (enc:=eI) (ls:=(List.set x14 (zt (Int.tmod (zw (p0.S)) (zn x14))) ([]:List Int))) (x:=([]:List Int)) (n:=Int.tmod (zw (p0.S)) (zn x14)) (ob:=4) (j:=6) (m0:=7) (q0:=a43.length) (m:=9) (q:=(a43++([0]:(List Int))).length) (S:=⟨[(3,.ptr 0 0 0),(4,.ptr 1 0 0),(6,vI (zw (p0.S))),(96,.ptr 0 0 3),(97,.ref 4 0 ((List.set x14 (zt (Int.tmod (zw (p0.S)) (zn x14))) ([]:List Int)).length)),(98,vI (zw (p0.S))),(99,.ptr 0 0 3),(100,.ref 4 0 ((List.set x14 (zt (Int.tmod (zw (p0.S)) (zn x14))) ([]:List Int)).length)),(101,vI (((List.set x14 (zt (Int.tmod (zw (p0.S)) (zn x14))) ([]:List Int)).length):Int))]++[(102,vI (Int.tmod (zw (p0.S)) (zn x14))),(103,.ptr 0 0 3),(104,.ref 4 0 ((List.set x14 (zt (Int.tmod (zw (p0.S)) (zn x14))) ([]:List Int)).length)),(105,vI (zw (p0.S))),(106,.ptr 0 0 3),(107,.ref 4 0 ((List.set x14 (zt (Int.tmod (zw (p0.S)) (zn x14))) ([]:List Int)).length)),(108,vI (((List.set x14 (zt (Int.tmod (zw (p0.S)) (zn x14))) ([]:List Int)).length):Int)),(109,vI (Int.tmod (zw (p0.S)) (zn x14))),(110,.ptr 4 (zt (Int.tmod (zw (p0.S)) (zn x14))) 0),(111,.ref 7 0 a43.length),(112,.ref 8 0 1),(113,.ref 9 0 ((a43++([0]:(List Int))).length)),(114,.ptr 4 (zt (Int.tmod (zw (p0.S)) (zn x14))) 0)],[oX false false 4 (.agg [vI p1.Grain,.ref 2 0 p1.First.length,.ref 3 0 x7.length,.ref 4 0 ((List.set x14 (zt (Int.tmod (zw (p0.S)) (zn x14))) ([]:List Int)).length)]),oX true false 4 (.agg [vI 0,.nils,.nils,.nils]),oR true 1 eI p1.First,.refs 5 (eF eI x7),.row false false false false 1 ((famRefs 6 0 (eF eI (List.set x14 (zt (Int.tmod (zw (p0.S)) (zn x14))) ([]:List Int)))).set (zt (Int.tmod (zw (p0.S)) (zn x14))) (.ref 9 0 ((a43++([0]:(List Int))).length))),.fam 1 true (eF eI x7),.fam 1 true (eF eI (List.set x14 (zt (Int.tmod (zw (p0.S)) (zn x14))) ([]:List Int))),.dead,.row false false true true 1 [vI 0],oR true 1 eI (a43++([0]:(List Int)))],123⟩) kr kr (lkI_set ([]:List Int) q44) kr kr kr ?_
  refine rgd ?_
  refine ⟨⟨[(3,.ptr 0 0 0),(4,.ptr 1 0 0),(6,vI (zw (p0.S))),(96,.ptr 0 0 3),(97,.ref 4 0 ((List.set (List.set x14 (zt (Int.tmod (zw (p0.S)) (zn x14))) ([]:List Int)) (zt (Int.tmod (zw (p0.S)) (zn x14))) (a43++([0]:(List Int)))).length)),(98,vI (zw (p0.S))),(99,.ptr 0 0 3),(100,.ref 4 0 ((List.set (List.set x14 (zt (Int.tmod (zw (p0.S)) (zn x14))) ([]:List Int)) (zt (Int.tmod (zw (p0.S)) (zn x14))) (a43++([0]:(List Int)))).length)),(101,vI (((List.set x14 (zt (Int.tmod (zw (p0.S)) (zn x14))) ([]:List Int)).length):Int)),(102,vI (Int.tmod (zw (p0.S)) (zn x14))),(103,.ptr 0 0 3),(104,.ref 4 0 ((List.set (List.set x14 (zt (Int.tmod (zw (p0.S)) (zn x14))) ([]:List Int)) (zt (Int.tmod (zw (p0.S)) (zn x14))) (a43++([0]:(List Int)))).length)),(105,vI (zw (p0.S))),(106,.ptr 0 0 3),(107,.ref 4 0 ((List.set (List.set x14 (zt (Int.tmod (zw (p0.S)) (zn x14))) ([]:List Int)) (zt (Int.tmod (zw (p0.S)) (zn x14))) (a43++([0]:(List Int)))).length)),(108,vI (((List.set x14 (zt (Int.tmod (zw (p0.S)) (zn x14))) ([]:List Int)).length):Int)),(109,vI (Int.tmod (zw (p0.S)) (zn x14))),(110,.ptr 4 (zt (Int.tmod (zw (p0.S)) (zn x14))) 0),(111,.ref 7 0 a43.length),(112,.ref 8 0 1),(114,.ptr 4 (zt (Int.tmod (zw (p0.S)) (zn x14))) 0)],[oX false false 4 (.agg [vI p1.Grain,.ref 2 0 p1.First.length,.ref 3 0 x7.length,.ref 4 0 ((List.set (List.set x14 (zt (Int.tmod (zw (p0.S)) (zn x14))) ([]:List Int)) (zt (Int.tmod (zw (p0.S)) (zn x14))) (a43++([0]:(List Int)))).length)]),oX true false 4 (.agg [vI 0,.nils,.nils,.nils]),oR true 1 eI p1.First,.refs 5 (eF eI x7),.refs 6 (eF eI (List.set (List.set x14 (zt (Int.tmod (zw (p0.S)) (zn x14))) ([]:List Int)) (zt (Int.tmod (zw (p0.S)) (zn x14))) (a43++([0]:(List Int))))),.fam 1 true (eF eI x7),.fam 1 true (eF eI (List.set (List.set x14 (zt (Int.tmod (zw (p0.S)) (zn x14))) ([]:List Int)) (zt (Int.tmod (zw (p0.S)) (zn x14))) (a43++([0]:(List Int))))),.dead,.row false false true true 1 [vI 0],.dead],123⟩,(wk_trans (wk_adopt 4 6 9 (enc:=eI) (ls:=(List.set x14 (zt (Int.tmod (zw (p0.S)) (zn x14))) ([]:List Int))) (x:=([]:List Int)) (b:=(a43++([0]:(List Int)))) (n:=Int.tmod (zw (p0.S)) (zn x14)) [3,4,6,96,97,98,99,100,101,102,103,104,105,106,107,108,109,110,111,112,114] (st':=⟨[(3,.ptr 0 0 0),(4,.ptr 1 0 0),(6,vI (zw (p0.S))),(96,.ptr 0 0 3),(97,.ref 4 0 ((List.set x14 (zt (Int.tmod (zw (p0.S)) (zn x14))) ([]:List Int)).length)),(98,vI (zw (p0.S))),(99,.ptr 0 0 3),(100,.ref 4 0 ((List.set x14 (zt (Int.tmod (zw (p0.S)) (zn x14))) ([]:List Int)).length)),(101,vI (((List.set x14 (zt (Int.tmod (zw (p0.S)) (zn x14))) ([]:List Int)).length):Int))]++[(102,vI (Int.tmod (zw (p0.S)) (zn x14))),(103,.ptr 0 0 3),(104,.ref 4 0 ((List.set x14 (zt (Int.tmod (zw (p0.S)) (zn x14))) ([]:List Int)).length)),(105,vI (zw (p0.S))),(106,.ptr 0 0 3),(107,.ref 4 0 ((List.set x14 (zt (Int.tmod (zw (p0.S)) (zn x14))) ([]:List Int)).length)),(108,vI (((List.set x14 (zt (Int.tmod (zw (p0.S)) (zn x14))) ([]:List Int)).length):Int)),(109,vI (Int.tmod (zw (p0.S)) (zn x14))),(110,.ptr 4 (zt (Int.tmod (zw (p0.S)) (zn x14))) 0),(111,.ref 7 0 a43.length),(112,.ref 8 0 1),(114,.ptr 4 (zt (Int.tmod (zw (p0.S)) (zn x14))) 0)],[oX false false 4 (.agg [vI p1.Grain,.ref 2 0 p1.First.length,.ref 3 0 x7.length,.ref 4 0 ((List.set x14 (zt (Int.tmod (zw (p0.S)) (zn x14))) ([]:List Int)).length)]),oX true false 4 (.agg [vI 0,.nils,.nils,.nils]),oR true 1 eI p1.First,.refs 5 (eF eI x7),.refs 6 (eF eI (List.set (List.set x14 (zt (Int.tmod (zw (p0.S)) (zn x14))) ([]:List Int)) (zt (Int.tmod (zw (p0.S)) (zn x14))) (a43++([0]:(List Int))))),.fam 1 true (eF eI x7),.fam 1 true (eF eI (List.set (List.set x14 (zt (Int.tmod (zw (p0.S)) (zn x14))) ([]:List Int)) (zt (Int.tmod (zw (p0.S)) (zn x14))) (a43++([0]:(List Int))))),.dead,.row false false true true 1 [vI 0],.dead],123⟩) rfl rfl rfl (lkI_set ([]:List Int) q44) (by kernel_rfl) (by kernel_rfl)) (wk_eq (congrArg (fun n47=>(⟨[(3,.ptr 0 0 0),(4,.ptr 1 0 0),(6,vI (zw (p0.S))),(96,.ptr 0 0 3),(97,.ref 4 0 n47),(98,vI (zw (p0.S))),(99,.ptr 0 0 3),(100,.ref 4 0 n47),(101,vI (((List.set x14 (zt (Int.tmod (zw (p0.S)) (zn x14))) ([]:List Int)).length):Int)),(102,vI (Int.tmod (zw (p0.S)) (zn x14))),(103,.ptr 0 0 3),(104,.ref 4 0 n47),(105,vI (zw (p0.S))),(106,.ptr 0 0 3),(107,.ref 4 0 n47),(108,vI (((List.set x14 (zt (Int.tmod (zw (p0.S)) (zn x14))) ([]:List Int)).length):Int)),(109,vI (Int.tmod (zw (p0.S)) (zn x14))),(110,.ptr 4 (zt (Int.tmod (zw (p0.S)) (zn x14))) 0),(111,.ref 7 0 a43.length),(112,.ref 8 0 1),(114,.ptr 4 (zt (Int.tmod (zw (p0.S)) (zn x14))) 0)],[oX false false 4 (.agg [vI p1.Grain,.ref 2 0 p1.First.length,.ref 3 0 x7.length,.ref 4 0 n47]),oX true false 4 (.agg [vI 0,.nils,.nils,.nils]),oR true 1 eI p1.First,.refs 5 (eF eI x7),.refs 6 (eF eI (List.set (List.set x14 (zt (Int.tmod (zw (p0.S)) (zn x14))) ([]:List Int)) (zt (Int.tmod (zw (p0.S)) (zn x14))) (a43++([0]:(List Int))))),.fam 1 true (eF eI x7),.fam 1 true (eF eI (List.set (List.set x14 (zt (Int.tmod (zw (p0.S)) (zn x14))) ([]:List Int)) (zt (Int.tmod (zw (p0.S)) (zn x14))) (a43++([0]:(List Int))))),.dead,.row false false true true 1 [vI 0],.dead],123⟩:St)) (show (List.set x14 (zt (Int.tmod (zw (p0.S)) (zn x14))) ([]:List Int)).length=(List.set (List.set x14 (zt (Int.tmod (zw (p0.S)) (zn x14))) ([]:List Int)) (zt (Int.tmod (zw (p0.S)) (zn x14))) (a43++([0]:(List Int)))).length by simp only [List.length_set])))),?_⟩
  refine wp_seq (wg [3,4] [0,1,2,3,4,5,6] ?_)
  refine wp_post ?_
  refine rn ?_
  refine ⟨_,wk_refl,?_⟩
  refine wgc [4] [1,2,3,4,5,6] ⟨[(4,.ptr 0 0 0)],[oX false false 4 (.agg [vI p1.Grain,.ref 1 0 p1.First.length,.ref 2 0 x7.length,.ref 3 0 ((List.set (List.set x14 (zt (Int.tmod (zw (p0.S)) (zn x14))) ([]:List Int)) (zt (Int.tmod (zw (p0.S)) (zn x14))) (a43++([0]:(List Int)))).length)]),oR true 1 eI p1.First,.refs 4 (eF eI x7),.refs 5 (eF eI (List.set (List.set x14 (zt (Int.tmod (zw (p0.S)) (zn x14))) ([]:List Int)) (zt (Int.tmod (zw (p0.S)) (zn x14))) (a43++([0]:(List Int))))),.fam 1 true (eF eI x7),.fam 1 true (eF eI (List.set (List.set x14 (zt (Int.tmod (zw (p0.S)) (zn x14))) ([]:List Int)) (zt (Int.tmod (zw (p0.S)) (zn x14))) (a43++([0]:(List Int)))))],123⟩ ?_
  refine wp_wk (wk_frzF 2 4 (enc:=eI) (ls:=x7) (st':=⟨[(4,.ptr 0 0 0)],[oX false false 4 (.agg [vI p1.Grain,.ref 1 0 p1.First.length,.ref 2 0 x7.length,.ref 3 0 ((List.set (List.set x14 (zt (Int.tmod (zw (p0.S)) (zn x14))) ([]:List Int)) (zt (Int.tmod (zw (p0.S)) (zn x14))) (a43++([0]:(List Int)))).length)]),oR true 1 eI p1.First,oR false 1 z1 x7,.refs 5 (eF eI (List.set (List.set x14 (zt (Int.tmod (zw (p0.S)) (zn x14))) ([]:List Int)) (zt (Int.tmod (zw (p0.S)) (zn x14))) (a43++([0]:(List Int))))),.dead,.fam 1 true (eF eI (List.set (List.set x14 (zt (Int.tmod (zw (p0.S)) (zn x14))) ([]:List Int)) (zt (Int.tmod (zw (p0.S)) (zn x14))) (a43++([0]:(List Int)))))],123⟩) rfl rfl kr) ?_
  refine wp_wk (wk_frzF 3 5 (enc:=eI) (ls:=(List.set (List.set x14 (zt (Int.tmod (zw (p0.S)) (zn x14))) ([]:List Int)) (zt (Int.tmod (zw (p0.S)) (zn x14))) (a43++([0]:(List Int))))) (st':=⟨[(4,.ptr 0 0 0)],[oX false false 4 (.agg [vI p1.Grain,.ref 1 0 p1.First.length,.ref 2 0 x7.length,.ref 3 0 ((List.set (List.set x14 (zt (Int.tmod (zw (p0.S)) (zn x14))) ([]:List Int)) (zt (Int.tmod (zw (p0.S)) (zn x14))) (a43++([0]:(List Int)))).length)]),oR true 1 eI p1.First,oR false 1 z1 x7,oR false 1 z1 (List.set (List.set x14 (zt (Int.tmod (zw (p0.S)) (zn x14))) ([]:List Int)) (zt (Int.tmod (zw (p0.S)) (zn x14))) (a43++([0]:(List Int)))),.dead,.dead],123⟩) rfl rfl kr) ?_
  refine wp_wk (wk_snapO 0 0 (st':=⟨[(4,.ptr 0 0 0)],[oX false false 4 (.agg [vI p1.Grain,z1 p1.First,z2 x7,z2 (List.set (List.set x14 (zt (Int.tmod (zw (p0.S)) (zn x14))) ([]:List Int)) (zt (Int.tmod (zw (p0.S)) (zn x14))) (a43++([0]:(List Int))))]),.row false true true true 1 (List.map eI p1.First),.row false true true false 1 (List.map z1 x7),.row false true true false 1 (List.map z1 (List.set (List.set x14 (zt (Int.tmod (zw (p0.S)) (zn x14))) ([]:List Int)) (zt (Int.tmod (zw (p0.S)) (zn x14))) (a43++([0]:(List Int))))),.dead,.dead],123⟩) (y:=.agg [vI p1.Grain,z1 p1.First,z2 x7,z2 (List.set (List.set x14 (zt (Int.tmod (zw (p0.S)) (zn x14))) ([]:List Int)) (zt (Int.tmod (zw (p0.S)) (zn x14))) (a43++([0]:(List Int))))]) (ids:=[1,2,3]) rfl rfl rfl (snap_agg (msnap_cons rfl (msnap_cons (snap_full (w:=1) (bx:=false) (ro:=false) kr) (msnap_cons (snap_full (w:=1) (bx:=false) (ro:=false) kr) (msnap_cons (snap_full (w:=1) (bx:=false) (ro:=false) kr) msnap_nil (by rfl)) (by rfl)) (by rfl)) (by rfl))) kr) ?_
  cases h
  exact wp_ret (show fnOut _ _ _ _=_ from by kernel_rfl)
 refine wp_seq (wg [3,4,31] [0,1,2,3,4,5,6] (rn ?_))
 refine wb [116,115] h (fun q49 h=>?_) (fun q49 h=>?_)
 ·refine wcT ?_
  refine wp_post ?_
  refine reg_in (sz 2 2 ?_)
  refine sgL false [] [] true gE ?_
  refine appR (enc:=eI) (l:=p1.First) (m:=([0]:(List Int))) (w:=1) (bytes:=8) (ob:=2) (nr:=true) (fl:=true) (nr':=true) (fl':=true) (b:=.ref 7 0 1) (rds:=[7]) false kr kr kr rfl gE kr h (fun h=>?_)
  refine sz 2 6 (reg_end rfl ?_)
  refine ⟨_,wk_refl,?_⟩
  refine wp_seq ?_
  refine wgc [3,4] [0,1,8,3,4,5,6] ⟨[(3,.ptr 0 0 0),(4,.ptr 1 0 0)],[oX false false 4 (.agg [vI p1.Grain,.ref 2 0 ((p1.First++([0]:(List Int))).length),.ref 3 0 x7.length,.ref 4 0 x14.length]),oX true false 4 (.agg [vI 0,.nils,.nils,.nils]),oR true 1 eI (p1.First++([0]:(List Int))),.refs 5 (eF eI x7),.refs 6 (eF eI x14),.fam 1 true (eF eI x7),.fam 1 true (eF eI x14)],123⟩ ?_
  refine wp_post ?_
  refine rn ?_
  refine ⟨_,wk_refl,?_⟩
  refine wgc [4] [1,2,3,4,5,6] ⟨[(4,.ptr 0 0 0)],[oX false false 4 (.agg [vI p1.Grain,.ref 1 0 ((p1.First++([0]:(List Int))).length),.ref 2 0 x7.length,.ref 3 0 x14.length]),oR true 1 eI (p1.First++([0]:(List Int))),.refs 4 (eF eI x7),.refs 5 (eF eI x14),.fam 1 true (eF eI x7),.fam 1 true (eF eI x14)],123⟩ ?_
  refine wp_wk (wk_frzF 2 4 (enc:=eI) (ls:=x7) (st':=⟨[(4,.ptr 0 0 0)],[oX false false 4 (.agg [vI p1.Grain,.ref 1 0 ((p1.First++([0]:(List Int))).length),.ref 2 0 x7.length,.ref 3 0 x14.length]),oR true 1 eI (p1.First++([0]:(List Int))),oR false 1 z1 x7,.refs 5 (eF eI x14),.dead,.fam 1 true (eF eI x14)],123⟩) rfl rfl kr) ?_
  refine wp_wk (wk_frzF 3 5 (enc:=eI) (ls:=x14) (st':=⟨[(4,.ptr 0 0 0)],[oX false false 4 (.agg [vI p1.Grain,.ref 1 0 ((p1.First++([0]:(List Int))).length),.ref 2 0 x7.length,.ref 3 0 x14.length]),oR true 1 eI (p1.First++([0]:(List Int))),oR false 1 z1 x7,oR false 1 z1 x14,.dead,.dead],123⟩) rfl rfl kr) ?_
  refine wp_wk (wk_snapO 0 0 (st':=⟨[(4,.ptr 0 0 0)],[oX false false 4 (.agg [vI p1.Grain,z1 (p1.First++([0]:(List Int))),z2 x7,z2 x14]),.row false true true true 1 (List.map eI (p1.First++([0]:(List Int)))),.row false true true false 1 (List.map z1 x7),.row false true true false 1 (List.map z1 x14),.dead,.dead],123⟩) (y:=.agg [vI p1.Grain,z1 (p1.First++([0]:(List Int))),z2 x7,z2 x14]) (ids:=[1,2,3]) rfl rfl rfl (snap_agg (msnap_cons rfl (msnap_cons (snap_full (w:=1) (bx:=false) (ro:=false) kr) (msnap_cons (snap_full (w:=1) (bx:=false) (ro:=false) kr) (msnap_cons (snap_full (w:=1) (bx:=false) (ro:=false) kr) msnap_nil (by rfl)) (by rfl)) (by rfl)) (by rfl))) kr) ?_
  cases h
  exact wp_ret (show fnOut _ _ _ _=_ from by kernel_rfl)
 refine wcF ?_
 refine wp_post ?_
 refine rn ?_
 refine ⟨_,wk_refl,?_⟩
 refine wp_seq ?_
 refine wp_post ?_
 refine rn ?_
 refine ⟨_,wk_refl,?_⟩
 refine wgc [4] [1,2,3,5] ⟨[(4,.ptr 0 0 0)],[oX false false 4 (.agg [vI p1.Grain,.ref 1 0 p1.First.length,.ref 2 0 x7.length,.nils]),oR true 1 eI p1.First,.refs 3 (eF eI x7),.fam 1 true (eF eI x7)],123⟩ ?_
 refine wp_wk (wk_frzF 2 3 (enc:=eI) (ls:=x7) (st':=⟨[(4,.ptr 0 0 0)],[oX false false 4 (.agg [vI p1.Grain,.ref 1 0 p1.First.length,.ref 2 0 x7.length,.nils]),oR true 1 eI p1.First,oR false 1 z1 x7,.dead],123⟩) rfl rfl kr) ?_
 refine wp_wk (wk_snapO 0 0 (st':=⟨[(4,.ptr 0 0 0)],[oX false false 4 (.agg [vI p1.Grain,z1 p1.First,z2 x7,.nils]),.row false true true true 1 (List.map eI p1.First),.row false true true false 1 (List.map z1 x7),.dead],123⟩) (y:=.agg [vI p1.Grain,z1 p1.First,z2 x7,.nils]) (ids:=[1,2]) rfl rfl rfl (snap_agg (msnap_cons rfl (msnap_cons (snap_full (w:=1) (bx:=false) (ro:=false) kr) (msnap_cons (snap_full (w:=1) (bx:=false) (ro:=false) kr) (msnap_cons rfl msnap_nil (by rfl)) (by rfl)) (by rfl)) (by rfl))) kr) ?_
 cases h
 exact wp_ret (show fnOut _ _ _ _=_ from by kernel_rfl)
end Go.Ab
