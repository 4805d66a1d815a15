/- What functions compute. No conditions. -/
import Derived.Test.YtebpheijhmlpjaaProg
import Derived.Test.YtebpheijhmlpjaaW9
import Derived.KernelRfl
import Derived.Test.YtebpheijhmlpjaaW10
import Derived.Test.YtebpheijhmlpjaaW11
import Derived.Test.YtebpheijhmlpjaaW12
set_option linter.all false
namespace Go.Ab
open Go Go.Proofs
set_option maxRecDepth 100000
set_option maxHeartbeats 4000000
theorem g_law18_sample_ok  (x:Tapi_Hidden) (h:g_law18_sample=some x):CallOk Try.prog 28 [] (.ret (.agg [vI x.Grain,.ref 0 0 x.First.length,.ref 1 0 x.Step.length,.ref 2 0 x.Show.length]) [oR true 1 eI x.First,oR false 1 z1 x.Step,oR false 1 z1 x.Show]):=by
 refine fn_ok [] Try.func28 rfl (by decide +kernel) rfl ?_
 unfold g_law18_sample at h
 refine wp_eqB (base':=0) (st':=⟨[],[],9⟩) kr kr ?_
 refine wp_seq (reg_in ?_)
 refine sgL false [] [] false gE ?_
 refine reg_end rfl (wp_seq (reg_in ?_))
 refine sgL false [] [] true gE ?_
 refine sgL false [] [] true gE ?_
 refine sgL (S:=⟨[(0,.ptr 0 0 0),(1,.ref 1 0 2),(2,.ref 2 0 2),(3,.ref 3 0 2)],[oX true false 4 (.agg [vI 0,.nils,.nils,.nils]),.row false false true true 1 [vI 1,vI 3],.row false false true true 1 [vI 2,vI 2],.row false false true true 1 [vI 0,vI 4]],9⟩) false [] [] true kr ?_
 refine bsR (parts:=[(0,.lst true [vI 2,vI 2]),(1,.lst true [vI 0,vI 4])]) (ids:=[2,3]) (es:=[(2,.row false true true true 1 [vI 2,vI 2]),(3,.row false true true true 1 [vI 0,vI 4]),(4,.row false false true (List.all [.lst true [vI 2,vI 2],.lst true [vI 0,vI 4]] AV.scs) 1 [.lst true [vI 2,vI 2],.lst true [vI 0,vI 4]])]) (S:=⟨[(0,.ptr 0 0 0),(1,.ref 1 0 2),(2,.ref 2 0 2),(3,.ref 3 0 2),(4,.ref 4 0 2)],[oX true false 4 (.agg [vI 0,.nils,.nils,.nils]),.row false false true true 1 [vI 1,vI 3],.row false true true true 1 [vI 2,vI 2],.row false true true true 1 [vI 0,vI 4],.row false false true false 1 [.lst true [vI 2,vI 2],.lst true [vI 0,vI 4]]],9⟩) [.lst true] false rfl (sparts_snap rfl (show snap _ _ _=some (_,[2]) from kr) (sparts_snap rfl (show snap _ _ _=some (_,[3]) from kr) sparts_nil (by rfl)) (by rfl)) kr ?_
 refine sgL false [] [] true gE ?_
 refine sgL (S:=⟨[(0,.ptr 0 0 0),(1,.ref 1 0 2),(2,.ref 2 0 2),(3,.ref 3 0 2),(4,.ref 4 0 2),(5,.ref 5 0 2),(6,.ref 6 0 2)],[oX true false 4 (.agg [vI 0,.nils,.nils,.nils]),.row false false true true 1 [vI 1,vI 3],.row false true true true 1 [vI 2,vI 2],.row false true true true 1 [vI 0,vI 4],.row false false true false 1 [.lst true [vI 2,vI 2],.lst true [vI 0,vI 4]],.row false false true true 1 [vI 4,vI 0],.row false false true true 1 [vI 1,vI 3]],9⟩) false [] [] true kr ?_
 refine bsR (parts:=[(0,.lst true [vI 4,vI 0]),(1,.lst true [vI 1,vI 3])]) (ids:=[5,6]) (es:=[(5,.row false true true true 1 [vI 4,vI 0]),(6,.row false true true true 1 [vI 1,vI 3]),(7,.row false false true (List.all [.lst true [vI 4,vI 0],.lst true [vI 1,vI 3]] AV.scs) 1 [.lst true [vI 4,vI 0],.lst true [vI 1,vI 3]])]) (S:=⟨[(0,.ptr 0 0 0),(1,.ref 1 0 2),(2,.ref 2 0 2),(3,.ref 3 0 2),(4,.ref 4 0 2),(5,.ref 5 0 2),(6,.ref 6 0 2),(7,.ref 7 0 2)],[oX true false 4 (.agg [vI 0,.nils,.nils,.nils]),.row false false true true 1 [vI 1,vI 3],.row false true true true 1 [vI 2,vI 2],.row false true true true 1 [vI 0,vI 4],.row false false true false 1 [.lst true [vI 2,vI 2],.lst true [vI 0,vI 4]],.row false true true true 1 [vI 4,vI 0],.row false true true true 1 [vI 1,vI 3],.row false false true false 1 [.lst true [vI 4,vI 0],.lst true [vI 1,vI 3]]],9⟩) [.lst true] false rfl (sparts_snap rfl (show snap _ _ _=some (_,[5]) from kr) (sparts_snap rfl (show snap _ _ _=some (_,[6]) from kr) sparts_nil (by rfl)) (by rfl)) kr ?_
 refine sz 2 9 (reg_end rfl (wg [0] [0,1,4,7] ?_))
 cases h
 exact wp_ret (show fnOut _ _ _ _=_ from by kernel_rfl)
theorem g_ref02_Same_ok (p0:(List Int)) (p1:(List Int)) (x:Bool) (h:g_ref02_Same p0 p1=some x):CallOk Try.prog 68 [z1 p0,z1 p1] (.ret (vB x) []):=by
 refine fn_ok [] Try.func68 rfl (by decide +kernel) rfl ?_
 unfold g_ref02_Same at h
 refine wp_eqB (base':=0) (st':=⟨[(0,z1 p0),(1,z1 p1)],[],26⟩) kr kr ?_
 refine sq (wp_seq (wp_seq (reg_in (sz 1 1 ?_))))
 refine lenL (enc:=eI) (l:=p0) (fl:=true) kr gE ?_
 refine sz 1 3 ?_
 refine lenL (enc:=eI) (l:=p1) (fl:=true) kr gE ?_
 refine sz 1 5 (reg_end rfl ?_)
 refine wbz h (fun q2 h=>?_) (fun q2 h=>?_)
 ·refine wp_seq (wg [] [] (rn ?_))
  refine wgc [4] [] ⟨[(4,vB false)],[],26⟩ ?_
  cases h
  exact wp_ret (show fnOut _ _ _ _=_ from by kernel_rfl)
 refine wp_skip (wp_seq (wp_seq (wg [0,1] [] (rn (wp_block ?_)))))
 refine wwh h (fun s3=>⟨[(0,z1 p0),(1,z1 p1),(5,vI s3)],[],26⟩) (fun x out=>out=match x with | .inl v=>.go (.ret) ⟨[(4,vB false)],[],26⟩ | .inr v=>.go (.exit 0) ⟨[],[],26⟩) (wk_gc (live:=[0,1,5]) (keep:=[]) kr) ?_ ?_
 ·intro s3 o h
  unfold g_ref02_Same_b0 at h
  refine wp_seq (wp_seq (reg_in (sz 2 2 ?_)))
  refine lenL (enc:=eI) (l:=p0) (fl:=true) kr gE ?_
  refine sz 1 4 (reg_end rfl ?_)
  refine wb [14] h (fun q5 h=>?_) (fun q5 h=>?_)
  ·refine wcT (wp_skip (wp_seq (wp_block (wp_seq (rga hfol (sy 2 2 ?_))))))
   refine bind_elim h (fun a6 q7 h=>?_)
   refine idxL' (enc:=eI) (l:=p0) (n:=s3) (fl:=true) (w:=1) (a:=a6) kr rfl gE q7 ?_
   refine sy 3 6 ?_
   refine bind_elim h (fun a8 q9 h=>?_)
   refine idxL' (enc:=eI) (l:=p1) (n:=s3) (fl:=true) (w:=1) (a:=a8) kr rfl gE q9 ?_
   refine sy 2 9 (rgd ?_)
   refine wbz h (fun q11 h=>?_) (fun q11 h=>?_)
   ·refine wp_seq ?_
    refine wgc [] [] ⟨[],[],26⟩ ?_
    refine rn (wg [4] [] ?_)
    refine wp_ret ?_
    cases h
    exact ⟨kr,rfl⟩
   refine wp_skip ?_
   refine wgc [0,1,5] [] ⟨[(0,z1 p0),(1,z1 p1),(5,vI s3)],[],26⟩ ?_
   refine rn ?_
   cases h
   exact ⟨_,rfl,(wk_gc (live:=[0,1,5]) (keep:=[]) kr)⟩
  refine wcF (wg [] [] ?_)
  refine wp_exit ?_
  cases h
  exact ⟨kr,rfl⟩
 intro x12 h out hx
 subst hx
 rcases x12 with x13 | x14
 ·dsimp only at h ⊢
  cases h
  show fnOut _ _ _ _=_
  kernel_rfl
 ·dsimp only at h ⊢
  refine sq (wg [4] [] ?_)
  cases h
  exact wp_ret (show fnOut _ _ _ _=_ from by kernel_rfl)
theorem g_ref17_SameTable_ok (p0:(List (List Int))) (p1:(List (List Int))) (x:Bool) (h:g_ref17_SameTable p0 p1=some x):CallOk Try.prog 33 [z2 p0,z2 p1] (.ret (vB x) []):=by
 refine fn_ok [] Try.func33 rfl (by decide +kernel) rfl ?_
 unfold g_ref17_SameTable at h
 refine wp_eqB (base':=0) (st':=⟨[(0,z2 p0),(1,z2 p1)],[],27⟩) kr kr ?_
 refine sq (wp_seq (wp_seq (reg_in (sz 1 1 ?_))))
 refine lenL (enc:=z1) (l:=p0) (fl:=false) kr gE ?_
 refine sz 1 3 ?_
 refine lenL (enc:=z1) (l:=p1) (fl:=false) kr gE ?_
 refine sz 1 5 (reg_end rfl ?_)
 refine wbz h (fun q2 h=>?_) (fun q2 h=>?_)
 ·refine wp_seq (wg [] [] (rn ?_))
  refine wgc [4] [] ⟨[(4,vB false)],[],27⟩ ?_
  cases h
  exact wp_ret (show fnOut _ _ _ _=_ from by kernel_rfl)
 refine wp_skip (wp_seq (wp_seq (wg [0,1] [] (rn (wp_block ?_)))))
 refine wwh h (fun s3=>⟨[(0,z2 p0),(1,z2 p1),(5,vI s3)],[],27⟩) (fun x out=>out=match x with | .inl v=>.go (.ret) ⟨[(4,vB false)],[],27⟩ | .inr v=>.go (.exit 0) ⟨[],[],27⟩) (wk_gc (live:=[0,1,5]) (keep:=[]) kr) ?_ ?_
 ·intro s3 o h
  unfold g_ref17_SameTable_b0 at h
  refine wp_seq (wp_seq (reg_in (sz 2 2 ?_)))
  refine lenL (enc:=z1) (l:=p0) (fl:=false) kr gE ?_
  refine sz 1 4 (reg_end rfl ?_)
  refine wb [14] h (fun q5 h=>?_) (fun q5 h=>?_)
  ·refine wcT (wp_skip (wp_seq (wp_block (wp_seq (rga hfol (sy 2 2 ?_))))))
   refine bind_elim h (fun a6 q7 h=>?_)
   refine idxL' (enc:=z1) (l:=p0) (n:=s3) (fl:=false) (w:=1) (a:=a6) kr rfl gE q7 ?_
   refine sy 3 6 ?_
   refine bind_elim h (fun a8 q9 h=>?_)
   refine idxL' (enc:=z1) (l:=p1) (n:=s3) (fl:=false) (w:=1) (a:=a8) kr rfl gE q9 ?_
   refine sy 1 8 ?_
   refine callW bodyB_68 (g_ref02_Same_ok a6 a8) h (fun x10 _ h=>?_)
   refine sy 1 10 (rgd ?_)
   refine wbz h (fun q13 h=>?_) (fun q13 h=>?_)
   ·refine wp_seq ?_
    refine wgc [] [] ⟨[],[],27⟩ ?_
    refine rn (wg [4] [] ?_)
    refine wp_ret ?_
    cases h
    exact ⟨kr,rfl⟩
   refine wp_skip ?_
   refine wgc [0,1,5] [] ⟨[(0,z2 p0),(1,z2 p1),(5,vI s3)],[],27⟩ ?_
   refine rn ?_
   cases h
   exact ⟨_,rfl,(wk_gc (live:=[0,1,5]) (keep:=[]) kr)⟩
  refine wcF (wg [] [] ?_)
  refine wp_exit ?_
  cases h
  exact ⟨kr,rfl⟩
 intro x14 h out hx
 subst hx
 rcases x14 with x15 | x16
 ·dsimp only at h ⊢
  cases h
  show fnOut _ _ _ _=_
  kernel_rfl
 ·dsimp only at h ⊢
  refine sq (wg [4] [] ?_)
  cases h
  exact wp_ret (show fnOut _ _ _ _=_ from by kernel_rfl)
noncomputable abbrev s11_12 (x5:((List Int) × Int × Int)) (x7:((List (List Int)) × (List Int) × Int)) (x9:((List Int) × Int)):List AObj:=[oR true 1 eI x5.1,oR false 1 z1 x7.1,oR true 1 eI x7.2.1,oR true 1 eI x9.1]
theorem g_law18_wakes_ok  (x:Bool) (h:g_law18_wakes=some x):CallOk Try.prog 11 [] (.ret (vB x) []):=by
 refine fn_ok [] Try.func11 rfl (by decide +kernel) rfl ?_
 unfold g_law18_wakes at h
 refine wp_eqB (base':=0) (st':=⟨[],[],102⟩) kr kr ?_
 refine sq (wp_seq (reg_in ?_))
 refine callW bodyB_28 (g_law18_sample_ok ) h (fun x1 _ h=>?_)
 refine sgL false [] [] true gE ?_
 refine sgL false [] [] false gE ?_
 refine sz 2 5 (reg_end rfl (wp_seq (reg_in (sz 2 2 ?_))))
 refine sgL false [] [] true gE ?_
 refine callR (as0:=[.agg [vI x1.Grain,.ref 0 0 x1.First.length,.ref 1 0 x1.Step.length,.ref 2 0 x1.Show.length],.ref 3 0 2,.ref 5 0 2]) (ids:=[0,1,2,3,5]) kr bodyB_15 (msnap_cons (snap_agg (msnap_cons rfl (msnap_cons (snap_full (w:=1) (bx:=false) (ro:=false) kr) (msnap_cons (snap_full (w:=1) (bx:=false) (ro:=false) kr) (msnap_cons (snap_full (w:=1) (bx:=false) (ro:=false) kr) msnap_nil (by rfl)) (by rfl)) (by rfl)) (by rfl))) (msnap_cons (show snap _ _ _=some (_,[3]) from kr) (msnap_cons (show snap _ _ _=some (_,[5]) from kr) msnap_nil (by rfl)) (by rfl)) (by rfl)) (fun x3 q4=>g_path_Weight_ok x1 [0,1] [0,1] x3 q4) gF h (fun x3 q4 h=>?_)
 refine sz 5 9 (reg_end rfl (wp_seq ?_))
 refine wgc [1,2,3,4] [4,3,0,1,2] ⟨[(1,.ptr 0 0 0),(2,.ref 1 0 2),(3,vI x3.1),(4,vI x3.2)],[oX false false 4 (.agg [vI x1.Grain,.ref 2 0 x1.First.length,.ref 3 0 x1.Step.length,.ref 4 0 x1.Show.length]),.row false false true true 1 [vI 0,vI 1],oR true 1 eI x1.First,oR false 1 z1 x1.Step,oR false 1 z1 x1.Show],102⟩ ?_
 refine reg_in (sz 2 2 ?_)
 refine callR (as0:=[.agg [vI x1.Grain,.ref 2 0 x1.First.length,.ref 3 0 x1.Step.length,.ref 4 0 x1.Show.length],.ref 1 0 2]) (ids:=[2,3,4,1]) kr bodyB_20 (msnap_cons (snap_agg (msnap_cons rfl (msnap_cons (snap_full (w:=1) (bx:=false) (ro:=false) kr) (msnap_cons (snap_full (w:=1) (bx:=false) (ro:=false) kr) (msnap_cons (snap_full (w:=1) (bx:=false) (ro:=false) kr) msnap_nil (by rfl)) (by rfl)) (by rfl)) (by rfl))) (msnap_cons (show snap _ _ _=some (_,[1]) from kr) msnap_nil (by rfl)) (by rfl)) (fun x5 q6=>g_path_Best_ok x1 [0,1] x5 q6) gF h (fun x5 q6 h=>?_)
 refine sz 7 10 (reg_end rfl (wp_seq (wg [1,2,3,4,5,6,7] [0,1,5,2,3,4] (reg_in (sz 2 2 ?_)))))
 refine callR (as0:=[.agg [vI x1.Grain,.ref 3 0 x1.First.length,.ref 4 0 x1.Step.length,.ref 5 0 x1.Show.length],.ref 1 0 2,vI 5]) (ids:=[3,4,5,1]) kr bodyB_17 (msnap_cons (snap_agg (msnap_cons rfl (msnap_cons (snap_full (w:=1) (bx:=false) (ro:=false) kr) (msnap_cons (snap_full (w:=1) (bx:=false) (ro:=false) kr) (msnap_cons (snap_full (w:=1) (bx:=false) (ro:=false) kr) msnap_nil (by rfl)) (by rfl)) (by rfl)) (by rfl))) (msnap_cons (show snap _ _ _=some (_,[1]) from kr) (msnap_cons rfl msnap_nil (by rfl)) (by rfl)) (by rfl)) (fun x7 q8=>g_path_Most_ok x1 [0,1] 5 x7 q8) gF h (fun x7 q8 h=>?_)
 refine sz 7 10 (reg_end rfl (wp_seq ?_))
 refine wgc [1,2,3,4,5,6,7,8,9,10] [0,1,2,6,7,3,4,5] ⟨[(1,.ptr 0 0 0),(2,.ref 1 0 2),(3,vI x3.1),(4,vI x3.2),(5,.ref 2 0 x5.1.length),(6,vI x5.2.1),(7,vI x5.2.2),(8,.ref 3 0 x7.1.length),(9,.ref 4 0 x7.2.1.length),(10,vI x7.2.2)],[oX false false 4 (.agg [vI x1.Grain,.ref 5 0 x1.First.length,.ref 6 0 x1.Step.length,.ref 7 0 x1.Show.length]),.row false true true true 1 [vI 0,vI 1],oR true 1 eI x5.1,oR false 1 z1 x7.1,oR true 1 eI x7.2.1,.row false true true true 1 (List.map eI x1.First),.row false true true false 1 (List.map z1 x1.Step),.row false true true false 1 (List.map z1 x1.Show)],102⟩ ?_
 refine reg_in (sz 2 2 ?_)
 refine callR (as0:=[.agg [vI x1.Grain,.ref 5 0 x1.First.length,.ref 6 0 x1.Step.length,.ref 7 0 x1.Show.length],.ref 1 0 2]) (ids:=[5,6,7,1]) kr bodyB_23 (msnap_cons (snap_agg (msnap_cons rfl (msnap_cons (snap_full (w:=1) (bx:=false) (ro:=true) kr) (msnap_cons (snap_full (w:=1) (bx:=false) (ro:=true) kr) (msnap_cons (snap_full (w:=1) (bx:=false) (ro:=true) kr) msnap_nil (by rfl)) (by rfl)) (by rfl)) (by rfl))) (msnap_cons (show snap _ _ _=some (_,[1]) from kr) msnap_nil (by rfl)) (by rfl)) (fun x9 q10=>g_path_States_ok x1 [0,1] x9 q10) gF h (fun x9 q10 h=>?_)
 refine sz 5 8 (reg_end rfl (wp_seq (wg [1,2,3,4,5,6,7,8,9,10,11,12] [0,1,2,3,4,8,5,6,7] (reg_in (sz 2 2 ?_)))))
 refine callR (as0:=[.agg [vI x1.Grain,.ref 6 0 x1.First.length,.ref 7 0 x1.Step.length,.ref 8 0 x1.Show.length],.ref 1 0 2]) (ids:=[6,7,8,1]) kr bodyB_21 (msnap_cons (snap_agg (msnap_cons rfl (msnap_cons (snap_full (w:=1) (bx:=false) (ro:=true) kr) (msnap_cons (snap_full (w:=1) (bx:=false) (ro:=true) kr) (msnap_cons (snap_full (w:=1) (bx:=false) (ro:=true) kr) msnap_nil (by rfl)) (by rfl)) (by rfl)) (by rfl))) (msnap_cons (show snap _ _ _=some (_,[1]) from kr) msnap_nil (by rfl)) (by rfl)) (fun x11 q12=>g_path_Count_ok x1 [0,1] x11 q12) gF h (fun x11 q12 h=>?_)
 refine sz 5 8 (reg_end rfl (wp_seq ?_))
 refine wgc [3,4,5,6,7,8,9,10,11,12,13,14] [2,3,4,5] ⟨[(3,vI x3.1),(4,vI x3.2),(5,.ref 0 0 x5.1.length),(6,vI x5.2.1),(7,vI x5.2.2),(8,.ref 1 0 x7.1.length),(9,.ref 2 0 x7.2.1.length),(10,vI x7.2.2),(11,.ref 3 0 x9.1.length),(12,vI x9.2),(13,vI x11.1),(14,vI x11.2)],(s11_12 x5 x7 x9),102⟩ ?_
 refine reg_in (sz 3 3 ?_)
 refine rb [51,52] h (fun q14 h=>?_) (fun q14 h=>?_)
 ·refine sz 4 7 (rwg [3,5,6,8,9,10,11,12,13,14,56] [0,1,2,3] ?_)
  refine rb [56] h (fun q16 h=>?_) (fun q16 h=>?_)
  ·refine sz 4 11 (rwg [3,5,6,8,9,11,12,13,14,60] [0,1,2,3] ?_)
   refine rb [60] h (fun q18 h=>?_) (fun q18 h=>?_)
   ·refine sz 4 15 ?_
    refine rw_wk (wk_gc (live:=[3,5,6,8,9,11,13,14,64]) (keep:=[0,1,2,3]) (st':=⟨[(3,vI x3.1),(5,.ref 0 0 x5.1.length),(6,vI x5.2.1),(8,.ref 1 0 x7.1.length),(9,.ref 2 0 x7.2.1.length),(11,.ref 3 0 x9.1.length),(13,vI x11.1),(14,vI x11.2),(64,vB (x9.2==0))],(s11_12 x5 x7 x9),102⟩) kr) ?_
    refine rb [64] h (fun q20 h=>?_) (fun q20 h=>?_)
    ·refine sz 4 19 (rwg [3,5,6,8,9,11,13,68] [0,1,2,3] ?_)
     refine rb [68] h (fun q22 h=>?_) (fun q22 h=>?_)
     ·refine sz 4 23 (rwg [5,6,8,9,11,13,72] [0,1,2,3] ?_)
      refine rb [72] h (fun q24 h=>?_) (fun q24 h=>?_)
      ·refine sz 4 27 (rwg [5,8,9,11,13,76] [0,1,2,3] ?_)
       refine rb [76] h (fun q26 h=>?_) (fun q26 h=>?_)
       ·refine sz 1 28 ?_
        refine sgL false [] [] true gE ?_
        refine callR (as0:=[.ref 0 0 x5.1.length,.ref 4 0 2]) (ids:=[0,4]) kr bodyB_19 (msnap_cons (snap_full (w:=1) (bx:=false) (ro:=false) kr) (msnap_cons (show snap _ _ _=some (_,[4]) from kr) msnap_nil (by rfl)) (by rfl)) (fun x27 q28=>g_slices_Equal_int_int_ok x5.1 [1,1] x27 q28) gF h (fun x27 q28 h=>?_)
        refine sz 2 32 ?_
        refine rw_wk (wk_gc (live:=[8,9,11,13,81]) (keep:=[1,2,3]) (st':=⟨[(8,.ref 0 0 x7.1.length),(9,.ref 1 0 x7.2.1.length),(11,.ref 2 0 x9.1.length),(13,vI x11.1),(81,vB x27)],[oR false 1 z1 x7.1,oR true 1 eI x7.2.1,oR true 1 eI x9.1],102⟩) kr) ?_
        refine rb [81] h (fun q30 h=>?_) (fun q30 h=>?_)
        ·refine sz 1 33 ?_
         refine sgL false [] [] true gE ?_
         refine sgL (S:=⟨[(8,.ref 0 0 x7.1.length),(9,.ref 1 0 x7.2.1.length),(11,.ref 2 0 x9.1.length),(13,vI x11.1),(81,vB true),(82,.ref 0 0 x7.1.length),(83,.ref 3 0 2),(84,.ref 4 0 2)],[oR false 1 z1 x7.1,oR true 1 eI x7.2.1,oR true 1 eI x9.1,.row false false true true 1 [vI 1,vI 1],.row false false true true 1 [vI 0,vI 1]],102⟩) false [] [] true kr ?_
         refine bsR (parts:=[(0,.lst true [vI 1,vI 1]),(1,.lst true [vI 0,vI 1])]) (ids:=[3,4]) (es:=[(3,.row false true true true 1 [vI 1,vI 1]),(4,.row false true true true 1 [vI 0,vI 1]),(5,.row false false true (List.all [.lst true [vI 1,vI 1],.lst true [vI 0,vI 1]] AV.scs) 1 [.lst true [vI 1,vI 1],.lst true [vI 0,vI 1]])]) (S:=⟨[(8,.ref 0 0 x7.1.length),(9,.ref 1 0 x7.2.1.length),(11,.ref 2 0 x9.1.length),(13,vI x11.1),(81,vB true),(82,.ref 0 0 x7.1.length),(83,.ref 3 0 2),(84,.ref 4 0 2),(85,.ref 5 0 2)],[oR false 1 z1 x7.1,oR true 1 eI x7.2.1,oR true 1 eI x9.1,.row false true true true 1 [vI 1,vI 1],.row false true true true 1 [vI 0,vI 1],.row false false true false 1 [.lst true [vI 1,vI 1],.lst true [vI 0,vI 1]]],102⟩) [.lst true] false rfl (sparts_snap rfl (show snap _ _ _=some (_,[3]) from kr) (sparts_snap rfl (show snap _ _ _=some (_,[4]) from kr) sparts_nil (by rfl)) (by rfl)) kr ?_
         refine callR (as0:=[.ref 0 0 x7.1.length,.ref 5 0 2]) (ids:=[0,5]) kr bodyB_33 (msnap_cons (snap_full (w:=1) (bx:=false) (ro:=false) kr) (msnap_cons (show snap _ _ _=some (_,[5]) from kr) msnap_nil (by rfl)) (by rfl)) (fun x31 q32=>g_ref17_SameTable_ok x7.1 [[1,1],[0,1]] x31 q32) gF h (fun x31 q32 h=>?_)
         refine sz 2 39 (rwg [9,11,13,88] [1,2] ?_)
         refine rb [88] h (fun q34 h=>?_) (fun q34 h=>?_)
         ·refine sz 1 40 ?_
          refine sgL false [] [] true gE ?_
          refine callR (as0:=[.ref 0 0 x7.2.1.length,.ref 2 0 2]) (ids:=[0,2]) kr bodyB_19 (msnap_cons (snap_full (w:=1) (bx:=false) (ro:=false) kr) (msnap_cons (show snap _ _ _=some (_,[2]) from kr) msnap_nil (by rfl)) (by rfl)) (fun x35 q36=>g_slices_Equal_int_int_ok x7.2.1 [36,24] x35 q36) gF h (fun x35 q36 h=>?_)
          refine sz 2 44 (rwg [11,13,93] [1] ?_)
          refine rb [93] h (fun q38 h=>?_) (fun q38 h=>?_)
          ·refine sz 1 45 ?_
           refine sgL false [] [] true gE ?_
           refine callR (as0:=[.ref 0 0 x9.1.length,.ref 1 0 2]) (ids:=[0,1]) kr bodyB_19 (msnap_cons (snap_full (w:=1) (bx:=false) (ro:=false) kr) (msnap_cons (show snap _ _ _=some (_,[1]) from kr) msnap_nil (by rfl)) (by rfl)) (fun x39 q40=>g_slices_Equal_int_int_ok x9.1 [1,1] x39 q40) gF h (fun x39 q40 h=>?_)
           refine sz 2 49 (rwg [13,98] [] ?_)
           refine rb [98] h (fun q42 h=>?_) (fun q42 h=>?_)
           ·refine sz 4 53 (reg_end rfl ?_)
            refine wgc [0] [] ⟨[(0,vB (x11.1==2))],[],102⟩ ?_
            cases h
            exact wp_ret (show fnOut _ _ _ _=_ from by kernel_rfl)
           refine sz 4 53 (reg_end rfl ?_)
           refine wgc [0] [] ⟨[(0,vB false)],[],102⟩ ?_
           cases h
           exact wp_ret (show fnOut _ _ _ _=_ from by kernel_rfl)
          refine sz 9 53 (reg_end rfl ?_)
          refine wgc [0] [] ⟨[(0,vB false)],[],102⟩ ?_
          cases h
          exact wp_ret (show fnOut _ _ _ _=_ from by kernel_rfl)
         refine sz 14 53 (reg_end rfl ?_)
         refine wgc [0] [] ⟨[(0,vB false)],[],102⟩ ?_
         cases h
         exact wp_ret (show fnOut _ _ _ _=_ from by kernel_rfl)
        refine sz 21 53 (reg_end rfl ?_)
        refine wgc [0] [] ⟨[(0,vB false)],[],102⟩ ?_
        cases h
        exact wp_ret (show fnOut _ _ _ _=_ from by kernel_rfl)
       refine sgz 26 53 (S:=⟨[(5,.ref 0 0 x5.1.length),(8,.ref 1 0 x7.1.length),(9,.ref 2 0 x7.2.1.length),(11,.ref 3 0 x9.1.length),(13,vI x11.1),(76,vB false),(77,.tup []),(78,.tup []),(79,.tup []),(80,vB false),(81,vB false),(82,.tup []),(83,.tup []),(84,.tup []),(85,.tup []),(86,.tup []),(87,vB false),(88,vB false),(89,.tup []),(90,.tup []),(91,.tup []),(92,vB false),(93,vB false),(94,.tup []),(95,.tup []),(96,.tup []),(97,vB false),(98,vB false),(99,.tup []),(100,.tup []),(101,vB false),(0,vB false)],(s11_12 x5 x7 x9),102⟩) ?_
       refine reg_end rfl (wg [0] [] ?_)
       cases h
       exact wp_ret (show fnOut _ _ _ _=_ from by kernel_rfl)
      refine sgz 30 53 (S:=⟨[(5,.ref 0 0 x5.1.length),(6,vI x5.2.1),(8,.ref 1 0 x7.1.length),(9,.ref 2 0 x7.2.1.length),(11,.ref 3 0 x9.1.length),(13,vI x11.1),(72,vB false),(73,.tup []),(74,.tup []),(75,vB false),(76,vB false),(77,.tup []),(78,.tup []),(79,.tup []),(80,vB false),(81,vB false),(82,.tup []),(83,.tup []),(84,.tup []),(85,.tup []),(86,.tup []),(87,vB false),(88,vB false),(89,.tup []),(90,.tup []),(91,.tup []),(92,vB false),(93,vB false),(94,.tup []),(95,.tup []),(96,.tup []),(97,vB false),(98,vB false),(99,.tup []),(100,.tup []),(101,vB false),(0,vB false)],(s11_12 x5 x7 x9),102⟩) ?_
      refine reg_end rfl (wg [0] [] ?_)
      cases h
      exact wp_ret (show fnOut _ _ _ _=_ from by kernel_rfl)
     refine sgz 34 53 (S:=⟨[(3,vI x3.1),(5,.ref 0 0 x5.1.length),(6,vI x5.2.1),(8,.ref 1 0 x7.1.length),(9,.ref 2 0 x7.2.1.length),(11,.ref 3 0 x9.1.length),(13,vI x11.1),(68,vB false),(69,.tup []),(70,.tup []),(71,vB false),(72,vB false),(73,.tup []),(74,.tup []),(75,vB false),(76,vB false),(77,.tup []),(78,.tup []),(79,.tup []),(80,vB false),(81,vB false),(82,.tup []),(83,.tup []),(84,.tup []),(85,.tup []),(86,.tup []),(87,vB false),(88,vB false),(89,.tup []),(90,.tup []),(91,.tup []),(92,vB false),(93,vB false),(94,.tup []),(95,.tup []),(96,.tup []),(97,vB false),(98,vB false),(99,.tup []),(100,.tup []),(101,vB false),(0,vB false)],(s11_12 x5 x7 x9),102⟩) ?_
     refine reg_end rfl (wg [0] [] ?_)
     cases h
     exact wp_ret (show fnOut _ _ _ _=_ from by kernel_rfl)
    refine sz 38 53 (reg_end rfl ?_)
    refine wgc [0] [] ⟨[(0,vB false)],[],102⟩ ?_
    cases h
    exact wp_ret (show fnOut _ _ _ _=_ from by kernel_rfl)
   refine sgz 42 53 (S:=⟨[(3,vI x3.1),(5,.ref 0 0 x5.1.length),(6,vI x5.2.1),(8,.ref 1 0 x7.1.length),(9,.ref 2 0 x7.2.1.length),(11,.ref 3 0 x9.1.length),(12,vI x9.2),(13,vI x11.1),(14,vI x11.2),(60,vB false),(61,.tup []),(62,.tup []),(63,vB false),(64,vB false),(65,.tup []),(66,.tup []),(67,vB false),(68,vB false),(69,.tup []),(70,.tup []),(71,vB false),(72,vB false),(73,.tup []),(74,.tup []),(75,vB false),(76,vB false),(77,.tup []),(78,.tup []),(79,.tup []),(80,vB false),(81,vB false),(82,.tup []),(83,.tup []),(84,.tup []),(85,.tup []),(86,.tup []),(87,vB false),(88,vB false),(89,.tup []),(90,.tup []),(91,.tup []),(92,vB false),(93,vB false),(94,.tup []),(95,.tup []),(96,.tup []),(97,vB false),(98,vB false),(99,.tup []),(100,.tup []),(101,vB false),(0,vB false)],(s11_12 x5 x7 x9),102⟩) ?_
   refine reg_end rfl (wg [0] [] ?_)
   cases h
   exact wp_ret (show fnOut _ _ _ _=_ from by kernel_rfl)
  refine sgz 46 53 (S:=⟨[(3,vI x3.1),(5,.ref 0 0 x5.1.length),(6,vI x5.2.1),(8,.ref 1 0 x7.1.length),(9,.ref 2 0 x7.2.1.length),(10,vI x7.2.2),(11,.ref 3 0 x9.1.length),(12,vI x9.2),(13,vI x11.1),(14,vI x11.2),(56,vB false),(57,.tup []),(58,.tup []),(59,vB false),(60,vB false),(61,.tup []),(62,.tup []),(63,vB false),(64,vB false),(65,.tup []),(66,.tup []),(67,vB false),(68,vB false),(69,.tup []),(70,.tup []),(71,vB false),(72,vB false),(73,.tup []),(74,.tup []),(75,vB false),(76,vB false),(77,.tup []),(78,.tup []),(79,.tup []),(80,vB false),(81,vB false),(82,.tup []),(83,.tup []),(84,.tup []),(85,.tup []),(86,.tup []),(87,vB false),(88,vB false),(89,.tup []),(90,.tup []),(91,.tup []),(92,vB false),(93,vB false),(94,.tup []),(95,.tup []),(96,.tup []),(97,vB false),(98,vB false),(99,.tup []),(100,.tup []),(101,vB false),(0,vB false)],(s11_12 x5 x7 x9),102⟩) ?_
  refine reg_end rfl (wg [0] [] ?_)
  cases h
  exact wp_ret (show fnOut _ _ _ _=_ from by kernel_rfl)
 refine sgz 50 53 (S:=⟨[(3,vI x3.1),(4,vI x3.2),(5,.ref 0 0 x5.1.length),(6,vI x5.2.1),(7,vI x5.2.2),(8,.ref 1 0 x7.1.length),(9,.ref 2 0 x7.2.1.length),(10,vI x7.2.2),(11,.ref 3 0 x9.1.length),(12,vI x9.2),(13,vI x11.1),(14,vI x11.2)]++[(50,vI x3.2),(51,vB false),(52,vB false),(53,.tup []),(54,.tup []),(55,vB false),(56,vB false),(57,.tup []),(58,.tup []),(59,vB false),(60,vB false),(61,.tup []),(62,.tup []),(63,vB false),(64,vB false),(65,.tup []),(66,.tup []),(67,vB false),(68,vB false),(69,.tup []),(70,.tup []),(71,vB false),(72,vB false),(73,.tup []),(74,.tup []),(75,vB false),(76,vB false),(77,.tup []),(78,.tup []),(79,.tup []),(80,vB false),(81,vB false),(82,.tup []),(83,.tup []),(84,.tup []),(85,.tup []),(86,.tup []),(87,vB false),(88,vB false),(89,.tup []),(90,.tup []),(91,.tup []),(92,vB false),(93,vB false),(94,.tup []),(95,.tup []),(96,.tup []),(97,vB false),(98,vB false),(99,.tup []),(100,.tup []),(101,vB false),(0,vB false)],(s11_12 x5 x7 x9),102⟩) ?_
 refine reg_end rfl (wg [0] [] ?_)
 cases h
 exact wp_ret (show fnOut _ _ _ _=_ from by kernel_rfl)
noncomputable abbrev s8_1 (x5:Tapi_Hidden):List AObj:=[oX false false 4 (.agg [vI x5.Grain,.ref 2 0 x5.First.length,.ref 3 0 x5.Step.length,.ref 4 0 x5.Show.length]),.row false false true true 1 [vI 0,vI 1],oR true 1 eI x5.First,oR false 1 z1 x5.Step,oR false 1 z1 x5.Show]
noncomputable abbrev s8_10 (x5:Tapi_Hidden) (x11:((List Int) × Int × Int)) (x13:((List Int) × Int)):List AObj:=[oX false false 4 (.agg [vI x5.Grain,.ref 4 0 x5.First.length,.ref 5 0 x5.Step.length,.ref 6 0 x5.Show.length]),.row false true true true 1 [vI 0,vI 1],oR true 1 eI x11.1,oR true 1 eI x13.1,.row false true true true 1 (List.map eI x5.First),.row false true true false 1 (List.map z1 x5.Step),.row false true true false 1 (List.map z1 x5.Show)]
noncomputable abbrev s8_24 (x11:((List Int) × Int × Int)) (x13:((List Int) × Int)) (x31:((List (List Int)) × (List Int) × Int)):List AObj:=[oR true 1 eI x11.1,oR true 1 eI x13.1,oR false 1 z1 x31.1,oR true 1 eI x31.2.1]
noncomputable abbrev s8_25 (x7:(Int × Int)) (x9:(Int × Int)) (x11:((List Int) × Int × Int)) (x13:((List Int) × Int)) (x15:(Int × Int)) (x17:((List (List Int)) × (List Int) × Int)) (x19:((List (List Int)) × (List Int) × Int)) (x21:(Int × Int)) (x23:(Int × Int)) (x25:(Int × Int)) (x29:((List Int) × Int × Int)) (x31:((List (List Int)) × (List Int) × Int)) (x33:((List Int) × Int)) (x35:(Int × Int)) (x37:((List (List Int)) × (List Int) × Int)):List (Nat × AV):=[(3,vI x7.1),(4,vI x7.2),(5,vI x9.1),(6,vI x9.2),(7,.ref 0 0 x11.1.length),(8,vI x11.2.1),(9,vI x11.2.2),(10,.ref 1 0 x13.1.length),(11,vI x13.2),(12,vI x15.1),(13,vI x15.2),(16,vI x17.2.2),(19,vI x19.2.2),(21,vI x21.2),(23,vI x23.2),(25,vI x25.2),(29,vI x29.2.2),(30,.ref 2 0 x31.1.length),(31,.ref 3 0 x31.2.1.length),(32,vI x31.2.2),(34,vI x33.2),(35,vI x35.1),(36,vI x35.2),(39,vI x37.2.2)]
noncomputable abbrev s8_68 (x13:((List Int) × Int)) (x31:((List (List Int)) × (List Int) × Int)):List AObj:=[oR true 1 eI x13.1,oR false 1 z1 x31.1,oR true 1 eI x31.2.1]
noncomputable abbrev s8_110 (x7:(Int × Int)) (x9:(Int × Int)) (x11:((List Int) × Int × Int)) (x13:((List Int) × Int)) (x15:(Int × Int)) (x31:((List (List Int)) × (List Int) × Int)) (x35:(Int × Int)) (x39:(Int × Int)):List (Nat × AV):=[(3,vI x7.1),(4,vI x7.2),(5,vI x9.1),(6,vI x9.2),(7,.ref 0 0 x11.1.length),(8,vI x11.2.1),(9,vI x11.2.2),(10,.ref 1 0 x13.1.length),(11,vI x13.2),(12,vI x15.1),(13,vI x15.2),(30,.ref 2 0 x31.1.length),(31,.ref 3 0 x31.2.1.length),(32,vI x31.2.2),(35,vI x35.1),(36,vI x35.2),(42,vI x39.1),(43,vI x39.2),(47,vB false)]
theorem g_law18_PathKnown_ok  (x:Bool) (h:g_law18_PathKnown=some x):CallOk Try.prog 8 [] (.ret (vB x) []):=by
 refine fn_ok [] Try.func8 rfl (by decide +kernel) rfl ?_
 unfold g_law18_PathKnown at h
 refine wp_eqB (base':=0) (st':=⟨[],[],313⟩) kr kr ?_
 refine sq (wp_seq (wp_seq (reg_in ?_)))
 refine callW bodyB_11 (g_law18_wakes_ok ) h (fun x1 _ h=>?_)
 refine sz 1 2 (reg_end rfl ?_)
 refine wb [49] h (fun q4 h=>?_) (fun q4 h=>?_)
 ·refine wcT (sq (wg [0] [] ?_))
  cases h
  exact wp_ret (show fnOut _ _ _ _=_ from by kernel_rfl)
 refine wcF (wp_skip (wp_seq (reg_in ?_)))
 refine callW bodyB_28 (g_law18_sample_ok ) h (fun x5 _ h=>?_)
 refine sgL false [] [] true gE ?_
 refine sgL false [] [] false gE ?_
 refine sz 2 5 (reg_end rfl (wp_seq ?_))
 refine wgc [1,2] [4,3,0,1,2] ⟨[(1,.ptr 0 0 0),(2,.ref 1 0 2)],(s8_1 x5),313⟩ ?_
 refine reg_in (sz 2 2 ?_)
 refine sgL false [] [] true gE ?_
 refine callR (as0:=[.agg [vI x5.Grain,.ref 2 0 x5.First.length,.ref 3 0 x5.Step.length,.ref 4 0 x5.Show.length],.ref 1 0 2,.ref 5 0 2]) (ids:=[2,3,4,1,5]) kr bodyB_15 (msnap_cons (snap_agg (msnap_cons rfl (msnap_cons (snap_full (w:=1) (bx:=false) (ro:=false) kr) (msnap_cons (snap_full (w:=1) (bx:=false) (ro:=false) kr) (msnap_cons (snap_full (w:=1) (bx:=false) (ro:=false) kr) msnap_nil (by rfl)) (by rfl)) (by rfl)) (by rfl))) (msnap_cons (show snap _ _ _=some (_,[1]) from kr) (msnap_cons (show snap _ _ _=some (_,[5]) from kr) msnap_nil (by rfl)) (by rfl)) (by rfl)) (fun x7 q8=>g_path_Weight_ok x5 [0,1] [1,1] x7 q8) gF h (fun x7 q8 h=>?_)
 refine sz 5 9 (reg_end rfl (wp_seq (wg [1,2,3,4] [0,1,2,3,4] (reg_in (sz 2 2 ?_)))))
 refine sgL false [] [] true gE ?_
 refine callR (as0:=[.agg [vI x5.Grain,.ref 2 0 x5.First.length,.ref 3 0 x5.Step.length,.ref 4 0 x5.Show.length],.ref 1 0 2,.ref 5 0 2]) (ids:=[2,3,4,1,5]) kr bodyB_15 (msnap_cons (snap_agg (msnap_cons rfl (msnap_cons (snap_full (w:=1) (bx:=false) (ro:=false) kr) (msnap_cons (snap_full (w:=1) (bx:=false) (ro:=false) kr) (msnap_cons (snap_full (w:=1) (bx:=false) (ro:=false) kr) msnap_nil (by rfl)) (by rfl)) (by rfl)) (by rfl))) (msnap_cons (show snap _ _ _=some (_,[1]) from kr) (msnap_cons (show snap _ _ _=some (_,[5]) from kr) msnap_nil (by rfl)) (by rfl)) (by rfl)) (fun x9 q10=>g_path_Weight_ok x5 [0,1] [0,0] x9 q10) gF h (fun x9 q10 h=>?_)
 refine sz 5 9 (reg_end rfl (wp_seq ?_))
 refine wgc [1,2,3,4,5,6] [0,1,2,3,4] ⟨[(1,.ptr 0 0 0),(2,.ref 1 0 2),(3,vI x7.1),(4,vI x7.2),(5,vI x9.1),(6,vI x9.2)],(s8_1 x5),313⟩ ?_
 refine reg_in (sz 1 1 ?_)
 refine sgL false [] [] true gE ?_
 refine callR (as0:=[.agg [vI x5.Grain,.ref 2 0 x5.First.length,.ref 3 0 x5.Step.length,.ref 4 0 x5.Show.length],.ref 5 0 1]) (ids:=[2,3,4,5]) kr bodyB_20 (msnap_cons (snap_agg (msnap_cons rfl (msnap_cons (snap_full (w:=1) (bx:=false) (ro:=false) kr) (msnap_cons (snap_full (w:=1) (bx:=false) (ro:=false) kr) (msnap_cons (snap_full (w:=1) (bx:=false) (ro:=false) kr) msnap_nil (by rfl)) (by rfl)) (by rfl)) (by rfl))) (msnap_cons (show snap _ _ _=some (_,[5]) from kr) msnap_nil (by rfl)) (by rfl)) (fun x11 q12=>g_path_Best_ok x5 [0] x11 q12) gF h (fun x11 q12 h=>?_)
 refine sz 7 10 (reg_end rfl (wp_seq (wg [1,2,3,4,5,6,7,8,9] [0,1,6,2,3,4] (reg_in (sz 1 1 ?_)))))
 refine sgL false [] [] true gE ?_
 refine callR (as0:=[.agg [vI x5.Grain,.ref 3 0 x5.First.length,.ref 4 0 x5.Step.length,.ref 5 0 x5.Show.length],.ref 6 0 1]) (ids:=[3,4,5,6]) kr bodyB_23 (msnap_cons (snap_agg (msnap_cons rfl (msnap_cons (snap_full (w:=1) (bx:=false) (ro:=false) kr) (msnap_cons (snap_full (w:=1) (bx:=false) (ro:=false) kr) (msnap_cons (snap_full (w:=1) (bx:=false) (ro:=false) kr) msnap_nil (by rfl)) (by rfl)) (by rfl)) (by rfl))) (msnap_cons (show snap _ _ _=some (_,[6]) from kr) msnap_nil (by rfl)) (by rfl)) (fun x13 q14=>g_path_States_ok x5 [0] x13 q14) gF h (fun x13 q14 h=>?_)
 refine sz 5 8 (reg_end rfl (wp_seq ?_))
 refine wgc [1,2,3,4,5,6,7,8,9,10,11] [0,1,2,7,3,4,5] ⟨[(1,.ptr 0 0 0),(2,.ref 1 0 2),(3,vI x7.1),(4,vI x7.2),(5,vI x9.1),(6,vI x9.2),(7,.ref 2 0 x11.1.length),(8,vI x11.2.1),(9,vI x11.2.2),(10,.ref 3 0 x13.1.length),(11,vI x13.2)],[oX false false 4 (.agg [vI x5.Grain,.ref 4 0 x5.First.length,.ref 5 0 x5.Step.length,.ref 6 0 x5.Show.length]),.row false false true true 1 [vI 0,vI 1],oR true 1 eI x11.1,oR true 1 eI x13.1,oR true 1 eI x5.First,oR false 1 z1 x5.Step,oR false 1 z1 x5.Show],313⟩ ?_
 refine reg_in (sz 1 1 ?_)
 refine sgL false [] [] true gE ?_
 refine callR (as0:=[.agg [vI x5.Grain,.ref 4 0 x5.First.length,.ref 5 0 x5.Step.length,.ref 6 0 x5.Show.length],.ref 7 0 2]) (ids:=[4,5,6,7]) kr bodyB_21 (msnap_cons (snap_agg (msnap_cons rfl (msnap_cons (snap_full (w:=1) (bx:=false) (ro:=false) kr) (msnap_cons (snap_full (w:=1) (bx:=false) (ro:=false) kr) (msnap_cons (snap_full (w:=1) (bx:=false) (ro:=false) kr) msnap_nil (by rfl)) (by rfl)) (by rfl)) (by rfl))) (msnap_cons (show snap _ _ _=some (_,[7]) from kr) msnap_nil (by rfl)) (by rfl)) (fun x15 q16=>g_path_Count_ok x5 [-1,-1] x15 q16) gF h (fun x15 q16 h=>?_)
 refine sz 5 8 (reg_end rfl (wp_seq (wg [1,2,3,4,5,6,7,8,9,10,11,12,13] [0,1,2,3,4,5,6] (reg_in (sz 2 2 ?_)))))
 refine callR (as0:=[.agg [vI x5.Grain,.ref 4 0 x5.First.length,.ref 5 0 x5.Step.length,.ref 6 0 x5.Show.length],.ref 1 0 2,vI 0]) (ids:=[4,5,6,1]) kr bodyB_17 (msnap_cons (snap_agg (msnap_cons rfl (msnap_cons (snap_full (w:=1) (bx:=false) (ro:=false) kr) (msnap_cons (snap_full (w:=1) (bx:=false) (ro:=false) kr) (msnap_cons (snap_full (w:=1) (bx:=false) (ro:=false) kr) msnap_nil (by rfl)) (by rfl)) (by rfl)) (by rfl))) (msnap_cons (show snap _ _ _=some (_,[1]) from kr) (msnap_cons rfl msnap_nil (by rfl)) (by rfl)) (by rfl)) (fun x17 q18=>g_path_Most_ok x5 [0,1] 0 x17 q18) gF h (fun x17 q18 h=>?_)
 refine sz 7 10 (reg_end rfl (wp_seq ?_))
 refine wgc [1,2,3,4,5,6,7,8,9,10,11,12,13,16] [0,1,2,3,4,5,6] ⟨[(1,.ptr 0 0 0),(2,.ref 1 0 2),(3,vI x7.1),(4,vI x7.2),(5,vI x9.1),(6,vI x9.2),(7,.ref 2 0 x11.1.length),(8,vI x11.2.1),(9,vI x11.2.2),(10,.ref 3 0 x13.1.length),(11,vI x13.2),(12,vI x15.1),(13,vI x15.2),(16,vI x17.2.2)],(s8_10 x5 x11 x13),313⟩ ?_
 refine reg_in (sz 2 2 ?_)
 refine callR (as0:=[.agg [vI x5.Grain,.ref 4 0 x5.First.length,.ref 5 0 x5.Step.length,.ref 6 0 x5.Show.length],.ref 1 0 2,vI 21]) (ids:=[4,5,6,1]) kr bodyB_17 (msnap_cons (snap_agg (msnap_cons rfl (msnap_cons (snap_full (w:=1) (bx:=false) (ro:=true) kr) (msnap_cons (snap_full (w:=1) (bx:=false) (ro:=true) kr) (msnap_cons (snap_full (w:=1) (bx:=false) (ro:=true) kr) msnap_nil (by rfl)) (by rfl)) (by rfl)) (by rfl))) (msnap_cons (show snap _ _ _=some (_,[1]) from kr) (msnap_cons rfl msnap_nil (by rfl)) (by rfl)) (by rfl)) (fun x19 q20=>g_path_Most_ok x5 [0,1] 21 x19 q20) gF h (fun x19 q20 h=>?_)
 refine sz 7 10 (reg_end rfl (wp_seq (wg [1,2,3,4,5,6,7,8,9,10,11,12,13,16,19] [0,1,2,3,4,5,6] (reg_in (sz 2 2 ?_)))))
 refine sgL false [] [] true gE ?_
 refine callR (as0:=[.agg [vI x5.Grain,.ref 4 0 x5.First.length,.ref 5 0 x5.Step.length,.ref 6 0 x5.Show.length],.ref 1 0 2,.ref 7 0 1]) (ids:=[4,5,6,1,7]) kr bodyB_15 (msnap_cons (snap_agg (msnap_cons rfl (msnap_cons (snap_full (w:=1) (bx:=false) (ro:=true) kr) (msnap_cons (snap_full (w:=1) (bx:=false) (ro:=true) kr) (msnap_cons (snap_full (w:=1) (bx:=false) (ro:=true) kr) msnap_nil (by rfl)) (by rfl)) (by rfl)) (by rfl))) (msnap_cons (show snap _ _ _=some (_,[1]) from kr) (msnap_cons (show snap _ _ _=some (_,[7]) from kr) msnap_nil (by rfl)) (by rfl)) (by rfl)) (fun x21 q22=>g_path_Weight_ok x5 [0,1] [0] x21 q22) gF h (fun x21 q22 h=>?_)
 refine sz 5 9 (reg_end rfl (wp_seq ?_))
 refine wgc [1,2,3,4,5,6,7,8,9,10,11,12,13,16,19,21] [0,1,2,3,4,5,6] ⟨[(1,.ptr 0 0 0),(2,.ref 1 0 2),(3,vI x7.1),(4,vI x7.2),(5,vI x9.1),(6,vI x9.2),(7,.ref 2 0 x11.1.length),(8,vI x11.2.1),(9,vI x11.2.2),(10,.ref 3 0 x13.1.length),(11,vI x13.2),(12,vI x15.1),(13,vI x15.2),(16,vI x17.2.2),(19,vI x19.2.2),(21,vI x21.2)],(s8_10 x5 x11 x13),313⟩ ?_
 refine reg_in (sz 2 2 ?_)
 refine sgL false [] [] true gE ?_
 refine callR (as0:=[.agg [vI x5.Grain,.ref 4 0 x5.First.length,.ref 5 0 x5.Step.length,.ref 6 0 x5.Show.length],.ref 1 0 2,.ref 7 0 2]) (ids:=[4,5,6,1,7]) kr bodyB_15 (msnap_cons (snap_agg (msnap_cons rfl (msnap_cons (snap_full (w:=1) (bx:=false) (ro:=true) kr) (msnap_cons (snap_full (w:=1) (bx:=false) (ro:=true) kr) (msnap_cons (snap_full (w:=1) (bx:=false) (ro:=true) kr) msnap_nil (by rfl)) (by rfl)) (by rfl)) (by rfl))) (msnap_cons (show snap _ _ _=some (_,[1]) from kr) (msnap_cons (show snap _ _ _=some (_,[7]) from kr) msnap_nil (by rfl)) (by rfl)) (by rfl)) (fun x23 q24=>g_path_Weight_ok x5 [0,1] [0,2] x23 q24) gF h (fun x23 q24 h=>?_)
 refine sz 5 9 (reg_end rfl (wp_seq (wg [1,3,4,5,6,7,8,9,10,11,12,13,16,19,21,23] [0,2,3,4,5,6] (reg_in (sz 1 1 ?_)))))
 refine callR (as0:=[.agg [vI x5.Grain,.ref 3 0 x5.First.length,.ref 4 0 x5.Step.length,.ref 5 0 x5.Show.length],.nils,.nils]) (us:=[.agg [vI x5.Grain,z1 x5.First,z2 x5.Step,z2 x5.Show],.nils,.nils]) (ids:=[3,4,5]) kr bodyB_15 (msnap_cons (snap_agg (msnap_cons rfl (msnap_cons (snap_full (w:=1) (bx:=false) (ro:=true) kr) (msnap_cons (snap_full (w:=1) (bx:=false) (ro:=true) kr) (msnap_cons (snap_full (w:=1) (bx:=false) (ro:=true) kr) msnap_nil (by rfl)) (by rfl)) (by rfl)) (by rfl))) (msnap_cons rfl (msnap_cons rfl msnap_nil (by rfl)) (by rfl)) (by rfl)) (fun x25 q26=>CallOk.args [[.keep,.keep,.keep,.keep],[.lst true],[.lst true]] (g_path_Weight_ok x5 [] [] x25 q26)) gF h (fun x25 q26 h=>?_)
 refine sz 5 7 (reg_end rfl (wp_seq ?_))
 refine wgc [3,4,5,6,7,8,9,10,11,12,13,16,19,21,23,25] [1,2] ⟨[(3,vI x7.1),(4,vI x7.2),(5,vI x9.1),(6,vI x9.2),(7,.ref 0 0 x11.1.length),(8,vI x11.2.1),(9,vI x11.2.2),(10,.ref 1 0 x13.1.length),(11,vI x13.2),(12,vI x15.1),(13,vI x15.2),(16,vI x17.2.2),(19,vI x19.2.2),(21,vI x21.2),(23,vI x23.2),(25,vI x25.2)],[oR true 1 eI x11.1,oR true 1 eI x13.1],313⟩ ?_
 refine reg_in ?_
 refine callW bodyB_28 (g_law18_sample_ok ) h (fun x27 _ h=>?_)
 refine sgL false [] [] false gE ?_
 refine sz 1 3 (reg_end rfl (wp_seq (reg_in ?_)))
 refine sgL false [] [] true gE ?_
 refine sz 2 3 (reg_end rfl (wp_seq (reg_in (sz 1 1 ?_))))
 refine sgL false [] [] true gE ?_
 refine callR (as0:=[.agg [vI x27.Grain,.ref 6 0 2,.ref 3 0 x27.Step.length,.ref 4 0 x27.Show.length],.ref 7 0 1]) (ids:=[6,3,4,7]) kr bodyB_20 (msnap_cons (snap_agg (msnap_cons rfl (msnap_cons (show snap _ _ _=some (_,[6]) from kr) (msnap_cons (snap_full (w:=1) (bx:=false) (ro:=false) kr) (msnap_cons (snap_full (w:=1) (bx:=false) (ro:=false) kr) msnap_nil (by rfl)) (by rfl)) (by rfl)) (by rfl))) (msnap_cons (show snap _ _ _=some (_,[7]) from kr) msnap_nil (by rfl)) (by rfl)) (fun x29 q30=>g_path_Best_ok (Tapi_Hidden.mk x27.Grain [4,0] x27.Step x27.Show) [1] x29 q30) gF h (fun x29 q30 h=>?_)
 refine sz 7 10 (reg_end rfl (wp_seq ?_))
 refine wgc [3,4,5,6,7,8,9,10,11,12,13,16,19,21,23,25,26,29] [0,1,5,6,3,4] ⟨[(3,vI x7.1),(4,vI x7.2),(5,vI x9.1),(6,vI x9.2),(7,.ref 0 0 x11.1.length),(8,vI x11.2.1),(9,vI x11.2.2),(10,.ref 1 0 x13.1.length),(11,vI x13.2),(12,vI x15.1),(13,vI x15.2),(16,vI x17.2.2),(19,vI x19.2.2),(21,vI x21.2),(23,vI x23.2),(25,vI x25.2),(26,.ptr 2 0 0),(29,vI x29.2.2)],[oR true 1 eI x11.1,oR true 1 eI x13.1,oX false false 4 (.agg [vI x27.Grain,.ref 3 0 2,.ref 4 0 x27.Step.length,.ref 5 0 x27.Show.length]),.row false false true true 1 [vI 4,vI 0],oR false 1 z1 x27.Step,oR false 1 z1 x27.Show],313⟩ ?_
 refine reg_in (sz 1 1 ?_)
 refine sgL false [] [] true gE ?_
 refine callR (as0:=[.agg [vI x27.Grain,.ref 3 0 2,.ref 4 0 x27.Step.length,.ref 5 0 x27.Show.length],.ref 6 0 1,vI 20]) (ids:=[3,4,5,6]) kr bodyB_17 (msnap_cons (snap_agg (msnap_cons rfl (msnap_cons (show snap _ _ _=some (_,[3]) from kr) (msnap_cons (snap_full (w:=1) (bx:=false) (ro:=false) kr) (msnap_cons (snap_full (w:=1) (bx:=false) (ro:=false) kr) msnap_nil (by rfl)) (by rfl)) (by rfl)) (by rfl))) (msnap_cons (show snap _ _ _=some (_,[6]) from kr) (msnap_cons rfl msnap_nil (by rfl)) (by rfl)) (by rfl)) (fun x31 q32=>g_path_Most_ok (Tapi_Hidden.mk x27.Grain [4,0] x27.Step x27.Show) [1] 20 x31 q32) gF h (fun x31 q32 h=>?_)
 refine sz 7 10 (reg_end rfl (wp_seq (wg [3,4,5,6,7,8,9,10,11,12,13,16,19,21,23,25,26,29,30,31,32] [0,1,2,7,8,3,4,5] (reg_in (sz 1 1 ?_)))))
 refine sgL false [] [] true gE ?_
 refine callR (as0:=[.agg [vI x27.Grain,.ref 5 0 2,.ref 6 0 x27.Step.length,.ref 7 0 x27.Show.length],.ref 8 0 1]) (ids:=[5,6,7,8]) kr bodyB_23 (msnap_cons (snap_agg (msnap_cons rfl (msnap_cons (show snap _ _ _=some (_,[5]) from kr) (msnap_cons (snap_full (w:=1) (bx:=false) (ro:=true) kr) (msnap_cons (snap_full (w:=1) (bx:=false) (ro:=true) kr) msnap_nil (by rfl)) (by rfl)) (by rfl)) (by rfl))) (msnap_cons (show snap _ _ _=some (_,[8]) from kr) msnap_nil (by rfl)) (by rfl)) (fun x33 q34=>g_path_States_ok (Tapi_Hidden.mk x27.Grain [4,0] x27.Step x27.Show) [1] x33 q34) gF h (fun x33 q34 h=>?_)
 refine sz 5 8 (reg_end rfl (wp_seq ?_))
 refine wgc [3,4,5,6,7,8,9,10,11,12,13,16,19,21,23,25,26,29,30,31,32,34] [0,1,2,3,4,5,6,7] ⟨[(3,vI x7.1),(4,vI x7.2),(5,vI x9.1),(6,vI x9.2),(7,.ref 0 0 x11.1.length),(8,vI x11.2.1),(9,vI x11.2.2),(10,.ref 1 0 x13.1.length),(11,vI x13.2),(12,vI x15.1),(13,vI x15.2),(16,vI x17.2.2),(19,vI x19.2.2),(21,vI x21.2),(23,vI x23.2),(25,vI x25.2),(26,.ptr 2 0 0),(29,vI x29.2.2),(30,.ref 3 0 x31.1.length),(31,.ref 4 0 x31.2.1.length),(32,vI x31.2.2),(34,vI x33.2)],[oR true 1 eI x11.1,oR true 1 eI x13.1,oX false false 4 (.agg [vI x27.Grain,.ref 5 0 2,.ref 6 0 x27.Step.length,.ref 7 0 x27.Show.length]),oR false 1 z1 x31.1,oR true 1 eI x31.2.1,.row false true true true 1 [vI 4,vI 0],.row false true true false 1 (List.map z1 x27.Step),.row false true true false 1 (List.map z1 x27.Show)],313⟩ ?_
 refine reg_in (sz 1 1 ?_)
 refine sgL false [] [] true gE ?_
 refine callR (as0:=[.agg [vI x27.Grain,.ref 5 0 2,.ref 6 0 x27.Step.length,.ref 7 0 x27.Show.length],.ref 8 0 1]) (ids:=[5,6,7,8]) kr bodyB_21 (msnap_cons (snap_agg (msnap_cons rfl (msnap_cons (show snap _ _ _=some (_,[5]) from kr) (msnap_cons (snap_full (w:=1) (bx:=false) (ro:=true) kr) (msnap_cons (snap_full (w:=1) (bx:=false) (ro:=true) kr) msnap_nil (by rfl)) (by rfl)) (by rfl)) (by rfl))) (msnap_cons (show snap _ _ _=some (_,[8]) from kr) msnap_nil (by rfl)) (by rfl)) (fun x35 q36=>g_path_Count_ok (Tapi_Hidden.mk x27.Grain [4,0] x27.Step x27.Show) [1] x35 q36) gF h (fun x35 q36 h=>?_)
 refine sz 5 8 (reg_end rfl (wp_seq (wg [3,4,5,6,7,8,9,10,11,12,13,16,19,21,23,25,29,30,31,32,34,35,36] [0,1,3,4] (reg_in (sz 1 1 ?_)))))
 refine callR (as0:=[.agg [vI 0,.nils,.nils,.nils],.nils,vI 0]) (us:=[.agg [vI 0,.nils,.nils,.nils],.nils,vI 0]) (ids:=[]) kr bodyB_17 (msnap_cons (snap_agg (msnap_cons rfl (msnap_cons rfl (msnap_cons rfl (msnap_cons rfl msnap_nil))))) (msnap_cons rfl (msnap_cons rfl msnap_nil))) (fun x37 q38=>CallOk.args [[.keep,.lst true,.lst false,.lst false],[.lst true],[.keep]] (g_path_Most_ok (Tapi_Hidden.mk 0 [] [] []) [] 0 x37 q38)) gF h (fun x37 q38 h=>?_)
 refine sz 7 9 (reg_end rfl (wp_seq ?_))
 refine wgc [3,4,5,6,7,8,9,10,11,12,13,16,19,21,23,25,29,30,31,32,34,35,36,39] [0,1,2,3] ⟨(s8_25 x7 x9 x11 x13 x15 x17 x19 x21 x23 x25 x29 x31 x33 x35 x37),(s8_24 x11 x13 x31),313⟩ ?_
 refine reg_in ?_
 refine sgL false [] [] true gE ?_
 refine sz 1 2 (reg_end rfl (wp_seq (reg_in ?_)))
 refine sgz 5 5 (S:=⟨(s8_25 x7 x9 x11 x13 x15 x17 x19 x21 x23 x25 x29 x31 x33 x35 x37)++[(153,.ref 4 0 4),(40,.ref 4 0 4),(154,.ref 4 0 4),(155,.ref 4 0 4),(156,.ref 4 0 4),(157,.ref 4 0 4),(158,.ref 4 0 4)],[oR true 1 eI x11.1,oR true 1 eI x13.1,oR false 1 z1 x31.1,oR true 1 eI x31.2.1,.row false false true true 1 [vI 3,vI 3,vI 3,vI 3]],313⟩) ?_
 refine bsR (parts:=[(0,.lst true [vI 3,vI 3,vI 3,vI 3]),(1,.lst true [vI 3,vI 3,vI 3,vI 3]),(2,.lst true [vI 3,vI 3,vI 3,vI 3]),(3,.lst true [vI 3,vI 3,vI 3,vI 3])]) (ids:=[4,4,4,4]) (es:=[(4,.row false true true true 1 [vI 3,vI 3,vI 3,vI 3]),(4,.row false true true true 1 [vI 3,vI 3,vI 3,vI 3]),(4,.row false true true true 1 [vI 3,vI 3,vI 3,vI 3]),(4,.row false true true true 1 [vI 3,vI 3,vI 3,vI 3]),(5,.row false false true (List.all [.lst true [vI 3,vI 3,vI 3,vI 3],.lst true [vI 3,vI 3,vI 3,vI 3],.lst true [vI 3,vI 3,vI 3,vI 3],.lst true [vI 3,vI 3,vI 3,vI 3]] AV.scs) 1 [.lst true [vI 3,vI 3,vI 3,vI 3],.lst true [vI 3,vI 3,vI 3,vI 3],.lst true [vI 3,vI 3,vI 3,vI 3],.lst true [vI 3,vI 3,vI 3,vI 3]])]) (S:=⟨(s8_25 x7 x9 x11 x13 x15 x17 x19 x21 x23 x25 x29 x31 x33 x35 x37)++[(153,.ref 4 0 4),(40,.ref 4 0 4),(154,.ref 4 0 4),(155,.ref 4 0 4),(156,.ref 4 0 4),(157,.ref 4 0 4),(158,.ref 4 0 4),(159,.ref 5 0 4)],[oR true 1 eI x11.1,oR true 1 eI x13.1,oR false 1 z1 x31.1,oR true 1 eI x31.2.1,.row false true true true 1 [vI 3,vI 3,vI 3,vI 3],.row false false true false 1 [.lst true [vI 3,vI 3,vI 3,vI 3],.lst true [vI 3,vI 3,vI 3,vI 3],.lst true [vI 3,vI 3,vI 3,vI 3],.lst true [vI 3,vI 3,vI 3,vI 3]]],313⟩) [.lst true] false rfl (sparts_snap rfl (show snap _ _ _=some (_,[4]) from kr) (sparts_snap rfl (show snap _ _ _=some (_,[4]) from kr) (sparts_snap rfl (show snap _ _ _=some (_,[4]) from kr) (sparts_snap rfl (show snap _ _ _=some (_,[4]) from kr) sparts_nil (by rfl)) (by rfl)) (by rfl)) (by rfl)) kr ?_
 refine sgL false [] [] true gE ?_
 refine sgL false [] [] true gE ?_
 refine sgL false [] [] true gE ?_
 refine sgL (S:=⟨(s8_25 x7 x9 x11 x13 x15 x17 x19 x21 x23 x25 x29 x31 x33 x35 x37)++[(153,.ref 4 0 4),(40,.ref 4 0 4),(154,.ref 4 0 4),(155,.ref 4 0 4),(156,.ref 4 0 4),(157,.ref 4 0 4),(158,.ref 4 0 4),(159,.ref 5 0 4),(160,.ref 6 0 1),(161,.ref 7 0 1),(162,.ref 8 0 1),(163,.ref 9 0 1)],[oR true 1 eI x11.1,oR true 1 eI x13.1,oR false 1 z1 x31.1,oR true 1 eI x31.2.1,.row false true true true 1 [vI 3,vI 3,vI 3,vI 3],.row false false true false 1 [.lst true [vI 3,vI 3,vI 3,vI 3],.lst true [vI 3,vI 3,vI 3,vI 3],.lst true [vI 3,vI 3,vI 3,vI 3],.lst true [vI 3,vI 3,vI 3,vI 3]],.row false false true true 1 [vI 12],.row false false true true 1 [vI 12],.row false false true true 1 [vI 12],.row false false true true 1 [vI 12]],313⟩) false [] [] true kr ?_
 refine bsR (parts:=[(0,.lst true [vI 12]),(1,.lst true [vI 12]),(2,.lst true [vI 12]),(3,.lst true [vI 12])]) (ids:=[6,7,8,9]) (es:=[(6,.row false true true true 1 [vI 12]),(7,.row false true true true 1 [vI 12]),(8,.row false true true true 1 [vI 12]),(9,.row false true true true 1 [vI 12]),(10,.row false false true (List.all [.lst true [vI 12],.lst true [vI 12],.lst true [vI 12],.lst true [vI 12]] AV.scs) 1 [.lst true [vI 12],.lst true [vI 12],.lst true [vI 12],.lst true [vI 12]])]) (S:=⟨(s8_25 x7 x9 x11 x13 x15 x17 x19 x21 x23 x25 x29 x31 x33 x35 x37)++[(153,.ref 4 0 4),(40,.ref 4 0 4),(154,.ref 4 0 4),(155,.ref 4 0 4),(156,.ref 4 0 4),(157,.ref 4 0 4),(158,.ref 4 0 4),(159,.ref 5 0 4),(160,.ref 6 0 1),(161,.ref 7 0 1),(162,.ref 8 0 1),(163,.ref 9 0 1),(164,.ref 10 0 4)],[oR true 1 eI x11.1,oR true 1 eI x13.1,oR false 1 z1 x31.1,oR true 1 eI x31.2.1,.row false true true true 1 [vI 3,vI 3,vI 3,vI 3],.row false false true false 1 [.lst true [vI 3,vI 3,vI 3,vI 3],.lst true [vI 3,vI 3,vI 3,vI 3],.lst true [vI 3,vI 3,vI 3,vI 3],.lst true [vI 3,vI 3,vI 3,vI 3]],.row false true true true 1 [vI 12],.row false true true true 1 [vI 12],.row false true true true 1 [vI 12],.row false true true true 1 [vI 12],.row false false true false 1 [.lst true [vI 12],.lst true [vI 12],.lst true [vI 12],.lst true [vI 12]]],313⟩) [.lst true] false rfl (sparts_snap rfl (show snap _ _ _=some (_,[6]) from kr) (sparts_snap rfl (show snap _ _ _=some (_,[7]) from kr) (sparts_snap rfl (show snap _ _ _=some (_,[8]) from kr) (sparts_snap rfl (show snap _ _ _=some (_,[9]) from kr) sparts_nil (by rfl)) (by rfl)) (by rfl)) (by rfl)) kr ?_
 refine sz 1 12 ?_
 refine sgL false [] [] false gE ?_
 refine sz 1 14 (reg_end rfl (wp_seq (wg [3,4,5,6,7,8,9,10,11,12,13,16,19,21,23,25,29,30,31,32,34,35,36,39,41] [0,1,2,3,11,4,5,10] (rga hfol (sy 1 1 ?_)))))
 refine mkL (enc:=eI) (z:=(0:Int)) (z0:=vI 0) (n:=8) (m:=8) (w:=1) (bytes:=8) [] true kr rfl gE kr h (fun h=>?_)
 refine callR (as0:=[.agg [vI 12,.ref 5 0 4,.ref 6 0 4,.ref 7 0 4],.ref 8 0 ((List.replicate (zt 8) (0:Int)).length)]) (ids:=[5,6,7,8]) kr bodyB_21 (msnap_cons (snap_agg (msnap_cons rfl (msnap_cons (show snap _ _ _=some (_,[5]) from kr) (msnap_cons (show snap _ _ _=some (_,[6]) from kr) (msnap_cons (show snap _ _ _=some (_,[7]) from kr) msnap_nil (by rfl)) (by rfl)) (by rfl)) (by rfl))) (msnap_cons (snap_full (w:=1) (bx:=false) (ro:=false) kr) msnap_nil (by rfl)) (by rfl)) (fun x39 q40=>g_path_Count_ok (Tapi_Hidden.mk 12 [3,3,3,3] [[3,3,3,3],[3,3,3,3],[3,3,3,3],[3,3,3,3]] [[12],[12],[12],[12]]) (List.replicate (zt 8) (0:Int)) x39 q40) gF h (fun x39 q40 h=>?_)
 refine sy 5 8 (rgd (wp_seq (wg [3,4,5,6,7,8,9,10,11,12,13,16,19,21,23,25,29,30,31,32,34,35,36,39,41,42,43] [0,1,2,3,4,5,6,7] (rga hfol (sy 1 1 ?_)))))
 refine mkL (enc:=eI) (z:=(0:Int)) (z0:=vI 0) (n:=8) (m:=8) (w:=1) (bytes:=8) [] true kr rfl gE kr h (fun h=>?_)
 refine callR (as0:=[.agg [vI 12,.ref 5 0 4,.ref 6 0 4,.ref 7 0 4],.ref 8 0 ((List.replicate (zt 8) (0:Int)).length),vI 20]) (ids:=[5,6,7,8]) kr bodyB_17 (msnap_cons (snap_agg (msnap_cons rfl (msnap_cons (show snap _ _ _=some (_,[5]) from kr) (msnap_cons (show snap _ _ _=some (_,[6]) from kr) (msnap_cons (show snap _ _ _=some (_,[7]) from kr) msnap_nil (by rfl)) (by rfl)) (by rfl)) (by rfl))) (msnap_cons (snap_full (w:=1) (bx:=false) (ro:=false) kr) (msnap_cons rfl msnap_nil (by rfl)) (by rfl)) (by rfl)) (fun x41 q42=>CallOk.froz (g_path_Most_ok (Tapi_Hidden.mk 12 [3,3,3,3] [[3,3,3,3],[3,3,3,3],[3,3,3,3],[3,3,3,3]] [[12],[12],[12],[12]]) (List.replicate (zt 8) (0:Int)) 20 x41 q42) (snap_tup (msnap_cons (snap_full (w:=1) (bx:=false) (ro:=false) rfl) (msnap_cons (snap_full (w:=1) (bx:=false) (ro:=false) rfl) (msnap_cons rfl msnap_nil (by rfl)) (by rfl)) (by rfl)))) gF h (fun x41 q42 h=>?_)
 refine sy 7 10 (rgd (wp_seq (wp_seq ?_)))
 refine wgc [3,4,5,6,7,8,9,10,11,12,13,16,19,21,23,25,29,30,31,32,34,35,36,39,42,43,44,45,46] [0,1,2,3] ⟨[(3,vI x7.1),(4,vI x7.2),(5,vI x9.1),(6,vI x9.2),(7,.ref 0 0 x11.1.length),(8,vI x11.2.1),(9,vI x11.2.2),(10,.ref 1 0 x13.1.length),(11,vI x13.2),(12,vI x15.1),(13,vI x15.2),(16,vI x17.2.2),(19,vI x19.2.2),(21,vI x21.2),(23,vI x23.2),(25,vI x25.2),(29,vI x29.2.2),(30,.ref 2 0 x31.1.length),(31,.ref 3 0 x31.2.1.length),(32,vI x31.2.2),(34,vI x33.2),(35,vI x35.1),(36,vI x35.2),(39,vI x37.2.2),(42,vI x39.1),(43,vI x39.2),(44,z2 x41.1),(45,z1 x41.2.1),(46,vI x41.2.2)],(s8_24 x11 x13 x31),313⟩ ?_
 refine rga hfol (sy 3 3 ?_)
 refine rb [180,181] h (fun q44 h=>?_) (fun q44 h=>?_)
 ·refine sy 26 29 (rgd (wcT (wp_seq ?_)))
  refine wgc [] [] ⟨[],[],313⟩ ?_
  refine rn (wg [0] [] ?_)
  cases h
  exact wp_ret (show fnOut _ _ _ _=_ from by kernel_rfl)
 refine sy 1 4 ?_
 refine lenL (enc:=z1) (l:=x41.1) (fl:=false) kr gE ?_
 refine sy 3 8 ?_
 refine rb [184,185,186] h (fun q46 h=>?_) (fun q46 h=>?_)
 ·refine sy 21 29 (rgd (wcT (wp_seq ?_)))
  refine wgc [] [] ⟨[],[],313⟩ ?_
  refine rn (wg [0] [] ?_)
  cases h
  exact wp_ret (show fnOut _ _ _ _=_ from by kernel_rfl)
 refine sy 1 9 ?_
 refine lenL (enc:=eI) (l:=x41.2.1) (fl:=true) kr gE ?_
 refine sy 3 13 ?_
 refine rb [189,190,191] h (fun q48 h=>?_) (fun q48 h=>?_)
 ·refine sy 16 29 (rgd (wcT (wp_seq ?_)))
  refine wgc [] [] ⟨[],[],313⟩ ?_
  refine rn (wg [0] [] ?_)
  cases h
  exact wp_ret (show fnOut _ _ _ _=_ from by kernel_rfl)
 refine sy 1 14 ?_
 refine bind_elim h (fun a49 q50 h=>?_)
 refine idxL' (enc:=z1) (l:=x41.1) (n:=19) (fl:=false) (w:=1) (a:=a49) kr rfl gE q50 ?_
 refine sy 1 16 ?_
 refine sgL false [] [] true gE ?_
 refine callR (as0:=[z1 a49,.ref 4 0 8]) (ids:=[4]) kr bodyB_19 (msnap_cons rfl (msnap_cons (show snap _ _ _=some (_,[4]) from kr) msnap_nil (by rfl)) (by rfl)) (fun x51 q52=>g_slices_Equal_int_int_ok a49 [0,0,0,0,0,1,0,3] x51 q52) gF h (fun x51 q52 h=>?_)
 refine sy 3 21 ?_
 refine rb [197,198,199] h (fun q54 h=>?_) (fun q54 h=>?_)
 ·refine sy 8 29 (rgd (wcT (wp_seq ?_)))
  refine wgc [] [] ⟨[],[],313⟩ ?_
  refine rn (wg [0] [] ?_)
  cases h
  exact wp_ret (show fnOut _ _ _ _=_ from by kernel_rfl)
 refine sy 1 22 ?_
 refine bind_elim h (fun a55 q56 h=>?_)
 refine idxL' (enc:=eI) (l:=x41.2.1) (n:=0) (fl:=true) (w:=1) (a:=a55) kr rfl gE q56 ?_
 refine sy 2 25 ?_
 refine bind_elim h (fun a57 q58 h=>?_)
 refine idxL' (enc:=eI) (l:=x41.2.1) (n:=19) (fl:=true) (w:=1) (a:=a57) kr rfl gE q58 ?_
 refine sy 3 29 (rgd ?_)
 refine wbz h (fun q60 h=>?_) (fun q60 h=>?_)
 ·refine wp_seq ?_
  refine wgc [] [] ⟨[],[],313⟩ ?_
  refine rn (wg [0] [] ?_)
  cases h
  exact wp_ret (show fnOut _ _ _ _=_ from by kernel_rfl)
 refine wp_skip (wp_seq ?_)
 refine wgc [3,4,5,6,7,8,9,10,11,12,13,16,19,21,23,25,29,30,31,32,34,35,36,39,42,43] [0,1,2,3] ⟨[(3,vI x7.1),(4,vI x7.2),(5,vI x9.1),(6,vI x9.2),(7,.ref 0 0 x11.1.length),(8,vI x11.2.1),(9,vI x11.2.2),(10,.ref 1 0 x13.1.length),(11,vI x13.2),(12,vI x15.1),(13,vI x15.2),(16,vI x17.2.2),(19,vI x19.2.2),(21,vI x21.2),(23,vI x23.2),(25,vI x25.2),(29,vI x29.2.2),(30,.ref 2 0 x31.1.length),(31,.ref 3 0 x31.2.1.length),(32,vI x31.2.2),(34,vI x33.2),(35,vI x35.1),(36,vI x35.2),(39,vI x37.2.2),(42,vI x39.1),(43,vI x39.2)],(s8_24 x11 x13 x31),313⟩ ?_
 refine reg_in (sz 3 3 ?_)
 refine rb [209,210] h (fun q62 h=>?_) (fun q62 h=>?_)
 ·refine sz 4 7 (rwg [3,4,5,6,7,8,9,10,11,12,13,21,23,25,29,30,31,32,34,35,36,39,42,43,214] [0,1,2,3] ?_)
  refine rb [214] h (fun q64 h=>?_) (fun q64 h=>?_)
  ·refine sz 4 11 (rwg [3,4,5,6,7,8,9,10,11,12,13,23,25,29,30,31,32,34,35,36,39,42,43,218] [0,1,2,3] ?_)
   refine rb [218] h (fun q66 h=>?_) (fun q66 h=>?_)
   ·refine sz 4 15 ?_
    refine rw_wk (wk_gc (live:=[3,4,5,6,7,8,9,10,11,12,13,25,29,30,31,32,34,35,36,39,42,43,222]) (keep:=[0,1,2,3]) (st':=⟨[(3,vI x7.1),(4,vI x7.2),(5,vI x9.1),(6,vI x9.2),(7,.ref 0 0 x11.1.length),(8,vI x11.2.1),(9,vI x11.2.2),(10,.ref 1 0 x13.1.length),(11,vI x13.2),(12,vI x15.1),(13,vI x15.2),(25,vI x25.2),(29,vI x29.2.2),(30,.ref 2 0 x31.1.length),(31,.ref 3 0 x31.2.1.length),(32,vI x31.2.2),(34,vI x33.2),(35,vI x35.1),(36,vI x35.2),(39,vI x37.2.2),(42,vI x39.1),(43,vI x39.2),(222,vB (x23.2==2))],(s8_24 x11 x13 x31),313⟩) kr) ?_
    refine rb [222] h (fun q68 h=>?_) (fun q68 h=>?_)
    ·refine sz 4 19 (rwg [3,4,5,6,7,8,9,10,11,12,13,29,30,31,32,34,35,36,39,42,43,226] [0,1,2,3] ?_)
     refine rb [226] h (fun q70 h=>?_) (fun q70 h=>?_)
     ·refine sz 4 23 (rwg [3,4,5,6,7,8,9,10,11,12,13,30,31,32,34,35,36,39,42,43,230] [0,1,2,3] ?_)
      refine rb [230] h (fun q72 h=>?_) (fun q72 h=>?_)
      ·refine sz 4 27 (rwg [3,4,5,6,7,8,9,10,11,12,13,30,31,32,35,36,39,42,43,234] [0,1,2,3] ?_)
       refine rb [234] h (fun q74 h=>?_) (fun q74 h=>?_)
       ·refine sz 4 31 (reg_end rfl (wp_seq ?_))
        refine wgc [3,4,5,6,7,8,9,10,11,12,13,30,31,32,35,36,42,43,47] [0,1,2,3] ⟨[(3,vI x7.1),(4,vI x7.2),(5,vI x9.1),(6,vI x9.2),(7,.ref 0 0 x11.1.length),(8,vI x11.2.1),(9,vI x11.2.2),(10,.ref 1 0 x13.1.length),(11,vI x13.2),(12,vI x15.1),(13,vI x15.2),(30,.ref 2 0 x31.1.length),(31,.ref 3 0 x31.2.1.length),(32,vI x31.2.2),(35,vI x35.1),(36,vI x35.2),(42,vI x39.1),(43,vI x39.2),(47,vB (x37.2.2==170))],(s8_24 x11 x13 x31),313⟩ ?_
        refine reg_in (sz 2 2 ?_)
        refine rb [47,238,239] h (fun q76 h=>?_) (fun q76 h=>?_)
        ·refine sz 4 6 (rwg [3,5,6,7,8,9,10,11,12,13,30,31,32,35,36,42,43,243] [0,1,2,3] ?_)
         refine rb [243] h (fun q78 h=>?_) (fun q78 h=>?_)
         ·refine sz 4 10 (rwg [5,6,7,8,9,10,11,12,13,30,31,32,35,36,42,43,247] [0,1,2,3] ?_)
          refine rb [247] h (fun q80 h=>?_) (fun q80 h=>?_)
          ·refine sz 4 14 ?_
           refine rw_wk (wk_gc (live:=[5,7,8,9,10,11,12,13,30,31,32,35,36,42,43,251]) (keep:=[0,1,2,3]) (st':=⟨[(5,vI x9.1),(7,.ref 0 0 x11.1.length),(8,vI x11.2.1),(9,vI x11.2.2),(10,.ref 1 0 x13.1.length),(11,vI x13.2),(12,vI x15.1),(13,vI x15.2),(30,.ref 2 0 x31.1.length),(31,.ref 3 0 x31.2.1.length),(32,vI x31.2.2),(35,vI x35.1),(36,vI x35.2),(42,vI x39.1),(43,vI x39.2),(251,vB (x9.2==0))],(s8_24 x11 x13 x31),313⟩) kr) ?_
           refine rb [251] h (fun q82 h=>?_) (fun q82 h=>?_)
           ·refine sz 4 18 (rwg [7,8,9,10,11,12,13,30,31,32,35,36,42,43,255] [0,1,2,3] ?_)
            refine rb [255] h (fun q84 h=>?_) (fun q84 h=>?_)
            ·refine sz 4 22 (rwg [7,8,10,11,12,13,30,31,32,35,36,42,43,259] [0,1,2,3] ?_)
             refine rb [259] h (fun q86 h=>?_) (fun q86 h=>?_)
             ·refine sz 1 23 ?_
              refine sgL false [] [] true gE ?_
              refine callR (as0:=[.ref 0 0 x11.1.length,.ref 4 0 1]) (ids:=[0,4]) kr bodyB_19 (msnap_cons (snap_full (w:=1) (bx:=false) (ro:=false) kr) (msnap_cons (show snap _ _ _=some (_,[4]) from kr) msnap_nil (by rfl)) (by rfl)) (fun x87 q88=>g_slices_Equal_int_int_ok x11.1 [0] x87 q88) gF h (fun x87 q88 h=>?_)
              refine sz 2 27 (rwg [8,10,11,12,13,30,31,32,35,36,42,43,264] [1,2,3] ?_)
              refine rb [264] h (fun q90 h=>?_) (fun q90 h=>?_)
              ·refine sz 4 31 ?_
               refine rw_wk (wk_gc (live:=[10,11,12,13,30,31,32,35,36,42,43,268]) (keep:=[0,1,2]) (st':=⟨[(10,.ref 0 0 x13.1.length),(11,vI x13.2),(12,vI x15.1),(13,vI x15.2),(30,.ref 1 0 x31.1.length),(31,.ref 2 0 x31.2.1.length),(32,vI x31.2.2),(35,vI x35.1),(36,vI x35.2),(42,vI x39.1),(43,vI x39.2),(268,vB (x11.2.1==4))],(s8_68 x13 x31),313⟩) kr) ?_
               refine rb [268] h (fun q92 h=>?_) (fun q92 h=>?_)
               ·refine sz 4 35 (rwg [10,12,13,30,31,32,35,36,42,43,272] [0,1,2] ?_)
                refine rb [272] h (fun q94 h=>?_) (fun q94 h=>?_)
                ·refine sz 1 36 ?_
                 refine sgL false [] [] true gE ?_
                 refine callR (as0:=[.ref 0 0 x13.1.length,.ref 3 0 1]) (ids:=[0,3]) kr bodyB_19 (msnap_cons (snap_full (w:=1) (bx:=false) (ro:=false) kr) (msnap_cons (show snap _ _ _=some (_,[3]) from kr) msnap_nil (by rfl)) (by rfl)) (fun x95 q96=>g_slices_Equal_int_int_ok x13.1 [0] x95 q96) gF h (fun x95 q96 h=>?_)
                 refine sz 2 40 (rwg [12,13,30,31,32,35,36,42,43,277] [1,2] ?_)
                 refine rb [277] h (fun q98 h=>?_) (fun q98 h=>?_)
                 ·refine sz 4 44 (rwg [12,30,31,32,35,36,42,43,281] [0,1] ?_)
                  refine rb [281] h (fun q100 h=>?_) (fun q100 h=>?_)
                  ·refine sz 4 48 ?_
                   refine rw_wk (wk_gc (live:=[30,31,32,35,36,42,43,285]) (keep:=[0,1]) (st':=⟨[(30,.ref 0 0 x31.1.length),(31,.ref 1 0 x31.2.1.length),(32,vI x31.2.2),(35,vI x35.1),(36,vI x35.2),(42,vI x39.1),(43,vI x39.2),(285,vB (x15.1==3))],[oR false 1 z1 x31.1,oR true 1 eI x31.2.1],313⟩) kr) ?_
                   refine rb [285] h (fun q102 h=>?_) (fun q102 h=>?_)
                   ·refine sz 4 52 (rwg [30,31,35,36,42,43,289] [0,1] ?_)
                    refine rb [289] h (fun q104 h=>?_) (fun q104 h=>?_)
                    ·refine sz 8 60 (rwg [35,36,42,43,297] [] ?_)
                     refine rb [297] h (fun q106 h=>?_) (fun q106 h=>?_)
                     ·refine sz 4 64 ?_
                      refine rw_wk (wk_gc (live:=[35,42,43,301]) (keep:=[]) (st':=⟨[(35,vI x35.1),(42,vI x39.1),(43,vI x39.2),(301,vB (x35.2==0))],[],313⟩) kr) ?_
                      refine rb [301] h (fun q108 h=>?_) (fun q108 h=>?_)
                      ·refine sz 4 68 (rwg [42,43,305] [] ?_)
                       refine rb [305] h (fun q110 h=>?_) (fun q110 h=>?_)
                       ·refine sz 4 72 (rwg [42,309] [] ?_)
                        refine rb [309] h (fun q112 h=>?_) (fun q112 h=>?_)
                        ·refine sz 4 76 (reg_end rfl (wg [0] [] ?_))
                         cases h
                         exact wp_ret (show fnOut _ _ _ _=_ from by kernel_rfl)
                        refine sz 4 76 (reg_end rfl (wg [0] [] ?_))
                        cases h
                        exact wp_ret (show fnOut _ _ _ _=_ from by kernel_rfl)
                       refine sz 8 76 (reg_end rfl (wg [0] [] ?_))
                       cases h
                       exact wp_ret (show fnOut _ _ _ _=_ from by kernel_rfl)
                      refine sz 12 76 (reg_end rfl (wg [0] [] ?_))
                      cases h
                      exact wp_ret (show fnOut _ _ _ _=_ from by kernel_rfl)
                     refine sz 16 76 (reg_end rfl ?_)
                     refine wgc [0] [] ⟨[(0,vB false)],[],313⟩ ?_
                     cases h
                     exact wp_ret (show fnOut _ _ _ _=_ from by kernel_rfl)
                    refine sz 24 76 (reg_end rfl ?_)
                    refine wgc [0] [] ⟨[(0,vB false)],[],313⟩ ?_
                    cases h
                    exact wp_ret (show fnOut _ _ _ _=_ from by kernel_rfl)
                   refine sz 28 76 (reg_end rfl ?_)
                   refine wgc [0] [] ⟨[(0,vB false)],[],313⟩ ?_
                   cases h
                   exact wp_ret (show fnOut _ _ _ _=_ from by kernel_rfl)
                  refine sgz 32 76 (S:=⟨[(12,vI x15.1),(30,.ref 0 0 x31.1.length),(31,.ref 1 0 x31.2.1.length),(32,vI x31.2.2),(35,vI x35.1),(36,vI x35.2),(42,vI x39.1),(43,vI x39.2),(281,vB false),(282,.tup []),(283,.tup []),(284,vB false),(285,vB false),(286,.tup []),(287,.tup []),(288,vB false),(289,vB false),(290,.tup []),(291,.tup []),(292,.tup []),(293,.tup []),(294,.tup []),(295,.tup []),(296,vB false),(297,vB false),(298,.tup []),(299,.tup []),(300,vB false),(301,vB false),(302,.tup []),(303,.tup []),(304,vB false),(305,vB false),(306,.tup []),(307,.tup []),(308,vB false),(309,vB false),(310,.tup []),(311,.tup []),(312,vB false),(0,vB false)],[oR false 1 z1 x31.1,oR true 1 eI x31.2.1],313⟩) ?_
                  refine reg_end rfl (wg [0] [] ?_)
                  cases h
                  exact wp_ret (show fnOut _ _ _ _=_ from by kernel_rfl)
                 refine sgz 36 76 (S:=⟨[(12,vI x15.1),(13,vI x15.2),(30,.ref 0 0 x31.1.length),(31,.ref 1 0 x31.2.1.length),(32,vI x31.2.2),(35,vI x35.1),(36,vI x35.2),(42,vI x39.1),(43,vI x39.2),(277,vB false),(278,.tup []),(279,.tup []),(280,vB false),(281,vB false),(282,.tup []),(283,.tup []),(284,vB false),(285,vB false),(286,.tup []),(287,.tup []),(288,vB false),(289,vB false),(290,.tup []),(291,.tup []),(292,.tup []),(293,.tup []),(294,.tup []),(295,.tup []),(296,vB false),(297,vB false),(298,.tup []),(299,.tup []),(300,vB false),(301,vB false),(302,.tup []),(303,.tup []),(304,vB false),(305,vB false),(306,.tup []),(307,.tup []),(308,vB false),(309,vB false),(310,.tup []),(311,.tup []),(312,vB false),(0,vB false)],[oR false 1 z1 x31.1,oR true 1 eI x31.2.1],313⟩) ?_
                 refine reg_end rfl (wg [0] [] ?_)
                 cases h
                 exact wp_ret (show fnOut _ _ _ _=_ from by kernel_rfl)
                refine sgz 41 76 (S:=⟨[(10,.ref 0 0 x13.1.length),(12,vI x15.1),(13,vI x15.2),(30,.ref 1 0 x31.1.length),(31,.ref 2 0 x31.2.1.length),(32,vI x31.2.2),(35,vI x35.1),(36,vI x35.2),(42,vI x39.1),(43,vI x39.2),(272,vB false),(273,.tup []),(274,.tup []),(275,.tup []),(276,vB false),(277,vB false),(278,.tup []),(279,.tup []),(280,vB false),(281,vB false),(282,.tup []),(283,.tup []),(284,vB false),(285,vB false),(286,.tup []),(287,.tup []),(288,vB false),(289,vB false),(290,.tup []),(291,.tup []),(292,.tup []),(293,.tup []),(294,.tup []),(295,.tup []),(296,vB false),(297,vB false),(298,.tup []),(299,.tup []),(300,vB false),(301,vB false),(302,.tup []),(303,.tup []),(304,vB false),(305,vB false),(306,.tup []),(307,.tup []),(308,vB false),(309,vB false),(310,.tup []),(311,.tup []),(312,vB false),(0,vB false)],(s8_68 x13 x31),313⟩) ?_
                refine reg_end rfl (wg [0] [] ?_)
                cases h
                exact wp_ret (show fnOut _ _ _ _=_ from by kernel_rfl)
               refine sgz 45 76 (S:=⟨[(10,.ref 0 0 x13.1.length),(11,vI x13.2),(12,vI x15.1),(13,vI x15.2),(30,.ref 1 0 x31.1.length),(31,.ref 2 0 x31.2.1.length),(32,vI x31.2.2),(35,vI x35.1),(36,vI x35.2),(42,vI x39.1),(43,vI x39.2),(268,vB false),(269,.tup []),(270,.tup []),(271,vB false),(272,vB false),(273,.tup []),(274,.tup []),(275,.tup []),(276,vB false),(277,vB false),(278,.tup []),(279,.tup []),(280,vB false),(281,vB false),(282,.tup []),(283,.tup []),(284,vB false),(285,vB false),(286,.tup []),(287,.tup []),(288,vB false),(289,vB false),(290,.tup []),(291,.tup []),(292,.tup []),(293,.tup []),(294,.tup []),(295,.tup []),(296,vB false),(297,vB false),(298,.tup []),(299,.tup []),(300,vB false),(301,vB false),(302,.tup []),(303,.tup []),(304,vB false),(305,vB false),(306,.tup []),(307,.tup []),(308,vB false),(309,vB false),(310,.tup []),(311,.tup []),(312,vB false),(0,vB false)],(s8_68 x13 x31),313⟩) ?_
               refine reg_end rfl (wg [0] [] ?_)
               cases h
               exact wp_ret (show fnOut _ _ _ _=_ from by kernel_rfl)
              refine sgz 49 76 (S:=⟨[(8,vI x11.2.1),(10,.ref 0 0 x13.1.length),(11,vI x13.2),(12,vI x15.1),(13,vI x15.2),(30,.ref 1 0 x31.1.length),(31,.ref 2 0 x31.2.1.length),(32,vI x31.2.2),(35,vI x35.1),(36,vI x35.2),(42,vI x39.1),(43,vI x39.2),(264,vB false),(265,.tup []),(266,.tup []),(267,vB false),(268,vB false),(269,.tup []),(270,.tup []),(271,vB false),(272,vB false),(273,.tup []),(274,.tup []),(275,.tup []),(276,vB false),(277,vB false),(278,.tup []),(279,.tup []),(280,vB false),(281,vB false),(282,.tup []),(283,.tup []),(284,vB false),(285,vB false),(286,.tup []),(287,.tup []),(288,vB false),(289,vB false),(290,.tup []),(291,.tup []),(292,.tup []),(293,.tup []),(294,.tup []),(295,.tup []),(296,vB false),(297,vB false),(298,.tup []),(299,.tup []),(300,vB false),(301,vB false),(302,.tup []),(303,.tup []),(304,vB false),(305,vB false),(306,.tup []),(307,.tup []),(308,vB false),(309,vB false),(310,.tup []),(311,.tup []),(312,vB false),(0,vB false)],(s8_68 x13 x31),313⟩) ?_
              refine reg_end rfl (wg [0] [] ?_)
              cases h
              exact wp_ret (show fnOut _ _ _ _=_ from by kernel_rfl)
             refine sgz 54 76 (S:=⟨[(7,.ref 0 0 x11.1.length),(8,vI x11.2.1),(10,.ref 1 0 x13.1.length),(11,vI x13.2),(12,vI x15.1),(13,vI x15.2),(30,.ref 2 0 x31.1.length),(31,.ref 3 0 x31.2.1.length),(32,vI x31.2.2),(35,vI x35.1),(36,vI x35.2),(42,vI x39.1),(43,vI x39.2),(259,vB false),(260,.tup []),(261,.tup []),(262,.tup []),(263,vB false),(264,vB false),(265,.tup []),(266,.tup []),(267,vB false),(268,vB false),(269,.tup []),(270,.tup []),(271,vB false),(272,vB false),(273,.tup []),(274,.tup []),(275,.tup []),(276,vB false),(277,vB false),(278,.tup []),(279,.tup []),(280,vB false),(281,vB false),(282,.tup []),(283,.tup []),(284,vB false),(285,vB false),(286,.tup []),(287,.tup []),(288,vB false),(289,vB false),(290,.tup []),(291,.tup []),(292,.tup []),(293,.tup []),(294,.tup []),(295,.tup []),(296,vB false),(297,vB false),(298,.tup []),(299,.tup []),(300,vB false),(301,vB false),(302,.tup []),(303,.tup []),(304,vB false),(305,vB false),(306,.tup []),(307,.tup []),(308,vB false),(309,vB false),(310,.tup []),(311,.tup []),(312,vB false),(0,vB false)],(s8_24 x11 x13 x31),313⟩) ?_
             refine reg_end rfl (wg [0] [] ?_)
             cases h
             exact wp_ret (show fnOut _ _ _ _=_ from by kernel_rfl)
            refine sgz 58 76 (S:=⟨[(7,.ref 0 0 x11.1.length),(8,vI x11.2.1),(9,vI x11.2.2),(10,.ref 1 0 x13.1.length),(11,vI x13.2),(12,vI x15.1),(13,vI x15.2),(30,.ref 2 0 x31.1.length),(31,.ref 3 0 x31.2.1.length),(32,vI x31.2.2),(35,vI x35.1),(36,vI x35.2),(42,vI x39.1),(43,vI x39.2),(255,vB false),(256,.tup []),(257,.tup []),(258,vB false),(259,vB false),(260,.tup []),(261,.tup []),(262,.tup []),(263,vB false),(264,vB false),(265,.tup []),(266,.tup []),(267,vB false),(268,vB false),(269,.tup []),(270,.tup []),(271,vB false),(272,vB false),(273,.tup []),(274,.tup []),(275,.tup []),(276,vB false),(277,vB false),(278,.tup []),(279,.tup []),(280,vB false),(281,vB false),(282,.tup []),(283,.tup []),(284,vB false),(285,vB false),(286,.tup []),(287,.tup []),(288,vB false),(289,vB false),(290,.tup []),(291,.tup []),(292,.tup []),(293,.tup []),(294,.tup []),(295,.tup []),(296,vB false),(297,vB false),(298,.tup []),(299,.tup []),(300,vB false),(301,vB false),(302,.tup []),(303,.tup []),(304,vB false),(305,vB false),(306,.tup []),(307,.tup []),(308,vB false),(309,vB false),(310,.tup []),(311,.tup []),(312,vB false),(0,vB false)],(s8_24 x11 x13 x31),313⟩) ?_
            refine reg_end rfl (wg [0] [] ?_)
            cases h
            exact wp_ret (show fnOut _ _ _ _=_ from by kernel_rfl)
           refine sgz 62 76 (S:=⟨[(5,vI x9.1),(7,.ref 0 0 x11.1.length),(8,vI x11.2.1),(9,vI x11.2.2),(10,.ref 1 0 x13.1.length),(11,vI x13.2),(12,vI x15.1),(13,vI x15.2),(30,.ref 2 0 x31.1.length),(31,.ref 3 0 x31.2.1.length),(32,vI x31.2.2),(35,vI x35.1),(36,vI x35.2),(42,vI x39.1),(43,vI x39.2),(251,vB false),(252,.tup []),(253,.tup []),(254,vB false),(255,vB false),(256,.tup []),(257,.tup []),(258,vB false),(259,vB false),(260,.tup []),(261,.tup []),(262,.tup []),(263,vB false),(264,vB false),(265,.tup []),(266,.tup []),(267,vB false),(268,vB false),(269,.tup []),(270,.tup []),(271,vB false),(272,vB false),(273,.tup []),(274,.tup []),(275,.tup []),(276,vB false),(277,vB false),(278,.tup []),(279,.tup []),(280,vB false),(281,vB false),(282,.tup []),(283,.tup []),(284,vB false),(285,vB false),(286,.tup []),(287,.tup []),(288,vB false),(289,vB false),(290,.tup []),(291,.tup []),(292,.tup []),(293,.tup []),(294,.tup []),(295,.tup []),(296,vB false),(297,vB false),(298,.tup []),(299,.tup []),(300,vB false),(301,vB false),(302,.tup []),(303,.tup []),(304,vB false),(305,vB false),(306,.tup []),(307,.tup []),(308,vB false),(309,vB false),(310,.tup []),(311,.tup []),(312,vB false),(0,vB false)],(s8_24 x11 x13 x31),313⟩) ?_
           refine reg_end rfl (wg [0] [] ?_)
           cases h
           exact wp_ret (show fnOut _ _ _ _=_ from by kernel_rfl)
          refine sgz 66 76 (S:=⟨[(5,vI x9.1),(6,vI x9.2),(7,.ref 0 0 x11.1.length),(8,vI x11.2.1),(9,vI x11.2.2),(10,.ref 1 0 x13.1.length),(11,vI x13.2),(12,vI x15.1),(13,vI x15.2),(30,.ref 2 0 x31.1.length),(31,.ref 3 0 x31.2.1.length),(32,vI x31.2.2),(35,vI x35.1),(36,vI x35.2),(42,vI x39.1),(43,vI x39.2),(247,vB false),(248,.tup []),(249,.tup []),(250,vB false),(251,vB false),(252,.tup []),(253,.tup []),(254,vB false),(255,vB false),(256,.tup []),(257,.tup []),(258,vB false),(259,vB false),(260,.tup []),(261,.tup []),(262,.tup []),(263,vB false),(264,vB false),(265,.tup []),(266,.tup []),(267,vB false),(268,vB false),(269,.tup []),(270,.tup []),(271,vB false),(272,vB false),(273,.tup []),(274,.tup []),(275,.tup []),(276,vB false),(277,vB false),(278,.tup []),(279,.tup []),(280,vB false),(281,vB false),(282,.tup []),(283,.tup []),(284,vB false),(285,vB false),(286,.tup []),(287,.tup []),(288,vB false),(289,vB false),(290,.tup []),(291,.tup []),(292,.tup []),(293,.tup []),(294,.tup []),(295,.tup []),(296,vB false),(297,vB false),(298,.tup []),(299,.tup []),(300,vB false),(301,vB false),(302,.tup []),(303,.tup []),(304,vB false),(305,vB false),(306,.tup []),(307,.tup []),(308,vB false),(309,vB false),(310,.tup []),(311,.tup []),(312,vB false),(0,vB false)],(s8_24 x11 x13 x31),313⟩) ?_
          refine reg_end rfl (wg [0] [] ?_)
          cases h
          exact wp_ret (show fnOut _ _ _ _=_ from by kernel_rfl)
         refine sgz 70 76 (S:=⟨[(3,vI x7.1),(5,vI x9.1),(6,vI x9.2),(7,.ref 0 0 x11.1.length),(8,vI x11.2.1),(9,vI x11.2.2),(10,.ref 1 0 x13.1.length),(11,vI x13.2),(12,vI x15.1),(13,vI x15.2),(30,.ref 2 0 x31.1.length),(31,.ref 3 0 x31.2.1.length),(32,vI x31.2.2),(35,vI x35.1),(36,vI x35.2),(42,vI x39.1),(43,vI x39.2),(243,vB false),(244,.tup []),(245,.tup []),(246,vB false),(247,vB false),(248,.tup []),(249,.tup []),(250,vB false),(251,vB false),(252,.tup []),(253,.tup []),(254,vB false),(255,vB false),(256,.tup []),(257,.tup []),(258,vB false),(259,vB false),(260,.tup []),(261,.tup []),(262,.tup []),(263,vB false),(264,vB false),(265,.tup []),(266,.tup []),(267,vB false),(268,vB false),(269,.tup []),(270,.tup []),(271,vB false),(272,vB false),(273,.tup []),(274,.tup []),(275,.tup []),(276,vB false),(277,vB false),(278,.tup []),(279,.tup []),(280,vB false),(281,vB false),(282,.tup []),(283,.tup []),(284,vB false),(285,vB false),(286,.tup []),(287,.tup []),(288,vB false),(289,vB false),(290,.tup []),(291,.tup []),(292,.tup []),(293,.tup []),(294,.tup []),(295,.tup []),(296,vB false),(297,vB false),(298,.tup []),(299,.tup []),(300,vB false),(301,vB false),(302,.tup []),(303,.tup []),(304,vB false),(305,vB false),(306,.tup []),(307,.tup []),(308,vB false),(309,vB false),(310,.tup []),(311,.tup []),(312,vB false),(0,vB false)],(s8_24 x11 x13 x31),313⟩) ?_
         refine reg_end rfl (wg [0] [] ?_)
         cases h
         exact wp_ret (show fnOut _ _ _ _=_ from by kernel_rfl)
        refine sgz 74 76 (S:=⟨[(3,vI x7.1),(4,vI x7.2),(5,vI x9.1),(6,vI x9.2),(7,.ref 0 0 x11.1.length),(8,vI x11.2.1),(9,vI x11.2.2),(10,.ref 1 0 x13.1.length),(11,vI x13.2),(12,vI x15.1),(13,vI x15.2),(30,.ref 2 0 x31.1.length),(31,.ref 3 0 x31.2.1.length),(32,vI x31.2.2),(35,vI x35.1),(36,vI x35.2),(42,vI x39.1),(43,vI x39.2),(47,vB false),(238,vB false),(239,vB false),(240,.tup []),(241,.tup []),(242,vB false),(243,vB false),(244,.tup []),(245,.tup []),(246,vB false),(247,vB false),(248,.tup []),(249,.tup []),(250,vB false),(251,vB false),(252,.tup []),(253,.tup []),(254,vB false),(255,vB false),(256,.tup []),(257,.tup []),(258,vB false),(259,vB false),(260,.tup []),(261,.tup []),(262,.tup []),(263,vB false),(264,vB false),(265,.tup []),(266,.tup []),(267,vB false),(268,vB false),(269,.tup []),(270,.tup []),(271,vB false),(272,vB false),(273,.tup []),(274,.tup []),(275,.tup []),(276,vB false),(277,vB false),(278,.tup []),(279,.tup []),(280,vB false),(281,vB false),(282,.tup []),(283,.tup []),(284,vB false),(285,vB false),(286,.tup []),(287,.tup []),(288,vB false),(289,vB false),(290,.tup []),(291,.tup []),(292,.tup []),(293,.tup []),(294,.tup []),(295,.tup []),(296,vB false),(297,vB false),(298,.tup []),(299,.tup []),(300,vB false),(301,vB false),(302,.tup []),(303,.tup []),(304,vB false),(305,vB false),(306,.tup []),(307,.tup []),(308,vB false),(309,vB false),(310,.tup []),(311,.tup []),(312,vB false),(0,vB false)],(s8_24 x11 x13 x31),313⟩) ?_
        refine reg_end rfl (wg [0] [] ?_)
        cases h
        exact wp_ret (show fnOut _ _ _ _=_ from by kernel_rfl)
       refine sz 4 31 (reg_end rfl (wp_seq ?_))
       refine wgc [3,4,5,6,7,8,9,10,11,12,13,30,31,32,35,36,42,43,47] [0,1,2,3] ⟨(s8_110 x7 x9 x11 x13 x15 x31 x35 x39),(s8_24 x11 x13 x31),313⟩ ?_
       refine rn (wg [0] [] ?_)
       cases h
       exact wp_ret (show fnOut _ _ _ _=_ from by kernel_rfl)
      refine sz 8 31 (reg_end rfl (wp_seq ?_))
      refine wgc [3,4,5,6,7,8,9,10,11,12,13,30,31,32,35,36,42,43,47] [0,1,2,3] ⟨(s8_110 x7 x9 x11 x13 x15 x31 x35 x39),(s8_24 x11 x13 x31),313⟩ ?_
      refine rn (wg [0] [] ?_)
      cases h
      exact wp_ret (show fnOut _ _ _ _=_ from by kernel_rfl)
     refine sz 12 31 (reg_end rfl (wp_seq ?_))
     refine wgc [3,4,5,6,7,8,9,10,11,12,13,30,31,32,35,36,42,43,47] [0,1,2,3] ⟨(s8_110 x7 x9 x11 x13 x15 x31 x35 x39),(s8_24 x11 x13 x31),313⟩ ?_
     refine rn (wg [0] [] ?_)
     cases h
     exact wp_ret (show fnOut _ _ _ _=_ from by kernel_rfl)
    refine sz 16 31 (reg_end rfl (wp_seq ?_))
    refine wgc [3,4,5,6,7,8,9,10,11,12,13,30,31,32,35,36,42,43,47] [0,1,2,3] ⟨(s8_110 x7 x9 x11 x13 x15 x31 x35 x39),(s8_24 x11 x13 x31),313⟩ ?_
    refine rn (wg [0] [] ?_)
    cases h
    exact wp_ret (show fnOut _ _ _ _=_ from by kernel_rfl)
   refine sz 20 31 (reg_end rfl (wp_seq ?_))
   refine wgc [3,4,5,6,7,8,9,10,11,12,13,30,31,32,35,36,42,43,47] [0,1,2,3] ⟨(s8_110 x7 x9 x11 x13 x15 x31 x35 x39),(s8_24 x11 x13 x31),313⟩ ?_
   refine rn (wg [0] [] ?_)
   cases h
   exact wp_ret (show fnOut _ _ _ _=_ from by kernel_rfl)
  refine sz 24 31 (reg_end rfl (wp_seq ?_))
  refine wgc [3,4,5,6,7,8,9,10,11,12,13,30,31,32,35,36,42,43,47] [0,1,2,3] ⟨(s8_110 x7 x9 x11 x13 x15 x31 x35 x39),(s8_24 x11 x13 x31),313⟩ ?_
  refine rn (wg [0] [] ?_)
  cases h
  exact wp_ret (show fnOut _ _ _ _=_ from by kernel_rfl)
 refine sz 28 31 (reg_end rfl (wp_seq ?_))
 refine wgc [3,4,5,6,7,8,9,10,11,12,13,30,31,32,35,36,42,43,47] [0,1,2,3] ⟨(s8_110 x7 x9 x11 x13 x15 x31 x35 x39),(s8_24 x11 x13 x31),313⟩ ?_
 refine rn (wg [0] [] ?_)
 cases h
 exact wp_ret (show fnOut _ _ _ _=_ from by kernel_rfl)
end Go.Ab
namespace Go.Ab
open Go
set_option maxRecDepth 100000
theorem known18:g_law18_PathKnown=some true:=by kernel_rfl
end Go.Ab
