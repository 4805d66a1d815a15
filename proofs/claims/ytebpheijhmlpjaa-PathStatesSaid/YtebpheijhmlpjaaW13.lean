/- What functions compute. No conditions. -/
import Derived.Test.YtebpheijhmlpjaaProg
import Derived.Test.YtebpheijhmlpjaaW9
import Derived.KernelRfl
import Derived.Test.YtebpheijhmlpjaaW10
import Derived.Test.YtebpheijhmlpjaaW11
import Derived.Test.YtebpheijhmlpjaaW12
set_option linter.all false
namespace Go.Ab
open Go Go.Proofs
set_option maxRecDepth 100000
set_option maxHeartbeats 4000000
theorem g_law18_sample_ok  (x:Tapi_Hidden) (h:g_law18_sample=some x):CallOk Try.prog 28 [] (.ret (.agg [vI x.Grain,.ref 0 0 x.First.length,.ref 1 0 x.Step.length,.ref 2 0 x.Show.length]) [oR true 1 eI x.First,oR false 1 z1 x.Step,oR false 1 z1 x.Show]):=by
 refine fn_ok [] Try.func28 rfl (by decide +kernel) rfl ?_
 unfold g_law18_sample at h
 refine wp_eqB (base':=0) (st':=⟨[],[],9⟩) kr kr ?_
 refine wp_seq (reg_in ?_)
 refine sgL false [] [] false gE ?_
 refine reg_end rfl (wp_seq (reg_in ?_))
 refine sgL false [] [] true gE ?_
 refine sgL false [] [] true gE ?_
 refine sgL (S:=⟨[(0,.ptr 0 0 0),(1,.ref 1 0 2),(2,.ref 2 0 2),(3,.ref 3 0 2)],[oX true false 4 (.agg [vI 0,.nils,.nils,.nils]),.row false false true true 1 [vI 1,vI 3],.row false false true true 1 [vI 2,vI 2],.row false false true true 1 [vI 0,vI 4]],9⟩) false [] [] true kr ?_
 refine bsR (parts:=[(0,.lst true [vI 2,vI 2]),(1,.lst true [vI 0,vI 4])]) (ids:=[2,3]) (es:=[(2,.row false true true true 1 [vI 2,vI 2]),(3,.row false true true true 1 [vI 0,vI 4]),(4,.row false false true (List.all [.lst true [vI 2,vI 2],.lst true [vI 0,vI 4]] AV.scs) 1 [.lst true [vI 2,vI 2],.lst true [vI 0,vI 4]])]) (S:=⟨[(0,.ptr 0 0 0),(1,.ref 1 0 2),(2,.ref 2 0 2),(3,.ref 3 0 2),(4,.ref 4 0 2)],[oX true false 4 (.agg [vI 0,.nils,.nils,.nils]),.row false false true true 1 [vI 1,vI 3],.row false true true true 1 [vI 2,vI 2],.row false true true true 1 [vI 0,vI 4],.row false false true false 1 [.lst true [vI 2,vI 2],.lst true [vI 0,vI 4]]],9⟩) [.lst true] false rfl (sparts_snap rfl (show snap _ _ _=some (_,[2]) from kr) (sparts_snap rfl (show snap _ _ _=some (_,[3]) from kr) sparts_nil (by rfl)) (by rfl)) kr ?_
 refine sgL false [] [] true gE ?_
 refine sgL (S:=⟨[(0,.ptr 0 0 0),(1,.ref 1 0 2),(2,.ref 2 0 2),(3,.ref 3 0 2),(4,.ref 4 0 2),(5,.ref 5 0 2),(6,.ref 6 0 2)],[oX true false 4 (.agg [vI 0,.nils,.nils,.nils]),.row false false true true 1 [vI 1,vI 3],.row false true true true 1 [vI 2,vI 2],.row false true true true 1 [vI 0,vI 4],.row false false true false 1 [.lst true [vI 2,vI 2],.lst true [vI 0,vI 4]],.row false false true true 1 [vI 4,vI 0],.row false false true true 1 [vI 1,vI 3]],9⟩) false [] [] true kr ?_
 refine bsR (parts:=[(0,.lst true [vI 4,vI 0]),(1,.lst true [vI 1,vI 3])]) (ids:=[5,6]) (es:=[(5,.row false true true true 1 [vI 4,vI 0]),(6,.row false true true true 1 [vI 1,vI 3]),(7,.row false false true (List.all [.lst true [vI 4,vI 0],.lst true [vI 1,vI 3]] AV.scs) 1 [.lst true [vI 4,vI 0],.lst true [vI 1,vI 3]])]) (S:=⟨[(0,.ptr 0 0 0),(1,.ref 1 0 2),(2,.ref 2 0 2),(3,.ref 3 0 2),(4,.ref 4 0 2),(5,.ref 5 0 2),(6,.ref 6 0 2),(7,.ref 7 0 2)],[oX true false 4 (.agg [vI 0,.nils,.nils,.nils]),.row false false true true 1 [vI 1,vI 3],.row false true true true 1 [vI 2,vI 2],.row false true true true 1 [vI 0,vI 4],.row false false true false 1 [.lst true [vI 2,vI 2],.lst true [vI 0,vI 4]],.row false true true true 1 [vI 4,vI 0],.row false true true true 1 [vI 1,vI 3],.row false false true false 1 [.lst true [vI 4,vI 0],.lst true [vI 1,vI 3]]],9⟩) [.lst true] false rfl (sparts_snap rfl (show snap _ _ _=some (_,[5]) from kr) (sparts_snap rfl (show snap _ _ _=some (_,[6]) from kr) sparts_nil (by rfl)) (by rfl)) kr ?_
 refine sz 2 9 (reg_end rfl (wg [0] [0,1,4,7] ?_))
 cases h
 exact wp_ret (show fnOut _ _ _ _=_ from by kernel_rfl)
theorem g_ref02_Same_ok (p0:(List Int)) (p1:(List Int)) (x:Bool) (h:g_ref02_Same p0 p1=some x):CallOk Try.prog 68 [z1 p0,z1 p1] (.ret (vB x) []):=by
 refine fn_ok [] Try.func68 rfl (by decide +kernel) rfl ?_
 unfold g_ref02_Same at h
 refine wp_eqB (base':=0) (st':=⟨[(0,z1 p0),(1,z1 p1)],[],26⟩) kr kr ?_
 refine sq (wp_seq (wp_seq (reg_in (sz 1 1 ?_))))
 refine lenL (enc:=eI) (l:=p0) (fl:=true) kr gE ?_
 refine sz 1 3 ?_
 refine lenL (enc:=eI) (l:=p1) (fl:=true) kr gE ?_
 refine sz 1 5 (reg_end rfl ?_)
 refine wbz h (fun q2 h=>?_) (fun q2 h=>?_)
 ·refine wp_seq (wg [] [] (rn ?_))
  refine wgc [4] [] ⟨[(4,vB false)],[],26⟩ ?_
  cases h
  exact wp_ret (show fnOut _ _ _ _=_ from by kernel_rfl)
 refine wp_skip (wp_seq (wp_seq (wg [0,1] [] (rn (wp_block ?_)))))
 refine wwh h (fun s3=>⟨[(0,z1 p0),(1,z1 p1),(5,vI s3)],[],26⟩) (fun x out=>out=match x with | .inl v=>.go (.ret) ⟨[(4,vB false)],[],26⟩ | .inr v=>.go (.exit 0) ⟨[],[],26⟩) (wk_gc (live:=[0,1,5]) (keep:=[]) kr) ?_ ?_
 ·intro s3 o h
  unfold g_ref02_Same_b0 at h
  refine wp_seq (wp_seq (reg_in (sz 2 2 ?_)))
  refine lenL (enc:=eI) (l:=p0) (fl:=true) kr gE ?_
  refine sz 1 4 (reg_end rfl ?_)
  refine wb [14] h (fun q5 h=>?_) (fun q5 h=>?_)
  ·refine wcT (wp_skip (wp_seq (wp_block (wp_seq (rga hfol (sy 2 2 ?_))))))
   refine bind_elim h (fun a6 q7 h=>?_)
   refine idxL' (enc:=eI) (l:=p0) (n:=s3) (fl:=true) (w:=1) (a:=a6) kr rfl gE q7 ?_
   refine sy 3 6 ?_
   refine bind_elim h (fun a8 q9 h=>?_)
   refine idxL' (enc:=eI) (l:=p1) (n:=s3) (fl:=true) (w:=1) (a:=a8) kr rfl gE q9 ?_
   refine sy 2 9 (rgd ?_)
   refine wbz h (fun q11 h=>?_) (fun q11 h=>?_)
   ·refine wp_seq ?_
    refine wgc [] [] ⟨[],[],26⟩ ?_
    refine rn (wg [4] [] ?_)
    refine wp_ret ?_
    cases h
    exact ⟨kr,rfl⟩
   refine wp_skip ?_
   refine wgc [0,1,5] [] ⟨[(0,z1 p0),(1,z1 p1),(5,vI s3)],[],26⟩ ?_
   refine rn ?_
   cases h
   exact ⟨_,rfl,(wk_gc (live:=[0,1,5]) (keep:=[]) kr)⟩
  refine wcF (wg [] [] ?_)
  refine wp_exit ?_
  cases h
  exact ⟨kr,rfl⟩
 intro x12 h out hx
 subst hx
 rcases x12 with x13 | x14
 ·dsimp only at h ⊢
  cases h
  show fnOut _ _ _ _=_
  kernel_rfl
 ·dsimp only at h ⊢
  refine sq (wg [4] [] ?_)
  cases h
  exact wp_ret (show fnOut _ _ _ _=_ from by kernel_rfl)
theorem g_ref17_SameTable_ok (p0:(List (List Int))) (p1:(List (List Int))) (x:Bool) (h:g_ref17_SameTable p0 p1=some x):CallOk Try.prog 33 [z2 p0,z2 p1] (.ret (vB x) []):=by
 refine fn_ok [] Try.func33 rfl (by decide +kernel) rfl ?_
 unfold g_ref17_SameTable at h
 refine wp_eqB (base':=0) (st':=⟨[(0,z2 p0),(1,z2 p1)],[],27⟩) kr kr ?_
 refine sq (wp_seq (wp_seq (reg_in (sz 1 1 ?_))))
 refine lenL (enc:=z1) (l:=p0) (fl:=false) kr gE ?_
 refine sz 1 3 ?_
 refine lenL (enc:=z1) (l:=p1) (fl:=false) kr gE ?_
 refine sz 1 5 (reg_end rfl ?_)
 refine wbz h (fun q2 h=>?_) (fun q2 h=>?_)
 ·refine wp_seq (wg [] [] (rn ?_))
  refine wgc [4] [] ⟨[(4,vB false)],[],27⟩ ?_
  cases h
  exact wp_ret (show fnOut _ _ _ _=_ from by kernel_rfl)
 refine wp_skip (wp_seq (wp_seq (wg [0,1] [] (rn (wp_block ?_)))))
 refine wwh h (fun s3=>⟨[(0,z2 p0),(1,z2 p1),(5,vI s3)],[],27⟩) (fun x out=>out=match x with | .inl v=>.go (.ret) ⟨[(4,vB false)],[],27⟩ | .inr v=>.go (.exit 0) ⟨[],[],27⟩) (wk_gc (live:=[0,1,5]) (keep:=[]) kr) ?_ ?_
 ·intro s3 o h
  unfold g_ref17_SameTable_b0 at h
  refine wp_seq (wp_seq (reg_in (sz 2 2 ?_)))
  refine lenL (enc:=z1) (l:=p0) (fl:=false) kr gE ?_
  refine sz 1 4 (reg_end rfl ?_)
  refine wb [14] h (fun q5 h=>?_) (fun q5 h=>?_)
  ·refine wcT (wp_skip (wp_seq (wp_block (wp_seq (rga hfol (sy 2 2 ?_))))))
   refine bind_elim h (fun a6 q7 h=>?_)
   refine idxL' (enc:=z1) (l:=p0) (n:=s3) (fl:=false) (w:=1) (a:=a6) kr rfl gE q7 ?_
   refine sy 3 6 ?_
   refine bind_elim h (fun a8 q9 h=>?_)
   refine idxL' (enc:=z1) (l:=p1) (n:=s3) (fl:=false) (w:=1) (a:=a8) kr rfl gE q9 ?_
   refine sy 1 8 ?_
   refine callW bodyB_68 (g_ref02_Same_ok a6 a8) h (fun x10 _ h=>?_)
   refine sy 1 10 (rgd ?_)
   refine wbz h (fun q13 h=>?_) (fun q13 h=>?_)
   ·refine wp_seq ?_
    refine wgc [] [] ⟨[],[],27⟩ ?_
    refine rn (wg [4] [] ?_)
    refine wp_ret ?_
    cases h
    exact ⟨kr,rfl⟩
   refine wp_skip ?_
   refine wgc [0,1,5] [] ⟨[(0,z2 p0),(1,z2 p1),(5,vI s3)],[],27⟩ ?_
   refine rn ?_
   cases h
   exact ⟨_,rfl,(wk_gc (live:=[0,1,5]) (keep:=[]) kr)⟩
  refine wcF (wg [] [] ?_)
  refine wp_exit ?_
  cases h
  exact ⟨kr,rfl⟩
 intro x14 h out hx
 subst hx
 rcases x14 with x15 | x16
 ·dsimp only at h ⊢
  cases h
  show fnOut _ _ _ _=_
  kernel_rfl
 ·dsimp only at h ⊢
  refine sq (wg [4] [] ?_)
  cases h
  exact wp_ret (show fnOut _ _ _ _=_ from by kernel_rfl)
noncomputable abbrev s11_12 (x5:((List Int) × Int × Int)) (x7:((List (List Int)) × (List Int) × Int)) (x9:((List Int) × Int)):List AObj:=[oR true 1 eI x5.1,oR false 1 z1 x7.1,oR true 1 eI x7.2.1,oR true 1 eI x9.1]
theorem g_law18_wakes_ok  (x:Bool) (h:g_law18_wakes=some x):CallOk Try.prog 11 [] (.ret (vB x) []):=by
 refine fn_ok [] Try.func11 rfl (by decide +kernel) rfl ?_
 unfold g_law18_wakes at h
 refine wp_eqB (base':=0) (st':=⟨[],[],102⟩) kr kr ?_
 refine sq (wp_seq (reg_in ?_))
 refine callW bodyB_28 (g_law18_sample_ok ) h (fun x1 _ h=>?_)
 refine sgL false [] [] true gE ?_
 refine sgL false [] [] false gE ?_
 refine sz 2 5 (reg_end rfl (wp_seq (reg_in (sz 2 2 ?_))))
 refine sgL false [] [] true gE ?_
 refine callR (as0:=[.agg [vI x1.Grain,.ref 0 0 x1.First.length,.ref 1 0 x1.Step.length,.ref 2 0 x1.Show.length],.ref 3 0 2,.ref 5 0 2]) (ids:=[0,1,2,3,5]) kr bodyB_15 (msnap_cons (snap_agg (msnap_cons rfl (msnap_cons (snap_full (w:=1) (bx:=false) (ro:=false) kr) (msnap_cons (snap_full (w:=1) (bx:=false) (ro:=false) kr) (msnap_cons (snap_full (w:=1) (bx:=false) (ro:=false) kr) msnap_nil (by rfl)) (by rfl)) (by rfl)) (by rfl))) (msnap_cons (show snap _ _ _=some (_,[3]) from kr) (msnap_cons (show snap _ _ _=some (_,[5]) from kr) msnap_nil (by rfl)) (by rfl)) (by rfl)) (fun x3 q4=>g_path_Weight_ok x1 [0,1] [0,1] x3 q4) gF h (fun x3 q4 h=>?_)
 refine sz 5 9 (reg_end rfl (wp_seq ?_))
 refine wgc [1,2,3,4] [4,3,0,1,2] ⟨[(1,.ptr 0 0 0),(2,.ref 1 0 2),(3,vI x3.1),(4,vI x3.2)],[oX false false 4 (.agg [vI x1.Grain,.ref 2 0 x1.First.length,.ref 3 0 x1.Step.length,.ref 4 0 x1.Show.length]),.row false false true true 1 [vI 0,vI 1],oR true 1 eI x1.First,oR false 1 z1 x1.Step,oR false 1 z1 x1.Show],102⟩ ?_
 refine reg_in (sz 2 2 ?_)
 refine callR (as0:=[.agg [vI x1.Grain,.ref 2 0 x1.First.length,.ref 3 0 x1.Step.length,.ref 4 0 x1.Show.length],.ref 1 0 2]) (ids:=[2,3,4,1]) kr bodyB_20 (msnap_cons (snap_agg (msnap_cons rfl (msnap_cons (snap_full (w:=1) (bx:=false) (ro:=false) kr) (msnap_cons (snap_full (w:=1) (bx:=false) (ro:=false) kr) (msnap_cons (snap_full (w:=1) (bx:=false) (ro:=false) kr) msnap_nil (by rfl)) (by rfl)) (by rfl)) (by rfl))) (msnap_cons (show snap _ _ _=some (_,[1]) from kr) msnap_nil (by rfl)) (by rfl)) (fun x5 q6=>g_path_Best_ok x1 [0,1] x5 q6) gF h (fun x5 q6 h=>?_)
 refine sz 7 10 (reg_end rfl (wp_seq (wg [1,2,3,4,5,6,7] [0,1,5,2,3,4] (reg_in (sz 2 2 ?_)))))
 refine callR (as0:=[.agg [vI x1.Grain,.ref 3 0 x1.First.length,.ref 4 0 x1.Step.length,.ref 5 0 x1.Show.length],.ref 1 0 2,vI 5]) (ids:=[3,4,5,1]) kr bodyB_17 (msnap_cons (snap_agg (msnap_cons rfl (msnap_cons (snap_full (w:=1) (bx:=false) (ro:=false) kr) (msnap_cons (snap_full (w:=1) (bx:=false) (ro:=false) kr) (msnap_cons (snap_full (w:=1) (bx:=false) (ro:=false) kr) msnap_nil (by rfl)) (by rfl)) (by rfl)) (by rfl))) (msnap_cons (show snap _ _ _=some (_,[1]) from kr) (msnap_cons rfl msnap_nil (by rfl)) (by rfl)) (by rfl)) (fun x7 q8=>g_path_Most_ok x1 [0,1] 5 x7 q8) gF h (fun x7 q8 h=>?_)
 refine sz 7 10 (reg_end rfl (wp_seq ?_))
 refine wgc [1,2,3,4,5,6,7,8,9,10] [0,1,2,6,7,3,4,5] ⟨[(1,.ptr 0 0 0),(2,.ref 1 0 2),(3,vI x3.1),(4,vI x3.2),(5,.ref 2 0 x5.1.length),(6,vI x5.2.1),(7,vI x5.2.2),(8,.ref 3 0 x7.1.length),(9,.ref 4 0 x7.2.1.length),(10,vI x7.2.2)],[oX false false 4 (.agg [vI x1.Grain,.ref 5 0 x1.First.length,.ref 6 0 x1.Step.length,.ref 7 0 x1.Show.length]),.row false true true true 1 [vI 0,vI 1],oR true 1 eI x5.1,oR false 1 z1 x7.1,oR true 1 eI x7.2.1,.row false true true true 1 (List.map eI x1.First),.row false true true false 1 (List.map z1 x1.Step),.row false true true false 1 (List.map z1 x1.Show)],102⟩ ?_
 refine reg_in (sz 2 2 ?_)
 refine callR (as0:=[.agg [vI x1.Grain,.ref 5 0 x1.First.length,.ref 6 0 x1.Step.length,.ref 7 0 x1.Show.length],.ref 1 0 2]) (ids:=[5,6,7,1]) kr bodyB_23 (msnap_cons (snap_agg (msnap_cons rfl (msnap_cons (snap_full (w:=1) (bx:=false) (ro:=true) kr) (msnap_cons (snap_full (w:=1) (bx:=false) (ro:=true) kr) (msnap_cons (snap_full (w:=1) (bx:=false) (ro:=true) kr) msnap_nil (by rfl)) (by rfl)) (by rfl)) (by rfl))) (msnap_cons (show snap _ _ _=some (_,[1]) from kr) msnap_nil (by rfl)) (by rfl)) (fun x9 q10=>g_path_States_ok x1 [0,1] x9 q10) gF h (fun x9 q10 h=>?_)
 refine sz 5 8 (reg_end rfl (wp_seq (wg [1,2,3,4,5,6,7,8,9,10,11,12] [0,1,2,3,4,8,5,6,7] (reg_in (sz 2 2 ?_)))))
 refine callR (as0:=[.agg [vI x1.Grain,.ref 6 0 x1.First.length,.ref 7 0 x1.Step.length,.ref 8 0 x1.Show.length],.ref 1 0 2]) (ids:=[6,7,8,1]) kr bodyB_21 (msnap_cons (snap_agg (msnap_cons rfl (msnap_cons (snap_full (w:=1) (bx:=false) (ro:=true) kr) (msnap_cons (snap_full (w:=1) (bx:=false) (ro:=true) kr) (msnap_cons (snap_full (w:=1) (bx:=false) (ro:=true) kr) msnap_nil (by rfl)) (by rfl)) (by rfl)) (by rfl))) (msnap_cons (show snap _ _ _=some (_,[1]) from kr) msnap_nil (by rfl)) (by rfl)) (fun x11 q12=>g_path_Count_ok x1 [0,1] x11 q12) gF h (fun x11 q12 h=>?_)
 refine sz 5 8 (reg_end rfl (wp_seq ?_))
 refine wgc [3,4,5,6,7,8,9,10,11,12,13,14] [2,3,4,5] ⟨[(3,vI x3.1),(4,vI x3.2),(5,.ref 0 0 x5.1.length),(6,vI x5.2.1),(7,vI x5.2.2),(8,.ref 1 0 x7.1.length),(9,.ref 2 0 x7.2.1.length),(10,vI x7.2.2),(11,.ref 3 0 x9.1.length),(12,vI x9.2),(13,vI x11.1),(14,vI x11.2)],(s11_12 x5 x7 x9),102⟩ ?_
 refine reg_in (sz 3 3 ?_)
 refine rb [51,52] h (fun q14 h=>?_) (fun q14 h=>?_)
 ·refine sz 4 7 (rwg [3,5,6,8,9,10,11,12,13,14,56] [0,1,2,3] ?_)
  refine rb [56] h (fun q16 h=>?_) (fun q16 h=>?_)
  ·refine sz 4 11 (rwg [3,5,6,8,9,11,12,13,14,60] [0,1,2,3] ?_)
   refine rb [60] h (fun q18 h=>?_) (fun q18 h=>?_)
   ·refine sz 4 15 ?_
    refine rw_wk (wk_gc (live:=[3,5,6,8,9,11,13,14,64]) (keep:=[0,1,2,3]) (st':=⟨[(3,vI x3.1),(5,.ref 0 0 x5.1.length),(6,vI x5.2.1),(8,.ref 1 0 x7.1.length),(9,.ref 2 0 x7.2.1.length),(11,.ref 3 0 x9.1.length),(13,vI x11.1),(14,vI x11.2),(64,vB (x9.2==0))],(s11_12 x5 x7 x9),102⟩) kr) ?_
    refine rb [64] h (fun q20 h=>?_) (fun q20 h=>?_)
    ·refine sz 4 19 (rwg [3,5,6,8,9,11,13,68] [0,1,2,3] ?_)
     refine rb [68] h (fun q22 h=>?_) (fun q22 h=>?_)
     ·refine sz 4 23 (rwg [5,6,8,9,11,13,72] [0,1,2,3] ?_)
      refine rb [72] h (fun q24 h=>?_) (fun q24 h=>?_)
      ·refine sz 4 27 (rwg [5,8,9,11,13,76] [0,1,2,3] ?_)
       refine rb [76] h (fun q26 h=>?_) (fun q26 h=>?_)
       ·refine sz 1 28 ?_
        refine sgL false [] [] true gE ?_
        refine callR (as0:=[.ref 0 0 x5.1.length,.ref 4 0 2]) (ids:=[0,4]) kr bodyB_19 (msnap_cons (snap_full (w:=1) (bx:=false) (ro:=false) kr) (msnap_cons (show snap _ _ _=some (_,[4]) from kr) msnap_nil (by rfl)) (by rfl)) (fun x27 q28=>g_slices_Equal_int_int_ok x5.1 [1,1] x27 q28) gF h (fun x27 q28 h=>?_)
        refine sz 2 32 ?_
        refine rw_wk (wk_gc (live:=[8,9,11,13,81]) (keep:=[1,2,3]) (st':=⟨[(8,.ref 0 0 x7.1.length),(9,.ref 1 0 x7.2.1.length),(11,.ref 2 0 x9.1.length),(13,vI x11.1),(81,vB x27)],[oR false 1 z1 x7.1,oR true 1 eI x7.2.1,oR true 1 eI x9.1],102⟩) kr) ?_
        refine rb [81] h (fun q30 h=>?_) (fun q30 h=>?_)
        ·refine sz 1 33 ?_
         refine sgL false [] [] true gE ?_
         refine sgL (S:=⟨[(8,.ref 0 0 x7.1.length),(9,.ref 1 0 x7.2.1.length),(11,.ref 2 0 x9.1.length),(13,vI x11.1),(81,vB true),(82,.ref 0 0 x7.1.length),(83,.ref 3 0 2),(84,.ref 4 0 2)],[oR false 1 z1 x7.1,oR true 1 eI x7.2.1,oR true 1 eI x9.1,.row false false true true 1 [vI 1,vI 1],.row false false true true 1 [vI 0,vI 1]],102⟩) false [] [] true kr ?_
         refine bsR (parts:=[(0,.lst true [vI 1,vI 1]),(1,.lst true [vI 0,vI 1])]) (ids:=[3,4]) (es:=[(3,.row false true true true 1 [vI 1,vI 1]),(4,.row false true true true 1 [vI 0,vI 1]),(5,.row false false true (List.all [.lst true [vI 1,vI 1],.lst true [vI 0,vI 1]] AV.scs) 1 [.lst true [vI 1,vI 1],.lst true [vI 0,vI 1]])]) (S:=⟨[(8,.ref 0 0 x7.1.length),(9,.ref 1 0 x7.2.1.length),(11,.ref 2 0 x9.1.length),(13,vI x11.1),(81,vB true),(82,.ref 0 0 x7.1.length),(83,.ref 3 0 2),(84,.ref 4 0 2),(85,.ref 5 0 2)],[oR false 1 z1 x7.1,oR true 1 eI x7.2.1,oR true 1 eI x9.1,.row false true true true 1 [vI 1,vI 1],.row false true true true 1 [vI 0,vI 1],.row false false true false 1 [.lst true [vI 1,vI 1],.lst true [vI 0,vI 1]]],102⟩) [.lst true] false rfl (sparts_snap rfl (show snap _ _ _=some (_,[3]) from kr) (sparts_snap rfl (show snap _ _ _=some (_,[4]) from kr) sparts_nil (by rfl)) (by rfl)) kr ?_
         refine callR (as0:=[.ref 0 0 x7.1.length,.ref 5 0 2]) (ids:=[0,5]) kr bodyB_33 (msnap_cons (snap_full (w:=1) (bx:=false) (ro:=false) kr) (msnap_cons (show snap _ _ _=some (_,[5]) from kr) msnap_nil (by rfl)) (by rfl)) (fun x31 q32=>g_ref17_SameTable_ok x7.1 [[1,1],[0,1]] x31 q32) gF h (fun x31 q32 h=>?_)
         refine sz 2 39 (rwg [9,11,13,88] [1,2] ?_)
         refine rb [88] h (fun q34 h=>?_) (fun q34 h=>?_)
         ·refine sz 1 40 ?_
          refine sgL false [] [] true gE ?_
          refine callR (as0:=[.ref 0 0 x7.2.1.length,.ref 2 0 2]) (ids:=[0,2]) kr bodyB_19 (msnap_cons (snap_full (w:=1) (bx:=false) (ro:=false) kr) (msnap_cons (show snap _ _ _=some (_,[2]) from kr) msnap_nil (by rfl)) (by rfl)) (fun x35 q36=>g_slices_Equal_int_int_ok x7.2.1 [36,24] x35 q36) gF h (fun x35 q36 h=>?_)
          refine sz 2 44 (rwg [11,13,93] [1] ?_)
          refine rb [93] h (fun q38 h=>?_) (fun q38 h=>?_)
          ·refine sz 1 45 ?_
           refine sgL false [] [] true gE ?_
           refine callR (as0:=[.ref 0 0 x9.1.length,.ref 1 0 2]) (ids:=[0,1]) kr bodyB_19 (msnap_cons (snap_full (w:=1) (bx:=false) (ro:=false) kr) (msnap_cons (show snap _ _ _=some (_,[1]) from kr) msnap_nil (by rfl)) (by rfl)) (fun x39 q40=>g_slices_Equal_int_int_ok x9.1 [1,1] x39 q40) gF h (fun x39 q40 h=>?_)
           refine sz 2 49 (rwg [13,98] [] ?_)
           refine rb [98] h (fun q42 h=>?_) (fun q42 h=>?_)
           ·refine sz 4 53 (reg_end rfl ?_)
            refine wgc [0] [] ⟨[(0,vB (x11.1==2))],[],102⟩ ?_
            cases h
            exact wp_ret (show fnOut _ _ _ _=_ from by kernel_rfl)
           refine sz 4 53 (reg_end rfl ?_)
           refine wgc [0] [] ⟨[(0,vB false)],[],102⟩ ?_
           cases h
           exact wp_ret (show fnOut _ _ _ _=_ from by kernel_rfl)
          refine sz 9 53 (reg_end rfl ?_)
          refine wgc [0] [] ⟨[(0,vB false)],[],102⟩ ?_
          cases h
          exact wp_ret (show fnOut _ _ _ _=_ from by kernel_rfl)
         refine sz 14 53 (reg_end rfl ?_)
         refine wgc [0] [] ⟨[(0,vB false)],[],102⟩ ?_
         cases h
         exact wp_ret (show fnOut _ _ _ _=_ from by kernel_rfl)
        refine sz 21 53 (reg_end rfl ?_)
        refine wgc [0] [] ⟨[(0,vB false)],[],102⟩ ?_
        cases h
        exact wp_ret (show fnOut _ _ _ _=_ from by kernel_rfl)
       refine sgz 26 53 (S:=⟨[(5,.ref 0 0 x5.1.length),(8,.ref 1 0 x7.1.length),(9,.ref 2 0 x7.2.1.length),(11,.ref 3 0 x9.1.length),(13,vI x11.1),(76,vB false),(77,.tup []),(78,.tup []),(79,.tup []),(80,vB false),(81,vB false),(82,.tup []),(83,.tup []),(84,.tup []),(85,.tup []),(86,.tup []),(87,vB false),(88,vB false),(89,.tup []),(90,.tup []),(91,.tup []),(92,vB false),(93,vB false),(94,.tup []),(95,.tup []),(96,.tup []),(97,vB false),(98,vB false),(99,.tup []),(100,.tup []),(101,vB false),(0,vB false)],(s11_12 x5 x7 x9),102⟩) ?_
       refine reg_end rfl (wg [0] [] ?_)
       cases h
       exact wp_ret (show fnOut _ _ _ _=_ from by kernel_rfl)
      refine sgz 30 53 (S:=⟨[(5,.ref 0 0 x5.1.length),(6,vI x5.2.1),(8,.ref 1 0 x7.1.length),(9,.ref 2 0 x7.2.1.length),(11,.ref 3 0 x9.1.length),(13,vI x11.1),(72,vB false),(73,.tup []),(74,.tup []),(75,vB false),(76,vB false),(77,.tup []),(78,.tup []),(79,.tup []),(80,vB false),(81,vB false),(82,.tup []),(83,.tup []),(84,.tup []),(85,.tup []),(86,.tup []),(87,vB false),(88,vB false),(89,.tup []),(90,.tup []),(91,.tup []),(92,vB false),(93,vB false),(94,.tup []),(95,.tup []),(96,.tup []),(97,vB false),(98,vB false),(99,.tup []),(100,.tup []),(101,vB false),(0,vB false)],(s11_12 x5 x7 x9),102⟩) ?_
      refine reg_end rfl (wg [0] [] ?_)
      cases h
      exact wp_ret (show fnOut _ _ _ _=_ from by kernel_rfl)
     refine sgz 34 53 (S:=⟨[(3,vI x3.1),(5,.ref 0 0 x5.1.length),(6,vI x5.2.1),(8,.ref 1 0 x7.1.length),(9,.ref 2 0 x7.2.1.length),(11,.ref 3 0 x9.1.length),(13,vI x11.1),(68,vB false),(69,.tup []),(70,.tup []),(71,vB false),(72,vB false),(73,.tup []),(74,.tup []),(75,vB false),(76,vB false),(77,.tup []),(78,.tup []),(79,.tup []),(80,vB false),(81,vB false),(82,.tup []),(83,.tup []),(84,.tup []),(85,.tup []),(86,.tup []),(87,vB false),(88,vB false),(89,.tup []),(90,.tup []),(91,.tup []),(92,vB false),(93,vB false),(94,.tup []),(95,.tup []),(96,.tup []),(97,vB false),(98,vB false),(99,.tup []),(100,.tup []),(101,vB false),(0,vB false)],(s11_12 x5 x7 x9),102⟩) ?_
     refine reg_end rfl (wg [0] [] ?_)
     cases h
     exact wp_ret (show fnOut _ _ _ _=_ from by kernel_rfl)
    refine sz 38 53 (reg_end rfl ?_)
    refine wgc [0] [] ⟨[(0,vB false)],[],102⟩ ?_
    cases h
    exact wp_ret (show fnOut _ _ _ _=_ from by kernel_rfl)
   refine sgz 42 53 (S:=⟨[(3,vI x3.1),(5,.ref 0 0 x5.1.length),(6,vI x5.2.1),(8,.ref 1 0 x7.1.length),(9,.ref 2 0 x7.2.1.length),(11,.ref 3 0 x9.1.length),(12,vI x9.2),(13,vI x11.1),(14,vI x11.2),(60,vB false),(61,.tup []),(62,.tup []),(63,vB false),(64,vB false),(65,.tup []),(66,.tup []),(67,vB false),(68,vB false),(69,.tup []),(70,.tup []),(71,vB false),(72,vB false),(73,.tup []),(74,.tup []),(75,vB false),(76,vB false),(77,.tup []),(78,.tup []),(79,.tup []),(80,vB false),(81,vB false),(82,.tup []),(83,.tup []),(84,.tup []),(85,.tup []),(86,.tup []),(87,vB false),(88,vB false),(89,.tup []),(90,.tup []),(91,.tup []),(92,vB false),(93,vB false),(94,.tup []),(95,.tup []),(96,.tup []),(97,vB false),(98,vB false),(99,.tup []),(100,.tup []),(101,vB false),(0,vB false)],(s11_12 x5 x7 x9),102⟩) ?_
   refine reg_end rfl (wg [0] [] ?_)
   cases h
   exact wp_ret (show fnOut _ _ _ _=_ from by kernel_rfl)
  refine sgz 46 53 (S:=⟨[(3,vI x3.1),(5,.ref 0 0 x5.1.length),(6,vI x5.2.1),(8,.ref 1 0 x7.1.length),(9,.ref 2 0 x7.2.1.length),(10,vI x7.2.2),(11,.ref 3 0 x9.1.length),(12,vI x9.2),(13,vI x11.1),(14,vI x11.2),(56,vB false),(57,.tup []),(58,.tup []),(59,vB false),(60,vB false),(61,.tup []),(62,.tup []),(63,vB false),(64,vB false),(65,.tup []),(66,.tup []),(67,vB false),(68,vB false),(69,.tup []),(70,.tup []),(71,vB false),(72,vB false),(73,.tup []),(74,.tup []),(75,vB false),(76,vB false),(77,.tup []),(78,.tup []),(79,.tup []),(80,vB false),(81,vB false),(82,.tup []),(83,.tup []),(84,.tup []),(85,.tup []),(86,.tup []),(87,vB false),(88,vB false),(89,.tup []),(90,.tup []),(91,.tup []),(92,vB false),(93,vB false),(94,.tup []),(95,.tup []),(96,.tup []),(97,vB false),(98,vB false),(99,.tup []),(100,.tup []),(101,vB false),(0,vB false)],(s11_12 x5 x7 x9),102⟩) ?_
  refine reg_end rfl (wg [0] [] ?_)
  cases h
  exact wp_ret (show fnOut _ _ _ _=_ from by kernel_rfl)
 refine sgz 50 53 (S:=⟨[(3,vI x3.1),(4,vI x3.2),(5,.ref 0 0 x5.1.length),(6,vI x5.2.1),(7,vI x5.2.2),(8,.ref 1 0 x7.1.length),(9,.ref 2 0 x7.2.1.length),(10,vI x7.2.2),(11,.ref 3 0 x9.1.length),(12,vI x9.2),(13,vI x11.1),(14,vI x11.2)]++[(50,vI x3.2),(51,vB false),(52,vB false),(53,.tup []),(54,.tup []),(55,vB false),(56,vB false),(57,.tup []),(58,.tup []),(59,vB false),(60,vB false),(61,.tup []),(62,.tup []),(63,vB false),(64,vB false),(65,.tup []),(66,.tup []),(67,vB false),(68,vB false),(69,.tup []),(70,.tup []),(71,vB false),(72,vB false),(73,.tup []),(74,.tup []),(75,vB false),(76,vB false),(77,.tup []),(78,.tup []),(79,.tup []),(80,vB false),(81,vB false),(82,.tup []),(83,.tup []),(84,.tup []),(85,.tup []),(86,.tup []),(87,vB false),(88,vB false),(89,.tup []),(90,.tup []),(91,.tup []),(92,vB false),(93,vB false),(94,.tup []),(95,.tup []),(96,.tup []),(97,vB false),(98,vB false),(99,.tup []),(100,.tup []),(101,vB false),(0,vB false)],(s11_12 x5 x7 x9),102⟩) ?_
 refine reg_end rfl (wg [0] [] ?_)
 cases h
 exact wp_ret (show fnOut _ _ _ _=_ from by kernel_rfl)
theorem g_ref17_Split_ok (p0:Int) (p1:Int) (p2:(List Int)) (x:(List Int)) (h:g_ref17_Split p0 p1 p2=some x):CallOk Try.prog 60 [vI p0,vI p1,eL true (AV.int .u8) p2] (.ret (.ref 0 0 x.length) [oR true 1 eI x]):=by
 refine fn_ok [] Try.func60 rfl (by decide +kernel) rfl ?_
 unfold g_ref17_Split at h
 refine wp_eqB (base':=0) (st':=⟨[(0,vI p0),(1,vI p1),(2,eL true (AV.int .u8) p2)],[],42⟩) kr kr ?_
 refine sq (sq (sq (wp_seq (sq (wp_block ?_)))))
 refine wwh h (fun s1=>⟨[(0,vI p0),(2,eL true (AV.int .u8) p2),(7,.ref 0 0 s1.2.2.length),(8,vI s1.1),(9,vI s1.2.1)],[oR true 1 eI s1.2.2],42⟩) (fun v out=>out=.go (.exit 0) ⟨[(7,.ref 0 0 v.length)],[oR true 1 eI v],42⟩) (wk_trans (wk_gc (live:=[0,2,7,8,9]) (keep:=[]) (st':=⟨[(0,vI p0),(2,eL true (AV.int .u8) p2),(7,.nils),(8,vI p1),(9,vI 0)],[],42⟩) kr) (wk_trans (wk_nil 7 1 true true (st':=⟨[(0,vI p0),(2,eL true (AV.int .u8) p2),(7,.ref 0 0 0),(8,vI p1),(9,vI 0)],[.row false false true true 1 []],42⟩) kr) (wk_gc (live:=[0,2,7,8,9]) (keep:=[0]) kr))) ?_ ?_
 ·intro s1 o h
  unfold g_ref17_Split_b0 at h
  refine wp_seq (sq ?_)
  refine wb [14] h (fun q3 h=>?_) (fun q3 h=>?_)
  ·refine wcT (wp_skip (wp_seq (wp_block (sq (wp_seq (sq ?_))))))
   refine wbz h (fun q5 h=>?_) (fun q5 h=>?_)
   ·refine wp_seq ?_
    refine wgc [0,2,7,8,9] [0] ⟨[(0,vI p0),(2,eL true (AV.int .u8) p2),(7,.ref 0 0 s1.2.2.length),(8,vI s1.1),(9,vI s1.2.1)],[oR true 1 eI s1.2.2],42⟩ ?_
    refine rn (wp_seq (reg_in (sz 2 2 ?_)))
    refine lenL (enc:=(AV.int .u8)) (l:=p2) (fl:=true) kr gE ?_
    refine sz 1 4 (reg_end rfl ?_)
    refine wb [25] h (fun q7 h=>?_) (fun q7 h=>?_)
    ·refine wcT (wg [0,2,7,8,9] [0] (reg_in (sz 2 2 ?_)))
     refine bind_elim h (fun a8 q9 h=>?_)
     refine idxL' (enc:=(AV.int .u8)) (l:=p2) (n:=s1.2.1) (fl:=true) (w:=1) (a:=a8) kr rfl gE q9 ?_
     refine sz 4 7 ?_
     refine remR (k:=.i64) (a:=zw (a8)) (b:=zw (s1.1+1)) kr gE h (fun h=>?_)
     refine sz 1 9 (reg_end rfl (wp_seq ?_))
     refine wgc [0,2,7,8,9,10] [0] ⟨[(0,vI p0),(2,eL true (AV.int .u8) p2),(7,.ref 0 0 s1.2.2.length),(8,vI s1.1),(9,vI s1.2.1),(10,vI (Int.tmod (zw (a8)) (zw (s1.1+1))))],[oR true 1 eI s1.2.2],42⟩ ?_
     refine reg_in (sz 2 2 ?_)
     refine sgL false [] [] true gE ?_
     refine appR (enc:=eI) (l:=s1.2.2) (m:=([Int.tmod (zw (a8)) (zw (s1.1+1))]:(List Int))) (w:=1) (bytes:=8) (ob:=0) (nr:=true) (fl:=true) (nr':=true) (fl':=true) (b:=.ref 1 0 1) (rds:=[1]) false kr kr kr rfl gE kr h (fun h=>?_)
     refine sz 1 5 (reg_end rfl (rn (wg [0,2,7,8,9] [2] (rn ?_))))
     cases h
     exact ⟨_,rfl,(wk_gc (live:=[0,2,7,8,9]) (keep:=[0]) kr)⟩
    refine wcF (wp_skip (wp_seq (reg_in (sz 2 2 ?_))))
    refine sgL false [] [] true gE ?_
    refine appR (enc:=eI) (l:=s1.2.2) (m:=([0]:(List Int))) (w:=1) (bytes:=8) (ob:=0) (nr:=true) (fl:=true) (nr':=true) (fl':=true) (b:=.ref 1 0 1) (rds:=[1]) false kr kr kr rfl gE kr h (fun h=>?_)
    refine sz 1 5 (reg_end rfl ?_)
    refine wgc [0,2,7,8,9,10] [2] ⟨[(0,vI p0),(2,eL true (AV.int .u8) p2),(7,.ref 0 0 ((s1.2.2++([0]:(List Int))).length)),(8,vI s1.1),(9,vI s1.2.1),(10,vI 0)],[oR true 1 eI (s1.2.2++([0]:(List Int)))],42⟩ ?_
    refine rn (rn ?_)
    cases h
    exact ⟨_,rfl,(wk_gc (live:=[0,2,7,8,9]) (keep:=[0]) kr)⟩
   refine wp_skip (wp_seq ?_)
   refine wgc [0,2,7,8,9,10] [0] ⟨[(0,vI p0),(2,eL true (AV.int .u8) p2),(7,.ref 0 0 s1.2.2.length),(8,vI s1.1),(9,vI s1.2.1),(10,vI s1.1)],[oR true 1 eI s1.2.2],42⟩ ?_
   refine reg_in (sz 2 2 ?_)
   refine sgL false [] [] true gE ?_
   refine appR (enc:=eI) (l:=s1.2.2) (m:=([s1.1]:(List Int))) (w:=1) (bytes:=8) (ob:=0) (nr:=true) (fl:=true) (nr':=true) (fl':=true) (b:=.ref 1 0 1) (rds:=[1]) false kr kr kr rfl gE kr h (fun h=>?_)
   refine sz 1 5 (reg_end rfl (rn (wg [0,2,7,8,9] [2] (rn ?_))))
   cases h
   exact ⟨_,rfl,(wk_gc (live:=[0,2,7,8,9]) (keep:=[0]) kr)⟩
  refine wcF (wg [7] [0] ?_)
  refine wp_exit ?_
  cases h
  exact ⟨kr,rfl⟩
 intro x11 h out hx
 subst hx
 refine sq (wg [6] [0] ?_)
 cases h
 exact wp_ret (show fnOut _ _ _ _=_ from by kernel_rfl)
theorem g_ref17_Draft_from_ok (p0:Tharuspexref17_Draft) (p1:Int) (x:(List Int)) (h:g_ref17_Draft_from p0 p1=some x):CallOk Try.prog 61 [.agg [.int .u8 p0.Grain,.int .u8 p0.States,.int .u8 p0.Shows,eL true (AV.int .u8) p0.L,eL true (AV.int .u8) p0.Seen],vI p1] (.ret (.ref 0 0 x.length) [oR true 1 (AV.int .u8) x]):=by
 refine fn_ok [] Try.func61 rfl (by decide +kernel) rfl ?_
 unfold g_ref17_Draft_from at h
 refine wp_eqB (base':=0) (st':=⟨[(0,.agg [.int .u8 p0.Grain,.int .u8 p0.States,.int .u8 p0.Shows,eL true (AV.int .u8) p0.L,eL true (AV.int .u8) p0.Seen]),(1,vI p1)],[],30⟩) kr kr ?_
 refine wp_seq (reg_in ?_)
 refine sgL false [] [] false gE ?_
 refine sz 1 2 (reg_end rfl (wp_seq (wp_seq (reg_in (sz 2 2 ?_)))))
 refine lenL (enc:=(AV.int .u8)) (l:=p0.L) (fl:=true) kr gE ?_
 refine sz 1 4 (reg_end rfl ?_)
 refine wbz h (fun q2 h=>?_) (fun q2 h=>?_)
 ·refine wp_seq (wg [] [] (rn ?_))
  refine wgc [4] [] ⟨[(4,.nils)],[],30⟩ ?_
  refine wp_wk (wk_nil 4 1 true true gE) ?_
  cases h
  exact wp_ret (show fnOut _ _ _ _=_ from by kernel_rfl)
 refine wp_skip (wp_seq (wg [1,2] [0] (rn (wp_seq (sq (wp_block ?_))))))
 refine wwh h (fun s3=>⟨[(1,vI p1),(2,.ptr 0 0 0),(5,.ref 1 0 s3.2.length),(6,vI s3.1)],[oX true false 5 (.agg [.int .u8 p0.Grain,.int .u8 p0.States,.int .u8 p0.Shows,eL true (AV.int .u8) p0.L,eL true (AV.int .u8) p0.Seen]),oR true 1 (AV.int .u8) s3.2],30⟩) (fun v out=>out=.go (.exit 0) ⟨[(5,.ref 0 0 v.length)],[oR true 1 (AV.int .u8) v],30⟩) (wk_trans (wk_gc (live:=[1,2,5,6]) (keep:=[0]) (st':=⟨[(1,vI p1),(2,.ptr 0 0 0),(5,.nils),(6,vI 0)],[oX true false 5 (.agg [.int .u8 p0.Grain,.int .u8 p0.States,.int .u8 p0.Shows,eL true (AV.int .u8) p0.L,eL true (AV.int .u8) p0.Seen])],30⟩) kr) (wk_trans (wk_nil 5 1 true true (st':=⟨[(1,vI p1),(2,.ptr 0 0 0),(5,.ref 1 0 0),(6,vI 0)],[oX true false 5 (.agg [.int .u8 p0.Grain,.int .u8 p0.States,.int .u8 p0.Shows,eL true (AV.int .u8) p0.L,eL true (AV.int .u8) p0.Seen]),.row false false true true 1 []],30⟩) kr) (wk_gc (live:=[1,2,5,6]) (keep:=[0,1]) kr))) ?_ ?_
 ·intro s3 o h
  unfold g_ref17_Draft_from_b0 at h
  refine wp_seq (sq ?_)
  refine wb [12] h (fun q5 h=>?_) (fun q5 h=>?_)
  ·refine wcT (wp_skip (wp_seq (wp_block (rga hfol (sy 8 8 ?_)))))
   refine lenL (enc:=(AV.int .u8)) (l:=p0.L) (fl:=true) kr gE ?_
   refine remR (k:=.i64) (a:=zw (p1+s3.1)) (b:=(zn p0.L)) kr gE h (fun h=>?_)
   refine bind_elim h (fun a6 q7 h=>?_)
   refine idxL' (enc:=(AV.int .u8)) (l:=p0.L) (n:=Int.tmod (zw (p1+s3.1)) (zn p0.L)) (fl:=true) (w:=1) (a:=a6) kr rfl gE q7 ?_
   refine sy 1 12 ?_
   refine sgL false [] [] true gE ?_
   refine appR (enc:=(AV.int .u8)) (l:=s3.2) (m:=([a6]:(List Int))) (w:=1) (bytes:=1) (ob:=1) (nr:=true) (fl:=true) (nr':=true) (fl':=true) (b:=.ref 2 0 1) (rds:=[2]) false kr kr kr rfl gE kr h (fun h=>?_)
   refine sy 1 15 (rgd ?_)
   refine wgc [1,2,5,6] [0,3] ⟨[(1,vI p1),(2,.ptr 0 0 0),(5,.ref 1 0 ((s3.2++([a6]:(List Int))).length)),(6,vI s3.1)],[oX true false 5 (.agg [.int .u8 p0.Grain,.int .u8 p0.States,.int .u8 p0.Shows,eL true (AV.int .u8) p0.L,eL true (AV.int .u8) p0.Seen]),oR true 1 (AV.int .u8) (s3.2++([a6]:(List Int)))],30⟩ ?_
   refine rn ?_
   cases h
   exact ⟨_,rfl,(wk_gc (live:=[1,2,5,6]) (keep:=[0,1]) kr)⟩
  refine wcF (wg [5] [1] ?_)
  refine wp_exit ?_
  cases h
  exact ⟨kr,rfl⟩
 intro x9 h out hx
 subst hx
 refine sq (wg [4] [0] ?_)
 cases h
 exact wp_ret (show fnOut _ _ _ _=_ from by kernel_rfl)
theorem g_ref17_Draft_Hidden_ok (p0:Tharuspexref17_Draft) (x:Tapi_Hidden) (h:g_ref17_Draft_Hidden p0=some x):CallOk Try.prog 25 [.agg [.int .u8 p0.Grain,.int .u8 p0.States,.int .u8 p0.Shows,eL true (AV.int .u8) p0.L,eL true (AV.int .u8) p0.Seen]] (.ret (.agg [vI x.Grain,.ref 0 0 x.First.length,.ref 1 0 x.Step.length,.ref 2 0 x.Show.length]) [oR true 1 eI x.First,oR false 1 z1 x.Step,oR false 1 z1 x.Show]):=by
 refine fn_ok [] Try.func25 rfl (by decide +kernel) rfl ?_
 unfold g_ref17_Draft_Hidden at h
 refine wp_eqB (base':=0) (st':=⟨[(0,.agg [.int .u8 p0.Grain,.int .u8 p0.States,.int .u8 p0.Shows,eL true (AV.int .u8) p0.L,eL true (AV.int .u8) p0.Seen])],[],62⟩) kr kr ?_
 refine wp_seq (reg_in ?_)
 refine sgL false [] [] false gE ?_
 refine sgL false [] [] false gE ?_
 refine reg_end rfl (wp_seq (rga hfol (sy 18 18 (rgd (wp_seq ?_)))))
 refine wgc [1,2,3,4,5] [0,1] ⟨[(1,.ptr 0 0 0),(2,.ptr 1 0 0),(3,vI (zw (1+(zw (Int.tmod p0.Grain 12))))),(4,vI (zw (1+(zw (Int.tmod p0.States 4))))),(5,vI (zw (1+(zw (Int.tmod p0.Shows 4)))))],[oX true false 5 (.agg [.int .u8 p0.Grain,.int .u8 p0.States,.int .u8 p0.Shows,eL true (AV.int .u8) p0.L,eL true (AV.int .u8) p0.Seen]),oX true false 4 (.agg [vI 0,.nils,.nils,.nils])],62⟩ ?_
 refine reg_in (sz 4 4 ?_)
 refine callW bodyB_61 (g_ref17_Draft_from_ok p0 0) h (fun x1 _ h=>?_)
 refine callR (as0:=[vI (zw (1+(zw (Int.tmod p0.States 4)))),vI (zw (1+(zw (Int.tmod p0.Grain 12)))),.ref 2 0 x1.length]) (ids:=[2]) kr bodyB_60 (msnap_cons rfl (msnap_cons rfl (msnap_cons (snap_full (w:=1) (bx:=false) (ro:=false) kr) msnap_nil (by rfl)) (by rfl)) (by rfl)) (fun x3 q4=>g_ref17_Split_ok (zw (1+(zw (Int.tmod p0.States 4)))) (zw (1+(zw (Int.tmod p0.Grain 12)))) x1 x3 q4) gF h (fun x3 q4 h=>?_)
 refine sz 1 7 ?_
 refine sgL false [] [] false gE ?_
 refine sz 1 9 (reg_end rfl (wp_seq (wp_seq (wg [1,2,3,4,5,6] [0,1,4,3] (rn (wp_block ?_))))))
 refine wwh h (fun s5=>⟨[(1,.ptr 0 0 0),(2,.ptr 1 0 0),(3,vI (zw (1+(zw (Int.tmod p0.Grain 12))))),(4,vI (zw (1+(zw (Int.tmod p0.States 4))))),(5,vI (zw (1+(zw (Int.tmod p0.Shows 4))))),(6,.ptr 2 0 0),(7,vI s5.1)],[oX true false 5 (.agg [.int .u8 p0.Grain,.int .u8 p0.States,.int .u8 p0.Shows,eL true (AV.int .u8) p0.L,eL true (AV.int .u8) p0.Seen]),oX true false 4 (.agg [vI 0,.nils,.nils,.nils]),oX false false 4 (.agg [vI (zw (1+(zw (Int.tmod p0.Grain 12)))),.ref 3 0 x3.length,.ref 4 0 s5.2.1.length,.ref 5 0 s5.2.2.length]),oR true 1 eI x3,oR false 1 z1 s5.2.1,oR false 1 z1 s5.2.2],62⟩) (fun v out=>out=.go (.exit 0) ⟨[(2,.ptr 0 0 0),(6,.ptr 1 0 0)],[oX true false 4 (.agg [vI 0,.nils,.nils,.nils]),oX false false 4 (.agg [vI (zw (1+(zw (Int.tmod p0.Grain 12)))),.ref 2 0 x3.length,.ref 3 0 v.1.length,.ref 4 0 v.2.length]),oR true 1 eI x3,oR false 1 z1 v.1,oR false 1 z1 v.2],62⟩) (wk_trans (wk_gc (live:=[1,2,3,4,5,6,7]) (keep:=[0,1,2,3]) (st':=⟨[(1,.ptr 0 0 0),(2,.ptr 1 0 0),(3,vI (zw (1+(zw (Int.tmod p0.Grain 12))))),(4,vI (zw (1+(zw (Int.tmod p0.States 4))))),(5,vI (zw (1+(zw (Int.tmod p0.Shows 4))))),(6,.ptr 2 0 0),(7,vI 0)],[oX true false 5 (.agg [.int .u8 p0.Grain,.int .u8 p0.States,.int .u8 p0.Shows,eL true (AV.int .u8) p0.L,eL true (AV.int .u8) p0.Seen]),oX true false 4 (.agg [vI 0,.nils,.nils,.nils]),oX false false 4 (.agg [vI (zw (1+(zw (Int.tmod p0.Grain 12)))),.ref 3 0 x3.length,.nils,.nils]),oR true 1 eI x3],62⟩) kr) (wk_trans (wk_nilO 2 0 2 1 true false (st':=⟨[(1,.ptr 0 0 0),(2,.ptr 1 0 0),(3,vI (zw (1+(zw (Int.tmod p0.Grain 12))))),(4,vI (zw (1+(zw (Int.tmod p0.States 4))))),(5,vI (zw (1+(zw (Int.tmod p0.Shows 4))))),(6,.ptr 2 0 0),(7,vI 0)],[oX true false 5 (.agg [.int .u8 p0.Grain,.int .u8 p0.States,.int .u8 p0.Shows,eL true (AV.int .u8) p0.L,eL true (AV.int .u8) p0.Seen]),oX true false 4 (.agg [vI 0,.nils,.nils,.nils]),oX false false 4 (.agg [vI (zw (1+(zw (Int.tmod p0.Grain 12)))),.ref 3 0 x3.length,.ref 4 0 0,.nils]),oR true 1 eI x3,.row false false true false 1 []],62⟩) kr) (wk_trans (wk_nilO 2 0 3 1 true false (st':=⟨[(1,.ptr 0 0 0),(2,.ptr 1 0 0),(3,vI (zw (1+(zw (Int.tmod p0.Grain 12))))),(4,vI (zw (1+(zw (Int.tmod p0.States 4))))),(5,vI (zw (1+(zw (Int.tmod p0.Shows 4))))),(6,.ptr 2 0 0),(7,vI 0)],[oX true false 5 (.agg [.int .u8 p0.Grain,.int .u8 p0.States,.int .u8 p0.Shows,eL true (AV.int .u8) p0.L,eL true (AV.int .u8) p0.Seen]),oX true false 4 (.agg [vI 0,.nils,.nils,.nils]),oX false false 4 (.agg [vI (zw (1+(zw (Int.tmod p0.Grain 12)))),.ref 3 0 x3.length,.ref 4 0 0,.ref 5 0 0]),oR true 1 eI x3,.row false false true false 1 [],.row false false true false 1 []],62⟩) kr) (wk_gc (live:=[1,2,3,4,5,6,7]) (keep:=[0,1,2,3,4,5]) kr)))) ?_ ?_
 ·intro s5 o h
  unfold g_ref17_Draft_Hidden_b0 at h
  refine wp_seq (sq ?_)
  refine wb [32] h (fun q7 h=>?_) (fun q7 h=>?_)
  ·refine wcT (wp_skip (wp_seq (wp_block (wp_seq (rga hfol (sy 8 8 ?_))))))
   refine callW bodyB_61 (fun x8 q9=>CallOk.froz (g_ref17_Draft_from_ok p0 (zw (4+(zw (8*s5.1)))) x8 q9) (snap_full (w:=1) (bx:=false) (ro:=false) rfl)) h (fun x8 q9 h=>?_)
   refine callW bodyB_60 (fun x10 q11=>CallOk.froz (g_ref17_Split_ok (zw (1+(zw (Int.tmod p0.States 4)))) (zw (1+(zw (Int.tmod p0.Grain 12)))) x8 x10 q11) (snap_full (w:=1) (bx:=false) (ro:=false) rfl)) h (fun x10 q11 h=>?_)
   refine sgL false [] [.lst true] false gE ?_
   refine appR (enc:=z1) (l:=s5.2.1) (m:=([x10]:(List (List Int)))) (w:=1) (bytes:=24) (ob:=4) (nr:=true) (fl:=false) (nr':=true) (fl':=false) (b:=.ref 6 0 1) (rds:=[6]) false kr kr kr rfl gE kr h (fun h=>?_)
   refine sy 2 14 (rgd ?_)
   refine wgc [1,2,3,4,5,6,7] [0,1,2,3,7,5] ⟨[(1,.ptr 0 0 0),(2,.ptr 1 0 0),(3,vI (zw (1+(zw (Int.tmod p0.Grain 12))))),(4,vI (zw (1+(zw (Int.tmod p0.States 4))))),(5,vI (zw (1+(zw (Int.tmod p0.Shows 4))))),(6,.ptr 2 0 0),(7,vI s5.1)],[oX true false 5 (.agg [.int .u8 p0.Grain,.int .u8 p0.States,.int .u8 p0.Shows,eL true (AV.int .u8) p0.L,eL true (AV.int .u8) p0.Seen]),oX true false 4 (.agg [vI 0,.nils,.nils,.nils]),oX false false 4 (.agg [vI (zw (1+(zw (Int.tmod p0.Grain 12)))),.ref 3 0 x3.length,.ref 4 0 ((s5.2.1++([x10]:(List (List Int)))).length),.ref 5 0 s5.2.2.length]),oR true 1 eI x3,oR false 1 z1 (s5.2.1++([x10]:(List (List Int)))),oR false 1 z1 s5.2.2],62⟩ ?_
   refine rga hfol (sy 8 8 ?_)
   refine callW bodyB_61 (fun x12 q13=>CallOk.froz (g_ref17_Draft_from_ok p0 (zw (8+(zw (8*s5.1)))) x12 q13) (snap_full (w:=1) (bx:=false) (ro:=false) rfl)) h (fun x12 q13 h=>?_)
   refine callW bodyB_60 (fun x14 q15=>CallOk.froz (g_ref17_Split_ok (zw (1+(zw (Int.tmod p0.Shows 4)))) (zw (1+(zw (Int.tmod p0.Grain 12)))) x12 x14 q15) (snap_full (w:=1) (bx:=false) (ro:=false) rfl)) h (fun x14 q15 h=>?_)
   refine sgL false [] [.lst true] false gE ?_
   refine appR (enc:=z1) (l:=s5.2.2) (m:=([x14]:(List (List Int)))) (w:=1) (bytes:=24) (ob:=5) (nr:=true) (fl:=false) (nr':=true) (fl':=false) (b:=.ref 6 0 1) (rds:=[6]) false kr kr kr rfl gE kr h (fun h=>?_)
   refine sy 2 14 (rgd (wg [1,2,3,4,5,6,7] [0,1,2,3,4,7] (rn ?_)))
   cases h
   exact ⟨_,rfl,(wk_gc (live:=[1,2,3,4,5,6,7]) (keep:=[0,1,2,3,4,5]) kr)⟩
  refine wcF (wg [2,6] [1,2,3,4,5] ?_)
  refine wp_exit ?_
  cases h
  exact ⟨kr,rfl⟩
 intro x17 h out hx
 subst hx
 refine sq (wg [2] [0,2,3,4] ?_)
 cases h
 exact wp_ret (show fnOut _ _ _ _=_ from by kernel_rfl)
theorem g_ref17_Draft_What_ok (p0:Tharuspexref17_Draft) (x:(List Int)) (h:g_ref17_Draft_What p0=some x):CallOk Try.prog 13 [.agg [.int .u8 p0.Grain,.int .u8 p0.States,.int .u8 p0.Shows,eL true (AV.int .u8) p0.L,eL true (AV.int .u8) p0.Seen]] (.ret (.ref 0 0 x.length) [oR true 1 eI x]):=by
 refine fn_ok [] Try.func13 rfl (by decide +kernel) rfl ?_
 unfold g_ref17_Draft_What at h
 refine wp_eqB (base':=0) (st':=⟨[(0,.agg [.int .u8 p0.Grain,.int .u8 p0.States,.int .u8 p0.Shows,eL true (AV.int .u8) p0.L,eL true (AV.int .u8) p0.Seen])],[],37⟩) kr kr ?_
 refine wp_seq (reg_in ?_)
 refine sgL false [] [] false gE ?_
 refine sz 1 2 (reg_end rfl (sq (wp_seq (sq (wp_block ?_)))))
 refine wwh h (fun s1=>⟨[(1,.ptr 0 0 0),(3,.ref 1 0 s1.2.length),(4,vI s1.1)],[oX true false 5 (.agg [.int .u8 p0.Grain,.int .u8 p0.States,.int .u8 p0.Shows,eL true (AV.int .u8) p0.L,eL true (AV.int .u8) p0.Seen]),oR true 1 eI s1.2],37⟩) (fun v out=>out=.go (.exit 0) ⟨[(3,.ref 0 0 v.length)],[oR true 1 eI v],37⟩) (wk_trans (wk_gc (live:=[1,3,4]) (keep:=[0]) (st':=⟨[(1,.ptr 0 0 0),(3,.nils),(4,vI 0)],[oX true false 5 (.agg [.int .u8 p0.Grain,.int .u8 p0.States,.int .u8 p0.Shows,eL true (AV.int .u8) p0.L,eL true (AV.int .u8) p0.Seen])],37⟩) kr) (wk_trans (wk_nil 3 1 true true (st':=⟨[(1,.ptr 0 0 0),(3,.ref 1 0 0),(4,vI 0)],[oX true false 5 (.agg [.int .u8 p0.Grain,.int .u8 p0.States,.int .u8 p0.Shows,eL true (AV.int .u8) p0.L,eL true (AV.int .u8) p0.Seen]),.row false false true true 1 []],37⟩) kr) (wk_gc (live:=[1,3,4]) (keep:=[0,1]) kr))) ?_ ?_
 ·intro s1 o h
  unfold g_ref17_Draft_What_b0 at h
  refine wp_seq (wp_seq (reg_in (sz 3 3 ?_)))
  refine lenL (enc:=(AV.int .u8)) (l:=p0.Seen) (fl:=true) kr gE ?_
  refine sz 2 6 (rwg [1,3,4,10] [0,1] ?_)
  refine rb [10] h (fun q3 h=>?_) (fun q3 h=>?_)
  ·refine sz 3 9 (reg_end rfl ?_)
   refine wb [12,13] h (fun q5 h=>?_) (fun q5 h=>?_)
   ·refine wcT (wp_skip (wp_seq (wp_block (rga hfol (sy 4 4 ?_)))))
    refine bind_elim h (fun a6 q7 h=>?_)
    refine idxL' (enc:=(AV.int .u8)) (l:=p0.Seen) (n:=s1.1) (fl:=true) (w:=1) (a:=a6) kr rfl gE q7 ?_
    refine sy 7 12 ?_
    refine remR (k:=.i64) (a:=zw (a6)) (b:=zw (2+(zw (Int.tmod p0.Shows 4)))) kr gE h (fun h=>?_)
    refine sy 1 14 ?_
    refine sgL false [] [] true gE ?_
    refine appR (enc:=eI) (l:=s1.2) (m:=([zw ((Int.tmod (zw (a6)) (zw (2+(zw (Int.tmod p0.Shows 4))))) - 1)]:(List Int))) (w:=1) (bytes:=8) (ob:=1) (nr:=true) (fl:=true) (nr':=true) (fl':=true) (b:=.ref 2 0 1) (rds:=[2]) false kr kr kr rfl gE kr h (fun h=>?_)
    refine sy 1 17 (rgd ?_)
    refine wgc [1,3,4] [0,3] ⟨[(1,.ptr 0 0 0),(3,.ref 1 0 ((s1.2++([zw ((Int.tmod (zw (a6)) (zw (2+(zw (Int.tmod p0.Shows 4))))) - 1)]:(List Int))).length)),(4,vI s1.1)],[oX true false 5 (.agg [.int .u8 p0.Grain,.int .u8 p0.States,.int .u8 p0.Shows,eL true (AV.int .u8) p0.L,eL true (AV.int .u8) p0.Seen]),oR true 1 eI (s1.2++([zw ((Int.tmod (zw (a6)) (zw (2+(zw (Int.tmod p0.Shows 4))))) - 1)]:(List Int)))],37⟩ ?_
    refine rn ?_
    cases h
    exact ⟨_,rfl,(wk_gc (live:=[1,3,4]) (keep:=[0,1]) kr)⟩
   refine wcF (wg [3] [1] ?_)
   refine wp_exit ?_
   cases h
   exact ⟨kr,rfl⟩
  refine sz 3 9 (reg_end rfl (wcF (wg [3] [1] ?_)))
  refine wp_exit ?_
  cases h
  exact ⟨kr,rfl⟩
 intro x9 h out hx
 subst hx
 refine wp_seq (sq ?_)
 refine wb [34] h (fun q11 h=>?_) (fun q11 h=>?_)
 ·refine wcT (reg_in ?_)
  refine sgL false [] [] true gE ?_
  refine sz 1 2 (reg_end rfl (sq (wg [2] [1] ?_)))
  cases h
  exact wp_ret (show fnOut _ _ _ _=_ from by kernel_rfl)
 refine wcF (wp_skip (sq (wg [2] [0] ?_)))
 cases h
 exact wp_ret (show fnOut _ _ _ _=_ from by kernel_rfl)
theorem g_hidden_sum_int_ok (p0:(List Int)) (x:Int) (h:g_hidden_sum_int p0=some x):CallOk Try.prog 90 [z1 p0] (.ret (vI x) []):=by
 refine fn_ok [] Try.func90 rfl (by decide +kernel) rfl ?_
 unfold g_hidden_sum_int at h
 refine wp_eqB (base':=0) (st':=⟨[(0,z1 p0)],[],17⟩) kr kr ?_
 refine sq (sq (wp_seq (wp_seq (reg_in (sz 1 1 ?_)))))
 refine lenL (enc:=eI) (l:=p0) (fl:=true) kr gE ?_
 refine sz 1 3 (reg_end rfl (wp_block ?_))
 refine wwh h (fun s1=>⟨[(3,vI s1.1),(6,z1 p0),(7,vI (zn p0)),(8,vI s1.2)],[],17⟩) (fun v out=>out=.go (.exit 0) ⟨[(3,vI v)],[],17⟩) (wk_gc (live:=[3,6,7,8]) (keep:=[]) kr) ?_ ?_
 ·intro s1 o h
  unfold g_hidden_sum_int_b0 at h
  refine sq (wp_seq ?_)
  refine wb [9] h (fun q3 h=>?_) (fun q3 h=>?_)
  ·refine wcT (wp_skip (wp_seq (wp_block (wp_seq (reg_in ?_)))))
   refine bind_elim h (fun a4 q5 h=>?_)
   refine idxL' (enc:=eI) (l:=p0) (n:=s1.2) (fl:=true) (w:=1) (a:=a4) kr rfl gE q5 ?_
   refine sz 2 3 (reg_end rfl (rn ?_))
   refine wgc [3,6,7,8] [] ⟨[(3,vI (zw (s1.1+a4))),(6,z1 p0),(7,vI (zn p0)),(8,vI s1.2)],[],17⟩ ?_
   refine rn ?_
   cases h
   exact ⟨_,rfl,(wk_gc (live:=[3,6,7,8]) (keep:=[]) kr)⟩
  refine wcF (wg [3] [] ?_)
  refine wp_exit ?_
  cases h
  exact ⟨kr,rfl⟩
 intro x7 h out hx
 subst hx
 refine sq (wg [2] [] ?_)
 cases h
 exact wp_ret (show fnOut _ _ _ _=_ from by kernel_rfl)
theorem g_hidden_watcher_possible_ok (p0:Thidden_watcher) (x:((List (List Int)) × Int)) (h:g_hidden_watcher_possible p0=some x):CallOk Try.prog 65 [.agg [vI p0.Hidden.Grain,z1 p0.Hidden.First,z2 p0.Hidden.Step,z2 p0.Hidden.Show,z1 p0.seen]] (.ret (.tup [.ref 0 0 x.1.length,vI x.2]) [oR false 1 z1 x.1]):=by
 refine fn_ok [] Try.func65 rfl (by decide +kernel) rfl ?_
 unfold g_hidden_watcher_possible at h
 refine wp_eqB (base':=0) (st':=⟨[(0,.agg [vI p0.Hidden.Grain,z1 p0.Hidden.First,z2 p0.Hidden.Step,z2 p0.Hidden.Show,z1 p0.seen])],[],16⟩) kr kr ?_
 refine wp_seq (reg_in ?_)
 refine sgL false [] [] false gE ?_
 refine sz 2 3 (reg_end rfl (wp_seq (reg_in (sz 1 1 ?_))))
 refine callW bodyB_63 (g_hidden_watcher_forward_ok p0) h (fun x1 _ h=>?_)
 refine sz 1 3 (reg_end rfl (wp_seq (wp_seq (wg [4] [1] (reg_in (sz 4 4 ?_))))))
 refine bind_elim h (fun a3 q4 h=>?_)
 refine idxR' (enc:=z1) (l:=x1) (n:=zw ((zn x1) - 1)) (w:=1) (ob:=0) (ro:=false) (nr:=true) (fl:=false) (a:=a3) kr kr gE q4 ?_
 refine loadR (enc:=z1) (l:=x1) (n:=zw ((zn x1) - 1)) (w:=1) (ob:=0) (c:=0) (bx:=false) (ro:=false) (nr:=true) (fl:=false) (a:=a3) kr kr q4 gE ?_
 refine callW bodyB_90 (g_hidden_sum_int_ok a3) h (fun x5 _ h=>?_)
 refine sz 1 8 (reg_end rfl ?_)
 refine wbz h (fun q8 h=>?_) (fun q8 h=>?_)
 ·refine wp_seq ?_
  refine wgc [] [] ⟨[],[],16⟩ ?_
  refine rn (wg [2,3] [] ?_)
  refine wp_wk (wk_nil 2 1 true false gE) ?_
  cases h
  exact wp_ret (show fnOut _ _ _ _=_ from by kernel_rfl)
 refine wp_skip (wp_seq ?_)
 refine wgc [4] [0] ⟨[(4,.ref 0 0 x1.length)],[oR false 1 z1 x1],16⟩ ?_
 refine rn (wg [2,3] [0] ?_)
 cases h
 exact wp_ret (show fnOut _ _ _ _=_ from by kernel_rfl)
theorem g_weigh_Ratio_ok (p0:Int) (p1:Int) (x:Tapi_Q) (h:g_weigh_Ratio p0 p1=some x):CallOk Try.prog 91 [vI p0,vI p1] (.ret (.agg [vI x.N,vI x.D]) []):=by
 refine fn_ok [] Try.func91 rfl (by decide +kernel) rfl ?_
 unfold g_weigh_Ratio at h
 refine wp_eqB (base':=0) (st':=⟨[(0,vI p0),(1,vI p1)],[],25⟩) kr kr ?_
 refine sq (sq (wp_seq (wp_block ?_)))
 refine wwh h (fun s1=>⟨[(0,vI p0),(1,vI p1),(4,.ptr 0 0 0),(5,vI s1.1),(6,vI s1.2)],[oX true true 2 (.agg [vI 0,vI 0])],25⟩) (fun v out=>out=.go (.exit 0) ⟨[(0,vI p0),(1,vI p1),(4,.ptr 0 0 0),(5,vI v)],[oX true true 2 (.agg [vI 0,vI 0])],25⟩) (wk_gc (live:=[0,1,4,5,6]) (keep:=[0]) kr) ?_ ?_
 ·intro s1 o h
  unfold g_weigh_Ratio_b0 at h
  refine wp_seq (sq ?_)
  refine wb [13] h (fun q3 h=>?_) (fun q3 h=>?_)
  ·refine wcT (wp_skip (wp_block (rga hfol (sy 3 3 ?_))))
   refine remR (k:=.i64) (a:=s1.1) (b:=s1.2) kr gE h (fun h=>?_)
   refine sy 2 6 (rgd ?_)
   cases h
   exact ⟨_,rfl,(wk_gc (live:=[0,1,4,5,6]) (keep:=[0]) kr)⟩
  refine wcF (wg [0,1,4,5] [0] ?_)
  refine wp_exit ?_
  cases h
  exact ⟨kr,rfl⟩
 intro x5 h out hx
 subst hx
 refine wp_seq (rga hfol (sy 2 2 ?_))
 refine quoR (k:=.i64) (a:=p0) (b:=x5) kr gE h (fun h=>?_)
 refine sy 2 5 ?_
 refine quoR (k:=.i64) (a:=p1) (b:=x5) kr gE h (fun h=>?_)
 refine sy 2 8 (rgd (wg [4] [0] ?_))
 cases h
 exact wp_ret (show fnOut _ _ _ _=_ from by kernel_rfl)
theorem g_hidden_divide_int_ok (p0:(List Int)) (x:(List Tapi_Q)) (h:g_hidden_divide_int p0=some x):CallOk Try.prog 67 [z1 p0] (.ret (.ref 0 0 x.length) [oR true 2 eTapi_Q x]):=by
 refine fn_ok [] Try.func67 rfl (by decide +kernel) rfl ?_
 unfold g_hidden_divide_int at h
 refine wp_eqB (base':=0) (st':=⟨[(0,z1 p0)],[],27⟩) kr kr ?_
 refine sq (wp_seq (reg_in (sz 1 1 ?_)))
 refine callW bodyB_90 (g_hidden_sum_int_ok p0) h (fun x1 _ h=>?_)
 refine sz 1 3 (reg_end rfl (wp_seq (reg_in (sz 1 1 ?_))))
 refine lenL (enc:=eI) (l:=p0) (fl:=true) kr gE ?_
 refine mkL (enc:=eTapi_Q) (z:=((Tapi_Q.mk 0 0):Tapi_Q)) (z0:=.agg [vI 0,vI 0]) (n:=(zn p0)) (m:=(zn p0)) (w:=2) (bytes:=16) [] true kr rfl gE kr h (fun h=>?_)
 refine sz 1 4 (reg_end rfl (wp_seq (wp_seq ?_)))
 refine wgc [0,3,4] [0] ⟨[(0,z1 p0),(3,vI x1),(4,.ref 0 0 ((List.replicate (zt (zn p0)) ((Tapi_Q.mk 0 0):Tapi_Q)).length))],[oR true 2 eTapi_Q (List.replicate (zt (zn p0)) ((Tapi_Q.mk 0 0):Tapi_Q))],27⟩ ?_
 refine reg_in (sz 1 1 ?_)
 refine lenL (enc:=eI) (l:=p0) (fl:=true) kr gE ?_
 refine sz 1 3 (reg_end rfl (wp_block ?_))
 refine wwh h (fun s3=>⟨[(3,vI x1),(4,.ref 0 0 s3.2.length),(12,z1 p0),(13,vI (zn p0)),(14,vI s3.1)],[oR true 2 eTapi_Q s3.2],27⟩) (fun v out=>out=.go (.exit 0) ⟨[(4,.ref 0 0 v.length)],[oR true 2 eTapi_Q v],27⟩) (wk_gc (live:=[3,4,12,13,14]) (keep:=[0]) kr) ?_ ?_
 ·intro s3 o h
  unfold g_hidden_divide_int_b0 at h
  refine sq (wp_seq ?_)
  refine wb [15] h (fun q5 h=>?_) (fun q5 h=>?_)
  ·refine wcT (wp_skip (wp_seq (wp_block (wp_seq (reg_in (sz 1 1 ?_))))))
   refine bind_elim h (fun a6 q7 h=>?_)
   refine idxL' (enc:=eI) (l:=p0) (n:=s3.1) (fl:=true) (w:=1) (a:=a6) kr rfl gE q7 ?_
   refine sz 3 5 (reg_end rfl (reg_in (sz 4 4 ?_)))
   refine callW bodyB_91 (g_weigh_Ratio_ok a6 x1) h (fun x8 _ h=>?_)
   refine bind_elim h (fun a10 q11 h=>?_)
   refine idxR' (enc:=eTapi_Q) (l:=s3.2) (n:=s3.1) (w:=2) (ob:=0) (ro:=false) (nr:=true) (fl:=true) (a:=a10) kr kr gE q11 ?_
   refine storeR (enc:=eTapi_Q) (l:=s3.2) (n:=s3.1) (ob:=0) (w:=2) (bx:=false) (nr:=true) (fl:=true) (c:=0) (a:=a10) (a':=x8) (v:=.agg [vI x8.N,vI x8.D]) false kr kr q11 kr rfl kr gE kr ?_
   refine rl [4,19] (n:=s3.2.length) (m:=(List.set s3.2 (zt s3.1) x8).length) (by simp only [List.length_set]) ?_
   refine reg_end rfl ?_
   refine wgc [3,4,12,13,14] [0] ⟨[(3,vI x1),(4,.ref 0 0 ((List.set s3.2 (zt s3.1) x8).length)),(12,z1 p0),(13,vI (zn p0)),(14,vI s3.1)],[oR true 2 eTapi_Q (List.set s3.2 (zt s3.1) x8)],27⟩ ?_
   refine rn ?_
   cases h
   exact ⟨_,rfl,(wk_gc (live:=[3,4,12,13,14]) (keep:=[0]) kr)⟩
  refine wcF (wg [4] [0] ?_)
  refine wp_exit ?_
  cases h
  exact ⟨kr,rfl⟩
 intro x14 h out hx
 subst hx
 refine sq (wg [2] [0] ?_)
 cases h
 exact wp_ret (show fnOut _ _ _ _=_ from by kernel_rfl)
noncomputable abbrev s31_6 (x1:(Thidden_watcher × Int)) (x5:((List (List Int)) × Int)):List AObj:=[oX true false 5 (.agg [vI x1.1.Hidden.Grain,z1 x1.1.Hidden.First,z2 x1.1.Hidden.Step,z2 x1.1.Hidden.Show,z1 x1.1.seen]),oR false 1 z1 x5.1]
noncomputable abbrev s31_8 (x1:(Thidden_watcher × Int)):List (Nat × AV):=[(0,.agg [vI x1.1.Hidden.Grain,z1 x1.1.Hidden.First,z2 x1.1.Hidden.Step,z2 x1.1.Hidden.Show,z1 x1.1.seen])]
noncomputable abbrev s31_9 (x1:(Thidden_watcher × Int)):List (Nat × AV):=(s31_8 x1)++[(1,.ptr 2 0 0),(2,.nils),(8,.agg [vI x1.1.Hidden.Grain,z1 x1.1.Hidden.First,z2 x1.1.Hidden.Step,z2 x1.1.Hidden.Show,z1 x1.1.seen])]
noncomputable abbrev s31_12 (x1:(Thidden_watcher × Int)):List (Nat × AV):=(s31_8 x1)++[(1,.ptr 3 0 0),(2,.nils),(5,.ptr 3 0 4),(6,z1 x1.1.seen),(7,vI (zn x1.1.seen)),(8,.ref 4 0 ((List.replicate (zt (zn x1.1.seen)) ([]:(List Int))).length)),(3,.ref 4 0 ((List.replicate (zt (zn x1.1.seen)) ([]:(List Int))).length))]
noncomputable abbrev s31_13 (x1:(Thidden_watcher × Int)) (x5:((List (List Int)) × Int)):List AObj:=[oX true false 5 (.agg [vI x1.1.Hidden.Grain,z1 x1.1.Hidden.First,z2 x1.1.Hidden.Step,z2 x1.1.Hidden.Show,z1 x1.1.seen]),oR false 1 z1 x5.1,oX true false 5 (.agg [vI x1.1.Hidden.Grain,z1 x1.1.Hidden.First,z2 x1.1.Hidden.Step,z2 x1.1.Hidden.Show,z1 x1.1.seen]),oX true false 5 (.agg [vI x1.1.Hidden.Grain,z1 x1.1.Hidden.First,z2 x1.1.Hidden.Step,z2 x1.1.Hidden.Show,z1 x1.1.seen]),.refs 5 (eF eI (List.replicate (zt (zn x1.1.seen)) ([]:(List Int)))),.fam 1 true (eF eI (List.replicate (zt (zn x1.1.seen)) ([]:(List Int))))]
noncomputable abbrev s31_23 (s9:(Int × (List (List Int)))) (x1:(Thidden_watcher × Int)):List (Nat × AV):=[(1,.ptr 3 0 0),(3,.ref 4 0 s9.2.length),(10,vI (((List.replicate (zt (zn x1.1.seen)) ([]:(List Int))).length):Int)),(11,vI s9.1)]
noncomputable abbrev s31_26 (x1:(Thidden_watcher × Int)) (x5:((List (List Int)) × Int)) (s9:(Int × (List (List Int)))):List AObj:=[oX true false 5 (.agg [vI x1.1.Hidden.Grain,z1 x1.1.Hidden.First,z2 x1.1.Hidden.Step,z2 x1.1.Hidden.Show,z1 x1.1.seen]),oR false 1 z1 x5.1,oX true false 5 (.agg [vI x1.1.Hidden.Grain,z1 x1.1.Hidden.First,z2 x1.1.Hidden.Step,z2 x1.1.Hidden.Show,z1 x1.1.seen]),oX true false 5 (.agg [vI x1.1.Hidden.Grain,z1 x1.1.Hidden.First,z2 x1.1.Hidden.Step,z2 x1.1.Hidden.Show,z1 x1.1.seen]),.refs 5 (eF eI (List.set s9.2 (zt s9.1) (List.replicate (zt (zn x1.1.Hidden.First)) (0:Int)))),.fam 1 true (eF eI (List.set s9.2 (zt s9.1) (List.replicate (zt (zn x1.1.Hidden.First)) (0:Int)))),.dead]
noncomputable abbrev s31_38 (x1:(Thidden_watcher × Int)):List (Nat × AV):=[(0,.agg [vI x1.1.Hidden.Grain,z1 x1.1.Hidden.First,z2 x1.1.Hidden.Step,z2 x1.1.Hidden.Show,z1 x1.1.seen]),(1,vI 1)]
noncomputable abbrev s31_73 (s17:(Int × (List (List Int)))) (x1:(Thidden_watcher × Int)) (s20:(Int × (List (List Int)))):List (Nat × AV):=[(1,.ptr 2 0 0),(3,.ptr 3 0 0),(4,vI s17.1),(16,vI (zn x1.1.Hidden.First)),(17,vI s20.1),(5,vI s20.1)]
noncomputable abbrev s31_163 (x5:((List (List Int)) × Int)) (s56:(Int × (List (List Tapi_Q)) × (List (List Int)))) (x55:(List (List Int))):List (Nat × AV):=[(8,.ref 0 0 x5.1.length),(9,.ref 1 0 s56.2.1.length),(31,.ref 2 0 s56.2.2.length),(32,vI (zn x55)),(33,vI s56.1)]
noncomputable abbrev s31_164 (x5:((List (List Int)) × Int)) (s56:(Int × (List (List Tapi_Q)) × (List (List Int)))):List AObj:=[oR false 1 z1 x5.1,oR false 1 (eL true eTapi_Q) s56.2.1,.refs 3 (eF eI s56.2.2),.fam 1 true (eF eI s56.2.2)]
noncomputable abbrev s31_165 (x5:((List (List Int)) × Int)) (s56:(Int × (List (List Tapi_Q)) × (List (List Int)))) (x55:(List (List Int))) (a59:(List Int)):List (Nat × AV):=(s31_163 x5 s56 x55)++[(34,vB true),(35,vI s56.1),(36,.ptr 2 (zt s56.1) 0),(37,.ref (fid 3 (zt s56.1)) 0 a59.length),(10,vI s56.1),(11,.ref (fid 3 (zt s56.1)) 0 a59.length)]
noncomputable abbrev s31_166 (x5:((List (List Int)) × Int)) (s56:(Int × (List (List Tapi_Q)) × (List (List Int)))) (x55:(List (List Int))) (a59:(List Int)):List (Nat × AV):=(s31_163 x5 s56 x55)++[(34,vB true),(35,vI s56.1),(36,.ptr 2 (zt s56.1) 0),(37,.ref (fid 3 (zt s56.1)) 0 a59.length),(10,vI s56.1),(11,.lin 3 (zt s56.1) a59.length),(38,.ref (fid 3 (zt s56.1)) 0 a59.length),(39,vI (zn a59)),(40,vI 0)]
theorem g_hidden_Smooth_ok (p0:Tapi_Hidden) (p1:(List Int)) (x:((List (List Tapi_Q)) × Int)) (h:g_hidden_Smooth p0 p1=some x):CallOk Try.prog 31 [.agg [vI p0.Grain,z1 p0.First,z2 p0.Step,z2 p0.Show],z1 p1] (.ret (.tup [.ref 0 0 x.1.length,vI x.2]) [oR false 1 (eL true eTapi_Q) x.1]):=by
 refine fn_ok [] Try.func31 rfl (by decide +kernel) rfl ?_
 unfold g_hidden_Smooth at h
 refine wp_eqB (base':=0) (st':=⟨[(0,.agg [vI p0.Grain,z1 p0.First,z2 p0.Step,z2 p0.Show]),(1,z1 p1)],[],64⟩) kr kr ?_
 refine wp_seq (reg_in ?_)
 refine sgL false [] [] false gE ?_
 refine sz 2 3 (reg_end rfl (wp_seq ?_))
 refine wp_post ?_
 refine reg_in (sz 2 2 ?_)
 refine callW bodyB_62 (g_hidden_newWatcher_ok p0 p1) h (fun x1 _ h=>?_)
 refine sz 3 6 ?_
 refine sgL false [] [] false gE ?_
 refine sz 2 9 (reg_end rfl ?_)
 refine ⟨_,wk_refl,?_⟩
 refine wp_seq (wp_seq ?_)
 refine wgc [6,7] [1] ⟨[(6,.ptr 0 0 0),(7,vI x1.2)],[oX true false 5 (.agg [vI x1.1.Hidden.Grain,z1 x1.1.Hidden.First,z2 x1.1.Hidden.Step,z2 x1.1.Hidden.Show,z1 x1.1.seen])],64⟩ ?_
 refine rn ?_
 refine wb [20] h (fun q4 h=>?_) (fun q4 h=>?_)
 ·refine wcT (sq (wg [4,5] [] ?_))
  refine wp_wk (wk_nil 4 1 true false gE) ?_
  cases h
  exact wp_ret (show fnOut _ _ _ _=_ from by kernel_rfl)
 refine wcF (wp_skip (wp_seq ?_))
 refine wp_post ?_
 refine reg_in (sz 1 1 ?_)
 refine callW bodyB_65 (g_hidden_watcher_possible_ok x1.1) h (fun x5 _ h=>?_)
 refine sz 5 7 (reg_end rfl ?_)
 refine ⟨_,wk_refl,?_⟩
 refine wp_seq (wp_seq ?_)
 refine wgc [6,7,8] [0,1] ⟨[(6,.ptr 0 0 0),(7,vI x5.2),(8,.ref 1 0 x5.1.length)],(s31_6 x1 x5),64⟩ ?_
 refine rn ?_
 refine wb [28] h (fun q8 h=>?_) (fun q8 h=>?_)
 ·refine wcT (sq (wg [4,5] [] ?_))
  refine wp_wk (wk_nil 4 1 true false gE) ?_
  cases h
  exact wp_ret (show fnOut _ _ _ _=_ from by kernel_rfl)
 refine wcF (wp_skip (sq (wp_seq (wp_seq ?_))))
 refine wp_post ?_
 refine reg_in (sz 1 1 ?_)
 refine inlR (f:=66) (fn:=Try.f66) (as0:=[.agg [vI x1.1.Hidden.Grain,z1 x1.1.Hidden.First,z2 x1.1.Hidden.Step,z2 x1.1.Hidden.Show,z1 x1.1.seen]]) kr Try.func66 rfl (by decide +kernel) rfl ?_
 refine wp_eqB (base':=2) (st':=⟨(s31_8 x1),(s31_6 x1 x5),72⟩) kr kr ?_
 refine wp_seq (reg_in ?_)
 refine sgL false [] [] false gE ?_
 refine sz 1 2 (reg_end rfl (wp_seq ?_))
 refine wp_post ?_
 refine reg_in (sz 1 1 ?_)
 refine inlR (f:=87) (fn:=Try.f87) (as0:=[.agg [vI x1.1.Hidden.Grain,z1 x1.1.Hidden.First,z2 x1.1.Hidden.Step,z2 x1.1.Hidden.Show,z1 x1.1.seen]]) kr Try.func87 rfl (by decide +kernel) rfl ?_
 refine wp_eqB (base':=3) (st':=⟨(s31_8 x1),[oX true false 5 (.agg [vI x1.1.Hidden.Grain,z1 x1.1.Hidden.First,z2 x1.1.Hidden.Step,z2 x1.1.Hidden.Show,z1 x1.1.seen]),oR false 1 z1 x5.1,oX true false 5 (.agg [vI x1.1.Hidden.Grain,z1 x1.1.Hidden.First,z2 x1.1.Hidden.Step,z2 x1.1.Hidden.Show,z1 x1.1.seen])],24⟩) kr kr ?_
 refine wp_seq (reg_in ?_)
 refine sgL false [] [] false gE ?_
 refine sz 1 2 (reg_end rfl (wp_seq ?_))
 refine wp_post ?_
 refine reg_in (sz 2 2 ?_)
 refine lenL (enc:=eI) (l:=x1.1.seen) (fl:=true) kr gE ?_
 refine mkL (enc:=fun _=>AV.nils) (z:=([]:(List Int))) (z0:=AV.nils) (n:=(zn x1.1.seen)) (m:=(zn x1.1.seen)) (w:=1) (bytes:=24) [] false kr rfl gE kr h (fun h=>?_)
 refine sgz 1 5 (S:=⟨(s31_12 x1),[oX true false 5 (.agg [vI x1.1.Hidden.Grain,z1 x1.1.Hidden.First,z2 x1.1.Hidden.Step,z2 x1.1.Hidden.Show,z1 x1.1.seen]),oR false 1 z1 x5.1,oX true false 5 (.agg [vI x1.1.Hidden.Grain,z1 x1.1.Hidden.First,z2 x1.1.Hidden.Step,z2 x1.1.Hidden.Show,z1 x1.1.seen]),oX true false 5 (.agg [vI x1.1.Hidden.Grain,z1 x1.1.Hidden.First,z2 x1.1.Hidden.Step,z2 x1.1.Hidden.Show,z1 x1.1.seen]),.row false false true false 1 (List.map (fun _=>AV.nils) (List.replicate (zt (zn x1.1.seen)) ([]:(List Int))))],24⟩) ?_
 refine reg_end rfl ?_
 refine ⟨⟨(s31_12 x1),(s31_13 x1 x5),24⟩,(wk_fam 4 1 true eI (x0:=([]:List Int)) (enc1:=fun _=>AV.nils) (st':=⟨(s31_12 x1),(s31_13 x1 x5),24⟩) rfl rfl rfl (by kernel_rfl)),?_⟩
 refine wp_seq (wp_seq (wg [1,3] [3,4,5] (rn (wp_block ?_))))
 refine wwh h (fun s9=>⟨(s31_23 s9 x1),[oX true false 5 (.agg [vI x1.1.Hidden.Grain,z1 x1.1.Hidden.First,z2 x1.1.Hidden.Step,z2 x1.1.Hidden.Show,z1 x1.1.seen]),oR false 1 z1 x5.1,oX true false 5 (.agg [vI x1.1.Hidden.Grain,z1 x1.1.Hidden.First,z2 x1.1.Hidden.Step,z2 x1.1.Hidden.Show,z1 x1.1.seen]),oX true false 5 (.agg [vI x1.1.Hidden.Grain,z1 x1.1.Hidden.First,z2 x1.1.Hidden.Step,z2 x1.1.Hidden.Show,z1 x1.1.seen]),.refs 5 (eF eI s9.2),.fam 1 true (eF eI s9.2)],24⟩) (fun v out=>out=.go (.exit 0) ⟨[(3,.ref 3 0 v.length)],[oX true false 5 (.agg [vI x1.1.Hidden.Grain,z1 x1.1.Hidden.First,z2 x1.1.Hidden.Step,z2 x1.1.Hidden.Show,z1 x1.1.seen]),oR false 1 z1 x5.1,oX true false 5 (.agg [vI x1.1.Hidden.Grain,z1 x1.1.Hidden.First,z2 x1.1.Hidden.Step,z2 x1.1.Hidden.Show,z1 x1.1.seen]),.refs 4 (eF eI v),.fam 1 true (eF eI v)],24⟩) (wk_gc (live:=[1,3,10,11]) (keep:=[3,4,5]) kr) ?_ ?_
 ·intro s9 o h
  unfold g_hidden_Smooth_b0 at h
  refine sq (wp_seq ?_)
  refine wb [12] h (fun q11 h=>?_) (fun q11 h=>?_)
  ·refine wcT (wp_skip (wp_seq (wp_block (sq ?_))))
   refine wp_post ?_
   refine reg_in (sz 5 5 ?_)
   refine lenL (enc:=eI) (l:=x1.1.Hidden.First) (fl:=true) kr gE ?_
   refine mkL (enc:=eI) (z:=(0:Int)) (z0:=vI 0) (n:=(zn x1.1.Hidden.First)) (m:=(zn x1.1.Hidden.First)) (w:=1) (bytes:=8) [] true kr rfl gE kr h (fun h=>?_)
   refine bind_elim h (fun a12 q13 h=>?_)
   refine idxF (enc:=eI) (ls:=s9.2) (x:=a12) (n:=s9.1) (ob:=4) (j:=5) kr kr q13 gE ?_
   refine storeF (enc:=eI) (ls:=s9.2) (x:=a12) (n:=s9.1) (ob:=4) (j:=5) (m:=6) (q:=(List.replicate (zt (zn x1.1.Hidden.First)) (0:Int)).length) (S:=⟨(s31_23 s9 x1)++[(12,vB true),(13,vI s9.1),(4,vI s9.1),(14,.ref 4 0 s9.2.length),(15,vI s9.1),(16,.ptr 3 0 0),(17,.ptr 3 0 1),(18,z1 x1.1.Hidden.First),(19,vI (zn x1.1.Hidden.First)),(20,.ref 6 0 ((List.replicate (zt (zn x1.1.Hidden.First)) (0:Int)).length)),(21,.ptr 4 (zt s9.1) 0)],[oX true false 5 (.agg [vI x1.1.Hidden.Grain,z1 x1.1.Hidden.First,z2 x1.1.Hidden.Step,z2 x1.1.Hidden.Show,z1 x1.1.seen]),oR false 1 z1 x5.1,oX true false 5 (.agg [vI x1.1.Hidden.Grain,z1 x1.1.Hidden.First,z2 x1.1.Hidden.Step,z2 x1.1.Hidden.Show,z1 x1.1.seen]),oX true false 5 (.agg [vI x1.1.Hidden.Grain,z1 x1.1.Hidden.First,z2 x1.1.Hidden.Step,z2 x1.1.Hidden.Show,z1 x1.1.seen]),.row false false false false 1 ((famRefs 5 0 (eF eI s9.2)).set (zt s9.1) (.ref 6 0 ((List.replicate (zt (zn x1.1.Hidden.First)) (0:Int)).length))),.fam 1 true (eF eI s9.2),oR true 1 eI (List.replicate (zt (zn x1.1.Hidden.First)) (0:Int))],24⟩) kr kr q13 kr kr kr ?_
   refine reg_end rfl ?_
   refine ⟨⟨[(1,.ptr 3 0 0),(3,.ref 4 0 ((List.set s9.2 (zt s9.1) (List.replicate (zt (zn x1.1.Hidden.First)) (0:Int))).length)),(10,vI (((List.replicate (zt (zn x1.1.seen)) ([]:(List Int))).length):Int)),(11,vI s9.1)]++[(12,vB true),(13,vI s9.1),(4,vI s9.1),(14,.ref 4 0 ((List.set s9.2 (zt s9.1) (List.replicate (zt (zn x1.1.Hidden.First)) (0:Int))).length)),(15,vI s9.1),(16,.ptr 3 0 0),(17,.ptr 3 0 1),(18,z1 x1.1.Hidden.First),(19,vI (zn x1.1.Hidden.First)),(21,.ptr 4 (zt s9.1) 0)],(s31_26 x1 x5 s9),24⟩,(wk_trans (wk_adopt 4 5 6 (enc:=eI) (ls:=s9.2) (x:=a12) (b:=(List.replicate (zt (zn x1.1.Hidden.First)) (0:Int))) (n:=s9.1) [1,3,10,11,12,13,4,14,15,16,17,18,19,21] (st':=⟨(s31_23 s9 x1)++[(12,vB true),(13,vI s9.1),(4,vI s9.1),(14,.ref 4 0 s9.2.length),(15,vI s9.1),(16,.ptr 3 0 0),(17,.ptr 3 0 1),(18,z1 x1.1.Hidden.First),(19,vI (zn x1.1.Hidden.First)),(21,.ptr 4 (zt s9.1) 0)],(s31_26 x1 x5 s9),24⟩) rfl rfl rfl q13 (by kernel_rfl) (by kernel_rfl)) (wk_eq (congrArg (fun n14=>(⟨[(1,.ptr 3 0 0),(3,.ref 4 0 n14),(10,vI (((List.replicate (zt (zn x1.1.seen)) ([]:(List Int))).length):Int)),(11,vI s9.1),(12,vB true),(13,vI s9.1),(4,vI s9.1),(14,.ref 4 0 n14),(15,vI s9.1),(16,.ptr 3 0 0),(17,.ptr 3 0 1),(18,z1 x1.1.Hidden.First),(19,vI (zn x1.1.Hidden.First)),(21,.ptr 4 (zt s9.1) 0)],(s31_26 x1 x5 s9),24⟩:St)) (show s9.2.length=(List.set s9.2 (zt s9.1) (List.replicate (zt (zn x1.1.Hidden.First)) (0:Int))).length by simp only [List.length_set])))),?_⟩
   refine wg [1,3,10,11] [3,4,5] (rn ?_)
   cases h
   exact ⟨_,rfl,(wk_gc (live:=[1,3,10,11]) (keep:=[3,4,5]) kr)⟩
  refine wcF (wg [3] [4,5] ?_)
  refine wp_exit ?_
  cases h
  exact ⟨kr,rfl⟩
 intro x16 h out hx
 subst hx
 refine sq (wg [2] [3,4] ?_)
 refine wp_ret ?_
 refine ⟨⟨(s31_9 x1)++[(9,.ref 3 0 x16.length)],[oX true false 5 (.agg [vI x1.1.Hidden.Grain,z1 x1.1.Hidden.First,z2 x1.1.Hidden.Step,z2 x1.1.Hidden.Show,z1 x1.1.seen]),oR false 1 z1 x5.1,oX true false 5 (.agg [vI x1.1.Hidden.Grain,z1 x1.1.Hidden.First,z2 x1.1.Hidden.Step,z2 x1.1.Hidden.Show,z1 x1.1.seen]),.refs 4 (eF eI x16),.fam 1 true (eF eI x16)],72⟩,by as_aux_lemma=>kernel_rfl,?_⟩
 refine sgL false [] [] false gE ?_
 refine sz 1 4 (reg_end rfl ?_)
 refine ⟨_,wk_refl,?_⟩
 refine wp_seq (wp_seq ?_)
 refine wp_post ?_
 refine reg_in (sz 1 1 ?_)
 refine inlR (f:=88) (fn:=Try.f88) (as0:=[.agg [vI x1.1.Hidden.Grain,z1 x1.1.Hidden.First,z2 x1.1.Hidden.Step,z2 x1.1.Hidden.Show,z1 x1.1.seen],vI 1]) kr Try.func88 rfl (by decide +kernel) rfl ?_
 refine wp_eqB (base':=6) (st':=⟨(s31_38 x1),[oX true false 5 (.agg [vI x1.1.Hidden.Grain,z1 x1.1.Hidden.First,z2 x1.1.Hidden.Step,z2 x1.1.Hidden.Show,z1 x1.1.seen]),oR false 1 z1 x5.1,oX true false 5 (.agg [vI x1.1.Hidden.Grain,z1 x1.1.Hidden.First,z2 x1.1.Hidden.Step,z2 x1.1.Hidden.Show,z1 x1.1.seen]),.refs 4 (eF eI x16),.fam 1 true (eF eI x16),oX false false 1 (.ref 3 0 x16.length)],12⟩) kr kr ?_
 refine wp_seq (reg_in ?_)
 refine sgL false [] [] false gE ?_
 refine sz 1 2 (reg_end rfl (wp_seq ?_))
 refine wp_post ?_
 refine reg_in (sz 1 1 ?_)
 refine sgL false [] [] false gE ?_
 refine sz 1 3 (reg_end rfl ?_)
 refine ⟨_,wk_refl,?_⟩
 refine wp_seq ?_
 refine wp_post ?_
 refine rga hfol (sy 4 4 ?_)
 refine inlN (f:=108) (fn:=Try.f108) (as0:=[.agg [vI x1.1.Hidden.Grain,z1 x1.1.Hidden.First,z2 x1.1.Hidden.Step,z2 x1.1.Hidden.Show,z1 x1.1.seen]]) kr kr Try.func108 rfl (by decide +kernel) rfl ?_
 refine wp_eqB (base':=8) (st':=⟨(s31_8 x1),[.dead,.dead,.dead,.dead,.dead,.dead,.dead,.dead],4⟩) kr kr ?_
 refine wp_seq (reg_in ?_)
 refine sgL false [] [] false gE ?_
 refine sz 1 2 (reg_end rfl (sq (wg [2] [8] ?_)))
 refine wp_ret ?_
 refine ⟨⟨(s31_38 x1)++[(2,.ptr 6 0 0),(4,.nilf),(6,.agg [.fn (.func 107) [] [],.fn (.func 108) [] []]),(5,.ptr 7 0 0),(7,vI 1),(8,.ptr 7 0 1),(9,.fn (.func 108) [] []),(10,.agg [vI x1.1.Hidden.Grain,z1 x1.1.Hidden.First,z2 x1.1.Hidden.Step,z2 x1.1.Hidden.Show,z1 x1.1.seen])]++[(11,.fn (.func 118) [] [.ptr 8 0 0])],[oX true false 5 (.agg [vI x1.1.Hidden.Grain,z1 x1.1.Hidden.First,z2 x1.1.Hidden.Step,z2 x1.1.Hidden.Show,z1 x1.1.seen]),oR false 1 z1 x5.1,oX true false 5 (.agg [vI x1.1.Hidden.Grain,z1 x1.1.Hidden.First,z2 x1.1.Hidden.Step,z2 x1.1.Hidden.Show,z1 x1.1.seen]),.refs 4 (eF eI x16),.fam 1 true (eF eI x16),oX false false 1 (.ref 3 0 x16.length),oX true false 5 (.agg [vI x1.1.Hidden.Grain,z1 x1.1.Hidden.First,z2 x1.1.Hidden.Step,z2 x1.1.Hidden.Show,z1 x1.1.seen]),oX true false 2 (.agg [.fn (.func 107) [] [],.fn (.func 108) [] []]),oX true false 5 (.agg [vI x1.1.Hidden.Grain,z1 x1.1.Hidden.First,z2 x1.1.Hidden.Step,z2 x1.1.Hidden.Show,z1 x1.1.seen])],12⟩,by as_aux_lemma=>kernel_rfl,?_⟩
 refine sy 1 6 (rgd ?_)
 refine ⟨_,wk_refl,?_⟩
 refine wg [4] [8] ?_
 refine wp_ret ?_
 refine ⟨⟨(s31_9 x1)++[(9,.ref 3 0 x16.length),(3,.ptr 5 0 0),(10,.agg [vI x1.1.Hidden.Grain,z1 x1.1.Hidden.First,z2 x1.1.Hidden.Step,z2 x1.1.Hidden.Show,z1 x1.1.seen])]++[(11,.fn (.func 118) [] [.ptr 6 0 0])],[oX true false 5 (.agg [vI x1.1.Hidden.Grain,z1 x1.1.Hidden.First,z2 x1.1.Hidden.Step,z2 x1.1.Hidden.Show,z1 x1.1.seen]),oR false 1 z1 x5.1,oX true false 5 (.agg [vI x1.1.Hidden.Grain,z1 x1.1.Hidden.First,z2 x1.1.Hidden.Step,z2 x1.1.Hidden.Show,z1 x1.1.seen]),.refs 4 (eF eI x16),.fam 1 true (eF eI x16),oX false false 1 (.ref 3 0 x16.length),oX true false 5 (.agg [vI x1.1.Hidden.Grain,z1 x1.1.Hidden.First,z2 x1.1.Hidden.Step,z2 x1.1.Hidden.Show,z1 x1.1.seen])],72⟩,by as_aux_lemma=>kernel_rfl,?_⟩
 refine reg_end rfl ?_
 refine ⟨_,wk_refl,?_⟩
 refine wp_block ?_
 refine wgc [1,3,11] [2,5,6,3,4] ⟨[(1,.ptr 2 0 0),(3,.ptr 3 0 0),(11,.fn (.func 118) [] [.ptr 4 0 0])],[oX true false 5 (.agg [vI x1.1.Hidden.Grain,z1 x1.1.Hidden.First,z2 x1.1.Hidden.Step,z2 x1.1.Hidden.Show,z1 x1.1.seen]),oR false 1 z1 x5.1,oX true false 5 (.agg [vI x1.1.Hidden.Grain,z1 x1.1.Hidden.First,z2 x1.1.Hidden.Step,z2 x1.1.Hidden.Show,z1 x1.1.seen]),oX false false 1 (.ref 5 0 x16.length),oX true false 5 (.agg [vI x1.1.Hidden.Grain,z1 x1.1.Hidden.First,z2 x1.1.Hidden.Step,z2 x1.1.Hidden.Show,z1 x1.1.seen]),.refs 6 (eF eI x16),.fam 1 true (eF eI x16)],72⟩ ?_
 refine wp_range (f:=118) (fn:=Try.f118) (first:=[]) (caps:=[.ptr 4 0 0]) rfl Try.func118 rfl (by decide +kernel) rfl rfl ?_
 refine wp_eqB (base':=8) (st':=⟨[(0,.yld 7),(1,.ptr 4 0 0)],[oX true false 5 (.agg [vI x1.1.Hidden.Grain,z1 x1.1.Hidden.First,z2 x1.1.Hidden.Step,z2 x1.1.Hidden.Show,z1 x1.1.seen]),oR false 1 z1 x5.1,oX true false 5 (.agg [vI x1.1.Hidden.Grain,z1 x1.1.Hidden.First,z2 x1.1.Hidden.Step,z2 x1.1.Hidden.Show,z1 x1.1.seen]),oX false false 1 (.ref 5 0 x16.length),oX true false 5 (.agg [vI x1.1.Hidden.Grain,z1 x1.1.Hidden.First,z2 x1.1.Hidden.Step,z2 x1.1.Hidden.Show,z1 x1.1.seen]),.refs 6 (eF eI x16),.fam 1 true (eF eI x16),.loop 72 [(1,.ptr 2 0 0),(3,.ptr 3 0 0),(11,.fn (.func 118) [] [.ptr 4 0 0])] [12] (cA Try.f66 [true,true,false,true,true]) (cB Try.f66 [true,true,false,true,true]) .ready none],16⟩) kr kr ?_
 refine wp_seq ?_
 refine wp_post ?_
 refine reg_in (sz 2 2 ?_)
 refine lenL (enc:=eI) (l:=x1.1.seen) (fl:=true) kr gE ?_
 refine sz 2 5 (reg_end rfl ?_)
 refine ⟨_,wk_refl,?_⟩
 refine wp_block ?_
 refine wwh h (fun s17=>⟨[(0,.yld 7),(3,vI s17.1)],[oX true false 5 (.agg [vI x1.1.Hidden.Grain,z1 x1.1.Hidden.First,z2 x1.1.Hidden.Step,z2 x1.1.Hidden.Show,z1 x1.1.seen]),oR false 1 z1 x5.1,oX true false 5 (.agg [vI x1.1.Hidden.Grain,z1 x1.1.Hidden.First,z2 x1.1.Hidden.Step,z2 x1.1.Hidden.Show,z1 x1.1.seen]),oX false false 1 (.ref 5 0 s17.2.length),oX true false 5 (.agg [vI x1.1.Hidden.Grain,z1 x1.1.Hidden.First,z2 x1.1.Hidden.Step,z2 x1.1.Hidden.Show,z1 x1.1.seen]),.refs 6 (eF eI s17.2),.fam 1 true (eF eI s17.2),.loop 72 [(1,.ptr 2 0 0),(3,.ptr 3 0 0),(11,.fn (.func 118) [] [.ptr 4 0 0])] [12] (cA Try.f66 [true,true,false,true,true]) (cB Try.f66 [true,true,false,true,true]) .ready none],16⟩) (fun v out=>out=.go (.exit 0) ⟨[],[oX true false 5 (.agg [vI x1.1.Hidden.Grain,z1 x1.1.Hidden.First,z2 x1.1.Hidden.Step,z2 x1.1.Hidden.Show,z1 x1.1.seen]),oR false 1 z1 x5.1,oX true false 5 (.agg [vI x1.1.Hidden.Grain,z1 x1.1.Hidden.First,z2 x1.1.Hidden.Step,z2 x1.1.Hidden.Show,z1 x1.1.seen]),oX false false 1 (.ref 5 0 v.length),oX true false 5 (.agg [vI x1.1.Hidden.Grain,z1 x1.1.Hidden.First,z2 x1.1.Hidden.Step,z2 x1.1.Hidden.Show,z1 x1.1.seen]),.refs 6 (eF eI v),.fam 1 true (eF eI v),.loop 72 [(1,.ptr 2 0 0),(3,.ptr 3 0 0),(11,.fn (.func 118) [] [.ptr 4 0 0])] [12] (cA Try.f66 [true,true,false,true,true]) (cB Try.f66 [true,true,false,true,true]) .ready none],16⟩) (wk_gc (live:=[0,3]) (keep:=[]) kr) ?_ ?_
 ·intro s17 o h
  unfold g_hidden_Smooth_b3 at h
  refine wp_seq (sq ?_)
  refine wb [9] h (fun q19 h=>?_) (fun q19 h=>?_)
  ·refine wcT (wp_skip (wp_seq (wp_block (wp_seq ?_))))
   refine wp_post ?_
   refine reg_in (sz 2 2 ?_)
   refine yldR (l:=7) (nt:=72) (us:=[vI s17.1]) (sl:=[(1,.ptr 2 0 0),(3,.ptr 3 0 0),(11,.fn (.func 118) [] [.ptr 4 0 0])]) (ps:=[12]) (assign:=cA Try.f66 [true,true,false,true,true]) (body:=cB Try.f66 [true,true,false,true,true]) (pe:=none) kr rfl rfl ?_
   refine wp_eqB (base':=8) (st':=⟨[(1,.ptr 2 0 0),(3,.ptr 3 0 0),(11,.fn (.func 118) [] [.ptr 4 0 0]),(12,vI s17.1)],[oX true false 5 (.agg [vI x1.1.Hidden.Grain,z1 x1.1.Hidden.First,z2 x1.1.Hidden.Step,z2 x1.1.Hidden.Show,z1 x1.1.seen]),oR false 1 z1 x5.1,oX true false 5 (.agg [vI x1.1.Hidden.Grain,z1 x1.1.Hidden.First,z2 x1.1.Hidden.Step,z2 x1.1.Hidden.Show,z1 x1.1.seen]),oX false false 1 (.ref 5 0 s17.2.length),oX true false 5 (.agg [vI x1.1.Hidden.Grain,z1 x1.1.Hidden.First,z2 x1.1.Hidden.Step,z2 x1.1.Hidden.Show,z1 x1.1.seen]),.refs 6 (eF eI s17.2),.fam 1 true (eF eI s17.2),.loop 72 [(1,.ptr 2 0 0),(3,.ptr 3 0 0),(11,.fn (.func 118) [] [.ptr 4 0 0])] [12] (cA Try.f66 [true,true,false,true,true]) (cB Try.f66 [true,true,false,true,true]) .ready none],72⟩) kr kr ?_
   refine rn ?_
   refine ⟨⟨[(1,.ptr 2 0 0),(3,.ptr 3 0 0),(11,.fn (.func 118) [] [.ptr 4 0 0]),(12,vI s17.1),(4,vI s17.1)],[oX true false 5 (.agg [vI x1.1.Hidden.Grain,z1 x1.1.Hidden.First,z2 x1.1.Hidden.Step,z2 x1.1.Hidden.Show,z1 x1.1.seen]),oR false 1 z1 x5.1,oX true false 5 (.agg [vI x1.1.Hidden.Grain,z1 x1.1.Hidden.First,z2 x1.1.Hidden.Step,z2 x1.1.Hidden.Show,z1 x1.1.seen]),oX false false 1 (.ref 5 0 s17.2.length),oX true false 5 (.agg [vI x1.1.Hidden.Grain,z1 x1.1.Hidden.First,z2 x1.1.Hidden.Step,z2 x1.1.Hidden.Show,z1 x1.1.seen]),.refs 6 (eF eI s17.2),.fam 1 true (eF eI s17.2),.loop 72 [(1,.ptr 2 0 0),(3,.ptr 3 0 0),(11,.fn (.func 118) [] [.ptr 4 0 0])] [12] (cA Try.f66 [true,true,false,true,true]) (cB Try.f66 [true,true,false,true,true]) .busy none],72⟩,by as_aux_lemma=>kernel_rfl,?_⟩
   refine wp_block (wp_seq ?_)
   refine wp_post ?_
   refine reg_in (sz 3 3 ?_)
   refine lenL (enc:=eI) (l:=x1.1.Hidden.First) (fl:=true) kr gE ?_
   refine sz 1 5 (reg_end rfl ?_)
   refine ⟨_,wk_refl,?_⟩
   refine wp_block ?_
   refine wwh h (fun s20=>⟨[(1,.ptr 2 0 0),(3,.ptr 3 0 0),(4,vI s17.1),(16,vI (zn x1.1.Hidden.First)),(17,vI s20.1)],[oX true false 5 (.agg [vI x1.1.Hidden.Grain,z1 x1.1.Hidden.First,z2 x1.1.Hidden.Step,z2 x1.1.Hidden.Show,z1 x1.1.seen]),oR false 1 z1 x5.1,oX true false 5 (.agg [vI x1.1.Hidden.Grain,z1 x1.1.Hidden.First,z2 x1.1.Hidden.Step,z2 x1.1.Hidden.Show,z1 x1.1.seen]),oX false false 1 (.ref 5 0 s20.2.length),oX true false 5 (.agg [vI x1.1.Hidden.Grain,z1 x1.1.Hidden.First,z2 x1.1.Hidden.Step,z2 x1.1.Hidden.Show,z1 x1.1.seen]),.refs 6 (eF eI s20.2),.fam 1 true (eF eI s20.2),.loop 72 [(1,.ptr 2 0 0),(3,.ptr 3 0 0),(11,.fn (.func 118) [] [.ptr 4 0 0])] [12] (cA Try.f66 [true,true,false,true,true]) (cB Try.f66 [true,true,false,true,true]) .busy none],72⟩) (fun v out=>out=.go (.exit 2) ⟨[],[oX true false 5 (.agg [vI x1.1.Hidden.Grain,z1 x1.1.Hidden.First,z2 x1.1.Hidden.Step,z2 x1.1.Hidden.Show,z1 x1.1.seen]),oR false 1 z1 x5.1,oX true false 5 (.agg [vI x1.1.Hidden.Grain,z1 x1.1.Hidden.First,z2 x1.1.Hidden.Step,z2 x1.1.Hidden.Show,z1 x1.1.seen]),oX false false 1 (.ref 5 0 v.length),oX true false 5 (.agg [vI x1.1.Hidden.Grain,z1 x1.1.Hidden.First,z2 x1.1.Hidden.Step,z2 x1.1.Hidden.Show,z1 x1.1.seen]),.refs 6 (eF eI v),.fam 1 true (eF eI v),.loop 72 [(1,.ptr 2 0 0),(3,.ptr 3 0 0),(11,.fn (.func 118) [] [.ptr 4 0 0])] [12] (cA Try.f66 [true,true,false,true,true]) (cB Try.f66 [true,true,false,true,true]) .busy none],72⟩) (wk_gc (live:=[1,3,4,16,17]) (keep:=[]) kr) ?_ ?_
   ·intro s20 o h
    unfold g_hidden_Smooth_b2 at h
    refine sq (wp_seq ?_)
    refine wb [18] h (fun q22 h=>?_) (fun q22 h=>?_)
    ·refine wcT (wp_skip (wp_seq (wp_block (sq (wp_seq (wp_seq ?_))))))
     refine wp_post ?_
     refine reg_in (sz 3 3 ?_)
     refine lenL (enc:=eI) (l:=x1.1.seen) (fl:=true) kr gE ?_
     refine sz 2 6 (reg_end rfl ?_)
     refine ⟨_,wk_refl,?_⟩
     refine wbz h (fun q24 h=>?_) (fun q24 h=>?_)
     ·refine wp_seq ?_
      refine wgc [1,3,4,16,17,5] [] ⟨(s31_73 s17 x1 s20),[oX true false 5 (.agg [vI x1.1.Hidden.Grain,z1 x1.1.Hidden.First,z2 x1.1.Hidden.Step,z2 x1.1.Hidden.Show,z1 x1.1.seen]),oR false 1 z1 x5.1,oX true false 5 (.agg [vI x1.1.Hidden.Grain,z1 x1.1.Hidden.First,z2 x1.1.Hidden.Step,z2 x1.1.Hidden.Show,z1 x1.1.seen]),oX false false 1 (.ref 5 0 s20.2.length),oX true false 5 (.agg [vI x1.1.Hidden.Grain,z1 x1.1.Hidden.First,z2 x1.1.Hidden.Step,z2 x1.1.Hidden.Show,z1 x1.1.seen]),.refs 6 (eF eI s20.2),.fam 1 true (eF eI s20.2),.loop 72 [(1,.ptr 2 0 0),(3,.ptr 3 0 0),(11,.fn (.func 118) [] [.ptr 4 0 0])] [12] (cA Try.f66 [true,true,false,true,true]) (cB Try.f66 [true,true,false,true,true]) .busy none],72⟩ ?_
      refine wp_post ?_
      refine reg_in (sz 2 2 ?_)
      refine bind_elim h (fun a25 q26 h=>?_)
      refine idxF (enc:=eI) (ls:=s20.2) (x:=a25) (n:=s17.1) (ob:=5) (j:=6) kr kr q26 gE ?_
      refine loadF (enc:=eI) (ls:=s20.2) (x:=a25) (n:=s17.1) (ob:=5) (j:=6) kr kr q26 gE ?_
      refine sz 1 5 ?_
      refine bind_elim h (fun a27 q28 h=>?_)
      refine idxI (enc:=eI) (ls:=s20.2) (x:=a25) (y:=a27) (n:=s17.1) (c:=s20.1) (w:=1) (j:=6) (fl:=true) kr kr q26 q28 rfl gE ?_
      refine storeI (enc:=eI) (ls:=s20.2) (x:=a25) (y:=a27) (y':=1) (n:=s17.1) (m:=s20.1) (w:=1) (j:=6) (q:=5) (c:=0) (fl:=true) (v:=vI 1) kr kr kr q26 q28 rfl kr kr kr gE ?_
      refine rknN (n:=s20.2.length) (m:=(List.set s20.2 (zt s17.1) (List.set a25 (zt s20.1) 1)).length) (S:=fun n29=>⟨(s31_73 s17 x1 s20)++[(26,.ref 5 0 n29),(27,vI s17.1),(28,.ptr 5 (zt s17.1) 0),(29,.ref (fid 6 (zt s17.1)) 0 a25.length),(30,vI s20.1),(31,.ptr (fid 6 (zt s17.1)) (zt s20.1) 0)],[oX true false 5 (.agg [vI x1.1.Hidden.Grain,z1 x1.1.Hidden.First,z2 x1.1.Hidden.Step,z2 x1.1.Hidden.Show,z1 x1.1.seen]),oR false 1 z1 x5.1,oX true false 5 (.agg [vI x1.1.Hidden.Grain,z1 x1.1.Hidden.First,z2 x1.1.Hidden.Step,z2 x1.1.Hidden.Show,z1 x1.1.seen]),oX false false 1 (.ref 5 0 n29),oX true false 5 (.agg [vI x1.1.Hidden.Grain,z1 x1.1.Hidden.First,z2 x1.1.Hidden.Step,z2 x1.1.Hidden.Show,z1 x1.1.seen]),.refs 6 (eF eI (List.set s20.2 (zt s17.1) (List.set a25 (zt s20.1) 1))),.fam 1 true (eF eI (List.set s20.2 (zt s17.1) (List.set a25 (zt s20.1) 1))),.loop 72 [(1,.ptr 2 0 0),(3,.ptr 3 0 0),(11,.fn (.func 118) [] [.ptr 4 0 0])] [12] (cA Try.f66 [true,true,false,true,true]) (cB Try.f66 [true,true,false,true,true]) .busy none],72⟩) (by simp only [List.length_set]) ?_
      refine reg_end rfl ?_
      refine ⟨_,wk_refl,?_⟩
      refine wg [1,3,4,16,17] [] ?_
      refine wp_exit ?_
      refine rn ?_
      cases h
      exact ⟨_,rfl,(wk_gc (live:=[1,3,4,16,17]) (keep:=[]) kr)⟩
     refine wp_skip (wp_seq ?_)
     refine wgc [1,3,4,16,17,5] [] ⟨(s31_73 s17 x1 s20),[oX true false 5 (.agg [vI x1.1.Hidden.Grain,z1 x1.1.Hidden.First,z2 x1.1.Hidden.Step,z2 x1.1.Hidden.Show,z1 x1.1.seen]),oR false 1 z1 x5.1,oX true false 5 (.agg [vI x1.1.Hidden.Grain,z1 x1.1.Hidden.First,z2 x1.1.Hidden.Step,z2 x1.1.Hidden.Show,z1 x1.1.seen]),oX false false 1 (.ref 5 0 s20.2.length),oX true false 5 (.agg [vI x1.1.Hidden.Grain,z1 x1.1.Hidden.First,z2 x1.1.Hidden.Step,z2 x1.1.Hidden.Show,z1 x1.1.seen]),.refs 6 (eF eI s20.2),.fam 1 true (eF eI s20.2),.loop 72 [(1,.ptr 2 0 0),(3,.ptr 3 0 0),(11,.fn (.func 118) [] [.ptr 4 0 0])] [12] (cA Try.f66 [true,true,false,true,true]) (cB Try.f66 [true,true,false,true,true]) .busy none],72⟩ ?_
     refine wp_post ?_
     refine reg_in (sz 3 3 ?_)
     refine bind_elim h (fun a30 q31 h=>?_)
     refine idxF (enc:=eI) (ls:=s20.2) (x:=a30) (n:=zw (s17.1+1)) (ob:=5) (j:=6) kr kr q31 gE ?_
     refine loadF (enc:=eI) (ls:=s20.2) (x:=a30) (n:=zw (s17.1+1)) (ob:=5) (j:=6) kr kr q31 gE ?_
     refine sgz 2 7 (S:=⟨(s31_73 s17 x1 s20)++[(32,.ref 5 0 s20.2.length),(33,vI s17.1),(34,vI (zw (s17.1+1))),(35,.ptr 5 (zt (zw (s17.1+1))) 0),(36,.ref (fid 6 (zt (zw (s17.1+1)))) 0 a30.length),(37,vI (zn a30)),(38,vI 0)],[oX true false 5 (.agg [vI x1.1.Hidden.Grain,z1 x1.1.Hidden.First,z2 x1.1.Hidden.Step,z2 x1.1.Hidden.Show,z1 x1.1.seen]),oR false 1 z1 x5.1,oX true false 5 (.agg [vI x1.1.Hidden.Grain,z1 x1.1.Hidden.First,z2 x1.1.Hidden.Step,z2 x1.1.Hidden.Show,z1 x1.1.seen]),oX false false 1 (.ref 5 0 s20.2.length),oX true false 5 (.agg [vI x1.1.Hidden.Grain,z1 x1.1.Hidden.First,z2 x1.1.Hidden.Step,z2 x1.1.Hidden.Show,z1 x1.1.seen]),.refs 6 (eF eI s20.2),.fam 1 true (eF eI s20.2),.loop 72 [(1,.ptr 2 0 0),(3,.ptr 3 0 0),(11,.fn (.func 118) [] [.ptr 4 0 0])] [12] (cA Try.f66 [true,true,false,true,true]) (cB Try.f66 [true,true,false,true,true]) .busy none],72⟩) ?_
     refine reg_end rfl ?_
     refine ⟨⟨(s31_73 s17 x1 s20)++[(32,.ref 5 0 s20.2.length),(33,vI s17.1),(34,vI (zw (s17.1+1))),(35,.ptr 5 (zt (zw (s17.1+1))) 0),(36,.lin 6 (zt (zw (s17.1+1))) a30.length),(37,vI (zn a30)),(38,vI 0)],[oX true false 5 (.agg [vI x1.1.Hidden.Grain,z1 x1.1.Hidden.First,z2 x1.1.Hidden.Step,z2 x1.1.Hidden.Show,z1 x1.1.seen]),oR false 1 z1 x5.1,oX true false 5 (.agg [vI x1.1.Hidden.Grain,z1 x1.1.Hidden.First,z2 x1.1.Hidden.Step,z2 x1.1.Hidden.Show,z1 x1.1.seen]),oX false false 1 (.ref 5 0 s20.2.length),oX true false 5 (.agg [vI x1.1.Hidden.Grain,z1 x1.1.Hidden.First,z2 x1.1.Hidden.Step,z2 x1.1.Hidden.Show,z1 x1.1.seen]),.refs 6 (eF eI s20.2),.fam 1 true (eF eI s20.2),.loop 72 [(1,.ptr 2 0 0),(3,.ptr 3 0 0),(11,.fn (.func 118) [] [.ptr 4 0 0])] [12] (cA Try.f66 [true,true,false,true,true]) (cB Try.f66 [true,true,false,true,true]) .busy none],72⟩,(wk_lin 36 (st':=⟨(s31_73 s17 x1 s20)++[(32,.ref 5 0 s20.2.length),(33,vI s17.1),(34,vI (zw (s17.1+1))),(35,.ptr 5 (zt (zw (s17.1+1))) 0),(36,.lin 6 (zt (zw (s17.1+1))) a30.length),(37,vI (zn a30)),(38,vI 0)],[oX true false 5 (.agg [vI x1.1.Hidden.Grain,z1 x1.1.Hidden.First,z2 x1.1.Hidden.Step,z2 x1.1.Hidden.Show,z1 x1.1.seen]),oR false 1 z1 x5.1,oX true false 5 (.agg [vI x1.1.Hidden.Grain,z1 x1.1.Hidden.First,z2 x1.1.Hidden.Step,z2 x1.1.Hidden.Show,z1 x1.1.seen]),oX false false 1 (.ref 5 0 s20.2.length),oX true false 5 (.agg [vI x1.1.Hidden.Grain,z1 x1.1.Hidden.First,z2 x1.1.Hidden.Step,z2 x1.1.Hidden.Show,z1 x1.1.seen]),.refs 6 (eF eI s20.2),.fam 1 true (eF eI s20.2),.loop 72 [(1,.ptr 2 0 0),(3,.ptr 3 0 0),(11,.fn (.func 118) [] [.ptr 4 0 0])] [12] (cA Try.f66 [true,true,false,true,true]) (cB Try.f66 [true,true,false,true,true]) .busy none],72⟩) rfl (by kernel_rfl)),?_⟩
     refine wp_block ?_
     refine wwh h (fun s32=>⟨[(1,.ptr 2 0 0),(3,.ptr 3 0 0),(4,vI s17.1),(5,vI s20.1),(16,vI (zn x1.1.Hidden.First)),(17,vI s20.1),(36,.lin 6 (zt (zw (s17.1+1))) a30.length),(37,vI (zn a30)),(38,vI s32.1)],[oX true false 5 (.agg [vI x1.1.Hidden.Grain,z1 x1.1.Hidden.First,z2 x1.1.Hidden.Step,z2 x1.1.Hidden.Show,z1 x1.1.seen]),oR false 1 z1 x5.1,oX true false 5 (.agg [vI x1.1.Hidden.Grain,z1 x1.1.Hidden.First,z2 x1.1.Hidden.Step,z2 x1.1.Hidden.Show,z1 x1.1.seen]),oX false false 1 (.ref 5 0 s32.2.length),oX true false 5 (.agg [vI x1.1.Hidden.Grain,z1 x1.1.Hidden.First,z2 x1.1.Hidden.Step,z2 x1.1.Hidden.Show,z1 x1.1.seen]),.refs 6 (eF eI s32.2),.fam 1 true (eF eI s32.2),.loop 72 [(1,.ptr 2 0 0),(3,.ptr 3 0 0),(11,.fn (.func 118) [] [.ptr 4 0 0])] [12] (cA Try.f66 [true,true,false,true,true]) (cB Try.f66 [true,true,false,true,true]) .busy none],72⟩) (fun v out=>out=.go (.exit 4) ⟨[(1,.ptr 2 0 0),(3,.ptr 3 0 0),(4,vI s17.1),(16,vI (zn x1.1.Hidden.First)),(17,vI s20.1)],[oX true false 5 (.agg [vI x1.1.Hidden.Grain,z1 x1.1.Hidden.First,z2 x1.1.Hidden.Step,z2 x1.1.Hidden.Show,z1 x1.1.seen]),oR false 1 z1 x5.1,oX true false 5 (.agg [vI x1.1.Hidden.Grain,z1 x1.1.Hidden.First,z2 x1.1.Hidden.Step,z2 x1.1.Hidden.Show,z1 x1.1.seen]),oX false false 1 (.ref 5 0 v.length),oX true false 5 (.agg [vI x1.1.Hidden.Grain,z1 x1.1.Hidden.First,z2 x1.1.Hidden.Step,z2 x1.1.Hidden.Show,z1 x1.1.seen]),.refs 6 (eF eI v),.fam 1 true (eF eI v),.loop 72 [(1,.ptr 2 0 0),(3,.ptr 3 0 0),(11,.fn (.func 118) [] [.ptr 4 0 0])] [12] (cA Try.f66 [true,true,false,true,true]) (cB Try.f66 [true,true,false,true,true]) .busy none],72⟩) (wk_gc (live:=[1,3,4,5,16,17,36,37,38]) (keep:=[]) kr) ?_ ?_
     ·intro s32 o h
      unfold g_hidden_Smooth_b1 at h
      refine sq (wp_seq ?_)
      refine wbr (S:=fun b33=>⟨[(1,.ptr 2 0 0),(3,.ptr 3 0 0),(4,vI s17.1),(5,vI s20.1),(16,vI (zn x1.1.Hidden.First)),(17,vI s20.1),(36,.lin 6 (zt (zw (s17.1+1))) a30.length),(37,vI (zn a30)),(38,vI s32.1)]++[(39,vB b33)],[oX true false 5 (.agg [vI x1.1.Hidden.Grain,z1 x1.1.Hidden.First,z2 x1.1.Hidden.Step,z2 x1.1.Hidden.Show,z1 x1.1.seen]),oR false 1 z1 x5.1,oX true false 5 (.agg [vI x1.1.Hidden.Grain,z1 x1.1.Hidden.First,z2 x1.1.Hidden.Step,z2 x1.1.Hidden.Show,z1 x1.1.seen]),oX false false 1 (.ref 5 0 s32.2.length),oX true false 5 (.agg [vI x1.1.Hidden.Grain,z1 x1.1.Hidden.First,z2 x1.1.Hidden.Step,z2 x1.1.Hidden.Show,z1 x1.1.seen]),.refs 6 (eF eI s32.2),.fam 1 true (eF eI s32.2),.loop 72 [(1,.ptr 2 0 0),(3,.ptr 3 0 0),(11,.fn (.func 118) [] [.ptr 4 0 0])] [12] (cA Try.f66 [true,true,false,true,true]) (cB Try.f66 [true,true,false,true,true]) .busy none],72⟩) h (fun q34 h=>?_) (fun q34 h=>?_)
      ·refine wcT (wp_skip (wp_seq (wp_block (wp_seq ?_))))
       refine wp_wk (wk_unlin 36 (st':=⟨[(1,.ptr 2 0 0),(3,.ptr 3 0 0),(4,vI s17.1),(5,vI s20.1),(16,vI (zn x1.1.Hidden.First)),(17,vI s20.1),(36,.ref (fid 6 (zt (zw (s17.1+1)))) 0 a30.length),(37,vI (zn a30)),(38,vI s32.1),(39,vB true)],[oX true false 5 (.agg [vI x1.1.Hidden.Grain,z1 x1.1.Hidden.First,z2 x1.1.Hidden.Step,z2 x1.1.Hidden.Show,z1 x1.1.seen]),oR false 1 z1 x5.1,oX true false 5 (.agg [vI x1.1.Hidden.Grain,z1 x1.1.Hidden.First,z2 x1.1.Hidden.Step,z2 x1.1.Hidden.Show,z1 x1.1.seen]),oX false false 1 (.ref 5 0 s32.2.length),oX true false 5 (.agg [vI x1.1.Hidden.Grain,z1 x1.1.Hidden.First,z2 x1.1.Hidden.Step,z2 x1.1.Hidden.Show,z1 x1.1.seen]),.refs 6 (eF eI s32.2),.fam 1 true (eF eI s32.2),.loop 72 [(1,.ptr 2 0 0),(3,.ptr 3 0 0),(11,.fn (.func 118) [] [.ptr 4 0 0])] [12] (cA Try.f66 [true,true,false,true,true]) (cB Try.f66 [true,true,false,true,true]) .busy none],72⟩) rfl kr) ?_
       refine wp_post ?_
       refine reg_in (sz 1 1 ?_)
       refine bind_elim h (fun a35 q36 h=>?_)
       refine bind_elim h (fun a37 q38 h=>?_)
       refine idxI2 (enc:=eI) (ls:=s32.2) (x:=a35) (y:=a37) (n:=zw (s17.1+1)) (c:=s32.1) (w:=1) (j:=6) (m:=a30.length) (fl:=true) kr kr q36 q38 rfl gE h (fun h=>?_)
       refine loadI (enc:=eI) (ls:=s32.2) (x:=a35) (y:=a37) (n:=zw (s17.1+1)) (m:=s32.1) (w:=1) (j:=6) (c:=0) (fl:=true) kr kr q36 q38 rfl gE ?_
       refine sgz 2 5 (S:=⟨[(1,.ptr 2 0 0),(3,.ptr 3 0 0),(4,vI s17.1),(5,vI s20.1),(16,vI (zn x1.1.Hidden.First)),(17,vI s20.1),(36,.ref (fid 6 (zt (zw (s17.1+1)))) 0 a30.length),(37,vI (zn a30)),(38,vI s32.1),(39,vB true)]++[(40,vI s32.1),(41,.ptr (fid 6 (zt (zw (s17.1+1)))) (zt s32.1) 0),(42,vI a37),(6,vI s32.1),(7,vI a37)],[oX true false 5 (.agg [vI x1.1.Hidden.Grain,z1 x1.1.Hidden.First,z2 x1.1.Hidden.Step,z2 x1.1.Hidden.Show,z1 x1.1.seen]),oR false 1 z1 x5.1,oX true false 5 (.agg [vI x1.1.Hidden.Grain,z1 x1.1.Hidden.First,z2 x1.1.Hidden.Step,z2 x1.1.Hidden.Show,z1 x1.1.seen]),oX false false 1 (.ref 5 0 s32.2.length),oX true false 5 (.agg [vI x1.1.Hidden.Grain,z1 x1.1.Hidden.First,z2 x1.1.Hidden.Step,z2 x1.1.Hidden.Show,z1 x1.1.seen]),.refs 6 (eF eI s32.2),.fam 1 true (eF eI s32.2),.loop 72 [(1,.ptr 2 0 0),(3,.ptr 3 0 0),(11,.fn (.func 118) [] [.ptr 4 0 0])] [12] (cA Try.f66 [true,true,false,true,true]) (cB Try.f66 [true,true,false,true,true]) .busy none],72⟩) ?_
       refine reg_end rfl ?_
       refine ⟨⟨[(1,.ptr 2 0 0),(3,.ptr 3 0 0),(4,vI s17.1),(5,vI s20.1),(16,vI (zn x1.1.Hidden.First)),(17,vI s20.1),(36,.lin 6 (zt (zw (s17.1+1))) a30.length),(37,vI (zn a30)),(38,vI s32.1)]++[(39,vB true),(40,vI s32.1),(41,.ptr (fid 6 (zt (zw (s17.1+1)))) (zt s32.1) 0),(42,vI a37),(6,vI s32.1),(7,vI a37)],[oX true false 5 (.agg [vI x1.1.Hidden.Grain,z1 x1.1.Hidden.First,z2 x1.1.Hidden.Step,z2 x1.1.Hidden.Show,z1 x1.1.seen]),oR false 1 z1 x5.1,oX true false 5 (.agg [vI x1.1.Hidden.Grain,z1 x1.1.Hidden.First,z2 x1.1.Hidden.Step,z2 x1.1.Hidden.Show,z1 x1.1.seen]),oX false false 1 (.ref 5 0 s32.2.length),oX true false 5 (.agg [vI x1.1.Hidden.Grain,z1 x1.1.Hidden.First,z2 x1.1.Hidden.Step,z2 x1.1.Hidden.Show,z1 x1.1.seen]),.refs 6 (eF eI s32.2),.fam 1 true (eF eI s32.2),.loop 72 [(1,.ptr 2 0 0),(3,.ptr 3 0 0),(11,.fn (.func 118) [] [.ptr 4 0 0])] [12] (cA Try.f66 [true,true,false,true,true]) (cB Try.f66 [true,true,false,true,true]) .busy none],72⟩,(wk_lin 36 (st':=⟨[(1,.ptr 2 0 0),(3,.ptr 3 0 0),(4,vI s17.1),(5,vI s20.1),(16,vI (zn x1.1.Hidden.First)),(17,vI s20.1),(36,.lin 6 (zt (zw (s17.1+1))) a30.length),(37,vI (zn a30)),(38,vI s32.1)]++[(39,vB true),(40,vI s32.1),(41,.ptr (fid 6 (zt (zw (s17.1+1)))) (zt s32.1) 0),(42,vI a37),(6,vI s32.1),(7,vI a37)],[oX true false 5 (.agg [vI x1.1.Hidden.Grain,z1 x1.1.Hidden.First,z2 x1.1.Hidden.Step,z2 x1.1.Hidden.Show,z1 x1.1.seen]),oR false 1 z1 x5.1,oX true false 5 (.agg [vI x1.1.Hidden.Grain,z1 x1.1.Hidden.First,z2 x1.1.Hidden.Step,z2 x1.1.Hidden.Show,z1 x1.1.seen]),oX false false 1 (.ref 5 0 s32.2.length),oX true false 5 (.agg [vI x1.1.Hidden.Grain,z1 x1.1.Hidden.First,z2 x1.1.Hidden.Step,z2 x1.1.Hidden.Show,z1 x1.1.seen]),.refs 6 (eF eI s32.2),.fam 1 true (eF eI s32.2),.loop 72 [(1,.ptr 2 0 0),(3,.ptr 3 0 0),(11,.fn (.func 118) [] [.ptr 4 0 0])] [12] (cA Try.f66 [true,true,false,true,true]) (cB Try.f66 [true,true,false,true,true]) .busy none],72⟩) rfl (by kernel_rfl)),?_⟩
       refine wp_post ?_
       refine rga hfol (sy 2 2 ?_)
       refine bind_elim h (fun a39 q40 h=>?_)
       refine idxF (enc:=eI) (ls:=s32.2) (x:=a39) (n:=s17.1) (ob:=5) (j:=6) kr kr q40 gE ?_
       refine loadF (enc:=eI) (ls:=s32.2) (x:=a39) (n:=s17.1) (ob:=5) (j:=6) kr kr q40 gE ?_
       refine sy 1 5 ?_
       refine bind_elim h (fun a41 q42 h=>?_)
       refine idxI (enc:=eI) (ls:=s32.2) (x:=a39) (y:=a41) (n:=s17.1) (c:=s20.1) (w:=1) (j:=6) (fl:=true) kr kr q40 q42 rfl gE ?_
       refine loadI (enc:=eI) (ls:=s32.2) (x:=a39) (y:=a41) (n:=s17.1) (m:=s20.1) (w:=1) (j:=6) (c:=0) (fl:=true) kr kr q40 q42 rfl gE ?_
       refine sy 4 11 ?_
       refine bind_elim h (fun a43 q44 h=>?_)
       refine idxL' (enc:=z1) (l:=x1.1.Hidden.Step) (n:=s20.1) (fl:=false) (w:=1) (a:=a43) kr rfl gE q44 ?_
       refine sy 2 14 ?_
       refine bind_elim h (fun a45 q46 h=>?_)
       refine idxL' (enc:=eI) (l:=a43) (n:=s32.1) (fl:=true) (w:=1) (a:=a45) kr rfl gE q46 ?_
       refine sy 5 20 ?_
       refine callW bodyB_89 (g_hidden_watcher_shown_ok x1.1 (zw (s17.1+1)) s32.1) h (fun x47 _ h=>?_)
       refine sy 4 25 ?_
       refine idxI (enc:=eI) (ls:=s32.2) (x:=a39) (y:=a41) (n:=s17.1) (c:=s20.1) (w:=1) (j:=6) (fl:=true) kr kr q40 q42 rfl gE ?_
       refine storeI (enc:=eI) (ls:=s32.2) (x:=a39) (y:=a41) (y':=zw (a41+(zw ((zw (a45*x47))*a37)))) (n:=s17.1) (m:=s20.1) (w:=1) (j:=6) (q:=5) (c:=0) (fl:=true) (v:=vI (zw (a41+(zw ((zw (a45*x47))*a37))))) kr kr kr q40 q42 rfl kr kr kr gE ?_
       refine rknN (n:=s32.2.length) (m:=(List.set s32.2 (zt s17.1) (List.set a39 (zt s20.1) (zw (a41+(zw ((zw (a45*x47))*a37)))))).length) (S:=fun n49=>⟨[(1,.ptr 2 0 0),(3,.ptr 3 0 0),(4,vI s17.1),(5,vI s20.1),(16,vI (zn x1.1.Hidden.First)),(17,vI s20.1),(36,.lin 6 (zt (zw (s17.1+1))) a30.length),(37,vI (zn a30)),(38,vI s32.1)]++[(39,vB true),(40,vI s32.1),(41,.ptr (fid 6 (zt (zw (s17.1+1)))) (zt s32.1) 0),(42,vI a37),(6,vI s32.1),(7,vI a37),(43,.ref 5 0 n49),(44,vI s17.1),(45,.ptr 5 (zt s17.1) 0),(46,.ref (fid 6 (zt s17.1)) 0 a39.length),(47,vI s20.1),(48,.ptr (fid 6 (zt s17.1)) (zt s20.1) 0),(49,vI a41),(50,.ptr 2 0 0),(51,.ptr 2 0 2),(52,z2 x1.1.Hidden.Step),(53,vI s20.1),(54,.fz [z1 a43]),(55,z1 a43),(56,vI s32.1),(57,.fz [vI a45]),(58,vI a45),(59,.agg [vI x1.1.Hidden.Grain,z1 x1.1.Hidden.First,z2 x1.1.Hidden.Step,z2 x1.1.Hidden.Show,z1 x1.1.seen]),(60,vI s17.1),(61,vI (zw (s17.1+1))),(62,vI s32.1),(63,vI x47),(64,vI (zw (a45*x47))),(65,vI a37),(66,vI (zw ((zw (a45*x47))*a37))),(67,vI (zw (a41+(zw ((zw (a45*x47))*a37))))),(68,.ptr (fid 6 (zt s17.1)) (zt s20.1) 0)],[oX true false 5 (.agg [vI x1.1.Hidden.Grain,z1 x1.1.Hidden.First,z2 x1.1.Hidden.Step,z2 x1.1.Hidden.Show,z1 x1.1.seen]),oR false 1 z1 x5.1,oX true false 5 (.agg [vI x1.1.Hidden.Grain,z1 x1.1.Hidden.First,z2 x1.1.Hidden.Step,z2 x1.1.Hidden.Show,z1 x1.1.seen]),oX false false 1 (.ref 5 0 n49),oX true false 5 (.agg [vI x1.1.Hidden.Grain,z1 x1.1.Hidden.First,z2 x1.1.Hidden.Step,z2 x1.1.Hidden.Show,z1 x1.1.seen]),.refs 6 (eF eI (List.set s32.2 (zt s17.1) (List.set a39 (zt s20.1) (zw (a41+(zw ((zw (a45*x47))*a37))))))),.fam 1 true (eF eI (List.set s32.2 (zt s17.1) (List.set a39 (zt s20.1) (zw (a41+(zw ((zw (a45*x47))*a37))))))),.loop 72 [(1,.ptr 2 0 0),(3,.ptr 3 0 0),(11,.fn (.func 118) [] [.ptr 4 0 0])] [12] (cA Try.f66 [true,true,false,true,true]) (cB Try.f66 [true,true,false,true,true]) .busy none],72⟩) (by simp only [List.length_set]) ?_
       refine rgd ?_
       refine ⟨_,wk_refl,?_⟩
       refine wg [1,3,4,5,16,17,36,37,38] [] (rn ?_)
       cases h
       exact ⟨_,rfl,(wk_gc (live:=[1,3,4,5,16,17,36,37,38]) (keep:=[]) kr)⟩
      refine wcF (wg [1,3,4,16,17] [] ?_)
      refine wp_exit ?_
      cases h
      exact ⟨kr,rfl⟩
     intro x51 h out hx
     subst hx
     refine rn ?_
     cases h
     exact ⟨_,rfl,(wk_gc (live:=[1,3,4,16,17]) (keep:=[]) kr)⟩
    refine wcF (wg [] [] ?_)
    refine wp_exit ?_
    cases h
    exact ⟨kr,rfl⟩
   intro x53 h out hx
   subst hx
   refine ⟨⟨[(0,.yld 7),(3,vI s17.1),(8,vI s17.1),(9,vB true),(12,.yld 7),(13,vI s17.1),(14,vB true)],[oX true false 5 (.agg [vI x1.1.Hidden.Grain,z1 x1.1.Hidden.First,z2 x1.1.Hidden.Step,z2 x1.1.Hidden.Show,z1 x1.1.seen]),oR false 1 z1 x5.1,oX true false 5 (.agg [vI x1.1.Hidden.Grain,z1 x1.1.Hidden.First,z2 x1.1.Hidden.Step,z2 x1.1.Hidden.Show,z1 x1.1.seen]),oX false false 1 (.ref 5 0 x53.length),oX true false 5 (.agg [vI x1.1.Hidden.Grain,z1 x1.1.Hidden.First,z2 x1.1.Hidden.Step,z2 x1.1.Hidden.Show,z1 x1.1.seen]),.refs 6 (eF eI x53),.fam 1 true (eF eI x53),.loop 72 [(1,.ptr 2 0 0),(3,.ptr 3 0 0),(11,.fn (.func 118) [] [.ptr 4 0 0])] [12] (cA Try.f66 [true,true,false,true,true]) (cB Try.f66 [true,true,false,true,true]) .ready none],16⟩,by as_aux_lemma=>kernel_rfl,?_⟩
   refine sz 1 4 (reg_end rfl ?_)
   refine ⟨_,wk_refl,?_⟩
   refine wcF (wp_skip (wg [0,3] [] (rn ?_)))
   cases h
   exact ⟨_,rfl,(wk_gc (live:=[0,3]) (keep:=[]) kr)⟩
  refine wcF (wg [] [] ?_)
  refine wp_exit ?_
  cases h
  exact ⟨kr,rfl⟩
 intro x55 h out hx
 subst hx
 refine ⟨.go .normal ⟨[(1,.ptr 2 0 0),(3,.ptr 3 0 0),(11,.fn (.func 118) [] [.ptr 4 0 0])],[oX true false 5 (.agg [vI x1.1.Hidden.Grain,z1 x1.1.Hidden.First,z2 x1.1.Hidden.Step,z2 x1.1.Hidden.Show,z1 x1.1.seen]),oR false 1 z1 x5.1,oX true false 5 (.agg [vI x1.1.Hidden.Grain,z1 x1.1.Hidden.First,z2 x1.1.Hidden.Step,z2 x1.1.Hidden.Show,z1 x1.1.seen]),oX false false 1 (.ref 5 0 x55.length),oX true false 5 (.agg [vI x1.1.Hidden.Grain,z1 x1.1.Hidden.First,z2 x1.1.Hidden.Step,z2 x1.1.Hidden.Show,z1 x1.1.seen]),.refs 6 (eF eI x55),.fam 1 true (eF eI x55),.dead],72⟩,by as_aux_lemma=>kernel_rfl,?_⟩
 refine wp_seq ?_
 refine wp_post ?_
 refine rn ?_
 refine ⟨_,wk_refl,?_⟩
 refine wg [2] [5,6] ?_
 refine wp_ret ?_
 refine ⟨⟨[(6,.ptr 0 0 0),(7,vI x5.2),(8,.ref 1 0 x5.1.length),(27,vI x5.2),(28,vB false),(9,.nils),(30,.agg [vI x1.1.Hidden.Grain,z1 x1.1.Hidden.First,z2 x1.1.Hidden.Step,z2 x1.1.Hidden.Show,z1 x1.1.seen])]++[(31,.ref 2 0 x55.length)],[oX true false 5 (.agg [vI x1.1.Hidden.Grain,z1 x1.1.Hidden.First,z2 x1.1.Hidden.Step,z2 x1.1.Hidden.Show,z1 x1.1.seen]),oR false 1 z1 x5.1,.refs 3 (eF eI x55),.fam 1 true (eF eI x55)],64⟩,by as_aux_lemma=>kernel_rfl,?_⟩
 refine sz 2 4 (reg_end rfl ?_)
 refine ⟨_,wk_refl,?_⟩
 refine wp_block ?_
 refine wwh h (fun s56=>⟨(s31_163 x5 s56 x55),(s31_164 x5 s56),64⟩) (fun v out=>out=.go (.exit 0) ⟨[(9,.ref 0 0 v.length)],[oR false 1 (eL true eTapi_Q) v],64⟩) (wk_trans (wk_gc (live:=[8,9,31,32,33]) (keep:=[1,2,3]) (st':=⟨[(8,.ref 0 0 x5.1.length),(9,.nils),(31,.ref 1 0 x55.length),(32,vI (zn x55)),(33,vI 0)],[oR false 1 z1 x5.1,.refs 2 (eF eI x55),.fam 1 true (eF eI x55)],64⟩) kr) (wk_trans (wk_nil 9 1 true false (st':=⟨[(8,.ref 0 0 x5.1.length),(9,.ref 3 0 0),(31,.ref 1 0 x55.length),(32,vI (zn x55)),(33,vI 0)],[oR false 1 z1 x5.1,.refs 2 (eF eI x55),.fam 1 true (eF eI x55),.row false false true false 1 []],64⟩) kr) (wk_gc (live:=[8,9,31,32,33]) (keep:=[0,3,1,2]) kr))) ?_ ?_
 ·intro s56 o h
  unfold g_hidden_Smooth_b5 at h
  refine sq (wp_seq ?_)
  refine wb [34] h (fun q58 h=>?_) (fun q58 h=>?_)
  ·refine wcT (wp_skip (wp_seq (wp_block (wp_seq ?_))))
   refine wp_post ?_
   refine reg_in (sz 1 1 ?_)
   refine bind_elim h (fun a59 q60 h=>?_)
   refine idxF (enc:=eI) (ls:=s56.2.2) (x:=a59) (n:=s56.1) (ob:=2) (j:=3) kr kr q60 gE ?_
   refine loadF (enc:=eI) (ls:=s56.2.2) (x:=a59) (n:=s56.1) (ob:=2) (j:=3) kr kr q60 gE ?_
   refine sgz 2 5 (S:=⟨(s31_165 x5 s56 x55 a59),(s31_164 x5 s56),64⟩) ?_
   refine reg_end rfl ?_
   refine ⟨⟨(s31_163 x5 s56 x55)++[(34,vB true),(35,vI s56.1),(36,.ptr 2 (zt s56.1) 0),(37,.ref (fid 3 (zt s56.1)) 0 a59.length),(10,vI s56.1),(11,.lin 3 (zt s56.1) a59.length)],(s31_164 x5 s56),64⟩,(wk_lin 11 (st':=⟨(s31_163 x5 s56 x55)++[(34,vB true),(35,vI s56.1),(36,.ptr 2 (zt s56.1) 0),(37,.ref (fid 3 (zt s56.1)) 0 a59.length),(10,vI s56.1),(11,.lin 3 (zt s56.1) a59.length)],(s31_164 x5 s56),64⟩) rfl (by kernel_rfl)),?_⟩
   refine wp_seq (wp_seq ?_)
   refine wp_wk (wk_unlin 11 (st':=⟨(s31_165 x5 s56 x55 a59),(s31_164 x5 s56),64⟩) rfl kr) ?_
   refine wp_post ?_
   refine rgN (S:=⟨(s31_165 x5 s56 x55 a59)++[(38,.ref (fid 3 (zt s56.1)) 0 a59.length),(39,vI (zn a59)),(40,vI 0)],(s31_164 x5 s56),64⟩) ?_
   refine ⟨⟨(s31_166 x5 s56 x55 a59),(s31_164 x5 s56),64⟩,(wk_lin 11 (st':=⟨(s31_166 x5 s56 x55 a59),(s31_164 x5 s56),64⟩) rfl (by kernel_rfl)),?_⟩
   refine wp_block ?_
   refine wwh h (fun s61=>⟨[(8,.ref 0 0 x5.1.length),(9,.ref 1 0 s56.2.1.length),(10,vI s56.1),(11,.lin 2 (zt s56.1) a59.length),(31,.ref 3 0 s61.2.length),(32,vI (zn x55)),(33,vI s56.1),(39,vI (zn a59)),(40,vI s61.1)],[oR false 1 z1 x5.1,oR false 1 (eL true eTapi_Q) s56.2.1,.fam 1 true (eF eI s61.2),.refs 2 (eF eI s61.2)],64⟩) (fun v out=>out=.go (.exit 2) ⟨[(8,.ref 0 0 x5.1.length),(9,.ref 1 0 s56.2.1.length),(11,.lin 2 (zt s56.1) a59.length),(31,.ref 3 0 v.length),(32,vI (zn x55)),(33,vI s56.1)],[oR false 1 z1 x5.1,oR false 1 (eL true eTapi_Q) s56.2.1,.fam 1 true (eF eI v),.refs 2 (eF eI v)],64⟩) (wk_gc (live:=[8,9,10,11,31,32,33,39,40]) (keep:=[0,1,3,2]) kr) ?_ ?_
   ·intro s61 o h
    unfold g_hidden_Smooth_b4 at h
    refine sq (wp_seq ?_)
    refine wb [41] h (fun q63 h=>?_) (fun q63 h=>?_)
    ·refine wcT (wp_skip (wp_seq (wp_block ?_)))
     refine sqN (S:=⟨[(8,.ref 0 0 x5.1.length),(9,.ref 1 0 s56.2.1.length),(10,vI s56.1),(11,.lin 2 (zt s56.1) a59.length),(31,.ref 3 0 s61.2.length),(32,vI (zn x55)),(33,vI s56.1),(39,vI (zn a59)),(40,vI s61.1)]++[(41,vB true),(42,vI s61.1),(12,vI s61.1)],[oR false 1 z1 x5.1,oR false 1 (eL true eTapi_Q) s56.2.1,.fam 1 true (eF eI s61.2),.refs 2 (eF eI s61.2)],64⟩) ?_
     refine wp_wk (wk_unlin 11 (st':=⟨[(8,.ref 0 0 x5.1.length),(9,.ref 1 0 s56.2.1.length),(10,vI s56.1),(11,.ref (fid 2 (zt s56.1)) 0 a59.length),(31,.ref 3 0 s61.2.length),(32,vI (zn x55)),(33,vI s56.1),(39,vI (zn a59)),(40,vI s61.1),(41,vB true),(42,vI s61.1),(12,vI s61.1)],[oR false 1 z1 x5.1,oR false 1 (eL true eTapi_Q) s56.2.1,.fam 1 true (eF eI s61.2),.refs 2 (eF eI s61.2)],64⟩) rfl kr) ?_
     refine wp_post ?_
     refine rga hfol (sy 2 2 ?_)
     refine bind_elim h (fun a64 q65 h=>?_)
     refine bind_elim h (fun a66 q67 h=>?_)
     refine idxI2 (enc:=eI) (ls:=s61.2) (x:=a64) (y:=a66) (n:=s56.1) (c:=s61.1) (w:=1) (j:=2) (m:=a59.length) (fl:=true) kr kr q65 q67 rfl gE h (fun h=>?_)
     refine loadI (enc:=eI) (ls:=s61.2) (x:=a64) (y:=a66) (n:=s56.1) (m:=s61.1) (w:=1) (j:=2) (c:=0) (fl:=true) kr kr q65 q67 rfl gE ?_
     refine sy 2 6 ?_
     refine bind_elim h (fun a68 q69 h=>?_)
     refine idxR' (enc:=z1) (l:=x5.1) (n:=s56.1) (w:=1) (ob:=0) (ro:=false) (nr:=true) (fl:=false) (a:=a68) kr kr gE q69 ?_
     refine loadR (enc:=z1) (l:=x5.1) (n:=s56.1) (w:=1) (ob:=0) (c:=0) (bx:=false) (ro:=false) (nr:=true) (fl:=false) (a:=a68) kr kr q69 gE ?_
     refine sy 1 9 ?_
     refine bind_elim h (fun a70 q71 h=>?_)
     refine idxL' (enc:=eI) (l:=a68) (n:=s61.1) (fl:=true) (w:=1) (a:=a70) kr rfl gE q71 ?_
     refine sy 2 12 ?_
     refine idxI2 (enc:=eI) (ls:=s61.2) (x:=a64) (y:=a66) (n:=s56.1) (c:=s61.1) (w:=1) (j:=2) (m:=a59.length) (fl:=true) kr kr q65 q67 rfl gE h (fun h=>?_)
     refine storeI (enc:=eI) (ls:=s61.2) (x:=a64) (y:=a66) (y':=zw (a66*a70)) (n:=s56.1) (m:=s61.1) (w:=1) (j:=2) (q:=3) (c:=0) (fl:=true) (v:=vI (zw (a66*a70))) kr kr kr q65 q67 rfl kr kr kr gE ?_
     refine rknN (n:=s61.2.length) (m:=(List.set s61.2 (zt s56.1) (List.set a64 (zt s61.1) (zw (a66*a70)))).length) (S:=fun n72=>⟨[(8,.ref 0 0 x5.1.length),(9,.ref 1 0 s56.2.1.length),(10,vI s56.1),(11,.ref (fid 2 (zt s56.1)) 0 a59.length),(31,.ref 3 0 n72),(32,vI (zn x55)),(33,vI s56.1),(39,vI (zn a59)),(40,vI s61.1),(41,vB true),(42,vI s61.1),(12,vI s61.1),(43,.ref (fid 2 (zt s56.1)) 0 a59.length),(44,vI s61.1),(45,.ptr (fid 2 (zt s56.1)) (zt s61.1) 0),(46,vI a66),(47,.ref 0 0 x5.1.length),(48,vI s56.1),(49,.ptr 0 (zt s56.1) 0),(50,z1 a68),(51,vI s61.1),(52,.fz [vI a70]),(53,vI a70),(54,vI (zw (a66*a70))),(55,.ptr (fid 2 (zt s56.1)) (zt s61.1) 0)],[oR false 1 z1 x5.1,oR false 1 (eL true eTapi_Q) s56.2.1,.fam 1 true (eF eI (List.set s61.2 (zt s56.1) (List.set a64 (zt s61.1) (zw (a66*a70))))),.refs 2 (eF eI (List.set s61.2 (zt s56.1) (List.set a64 (zt s61.1) (zw (a66*a70)))))],64⟩) (by simp only [List.length_set]) ?_
     refine rgd ?_
     refine ⟨⟨[(8,.ref 0 0 x5.1.length),(9,.ref 1 0 s56.2.1.length),(10,vI s56.1),(11,.lin 2 (zt s56.1) a59.length),(31,.ref 3 0 ((List.set s61.2 (zt s56.1) (List.set a64 (zt s61.1) (zw (a66*a70)))).length)),(32,vI (zn x55)),(33,vI s56.1),(39,vI (zn a59)),(40,vI s61.1)]++[(41,vB true),(42,vI s61.1),(12,vI s61.1),(43,.ref (fid 2 (zt s56.1)) 0 a59.length),(44,vI s61.1),(45,.ptr (fid 2 (zt s56.1)) (zt s61.1) 0),(46,vI a66),(47,.ref 0 0 x5.1.length),(48,vI s56.1),(49,.ptr 0 (zt s56.1) 0),(50,z1 a68),(51,vI s61.1),(52,.fz [vI a70]),(53,vI a70),(54,vI (zw (a66*a70))),(55,.ptr (fid 2 (zt s56.1)) (zt s61.1) 0)],[oR false 1 z1 x5.1,oR false 1 (eL true eTapi_Q) s56.2.1,.fam 1 true (eF eI (List.set s61.2 (zt s56.1) (List.set a64 (zt s61.1) (zw (a66*a70))))),.refs 2 (eF eI (List.set s61.2 (zt s56.1) (List.set a64 (zt s61.1) (zw (a66*a70)))))],64⟩,(wk_lin 11 (st':=⟨[(8,.ref 0 0 x5.1.length),(9,.ref 1 0 s56.2.1.length),(10,vI s56.1),(11,.lin 2 (zt s56.1) a59.length),(31,.ref 3 0 ((List.set s61.2 (zt s56.1) (List.set a64 (zt s61.1) (zw (a66*a70)))).length)),(32,vI (zn x55)),(33,vI s56.1),(39,vI (zn a59)),(40,vI s61.1)]++[(41,vB true),(42,vI s61.1),(12,vI s61.1),(43,.ref (fid 2 (zt s56.1)) 0 a59.length),(44,vI s61.1),(45,.ptr (fid 2 (zt s56.1)) (zt s61.1) 0),(46,vI a66),(47,.ref 0 0 x5.1.length),(48,vI s56.1),(49,.ptr 0 (zt s56.1) 0),(50,z1 a68),(51,vI s61.1),(52,.fz [vI a70]),(53,vI a70),(54,vI (zw (a66*a70))),(55,.ptr (fid 2 (zt s56.1)) (zt s61.1) 0)],[oR false 1 z1 x5.1,oR false 1 (eL true eTapi_Q) s56.2.1,.fam 1 true (eF eI (List.set s61.2 (zt s56.1) (List.set a64 (zt s61.1) (zw (a66*a70))))),.refs 2 (eF eI (List.set s61.2 (zt s56.1) (List.set a64 (zt s61.1) (zw (a66*a70)))))],64⟩) rfl (by kernel_rfl)),?_⟩
     refine wg [8,9,10,11,31,32,33,39,40] [0,1,2,3] (rn ?_)
     cases h
     exact ⟨_,rfl,(wk_gc (live:=[8,9,10,11,31,32,33,39,40]) (keep:=[0,1,2,3]) kr)⟩
    refine wcF (wg [8,9,11,31,32,33] [0,1,2,3] ?_)
    refine wp_exit ?_
    cases h
    exact ⟨kr,rfl⟩
   intro x74 h out hx
   subst hx
   refine wp_wk (wk_unlin 11 (st':=⟨[(8,.ref 0 0 x5.1.length),(9,.ref 1 0 s56.2.1.length),(11,.ref (fid 2 (zt s56.1)) 0 a59.length),(31,.ref 3 0 x74.length),(32,vI (zn x55)),(33,vI s56.1)],[oR false 1 z1 x5.1,oR false 1 (eL true eTapi_Q) s56.2.1,.fam 1 true (eF eI x74),.refs 2 (eF eI x74)],64⟩) rfl kr) ?_
   refine wp_post ?_
   refine reg_in (sz 2 2 ?_)
   refine bind_elim h (fun a75 q76 h=>?_)
   refine rsame (n:=a59.length) (m:=a75.length) (S:=fun n79=>⟨[(8,.ref 0 0 x5.1.length),(9,.ref 1 0 s56.2.1.length),(11,.ref (fid 2 (zt s56.1)) 0 n79),(31,.ref 3 0 x74.length),(32,vI (zn x55)),(33,vI s56.1),(57,.ref 1 0 s56.2.1.length),(58,.ref (fid 2 (zt s56.1)) 0 n79)],[oR false 1 z1 x5.1,oR false 1 (eL true eTapi_Q) s56.2.1,.fam 1 true (eF eI x74),.refs 2 (eF eI x74)],64⟩) h (fun h=>?_)
   refine callR (as0:=[.ref (fid 2 (zt s56.1)) 0 a75.length]) (ids:=[(fid 2 (zt s56.1))]) (S:=fun x77=>⟨[(8,.ref 0 0 x5.1.length),(9,.ref 1 0 s56.2.1.length),(11,.ref (fid 2 (zt s56.1)) 0 a75.length),(31,.ref 3 0 x74.length),(32,vI (zn x55)),(33,vI s56.1),(57,.ref 1 0 s56.2.1.length),(58,.ref (fid 2 (zt s56.1)) 0 a75.length),(59,.ref 4 0 x77.length)],[oR false 1 z1 x5.1,oR false 1 (eL true eTapi_Q) s56.2.1,.fam 1 true (eF eI x74),.refs 2 (eF eI x74),oR true 2 eTapi_Q x77],64⟩) kr bodyB_67 (msnap_cons (snap_full (w:=1) (bx:=false) (ro:=false) (fam_row (j:=2) (w:=1) (fl:=true) (enc:=eI) kr q76)) msnap_nil (by rfl)) (fun x77 q78=>g_hidden_divide_int_ok a75 x77 q78) (fun _=>by as_aux_lemma=>kernel_rfl) h (fun x77 q78 h=>?_)
   refine bsR (parts:=[(0,eL true eTapi_Q x77)]) (ids:=[4]) (es:=[(4,.row false true true true 2 (List.map eTapi_Q x77)),(5,.row false false true (List.all [eL true eTapi_Q x77] AV.scs) 1 [eL true eTapi_Q x77])]) (S:=⟨[(8,.ref 0 0 x5.1.length),(9,.ref 1 0 s56.2.1.length),(11,.ref (fid 2 (zt s56.1)) 0 a75.length),(31,.ref 3 0 x74.length),(32,vI (zn x55)),(33,vI s56.1),(57,.ref 1 0 s56.2.1.length),(58,.ref (fid 2 (zt s56.1)) 0 a75.length),(59,.ref 4 0 x77.length),(60,.ref 5 0 1)],[oR false 1 z1 x5.1,oR false 1 (eL true eTapi_Q) s56.2.1,.fam 1 true (eF eI x74),.refs 2 (eF eI x74),.row false true true true 2 (List.map eTapi_Q x77),.row false false true false 1 [eL true eTapi_Q x77]],64⟩) [.lst true] false rfl (sparts_snap rfl (snap_full (w:=2) (bx:=false) (ro:=false) kr) sparts_nil (by rfl)) kr ?_
   refine appR (enc:=(eL true eTapi_Q)) (l:=s56.2.1) (m:=([x77]:(List (List Tapi_Q)))) (w:=1) (bytes:=24) (ob:=1) (nr:=true) (fl:=false) (nr':=true) (fl':=false) (b:=.ref 5 0 1) (rds:=[5]) false kr kr kr rfl gE kr h (fun h=>?_)
   refine sz 1 6 (reg_end rfl ?_)
   refine ⟨_,wk_refl,?_⟩
   refine wg [8,9,31,32,33] [0,6,3,2] (rn ?_)
   cases h
   exact ⟨_,rfl,(wk_gc (live:=[8,9,31,32,33]) (keep:=[0,1,2,3]) kr)⟩
  refine wcF (wg [9] [1] ?_)
  refine wp_exit ?_
  cases h
  exact ⟨kr,rfl⟩
 intro x81 h out hx
 subst hx
 refine sq (wg [4,5] [0] ?_)
 cases h
 exact wp_ret (show fnOut _ _ _ _=_ from by kernel_rfl)
end Go.Ab
