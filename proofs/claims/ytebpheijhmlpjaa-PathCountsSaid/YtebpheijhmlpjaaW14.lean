/- What functions compute. No conditions. -/
import Derived.Test.YtebpheijhmlpjaaProg
import Derived.Test.YtebpheijhmlpjaaW9
import Derived.KernelRfl
import Derived.Test.YtebpheijhmlpjaaW13
import Derived.Test.YtebpheijhmlpjaaW10
import Derived.Test.YtebpheijhmlpjaaW11
import Derived.Test.YtebpheijhmlpjaaW12
import Derived.Test.YtebpheijhmlpjaaEng8
import Derived.IntWalk
set_option linter.all false
namespace Go.Ab
open Go Go.Proofs
set_option maxRecDepth 100000
set_option maxHeartbeats 4000000
theorem g_law18_chains_ok (p0:Tharuspexref17_Draft) (p1:Tharuspexref17_Bend) (x:(Tapi_Hidden × Tapi_Hidden)) (h:g_law18_chains p0 p1=some x):CallOk Try.prog 12 [.agg [.int .u8 p0.Grain,.int .u8 p0.States,.int .u8 p0.Shows,eL true (AV.int .u8) p0.L,eL true (AV.int .u8) p0.Seen],.agg [.int .u8 p1.What,.int .u8 p1.S,.int .u8 p1.At,vI p1.N]] (.ret (.agg [vI x.1.Grain,z1 x.1.First,z2 x.1.Step,z2 x.1.Show,vI x.2.Grain,z1 x.2.First,z2 x.2.Step,z2 x.2.Show]) []):=by
 refine fn_ok [[.keep,.lst true,.lst false,.lst false,.keep,.lst true,.lst false,.lst false]] Try.func12 rfl (by decide +kernel) rfl ?_
 unfold g_law18_chains at h
 refine wp_eqB (base':=0) (st':=⟨[(0,.agg [.int .u8 p0.Grain,.int .u8 p0.States,.int .u8 p0.Shows,eL true (AV.int .u8) p0.L,eL true (AV.int .u8) p0.Seen]),(1,.agg [.int .u8 p1.What,.int .u8 p1.S,.int .u8 p1.At,vI p1.N])],[],13⟩) kr kr ?_
 refine wp_seq (reg_in ?_)
 refine sgL false [] [] false gE ?_
 refine sz 1 2 ?_
 refine sgL false [] [] false gE ?_
 refine reg_end rfl (wp_seq (reg_in (sz 1 1 ?_)))
 refine callW bodyB_25 (g_ref17_Draft_Hidden_ok p0) h (fun x1 _ h=>?_)
 refine sgL false [] [] false gE ?_
 refine sz 1 4 (reg_end rfl (wp_seq (wg [3,4,5] [1,2,6,3,4,5] (rga hfol (sy 3 3 ?_)))))
 refine callR (as0:=[.agg [.int .u8 p1.What,.int .u8 p1.S,.int .u8 p1.At,vI p1.N],.agg [vI x1.Grain,.ref 3 0 x1.First.length,.ref 4 0 x1.Step.length,.ref 5 0 x1.Show.length]]) (ids:=[3,4,5]) kr bodyB_34 (msnap_cons (snap_agg (msnap_cons rfl (msnap_cons rfl (msnap_cons rfl (msnap_cons rfl msnap_nil (by rfl)) (by rfl)) (by rfl)) (by rfl))) (msnap_cons (snap_agg (msnap_cons rfl (msnap_cons (snap_full (w:=1) (bx:=false) (ro:=false) kr) (msnap_cons (snap_full (w:=1) (bx:=false) (ro:=false) kr) (msnap_cons (snap_full (w:=1) (bx:=false) (ro:=false) kr) msnap_nil (by rfl)) (by rfl)) (by rfl)) (by rfl))) msnap_nil (by rfl)) (by rfl)) (fun x3 q4=>g_ref17_Bend_Of_ok p1 x1 x3 q4) gF h (fun x3 q4 h=>?_)
 refine sy 2 6 (rgd ?_)
 refine wgc [4] [1,3,4,5] ⟨[(4,.ptr 0 0 0)],[oX false false 8 (.agg [vI x1.Grain,.ref 1 0 x1.First.length,.ref 2 0 x1.Step.length,.ref 3 0 x1.Show.length,vI x3.Grain,z1 x3.First,z2 x3.Step,z2 x3.Show]),.row false true true true 1 (List.map eI x1.First),.row false true true false 1 (List.map z1 x1.Step),.row false true true false 1 (List.map z1 x1.Show)],13⟩ ?_
 refine wp_wk (wk_snapO 0 0 (st':=⟨[(4,.ptr 0 0 0)],[oX false false 8 (.agg [vI x1.Grain,z1 x1.First,z2 x1.Step,z2 x1.Show,vI x3.Grain,z1 x3.First,z2 x3.Step,z2 x3.Show]),.row false true true true 1 (List.map eI x1.First),.row false true true false 1 (List.map z1 x1.Step),.row false true true false 1 (List.map z1 x1.Show)],13⟩) (y:=.agg [vI x1.Grain,z1 x1.First,z2 x1.Step,z2 x1.Show,vI x3.Grain,z1 x3.First,z2 x3.Step,z2 x3.Show]) (ids:=[1,2,3]) rfl rfl rfl (snap_agg (msnap_cons rfl (msnap_cons (snap_full (w:=1) (bx:=false) (ro:=true) kr) (msnap_cons (snap_full (w:=1) (bx:=false) (ro:=true) kr) (msnap_cons (snap_full (w:=1) (bx:=false) (ro:=true) kr) (msnap_cons rfl (msnap_cons rfl (msnap_cons rfl (msnap_cons rfl msnap_nil (by rfl)) (by rfl)) (by rfl)) (by rfl)) (by rfl)) (by rfl)) (by rfl)) (by rfl))) kr) ?_
 cases h
 exact wp_ret (show fnOut _ _ _ _=_ from by kernel_rfl)
theorem g_ref17_Draft_What_ok (p0:Tharuspexref17_Draft) (x:(List Int)) (h:g_ref17_Draft_What p0=some x):CallOk Try.prog 13 [.agg [.int .u8 p0.Grain,.int .u8 p0.States,.int .u8 p0.Shows,eL true (AV.int .u8) p0.L,eL true (AV.int .u8) p0.Seen]] (.ret (.ref 0 0 x.length) [oR true 1 eI x]):=by
 refine fn_ok [] Try.func13 rfl (by decide +kernel) rfl ?_
 unfold g_ref17_Draft_What at h
 refine wp_eqB (base':=0) (st':=⟨[(0,.agg [.int .u8 p0.Grain,.int .u8 p0.States,.int .u8 p0.Shows,eL true (AV.int .u8) p0.L,eL true (AV.int .u8) p0.Seen])],[],37⟩) kr kr ?_
 refine wp_seq (reg_in ?_)
 refine sgL false [] [] false gE ?_
 refine sz 1 2 (reg_end rfl (sq (wp_seq (sq (wp_block ?_)))))
 refine wwh h (fun s1=>⟨[(1,.ptr 0 0 0),(3,.ref 1 0 s1.2.length),(4,vI s1.1)],[oX true false 5 (.agg [.int .u8 p0.Grain,.int .u8 p0.States,.int .u8 p0.Shows,eL true (AV.int .u8) p0.L,eL true (AV.int .u8) p0.Seen]),oR true 1 eI s1.2],37⟩) (fun v out=>out=.go (.exit 0) ⟨[(3,.ref 0 0 v.length)],[oR true 1 eI v],37⟩) (wk_trans (wk_gc (live:=[1,3,4]) (keep:=[0]) (st':=⟨[(1,.ptr 0 0 0),(3,.nils),(4,vI 0)],[oX true false 5 (.agg [.int .u8 p0.Grain,.int .u8 p0.States,.int .u8 p0.Shows,eL true (AV.int .u8) p0.L,eL true (AV.int .u8) p0.Seen])],37⟩) kr) (wk_trans (wk_nil 3 1 true true (st':=⟨[(1,.ptr 0 0 0),(3,.ref 1 0 0),(4,vI 0)],[oX true false 5 (.agg [.int .u8 p0.Grain,.int .u8 p0.States,.int .u8 p0.Shows,eL true (AV.int .u8) p0.L,eL true (AV.int .u8) p0.Seen]),.row false false true true 1 []],37⟩) kr) (wk_gc (live:=[1,3,4]) (keep:=[0,1]) kr))) ?_ ?_
 ·intro s1 o h
  unfold g_ref17_Draft_What_b0 at h
  refine wp_seq (wp_seq (reg_in (sz 3 3 ?_)))
  refine lenL (enc:=(AV.int .u8)) (l:=p0.Seen) (fl:=true) kr gE ?_
  refine sz 2 6 (rwg [1,3,4,10] [0,1] ?_)
  refine rb [10] h (fun q3 h=>?_) (fun q3 h=>?_)
  ·refine sz 3 9 (reg_end rfl ?_)
   refine wb [12,13] h (fun q5 h=>?_) (fun q5 h=>?_)
   ·refine wcT (wp_skip (wp_seq (wp_block (rga hfol (sy 4 4 ?_)))))
    refine bind_elim h (fun a6 q7 h=>?_)
    refine idxL' (enc:=(AV.int .u8)) (l:=p0.Seen) (n:=s1.1) (fl:=true) (w:=1) (a:=a6) kr rfl gE q7 ?_
    refine sy 7 12 ?_
    refine remR (k:=.i64) (a:=zw (a6)) (b:=zw (2+(zw (Int.tmod p0.Shows 4)))) kr gE h (fun h=>?_)
    refine sy 1 14 ?_
    refine sgL false [] [] true gE ?_
    refine appR (enc:=eI) (l:=s1.2) (m:=([zw ((Int.tmod (zw (a6)) (zw (2+(zw (Int.tmod p0.Shows 4))))) - 1)]:(List Int))) (w:=1) (bytes:=8) (ob:=1) (nr:=true) (fl:=true) (nr':=true) (fl':=true) (b:=.ref 2 0 1) (rds:=[2]) false kr kr kr rfl gE kr h (fun h=>?_)
    refine sy 1 17 (rgd ?_)
    refine wgc [1,3,4] [0,3] ⟨[(1,.ptr 0 0 0),(3,.ref 1 0 ((s1.2++([zw ((Int.tmod (zw (a6)) (zw (2+(zw (Int.tmod p0.Shows 4))))) - 1)]:(List Int))).length)),(4,vI s1.1)],[oX true false 5 (.agg [.int .u8 p0.Grain,.int .u8 p0.States,.int .u8 p0.Shows,eL true (AV.int .u8) p0.L,eL true (AV.int .u8) p0.Seen]),oR true 1 eI (s1.2++([zw ((Int.tmod (zw (a6)) (zw (2+(zw (Int.tmod p0.Shows 4))))) - 1)]:(List Int)))],37⟩ ?_
    refine rn ?_
    cases h
    exact ⟨_,rfl,(wk_gc (live:=[1,3,4]) (keep:=[0,1]) kr)⟩
   refine wcF (wg [3] [1] ?_)
   refine wp_exit ?_
   cases h
   exact ⟨kr,rfl⟩
  refine sz 3 9 (reg_end rfl (wcF (wg [3] [1] ?_)))
  refine wp_exit ?_
  cases h
  exact ⟨kr,rfl⟩
 intro x9 h out hx
 subst hx
 refine wp_seq (sq ?_)
 refine wb [34] h (fun q11 h=>?_) (fun q11 h=>?_)
 ·refine wcT (reg_in ?_)
  refine sgL false [] [] true gE ?_
  refine sz 1 2 (reg_end rfl (sq (wg [2] [1] ?_)))
  cases h
  exact wp_ret (show fnOut _ _ _ _=_ from by kernel_rfl)
 refine wcF (wp_skip (sq (wg [2] [0] ?_)))
 cases h
 exact wp_ret (show fnOut _ _ _ _=_ from by kernel_rfl)
theorem g_ref17_row_ok (p0:(List Int)) (p1:Int) (p2:Int) (x:Bool) (h:g_ref17_row p0 p1 p2=some x):CallOk Try.prog 92 [z1 p0,vI p1,vI p2] (.ret (vB x) []):=by
 refine fn_ok [] Try.func92 rfl (by decide +kernel) rfl ?_
 unfold g_ref17_row at h
 refine wp_eqB (base':=0) (st':=⟨[(0,z1 p0),(1,vI p1),(2,vI p2)],[],43⟩) kr kr ?_
 refine sq (sq (wp_seq (sq (wp_block ?_))))
 refine wwh h (fun s1=>⟨[(0,z1 p0),(1,vI p1),(2,vI p2),(7,vI s1.1),(8,vI s1.2)],[],43⟩) (fun x out=>out=match x with | .inl v=>.go (.ret) ⟨[(6,vB false)],[],43⟩ | .inr v=>.go (.exit 0) ⟨[(0,z1 p0),(1,vI p1),(2,vI p2),(7,vI v)],[],43⟩) (wk_gc (live:=[0,1,2,7,8]) (keep:=[]) kr) ?_ ?_
 ·intro s1 o h
  unfold g_ref17_row_b0 at h
  refine wp_seq (wp_seq (reg_in (sz 2 2 ?_)))
  refine lenL (enc:=eI) (l:=p0) (fl:=true) kr gE ?_
  refine sz 1 4 (reg_end rfl ?_)
  refine wb [12] h (fun q3 h=>?_) (fun q3 h=>?_)
  ·refine wcT (wp_skip (wp_seq (wp_block (wp_seq (wp_seq (reg_in (sz 2 2 ?_)))))))
   refine bind_elim h (fun a4 q5 h=>?_)
   refine idxL' (enc:=eI) (l:=p0) (n:=s1.2) (fl:=true) (w:=1) (a:=a4) kr rfl gE q5 ?_
   refine sz 3 6 ?_
   refine rw_wk (wk_gc (live:=[0,1,2,7,8,20]) (keep:=[]) (st':=⟨[(0,z1 p0),(1,vI p1),(2,vI p2),(7,vI s1.1),(8,vI s1.2),(20,vB (decide (a4 < 0)))],[],43⟩) kr) ?_
   refine rb [20] h (fun q7 h=>?_) (fun q7 h=>?_)
   ·refine sz 7 13 (reg_end rfl (wcT (wp_seq (wg [] [] (rn (wg [6] [] ?_))))))
    refine wp_ret ?_
    cases h
    exact ⟨kr,rfl⟩
   refine sz 2 8 ?_
   refine idxL' (enc:=eI) (l:=p0) (n:=s1.2) (fl:=true) (w:=1) (a:=a4) kr rfl gE q5 ?_
   refine sz 4 13 (reg_end rfl ?_)
   refine wbz h (fun q9 h=>?_) (fun q9 h=>?_)
   ·refine wp_seq (wg [] [] (rn (wg [6] [] ?_)))
    refine wp_ret ?_
    cases h
    exact ⟨kr,rfl⟩
   refine wp_skip (wg [0,1,2,7,8] [] (reg_in (sz 3 3 ?_)))
   refine idxL' (enc:=eI) (l:=p0) (n:=s1.2) (fl:=true) (w:=1) (a:=a4) kr rfl gE q5 ?_
   refine sz 3 7 (reg_end rfl ?_)
   refine wgc [0,1,2,7,8] [] ⟨[(0,z1 p0),(1,vI p1),(2,vI p2),(7,vI (zw (s1.1+a4))),(8,vI s1.2)],[],43⟩ ?_
   refine rn ?_
   cases h
   exact ⟨_,rfl,(wk_gc (live:=[0,1,2,7,8]) (keep:=[]) kr)⟩
  refine wcF (wg [0,1,2,7] [] ?_)
  refine wp_exit ?_
  cases h
  exact ⟨kr,rfl⟩
 intro x10 h out hx
 subst hx
 rcases x10 with x11 | x12
 ·dsimp only at h ⊢
  cases h
  show fnOut _ _ _ _=_
  kernel_rfl
 ·dsimp only at h ⊢
  refine wp_seq (reg_in (sz 1 1 ?_))
  refine lenL (enc:=eI) (l:=p0) (fl:=true) kr gE ?_
  refine sz 3 5 (rwg [2,7,38] [] ?_)
  refine rb [38] h (fun q14 h=>?_) (fun q14 h=>?_)
  ·refine sz 5 10 (reg_end rfl (wg [6] [] ?_))
   cases h
   exact wp_ret (show fnOut _ _ _ _=_ from by kernel_rfl)
  refine sz 5 10 (reg_end rfl (wg [6] [] ?_))
  cases h
  exact wp_ret (show fnOut _ _ _ _=_ from by kernel_rfl)
noncomputable abbrev s71_2 (p0:Tapi_Hidden):List AObj:=[oX true false 4 (.agg [vI p0.Grain,z1 p0.First,z2 p0.Step,z2 p0.Show])]
theorem g_ref17_Right_ok (p0:Tapi_Hidden) (x:Bool) (h:g_ref17_Right p0=some x):CallOk Try.prog 71 [.agg [vI p0.Grain,z1 p0.First,z2 p0.Step,z2 p0.Show]] (.ret (vB x) []):=by
 refine fn_ok [] Try.func71 rfl (by decide +kernel) rfl ?_
 unfold g_ref17_Right at h
 refine wp_eqB (base':=0) (st':=⟨[(0,.agg [vI p0.Grain,z1 p0.First,z2 p0.Step,z2 p0.Show])],[],86⟩) kr kr ?_
 refine wp_seq (reg_in ?_)
 refine sgL false [] [] false gE ?_
 refine sz 1 2 (reg_end rfl (wp_seq (reg_in (sz 2 2 ?_))))
 refine lenL (enc:=eI) (l:=p0.First) (fl:=true) kr gE ?_
 refine sz 1 4 (reg_end rfl (wp_seq (wp_seq (wg [1,3] [0] (reg_in (sz 4 4 ?_))))))
 refine rb [11,12] h (fun q2 h=>?_) (fun q2 h=>?_)
 ·refine sgz 35 39 (S:=⟨[(1,.ptr 0 0 0),(3,vI (zn p0.First)),(9,.ptr 0 0 0),(10,vI p0.Grain),(11,vB true),(12,vB true),(13,.tup []),(14,.tup []),(15,.tup []),(16,vB true),(17,vB true),(18,.tup []),(19,.tup []),(20,vB true),(21,vB true),(22,.tup []),(23,.tup []),(24,vB true),(25,vB true),(26,.tup []),(27,.tup []),(28,.tup []),(29,.tup []),(30,.tup []),(31,.tup []),(32,.tup []),(33,vB true),(34,vB true),(35,.tup []),(36,.tup []),(37,.tup []),(38,.tup []),(39,.tup []),(40,vB true),(41,vB true),(42,.tup []),(43,.tup []),(44,.tup []),(45,.tup []),(46,.tup []),(47,vB true)],(s71_2 p0),86⟩) ?_
  refine reg_end rfl (wcT (wp_seq (wg [] [] (rn (wg [2] [] ?_)))))
  cases h
  exact wp_ret (show fnOut _ _ _ _=_ from by kernel_rfl)
 refine sz 5 9 ?_
 refine rw_wk (wk_gc (live:=[1,3,17]) (keep:=[0]) (st':=⟨[(1,.ptr 0 0 0),(3,vI (zn p0.First)),(17,vB (decide (p0.Grain > 12)))],(s71_2 p0),86⟩) kr) ?_
 refine rb [17] h (fun q4 h=>?_) (fun q4 h=>?_)
 ·refine sz 30 39 (reg_end rfl (wcT (wp_seq ?_)))
  refine wgc [] [] ⟨[],[],86⟩ ?_
  refine rn (wg [2] [] ?_)
  cases h
  exact wp_ret (show fnOut _ _ _ _=_ from by kernel_rfl)
 refine sz 4 13 (rwg [1,3,21] [0] ?_)
 refine rb [21] h (fun q6 h=>?_) (fun q6 h=>?_)
 ·refine sz 26 39 (reg_end rfl (wcT (wp_seq ?_)))
  refine wgc [] [] ⟨[],[],86⟩ ?_
  refine rn (wg [2] [] ?_)
  cases h
  exact wp_ret (show fnOut _ _ _ _=_ from by kernel_rfl)
 refine sz 4 17 (rwg [1,3,25] [0] ?_)
 refine rb [25] h (fun q8 h=>?_) (fun q8 h=>?_)
 ·refine sz 22 39 (reg_end rfl (wcT (wp_seq ?_)))
  refine wgc [] [] ⟨[],[],86⟩ ?_
  refine rn (wg [2] [] ?_)
  cases h
  exact wp_ret (show fnOut _ _ _ _=_ from by kernel_rfl)
 refine sz 5 22 ?_
 refine callW bodyB_92 (g_ref17_row_ok p0.First (zn p0.First) p0.Grain) h (fun x9 _ h=>?_)
 refine sz 3 26 ?_
 refine rw_wk (wk_gc (live:=[1,3,34]) (keep:=[0]) (st':=⟨[(1,.ptr 0 0 0),(3,vI (zn p0.First)),(34,vB (!x9))],(s71_2 p0),86⟩) kr) ?_
 refine rb [34] h (fun q12 h=>?_) (fun q12 h=>?_)
 ·refine sz 13 39 (reg_end rfl (wcT (wp_seq (wg [] [] (rn ?_)))))
  refine wgc [2] [] ⟨[(2,vB false)],[],86⟩ ?_
  cases h
  exact wp_ret (show fnOut _ _ _ _=_ from by kernel_rfl)
 refine sz 2 28 ?_
 refine lenL (enc:=z1) (l:=p0.Step) (fl:=false) kr gE ?_
 refine sz 4 33 (rwg [1,3,41] [0] ?_)
 refine rb [41] h (fun q14 h=>?_) (fun q14 h=>?_)
 ·refine sz 6 39 (reg_end rfl (wcT (wp_seq ?_)))
  refine wgc [] [] ⟨[],[],86⟩ ?_
  refine rn (wg [2] [] ?_)
  cases h
  exact wp_ret (show fnOut _ _ _ _=_ from by kernel_rfl)
 refine sz 2 35 ?_
 refine lenL (enc:=z1) (l:=p0.Show) (fl:=false) kr gE ?_
 refine sz 3 39 (reg_end rfl ?_)
 refine wbz h (fun q16 h=>?_) (fun q16 h=>?_)
 ·refine wp_seq ?_
  refine wgc [] [] ⟨[],[],86⟩ ?_
  refine rn (wg [2] [] ?_)
  cases h
  exact wp_ret (show fnOut _ _ _ _=_ from by kernel_rfl)
 refine wp_skip (wp_seq ?_)
 refine wgc [1,3] [0] ⟨[(1,.ptr 0 0 0),(3,vI (zn p0.First))],(s71_2 p0),86⟩ ?_
 refine reg_in (sz 2 2 ?_)
 refine bind_elim h (fun a17 q18 h=>?_)
 refine idxL' (enc:=z1) (l:=p0.Show) (n:=0) (fl:=false) (w:=1) (a:=a17) kr rfl gE q18 ?_
 refine sz 1 4 ?_
 refine lenL (enc:=eI) (l:=a17) (fl:=true) kr gE ?_
 refine sz 1 6 (reg_end rfl (wp_seq (wp_seq (wg [1,3,4] [0] (reg_in (sz 3 3 ?_))))))
 refine rb [54,55] h (fun q20 h=>?_) (fun q20 h=>?_)
 ·refine sz 3 6 (reg_end rfl (wcT (wp_seq ?_)))
  refine wgc [] [] ⟨[],[],86⟩ ?_
  refine rn (wg [2] [] ?_)
  cases h
  exact wp_ret (show fnOut _ _ _ _=_ from by kernel_rfl)
 refine sz 3 6 (reg_end rfl ?_)
 refine wbz h (fun q22 h=>?_) (fun q22 h=>?_)
 ·refine wp_seq ?_
  refine wgc [] [] ⟨[],[],86⟩ ?_
  refine rn (wg [2] [] ?_)
  cases h
  exact wp_ret (show fnOut _ _ _ _=_ from by kernel_rfl)
 refine wp_skip (wp_seq (wp_seq ?_))
 refine wgc [1,3,4] [0] ⟨[(1,.ptr 0 0 0),(3,vI (zn p0.First)),(4,vI (zn a17))],(s71_2 p0),86⟩ ?_
 refine rn (wp_block ?_)
 refine wwh h (fun s23=>⟨[(1,.ptr 0 0 0),(3,vI (zn p0.First)),(4,vI (zn a17)),(5,vI s23)],(s71_2 p0),86⟩) (fun x out=>out=match x with | .inl v=>.go (.ret) ⟨[(2,vB false)],[],86⟩ | .inr v=>.go (.exit 0) ⟨[],[],86⟩) (wk_gc (live:=[1,3,4,5]) (keep:=[0]) kr) ?_ ?_
 ·intro s23 o h
  unfold g_ref17_Right_b0 at h
  refine wp_seq (sq ?_)
  refine wb [61] h (fun q25 h=>?_) (fun q25 h=>?_)
  ·refine wcT (wp_skip (wp_seq (wp_block (wp_seq (rga hfol (sy 3 3 ?_))))))
   refine bind_elim h (fun a26 q27 h=>?_)
   refine idxL' (enc:=z1) (l:=p0.Step) (n:=s23) (fl:=false) (w:=1) (a:=a26) kr rfl gE q27 ?_
   refine sy 4 8 ?_
   refine callW bodyB_92 (g_ref17_row_ok a26 (zn p0.First) p0.Grain) h (fun x28 _ h=>?_)
   refine sy 2 11 ?_
   refine rb [73,74] h (fun q31 h=>?_) (fun q31 h=>?_)
   ·refine sy 11 22 (rgd (wcT (wp_seq ?_)))
    refine wgc [] [] ⟨[],[],86⟩ ?_
    refine rn (wg [2] [] ?_)
    refine wp_ret ?_
    cases h
    exact ⟨kr,rfl⟩
   refine sy 3 14 ?_
   refine bind_elim h (fun a32 q33 h=>?_)
   refine idxL' (enc:=z1) (l:=p0.Show) (n:=s23) (fl:=false) (w:=1) (a:=a32) kr rfl gE q33 ?_
   refine sy 4 19 ?_
   refine callW bodyB_92 (g_ref17_row_ok a32 (zn a17) p0.Grain) h (fun x34 _ h=>?_)
   refine sy 2 22 (rgd ?_)
   refine wbz h (fun q37 h=>?_) (fun q37 h=>?_)
   ·refine wp_seq ?_
    refine wgc [] [] ⟨[],[],86⟩ ?_
    refine rn (wg [2] [] ?_)
    refine wp_ret ?_
    cases h
    exact ⟨kr,rfl⟩
   refine wp_skip ?_
   refine wgc [1,3,4,5] [0] ⟨[(1,.ptr 0 0 0),(3,vI (zn p0.First)),(4,vI (zn a17)),(5,vI s23)],(s71_2 p0),86⟩ ?_
   refine rn ?_
   cases h
   exact ⟨_,rfl,(wk_gc (live:=[1,3,4,5]) (keep:=[0]) kr)⟩
  refine wcF (wg [] [] ?_)
  refine wp_exit ?_
  cases h
  exact ⟨kr,rfl⟩
 intro x38 h out hx
 subst hx
 rcases x38 with x39 | x40
 ·dsimp only at h ⊢
  cases h
  show fnOut _ _ _ _=_
  kernel_rfl
 ·dsimp only at h ⊢
  refine sq (wg [2] [] ?_)
  cases h
  exact wp_ret (show fnOut _ _ _ _=_ from by kernel_rfl)
noncomputable abbrev s72_2 (p0:Tapi_Hidden):List AObj:=[oX true false 4 (.agg [vI p0.Grain,z1 p0.First,z2 p0.Step,z2 p0.Show])]
theorem g_ref17_Seen_ok (p0:Tapi_Hidden) (p1:(List Int)) (x:Bool) (h:g_ref17_Seen p0 p1=some x):CallOk Try.prog 72 [.agg [vI p0.Grain,z1 p0.First,z2 p0.Step,z2 p0.Show],z1 p1] (.ret (vB x) []):=by
 refine fn_ok [] Try.func72 rfl (by decide +kernel) rfl ?_
 unfold g_ref17_Seen at h
 refine wp_eqB (base':=0) (st':=⟨[(0,.agg [vI p0.Grain,z1 p0.First,z2 p0.Step,z2 p0.Show]),(1,z1 p1)],[],37⟩) kr kr ?_
 refine wp_seq (reg_in ?_)
 refine sgL false [] [] false gE ?_
 refine sz 1 2 (reg_end rfl (wp_seq (sq (wp_block ?_))))
 refine wwh h (fun s1=>⟨[(1,z1 p1),(2,.ptr 0 0 0),(5,vI s1)],(s72_2 p0),37⟩) (fun x out=>out=match x with | .inl v=>.go (.ret) ⟨[(4,vB false)],[],37⟩ | .inr v=>.go (.exit 0) ⟨[(1,z1 p1)],[],37⟩) (wk_gc (live:=[1,2,5]) (keep:=[0]) kr) ?_ ?_
 ·intro s1 o h
  unfold g_ref17_Seen_b0 at h
  refine wp_seq (wp_seq (reg_in (sz 2 2 ?_)))
  refine lenL (enc:=eI) (l:=p1) (fl:=true) kr gE ?_
  refine sz 1 4 (reg_end rfl ?_)
  refine wb [9] h (fun q3 h=>?_) (fun q3 h=>?_)
  ·refine wcT (wp_skip (wp_seq (wp_block (wp_seq (rga hfol (sy 2 2 ?_))))))
   refine bind_elim h (fun a4 q5 h=>?_)
   refine idxL' (enc:=eI) (l:=p1) (n:=s1) (fl:=true) (w:=1) (a:=a4) kr rfl gE q5 ?_
   refine sy 3 6 ?_
   refine rb [16,17] h (fun q7 h=>?_) (fun q7 h=>?_)
   ·refine sy 11 17 (rgd (wcT (wp_seq ?_)))
    refine wgc [] [] ⟨[],[],37⟩ ?_
    refine rn (wg [4] [] ?_)
    refine wp_ret ?_
    cases h
    exact ⟨kr,rfl⟩
   refine sy 2 8 ?_
   refine idxL' (enc:=eI) (l:=p1) (n:=s1) (fl:=true) (w:=1) (a:=a4) kr rfl gE q5 ?_
   refine sy 3 12 ?_
   refine bind_elim h (fun a8 q9 h=>?_)
   refine idxL' (enc:=z1) (l:=p0.Show) (n:=0) (fl:=false) (w:=1) (a:=a8) kr rfl gE q9 ?_
   refine sy 1 14 ?_
   refine lenL (enc:=eI) (l:=a8) (fl:=true) kr gE ?_
   refine sy 2 17 (rgd ?_)
   refine wbz h (fun q11 h=>?_) (fun q11 h=>?_)
   ·refine wp_seq ?_
    refine wgc [] [] ⟨[],[],37⟩ ?_
    refine rn (wg [4] [] ?_)
    refine wp_ret ?_
    cases h
    exact ⟨kr,rfl⟩
   refine wp_skip ?_
   refine wgc [1,2,5] [0] ⟨[(1,z1 p1),(2,.ptr 0 0 0),(5,vI s1)],(s72_2 p0),37⟩ ?_
   refine rn ?_
   cases h
   exact ⟨_,rfl,(wk_gc (live:=[1,2,5]) (keep:=[0]) kr)⟩
  refine wcF (wg [1] [] ?_)
  refine wp_exit ?_
  cases h
  exact ⟨kr,rfl⟩
 intro x12 h out hx
 subst hx
 rcases x12 with x13 | x14
 ·dsimp only at h ⊢
  cases h
  show fnOut _ _ _ _=_
  kernel_rfl
 ·dsimp only at h ⊢
  refine wp_seq (reg_in (sz 1 1 ?_))
  refine lenL (enc:=eI) (l:=p1) (fl:=true) kr gE ?_
  refine sz 2 4 ?_
  refine rb [31,32] h (fun q16 h=>?_) (fun q16 h=>?_)
  ·refine sz 1 5 ?_
   refine lenL (enc:=eI) (l:=p1) (fl:=true) kr gE ?_
   refine sz 3 9 (reg_end rfl (wg [4] [] ?_))
   cases h
   exact wp_ret (show fnOut _ _ _ _=_ from by kernel_rfl)
  refine sz 5 9 (reg_end rfl (wg [4] [] ?_))
  cases h
  exact wp_ret (show fnOut _ _ _ _=_ from by kernel_rfl)
theorem g_ref17_Errors_ok (p0:Tapi_Hidden) (p1:(List Int)) (x:Int) (h:g_ref17_Errors p0 p1=some x):CallOk Try.prog 37 [.agg [vI p0.Grain,z1 p0.First,z2 p0.Step,z2 p0.Show],z1 p1] (.ret (vI x) []):=by
 refine fn_ok [] Try.func37 rfl (by decide +kernel) rfl ?_
 unfold g_ref17_Errors at h
 refine wp_eqB (base':=0) (st':=⟨[(0,.agg [vI p0.Grain,z1 p0.First,z2 p0.Step,z2 p0.Show]),(1,z1 p1)],[],12⟩) kr kr ?_
 refine wp_seq (reg_in ?_)
 refine sgL false [] [] false gE ?_
 refine sz 1 2 (reg_end rfl (wp_seq (wp_seq (reg_in (sz 1 1 ?_)))))
 refine callW bodyB_71 (g_ref17_Right_ok p0) h (fun x1 _ h=>?_)
 refine sz 1 3 (reg_end rfl ?_)
 refine wbz h (fun q4 h=>?_) (fun q4 h=>?_)
 ·refine wp_seq (wg [] [] (rn ?_))
  refine wgc [4] [] ⟨[(4,vI 170)],[],12⟩ ?_
  cases h
  exact wp_ret (show fnOut _ _ _ _=_ from by kernel_rfl)
 refine wp_skip (wp_seq (wp_seq (wg [1,2] [0] (reg_in (sz 2 2 ?_)))))
 refine callW bodyB_72 (g_ref17_Seen_ok p0 p1) h (fun x5 _ h=>?_)
 refine sz 1 4 (reg_end rfl ?_)
 refine wbz h (fun q8 h=>?_) (fun q8 h=>?_)
 ·refine wp_seq ?_
  refine wgc [] [] ⟨[],[],12⟩ ?_
  refine rn (wg [4] [] ?_)
  cases h
  exact wp_ret (show fnOut _ _ _ _=_ from by kernel_rfl)
 refine wp_skip (wp_seq ?_)
 refine wgc [] [] ⟨[],[],12⟩ ?_
 refine rn (wg [4] [] ?_)
 cases h
 exact wp_ret (show fnOut _ _ _ _=_ from by kernel_rfl)
theorem g_ref17_Shows_ok (p0:Tapi_Hidden) (p1:Int) (p2:Int) (x:Int) (h:g_ref17_Shows p0 p1 p2=some x):CallOk Try.prog 73 [.agg [vI p0.Grain,z1 p0.First,z2 p0.Step,z2 p0.Show],vI p1,vI p2] (.ret (vI x) []):=by
 refine fn_ok [] Try.func73 rfl (by decide +kernel) rfl ?_
 unfold g_ref17_Shows at h
 refine wp_eqB (base':=0) (st':=⟨[(0,.agg [vI p0.Grain,z1 p0.First,z2 p0.Step,z2 p0.Show]),(1,vI p1),(2,vI p2)],[],19⟩) kr kr ?_
 refine wp_seq (reg_in ?_)
 refine sgL false [] [] false gE ?_
 refine sz 1 2 (reg_end rfl (wp_seq (sq ?_)))
 refine wb [8] h (fun q2 h=>?_) (fun q2 h=>?_)
 ·refine wcT (wp_seq (wg [3] [0] (rn (wg [6] [] ?_))))
  cases h
  exact wp_ret (show fnOut _ _ _ _=_ from by kernel_rfl)
 refine wcF (wp_skip (wp_seq (reg_in (sz 3 3 ?_))))
 refine bind_elim h (fun a3 q4 h=>?_)
 refine idxL' (enc:=z1) (l:=p0.Show) (n:=p1) (fl:=false) (w:=1) (a:=a3) kr rfl gE q4 ?_
 refine sz 2 6 ?_
 refine bind_elim h (fun a5 q6 h=>?_)
 refine idxL' (enc:=eI) (l:=a3) (n:=p2) (fl:=true) (w:=1) (a:=a5) kr rfl gE q6 ?_
 refine sz 2 9 (reg_end rfl ?_)
 refine wgc [6] [] ⟨[(6,vI a5)],[],19⟩ ?_
 cases h
 exact wp_ret (show fnOut _ _ _ _=_ from by kernel_rfl)
noncomputable abbrev s38_2 (p0:Tapi_Hidden):List AObj:=[oX true false 4 (.agg [vI p0.Grain,z1 p0.First,z2 p0.Step,z2 p0.Show])]
theorem g_ref17_Weight_ok (p0:Tapi_Hidden) (p1:(List Int)) (p2:(List Int)) (x:Int) (h:g_ref17_Weight p0 p1 p2=some x):CallOk Try.prog 38 [.agg [vI p0.Grain,z1 p0.First,z2 p0.Step,z2 p0.Show],z1 p1,z1 p2] (.ret (vI x) []):=by
 refine fn_ok [] Try.func38 rfl (by decide +kernel) rfl ?_
 unfold g_ref17_Weight at h
 refine wp_eqB (base':=0) (st':=⟨[(0,.agg [vI p0.Grain,z1 p0.First,z2 p0.Step,z2 p0.Show]),(1,z1 p1),(2,z1 p2)],[],54⟩) kr kr ?_
 refine wp_seq (reg_in ?_)
 refine sgL false [] [] false gE ?_
 refine sz 1 2 (reg_end rfl (sq (wp_seq (sq (wp_block ?_)))))
 refine wwh h (fun s1=>⟨[(1,z1 p1),(2,z1 p2),(3,.ptr 0 0 0),(7,vI s1.1),(8,vI s1.2)],(s38_2 p0),54⟩) (fun v out=>out=.go (.exit 0) ⟨[(7,vI v)],[],54⟩) (wk_gc (live:=[1,2,3,7,8]) (keep:=[0]) kr) ?_ ?_
 ·intro s1 o h
  unfold g_ref17_Weight_b0 at h
  refine wp_seq (wp_seq (reg_in (sz 2 2 ?_)))
  refine lenL (enc:=eI) (l:=p2) (fl:=true) kr gE ?_
  refine sz 1 4 (reg_end rfl ?_)
  refine wb [12] h (fun q3 h=>?_) (fun q3 h=>?_)
  ·refine wcT (wp_skip (wp_seq (wp_block (wp_seq (sq ?_)))))
   refine wbz h (fun q5 h=>?_) (fun q5 h=>?_)
   ·refine wgc [1,2,3,8] [0] ⟨[(1,z1 p1),(2,z1 p2),(3,.ptr 0 0 0),(8,vI s1.2)],(s38_2 p0),54⟩ ?_
    refine rga hfol (sy 3 3 ?_)
    refine bind_elim h (fun a6 q7 h=>?_)
    refine idxL' (enc:=eI) (l:=p2) (n:=0) (fl:=true) (w:=1) (a:=a6) kr rfl gE q7 ?_
    refine sy 1 5 ?_
    refine bind_elim h (fun a8 q9 h=>?_)
    refine idxL' (enc:=eI) (l:=p0.First) (n:=a6) (fl:=true) (w:=1) (a:=a8) kr rfl gE q9 ?_
    refine sy 2 8 (rgd (wg [1,2,3,8,7] [0] (rga hfol (sy 4 4 ?_))))
    refine bind_elim h (fun a10 q11 h=>?_)
    refine idxL' (enc:=eI) (l:=p2) (n:=s1.2) (fl:=true) (w:=1) (a:=a10) kr rfl gE q11 ?_
    refine sy 3 8 ?_
    refine bind_elim h (fun a12 q13 h=>?_)
    refine idxL' (enc:=eI) (l:=p1) (n:=s1.2) (fl:=true) (w:=1) (a:=a12) kr rfl gE q13 ?_
    refine sy 1 10 ?_
    refine callW bodyB_73 (g_ref17_Shows_ok p0 a10 a12) h (fun x14 _ h=>?_)
    refine sy 2 13 (rgd ?_)
    refine wgc [1,2,3,8,7] [0] ⟨[(1,z1 p1),(2,z1 p2),(3,.ptr 0 0 0),(8,vI s1.2),(7,vI (zw (a8*x14)))],(s38_2 p0),54⟩ ?_
    refine rn ?_
    cases h
    exact ⟨_,rfl,(wk_gc (live:=[1,2,3,7,8]) (keep:=[0]) kr)⟩
   refine wgc [1,2,3,7,8] [0] ⟨[(1,z1 p1),(2,z1 p2),(3,.ptr 0 0 0),(7,vI s1.1),(8,vI s1.2)],(s38_2 p0),54⟩ ?_
   refine rga hfol (sy 6 6 ?_)
   refine bind_elim h (fun a16 q17 h=>?_)
   refine idxL' (enc:=eI) (l:=p2) (n:=zw (s1.2 - 1)) (fl:=true) (w:=1) (a:=a16) kr rfl gE q17 ?_
   refine sy 1 8 ?_
   refine bind_elim h (fun a18 q19 h=>?_)
   refine idxL' (enc:=z1) (l:=p0.Step) (n:=a16) (fl:=false) (w:=1) (a:=a18) kr rfl gE q19 ?_
   refine sy 3 12 ?_
   refine bind_elim h (fun a20 q21 h=>?_)
   refine idxL' (enc:=eI) (l:=p2) (n:=s1.2) (fl:=true) (w:=1) (a:=a20) kr rfl gE q21 ?_
   refine sy 1 14 ?_
   refine bind_elim h (fun a22 q23 h=>?_)
   refine idxL' (enc:=eI) (l:=a18) (n:=a20) (fl:=true) (w:=1) (a:=a22) kr rfl gE q23 ?_
   refine sy 3 18 (rgd ?_)
   refine wgc [1,2,3,7,8] [0] ⟨[(1,z1 p1),(2,z1 p2),(3,.ptr 0 0 0),(7,vI (zw (s1.1*a22))),(8,vI s1.2)],(s38_2 p0),54⟩ ?_
   refine rga hfol (sy 4 4 ?_)
   refine idxL' (enc:=eI) (l:=p2) (n:=s1.2) (fl:=true) (w:=1) (a:=a20) kr rfl gE q21 ?_
   refine sy 3 8 ?_
   refine bind_elim h (fun a24 q25 h=>?_)
   refine idxL' (enc:=eI) (l:=p1) (n:=s1.2) (fl:=true) (w:=1) (a:=a24) kr rfl gE q25 ?_
   refine sy 1 10 ?_
   refine callW bodyB_73 (g_ref17_Shows_ok p0 a20 a24) h (fun x26 _ h=>?_)
   refine sy 2 13 (rgd (wg [1,2,3,7,8] [0] (rn ?_)))
   cases h
   exact ⟨_,rfl,(wk_gc (live:=[1,2,3,7,8]) (keep:=[0]) kr)⟩
  refine wcF (wg [7] [] ?_)
  refine wp_exit ?_
  cases h
  exact ⟨kr,rfl⟩
 intro x29 h out hx
 subst hx
 refine sq (wg [6] [] ?_)
 cases h
 exact wp_ret (show fnOut _ _ _ _=_ from by kernel_rfl)
noncomputable abbrev s54_2 (p0:Tapi_Hidden):List AObj:=[oX true false 4 (.agg [vI p0.Grain,z1 p0.First,z2 p0.Step,z2 p0.Show])]
theorem g_ref18_count_okN:∀(n:Nat) (p0:Tapi_Hidden) (p1:(List Int)) (p2:Int) (p3:Int) (x:Int),recN g_ref18_count_F n (p0,p1,p2,p3)=some x→CallOk Try.prog 54 [.agg [vI p0.Grain,eL true eI p0.First,eL false (eL true eI) p0.Step,eL false (eL true eI) p0.Show],eL true eI p1,vI p2,vI p3] (.ret (vI x) [])
 | 0,p0,p1,p2,p3,_,h=>by cases h
 | n+1,p0,p1,p2,p3,x,h=>by
  change g_ref18_count_F (recN g_ref18_count_F n) (p0,p1,p2,p3)=some x at h
  have IH:=g_ref18_count_okN n
  generalize recN g_ref18_count_F n=rc0 at h IH
  refine fn_ok [] Try.func54 rfl (by decide +kernel) rfl ?_
  unfold g_ref18_count_F at h
  dsimp only at h
  refine wp_eqB (base':=0) (st':=⟨[(0,.agg [vI p0.Grain,eL true eI p0.First,eL false (eL true eI) p0.Step,eL false (eL true eI) p0.Show]),(1,eL true eI p1),(2,vI p2),(3,vI p3)],[],57⟩) kr kr ?_
  refine wp_seq (reg_in ?_)
  refine sgL false [] [] false gE ?_
  refine sz 1 2 (reg_end rfl (wp_seq (wp_seq (reg_in (sz 2 2 ?_)))))
  refine lenL (enc:=eI) (l:=p1) (fl:=true) kr gE ?_
  refine sz 1 4 (reg_end rfl ?_)
  refine wbz h (fun q2 h=>?_) (fun q2 h=>?_)
  ·refine wp_seq (wg [] [] (rn ?_))
   refine wgc [8] [] ⟨[(8,vI 1)],[],57⟩ ?_
   cases h
   exact wp_ret (show fnOut _ _ _ _=_ from by kernel_rfl)
  refine wp_skip (wp_seq (wg [1,2,3,4] [0] (rn (wp_seq (sq (wp_block ?_))))))
  refine wwh h (fun s3=>⟨[(1,eL true eI p1),(2,vI p2),(3,vI p3),(4,.ptr 0 0 0),(9,vI s3.1),(10,vI s3.2)],(s54_2 p0),57⟩) (fun v out=>out=.go (.exit 0) ⟨[(9,vI v)],[],57⟩) (wk_gc (live:=[1,2,3,4,9,10]) (keep:=[0]) kr) ?_ ?_
  ·intro s3 o h
   unfold g_ref18_count_b0 at h
   refine wp_seq (wp_seq (reg_in (sz 3 3 ?_)))
   refine lenL (enc:=eI) (l:=p0.First) (fl:=true) kr gE ?_
   refine sz 1 5 (reg_end rfl ?_)
   refine wbz h (fun q5 h=>?_) (fun q5 h=>?_)
   ·refine wp_skip (wp_seq (wp_block (wp_seq (wg [1,2,3,4,9,10] [0] (reg_in (sz 3 3 ?_))))))
    refine bind_elim h (fun a6 q7 h=>?_)
    refine idxL' (enc:=eI) (l:=p0.First) (n:=s3.2) (fl:=true) (w:=1) (a:=a6) kr rfl gE q7 ?_
    refine sz 2 6 (reg_end rfl (wp_seq (wp_seq ?_)))
    refine wgc [1,2,3,4,9,10,11] [0] ⟨[(1,eL true eI p1),(2,vI p2),(3,vI p3),(4,.ptr 0 0 0),(9,vI s3.1),(10,vI s3.2),(11,vI a6)],(s54_2 p0),57⟩ ?_
    refine rn ?_
    refine wb [29] h (fun q9 h=>?_) (fun q9 h=>?_)
    ·refine wcT (reg_in (sz 3 3 ?_))
     refine bind_elim h (fun a10 q11 h=>?_)
     refine idxL' (enc:=(eL true eI)) (l:=p0.Step) (n:=p3) (fl:=false) (w:=1) (a:=a10) kr rfl gE q11 ?_
     refine sz 2 6 ?_
     refine bind_elim h (fun a12 q13 h=>?_)
     refine idxL' (enc:=eI) (l:=a10) (n:=s3.2) (fl:=true) (w:=1) (a:=a12) kr rfl gE q13 ?_
     refine sz 2 9 (reg_end rfl (wp_seq ?_))
     refine wgc [1,2,3,4,9,10,11] [0] ⟨[(1,eL true eI p1),(2,vI p2),(3,vI p3),(4,.ptr 0 0 0),(9,vI s3.1),(10,vI s3.2),(11,vI a12)],(s54_2 p0),57⟩ ?_
     refine rga hfol (sy 5 5 ?_)
     refine bind_elim h (fun a14 q15 h=>?_)
     refine idxL' (enc:=eI) (l:=p1) (n:=p2) (fl:=true) (w:=1) (a:=a14) kr rfl gE q15 ?_
     refine sy 1 7 ?_
     refine callW bodyB_73 (g_ref17_Shows_ok p0 s3.2 a14) h (fun x16 _ h=>?_)
     refine sy 2 10 (rgd ?_)
     refine wbz h (fun q19 h=>?_) (fun q19 h=>?_)
     ·refine wg [1,2,3,4,9,10] [0] (reg_in (sz 6 6 ?_))
      refine callW bodyB_54 (IH p0 p1 (IntKind.i64.wrap (p2+1)) s3.2) h (fun x20 _ h=>?_)
      refine sz 2 9 (reg_end rfl ?_)
      refine wgc [1,2,3,4,9,10] [0] ⟨[(1,eL true eI p1),(2,vI p2),(3,vI p3),(4,.ptr 0 0 0),(9,vI (IntKind.i64.wrap (s3.1+x20))),(10,vI s3.2)],(s54_2 p0),57⟩ ?_
      refine rn ?_
      cases h
      exact ⟨_,rfl,(wk_gc (live:=[1,2,3,4,9,10]) (keep:=[0]) kr)⟩
     refine wp_skip (wg [1,2,3,4,9,10] [0] (rn ?_))
     cases h
     exact ⟨_,rfl,(wk_gc (live:=[1,2,3,4,9,10]) (keep:=[0]) kr)⟩
    refine wcF (wp_skip (wp_seq (rga hfol (sy 5 5 ?_))))
    refine bind_elim h (fun a22 q23 h=>?_)
    refine idxL' (enc:=eI) (l:=p1) (n:=p2) (fl:=true) (w:=1) (a:=a22) kr rfl gE q23 ?_
    refine sy 1 7 ?_
    refine callW bodyB_73 (g_ref17_Shows_ok p0 s3.2 a22) h (fun x24 _ h=>?_)
    refine sy 2 10 (rgd ?_)
    refine wbz h (fun q27 h=>?_) (fun q27 h=>?_)
    ·refine wgc [1,2,3,4,9,10] [0] ⟨[(1,eL true eI p1),(2,vI p2),(3,vI p3),(4,.ptr 0 0 0),(9,vI s3.1),(10,vI s3.2)],(s54_2 p0),57⟩ ?_
     refine reg_in (sz 6 6 ?_)
     refine callW bodyB_54 (IH p0 p1 (IntKind.i64.wrap (p2+1)) s3.2) h (fun x28 _ h=>?_)
     refine sz 2 9 (reg_end rfl (wg [1,2,3,4,9,10] [0] (rn ?_)))
     cases h
     exact ⟨_,rfl,(wk_gc (live:=[1,2,3,4,9,10]) (keep:=[0]) kr)⟩
    refine wp_skip ?_
    refine wgc [1,2,3,4,9,10] [0] ⟨[(1,eL true eI p1),(2,vI p2),(3,vI p3),(4,.ptr 0 0 0),(9,vI s3.1),(10,vI s3.2)],(s54_2 p0),57⟩ ?_
    refine rn ?_
    cases h
    exact ⟨_,rfl,(wk_gc (live:=[1,2,3,4,9,10]) (keep:=[0]) kr)⟩
   refine wg [9] [] ?_
   refine wp_exit ?_
   cases h
   exact ⟨kr,rfl⟩
  intro x31 h out hx
  subst hx
  refine sq (wg [8] [] ?_)
  cases h
  exact wp_ret (show fnOut _ _ _ _=_ from by kernel_rfl)
theorem g_ref18_count_ok (p0:Tapi_Hidden) (p1:(List Int)) (p2:Int) (p3:Int) (x:Int) (h:g_ref18_count p0 p1 p2 p3=some x):CallOk Try.prog 54 [.agg [vI p0.Grain,z1 p0.First,z2 p0.Step,z2 p0.Show],z1 p1,vI p2,vI p3] (.ret (vI x) []):=g_ref18_count_okN fuel p0 p1 p2 p3 x h
theorem g_ref18_Count_ok (p0:Tapi_Hidden) (p1:(List Int)) (x:(Int × Int)) (h:g_ref18_Count p0 p1=some x):CallOk Try.prog 22 [.agg [vI p0.Grain,z1 p0.First,z2 p0.Step,z2 p0.Show],z1 p1] (.ret (.tup [vI x.1,vI x.2]) []):=by
 refine fn_ok [] Try.func22 rfl (by decide +kernel) rfl ?_
 unfold g_ref18_Count at h
 refine wp_eqB (base':=0) (st':=⟨[(0,.agg [vI p0.Grain,z1 p0.First,z2 p0.Step,z2 p0.Show]),(1,z1 p1)],[],16⟩) kr kr ?_
 refine wp_seq (reg_in ?_)
 refine sgL false [] [] false gE ?_
 refine sz 2 3 (reg_end rfl (wp_seq (wp_seq (reg_in (sz 2 2 ?_)))))
 refine callW bodyB_37 (g_ref17_Errors_ok p0 p1) h (fun x1 _ h=>?_)
 refine sz 1 4 (reg_end rfl (wp_seq (wg [1,2,6] [0] (rn ?_))))
 refine wb [11] h (fun q4 h=>?_) (fun q4 h=>?_)
 ·refine wcT (sq ?_)
  refine wgc [4,5] [] ⟨[(4,vI 0),(5,vI x1)],[],16⟩ ?_
  cases h
  exact wp_ret (show fnOut _ _ _ _=_ from by kernel_rfl)
 refine wcF (wp_skip (wp_seq (reg_in (sz 2 2 ?_))))
 refine callW bodyB_54 (g_ref18_count_ok p0 p1 0 (-1)) h (fun x5 _ h=>?_)
 refine sz 2 5 (reg_end rfl ?_)
 refine wgc [4,5] [] ⟨[(4,vI x5),(5,vI 0)],[],16⟩ ?_
 cases h
 exact wp_ret (show fnOut _ _ _ _=_ from by kernel_rfl)
theorem g_ref17_short_ok (p0:Tapi_Hidden) (p1:Int) (x:Bool) (h:g_ref17_short p0 p1=some x):CallOk Try.prog 84 [.agg [vI p0.Grain,z1 p0.First,z2 p0.Step,z2 p0.Show],vI p1] (.ret (vB x) []):=by
 refine fn_ok [] Try.func84 rfl (by decide +kernel) rfl ?_
 unfold g_ref17_short at h
 refine wp_eqB (base':=0) (st':=⟨[(0,.agg [vI p0.Grain,z1 p0.First,z2 p0.Step,z2 p0.Show]),(1,vI p1)],[],19⟩) kr kr ?_
 refine wp_seq (reg_in ?_)
 refine sgL false [] [] false gE ?_
 refine sz 1 2 (reg_end rfl (sq (wp_seq (sq (wp_block ?_)))))
 refine wwh h (fun s1=>⟨[(1,vI p1),(2,.ptr 0 0 0),(5,vI s1.1),(6,vI s1.2)],[oX true false 4 (.agg [vI p0.Grain,z1 p0.First,z2 p0.Step,z2 p0.Show])],19⟩) (fun v out=>out=.go (.exit 0) ⟨[(5,vI v)],[],19⟩) (wk_gc (live:=[1,2,5,6]) (keep:=[0]) kr) ?_ ?_
 ·intro s1 o h
  unfold g_ref17_short_b0 at h
  refine wp_seq (sq ?_)
  refine wb [9] h (fun q3 h=>?_) (fun q3 h=>?_)
  ·refine wcT (wp_skip (wp_seq (wp_block (reg_in (sz 3 3 ?_)))))
   refine lenL (enc:=eI) (l:=p0.First) (fl:=true) kr gE ?_
   refine sz 2 6 (reg_end rfl (wg [1,2,5,6] [0] (rn ?_)))
   cases h
   exact ⟨_,rfl,(wk_gc (live:=[1,2,5,6]) (keep:=[0]) kr)⟩
  refine wcF (wg [5] [] ?_)
  refine wp_exit ?_
  cases h
  exact ⟨kr,rfl⟩
 intro x5 h out hx
 subst hx
 refine sq (wg [4] [] ?_)
 cases h
 exact wp_ret (show fnOut _ _ _ _=_ from by kernel_rfl)
noncomputable abbrev s85_56 (p0:Tapi_Hidden) (s1:(Int × (List (List Int)))):List AObj:=[oX true false 4 (.agg [vI p0.Grain,z1 p0.First,z2 p0.Step,z2 p0.Show]),oR false 1 z1 s1.2]
noncomputable abbrev s85_79 (p1:Int) (s1:(Int × (List (List Int)))) (s7:(Int × (List (List Int)))) (s4:(Int × (List (List Int)))):List (Nat × AV):=[(1,vI p1),(2,.ptr 0 0 0),(5,.ref 1 0 s1.2.length),(6,vI s1.1),(7,.ref 2 0 s7.2.length),(8,vI s4.1),(9,vI s7.1)]
theorem g_ref17_Paths_ok (p0:Tapi_Hidden) (p1:Int) (x:(List (List Int))) (h:g_ref17_Paths p0 p1=some x):CallOk Try.prog 85 [.agg [vI p0.Grain,z1 p0.First,z2 p0.Step,z2 p0.Show],vI p1] (.ret (.ref 0 0 x.length) [oR false 1 z1 x]):=by
 refine fn_ok [] Try.func85 rfl (by decide +kernel) rfl ?_
 unfold g_ref17_Paths at h
 refine wp_eqB (base':=0) (st':=⟨[(0,.agg [vI p0.Grain,z1 p0.First,z2 p0.Step,z2 p0.Show]),(1,vI p1)],[],44⟩) kr kr ?_
 refine wp_seq (reg_in ?_)
 refine sgL false [] [] false gE ?_
 refine sz 1 2 (reg_end rfl (wp_seq (reg_in ?_)))
 refine sgL false [] [.lst true] false gE ?_
 refine sz 1 2 (reg_end rfl (wp_seq (sq (wp_block ?_))))
 refine wwh h (fun s1=>⟨[(1,vI p1),(2,.ptr 0 0 0),(5,.ref 1 0 s1.2.length),(6,vI s1.1)],(s85_56 p0 s1),44⟩) (fun v out=>out=.go (.exit 0) ⟨[(5,.ref 0 0 v.length)],[oR false 1 z1 v],44⟩) (wk_gc (live:=[1,2,5,6]) (keep:=[0,1]) kr) ?_ ?_
 ·intro s1 o h
  unfold g_ref17_Paths_b2 at h
  refine wp_seq (sq ?_)
  refine wb [14] h (fun q3 h=>?_) (fun q3 h=>?_)
  ·refine wcT (wp_skip (wp_seq (wp_block (sq (wp_seq (sq (wp_block ?_)))))))
   refine wwh h (fun s4=>⟨[(1,vI p1),(2,.ptr 0 0 0),(5,.ref 1 0 s1.2.length),(6,vI s1.1),(7,.ref 2 0 s4.2.length),(8,vI s4.1)],[oX true false 4 (.agg [vI p0.Grain,z1 p0.First,z2 p0.Step,z2 p0.Show]),oR false 1 z1 s1.2,oR false 1 z1 s4.2],44⟩) (fun v out=>out=.go (.exit 2) ⟨[(1,vI p1),(2,.ptr 0 0 0),(6,vI s1.1),(7,.ref 1 0 v.length)],[oX true false 4 (.agg [vI p0.Grain,z1 p0.First,z2 p0.Step,z2 p0.Show]),oR false 1 z1 v],44⟩) (wk_trans (wk_gc (live:=[1,2,5,6,7,8]) (keep:=[0,1]) (st':=⟨[(1,vI p1),(2,.ptr 0 0 0),(5,.ref 1 0 s1.2.length),(6,vI s1.1),(7,.nils),(8,vI 0)],(s85_56 p0 s1),44⟩) kr) (wk_trans (wk_nil 7 1 true false (st':=⟨[(1,vI p1),(2,.ptr 0 0 0),(5,.ref 1 0 s1.2.length),(6,vI s1.1),(7,.ref 2 0 0),(8,vI 0)],[oX true false 4 (.agg [vI p0.Grain,z1 p0.First,z2 p0.Step,z2 p0.Show]),oR false 1 z1 s1.2,.row false false true false 1 []],44⟩) kr) (wk_gc (live:=[1,2,5,6,7,8]) (keep:=[0,1,2]) kr))) ?_ ?_
   ·intro s4 o h
    unfold g_ref17_Paths_b1 at h
    refine wp_seq (sq ?_)
    refine wb [20] h (fun q6 h=>?_) (fun q6 h=>?_)
    ·refine wcT (wp_skip (wp_seq (wp_block (sq (wp_block ?_)))))
     refine wwh h (fun s7=>⟨(s85_79 p1 s1 s7 s4),[oX true false 4 (.agg [vI p0.Grain,z1 p0.First,z2 p0.Step,z2 p0.Show]),oR false 1 z1 s1.2,oR false 1 z1 s7.2],44⟩) (fun v out=>out=.go (.exit 4) ⟨[(1,vI p1),(2,.ptr 0 0 0),(5,.ref 1 0 s1.2.length),(6,vI s1.1),(7,.ref 2 0 v.length),(8,vI s4.1)],[oX true false 4 (.agg [vI p0.Grain,z1 p0.First,z2 p0.Step,z2 p0.Show]),oR false 1 z1 s1.2,oR false 1 z1 v],44⟩) (wk_gc (live:=[1,2,5,6,7,8,9]) (keep:=[0,1,2]) kr) ?_ ?_
     ·intro s7 o h
      unfold g_ref17_Paths_b0 at h
      refine wp_seq (wp_seq (reg_in (sz 3 3 ?_)))
      refine lenL (enc:=eI) (l:=p0.First) (fl:=true) kr gE ?_
      refine sz 1 5 (reg_end rfl ?_)
      refine wbz h (fun q9 h=>?_) (fun q9 h=>?_)
      ·refine wp_skip (wp_seq (wp_block (wp_seq (wg [1,2,5,6,7,8,9] [0,1,2] (rn (reg_in (sz 4 4 ?_)))))))
       refine bind_elim h (fun a10 q11 h=>?_)
       refine idxR' (enc:=z1) (l:=s1.2) (n:=s4.1) (w:=1) (ob:=1) (ro:=false) (nr:=true) (fl:=false) (a:=a10) kr kr gE q11 ?_
       refine loadR (enc:=z1) (l:=s1.2) (n:=s4.1) (w:=1) (ob:=1) (c:=0) (bx:=false) (ro:=false) (nr:=true) (fl:=false) (a:=a10) kr kr q11 gE ?_
       refine appN (enc:=eI) (m:=a10) (w:=1) (bytes:=8) (nr':=true) (fl':=true) (a:=.nils) (b:=z1 a10) (rds:=[]) false kr (.inl rfl) (elems_lst (fun _=>rfl)) rfl gE kr h (fun h=>?_)
       refine sz 1 8 ?_
       refine sgL false [] [] true gE ?_
       refine appR (enc:=eI) (l:=a10) (m:=([s7.1]:(List Int))) (w:=1) (bytes:=8) (ob:=3) (nr:=true) (fl:=true) (nr':=true) (fl':=true) (b:=.ref 4 0 1) (rds:=[4]) (S:=⟨(s85_79 p1 s1 s7 s4)++[(10,.nils),(30,.ref 2 0 s7.2.length),(31,.nils),(32,.ref 1 0 s1.2.length),(33,vI s4.1),(34,.ptr 1 (zt s4.1) 0),(35,z1 a10),(36,.ref 3 0 a10.length),(37,vI s7.1)]++[(38,.ref 4 0 1),(39,.ref 5 0 ((a10++([s7.1]:(List Int))).length))],[oX true false 4 (.agg [vI p0.Grain,z1 p0.First,z2 p0.Step,z2 p0.Show]),oR false 1 z1 s1.2,oR false 1 z1 s7.2,.dead,.row false false true true 1 [vI s7.1],oR true 1 eI (a10++([s7.1]:(List Int)))],44⟩) false kr kr kr rfl kr kr h (fun h=>?_)
       refine bsR (parts:=[(0,z1 (a10++([s7.1]:(List Int))))]) (ids:=[5]) (es:=[(5,.row false true true true 1 (List.map eI (a10++([s7.1]:(List Int))))),(6,.row false false true (List.all [z1 (a10++([s7.1]:(List Int)))] AV.scs) 1 [z1 (a10++([s7.1]:(List Int)))])]) (S:=⟨(s85_79 p1 s1 s7 s4)++[(10,.nils),(30,.ref 2 0 s7.2.length),(31,.nils),(32,.ref 1 0 s1.2.length),(33,vI s4.1),(34,.ptr 1 (zt s4.1) 0),(35,z1 a10),(36,.ref 3 0 a10.length),(37,vI s7.1)]++[(38,.ref 4 0 1),(39,.ref 5 0 ((a10++([s7.1]:(List Int))).length)),(40,.ref 6 0 1)],[oX true false 4 (.agg [vI p0.Grain,z1 p0.First,z2 p0.Step,z2 p0.Show]),oR false 1 z1 s1.2,oR false 1 z1 s7.2,.dead,.row false false true true 1 [vI s7.1],.row false true true true 1 (List.map eI (a10++([s7.1]:(List Int)))),.row false false true false 1 [z1 (a10++([s7.1]:(List Int)))]],44⟩) [.lst true] false rfl (sparts_snap rfl (snap_full (w:=1) (bx:=false) (ro:=false) kr) sparts_nil (by rfl)) kr ?_
       refine appR (enc:=z1) (l:=s7.2) (m:=([(a10++([s7.1]:(List Int)))]:(List (List Int)))) (w:=1) (bytes:=24) (ob:=2) (nr:=true) (fl:=false) (nr':=true) (fl':=false) (b:=.ref 6 0 1) (rds:=[6]) false kr kr kr rfl gE kr h (fun h=>?_)
       refine sz 1 13 (reg_end rfl (wg [1,2,5,6,7,8,9] [0,1,7] (rn ?_)))
       cases h
       exact ⟨_,rfl,(wk_gc (live:=[1,2,5,6,7,8,9]) (keep:=[0,1,2]) kr)⟩
      refine wg [1,2,5,6,7,8] [0,1,2] ?_
      refine wp_exit ?_
      cases h
      exact ⟨kr,rfl⟩
     intro x13 h out hx
     subst hx
     refine rn ?_
     cases h
     exact ⟨_,rfl,(wk_gc (live:=[1,2,5,6,7,8]) (keep:=[0,1,2]) kr)⟩
    refine wcF (wg [1,2,6,7] [0,2] ?_)
    refine wp_exit ?_
    cases h
    exact ⟨kr,rfl⟩
   intro x15 h out hx
   subst hx
   refine rn (rn ?_)
   cases h
   exact ⟨_,rfl,(wk_gc (live:=[1,2,5,6]) (keep:=[0,1]) kr)⟩
  refine wcF (wg [5] [1] ?_)
  refine wp_exit ?_
  cases h
  exact ⟨kr,rfl⟩
 intro x17 h out hx
 subst hx
 refine sq (wg [4] [0] ?_)
 cases h
 exact wp_ret (show fnOut _ _ _ _=_ from by kernel_rfl)
noncomputable abbrev s58_1 (p0:Tapi_Hidden) (p1:(List Int)):List (Nat × AV):=[(0,.agg [vI p0.Grain,z1 p0.First,z2 p0.Step,z2 p0.Show]),(1,z1 p1)]
noncomputable abbrev s58_3 (p0:Tapi_Hidden) (p1:(List Int)):List (Nat × AV):=[(0,.agg [vI p0.Grain,z1 p0.First,z2 p0.Step,z2 p0.Show]),(1,vI (zn p1))]
noncomputable abbrev s58_4 (p0:Tapi_Hidden):List AObj:=[oX true false 4 (.agg [vI p0.Grain,z1 p0.First,z2 p0.Step,z2 p0.Show]),oX true false 4 (.agg [vI p0.Grain,z1 p0.First,z2 p0.Step,z2 p0.Show])]
noncomputable abbrev s58_17 (p1:(List Int)) (s1:(Int × (List (List Int)))) (p0:Tapi_Hidden):List (Nat × AV):=[(1,vI (zn p1)),(2,.ptr 1 0 0),(5,.ref 6 0 ((s1.2++[(List.replicate (zt (zn p0.First)) (0:Int))]).length)),(6,vI s1.1),(7,vI s1.1),(8,vI (zn p1)),(9,vB true),(12,.ref 2 0 s1.2.length),(13,.ptr 1 0 1),(14,z1 p0.First),(15,vI (zn p0.First)),(16,.ref 4 0 ((List.replicate (zt (zn p0.First)) (0:Int)).length)),(17,.ref 5 0 1),(18,.ref 6 0 ((s1.2++[(List.replicate (zt (zn p0.First)) (0:Int))]).length))]
noncomputable abbrev s58_19 (p1:(List Int)) (s1:(Int × (List (List Int)))) (p0:Tapi_Hidden):List (Nat × AV):=[(1,vI (zn p1)),(2,.ptr 1 0 0),(5,.ref 6 0 ((s1.2++[(List.replicate (zt (zn p0.First)) (0:Int))]).length)),(6,vI s1.1),(7,vI s1.1),(8,vI (zn p1)),(9,vB true),(12,.ref 2 0 s1.2.length),(13,.ptr 1 0 1),(14,z1 p0.First),(15,vI (zn p0.First)),(17,.ref 5 0 1),(18,.ref 6 0 ((s1.2++[(List.replicate (zt (zn p0.First)) (0:Int))]).length))]
noncomputable abbrev s58_20 (p0:Tapi_Hidden) (s1:(Int × (List (List Int)))):List AObj:=[oX true false 4 (.agg [vI p0.Grain,z1 p0.First,z2 p0.Step,z2 p0.Show]),oX true false 4 (.agg [vI p0.Grain,z1 p0.First,z2 p0.Step,z2 p0.Show]),.dead,.fam 1 true (eF eI (s1.2++[(List.replicate (zt (zn p0.First)) (0:Int))])),.dead,.dead,.refs 3 (eF eI (s1.2++[(List.replicate (zt (zn p0.First)) (0:Int))]))]
noncomputable abbrev s58_32 (p0:Tapi_Hidden) (s15:(Int × (List (List Int)))) (x13:(List (List Int))):List AObj:=[oX true false 4 (.agg [vI p0.Grain,z1 p0.First,z2 p0.Step,z2 p0.Show]),.refs 3 (eF eI s15.2),oR false 1 z1 x13,.fam 1 true (eF eI s15.2)]
noncomputable abbrev s58_42 (p0:Tapi_Hidden) (s34:(Int × (List (List Int)))):List AObj:=[oX true false 4 (.agg [vI p0.Grain,z1 p0.First,z2 p0.Step,z2 p0.Show]),.refs 2 (eF eI s34.2),.fam 1 true (eF eI s34.2)]
noncomputable abbrev s58_54 (p0:Tapi_Hidden) (s6:(Int × (List (List Int)))):List AObj:=[oX true false 4 (.agg [vI p0.Grain,z1 p0.First,z2 p0.Step,z2 p0.Show]),.refs 2 (eF eI s6.2),.fam 1 true (eF eI s6.2)]
theorem g_ref17_Forward_ok (p0:Tapi_Hidden) (p1:(List Int)) (x:(List (List Int))) (h:g_ref17_Forward p0 p1=some x):CallOk Try.prog 58 [.agg [vI p0.Grain,z1 p0.First,z2 p0.Step,z2 p0.Show],z1 p1] (.ret (.ref 0 0 x.length) [oR false 1 z1 x]):=by
 refine fn_ok [] Try.func58 rfl (by decide +kernel) rfl ?_
 unfold g_ref17_Forward at h
 refine wp_eqB (base':=0) (st':=⟨(s58_1 p0 p1),[],121⟩) kr kr ?_
 refine wp_seq (reg_in ?_)
 refine sgL false [] [] false gE ?_
 refine sz 1 2 (reg_end rfl (wp_seq ?_))
 refine wp_post ?_
 refine reg_in (sz 2 2 ?_)
 refine lenL (enc:=eI) (l:=p1) (fl:=true) kr gE ?_
 refine inlR (f:=83) (fn:=Try.f83) (as0:=[.agg [vI p0.Grain,z1 p0.First,z2 p0.Step,z2 p0.Show],vI (zn p1)]) kr Try.func83 rfl (by decide +kernel) rfl ?_
 refine wp_eqB (base':=1) (st':=⟨(s58_3 p0 p1),[oX true false 4 (.agg [vI p0.Grain,z1 p0.First,z2 p0.Step,z2 p0.Show])],20⟩) kr kr ?_
 refine wp_seq (reg_in ?_)
 refine sgL false [] [] false gE ?_
 refine sz 1 2 (reg_end rfl (sq (wp_seq ?_)))
 refine sqN (S:=⟨(s58_3 p0 p1)++[(2,.ptr 1 0 0),(4,.nils),(5,.nils),(6,vI 0)],(s58_4 p0),20⟩) ?_
 refine wp_block ?_
 refine wwh h (fun s1=>⟨[(1,vI (zn p1)),(2,.ptr 1 0 0),(5,.ref 2 0 s1.2.length),(6,vI s1.1)],[oX true false 4 (.agg [vI p0.Grain,z1 p0.First,z2 p0.Step,z2 p0.Show]),oX true false 4 (.agg [vI p0.Grain,z1 p0.First,z2 p0.Step,z2 p0.Show]),.refs 3 (eF eI s1.2),.fam 1 true (eF eI s1.2)],20⟩) (fun v out=>out=.go (.exit 0) ⟨[(5,.ref 1 0 v.length)],[oX true false 4 (.agg [vI p0.Grain,z1 p0.First,z2 p0.Step,z2 p0.Show]),.refs 2 (eF eI v),.fam 1 true (eF eI v)],20⟩) (wk_trans (wk_gc (live:=[1,2,5,6]) (keep:=[1]) (st':=⟨[(1,vI (zn p1)),(2,.ptr 1 0 0),(5,.nils),(6,vI 0)],(s58_4 p0),20⟩) kr) (wk_trans (wk_nil 5 1 true true (st':=⟨[(1,vI (zn p1)),(2,.ptr 1 0 0),(5,.ref 2 0 0),(6,vI 0)],[oX true false 4 (.agg [vI p0.Grain,z1 p0.First,z2 p0.Step,z2 p0.Show]),oX true false 4 (.agg [vI p0.Grain,z1 p0.First,z2 p0.Step,z2 p0.Show]),.row false false true true 1 []],20⟩) kr) (wk_trans (wk_fam 2 1 true (x0:=([]:List Int)) (n:=0) (enc1:=fun _=>AV.nils) eI rfl rfl rfl (st':=⟨[(1,vI (zn p1)),(2,.ptr 1 0 0),(5,.ref 2 0 (([]:List (List Int)).length)),(6,vI 0)],[oX true false 4 (.agg [vI p0.Grain,z1 p0.First,z2 p0.Step,z2 p0.Show]),oX true false 4 (.agg [vI p0.Grain,z1 p0.First,z2 p0.Step,z2 p0.Show]),.refs 3 (eF eI ([]:List (List Int))),.fam 1 true (eF eI ([]:List (List Int)))],20⟩) kr) (wk_gc (live:=[1,2,5,6]) (keep:=[1,2,3]) kr)))) ?_ ?_
 ·intro s1 o h
  unfold g_ref17_Forward_b0 at h
  refine wp_seq (sq ?_)
  refine wb [9] h (fun q3 h=>?_) (fun q3 h=>?_)
  ·refine wcT (wp_skip (wp_seq (wp_block ?_)))
   refine wp_post ?_
   refine reg_in (sz 3 3 ?_)
   refine lenL (enc:=eI) (l:=p0.First) (fl:=true) kr gE ?_
   refine mkL (enc:=eI) (z:=(0:Int)) (z0:=vI 0) (n:=(zn p0.First)) (m:=(zn p0.First)) (w:=1) (bytes:=8) (S:=⟨[(1,vI (zn p1)),(2,.ptr 1 0 0),(5,.ref 2 0 s1.2.length),(6,vI s1.1),(7,vI s1.1),(8,vI (zn p1)),(9,vB true),(12,.ref 2 0 s1.2.length),(13,.ptr 1 0 1),(14,z1 p0.First)]++[(15,vI (zn p0.First)),(16,.ref 4 0 ((List.replicate (zt (zn p0.First)) (0:Int)).length))],[oX true false 4 (.agg [vI p0.Grain,z1 p0.First,z2 p0.Step,z2 p0.Show]),oX true false 4 (.agg [vI p0.Grain,z1 p0.First,z2 p0.Step,z2 p0.Show]),.refs 3 (eF eI s1.2),.fam 1 true (eF eI s1.2),oR true 1 eI (List.replicate (zt (zn p0.First)) (0:Int))],20⟩) [] true kr rfl kr kr h (fun h=>?_)
   refine sgN true 1 6 gE rfl ?_
   refine appF (enc:=eI) (ls:=s1.2) (q:=(List.replicate (zt (zn p0.First)) (0:Int))) (bytes:=24) (ob:=2) (j:=3) (tm:=5) (m:=4) kr kr rfl kr gE kr h (fun h=>?_)
   refine sgz 1 8 (S:=⟨(s58_17 p1 s1 p0),[oX true false 4 (.agg [vI p0.Grain,z1 p0.First,z2 p0.Step,z2 p0.Show]),oX true false 4 (.agg [vI p0.Grain,z1 p0.First,z2 p0.Step,z2 p0.Show]),.dead,.fam 1 true (eF eI s1.2),oR true 1 eI (List.replicate (zt (zn p0.First)) (0:Int)),.row false false false false 1 [.ref 4 0 ((List.replicate (zt (zn p0.First)) (0:Int)).length)],.row false false false false 1 (famRefs 3 0 (eF eI s1.2)++[.ref 4 0 (List.replicate (zt (zn p0.First)) (0:Int)).length])],20⟩) ?_
   refine reg_end rfl ?_
   refine ⟨⟨(s58_19 p1 s1 p0),(s58_20 p0 s1),20⟩,(wk_trans (wk_dead 5 (st':=⟨(s58_17 p1 s1 p0),[oX true false 4 (.agg [vI p0.Grain,z1 p0.First,z2 p0.Step,z2 p0.Show]),oX true false 4 (.agg [vI p0.Grain,z1 p0.First,z2 p0.Step,z2 p0.Show]),.dead,.fam 1 true (eF eI s1.2),oR true 1 eI (List.replicate (zt (zn p0.First)) (0:Int)),.dead,.row false false false false 1 (famRefs 3 0 (eF eI s1.2)++[.ref 4 0 (List.replicate (zt (zn p0.First)) (0:Int)).length])],20⟩) (by kernel_rfl)) (wk_adoptA 6 3 4 (enc:=eI) (ls:=s1.2) (b:=(List.replicate (zt (zn p0.First)) (0:Int))) [1,2,5,6,7,8,9,12,13,14,15,17,18] (st':=⟨(s58_19 p1 s1 p0),(s58_20 p0 s1),20⟩) rfl rfl rfl (by kernel_rfl) (by kernel_rfl))),?_⟩
   refine wg [1,2,5,6] [1,6,3] (rn ?_)
   cases h
   exact ⟨_,rfl,(wk_gc (live:=[1,2,5,6]) (keep:=[1,2,3]) kr)⟩
  refine wcF (wg [5] [2,3] ?_)
  refine wp_exit ?_
  cases h
  exact ⟨kr,rfl⟩
 intro x5 h out hx
 subst hx
 refine sq (wg [4] [1,2] ?_)
 refine wp_ret ?_
 refine ⟨⟨(s58_1 p0 p1)++[(2,.ptr 0 0 0),(4,.nils),(12,.agg [vI p0.Grain,z1 p0.First,z2 p0.Step,z2 p0.Show]),(13,z1 p1),(14,vI (zn p1)),(15,.ref 1 0 x5.length)],[oX true false 4 (.agg [vI p0.Grain,z1 p0.First,z2 p0.Step,z2 p0.Show]),.refs 2 (eF eI x5),.fam 1 true (eF eI x5)],121⟩,by as_aux_lemma=>kernel_rfl,?_⟩
 refine sz 1 5 (reg_end rfl ?_)
 refine ⟨_,wk_refl,?_⟩
 refine wp_seq (wp_seq (wg [1,2,5] [0,1,2] (rn (wp_block ?_))))
 refine wwh h (fun s6=>⟨[(1,z1 p1),(2,.ptr 0 0 0),(5,.ref 1 0 s6.2.length),(6,vI s6.1)],(s58_54 p0 s6),121⟩) (fun v out=>out=.go (.exit 0) ⟨[(5,.ref 0 0 v.length)],[.refs 1 (eF eI v),.fam 1 true (eF eI v)],121⟩) (wk_gc (live:=[1,2,5,6]) (keep:=[0,1,2]) kr) ?_ ?_
 ·intro s6 o h
  unfold g_ref17_Forward_b4 at h
  refine wp_seq (wp_seq (reg_in (sz 2 2 ?_)))
  refine lenL (enc:=eI) (l:=p1) (fl:=true) kr gE ?_
  refine sz 1 4 (reg_end rfl ?_)
  refine wb [19] h (fun q8 h=>?_) (fun q8 h=>?_)
  ·refine wcT (wp_skip (wp_seq (wp_block (wp_seq (wp_seq ?_)))))
   refine wp_post ?_
   refine reg_in (sz 3 3 ?_)
   refine callW bodyB_84 (g_ref17_short_ok p0 (zw (s6.1+1))) h (fun x9 _ h=>?_)
   refine reg_end rfl ?_
   refine ⟨_,wk_refl,?_⟩
   refine wbz h (fun q12 h=>?_) (fun q12 h=>?_)
   ·refine wp_seq ?_
    refine wgc [1,2,5,6] [0,1,2] ⟨[(1,z1 p1),(2,.ptr 0 0 0),(5,.ref 1 0 s6.2.length),(6,vI s6.1)],(s58_54 p0 s6),121⟩ ?_
    refine wp_post ?_
    refine reg_in (sz 3 3 ?_)
    refine callW bodyB_85 (g_ref17_Paths_ok p0 (zw (s6.1+1))) h (fun x13 _ h=>?_)
    refine sz 1 5 (reg_end rfl ?_)
    refine ⟨_,wk_refl,?_⟩
    refine wp_seq (sq (wp_block ?_))
    refine wwh h (fun s15=>⟨[(1,z1 p1),(2,.ptr 0 0 0),(5,.ref 1 0 s15.2.length),(6,vI s6.1),(7,.ref 2 0 x13.length),(8,vI s15.1)],(s58_32 p0 s15 x13),121⟩) (fun v out=>out=.go (.exit 2) ⟨[(1,z1 p1),(2,.ptr 0 0 0),(5,.ref 1 0 v.length),(6,vI s6.1)],[oX true false 4 (.agg [vI p0.Grain,z1 p0.First,z2 p0.Step,z2 p0.Show]),.refs 2 (eF eI v),.fam 1 true (eF eI v)],121⟩) (wk_gc (live:=[1,2,5,6,7,8]) (keep:=[0,1,3,2]) kr) ?_ ?_
    ·intro s15 o h
     unfold g_ref17_Forward_b1 at h
     refine wp_seq (sq ?_)
     refine wb [33] h (fun q17 h=>?_) (fun q17 h=>?_)
     ·refine wcT (wp_skip (wp_seq (wp_block (wp_seq ?_))))
      refine wp_post ?_
      refine reg_in (sz 2 2 ?_)
      refine bind_elim h (fun a18 q19 h=>?_)
      refine idxR' (enc:=z1) (l:=x13) (n:=s15.1) (w:=1) (ob:=2) (ro:=false) (nr:=true) (fl:=false) (a:=a18) kr kr gE q19 ?_
      refine loadR (enc:=z1) (l:=x13) (n:=s15.1) (w:=1) (ob:=2) (c:=0) (bx:=false) (ro:=false) (nr:=true) (fl:=false) (a:=a18) kr kr q19 gE ?_
      refine sz 1 5 ?_
      refine bind_elim h (fun a20 q21 h=>?_)
      refine idxL' (enc:=eI) (l:=a18) (n:=s6.1) (fl:=true) (w:=1) (a:=a20) kr rfl gE q21 ?_
      refine sz 2 8 (reg_end rfl ?_)
      refine ⟨_,wk_refl,?_⟩
      refine wgc [1,2,5,6,7,8,9] [0,1,2,3] ⟨[(1,z1 p1),(2,.ptr 0 0 0),(5,.ref 1 0 s15.2.length),(6,vI s6.1),(7,.ref 2 0 x13.length),(8,vI s15.1),(9,vI a20)],(s58_32 p0 s15 x13),121⟩ ?_
      refine wp_post ?_
      refine rga hfol (sy 2 2 ?_)
      refine bind_elim h (fun a22 q23 h=>?_)
      refine idxF (enc:=eI) (ls:=s15.2) (x:=a22) (n:=s6.1) (ob:=1) (j:=3) kr kr q23 gE ?_
      refine loadF (enc:=eI) (ls:=s15.2) (x:=a22) (n:=s6.1) (ob:=1) (j:=3) kr kr q23 gE ?_
      refine sy 3 7 ?_
      refine idxF (enc:=eI) (ls:=s15.2) (x:=a22) (n:=s6.1) (ob:=1) (j:=3) kr kr q23 gE ?_
      refine loadF (enc:=eI) (ls:=s15.2) (x:=a22) (n:=s6.1) (ob:=1) (j:=3) kr kr q23 gE ?_
      refine sy 1 10 ?_
      refine bind_elim h (fun a24 q25 h=>?_)
      refine idxI (enc:=eI) (ls:=s15.2) (x:=a22) (y:=a24) (n:=s6.1) (c:=a20) (w:=1) (j:=3) (fl:=true) kr kr q23 q25 rfl gE ?_
      refine loadI (enc:=eI) (ls:=s15.2) (x:=a22) (y:=a24) (n:=s6.1) (m:=a20) (w:=1) (j:=3) (c:=0) (fl:=true) kr kr q23 q25 rfl gE ?_
      refine sy 4 16 ?_
      refine sliceL (enc:=eI) (l:=p1) (fl:=true) (lo:=none) (hi:=(some (vI (zw (s6.1+1))))) (a:=0) (b:=zw (s6.1+1)) (w:=1) kr (fun _=>rfl) rfl rfl gE h (fun h=>?_)
      refine sy 2 19 ?_
      refine idxR' (enc:=z1) (l:=x13) (n:=s15.1) (w:=1) (ob:=2) (ro:=false) (nr:=true) (fl:=false) (a:=a18) kr kr gE q19 ?_
      refine loadR (enc:=z1) (l:=x13) (n:=s15.1) (w:=1) (ob:=2) (c:=0) (bx:=false) (ro:=false) (nr:=true) (fl:=false) (a:=a18) kr kr q19 gE ?_
      refine callW bodyB_38 (g_ref17_Weight_ok p0 (sub p1 0 (zw (s6.1+1))) a18) h (fun x26 _ h=>?_)
      refine sy 1 23 ?_
      refine idxI (enc:=eI) (ls:=s15.2) (x:=a22) (y:=a24) (n:=s6.1) (c:=a20) (w:=1) (j:=3) (fl:=true) kr kr q23 q25 rfl gE ?_
      refine storeI (enc:=eI) (ls:=s15.2) (x:=a22) (y:=a24) (y':=zw (a24+x26)) (n:=s6.1) (m:=a20) (w:=1) (j:=3) (q:=1) (c:=0) (fl:=true) (v:=vI (zw (a24+x26))) kr kr kr q23 q25 rfl kr kr kr gE ?_
      refine rl [5,43,48] (n:=s15.2.length) (m:=(List.set s15.2 (zt s6.1) (List.set a22 (zt a20) (zw (a24+x26)))).length) (by simp only [List.length_set]) ?_
      refine rgd ?_
      refine ⟨_,wk_refl,?_⟩
      refine wgc [1,2,5,6,7,8] [0,1,2,3] ⟨[(1,z1 p1),(2,.ptr 0 0 0),(5,.ref 1 0 ((List.set s15.2 (zt s6.1) (List.set a22 (zt a20) (zw (a24+x26)))).length)),(6,vI s6.1),(7,.ref 2 0 x13.length),(8,vI s15.1)],[oX true false 4 (.agg [vI p0.Grain,z1 p0.First,z2 p0.Step,z2 p0.Show]),.refs 3 (eF eI (List.set s15.2 (zt s6.1) (List.set a22 (zt a20) (zw (a24+x26))))),oR false 1 z1 x13,.fam 1 true (eF eI (List.set s15.2 (zt s6.1) (List.set a22 (zt a20) (zw (a24+x26)))))],121⟩ ?_
      refine rn ?_
      cases h
      exact ⟨_,rfl,(wk_gc (live:=[1,2,5,6,7,8]) (keep:=[0,1,2,3]) kr)⟩
     refine wcF (wg [1,2,5,6] [0,1,3] ?_)
     refine wp_exit ?_
     cases h
     exact ⟨kr,rfl⟩
    intro x30 h out hx
    subst hx
    refine wg [1,2,5,6] [0,1,2] ?_
    refine wp_exit ?_
    refine rn ?_
    cases h
    exact ⟨_,rfl,(wk_gc (live:=[1,2,5,6]) (keep:=[0,1,2]) kr)⟩
   refine wp_skip (wp_seq ?_)
   refine wgc [1,2,5,6] [0,1,2] ⟨[(1,z1 p1),(2,.ptr 0 0 0),(5,.ref 1 0 s6.2.length),(6,vI s6.1)],(s58_54 p0 s6),121⟩ ?_
   refine rn (wp_block ?_)
   refine wwh h (fun s31=>⟨[(1,z1 p1),(2,.ptr 0 0 0),(5,.ref 1 0 s31.2.length),(6,vI s6.1),(10,vI s31.1)],[oX true false 4 (.agg [vI p0.Grain,z1 p0.First,z2 p0.Step,z2 p0.Show]),.refs 2 (eF eI s31.2),.fam 1 true (eF eI s31.2)],121⟩) (fun v out=>out=.go (.exit 4) ⟨[(1,z1 p1),(2,.ptr 0 0 0),(5,.ref 1 0 v.length),(6,vI s6.1)],[oX true false 4 (.agg [vI p0.Grain,z1 p0.First,z2 p0.Step,z2 p0.Show]),.refs 2 (eF eI v),.fam 1 true (eF eI v)],121⟩) (wk_gc (live:=[1,2,5,6,10]) (keep:=[0,1,2]) kr) ?_ ?_
   ·intro s31 o h
    unfold g_ref17_Forward_b3 at h
    refine wp_seq (wp_seq ?_)
    refine wp_post ?_
    refine reg_in (sz 3 3 ?_)
    refine lenL (enc:=eI) (l:=p0.First) (fl:=true) kr gE ?_
    refine sz 1 5 (reg_end rfl ?_)
    refine ⟨_,wk_refl,?_⟩
    refine wbz h (fun q33 h=>?_) (fun q33 h=>?_)
    ·refine wp_skip (wp_seq (wp_block (wp_seq (wg [1,2,5,6,10] [0,1,2] (rn (wp_block ?_))))))
     refine wwh h (fun s34=>⟨[(1,z1 p1),(2,.ptr 0 0 0),(5,.ref 1 0 s34.2.length),(6,vI s6.1),(10,vI s31.1),(11,vI s34.1)],(s58_42 p0 s34),121⟩) (fun v out=>out=.go (.exit 6) ⟨[(1,z1 p1),(2,.ptr 0 0 0),(5,.ref 1 0 v.length),(6,vI s6.1),(10,vI s31.1)],[oX true false 4 (.agg [vI p0.Grain,z1 p0.First,z2 p0.Step,z2 p0.Show]),.refs 2 (eF eI v),.fam 1 true (eF eI v)],121⟩) (wk_gc (live:=[1,2,5,6,10,11]) (keep:=[0,1,2]) kr) ?_ ?_
     ·intro s34 o h
      unfold g_ref17_Forward_b2 at h
      refine wp_seq (wp_seq ?_)
      refine wp_post ?_
      refine reg_in (sz 3 3 ?_)
      refine lenL (enc:=eI) (l:=p0.First) (fl:=true) kr gE ?_
      refine sz 1 5 (reg_end rfl ?_)
      refine ⟨_,wk_refl,?_⟩
      refine wbz h (fun q36 h=>?_) (fun q36 h=>?_)
      ·refine wp_skip (wp_seq (wp_block (wg [1,2,5,6,10,11] [0,1,2] ?_)))
       refine wp_post ?_
       refine rga hfol (sy 2 2 ?_)
       refine bind_elim h (fun a37 q38 h=>?_)
       refine idxF (enc:=eI) (ls:=s34.2) (x:=a37) (n:=s6.1) (ob:=1) (j:=2) kr kr q38 gE ?_
       refine loadF (enc:=eI) (ls:=s34.2) (x:=a37) (n:=s6.1) (ob:=1) (j:=2) kr kr q38 gE ?_
       refine sy 3 7 ?_
       refine idxF (enc:=eI) (ls:=s34.2) (x:=a37) (n:=s6.1) (ob:=1) (j:=2) kr kr q38 gE ?_
       refine loadF (enc:=eI) (ls:=s34.2) (x:=a37) (n:=s6.1) (ob:=1) (j:=2) kr kr q38 gE ?_
       refine sy 1 10 ?_
       refine bind_elim h (fun a39 q40 h=>?_)
       refine idxI (enc:=eI) (ls:=s34.2) (x:=a37) (y:=a39) (n:=s6.1) (c:=s31.1) (w:=1) (j:=2) (fl:=true) kr kr q38 q40 rfl gE ?_
       refine loadI (enc:=eI) (ls:=s34.2) (x:=a37) (y:=a39) (n:=s6.1) (m:=s31.1) (w:=1) (j:=2) (c:=0) (fl:=true) kr kr q38 q40 rfl gE ?_
       refine sy 3 15 ?_
       refine bind_elim h (fun a41 q42 h=>?_)
       refine idxF (enc:=eI) (ls:=s34.2) (x:=a41) (n:=zw (s6.1 - 1)) (ob:=1) (j:=2) kr kr q42 gE ?_
       refine loadF (enc:=eI) (ls:=s34.2) (x:=a41) (n:=zw (s6.1 - 1)) (ob:=1) (j:=2) kr kr q42 gE ?_
       refine sy 1 18 ?_
       refine bind_elim h (fun a43 q44 h=>?_)
       refine idxI (enc:=eI) (ls:=s34.2) (x:=a41) (y:=a43) (n:=zw (s6.1 - 1)) (c:=s34.1) (w:=1) (j:=2) (fl:=true) (S:=⟨[(1,z1 p1),(2,.ptr 0 0 0),(5,.ref 1 0 s34.2.length),(6,vI s6.1),(10,vI s31.1),(11,vI s34.1),(81,.ref 1 0 s34.2.length),(82,vI s6.1),(83,.ptr 1 (zt s6.1) 0),(84,.ref (fid 2 (zt s6.1)) 0 a37.length),(85,vI s31.1),(86,.ref 1 0 s34.2.length),(87,vI s6.1),(88,.ptr 1 (zt s6.1) 0),(89,.ref (fid 2 (zt s6.1)) 0 a37.length),(90,vI s31.1),(91,.ptr (fid 2 (zt s6.1)) (zt s31.1) 0),(92,vI a39),(93,.ref 1 0 s34.2.length),(94,vI s6.1),(95,vI (zw (s6.1 - 1))),(96,.ptr 1 (zt (zw (s6.1 - 1))) 0),(97,.ref (fid 2 (zt (zw (s6.1 - 1)))) 0 a41.length),(98,vI s34.1),(99,.ptr (fid 2 (zt (zw (s6.1 - 1)))) (zt s34.1) 0)],(s58_42 p0 s34),121⟩) kr kr q42 q44 rfl kr ?_
       refine loadI (enc:=eI) (ls:=s34.2) (x:=a41) (y:=a43) (n:=zw (s6.1 - 1)) (m:=s34.1) (w:=1) (j:=2) (c:=0) (fl:=true) kr kr q42 q44 rfl gE ?_
       refine sy 3 23 ?_
       refine bind_elim h (fun a45 q46 h=>?_)
       refine idxL' (enc:=z1) (l:=p0.Step) (n:=s34.1) (fl:=false) (w:=1) (a:=a45) kr rfl gE q46 ?_
       refine sy 2 26 ?_
       refine bind_elim h (fun a47 q48 h=>?_)
       refine idxL' (enc:=eI) (l:=a45) (n:=s31.1) (fl:=true) (w:=1) (a:=a47) kr rfl gE q48 ?_
       refine sy 6 33 ?_
       refine bind_elim h (fun a49 q50 h=>?_)
       refine idxL' (enc:=eI) (l:=p1) (n:=s6.1) (fl:=true) (w:=1) (a:=a49) kr rfl gE q50 ?_
       refine sy 1 35 ?_
       refine callW bodyB_73 (g_ref17_Shows_ok p0 s31.1 a49) h (fun x51 _ h=>?_)
       refine sy 2 38 ?_
       refine idxI (enc:=eI) (ls:=s34.2) (x:=a37) (y:=a39) (n:=s6.1) (c:=s31.1) (w:=1) (j:=2) (fl:=true) kr kr q38 q40 rfl gE ?_
       refine storeI (enc:=eI) (ls:=s34.2) (x:=a37) (y:=a39) (y':=zw (a39+(zw ((zw (a43*a47))*x51)))) (n:=s6.1) (m:=s31.1) (w:=1) (j:=2) (q:=1) (c:=0) (fl:=true) (v:=vI (zw (a39+(zw ((zw (a43*a47))*x51))))) kr kr kr q38 q40 rfl kr kr kr gE ?_
       refine rl [5,81,86,93] (n:=s34.2.length) (m:=(List.set s34.2 (zt s6.1) (List.set a37 (zt s31.1) (zw (a39+(zw ((zw (a43*a47))*x51)))))).length) (by simp only [List.length_set]) ?_
       refine rgd ?_
       refine ⟨_,wk_refl,?_⟩
       refine wgc [1,2,5,6,10,11] [0,1,2] ⟨[(1,z1 p1),(2,.ptr 0 0 0),(5,.ref 1 0 ((List.set s34.2 (zt s6.1) (List.set a37 (zt s31.1) (zw (a39+(zw ((zw (a43*a47))*x51)))))).length)),(6,vI s6.1),(10,vI s31.1),(11,vI s34.1)],[oX true false 4 (.agg [vI p0.Grain,z1 p0.First,z2 p0.Step,z2 p0.Show]),.refs 2 (eF eI (List.set s34.2 (zt s6.1) (List.set a37 (zt s31.1) (zw (a39+(zw ((zw (a43*a47))*x51))))))),.fam 1 true (eF eI (List.set s34.2 (zt s6.1) (List.set a37 (zt s31.1) (zw (a39+(zw ((zw (a43*a47))*x51)))))))],121⟩ ?_
       refine rn ?_
       cases h
       exact ⟨_,rfl,(wk_gc (live:=[1,2,5,6,10,11]) (keep:=[0,1,2]) kr)⟩
      refine wg [1,2,5,6,10] [0,1,2] ?_
      refine wp_exit ?_
      cases h
      exact ⟨kr,rfl⟩
     intro x55 h out hx
     subst hx
     refine rn ?_
     cases h
     exact ⟨_,rfl,(wk_gc (live:=[1,2,5,6,10]) (keep:=[0,1,2]) kr)⟩
    refine wg [1,2,5,6] [0,1,2] ?_
    refine wp_exit ?_
    cases h
    exact ⟨kr,rfl⟩
   intro x57 h out hx
   subst hx
   refine rn ?_
   cases h
   exact ⟨_,rfl,(wk_gc (live:=[1,2,5,6]) (keep:=[0,1,2]) kr)⟩
  refine wcF (wg [5] [1,2] ?_)
  refine wp_exit ?_
  cases h
  exact ⟨kr,rfl⟩
 intro x59 h out hx
 subst hx
 refine sq ?_
 refine wgc [4] [0,1] ⟨[(4,.ref 0 0 x59.length)],[.refs 1 (eF eI x59),.fam 1 true (eF eI x59)],121⟩ ?_
 refine wp_wk (wk_frzF 0 1 (enc:=eI) (ls:=x59) (st':=⟨[(4,.ref 0 0 x59.length)],[oR false 1 z1 x59,.dead],121⟩) rfl rfl kr) ?_
 cases h
 exact wp_ret (show fnOut _ _ _ _=_ from by kernel_rfl)
theorem g_ref17_Total_ok (p0:(List Int)) (x:Int) (h:g_ref17_Total p0=some x):CallOk Try.prog 82 [z1 p0] (.ret (vI x) []):=by
 refine fn_ok [] Try.func82 rfl (by decide +kernel) rfl ?_
 unfold g_ref17_Total at h
 refine wp_eqB (base':=0) (st':=⟨[(0,z1 p0)],[],18⟩) kr kr ?_
 refine sq (sq (wp_seq (sq (wp_block ?_))))
 refine wwh h (fun s1=>⟨[(0,z1 p0),(3,vI s1.1),(4,vI s1.2)],[],18⟩) (fun v out=>out=.go (.exit 0) ⟨[(3,vI v)],[],18⟩) (wk_gc (live:=[0,3,4]) (keep:=[]) kr) ?_ ?_
 ·intro s1 o h
  unfold g_ref17_Total_b0 at h
  refine wp_seq (wp_seq (reg_in (sz 2 2 ?_)))
  refine lenL (enc:=eI) (l:=p0) (fl:=true) kr gE ?_
  refine sz 1 4 (reg_end rfl ?_)
  refine wb [8] h (fun q3 h=>?_) (fun q3 h=>?_)
  ·refine wcT (wp_skip (wp_seq (wp_block (reg_in (sz 3 3 ?_)))))
   refine bind_elim h (fun a4 q5 h=>?_)
   refine idxL' (enc:=eI) (l:=p0) (n:=s1.2) (fl:=true) (w:=1) (a:=a4) kr rfl gE q5 ?_
   refine sz 3 7 (reg_end rfl ?_)
   refine wgc [0,3,4] [] ⟨[(0,z1 p0),(3,vI (zw (s1.1+a4))),(4,vI s1.2)],[],18⟩ ?_
   refine rn ?_
   cases h
   exact ⟨_,rfl,(wk_gc (live:=[0,3,4]) (keep:=[]) kr)⟩
  refine wcF (wg [3] [] ?_)
  refine wp_exit ?_
  cases h
  exact ⟨kr,rfl⟩
 intro x7 h out hx
 subst hx
 refine sq (wg [2] [] ?_)
 cases h
 exact wp_ret (show fnOut _ _ _ _=_ from by kernel_rfl)
theorem g_ref17_All_ok (p0:Tapi_Hidden) (p1:(List Int)) (x:Int) (h:g_ref17_All p0 p1=some x):CallOk Try.prog 57 [.agg [vI p0.Grain,z1 p0.First,z2 p0.Step,z2 p0.Show],z1 p1] (.ret (vI x) []):=by
 refine fn_ok [] Try.func57 rfl (by decide +kernel) rfl ?_
 unfold g_ref17_All at h
 refine wp_eqB (base':=0) (st':=⟨[(0,.agg [vI p0.Grain,z1 p0.First,z2 p0.Step,z2 p0.Show]),(1,z1 p1)],[],16⟩) kr kr ?_
 refine wp_seq (reg_in ?_)
 refine sgL false [] [] false gE ?_
 refine sz 1 2 (reg_end rfl (wp_seq (reg_in (sz 2 2 ?_))))
 refine callW bodyB_58 (g_ref17_Forward_ok p0 p1) h (fun x1 _ h=>?_)
 refine sz 1 4 (reg_end rfl (wp_seq (wg [5] [1] (reg_in (sz 4 4 ?_)))))
 refine bind_elim h (fun a3 q4 h=>?_)
 refine idxR' (enc:=z1) (l:=x1) (n:=zw ((zn x1) - 1)) (w:=1) (ob:=0) (ro:=false) (nr:=true) (fl:=false) (a:=a3) kr kr gE q4 ?_
 refine loadR (enc:=z1) (l:=x1) (n:=zw ((zn x1) - 1)) (w:=1) (ob:=0) (c:=0) (bx:=false) (ro:=false) (nr:=true) (fl:=false) (a:=a3) kr kr q4 gE ?_
 refine callW bodyB_82 (g_ref17_Total_ok a3) h (fun x5 _ h=>?_)
 refine sz 1 8 (reg_end rfl ?_)
 refine wgc [4] [] ⟨[(4,vI x5)],[],16⟩ ?_
 cases h
 exact wp_ret (show fnOut _ _ _ _=_ from by kernel_rfl)
noncomputable abbrev s59_1 (p0:Tapi_Hidden) (p1:(List Int)):List (Nat × AV):=[(0,.agg [vI p0.Grain,z1 p0.First,z2 p0.Step,z2 p0.Show]),(1,z1 p1)]
noncomputable abbrev s59_4 (p0:Tapi_Hidden) (p1:(List Int)):List (Nat × AV):=[(0,.agg [vI p0.Grain,z1 p0.First,z2 p0.Step,z2 p0.Show]),(1,vI (zn p1))]
noncomputable abbrev s59_5 (p0:Tapi_Hidden):List AObj:=[oX true false 4 (.agg [vI p0.Grain,z1 p0.First,z2 p0.Step,z2 p0.Show]),oX true false 4 (.agg [vI p0.Grain,z1 p0.First,z2 p0.Step,z2 p0.Show])]
noncomputable abbrev s59_18 (p1:(List Int)) (s1:(Int × (List (List Int)))) (p0:Tapi_Hidden):List (Nat × AV):=[(1,vI (zn p1)),(2,.ptr 1 0 0),(5,.ref 6 0 ((s1.2++[(List.replicate (zt (zn p0.First)) (0:Int))]).length)),(6,vI s1.1),(7,vI s1.1),(8,vI (zn p1)),(9,vB true),(12,.ref 2 0 s1.2.length),(13,.ptr 1 0 1),(14,z1 p0.First),(15,vI (zn p0.First)),(16,.ref 4 0 ((List.replicate (zt (zn p0.First)) (0:Int)).length)),(17,.ref 5 0 1),(18,.ref 6 0 ((s1.2++[(List.replicate (zt (zn p0.First)) (0:Int))]).length))]
noncomputable abbrev s59_20 (p1:(List Int)) (s1:(Int × (List (List Int)))) (p0:Tapi_Hidden):List (Nat × AV):=[(1,vI (zn p1)),(2,.ptr 1 0 0),(5,.ref 6 0 ((s1.2++[(List.replicate (zt (zn p0.First)) (0:Int))]).length)),(6,vI s1.1),(7,vI s1.1),(8,vI (zn p1)),(9,vB true),(12,.ref 2 0 s1.2.length),(13,.ptr 1 0 1),(14,z1 p0.First),(15,vI (zn p0.First)),(17,.ref 5 0 1),(18,.ref 6 0 ((s1.2++[(List.replicate (zt (zn p0.First)) (0:Int))]).length))]
noncomputable abbrev s59_21 (p0:Tapi_Hidden) (s1:(Int × (List (List Int)))):List AObj:=[oX true false 4 (.agg [vI p0.Grain,z1 p0.First,z2 p0.Step,z2 p0.Show]),oX true false 4 (.agg [vI p0.Grain,z1 p0.First,z2 p0.Step,z2 p0.Show]),.dead,.fam 1 true (eF eI (s1.2++[(List.replicate (zt (zn p0.First)) (0:Int))])),.dead,.dead,.refs 3 (eF eI (s1.2++[(List.replicate (zt (zn p0.First)) (0:Int))]))]
noncomputable abbrev s59_33 (p0:Tapi_Hidden) (s16:(Int × (List (List Int)))):List AObj:=[oX true false 4 (.agg [vI p0.Grain,z1 p0.First,z2 p0.Step,z2 p0.Show]),.refs 2 (eF eI s16.2),.fam 1 true (eF eI s16.2)]
noncomputable abbrev s59_54 (p0:Tapi_Hidden) (s40:(Int × (List (List Int)))) (x38:(List (List Int))):List AObj:=[oX true false 4 (.agg [vI p0.Grain,z1 p0.First,z2 p0.Step,z2 p0.Show]),.refs 3 (eF eI s40.2),oR false 1 z1 x38,.fam 1 true (eF eI s40.2)]
noncomputable abbrev s59_73 (p0:Tapi_Hidden) (s9:(Int × (List (List Int)))):List AObj:=[oX true false 4 (.agg [vI p0.Grain,z1 p0.First,z2 p0.Step,z2 p0.Show]),.refs 2 (eF eI s9.2),.fam 1 true (eF eI s9.2)]
noncomputable abbrev s59_154 (p1:(List Int)) (s9:(Int × (List (List Int)))) (s6:(Int × (List (List Int)))):List (Nat × AV):=[(1,z1 p1),(2,.ptr 0 0 0),(5,vI (zn p1)),(6,.ref 1 0 s9.2.length),(7,vI s6.1),(8,vI s9.1)]
theorem g_ref17_Backward_ok (p0:Tapi_Hidden) (p1:(List Int)) (x:(List (List Int))) (h:g_ref17_Backward p0 p1=some x):CallOk Try.prog 59 [.agg [vI p0.Grain,z1 p0.First,z2 p0.Step,z2 p0.Show],z1 p1] (.ret (.ref 0 0 x.length) [oR false 1 z1 x]):=by
 refine fn_ok [] Try.func59 rfl (by decide +kernel) rfl ?_
 unfold g_ref17_Backward at h
 refine wp_eqB (base':=0) (st':=⟨(s59_1 p0 p1),[],165⟩) kr kr ?_
 refine wp_seq (reg_in ?_)
 refine sgL false [] [] false gE ?_
 refine sz 1 2 (reg_end rfl (wp_seq (reg_in (sz 1 1 ?_))))
 refine lenL (enc:=eI) (l:=p1) (fl:=true) kr gE ?_
 refine sz 1 3 (reg_end rfl (wp_seq ?_))
 refine wp_post ?_
 refine reg_in (sz 2 2 ?_)
 refine inlR (f:=83) (fn:=Try.f83) (as0:=[.agg [vI p0.Grain,z1 p0.First,z2 p0.Step,z2 p0.Show],vI (zn p1)]) kr Try.func83 rfl (by decide +kernel) rfl ?_
 refine wp_eqB (base':=1) (st':=⟨(s59_4 p0 p1),[oX true false 4 (.agg [vI p0.Grain,z1 p0.First,z2 p0.Step,z2 p0.Show])],20⟩) kr kr ?_
 refine wp_seq (reg_in ?_)
 refine sgL false [] [] false gE ?_
 refine sz 1 2 (reg_end rfl (sq (wp_seq ?_)))
 refine sqN (S:=⟨(s59_4 p0 p1)++[(2,.ptr 1 0 0),(4,.nils),(5,.nils),(6,vI 0)],(s59_5 p0),20⟩) ?_
 refine wp_block ?_
 refine wwh h (fun s1=>⟨[(1,vI (zn p1)),(2,.ptr 1 0 0),(5,.ref 2 0 s1.2.length),(6,vI s1.1)],[oX true false 4 (.agg [vI p0.Grain,z1 p0.First,z2 p0.Step,z2 p0.Show]),oX true false 4 (.agg [vI p0.Grain,z1 p0.First,z2 p0.Step,z2 p0.Show]),.refs 3 (eF eI s1.2),.fam 1 true (eF eI s1.2)],20⟩) (fun v out=>out=.go (.exit 0) ⟨[(5,.ref 1 0 v.length)],[oX true false 4 (.agg [vI p0.Grain,z1 p0.First,z2 p0.Step,z2 p0.Show]),.refs 2 (eF eI v),.fam 1 true (eF eI v)],20⟩) (wk_trans (wk_gc (live:=[1,2,5,6]) (keep:=[1]) (st':=⟨[(1,vI (zn p1)),(2,.ptr 1 0 0),(5,.nils),(6,vI 0)],(s59_5 p0),20⟩) kr) (wk_trans (wk_nil 5 1 true true (st':=⟨[(1,vI (zn p1)),(2,.ptr 1 0 0),(5,.ref 2 0 0),(6,vI 0)],[oX true false 4 (.agg [vI p0.Grain,z1 p0.First,z2 p0.Step,z2 p0.Show]),oX true false 4 (.agg [vI p0.Grain,z1 p0.First,z2 p0.Step,z2 p0.Show]),.row false false true true 1 []],20⟩) kr) (wk_trans (wk_fam 2 1 true (x0:=([]:List Int)) (n:=0) (enc1:=fun _=>AV.nils) eI rfl rfl rfl (st':=⟨[(1,vI (zn p1)),(2,.ptr 1 0 0),(5,.ref 2 0 (([]:List (List Int)).length)),(6,vI 0)],[oX true false 4 (.agg [vI p0.Grain,z1 p0.First,z2 p0.Step,z2 p0.Show]),oX true false 4 (.agg [vI p0.Grain,z1 p0.First,z2 p0.Step,z2 p0.Show]),.refs 3 (eF eI ([]:List (List Int))),.fam 1 true (eF eI ([]:List (List Int)))],20⟩) kr) (wk_gc (live:=[1,2,5,6]) (keep:=[1,2,3]) kr)))) ?_ ?_
 ·intro s1 o h
  unfold g_ref17_Backward_b0 at h
  refine wp_seq (sq ?_)
  refine wb [9] h (fun q3 h=>?_) (fun q3 h=>?_)
  ·refine wcT (wp_skip (wp_seq (wp_block ?_)))
   refine wp_post ?_
   refine reg_in (sz 3 3 ?_)
   refine lenL (enc:=eI) (l:=p0.First) (fl:=true) kr gE ?_
   refine mkL (enc:=eI) (z:=(0:Int)) (z0:=vI 0) (n:=(zn p0.First)) (m:=(zn p0.First)) (w:=1) (bytes:=8) (S:=⟨[(1,vI (zn p1)),(2,.ptr 1 0 0),(5,.ref 2 0 s1.2.length),(6,vI s1.1),(7,vI s1.1),(8,vI (zn p1)),(9,vB true),(12,.ref 2 0 s1.2.length),(13,.ptr 1 0 1),(14,z1 p0.First)]++[(15,vI (zn p0.First)),(16,.ref 4 0 ((List.replicate (zt (zn p0.First)) (0:Int)).length))],[oX true false 4 (.agg [vI p0.Grain,z1 p0.First,z2 p0.Step,z2 p0.Show]),oX true false 4 (.agg [vI p0.Grain,z1 p0.First,z2 p0.Step,z2 p0.Show]),.refs 3 (eF eI s1.2),.fam 1 true (eF eI s1.2),oR true 1 eI (List.replicate (zt (zn p0.First)) (0:Int))],20⟩) [] true kr rfl kr kr h (fun h=>?_)
   refine sgN true 1 6 gE rfl ?_
   refine appF (enc:=eI) (ls:=s1.2) (q:=(List.replicate (zt (zn p0.First)) (0:Int))) (bytes:=24) (ob:=2) (j:=3) (tm:=5) (m:=4) kr kr rfl kr gE kr h (fun h=>?_)
   refine sgz 1 8 (S:=⟨(s59_18 p1 s1 p0),[oX true false 4 (.agg [vI p0.Grain,z1 p0.First,z2 p0.Step,z2 p0.Show]),oX true false 4 (.agg [vI p0.Grain,z1 p0.First,z2 p0.Step,z2 p0.Show]),.dead,.fam 1 true (eF eI s1.2),oR true 1 eI (List.replicate (zt (zn p0.First)) (0:Int)),.row false false false false 1 [.ref 4 0 ((List.replicate (zt (zn p0.First)) (0:Int)).length)],.row false false false false 1 (famRefs 3 0 (eF eI s1.2)++[.ref 4 0 (List.replicate (zt (zn p0.First)) (0:Int)).length])],20⟩) ?_
   refine reg_end rfl ?_
   refine ⟨⟨(s59_20 p1 s1 p0),(s59_21 p0 s1),20⟩,(wk_trans (wk_dead 5 (st':=⟨(s59_18 p1 s1 p0),[oX true false 4 (.agg [vI p0.Grain,z1 p0.First,z2 p0.Step,z2 p0.Show]),oX true false 4 (.agg [vI p0.Grain,z1 p0.First,z2 p0.Step,z2 p0.Show]),.dead,.fam 1 true (eF eI s1.2),oR true 1 eI (List.replicate (zt (zn p0.First)) (0:Int)),.dead,.row false false false false 1 (famRefs 3 0 (eF eI s1.2)++[.ref 4 0 (List.replicate (zt (zn p0.First)) (0:Int)).length])],20⟩) (by kernel_rfl)) (wk_adoptA 6 3 4 (enc:=eI) (ls:=s1.2) (b:=(List.replicate (zt (zn p0.First)) (0:Int))) [1,2,5,6,7,8,9,12,13,14,15,17,18] (st':=⟨(s59_20 p1 s1 p0),(s59_21 p0 s1),20⟩) rfl rfl rfl (by kernel_rfl) (by kernel_rfl))),?_⟩
   refine wg [1,2,5,6] [1,6,3] (rn ?_)
   cases h
   exact ⟨_,rfl,(wk_gc (live:=[1,2,5,6]) (keep:=[1,2,3]) kr)⟩
  refine wcF (wg [5] [2,3] ?_)
  refine wp_exit ?_
  cases h
  exact ⟨kr,rfl⟩
 intro x5 h out hx
 subst hx
 refine sq (wg [4] [1,2] ?_)
 refine wp_ret ?_
 refine ⟨⟨(s59_1 p0 p1)++[(2,.ptr 0 0 0),(4,.nils),(15,z1 p1),(16,vI (zn p1)),(5,vI (zn p1)),(17,.agg [vI p0.Grain,z1 p0.First,z2 p0.Step,z2 p0.Show]),(18,vI (zn p1))]++[(19,.ref 1 0 x5.length)],[oX true false 4 (.agg [vI p0.Grain,z1 p0.First,z2 p0.Step,z2 p0.Show]),.refs 2 (eF eI x5),.fam 1 true (eF eI x5)],165⟩,by as_aux_lemma=>kernel_rfl,?_⟩
 refine sz 1 4 (reg_end rfl ?_)
 refine ⟨_,wk_refl,?_⟩
 refine wp_seq (wp_seq (wg [1,2,5,6] [0,1,2] (rn (wp_block ?_))))
 refine wwh h (fun s6=>⟨[(1,z1 p1),(2,.ptr 0 0 0),(5,vI (zn p1)),(6,.ref 1 0 s6.2.length),(7,vI s6.1)],[oX true false 4 (.agg [vI p0.Grain,z1 p0.First,z2 p0.Step,z2 p0.Show]),.refs 2 (eF eI s6.2),.fam 1 true (eF eI s6.2)],165⟩) (fun v out=>out=.go (.exit 0) ⟨[(6,.ref 0 0 v.length)],[.refs 1 (eF eI v),.fam 1 true (eF eI v)],165⟩) (wk_gc (live:=[1,2,5,6,7]) (keep:=[0,1,2]) kr) ?_ ?_
 ·intro s6 o h
  unfold g_ref17_Backward_b5 at h
  refine wp_seq (sq ?_)
  refine wb [23] h (fun q8 h=>?_) (fun q8 h=>?_)
  ·refine wcT (wp_skip (wp_seq (wp_block (sq (wp_block ?_)))))
   refine wwh h (fun s9=>⟨(s59_154 p1 s9 s6),(s59_73 p0 s9),165⟩) (fun v out=>out=.go (.exit 2) ⟨[(1,z1 p1),(2,.ptr 0 0 0),(5,vI (zn p1)),(6,.ref 1 0 v.length),(7,vI s6.1)],[oX true false 4 (.agg [vI p0.Grain,z1 p0.First,z2 p0.Step,z2 p0.Show]),.refs 2 (eF eI v),.fam 1 true (eF eI v)],165⟩) (wk_gc (live:=[1,2,5,6,7,8]) (keep:=[0,1,2]) kr) ?_ ?_
   ·intro s9 o h
    unfold g_ref17_Backward_b4 at h
    refine wp_seq (wp_seq ?_)
    refine wp_post ?_
    refine reg_in (sz 3 3 ?_)
    refine lenL (enc:=eI) (l:=p0.First) (fl:=true) kr gE ?_
    refine sz 1 5 (reg_end rfl ?_)
    refine ⟨_,wk_refl,?_⟩
    refine wbz h (fun q11 h=>?_) (fun q11 h=>?_)
    ·refine wp_skip (wp_seq (wp_block (wp_seq (wp_seq (wg [1,2,5,6,7,8] [0,1,2] ?_)))))
     refine wp_post ?_
     refine reg_in (sz 5 5 ?_)
     refine callW bodyB_84 (g_ref17_short_ok p0 (zw ((zw ((zn p1) - 1)) - s6.1))) h (fun x12 _ h=>?_)
     refine sz 1 7 (reg_end rfl ?_)
     refine ⟨_,wk_refl,?_⟩
     refine wbz h (fun q15 h=>?_) (fun q15 h=>?_)
     ·refine wp_seq (wp_seq ?_)
      refine wgc [1,2,5,6,7,8] [0,1,2] ⟨(s59_154 p1 s9 s6),(s59_73 p0 s9),165⟩ ?_
      refine rn (wp_block ?_)
      refine wwh h (fun s16=>⟨[(1,z1 p1),(2,.ptr 0 0 0),(5,vI (zn p1)),(6,.ref 1 0 s16.2.length),(7,vI s6.1),(8,vI s9.1),(9,vI s16.1)],(s59_33 p0 s16),165⟩) (fun v out=>out=.go (.exit 4) ⟨[(1,z1 p1),(2,.ptr 0 0 0),(5,vI (zn p1)),(6,.ref 1 0 v.length),(7,vI s6.1),(8,vI s9.1)],[oX true false 4 (.agg [vI p0.Grain,z1 p0.First,z2 p0.Step,z2 p0.Show]),.refs 2 (eF eI v),.fam 1 true (eF eI v)],165⟩) (wk_gc (live:=[1,2,5,6,7,8,9]) (keep:=[0,1,2]) kr) ?_ ?_
      ·intro s16 o h
       unfold g_ref17_Backward_b1 at h
       refine wp_seq (wp_seq ?_)
       refine wp_post ?_
       refine reg_in (sz 3 3 ?_)
       refine lenL (enc:=eI) (l:=p0.First) (fl:=true) kr gE ?_
       refine sz 1 5 (reg_end rfl ?_)
       refine ⟨_,wk_refl,?_⟩
       refine wbz h (fun q18 h=>?_) (fun q18 h=>?_)
       ·refine wp_skip (wp_seq (wp_block (wg [1,2,5,6,7,8,9] [0,1,2] ?_)))
        refine wp_post ?_
        refine rga hfol (sy 2 2 ?_)
        refine bind_elim h (fun a19 q20 h=>?_)
        refine idxF (enc:=eI) (ls:=s16.2) (x:=a19) (n:=s6.1) (ob:=1) (j:=2) kr kr q20 gE ?_
        refine loadF (enc:=eI) (ls:=s16.2) (x:=a19) (n:=s6.1) (ob:=1) (j:=2) kr kr q20 gE ?_
        refine sy 3 7 ?_
        refine idxF (enc:=eI) (ls:=s16.2) (x:=a19) (n:=s6.1) (ob:=1) (j:=2) kr kr q20 gE ?_
        refine loadF (enc:=eI) (ls:=s16.2) (x:=a19) (n:=s6.1) (ob:=1) (j:=2) kr kr q20 gE ?_
        refine sy 1 10 ?_
        refine bind_elim h (fun a21 q22 h=>?_)
        refine idxI (enc:=eI) (ls:=s16.2) (x:=a19) (y:=a21) (n:=s6.1) (c:=s9.1) (w:=1) (j:=2) (fl:=true) kr kr q20 q22 rfl gE ?_
        refine loadI (enc:=eI) (ls:=s16.2) (x:=a19) (y:=a21) (n:=s6.1) (m:=s9.1) (w:=1) (j:=2) (c:=0) (fl:=true) kr kr q20 q22 rfl gE ?_
        refine sy 3 15 ?_
        refine bind_elim h (fun a23 q24 h=>?_)
        refine idxL' (enc:=z1) (l:=p0.Step) (n:=s9.1) (fl:=false) (w:=1) (a:=a23) kr rfl gE q24 ?_
        refine sy 2 18 ?_
        refine bind_elim h (fun a25 q26 h=>?_)
        refine idxL' (enc:=eI) (l:=a23) (n:=s16.1) (fl:=true) (w:=1) (a:=a25) (S:=⟨[(1,z1 p1),(2,.ptr 0 0 0),(5,vI (zn p1)),(6,.ref 1 0 s16.2.length),(7,vI s6.1),(8,vI s9.1),(9,vI s16.1)]++[(47,.ref 1 0 s16.2.length),(48,vI s6.1),(49,.ptr 1 (zt s6.1) 0),(50,.ref (fid 2 (zt s6.1)) 0 a19.length),(51,vI s9.1),(52,.ref 1 0 s16.2.length),(53,vI s6.1)]++[(54,.ptr 1 (zt s6.1) 0),(55,.ref (fid 2 (zt s6.1)) 0 a19.length),(56,vI s9.1),(57,.ptr (fid 2 (zt s6.1)) (zt s9.1) 0),(58,vI a21),(59,.ptr 0 0 2),(60,z2 p0.Step),(61,vI s9.1)]++[(62,.fz [z1 a23]),(63,z1 a23),(64,vI s16.1),(65,.fz [vI a25])],(s59_33 p0 s16),165⟩) kr rfl kr q26 ?_
        refine sy 6 25 ?_
        refine bind_elim h (fun a27 q28 h=>?_)
        refine idxL' (enc:=eI) (l:=p1) (n:=zw (s6.1+1)) (fl:=true) (w:=1) (a:=a27) kr rfl gE q28 ?_
        refine sy 1 27 ?_
        refine callW bodyB_73 (g_ref17_Shows_ok p0 s16.1 a27) h (fun x29 _ h=>?_)
        refine sy 4 32 ?_
        refine bind_elim h (fun a31 q32 h=>?_)
        refine idxF (enc:=eI) (ls:=s16.2) (x:=a31) (n:=zw (s6.1+1)) (ob:=1) (j:=2) kr kr q32 gE ?_
        refine loadF (enc:=eI) (ls:=s16.2) (x:=a31) (n:=zw (s6.1+1)) (ob:=1) (j:=2) kr kr q32 gE ?_
        refine sy 1 35 ?_
        refine bind_elim h (fun a33 q34 h=>?_)
        refine idxI (enc:=eI) (ls:=s16.2) (x:=a31) (y:=a33) (n:=zw (s6.1+1)) (c:=s16.1) (w:=1) (j:=2) (fl:=true) kr kr q32 q34 rfl gE ?_
        refine loadI (enc:=eI) (ls:=s16.2) (x:=a31) (y:=a33) (n:=zw (s6.1+1)) (m:=s16.1) (w:=1) (j:=2) (c:=0) (fl:=true) kr kr q32 q34 rfl gE ?_
        refine sy 2 39 ?_
        refine idxI (enc:=eI) (ls:=s16.2) (x:=a19) (y:=a21) (n:=s6.1) (c:=s9.1) (w:=1) (j:=2) (fl:=true) kr kr q20 q22 rfl gE ?_
        refine storeI (enc:=eI) (ls:=s16.2) (x:=a19) (y:=a21) (y':=zw (a21+(zw ((zw (a25*x29))*a33)))) (n:=s6.1) (m:=s9.1) (w:=1) (j:=2) (q:=1) (c:=0) (fl:=true) (v:=vI (zw (a21+(zw ((zw (a25*x29))*a33))))) kr kr kr q20 q22 rfl kr kr kr gE ?_
        refine rl [6,47,52,76] (n:=s16.2.length) (m:=(List.set s16.2 (zt s6.1) (List.set a19 (zt s9.1) (zw (a21+(zw ((zw (a25*x29))*a33)))))).length) (by simp only [List.length_set]) ?_
        refine rgd ?_
        refine ⟨_,wk_refl,?_⟩
        refine wgc [1,2,5,6,7,8,9] [0,1,2] ⟨[(1,z1 p1),(2,.ptr 0 0 0),(5,vI (zn p1)),(6,.ref 1 0 ((List.set s16.2 (zt s6.1) (List.set a19 (zt s9.1) (zw (a21+(zw ((zw (a25*x29))*a33)))))).length)),(7,vI s6.1),(8,vI s9.1),(9,vI s16.1)],[oX true false 4 (.agg [vI p0.Grain,z1 p0.First,z2 p0.Step,z2 p0.Show]),.refs 2 (eF eI (List.set s16.2 (zt s6.1) (List.set a19 (zt s9.1) (zw (a21+(zw ((zw (a25*x29))*a33))))))),.fam 1 true (eF eI (List.set s16.2 (zt s6.1) (List.set a19 (zt s9.1) (zw (a21+(zw ((zw (a25*x29))*a33)))))))],165⟩ ?_
        refine rn ?_
        cases h
        exact ⟨_,rfl,(wk_gc (live:=[1,2,5,6,7,8,9]) (keep:=[0,1,2]) kr)⟩
       refine wg [1,2,5,6,7,8] [0,1,2] ?_
       refine wp_exit ?_
       cases h
       exact ⟨kr,rfl⟩
      intro x37 h out hx
      subst hx
      refine wg [1,2,5,6,7,8] [0,1,2] ?_
      refine wp_exit ?_
      refine rn ?_
      cases h
      exact ⟨_,rfl,(wk_gc (live:=[1,2,5,6,7,8]) (keep:=[0,1,2]) kr)⟩
     refine wp_skip (wp_seq ?_)
     refine wgc [1,2,5,6,7,8] [0,1,2] ⟨(s59_154 p1 s9 s6),(s59_73 p0 s9),165⟩ ?_
     refine wp_post ?_
     refine reg_in (sz 5 5 ?_)
     refine callW bodyB_85 (g_ref17_Paths_ok p0 (zw ((zw ((zn p1) - 1)) - s6.1))) h (fun x38 _ h=>?_)
     refine sz 1 7 (reg_end rfl ?_)
     refine ⟨_,wk_refl,?_⟩
     refine wp_seq (wg [1,2,5,6,7,8,10] [0,1,3,2] (rn (wp_block ?_)))
     refine wwh h (fun s40=>⟨[(1,z1 p1),(2,.ptr 0 0 0),(5,vI (zn p1)),(6,.ref 1 0 s40.2.length),(7,vI s6.1),(8,vI s9.1),(10,.ref 2 0 x38.length),(11,vI s40.1)],(s59_54 p0 s40 x38),165⟩) (fun v out=>out=.go (.exit 6) ⟨[(1,z1 p1),(2,.ptr 0 0 0),(5,vI (zn p1)),(6,.ref 1 0 v.length),(7,vI s6.1),(8,vI s9.1)],[oX true false 4 (.agg [vI p0.Grain,z1 p0.First,z2 p0.Step,z2 p0.Show]),.refs 2 (eF eI v),.fam 1 true (eF eI v)],165⟩) (wk_gc (live:=[1,2,5,6,7,8,10,11]) (keep:=[0,1,2,3]) kr) ?_ ?_
     ·intro s40 o h
      unfold g_ref17_Backward_b3 at h
      refine wp_seq (sq ?_)
      refine wb [96] h (fun q42 h=>?_) (fun q42 h=>?_)
      ·refine wcT (wp_skip (wp_seq (wp_block (sq (wp_seq (wp_seq (wg [1,2,5,6,7,8,10,11,12,13] [0,1,2,3] (rn ?_))))))))
       refine wp_block ?_
       refine wwh h (fun s43=>⟨[(1,z1 p1),(2,.ptr 0 0 0),(5,vI (zn p1)),(6,.ref 1 0 s40.2.length),(7,vI s6.1),(8,vI s9.1),(10,.ref 2 0 x38.length),(11,vI s40.1),(12,vI s43.1),(13,vI s43.2.1),(14,vI s43.2.2)],(s59_54 p0 s40 x38),165⟩) (fun v out=>out=.go (.exit 8) ⟨[(1,z1 p1),(2,.ptr 0 0 0),(5,vI (zn p1)),(6,.ref 1 0 s40.2.length),(7,vI s6.1),(8,vI s9.1),(10,.ref 2 0 x38.length),(11,vI s40.1)]++[(12,vI v)],(s59_54 p0 s40 x38),165⟩) (wk_gc (live:=[1,2,5,6,7,8,10,11,12,13,14]) (keep:=[0,1,2,3]) kr) ?_ ?_
       ·intro s43 o h
        unfold g_ref17_Backward_b2 at h
        refine wp_seq (wp_seq ?_)
        refine wp_post ?_
        refine reg_in (sz 3 3 ?_)
        refine bind_elim h (fun a44 q45 h=>?_)
        refine idxR' (enc:=z1) (l:=x38) (n:=s40.1) (w:=1) (ob:=2) (ro:=false) (nr:=true) (fl:=false) (a:=a44) kr kr gE q45 ?_
        refine loadR (enc:=z1) (l:=x38) (n:=s40.1) (w:=1) (ob:=2) (c:=0) (bx:=false) (ro:=false) (nr:=true) (fl:=false) (a:=a44) kr kr q45 gE ?_
        refine lenL (enc:=eI) (l:=a44) (fl:=true) kr gE ?_
        refine sz 1 7 (reg_end rfl ?_)
        refine ⟨_,wk_refl,?_⟩
        refine wbz h (fun q47 h=>?_) (fun q47 h=>?_)
        ·refine wp_skip (wp_seq (wp_block (wp_seq (wg [1,2,5,6,7,8,10,11,12,13,14] [0,1,2,3] ?_))))
         refine wp_post ?_
         refine rga hfol (sy 4 4 ?_)
         refine bind_elim h (fun a48 q49 h=>?_)
         refine idxL' (enc:=z1) (l:=p0.Step) (n:=s43.2.1) (fl:=false) (w:=1) (a:=a48) kr rfl gE q49 ?_
         refine sy 3 8 ?_
         refine idxR' (enc:=z1) (l:=x38) (n:=s40.1) (w:=1) (ob:=2) (ro:=false) (nr:=true) (fl:=false) (a:=a44) kr kr gE q45 ?_
         refine loadR (enc:=z1) (l:=x38) (n:=s40.1) (w:=1) (ob:=2) (c:=0) (bx:=false) (ro:=false) (nr:=true) (fl:=false) (a:=a44) kr kr q45 gE ?_
         refine sy 1 11 ?_
         refine bind_elim h (fun a50 q51 h=>?_)
         refine idxL' (enc:=eI) (l:=a44) (n:=s43.2.2) (fl:=true) (w:=1) (a:=a50) kr rfl gE q51 ?_
         refine sy 1 13 ?_
         refine bind_elim h (fun a52 q53 h=>?_)
         refine idxL' (enc:=eI) (l:=a48) (n:=a50) (fl:=true) (w:=1) (a:=a52) kr rfl gE q53 ?_
         refine sgy 5 19 (S:=⟨[(1,z1 p1),(2,.ptr 0 0 0),(5,vI (zn p1)),(6,.ref 1 0 s40.2.length),(7,vI s6.1),(8,vI s9.1),(10,.ref 2 0 x38.length),(11,vI s40.1),(12,vI s43.1),(13,vI s43.2.1),(14,vI s43.2.2)]++[(109,vI s43.1),(110,.ptr 0 0 2),(111,z2 p0.Step),(112,vI s43.2.1),(113,.fz [z1 a48]),(114,z1 a48),(115,.ref 2 0 x38.length),(116,vI s40.1)]++[(117,.ptr 2 (zt s40.1) 0),(118,z1 a44),(119,vI s43.2.2),(120,.fz [vI a50]),(121,vI a50),(122,.fz [vI a52]),(123,vI a52),(124,vI (zw (s43.1*a52))),(125,.agg [vI p0.Grain,z1 p0.First,z2 p0.Step,z2 p0.Show]),(126,.ref 2 0 x38.length),(127,vI s40.1)],(s59_54 p0 s40 x38),165⟩) ?_
         refine idxR' (enc:=z1) (l:=x38) (n:=s40.1) (w:=1) (ob:=2) (ro:=false) (nr:=true) (fl:=false) (a:=a44) kr kr gE q45 ?_
         refine loadR (enc:=z1) (l:=x38) (n:=s40.1) (w:=1) (ob:=2) (c:=0) (bx:=false) (ro:=false) (nr:=true) (fl:=false) (a:=a44) kr kr q45 gE ?_
         refine sy 1 22 ?_
         refine idxL' (enc:=eI) (l:=a44) (n:=s43.2.2) (fl:=true) (w:=1) (a:=a50) kr rfl gE q51 ?_
         refine sy 6 29 ?_
         refine bind_elim h (fun a54 q55 h=>?_)
         refine idxL' (enc:=eI) (l:=p1) (n:=zw ((zw (s6.1+1))+s43.2.2)) (fl:=true) (w:=1) (a:=a54) kr rfl gE q55 ?_
         refine sy 1 31 ?_
         refine callW bodyB_73 (g_ref17_Shows_ok p0 a50 a54) h (fun x56 _ h=>?_)
         refine sy 2 34 (rgd ?_)
         refine ⟨_,wk_refl,?_⟩
         refine wg [1,2,5,6,7,8,10,11,12,14] [0,1,2,3] ?_
         refine wp_post ?_
         refine reg_in (sz 2 2 ?_)
         refine idxR' (enc:=z1) (l:=x38) (n:=s40.1) (w:=1) (ob:=2) (ro:=false) (nr:=true) (fl:=false) (a:=a44) kr kr gE q45 ?_
         refine loadR (enc:=z1) (l:=x38) (n:=s40.1) (w:=1) (ob:=2) (c:=0) (bx:=false) (ro:=false) (nr:=true) (fl:=false) (a:=a44) kr kr q45 gE ?_
         refine sz 1 5 ?_
         refine idxL' (enc:=eI) (l:=a44) (n:=s43.2.2) (fl:=true) (w:=1) (a:=a50) kr rfl gE q51 ?_
         refine sz 2 8 (reg_end rfl ?_)
         refine ⟨_,wk_refl,?_⟩
         refine wgc [1,2,5,6,7,8,10,11,12,14,13] [0,1,2,3] ⟨[(1,z1 p1),(2,.ptr 0 0 0),(5,vI (zn p1)),(6,.ref 1 0 s40.2.length),(7,vI s6.1),(8,vI s9.1),(10,.ref 2 0 x38.length),(11,vI s40.1),(12,vI (zw ((zw (s43.1*a52))*x56))),(14,vI s43.2.2),(13,vI a50)],(s59_54 p0 s40 x38),165⟩ ?_
         refine rn ?_
         cases h
         exact ⟨_,rfl,(wk_gc (live:=[1,2,5,6,7,8,10,11,12,13,14]) (keep:=[0,1,2,3]) kr)⟩
        refine wg [1,2,5,6,7,8,10,11,12] [0,1,2,3] ?_
        refine wp_exit ?_
        cases h
        exact ⟨kr,rfl⟩
       intro x59 h out hx
       subst hx
       refine wp_post ?_
       refine rga hfol (sy 2 2 ?_)
       refine bind_elim h (fun a60 q61 h=>?_)
       refine idxF (enc:=eI) (ls:=s40.2) (x:=a60) (n:=s6.1) (ob:=1) (j:=3) kr kr q61 gE ?_
       refine loadF (enc:=eI) (ls:=s40.2) (x:=a60) (n:=s6.1) (ob:=1) (j:=3) kr kr q61 gE ?_
       refine sy 3 7 ?_
       refine idxF (enc:=eI) (ls:=s40.2) (x:=a60) (n:=s6.1) (ob:=1) (j:=3) kr kr q61 gE ?_
       refine loadF (enc:=eI) (ls:=s40.2) (x:=a60) (n:=s6.1) (ob:=1) (j:=3) kr kr q61 gE ?_
       refine sy 1 10 ?_
       refine bind_elim h (fun a62 q63 h=>?_)
       refine idxI (enc:=eI) (ls:=s40.2) (x:=a60) (y:=a62) (n:=s6.1) (c:=s9.1) (w:=1) (j:=3) (fl:=true) kr kr q61 q63 rfl gE ?_
       refine loadI (enc:=eI) (ls:=s40.2) (x:=a60) (y:=a62) (n:=s6.1) (m:=s9.1) (w:=1) (j:=3) (c:=0) (fl:=true) kr kr q61 q63 rfl gE ?_
       refine sy 2 14 ?_
       refine idxI (enc:=eI) (ls:=s40.2) (x:=a60) (y:=a62) (n:=s6.1) (c:=s9.1) (w:=1) (j:=3) (fl:=true) kr kr q61 q63 rfl gE ?_
       refine storeI (enc:=eI) (ls:=s40.2) (x:=a60) (y:=a62) (y':=zw (a62+x59)) (n:=s6.1) (m:=s9.1) (w:=1) (j:=3) (q:=1) (c:=0) (fl:=true) (v:=vI (zw (a62+x59))) kr kr kr q61 q63 rfl kr kr kr gE ?_
       refine rl [6,149,154] (n:=s40.2.length) (m:=(List.set s40.2 (zt s6.1) (List.set a60 (zt s9.1) (zw (a62+x59)))).length) (by simp only [List.length_set]) ?_
       refine rgd ?_
       refine ⟨_,wk_refl,?_⟩
       refine wgc [1,2,5,6,7,8,10,11] [0,1,2,3] ⟨[(1,z1 p1),(2,.ptr 0 0 0),(5,vI (zn p1)),(6,.ref 1 0 ((List.set s40.2 (zt s6.1) (List.set a60 (zt s9.1) (zw (a62+x59)))).length)),(7,vI s6.1),(8,vI s9.1),(10,.ref 2 0 x38.length),(11,vI s40.1)],[oX true false 4 (.agg [vI p0.Grain,z1 p0.First,z2 p0.Step,z2 p0.Show]),.refs 3 (eF eI (List.set s40.2 (zt s6.1) (List.set a60 (zt s9.1) (zw (a62+x59))))),oR false 1 z1 x38,.fam 1 true (eF eI (List.set s40.2 (zt s6.1) (List.set a60 (zt s9.1) (zw (a62+x59)))))],165⟩ ?_
       refine rn ?_
       cases h
       exact ⟨_,rfl,(wk_gc (live:=[1,2,5,6,7,8,10,11]) (keep:=[0,1,2,3]) kr)⟩
      refine wcF (wg [1,2,5,6,7,8] [0,1,3] ?_)
      refine wp_exit ?_
      cases h
      exact ⟨kr,rfl⟩
     intro x66 h out hx
     subst hx
     refine rn ?_
     cases h
     exact ⟨_,rfl,(wk_gc (live:=[1,2,5,6,7,8]) (keep:=[0,1,2]) kr)⟩
    refine wg [1,2,5,6,7] [0,1,2] ?_
    refine wp_exit ?_
    cases h
    exact ⟨kr,rfl⟩
   intro x68 h out hx
   subst hx
   refine rn ?_
   cases h
   exact ⟨_,rfl,(wk_gc (live:=[1,2,5,6,7]) (keep:=[0,1,2]) kr)⟩
  refine wcF (wg [6] [1,2] ?_)
  refine wp_exit ?_
  cases h
  exact ⟨kr,rfl⟩
 intro x70 h out hx
 subst hx
 refine sq ?_
 refine wgc [4] [0,1] ⟨[(4,.ref 0 0 x70.length)],[.refs 1 (eF eI x70),.fam 1 true (eF eI x70)],165⟩ ?_
 refine wp_wk (wk_frzF 0 1 (enc:=eI) (ls:=x70) (st':=⟨[(4,.ref 0 0 x70.length)],[oR false 1 z1 x70,.dead],165⟩) rfl rfl kr) ?_
 cases h
 exact wp_ret (show fnOut _ _ _ _=_ from by kernel_rfl)
noncomputable abbrev s24_2 (p0:Tapi_Hidden):List AObj:=[oX true false 4 (.agg [vI p0.Grain,z1 p0.First,z2 p0.Step,z2 p0.Show])]
noncomputable abbrev s24_34 (p0:Tapi_Hidden) (s13:(Int × (List Int))):List AObj:=[oX true false 4 (.agg [vI p0.Grain,z1 p0.First,z2 p0.Step,z2 p0.Show]),oR true 1 eI s13.2]
theorem g_ref18_States_ok (p0:Tapi_Hidden) (p1:(List Int)) (x:((List Int) × Int)) (h:g_ref18_States p0 p1=some x):CallOk Try.prog 24 [.agg [vI p0.Grain,z1 p0.First,z2 p0.Step,z2 p0.Show],z1 p1] (.ret (.tup [.ref 0 0 x.1.length,vI x.2]) [oR true 1 eI x.1]):=by
 refine fn_ok [] Try.func24 rfl (by decide +kernel) rfl ?_
 unfold g_ref18_States at h
 refine wp_eqB (base':=0) (st':=⟨[(0,.agg [vI p0.Grain,z1 p0.First,z2 p0.Step,z2 p0.Show]),(1,z1 p1)],[],79⟩) kr kr ?_
 refine wp_seq (reg_in ?_)
 refine sgL false [] [] false gE ?_
 refine sz 2 3 (reg_end rfl (wp_seq (wp_seq (reg_in (sz 2 2 ?_)))))
 refine callW bodyB_37 (g_ref17_Errors_ok p0 p1) h (fun x1 _ h=>?_)
 refine sz 1 4 (reg_end rfl (wp_seq (wg [1,2,6] [0] (rn ?_))))
 refine wb [17] h (fun q4 h=>?_) (fun q4 h=>?_)
 ·refine wcT (sq ?_)
  refine wgc [4,5] [] ⟨[(4,.nils),(5,vI x1)],[],79⟩ ?_
  refine wp_wk (wk_nil 4 1 true true gE) ?_
  cases h
  exact wp_ret (show fnOut _ _ _ _=_ from by kernel_rfl)
 refine wcF (wp_skip (wp_seq (wp_seq (reg_in (sz 2 2 ?_)))))
 refine callW bodyB_57 (g_ref17_All_ok p0 p1) h (fun x5 _ h=>?_)
 refine sz 1 4 (reg_end rfl ?_)
 refine wbz h (fun q8 h=>?_) (fun q8 h=>?_)
 ·refine wp_seq ?_
  refine wgc [] [] ⟨[],[],79⟩ ?_
  refine rn (wg [4,5] [] ?_)
  refine wp_wk (wk_nil 4 1 true true gE) ?_
  cases h
  exact wp_ret (show fnOut _ _ _ _=_ from by kernel_rfl)
 refine wp_skip (wp_seq ?_)
 refine wgc [1,2] [0] ⟨[(1,z1 p1),(2,.ptr 0 0 0)],(s24_2 p0),79⟩ ?_
 refine rga hfol (sy 2 2 ?_)
 refine callW bodyB_58 (fun x9 q10=>CallOk.froz (g_ref17_Forward_ok p0 p1 x9 q10) (snap_full (w:=1) (bx:=false) (ro:=false) rfl)) h (fun x9 q10 h=>?_)
 refine sy 2 5 ?_
 refine callW bodyB_59 (fun x11 q12=>CallOk.froz (g_ref17_Backward_ok p0 p1 x11 q12) (snap_full (w:=1) (bx:=false) (ro:=false) rfl)) h (fun x11 q12 h=>?_)
 refine sy 2 8 (rgd (wp_seq (wg [1,2,7,8] [0] (rn (wp_seq (sq (wp_block ?_)))))))
 refine wwh h (fun s13=>⟨[(1,z1 p1),(2,.ptr 0 0 0),(7,z2 x9),(8,z2 x11),(9,.ref 1 0 s13.2.length),(10,vI s13.1)],(s24_34 p0 s13),79⟩) (fun v out=>out=.go (.exit 0) ⟨[(9,.ref 0 0 v.length)],[oR true 1 eI v],79⟩) (wk_trans (wk_gc (live:=[1,2,7,8,9,10]) (keep:=[0]) (st':=⟨[(1,z1 p1),(2,.ptr 0 0 0),(7,z2 x9),(8,z2 x11)]++[(9,.nils),(10,vI 0)],(s24_2 p0),79⟩) kr) (wk_trans (wk_nil 9 1 true true (st':=⟨[(1,z1 p1),(2,.ptr 0 0 0),(7,z2 x9),(8,z2 x11)]++[(9,.ref 1 0 0),(10,vI 0)],[oX true false 4 (.agg [vI p0.Grain,z1 p0.First,z2 p0.Step,z2 p0.Show]),.row false false true true 1 []],79⟩) kr) (wk_gc (live:=[1,2,7,8,9,10]) (keep:=[0,1]) kr))) ?_ ?_
 ·intro s13 o h
  unfold g_ref18_States_b1 at h
  refine wp_seq (wp_seq (reg_in (sz 2 2 ?_)))
  refine lenL (enc:=eI) (l:=p1) (fl:=true) kr gE ?_
  refine sz 1 4 (reg_end rfl ?_)
  refine wb [32] h (fun q15 h=>?_) (fun q15 h=>?_)
  ·refine wcT (wp_skip (wp_seq (wp_block (sq (wp_seq (sq (wp_block ?_)))))))
   refine wwh h (fun s16=>⟨[(1,z1 p1),(2,.ptr 0 0 0),(7,z2 x9),(8,z2 x11),(9,.ref 1 0 s13.2.length),(10,vI s13.1),(11,vI s16.1),(12,vI s16.2)],(s24_34 p0 s13),79⟩) (fun v out=>out=.go (.exit 2) ⟨[(1,z1 p1),(2,.ptr 0 0 0),(7,z2 x9),(8,z2 x11),(9,.ref 1 0 s13.2.length),(10,vI s13.1)]++[(11,vI v)],(s24_34 p0 s13),79⟩) (wk_gc (live:=[1,2,7,8,9,10,11,12]) (keep:=[0,1]) kr) ?_ ?_
   ·intro s16 o h
    unfold g_ref18_States_b0 at h
    refine wp_seq (wp_seq (reg_in (sz 3 3 ?_)))
    refine lenL (enc:=eI) (l:=p0.First) (fl:=true) kr gE ?_
    refine sz 1 5 (reg_end rfl ?_)
    refine wbz h (fun q18 h=>?_) (fun q18 h=>?_)
    ·refine wp_skip (wp_seq (wp_block (wp_seq (wg [1,2,7,8,9,10,11,12] [0,1] (rga hfol (sy 2 2 ?_))))))
     refine bind_elim h (fun a19 q20 h=>?_)
     refine idxL' (enc:=z1) (l:=x9) (n:=s13.1) (fl:=false) (w:=1) (a:=a19) kr rfl gE q20 ?_
     refine sy 2 5 ?_
     refine bind_elim h (fun a21 q22 h=>?_)
     refine idxL' (enc:=eI) (l:=a19) (n:=s16.2) (fl:=true) (w:=1) (a:=a21) kr rfl gE q22 ?_
     refine sy 3 9 ?_
     refine bind_elim h (fun a23 q24 h=>?_)
     refine idxL' (enc:=z1) (l:=x11) (n:=s13.1) (fl:=false) (w:=1) (a:=a23) kr rfl gE q24 ?_
     refine sy 2 12 ?_
     refine bind_elim h (fun a25 q26 h=>?_)
     refine idxL' (enc:=eI) (l:=a23) (n:=s16.2) (fl:=true) (w:=1) (a:=a25) kr rfl gE q26 ?_
     refine sy 4 17 ?_
     refine idxL' (enc:=z1) (l:=x9) (n:=s13.1) (fl:=false) (w:=1) (a:=a19) kr rfl gE q20 ?_
     refine sgy 2 20 (S:=⟨[(1,z1 p1),(2,.ptr 0 0 0),(7,z2 x9),(8,z2 x11),(9,.ref 1 0 s13.2.length),(10,vI s13.1),(11,vI s16.1),(12,vI s16.2)]++[(42,z2 x9),(43,vI s13.1),(44,.fz [z1 a19]),(45,z1 a19),(46,vI s16.2),(47,.fz [vI a21]),(48,vI a21),(49,z2 x11),(50,vI s13.1)]++[(51,.fz [z1 a23]),(52,z1 a23),(53,vI s16.2),(54,.fz [vI a25]),(55,vI a25),(56,vI (zw (a21*a25))),(57,z2 x9),(58,vI s13.1)]++[(59,.fz [z1 a19]),(60,z1 a19),(61,vI s16.1)],(s24_34 p0 s13),79⟩) ?_
     refine bind_elim h (fun a27 q28 h=>?_)
     refine idxL' (enc:=eI) (l:=a19) (n:=s16.1) (fl:=true) (w:=1) (a:=a27) kr rfl gE q28 ?_
     refine sy 3 24 ?_
     refine idxL' (enc:=z1) (l:=x11) (n:=s13.1) (fl:=false) (w:=1) (a:=a23) kr rfl gE q24 ?_
     refine sy 2 27 ?_
     refine bind_elim h (fun a29 q30 h=>?_)
     refine idxL' (enc:=eI) (l:=a23) (n:=s16.1) (fl:=true) (w:=1) (a:=a29) kr rfl gE q30 ?_
     refine sy 3 31 (rgd ?_)
     refine wbz h (fun q32 h=>?_) (fun q32 h=>?_)
     ·refine wg [1,2,7,8,9,10,12] [0,1] (rn (rn ?_))
      cases h
      exact ⟨_,rfl,(wk_gc (live:=[1,2,7,8,9,10,11,12]) (keep:=[0,1]) kr)⟩
     refine wp_skip (wg [1,2,7,8,9,10,11,12] [0,1] (rn ?_))
     cases h
     exact ⟨_,rfl,(wk_gc (live:=[1,2,7,8,9,10,11,12]) (keep:=[0,1]) kr)⟩
    refine wg [1,2,7,8,9,10,11] [0,1] ?_
    refine wp_exit ?_
    cases h
    exact ⟨kr,rfl⟩
   intro x34 h out hx
   subst hx
   refine reg_in (sz 2 2 ?_)
   refine sgL false [] [] true gE ?_
   refine appR (enc:=eI) (l:=s13.2) (m:=([x34]:(List Int))) (w:=1) (bytes:=8) (ob:=1) (nr:=true) (fl:=true) (nr':=true) (fl':=true) (b:=.ref 2 0 1) (rds:=[2]) false kr kr kr rfl gE kr h (fun h=>?_)
   refine sz 1 5 (reg_end rfl (wg [1,2,7,8,9,10] [0,3] (rn ?_)))
   cases h
   exact ⟨_,rfl,(wk_gc (live:=[1,2,7,8,9,10]) (keep:=[0,1]) kr)⟩
  refine wcF (wg [9] [1] ?_)
  refine wp_exit ?_
  cases h
  exact ⟨kr,rfl⟩
 intro x36 h out hx
 subst hx
 refine sq (wg [4,5] [0] ?_)
 cases h
 exact wp_ret (show fnOut _ _ _ _=_ from by kernel_rfl)
noncomputable abbrev s5_49 (p2:(List Int)) (x5:(Tapi_Hidden × Tapi_Hidden)) (s7:Int):List (Nat × AV):=[(2,z1 p2),(3,.ptr 0 0 0),(23,.agg [vI x5.1.Grain,z1 x5.1.First,z2 x5.1.Step,z2 x5.1.Show,vI x5.2.Grain,z1 x5.2.First,z2 x5.2.Step,z2 x5.2.Show]),(24,vI s7)]
theorem g_law18_PathCounts_ok (p0:Tharuspexref17_Draft) (p1:Tharuspexref17_Bend) (p2:(List Int)) (x:Bool) (h:g_law18_PathCounts p0 p1 p2=some x):CallOk Try.prog 5 [.agg [.int .u8 p0.Grain,.int .u8 p0.States,.int .u8 p0.Shows,eL true (AV.int .u8) p0.L,eL true (AV.int .u8) p0.Seen],.agg [.int .u8 p1.What,.int .u8 p1.S,.int .u8 p1.At,vI p1.N],z1 p2] (.ret (vB x) []):=by
 refine fn_ok [] Try.func5 rfl (by decide +kernel) rfl ?_
 unfold g_law18_PathCounts at h
 refine wp_eqB (base':=0) (st':=⟨[(0,.agg [.int .u8 p0.Grain,.int .u8 p0.States,.int .u8 p0.Shows,eL true (AV.int .u8) p0.L,eL true (AV.int .u8) p0.Seen]),(1,.agg [.int .u8 p1.What,.int .u8 p1.S,.int .u8 p1.At,vI p1.N]),(2,z1 p2)],[],83⟩) kr kr ?_
 refine wp_seq (reg_in ?_)
 refine sgL false [] [] false gE ?_
 refine sz 2 3 (reg_end rfl (wp_seq (wp_seq (reg_in ?_))))
 refine callW bodyB_11 (g_law18_wakes_ok ) h (fun x1 _ h=>?_)
 refine sz 1 2 (reg_end rfl ?_)
 refine wbz h (fun q4 h=>?_) (fun q4 h=>?_)
 ·refine wp_seq (wg [] [] (rn ?_))
  refine wgc [6] [] ⟨[(6,vB false)],[],83⟩ ?_
  cases h
  exact wp_ret (show fnOut _ _ _ _=_ from by kernel_rfl)
 refine wp_skip (wp_seq (wp_seq (wg [2,3,4] [0,1] (reg_in (sz 2 2 ?_)))))
 refine callW bodyB_12 (g_law18_chains_ok p0 p1) h (fun x5 _ h=>?_)
 refine sz 1 4 (reg_end rfl (wp_block ?_))
 refine wwh h (fun s7=>⟨(s5_49 p2 x5 s7),[oX true false 5 (.agg [.int .u8 p0.Grain,.int .u8 p0.States,.int .u8 p0.Shows,eL true (AV.int .u8) p0.L,eL true (AV.int .u8) p0.Seen])],83⟩) (fun x out=>out=match x with | .inl v=>.go (.ret) ⟨[(6,vB false)],[],83⟩ | .inr v=>.go (.exit 0) ⟨[],[],83⟩) (wk_gc (live:=[2,3,23,24]) (keep:=[0]) kr) ?_ ?_
 ·intro s7 o h
  unfold g_law18_PathCounts_b1 at h
  refine sq (wp_seq ?_)
  refine wb [25] h (fun q9 h=>?_) (fun q9 h=>?_)
  ·refine wcT (wp_skip (wp_seq (wp_block (wp_seq (reg_in ?_)))))
   refine bind_elim h (fun a10 q11 h=>?_)
   refine idxA (enc:=eTapi_Hidden) (l:=([x5.1,x5.2]:(List Tapi_Hidden))) (n:=s7) (a:=a10) (w:=4) (g:=true) (v:=.agg [vI a10.Grain,z1 a10.First,z2 a10.Step,z2 a10.Show]) kr (fun _=>rfl) rfl q11 kr gE ?_
   refine sgL false [] [] false gE ?_
   refine sz 1 3 (reg_end rfl (wp_seq (rga hfol (sy 1 1 ?_))))
   refine callW bodyB_13 (fun x12 q13=>CallOk.froz (g_ref17_Draft_What_ok p0 x12 q13) (snap_full (w:=1) (bx:=false) (ro:=false) rfl)) h (fun x12 q13 h=>?_)
   refine sy 2 4 ?_
   refine lenL (enc:=eI) (l:=p2) (fl:=true) kr gE ?_
   refine sy 1 6 ?_
   refine sliceL (enc:=eI) (l:=p2) (fl:=true) (lo:=none) (hi:=(some (vI (if 10 < (zn p2) then 10 else (zn p2))))) (a:=0) (b:=(if 10 < (zn p2) then 10 else (zn p2))) (w:=1) kr (fun _=>rfl) rfl rfl gE h (fun h=>?_)
   refine sy 2 9 (rgd (wp_block ?_))
   refine wwh h (fun s14=>⟨[(2,z1 p2),(3,.ptr 0 0 0),(8,.ptr 1 0 0),(23,.agg [vI x5.1.Grain,z1 x5.1.First,z2 x5.1.Step,z2 x5.1.Show,vI x5.2.Grain,z1 x5.2.First,z2 x5.2.Step,z2 x5.2.Show]),(24,vI s7),(34,.agg [z1 x12,z1 (sub p2 0 (if 10 < (zn p2) then 10 else (zn p2)))]),(35,vI s14)],[oX true false 5 (.agg [.int .u8 p0.Grain,.int .u8 p0.States,.int .u8 p0.Shows,eL true (AV.int .u8) p0.L,eL true (AV.int .u8) p0.Seen]),oX true false 4 (.agg [vI a10.Grain,z1 a10.First,z2 a10.Step,z2 a10.Show])],83⟩) (fun x out=>out=match x with | .inl v=>.go (.ret) ⟨[(6,vB false)],[],83⟩ | .inr v=>.go (.exit 2) ⟨(s5_49 p2 x5 s7),[oX true false 5 (.agg [.int .u8 p0.Grain,.int .u8 p0.States,.int .u8 p0.Shows,eL true (AV.int .u8) p0.L,eL true (AV.int .u8) p0.Seen])],83⟩) (wk_gc (live:=[2,3,8,23,24,34,35]) (keep:=[0,1]) kr) ?_ ?_
   ·intro s14 o h
    unfold g_law18_PathCounts_b0 at h
    refine sq (wp_seq ?_)
    refine wb [36] h (fun q16 h=>?_) (fun q16 h=>?_)
    ·refine wcT (wp_skip (wp_seq (wp_block (wp_seq (reg_in ?_)))))
     refine bind_elim h (fun a17 q18 h=>?_)
     refine idxA (enc:=z1) (l:=([x12,(sub p2 0 (if 10 < (zn p2) then 10 else (zn p2)))]:(List (List Int)))) (n:=s14) (a:=a17) (w:=1) (g:=false) (v:=z1 a17) kr (fun _=>rfl) rfl q18 kr gE ?_
     refine sz 1 2 (reg_end rfl (wp_seq (reg_in (sz 2 2 ?_))))
     refine callW bodyB_21 (g_path_Count_ok a10 a17) h (fun x19 _ h=>?_)
     refine sz 5 8 (reg_end rfl (wp_seq ?_))
     refine wgc [2,3,8,23,24,34,35,10,11,12] [0,1] ⟨[(2,z1 p2),(3,.ptr 0 0 0),(8,.ptr 1 0 0),(23,.agg [vI x5.1.Grain,z1 x5.1.First,z2 x5.1.Step,z2 x5.1.Show,vI x5.2.Grain,z1 x5.2.First,z2 x5.2.Step,z2 x5.2.Show]),(24,vI s7),(34,.agg [z1 x12,z1 (sub p2 0 (if 10 < (zn p2) then 10 else (zn p2)))]),(35,vI s14),(10,z1 a17),(11,vI x19.1),(12,vI x19.2)],[oX true false 5 (.agg [.int .u8 p0.Grain,.int .u8 p0.States,.int .u8 p0.Shows,eL true (AV.int .u8) p0.L,eL true (AV.int .u8) p0.Seen]),oX true false 4 (.agg [vI a10.Grain,z1 a10.First,z2 a10.Step,z2 a10.Show])],83⟩ ?_
     refine reg_in (sz 2 2 ?_)
     refine callW bodyB_22 (g_ref18_Count_ok a10 a17) h (fun x21 _ h=>?_)
     refine sz 5 8 (reg_end rfl (wp_seq (wg [2,3,8,23,24,34,35,10,11,12,13,14] [0,1] (reg_in (sz 2 2 ?_)))))
     refine callW bodyB_23 (g_path_States_ok a10 a17) h (fun x23 _ h=>?_)
     refine sz 5 8 (reg_end rfl (wp_seq ?_))
     refine wgc [2,3,8,23,24,34,35,10,11,12,13,14,15,16] [0,1,2] ⟨[(2,z1 p2),(3,.ptr 0 0 0),(8,.ptr 1 0 0),(23,.agg [vI x5.1.Grain,z1 x5.1.First,z2 x5.1.Step,z2 x5.1.Show,vI x5.2.Grain,z1 x5.2.First,z2 x5.2.Step,z2 x5.2.Show]),(24,vI s7),(34,.agg [z1 x12,z1 (sub p2 0 (if 10 < (zn p2) then 10 else (zn p2)))]),(35,vI s14),(10,z1 a17),(11,vI x19.1),(12,vI x19.2),(13,vI x21.1),(14,vI x21.2),(15,.ref 2 0 x23.1.length),(16,vI x23.2)],[oX true false 5 (.agg [.int .u8 p0.Grain,.int .u8 p0.States,.int .u8 p0.Shows,eL true (AV.int .u8) p0.L,eL true (AV.int .u8) p0.Seen]),oX true false 4 (.agg [vI a10.Grain,z1 a10.First,z2 a10.Step,z2 a10.Show]),oR true 1 eI x23.1],83⟩ ?_
     refine reg_in (sz 2 2 ?_)
     refine callW bodyB_24 (g_ref18_States_ok a10 a17) h (fun x25 _ h=>?_)
     refine sz 5 8 (reg_end rfl (wp_seq (wg [2,3,8,23,24,34,35,11,12,13,14,15,16,17,18] [0,1,2,3] (reg_in (sz 4 4 (rwg [2,3,8,23,24,34,35,12,14,15,16,17,18,65] [0,1,2,3] ?_))))))
     refine rb [65] h (fun q28 h=>?_) (fun q28 h=>?_)
     ·refine sz 15 19 (reg_end rfl (wcT (wp_seq ?_)))
      refine wgc [] [] ⟨[],[],83⟩ ?_
      refine rn (wg [6] [] ?_)
      refine wp_ret ?_
      cases h
      exact ⟨kr,rfl⟩
     refine sz 5 9 ?_
     refine rw_wk (wk_gc (live:=[2,3,8,23,24,34,35,15,16,17,18,70]) (keep:=[0,1,2,3]) (st':=⟨[(2,z1 p2),(3,.ptr 0 0 0),(8,.ptr 1 0 0),(23,.agg [vI x5.1.Grain,z1 x5.1.First,z2 x5.1.Step,z2 x5.1.Show,vI x5.2.Grain,z1 x5.2.First,z2 x5.2.Step,z2 x5.2.Show]),(24,vI s7),(34,.agg [z1 x12,z1 (sub p2 0 (if 10 < (zn p2) then 10 else (zn p2)))]),(35,vI s14),(15,.ref 2 0 x23.1.length),(16,vI x23.2),(17,.ref 3 0 x25.1.length),(18,vI x25.2),(70,vB (x19.2 != x21.2))],[oX true false 5 (.agg [.int .u8 p0.Grain,.int .u8 p0.States,.int .u8 p0.Shows,eL true (AV.int .u8) p0.L,eL true (AV.int .u8) p0.Seen]),oX true false 4 (.agg [vI a10.Grain,z1 a10.First,z2 a10.Step,z2 a10.Show]),oR true 1 eI x23.1,oR true 1 eI x25.1],83⟩) kr) ?_
     refine rb [70] h (fun q30 h=>?_) (fun q30 h=>?_)
     ·refine sz 10 19 (reg_end rfl (wcT (wp_seq (wg [] [] (rn ?_)))))
      refine wgc [6] [] ⟨[(6,vB false)],[],83⟩ ?_
      refine wp_ret ?_
      cases h
      exact ⟨kr,rfl⟩
     refine sz 5 14 (rwg [2,3,8,23,24,34,35,15,17,75] [0,1,2,3] ?_)
     refine rb [75] h (fun q32 h=>?_) (fun q32 h=>?_)
     ·refine sz 5 19 (reg_end rfl (wcT (wp_seq (wg [] [] (rn ?_)))))
      refine wgc [6] [] ⟨[(6,vB false)],[],83⟩ ?_
      refine wp_ret ?_
      cases h
      exact ⟨kr,rfl⟩
     refine sz 2 16 ?_
     refine callR (as0:=[.ref 2 0 x23.1.length,.ref 3 0 x25.1.length]) (ids:=[2,3]) kr bodyB_19 (msnap_cons (snap_full (w:=1) (bx:=false) (ro:=false) kr) (msnap_cons (snap_full (w:=1) (bx:=false) (ro:=false) kr) msnap_nil (by rfl)) (by rfl)) (fun x33 q34=>g_slices_Equal_int_int_ok x23.1 x25.1 x33 q34) gF h (fun x33 q34 h=>?_)
     refine sz 2 19 (reg_end rfl ?_)
     refine wbz h (fun q36 h=>?_) (fun q36 h=>?_)
     ·refine wp_seq (wg [] [] (rn ?_))
      refine wgc [6] [] ⟨[(6,vB false)],[],83⟩ ?_
      refine wp_ret ?_
      cases h
      exact ⟨kr,rfl⟩
     refine wp_skip (wg [2,3,8,23,24,34,35] [0,1] (rn ?_))
     cases h
     exact ⟨_,rfl,(wk_gc (live:=[2,3,8,23,24,34,35]) (keep:=[0,1]) kr)⟩
    refine wcF (wg [2,3,23,24] [0] ?_)
    refine wp_exit ?_
    cases h
    exact ⟨kr,rfl⟩
   intro x37 h out hx
   subst hx
   rcases x37 with x38 | x39
   ·dsimp only at h ⊢
    cases h
    exact ⟨kr,rfl⟩
   ·dsimp only at h ⊢
    refine rn ?_
    cases h
    exact ⟨_,rfl,(wk_gc (live:=[2,3,23,24]) (keep:=[0]) kr)⟩
  refine wcF (wg [] [] ?_)
  refine wp_exit ?_
  cases h
  exact ⟨kr,rfl⟩
 intro x40 h out hx
 subst hx
 rcases x40 with x41 | x42
 ·dsimp only at h ⊢
  cases h
  show fnOut _ _ _ _=_
  kernel_rfl
 ·dsimp only at h ⊢
  refine sq (wg [6] [] ?_)
  cases h
  exact wp_ret (show fnOut _ _ _ _=_ from by kernel_rfl)
end Go.Ab
namespace Go.Ab
open Go
theorem whileN_spec {σ ρ:Type} {body:σ→Option (Step σ ρ)} (I:σ→Prop) (m:σ→Nat) (Q:ρ→Prop)
  (step:∀s,I s→(∃s',body s=some (.next s')∧I s'∧m s' < m s)∨(∃r,body s=some (.done r)∧Q r)) :
  ∀(n:Nat) (s:σ),I s→m s < n→∃r,whileN n body s=some r∧Q r
 | 0,s,_,h=>by omega
 | n+1,s,hI,h=>by
  unfold whileN
  rcases step s hI with ⟨s',h1,h2,h3⟩ | ⟨r,h1,h2⟩
  ·rw [h1]
   exact whileN_spec I m Q step n s' h2 (by omega)
  ·rw [h1]
   exact ⟨r,rfl,h2⟩
theorem whileN_ex {σ ρ:Type} {body:σ→Option (Step σ ρ)} (I:σ→Prop) (m:σ→Nat) (Q:ρ→Prop)
  (step:∀s,I s→(∃s',body s=some (.next s')∧I s'∧m s' < m s)∨(∃r,body s=some (.done r)∧Q r)) (s:σ) (hI:I s) (hm:m s < 1152921504606846976):∃r,whileN fuel body s=some r∧Q r :=
 whileN_spec I m Q step fuel s hI hm
theorem whileN_count {σ ρ:Type} {body:σ→Option (Step σ ρ)} (f:Nat → σ) (n:Nat) (r:ρ) (step:∀k,k < n→body (f k)=some (.next (f (k+1)))) (done:body (f n)=some (.done r)) (hn:n < 1152921504606846976) :
  whileN fuel body (f 0)=some r:=by
 have key:∀(j N k:Nat),k+j=n→j < N→whileN N body (f k)=some r:=by
  intro j
  induction j with
  | zero =>
   intro N k hk hN
   obtain ⟨N,rfl⟩:∃M,N=M+1:=⟨N - 1,by omega⟩
   have:k=n:=by omega
   subst this
   simp [whileN,done]
  | succ j ih =>
   intro N k hk hN
   obtain ⟨N,rfl⟩:∃M,N=M+1:=⟨N - 1,by omega⟩
   simp only [whileN,step k (by omega)]
   exact ih N (k+1) (by omega) (by omega)
 exact key n fuel 0 (by omega) hn
theorem whileN_run {σ ρ:Type} {body:σ→Option (Step σ ρ)} {s0:σ} (f:Nat → σ) (n:Nat) (r:ρ) (h0:f 0=s0) (step:∀k,k < n→body (f k)=some (.next (f (k+1)))) (done:body (f n)=some (.done r)) (hn:n < 1152921504606846976) :
  whileN fuel body s0=some r:=by rw [←h0]; exact whileN_count f n r step done hn
theorem w64 {n:Int} (h:-9223372036854775808≤n∧n≤9223372036854775807):IntKind.i64.wrap n=n:=by rw [IntKind.wrap_i64]; omega
theorem lkI_at {α:Type} {l:List α} {n:Int} (h:0≤n) (h2:n < l.length):lkI l n=some (l[n.toNat]'(by omega)):=by
 unfold lkI
 rw [if_neg (by omega),List.getElem?_eq_getElem]
theorem lkI_nat {α:Type} {l:List α} {k:Nat} (h:k < l.length):lkI l (k:Int)=some l[k]:=by
 unfold lkI
 rw [if_neg (by omega),Int.toNat_natCast,List.getElem?_eq_getElem h]
theorem tmod_pos {a b:Int} (h:0≤a):Int.tmod a b=a % b:=Int.tmod_eq_emod_of_nonneg h
end Go.Ab
