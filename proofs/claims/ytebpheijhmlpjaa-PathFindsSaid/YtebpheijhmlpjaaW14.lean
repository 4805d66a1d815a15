/- What functions compute. No conditions. -/
import Derived.Test.YtebpheijhmlpjaaProg
import Derived.Test.YtebpheijhmlpjaaW9
import Derived.KernelRfl
import Derived.Test.YtebpheijhmlpjaaW13
import Derived.Test.YtebpheijhmlpjaaW10
import Derived.Test.YtebpheijhmlpjaaW11
import Derived.Test.YtebpheijhmlpjaaW12
import Derived.Test.YtebpheijhmlpjaaEng8
import Derived.IntWalk
set_option linter.all false
namespace Go.Ab
open Go Go.Proofs
set_option maxRecDepth 100000
set_option maxHeartbeats 4000000
theorem g_law18_chains_ok (p0:Tharuspexref17_Draft) (p1:Tharuspexref17_Bend) (x:(Tapi_Hidden × Tapi_Hidden)) (h:g_law18_chains p0 p1=some x):CallOk Try.prog 12 [.agg [.int .u8 p0.Grain,.int .u8 p0.States,.int .u8 p0.Shows,eL true (AV.int .u8) p0.L,eL true (AV.int .u8) p0.Seen],.agg [.int .u8 p1.What,.int .u8 p1.S,.int .u8 p1.At,vI p1.N]] (.ret (.agg [vI x.1.Grain,z1 x.1.First,z2 x.1.Step,z2 x.1.Show,vI x.2.Grain,z1 x.2.First,z2 x.2.Step,z2 x.2.Show]) []):=by
 refine fn_ok [[.keep,.lst true,.lst false,.lst false,.keep,.lst true,.lst false,.lst false]] Try.func12 rfl (by decide +kernel) rfl ?_
 unfold g_law18_chains at h
 refine wp_eqB (base':=0) (st':=⟨[(0,.agg [.int .u8 p0.Grain,.int .u8 p0.States,.int .u8 p0.Shows,eL true (AV.int .u8) p0.L,eL true (AV.int .u8) p0.Seen]),(1,.agg [.int .u8 p1.What,.int .u8 p1.S,.int .u8 p1.At,vI p1.N])],[],13⟩) kr kr ?_
 refine wp_seq (reg_in ?_)
 refine sgL false [] [] false gE ?_
 refine sz 1 2 ?_
 refine sgL false [] [] false gE ?_
 refine reg_end rfl (wp_seq (reg_in (sz 1 1 ?_)))
 refine callW bodyB_25 (g_ref17_Draft_Hidden_ok p0) h (fun x1 _ h=>?_)
 refine sgL false [] [] false gE ?_
 refine sz 1 4 (reg_end rfl (wp_seq (wg [3,4,5] [1,2,6,3,4,5] (rga hfol (sy 3 3 ?_)))))
 refine callR (as0:=[.agg [.int .u8 p1.What,.int .u8 p1.S,.int .u8 p1.At,vI p1.N],.agg [vI x1.Grain,.ref 3 0 x1.First.length,.ref 4 0 x1.Step.length,.ref 5 0 x1.Show.length]]) (ids:=[3,4,5]) kr bodyB_34 (msnap_cons (snap_agg (msnap_cons rfl (msnap_cons rfl (msnap_cons rfl (msnap_cons rfl msnap_nil (by rfl)) (by rfl)) (by rfl)) (by rfl))) (msnap_cons (snap_agg (msnap_cons rfl (msnap_cons (snap_full (w:=1) (bx:=false) (ro:=false) kr) (msnap_cons (snap_full (w:=1) (bx:=false) (ro:=false) kr) (msnap_cons (snap_full (w:=1) (bx:=false) (ro:=false) kr) msnap_nil (by rfl)) (by rfl)) (by rfl)) (by rfl))) msnap_nil (by rfl)) (by rfl)) (fun x3 q4=>g_ref17_Bend_Of_ok p1 x1 x3 q4) gF h (fun x3 q4 h=>?_)
 refine sy 2 6 (rgd ?_)
 refine wgc [4] [1,3,4,5] ⟨[(4,.ptr 0 0 0)],[oX false false 8 (.agg [vI x1.Grain,.ref 1 0 x1.First.length,.ref 2 0 x1.Step.length,.ref 3 0 x1.Show.length,vI x3.Grain,z1 x3.First,z2 x3.Step,z2 x3.Show]),.row false true true true 1 (List.map eI x1.First),.row false true true false 1 (List.map z1 x1.Step),.row false true true false 1 (List.map z1 x1.Show)],13⟩ ?_
 refine wp_wk (wk_snapO 0 0 (st':=⟨[(4,.ptr 0 0 0)],[oX false false 8 (.agg [vI x1.Grain,z1 x1.First,z2 x1.Step,z2 x1.Show,vI x3.Grain,z1 x3.First,z2 x3.Step,z2 x3.Show]),.row false true true true 1 (List.map eI x1.First),.row false true true false 1 (List.map z1 x1.Step),.row false true true false 1 (List.map z1 x1.Show)],13⟩) (y:=.agg [vI x1.Grain,z1 x1.First,z2 x1.Step,z2 x1.Show,vI x3.Grain,z1 x3.First,z2 x3.Step,z2 x3.Show]) (ids:=[1,2,3]) rfl rfl rfl (snap_agg (msnap_cons rfl (msnap_cons (snap_full (w:=1) (bx:=false) (ro:=true) kr) (msnap_cons (snap_full (w:=1) (bx:=false) (ro:=true) kr) (msnap_cons (snap_full (w:=1) (bx:=false) (ro:=true) kr) (msnap_cons rfl (msnap_cons rfl (msnap_cons rfl (msnap_cons rfl msnap_nil (by rfl)) (by rfl)) (by rfl)) (by rfl)) (by rfl)) (by rfl)) (by rfl)) (by rfl))) kr) ?_
 cases h
 exact wp_ret (show fnOut _ _ _ _=_ from by kernel_rfl)
theorem g_ref17_Draft_What_ok (p0:Tharuspexref17_Draft) (x:(List Int)) (h:g_ref17_Draft_What p0=some x):CallOk Try.prog 13 [.agg [.int .u8 p0.Grain,.int .u8 p0.States,.int .u8 p0.Shows,eL true (AV.int .u8) p0.L,eL true (AV.int .u8) p0.Seen]] (.ret (.ref 0 0 x.length) [oR true 1 eI x]):=by
 refine fn_ok [] Try.func13 rfl (by decide +kernel) rfl ?_
 unfold g_ref17_Draft_What at h
 refine wp_eqB (base':=0) (st':=⟨[(0,.agg [.int .u8 p0.Grain,.int .u8 p0.States,.int .u8 p0.Shows,eL true (AV.int .u8) p0.L,eL true (AV.int .u8) p0.Seen])],[],37⟩) kr kr ?_
 refine wp_seq (reg_in ?_)
 refine sgL false [] [] false gE ?_
 refine sz 1 2 (reg_end rfl (sq (wp_seq (sq (wp_block ?_)))))
 refine wwh h (fun s1=>⟨[(1,.ptr 0 0 0),(3,.ref 1 0 s1.2.length),(4,vI s1.1)],[oX true false 5 (.agg [.int .u8 p0.Grain,.int .u8 p0.States,.int .u8 p0.Shows,eL true (AV.int .u8) p0.L,eL true (AV.int .u8) p0.Seen]),oR true 1 eI s1.2],37⟩) (fun v out=>out=.go (.exit 0) ⟨[(3,.ref 0 0 v.length)],[oR true 1 eI v],37⟩) (wk_trans (wk_gc (live:=[1,3,4]) (keep:=[0]) (st':=⟨[(1,.ptr 0 0 0),(3,.nils),(4,vI 0)],[oX true false 5 (.agg [.int .u8 p0.Grain,.int .u8 p0.States,.int .u8 p0.Shows,eL true (AV.int .u8) p0.L,eL true (AV.int .u8) p0.Seen])],37⟩) kr) (wk_trans (wk_nil 3 1 true true (st':=⟨[(1,.ptr 0 0 0),(3,.ref 1 0 0),(4,vI 0)],[oX true false 5 (.agg [.int .u8 p0.Grain,.int .u8 p0.States,.int .u8 p0.Shows,eL true (AV.int .u8) p0.L,eL true (AV.int .u8) p0.Seen]),.row false false true true 1 []],37⟩) kr) (wk_gc (live:=[1,3,4]) (keep:=[0,1]) kr))) ?_ ?_
 ·intro s1 o h
  unfold g_ref17_Draft_What_b0 at h
  refine wp_seq (wp_seq (reg_in (sz 3 3 ?_)))
  refine lenL (enc:=(AV.int .u8)) (l:=p0.Seen) (fl:=true) kr gE ?_
  refine sz 2 6 (rwg [1,3,4,10] [0,1] ?_)
  refine rb [10] h (fun q3 h=>?_) (fun q3 h=>?_)
  ·refine sz 3 9 (reg_end rfl ?_)
   refine wb [12,13] h (fun q5 h=>?_) (fun q5 h=>?_)
   ·refine wcT (wp_skip (wp_seq (wp_block (rga hfol (sy 4 4 ?_)))))
    refine bind_elim h (fun a6 q7 h=>?_)
    refine idxL' (enc:=(AV.int .u8)) (l:=p0.Seen) (n:=s1.1) (fl:=true) (w:=1) (a:=a6) kr rfl gE q7 ?_
    refine sy 7 12 ?_
    refine remR (k:=.i64) (a:=zw (a6)) (b:=zw (2+(zw (Int.tmod p0.Shows 4)))) kr gE h (fun h=>?_)
    refine sy 1 14 ?_
    refine sgL false [] [] true gE ?_
    refine appR (enc:=eI) (l:=s1.2) (m:=([zw ((Int.tmod (zw (a6)) (zw (2+(zw (Int.tmod p0.Shows 4))))) - 1)]:(List Int))) (w:=1) (bytes:=8) (ob:=1) (nr:=true) (fl:=true) (nr':=true) (fl':=true) (b:=.ref 2 0 1) (rds:=[2]) false kr kr kr rfl gE kr h (fun h=>?_)
    refine sy 1 17 (rgd ?_)
    refine wgc [1,3,4] [0,3] ⟨[(1,.ptr 0 0 0),(3,.ref 1 0 ((s1.2++([zw ((Int.tmod (zw (a6)) (zw (2+(zw (Int.tmod p0.Shows 4))))) - 1)]:(List Int))).length)),(4,vI s1.1)],[oX true false 5 (.agg [.int .u8 p0.Grain,.int .u8 p0.States,.int .u8 p0.Shows,eL true (AV.int .u8) p0.L,eL true (AV.int .u8) p0.Seen]),oR true 1 eI (s1.2++([zw ((Int.tmod (zw (a6)) (zw (2+(zw (Int.tmod p0.Shows 4))))) - 1)]:(List Int)))],37⟩ ?_
    refine rn ?_
    cases h
    exact ⟨_,rfl,(wk_gc (live:=[1,3,4]) (keep:=[0,1]) kr)⟩
   refine wcF (wg [3] [1] ?_)
   refine wp_exit ?_
   cases h
   exact ⟨kr,rfl⟩
  refine sz 3 9 (reg_end rfl (wcF (wg [3] [1] ?_)))
  refine wp_exit ?_
  cases h
  exact ⟨kr,rfl⟩
 intro x9 h out hx
 subst hx
 refine wp_seq (sq ?_)
 refine wb [34] h (fun q11 h=>?_) (fun q11 h=>?_)
 ·refine wcT (reg_in ?_)
  refine sgL false [] [] true gE ?_
  refine sz 1 2 (reg_end rfl (sq (wg [2] [1] ?_)))
  cases h
  exact wp_ret (show fnOut _ _ _ _=_ from by kernel_rfl)
 refine wcF (wp_skip (sq (wg [2] [0] ?_)))
 cases h
 exact wp_ret (show fnOut _ _ _ _=_ from by kernel_rfl)
theorem g_ref17_row_ok (p0:(List Int)) (p1:Int) (p2:Int) (x:Bool) (h:g_ref17_row p0 p1 p2=some x):CallOk Try.prog 92 [z1 p0,vI p1,vI p2] (.ret (vB x) []):=by
 refine fn_ok [] Try.func92 rfl (by decide +kernel) rfl ?_
 unfold g_ref17_row at h
 refine wp_eqB (base':=0) (st':=⟨[(0,z1 p0),(1,vI p1),(2,vI p2)],[],43⟩) kr kr ?_
 refine sq (sq (wp_seq (sq (wp_block ?_))))
 refine wwh h (fun s1=>⟨[(0,z1 p0),(1,vI p1),(2,vI p2),(7,vI s1.1),(8,vI s1.2)],[],43⟩) (fun x out=>out=match x with | .inl v=>.go (.ret) ⟨[(6,vB false)],[],43⟩ | .inr v=>.go (.exit 0) ⟨[(0,z1 p0),(1,vI p1),(2,vI p2),(7,vI v)],[],43⟩) (wk_gc (live:=[0,1,2,7,8]) (keep:=[]) kr) ?_ ?_
 ·intro s1 o h
  unfold g_ref17_row_b0 at h
  refine wp_seq (wp_seq (reg_in (sz 2 2 ?_)))
  refine lenL (enc:=eI) (l:=p0) (fl:=true) kr gE ?_
  refine sz 1 4 (reg_end rfl ?_)
  refine wb [12] h (fun q3 h=>?_) (fun q3 h=>?_)
  ·refine wcT (wp_skip (wp_seq (wp_block (wp_seq (wp_seq (reg_in (sz 2 2 ?_)))))))
   refine bind_elim h (fun a4 q5 h=>?_)
   refine idxL' (enc:=eI) (l:=p0) (n:=s1.2) (fl:=true) (w:=1) (a:=a4) kr rfl gE q5 ?_
   refine sz 3 6 ?_
   refine rw_wk (wk_gc (live:=[0,1,2,7,8,20]) (keep:=[]) (st':=⟨[(0,z1 p0),(1,vI p1),(2,vI p2),(7,vI s1.1),(8,vI s1.2),(20,vB (decide (a4 < 0)))],[],43⟩) kr) ?_
   refine rb [20] h (fun q7 h=>?_) (fun q7 h=>?_)
   ·refine sz 7 13 (reg_end rfl (wcT (wp_seq (wg [] [] (rn (wg [6] [] ?_))))))
    refine wp_ret ?_
    cases h
    exact ⟨kr,rfl⟩
   refine sz 2 8 ?_
   refine idxL' (enc:=eI) (l:=p0) (n:=s1.2) (fl:=true) (w:=1) (a:=a4) kr rfl gE q5 ?_
   refine sz 4 13 (reg_end rfl ?_)
   refine wbz h (fun q9 h=>?_) (fun q9 h=>?_)
   ·refine wp_seq (wg [] [] (rn (wg [6] [] ?_)))
    refine wp_ret ?_
    cases h
    exact ⟨kr,rfl⟩
   refine wp_skip (wg [0,1,2,7,8] [] (reg_in (sz 3 3 ?_)))
   refine idxL' (enc:=eI) (l:=p0) (n:=s1.2) (fl:=true) (w:=1) (a:=a4) kr rfl gE q5 ?_
   refine sz 3 7 (reg_end rfl ?_)
   refine wgc [0,1,2,7,8] [] ⟨[(0,z1 p0),(1,vI p1),(2,vI p2),(7,vI (zw (s1.1+a4))),(8,vI s1.2)],[],43⟩ ?_
   refine rn ?_
   cases h
   exact ⟨_,rfl,(wk_gc (live:=[0,1,2,7,8]) (keep:=[]) kr)⟩
  refine wcF (wg [0,1,2,7] [] ?_)
  refine wp_exit ?_
  cases h
  exact ⟨kr,rfl⟩
 intro x10 h out hx
 subst hx
 rcases x10 with x11 | x12
 ·dsimp only at h ⊢
  cases h
  show fnOut _ _ _ _=_
  kernel_rfl
 ·dsimp only at h ⊢
  refine wp_seq (reg_in (sz 1 1 ?_))
  refine lenL (enc:=eI) (l:=p0) (fl:=true) kr gE ?_
  refine sz 3 5 (rwg [2,7,38] [] ?_)
  refine rb [38] h (fun q14 h=>?_) (fun q14 h=>?_)
  ·refine sz 5 10 (reg_end rfl (wg [6] [] ?_))
   cases h
   exact wp_ret (show fnOut _ _ _ _=_ from by kernel_rfl)
  refine sz 5 10 (reg_end rfl (wg [6] [] ?_))
  cases h
  exact wp_ret (show fnOut _ _ _ _=_ from by kernel_rfl)
noncomputable abbrev s71_2 (p0:Tapi_Hidden):List AObj:=[oX true false 4 (.agg [vI p0.Grain,z1 p0.First,z2 p0.Step,z2 p0.Show])]
theorem g_ref17_Right_ok (p0:Tapi_Hidden) (x:Bool) (h:g_ref17_Right p0=some x):CallOk Try.prog 71 [.agg [vI p0.Grain,z1 p0.First,z2 p0.Step,z2 p0.Show]] (.ret (vB x) []):=by
 refine fn_ok [] Try.func71 rfl (by decide +kernel) rfl ?_
 unfold g_ref17_Right at h
 refine wp_eqB (base':=0) (st':=⟨[(0,.agg [vI p0.Grain,z1 p0.First,z2 p0.Step,z2 p0.Show])],[],86⟩) kr kr ?_
 refine wp_seq (reg_in ?_)
 refine sgL false [] [] false gE ?_
 refine sz 1 2 (reg_end rfl (wp_seq (reg_in (sz 2 2 ?_))))
 refine lenL (enc:=eI) (l:=p0.First) (fl:=true) kr gE ?_
 refine sz 1 4 (reg_end rfl (wp_seq (wp_seq (wg [1,3] [0] (reg_in (sz 4 4 ?_))))))
 refine rb [11,12] h (fun q2 h=>?_) (fun q2 h=>?_)
 ·refine sgz 35 39 (S:=⟨[(1,.ptr 0 0 0),(3,vI (zn p0.First)),(9,.ptr 0 0 0),(10,vI p0.Grain),(11,vB true),(12,vB true),(13,.tup []),(14,.tup []),(15,.tup []),(16,vB true),(17,vB true),(18,.tup []),(19,.tup []),(20,vB true),(21,vB true),(22,.tup []),(23,.tup []),(24,vB true),(25,vB true),(26,.tup []),(27,.tup []),(28,.tup []),(29,.tup []),(30,.tup []),(31,.tup []),(32,.tup []),(33,vB true),(34,vB true),(35,.tup []),(36,.tup []),(37,.tup []),(38,.tup []),(39,.tup []),(40,vB true),(41,vB true),(42,.tup []),(43,.tup []),(44,.tup []),(45,.tup []),(46,.tup []),(47,vB true)],(s71_2 p0),86⟩) ?_
  refine reg_end rfl (wcT (wp_seq (wg [] [] (rn (wg [2] [] ?_)))))
  cases h
  exact wp_ret (show fnOut _ _ _ _=_ from by kernel_rfl)
 refine sz 5 9 ?_
 refine rw_wk (wk_gc (live:=[1,3,17]) (keep:=[0]) (st':=⟨[(1,.ptr 0 0 0),(3,vI (zn p0.First)),(17,vB (decide (p0.Grain > 12)))],(s71_2 p0),86⟩) kr) ?_
 refine rb [17] h (fun q4 h=>?_) (fun q4 h=>?_)
 ·refine sz 30 39 (reg_end rfl (wcT (wp_seq ?_)))
  refine wgc [] [] ⟨[],[],86⟩ ?_
  refine rn (wg [2] [] ?_)
  cases h
  exact wp_ret (show fnOut _ _ _ _=_ from by kernel_rfl)
 refine sz 4 13 (rwg [1,3,21] [0] ?_)
 refine rb [21] h (fun q6 h=>?_) (fun q6 h=>?_)
 ·refine sz 26 39 (reg_end rfl (wcT (wp_seq ?_)))
  refine wgc [] [] ⟨[],[],86⟩ ?_
  refine rn (wg [2] [] ?_)
  cases h
  exact wp_ret (show fnOut _ _ _ _=_ from by kernel_rfl)
 refine sz 4 17 (rwg [1,3,25] [0] ?_)
 refine rb [25] h (fun q8 h=>?_) (fun q8 h=>?_)
 ·refine sz 22 39 (reg_end rfl (wcT (wp_seq ?_)))
  refine wgc [] [] ⟨[],[],86⟩ ?_
  refine rn (wg [2] [] ?_)
  cases h
  exact wp_ret (show fnOut _ _ _ _=_ from by kernel_rfl)
 refine sz 5 22 ?_
 refine callW bodyB_92 (g_ref17_row_ok p0.First (zn p0.First) p0.Grain) h (fun x9 _ h=>?_)
 refine sz 3 26 ?_
 refine rw_wk (wk_gc (live:=[1,3,34]) (keep:=[0]) (st':=⟨[(1,.ptr 0 0 0),(3,vI (zn p0.First)),(34,vB (!x9))],(s71_2 p0),86⟩) kr) ?_
 refine rb [34] h (fun q12 h=>?_) (fun q12 h=>?_)
 ·refine sz 13 39 (reg_end rfl (wcT (wp_seq (wg [] [] (rn ?_)))))
  refine wgc [2] [] ⟨[(2,vB false)],[],86⟩ ?_
  cases h
  exact wp_ret (show fnOut _ _ _ _=_ from by kernel_rfl)
 refine sz 2 28 ?_
 refine lenL (enc:=z1) (l:=p0.Step) (fl:=false) kr gE ?_
 refine sz 4 33 (rwg [1,3,41] [0] ?_)
 refine rb [41] h (fun q14 h=>?_) (fun q14 h=>?_)
 ·refine sz 6 39 (reg_end rfl (wcT (wp_seq ?_)))
  refine wgc [] [] ⟨[],[],86⟩ ?_
  refine rn (wg [2] [] ?_)
  cases h
  exact wp_ret (show fnOut _ _ _ _=_ from by kernel_rfl)
 refine sz 2 35 ?_
 refine lenL (enc:=z1) (l:=p0.Show) (fl:=false) kr gE ?_
 refine sz 3 39 (reg_end rfl ?_)
 refine wbz h (fun q16 h=>?_) (fun q16 h=>?_)
 ·refine wp_seq ?_
  refine wgc [] [] ⟨[],[],86⟩ ?_
  refine rn (wg [2] [] ?_)
  cases h
  exact wp_ret (show fnOut _ _ _ _=_ from by kernel_rfl)
 refine wp_skip (wp_seq ?_)
 refine wgc [1,3] [0] ⟨[(1,.ptr 0 0 0),(3,vI (zn p0.First))],(s71_2 p0),86⟩ ?_
 refine reg_in (sz 2 2 ?_)
 refine bind_elim h (fun a17 q18 h=>?_)
 refine idxL' (enc:=z1) (l:=p0.Show) (n:=0) (fl:=false) (w:=1) (a:=a17) kr rfl gE q18 ?_
 refine sz 1 4 ?_
 refine lenL (enc:=eI) (l:=a17) (fl:=true) kr gE ?_
 refine sz 1 6 (reg_end rfl (wp_seq (wp_seq (wg [1,3,4] [0] (reg_in (sz 3 3 ?_))))))
 refine rb [54,55] h (fun q20 h=>?_) (fun q20 h=>?_)
 ·refine sz 3 6 (reg_end rfl (wcT (wp_seq ?_)))
  refine wgc [] [] ⟨[],[],86⟩ ?_
  refine rn (wg [2] [] ?_)
  cases h
  exact wp_ret (show fnOut _ _ _ _=_ from by kernel_rfl)
 refine sz 3 6 (reg_end rfl ?_)
 refine wbz h (fun q22 h=>?_) (fun q22 h=>?_)
 ·refine wp_seq ?_
  refine wgc [] [] ⟨[],[],86⟩ ?_
  refine rn (wg [2] [] ?_)
  cases h
  exact wp_ret (show fnOut _ _ _ _=_ from by kernel_rfl)
 refine wp_skip (wp_seq (wp_seq ?_))
 refine wgc [1,3,4] [0] ⟨[(1,.ptr 0 0 0),(3,vI (zn p0.First)),(4,vI (zn a17))],(s71_2 p0),86⟩ ?_
 refine rn (wp_block ?_)
 refine wwh h (fun s23=>⟨[(1,.ptr 0 0 0),(3,vI (zn p0.First)),(4,vI (zn a17)),(5,vI s23)],(s71_2 p0),86⟩) (fun x out=>out=match x with | .inl v=>.go (.ret) ⟨[(2,vB false)],[],86⟩ | .inr v=>.go (.exit 0) ⟨[],[],86⟩) (wk_gc (live:=[1,3,4,5]) (keep:=[0]) kr) ?_ ?_
 ·intro s23 o h
  unfold g_ref17_Right_b0 at h
  refine wp_seq (sq ?_)
  refine wb [61] h (fun q25 h=>?_) (fun q25 h=>?_)
  ·refine wcT (wp_skip (wp_seq (wp_block (wp_seq (rga hfol (sy 3 3 ?_))))))
   refine bind_elim h (fun a26 q27 h=>?_)
   refine idxL' (enc:=z1) (l:=p0.Step) (n:=s23) (fl:=false) (w:=1) (a:=a26) kr rfl gE q27 ?_
   refine sy 4 8 ?_
   refine callW bodyB_92 (g_ref17_row_ok a26 (zn p0.First) p0.Grain) h (fun x28 _ h=>?_)
   refine sy 2 11 ?_
   refine rb [73,74] h (fun q31 h=>?_) (fun q31 h=>?_)
   ·refine sy 11 22 (rgd (wcT (wp_seq ?_)))
    refine wgc [] [] ⟨[],[],86⟩ ?_
    refine rn (wg [2] [] ?_)
    refine wp_ret ?_
    cases h
    exact ⟨kr,rfl⟩
   refine sy 3 14 ?_
   refine bind_elim h (fun a32 q33 h=>?_)
   refine idxL' (enc:=z1) (l:=p0.Show) (n:=s23) (fl:=false) (w:=1) (a:=a32) kr rfl gE q33 ?_
   refine sy 4 19 ?_
   refine callW bodyB_92 (g_ref17_row_ok a32 (zn a17) p0.Grain) h (fun x34 _ h=>?_)
   refine sy 2 22 (rgd ?_)
   refine wbz h (fun q37 h=>?_) (fun q37 h=>?_)
   ·refine wp_seq ?_
    refine wgc [] [] ⟨[],[],86⟩ ?_
    refine rn (wg [2] [] ?_)
    refine wp_ret ?_
    cases h
    exact ⟨kr,rfl⟩
   refine wp_skip ?_
   refine wgc [1,3,4,5] [0] ⟨[(1,.ptr 0 0 0),(3,vI (zn p0.First)),(4,vI (zn a17)),(5,vI s23)],(s71_2 p0),86⟩ ?_
   refine rn ?_
   cases h
   exact ⟨_,rfl,(wk_gc (live:=[1,3,4,5]) (keep:=[0]) kr)⟩
  refine wcF (wg [] [] ?_)
  refine wp_exit ?_
  cases h
  exact ⟨kr,rfl⟩
 intro x38 h out hx
 subst hx
 rcases x38 with x39 | x40
 ·dsimp only at h ⊢
  cases h
  show fnOut _ _ _ _=_
  kernel_rfl
 ·dsimp only at h ⊢
  refine sq (wg [2] [] ?_)
  cases h
  exact wp_ret (show fnOut _ _ _ _=_ from by kernel_rfl)
noncomputable abbrev s72_2 (p0:Tapi_Hidden):List AObj:=[oX true false 4 (.agg [vI p0.Grain,z1 p0.First,z2 p0.Step,z2 p0.Show])]
theorem g_ref17_Seen_ok (p0:Tapi_Hidden) (p1:(List Int)) (x:Bool) (h:g_ref17_Seen p0 p1=some x):CallOk Try.prog 72 [.agg [vI p0.Grain,z1 p0.First,z2 p0.Step,z2 p0.Show],z1 p1] (.ret (vB x) []):=by
 refine fn_ok [] Try.func72 rfl (by decide +kernel) rfl ?_
 unfold g_ref17_Seen at h
 refine wp_eqB (base':=0) (st':=⟨[(0,.agg [vI p0.Grain,z1 p0.First,z2 p0.Step,z2 p0.Show]),(1,z1 p1)],[],37⟩) kr kr ?_
 refine wp_seq (reg_in ?_)
 refine sgL false [] [] false gE ?_
 refine sz 1 2 (reg_end rfl (wp_seq (sq (wp_block ?_))))
 refine wwh h (fun s1=>⟨[(1,z1 p1),(2,.ptr 0 0 0),(5,vI s1)],(s72_2 p0),37⟩) (fun x out=>out=match x with | .inl v=>.go (.ret) ⟨[(4,vB false)],[],37⟩ | .inr v=>.go (.exit 0) ⟨[(1,z1 p1)],[],37⟩) (wk_gc (live:=[1,2,5]) (keep:=[0]) kr) ?_ ?_
 ·intro s1 o h
  unfold g_ref17_Seen_b0 at h
  refine wp_seq (wp_seq (reg_in (sz 2 2 ?_)))
  refine lenL (enc:=eI) (l:=p1) (fl:=true) kr gE ?_
  refine sz 1 4 (reg_end rfl ?_)
  refine wb [9] h (fun q3 h=>?_) (fun q3 h=>?_)
  ·refine wcT (wp_skip (wp_seq (wp_block (wp_seq (rga hfol (sy 2 2 ?_))))))
   refine bind_elim h (fun a4 q5 h=>?_)
   refine idxL' (enc:=eI) (l:=p1) (n:=s1) (fl:=true) (w:=1) (a:=a4) kr rfl gE q5 ?_
   refine sy 3 6 ?_
   refine rb [16,17] h (fun q7 h=>?_) (fun q7 h=>?_)
   ·refine sy 11 17 (rgd (wcT (wp_seq ?_)))
    refine wgc [] [] ⟨[],[],37⟩ ?_
    refine rn (wg [4] [] ?_)
    refine wp_ret ?_
    cases h
    exact ⟨kr,rfl⟩
   refine sy 2 8 ?_
   refine idxL' (enc:=eI) (l:=p1) (n:=s1) (fl:=true) (w:=1) (a:=a4) kr rfl gE q5 ?_
   refine sy 3 12 ?_
   refine bind_elim h (fun a8 q9 h=>?_)
   refine idxL' (enc:=z1) (l:=p0.Show) (n:=0) (fl:=false) (w:=1) (a:=a8) kr rfl gE q9 ?_
   refine sy 1 14 ?_
   refine lenL (enc:=eI) (l:=a8) (fl:=true) kr gE ?_
   refine sy 2 17 (rgd ?_)
   refine wbz h (fun q11 h=>?_) (fun q11 h=>?_)
   ·refine wp_seq ?_
    refine wgc [] [] ⟨[],[],37⟩ ?_
    refine rn (wg [4] [] ?_)
    refine wp_ret ?_
    cases h
    exact ⟨kr,rfl⟩
   refine wp_skip ?_
   refine wgc [1,2,5] [0] ⟨[(1,z1 p1),(2,.ptr 0 0 0),(5,vI s1)],(s72_2 p0),37⟩ ?_
   refine rn ?_
   cases h
   exact ⟨_,rfl,(wk_gc (live:=[1,2,5]) (keep:=[0]) kr)⟩
  refine wcF (wg [1] [] ?_)
  refine wp_exit ?_
  cases h
  exact ⟨kr,rfl⟩
 intro x12 h out hx
 subst hx
 rcases x12 with x13 | x14
 ·dsimp only at h ⊢
  cases h
  show fnOut _ _ _ _=_
  kernel_rfl
 ·dsimp only at h ⊢
  refine wp_seq (reg_in (sz 1 1 ?_))
  refine lenL (enc:=eI) (l:=p1) (fl:=true) kr gE ?_
  refine sz 2 4 ?_
  refine rb [31,32] h (fun q16 h=>?_) (fun q16 h=>?_)
  ·refine sz 1 5 ?_
   refine lenL (enc:=eI) (l:=p1) (fl:=true) kr gE ?_
   refine sz 3 9 (reg_end rfl (wg [4] [] ?_))
   cases h
   exact wp_ret (show fnOut _ _ _ _=_ from by kernel_rfl)
  refine sz 5 9 (reg_end rfl (wg [4] [] ?_))
  cases h
  exact wp_ret (show fnOut _ _ _ _=_ from by kernel_rfl)
theorem g_ref17_Errors_ok (p0:Tapi_Hidden) (p1:(List Int)) (x:Int) (h:g_ref17_Errors p0 p1=some x):CallOk Try.prog 37 [.agg [vI p0.Grain,z1 p0.First,z2 p0.Step,z2 p0.Show],z1 p1] (.ret (vI x) []):=by
 refine fn_ok [] Try.func37 rfl (by decide +kernel) rfl ?_
 unfold g_ref17_Errors at h
 refine wp_eqB (base':=0) (st':=⟨[(0,.agg [vI p0.Grain,z1 p0.First,z2 p0.Step,z2 p0.Show]),(1,z1 p1)],[],12⟩) kr kr ?_
 refine wp_seq (reg_in ?_)
 refine sgL false [] [] false gE ?_
 refine sz 1 2 (reg_end rfl (wp_seq (wp_seq (reg_in (sz 1 1 ?_)))))
 refine callW bodyB_71 (g_ref17_Right_ok p0) h (fun x1 _ h=>?_)
 refine sz 1 3 (reg_end rfl ?_)
 refine wbz h (fun q4 h=>?_) (fun q4 h=>?_)
 ·refine wp_seq (wg [] [] (rn ?_))
  refine wgc [4] [] ⟨[(4,vI 170)],[],12⟩ ?_
  cases h
  exact wp_ret (show fnOut _ _ _ _=_ from by kernel_rfl)
 refine wp_skip (wp_seq (wp_seq (wg [1,2] [0] (reg_in (sz 2 2 ?_)))))
 refine callW bodyB_72 (g_ref17_Seen_ok p0 p1) h (fun x5 _ h=>?_)
 refine sz 1 4 (reg_end rfl ?_)
 refine wbz h (fun q8 h=>?_) (fun q8 h=>?_)
 ·refine wp_seq ?_
  refine wgc [] [] ⟨[],[],12⟩ ?_
  refine rn (wg [4] [] ?_)
  cases h
  exact wp_ret (show fnOut _ _ _ _=_ from by kernel_rfl)
 refine wp_skip (wp_seq ?_)
 refine wgc [] [] ⟨[],[],12⟩ ?_
 refine rn (wg [4] [] ?_)
 cases h
 exact wp_ret (show fnOut _ _ _ _=_ from by kernel_rfl)
theorem g_ref17_Shows_ok (p0:Tapi_Hidden) (p1:Int) (p2:Int) (x:Int) (h:g_ref17_Shows p0 p1 p2=some x):CallOk Try.prog 73 [.agg [vI p0.Grain,z1 p0.First,z2 p0.Step,z2 p0.Show],vI p1,vI p2] (.ret (vI x) []):=by
 refine fn_ok [] Try.func73 rfl (by decide +kernel) rfl ?_
 unfold g_ref17_Shows at h
 refine wp_eqB (base':=0) (st':=⟨[(0,.agg [vI p0.Grain,z1 p0.First,z2 p0.Step,z2 p0.Show]),(1,vI p1),(2,vI p2)],[],19⟩) kr kr ?_
 refine wp_seq (reg_in ?_)
 refine sgL false [] [] false gE ?_
 refine sz 1 2 (reg_end rfl (wp_seq (sq ?_)))
 refine wb [8] h (fun q2 h=>?_) (fun q2 h=>?_)
 ·refine wcT (wp_seq (wg [3] [0] (rn (wg [6] [] ?_))))
  cases h
  exact wp_ret (show fnOut _ _ _ _=_ from by kernel_rfl)
 refine wcF (wp_skip (wp_seq (reg_in (sz 3 3 ?_))))
 refine bind_elim h (fun a3 q4 h=>?_)
 refine idxL' (enc:=z1) (l:=p0.Show) (n:=p1) (fl:=false) (w:=1) (a:=a3) kr rfl gE q4 ?_
 refine sz 2 6 ?_
 refine bind_elim h (fun a5 q6 h=>?_)
 refine idxL' (enc:=eI) (l:=a3) (n:=p2) (fl:=true) (w:=1) (a:=a5) kr rfl gE q6 ?_
 refine sz 2 9 (reg_end rfl ?_)
 refine wgc [6] [] ⟨[(6,vI a5)],[],19⟩ ?_
 cases h
 exact wp_ret (show fnOut _ _ _ _=_ from by kernel_rfl)
theorem g_ref18_Before_ok (p0:(List Int)) (p1:(List Int)) (x:Bool) (h:g_ref18_Before p0 p1=some x):CallOk Try.prog 116 [z1 p0,z1 p1] (.ret (vB x) []):=by
 refine fn_ok [] Try.func116 rfl (by decide +kernel) rfl ?_
 unfold g_ref18_Before at h
 refine wp_eqB (base':=0) (st':=⟨[(0,z1 p0),(1,z1 p1)],[],30⟩) kr kr ?_
 refine sq (wp_seq (sq (wp_block ?_)))
 refine wwh h (fun s1=>⟨[(0,z1 p0),(1,z1 p1),(5,vI s1)],[],30⟩) (fun x out=>out=match x with | .inl v=>.go (.ret) ⟨[(4,vB v)],[],30⟩ | .inr v=>.go (.exit 0) ⟨[],[],30⟩) (wk_gc (live:=[0,1,5]) (keep:=[]) kr) ?_ ?_
 ·intro s1 o h
  unfold g_ref18_Before_b0 at h
  refine wp_seq (wp_seq (reg_in (sz 2 2 ?_)))
  refine lenL (enc:=eI) (l:=p0) (fl:=true) kr gE ?_
  refine sz 1 4 (reg_end rfl ?_)
  refine wb [9] h (fun q3 h=>?_) (fun q3 h=>?_)
  ·refine wcT (wp_skip (wp_seq (wp_block (wp_seq (rga hfol (sy 2 2 ?_))))))
   refine bind_elim h (fun a4 q5 h=>?_)
   refine idxL' (enc:=eI) (l:=p0) (n:=s1) (fl:=true) (w:=1) (a:=a4) kr rfl gE q5 ?_
   refine sy 3 6 ?_
   refine bind_elim h (fun a6 q7 h=>?_)
   refine idxL' (enc:=eI) (l:=p1) (n:=s1) (fl:=true) (w:=1) (a:=a6) kr rfl gE q7 ?_
   refine sy 2 9 (rgd ?_)
   refine wbz h (fun q9 h=>?_) (fun q9 h=>?_)
   ·refine wp_seq ?_
    refine wgc [0,1,5] [] ⟨[(0,z1 p0),(1,z1 p1),(5,vI s1)],[],30⟩ ?_
    refine rga hfol (sy 2 2 ?_)
    refine idxL' (enc:=eI) (l:=p0) (n:=s1) (fl:=true) (w:=1) (a:=a4) kr rfl gE q5 ?_
    refine sy 3 6 ?_
    refine idxL' (enc:=eI) (l:=p1) (n:=s1) (fl:=true) (w:=1) (a:=a6) kr rfl gE q7 ?_
    refine sy 3 10 (rgd (wg [4] [] ?_))
    refine wp_ret ?_
    cases h
    exact ⟨kr,rfl⟩
   refine wp_skip ?_
   refine wgc [0,1,5] [] ⟨[(0,z1 p0),(1,z1 p1),(5,vI s1)],[],30⟩ ?_
   refine rn ?_
   cases h
   exact ⟨_,rfl,(wk_gc (live:=[0,1,5]) (keep:=[]) kr)⟩
  refine wcF (wg [] [] ?_)
  refine wp_exit ?_
  cases h
  exact ⟨kr,rfl⟩
 intro x10 h out hx
 subst hx
 rcases x10 with x11 | x12
 ·dsimp only at h ⊢
  cases h
  show fnOut _ _ _ _=_
  kernel_rfl
 ·dsimp only at h ⊢
  refine sq (wg [4] [] ?_)
  cases h
  exact wp_ret (show fnOut _ _ _ _=_ from by kernel_rfl)
noncomputable abbrev s104_17 (p0:(List Tharuspexref18_Walk)) (x15:Int) (p1:Tharuspexref18_Walk):List AObj:=[oR false 2 eTharuspexref18_Walk (((sub p0 0 x15)++([p1]:(List Tharuspexref18_Walk)))++(sub p0 x15 (zn p0)))]
theorem g_ref18_insert_ok (p0:(List Tharuspexref18_Walk)) (p1:Tharuspexref18_Walk) (p2:Int) (x:(List Tharuspexref18_Walk)) (h:g_ref18_insert p0 p1 p2=some x):CallOk Try.prog 104 [eL false eTharuspexref18_Walk p0,.agg [z1 p1.Path,vI p1.Weight],vI p2] (.ret (eL false eTharuspexref18_Walk x) []):=by
 refine fn_ok [[.lst false]] Try.func104 rfl (by decide +kernel) rfl ?_
 unfold g_ref18_insert at h
 refine wp_eqB (base':=0) (st':=⟨[(0,eL false eTharuspexref18_Walk p0),(1,.agg [z1 p1.Path,vI p1.Weight]),(2,vI p2)],[],65⟩) kr kr ?_
 refine wp_seq (reg_in ?_)
 refine sgL false [] [] false gE ?_
 refine sz 1 2 (reg_end rfl (sq (wp_seq (wp_block ?_))))
 refine wwh h (fun s1=>⟨[(0,eL false eTharuspexref18_Walk p0),(2,vI p2),(4,.ptr 0 0 0),(7,vI s1)],[oX true false 2 (.agg [z1 p1.Path,vI p1.Weight])],65⟩) (fun v out=>out=.go (.exit 0) ⟨[(0,eL false eTharuspexref18_Walk p0),(2,vI p2),(4,.ptr 0 0 0),(7,vI v)],[oX true false 2 (.agg [z1 p1.Path,vI p1.Weight])],65⟩) (wk_gc (live:=[0,2,4,7]) (keep:=[0]) kr) ?_ ?_
 ·intro s1 o h
  unfold g_ref18_insert_b0 at h
  refine wp_seq (wp_seq (rga hfol (sy 2 2 ?_)))
  refine lenL (enc:=eTharuspexref18_Walk) (l:=p0) (fl:=false) kr gE ?_
  refine sy 2 5 ?_
  refine rb [12,13] h (fun q3 h=>?_) (fun q3 h=>?_)
  ·refine sy 2 7 ?_
   refine bind_elim h (fun a4 q5 h=>?_)
   refine idxL' (enc:=eTharuspexref18_Walk) (l:=p0) (n:=s1) (fl:=false) (w:=2) (a:=a4) kr rfl gE q5 ?_
   refine sy 6 14 ?_
   refine rb [21,22] h (fun q7 h=>?_) (fun q7 h=>?_)
   ·refine sgy 20 34 (S:=⟨[(0,eL false eTharuspexref18_Walk p0),(2,vI p2),(4,.ptr 0 0 0),(7,vI s1),(9,vI s1),(10,eL false eTharuspexref18_Walk p0),(11,vI (zn p0)),(12,vB true),(13,vB true),(14,eL false eTharuspexref18_Walk p0),(15,vI s1)]++[(16,.fz [z1 a4.Path,vI a4.Weight]),(17,.fz [vI a4.Weight]),(18,vI a4.Weight),(19,.ptr 0 0 1),(20,vI p1.Weight),(21,vB true),(22,vB true),(23,.tup []),(24,.tup []),(25,.tup []),(26,.tup []),(27,.tup []),(28,.tup []),(29,.tup []),(30,.tup []),(31,.tup []),(32,.tup []),(33,.tup []),(34,.tup []),(35,.tup []),(36,.tup []),(37,.tup []),(38,.tup []),(39,.tup []),(40,.tup []),(41,vB true),(42,vB true)],[oX true false 2 (.agg [z1 p1.Path,vI p1.Weight])],65⟩) ?_
    refine rgd (wcT (wp_skip (wp_block (wg [0,2,4,7] [0] (rn ?_)))))
    cases h
    exact ⟨_,rfl,(wk_gc (live:=[0,2,4,7]) (keep:=[0]) kr)⟩
   refine sy 2 16 ?_
   refine idxL' (enc:=eTharuspexref18_Walk) (l:=p0) (n:=s1) (fl:=false) (w:=2) (a:=a4) kr rfl gE q5 ?_
   refine sy 6 23 ?_
   refine rb [30,31] h (fun q9 h=>?_) (fun q9 h=>?_)
   ·refine sy 2 25 ?_
    refine idxL' (enc:=eTharuspexref18_Walk) (l:=p0) (n:=s1) (fl:=false) (w:=2) (a:=a4) kr rfl gE q5 ?_
    refine sy 4 30 ?_
    refine callW bodyB_116 (g_ref18_Before_ok a4.Path p1.Path) h (fun x10 _ h=>?_)
    refine sgy 3 34 (S:=⟨[(0,eL false eTharuspexref18_Walk p0),(2,vI p2),(4,.ptr 0 0 0),(7,vI s1),(9,vI s1),(10,eL false eTharuspexref18_Walk p0),(11,vI (zn p0)),(12,vB true),(13,vB true),(14,eL false eTharuspexref18_Walk p0),(15,vI s1),(16,.fz [z1 a4.Path,vI a4.Weight]),(17,.fz [vI a4.Weight]),(18,vI a4.Weight),(19,.ptr 0 0 1),(20,vI p1.Weight),(21,vB false),(22,vB false),(23,eL false eTharuspexref18_Walk p0),(24,vI s1),(25,.fz [z1 a4.Path,vI a4.Weight]),(26,.fz [vI a4.Weight]),(27,vI a4.Weight),(28,.ptr 0 0 1),(29,vI p1.Weight),(30,vB true),(31,vB true),(32,eL false eTharuspexref18_Walk p0),(33,vI s1)]++[(34,.fz [z1 a4.Path,vI a4.Weight]),(35,.fz [z1 a4.Path,vI a4.Weight]),(36,z1 a4.Path),(37,.ptr 0 0 0),(38,z1 p1.Path),(39,vB x10),(40,vB x10),(41,vB x10),(42,vB x10)],[oX true false 2 (.agg [z1 p1.Path,vI p1.Weight])],65⟩) ?_
    refine rgd ?_
    refine wbz h (fun q13 h=>?_) (fun q13 h=>?_)
    ·refine wp_skip (wp_block (wg [0,2,4,7] [0] (rn ?_)))
     cases h
     exact ⟨_,rfl,(wk_gc (live:=[0,2,4,7]) (keep:=[0]) kr)⟩
    refine wg [0,2,4,7] [0] ?_
    refine wp_exit ?_
    cases h
    exact ⟨kr,rfl⟩
   refine sgy 11 34 (S:=⟨[(0,eL false eTharuspexref18_Walk p0),(2,vI p2),(4,.ptr 0 0 0),(7,vI s1),(9,vI s1),(10,eL false eTharuspexref18_Walk p0),(11,vI (zn p0)),(12,vB true),(13,vB true),(14,eL false eTharuspexref18_Walk p0),(15,vI s1),(16,.fz [z1 a4.Path,vI a4.Weight]),(17,.fz [vI a4.Weight]),(18,vI a4.Weight),(19,.ptr 0 0 1),(20,vI p1.Weight),(21,vB false),(22,vB false),(23,eL false eTharuspexref18_Walk p0),(24,vI s1),(25,.fz [z1 a4.Path,vI a4.Weight]),(26,.fz [vI a4.Weight]),(27,vI a4.Weight),(28,.ptr 0 0 1),(29,vI p1.Weight),(30,vB false),(31,vB false),(32,.tup []),(33,.tup []),(34,.tup []),(35,.tup []),(36,.tup []),(37,.tup []),(38,.tup []),(39,.tup []),(40,vB false),(41,vB false),(42,vB false)],[oX true false 2 (.agg [z1 p1.Path,vI p1.Weight])],65⟩) ?_
   refine rgd (wcF (wg [0,2,4,7] [0] ?_))
   refine wp_exit ?_
   cases h
   exact ⟨kr,rfl⟩
  refine sy 29 34 (rgd (wcF ?_))
  refine wgc [0,2,4,7] [0] ⟨[(0,eL false eTharuspexref18_Walk p0),(2,vI p2),(4,.ptr 0 0 0),(7,vI s1)],[oX true false 2 (.agg [z1 p1.Path,vI p1.Weight])],65⟩ ?_
  refine wp_exit ?_
  cases h
  exact ⟨kr,rfl⟩
 intro x15 h out hx
 subst hx
 refine sq (wp_seq (rga hfol (sy 3 3 ?_)))
 refine sliceL (enc:=eTharuspexref18_Walk) (l:=p0) (fl:=false) (lo:=none) (hi:=(some (vI x15))) (a:=0) (b:=x15) (w:=2) kr (fun _=>rfl) rfl rfl gE h (fun h=>?_)
 refine appN (enc:=eTharuspexref18_Walk) (m:=(sub p0 0 x15)) (w:=2) (bytes:=32) (nr':=true) (fl':=false) (a:=.nils) (b:=eL false eTharuspexref18_Walk (sub p0 0 x15)) (rds:=[]) false kr (.inl rfl) (elems_lst (fun _=>rfl)) rfl gE kr h (fun h=>?_)
 refine sy 1 6 ?_
 refine sgL false [] [.lst true,.keep] false gE ?_
 refine appR (enc:=eTharuspexref18_Walk) (l:=(sub p0 0 x15)) (m:=([p1]:(List Tharuspexref18_Walk))) (w:=2) (bytes:=32) (ob:=1) (nr:=true) (fl:=false) (nr':=true) (fl':=false) (b:=.ref 2 0 1) (rds:=[2]) false kr kr kr rfl gE kr h (fun h=>?_)
 refine sy 2 10 ?_
 refine sliceL (enc:=eTharuspexref18_Walk) (l:=p0) (fl:=false) (lo:=(some (vI x15))) (hi:=none) (a:=x15) (b:=(zn p0)) (w:=2) kr (fun _=>rfl) rfl rfl gE h (fun h=>?_)
 refine appR (enc:=eTharuspexref18_Walk) (l:=((sub p0 0 x15)++([p1]:(List Tharuspexref18_Walk)))) (m:=(sub p0 x15 (zn p0))) (w:=2) (bytes:=32) (ob:=3) (nr:=true) (fl:=false) (nr':=true) (fl':=false) (b:=eL false eTharuspexref18_Walk (sub p0 x15 (zn p0))) (rds:=[]) false kr kr (elems_lst (fun _=>rfl)) rfl gE kr h (fun h=>?_)
 refine sy 1 13 (rgd (wp_seq (wp_seq ?_)))
 refine wgc [2,8] [4] ⟨[(2,vI p2),(8,.ref 0 0 ((((sub p0 0 x15)++([p1]:(List Tharuspexref18_Walk)))++(sub p0 x15 (zn p0))).length))],(s104_17 p0 x15 p1),65⟩ ?_
 refine rn ?_
 refine wb [60] h (fun q17 h=>?_) (fun q17 h=>?_)
 ·refine wcT (reg_in (sz 2 2 ?_))
  refine sliceP (enc:=eTharuspexref18_Walk) (l:=(((sub p0 0 x15)++([p1]:(List Tharuspexref18_Walk)))++(sub p0 x15 (zn p0)))) (ob:=0) (ro:=false) (nr:=true) (fl:=false) (lo:=none) (hi:=(some (vI p2))) (a:=0) (b:=p2) (w:=2) kr kr rfl rfl gE h (fun q18 h=>?_)
  refine sz 1 4 (reg_end rfl (wp_seq (wg [8] [0] (rn ?_))))
  refine wgc [6] [0] ⟨[(6,.ref 0 0 (zt p2 - zt (0:Int)))],(s104_17 p0 x15 p1),65⟩ ?_
  refine wp_wk (wk_snap 6 (st':=⟨[(6,eL false eTharuspexref18_Walk (sub (((sub p0 0 x15)++([p1]:(List Tharuspexref18_Walk)))++(sub p0 x15 (zn p0))) 0 p2))],[.row false true true false 2 (List.map eTharuspexref18_Walk (((sub p0 0 x15)++([p1]:(List Tharuspexref18_Walk)))++(sub p0 x15 (zn p0))))],65⟩) (y:=eL false eTharuspexref18_Walk (sub (((sub p0 0 x15)++([p1]:(List Tharuspexref18_Walk)))++(sub p0 x15 (zn p0))) 0 p2)) (ids:=[0]) rfl (snap_part (a:=0) (b:=p2) (w:=2) (bx:=false) (ro:=false) kr q18) kr) ?_
  cases h
  exact wp_ret (show fnOut _ _ _ _=_ from by kernel_rfl)
 refine wcF (wp_skip (wp_seq (wg [8] [0] (rn ?_))))
 refine wgc [6] [0] ⟨[(6,.ref 0 0 ((((sub p0 0 x15)++([p1]:(List Tharuspexref18_Walk)))++(sub p0 x15 (zn p0))).length))],(s104_17 p0 x15 p1),65⟩ ?_
 refine wp_wk (wk_snap 6 (st':=⟨[(6,eL false eTharuspexref18_Walk (((sub p0 0 x15)++([p1]:(List Tharuspexref18_Walk)))++(sub p0 x15 (zn p0))))],[.row false true true false 2 (List.map eTharuspexref18_Walk (((sub p0 0 x15)++([p1]:(List Tharuspexref18_Walk)))++(sub p0 x15 (zn p0))))],65⟩) (y:=eL false eTharuspexref18_Walk (((sub p0 0 x15)++([p1]:(List Tharuspexref18_Walk)))++(sub p0 x15 (zn p0)))) (ids:=[0]) rfl (snap_full (w:=2) (bx:=false) (ro:=false) kr) kr) ?_
 cases h
 exact wp_ret (show fnOut _ _ _ _=_ from by kernel_rfl)
noncomputable abbrev s80_2 (p0:Tapi_Hidden):List AObj:=[oX true false 4 (.agg [vI p0.Grain,z1 p0.First,z2 p0.Step,z2 p0.Show])]
noncomputable abbrev s80_78 (p0:Tapi_Hidden) (s1:((List Tharuspexref18_Walk) × Int)):List AObj:=[oX true false 4 (.agg [vI p0.Grain,z1 p0.First,z2 p0.Step,z2 p0.Show]),.row false false true true 1 [vI s1.2],.row false false true true 1 [vI s1.2]]
theorem g_ref18_ahead_ok (p0:Tapi_Hidden) (p1:(List Int)) (p2:Int) (p3:Int) (p4:Int) (p5:(List (List Tharuspexref18_Walk))) (x:(List Tharuspexref18_Walk)) (h:g_ref18_ahead p0 p1 p2 p3 p4 p5=some x):CallOk Try.prog 80 [.agg [vI p0.Grain,z1 p0.First,z2 p0.Step,z2 p0.Show],z1 p1,vI p2,vI p3,vI p4,eL false (eL false eTharuspexref18_Walk) p5] (.ret (eL false eTharuspexref18_Walk x) []):=by
 refine fn_ok [[.lst false]] Try.func80 rfl (by decide +kernel) rfl ?_
 unfold g_ref18_ahead at h
 refine wp_eqB (base':=0) (st':=⟨[(0,.agg [vI p0.Grain,z1 p0.First,z2 p0.Step,z2 p0.Show]),(1,z1 p1),(2,vI p2),(3,vI p3),(4,vI p4),(5,eL false (eL false eTharuspexref18_Walk) p5)],[],91⟩) kr kr ?_
 refine wp_seq (reg_in ?_)
 refine sgL false [] [] false gE ?_
 refine sz 1 2 (reg_end rfl (sq (wp_seq ?_)))
 refine sqN (S:=⟨[(0,.agg [vI p0.Grain,z1 p0.First,z2 p0.Step,z2 p0.Show]),(1,z1 p1),(2,vI p2),(3,vI p3),(4,vI p4),(5,eL false (eL false eTharuspexref18_Walk) p5)]++[(6,.ptr 0 0 0),(12,.nils),(13,.nils),(14,vI 0)],(s80_2 p0),91⟩) ?_
 refine wp_block ?_
 refine wwh h (fun s1=>⟨[(1,z1 p1),(2,vI p2),(3,vI p3),(4,vI p4),(5,eL false (eL false eTharuspexref18_Walk) p5),(6,.ptr 0 0 0),(13,eL false eTharuspexref18_Walk s1.1),(14,vI s1.2)],(s80_2 p0),91⟩) (fun v out=>out=.go (.exit 0) ⟨[(13,eL false eTharuspexref18_Walk v)],[],91⟩) (wk_trans (wk_gc (live:=[1,2,3,4,5,6,13,14]) (keep:=[0]) (st':=⟨[(1,z1 p1),(2,vI p2),(3,vI p3),(4,vI p4),(5,eL false (eL false eTharuspexref18_Walk) p5),(6,.ptr 0 0 0),(13,.nils),(14,vI 0)],(s80_2 p0),91⟩) kr) (wk_slotK 13 [.lst false] kr)) ?_ ?_
 ·intro s1 o h
  unfold g_ref18_ahead_b2 at h
  refine wp_seq (wp_seq (reg_in (sz 3 3 ?_)))
  refine lenL (enc:=eI) (l:=p0.First) (fl:=true) kr gE ?_
  refine sz 1 5 (reg_end rfl ?_)
  refine wbz h (fun q3 h=>?_) (fun q3 h=>?_)
  ·refine wp_skip (wp_seq (wp_block (wp_seq (wg [1,2,3,4,5,6,13,14] [0] (reg_in (sz 3 3 ?_))))))
   refine bind_elim h (fun a4 q5 h=>?_)
   refine idxL' (enc:=eI) (l:=p0.First) (n:=s1.2) (fl:=true) (w:=1) (a:=a4) kr rfl gE q5 ?_
   refine sz 2 6 (reg_end rfl (wp_seq (wp_seq ?_)))
   refine wgc [1,2,3,4,5,6,13,14,15] [0] ⟨[(1,z1 p1),(2,vI p2),(3,vI p3),(4,vI p4),(5,eL false (eL false eTharuspexref18_Walk) p5),(6,.ptr 0 0 0),(13,eL false eTharuspexref18_Walk s1.1),(14,vI s1.2),(15,vI a4)],(s80_2 p0),91⟩ ?_
   refine rn ?_
   refine wb [31] h (fun q7 h=>?_) (fun q7 h=>?_)
   ·refine wcT (reg_in (sz 3 3 ?_))
    refine bind_elim h (fun a8 q9 h=>?_)
    refine idxL' (enc:=z1) (l:=p0.Step) (n:=p3) (fl:=false) (w:=1) (a:=a8) kr rfl gE q9 ?_
    refine sz 2 6 ?_
    refine bind_elim h (fun a10 q11 h=>?_)
    refine idxL' (enc:=eI) (l:=a8) (n:=s1.2) (fl:=true) (w:=1) (a:=a10) kr rfl gE q11 ?_
    refine sz 2 9 (reg_end rfl (wp_seq ?_))
    refine wgc [1,2,3,4,5,6,13,14,15] [0] ⟨[(1,z1 p1),(2,vI p2),(3,vI p3),(4,vI p4),(5,eL false (eL false eTharuspexref18_Walk) p5),(6,.ptr 0 0 0),(13,eL false eTharuspexref18_Walk s1.1),(14,vI s1.2),(15,vI a10)],(s80_2 p0),91⟩ ?_
    refine rga hfol (sy 5 5 ?_)
    refine bind_elim h (fun a12 q13 h=>?_)
    refine idxL' (enc:=eI) (l:=p1) (n:=p2) (fl:=true) (w:=1) (a:=a12) kr rfl gE q13 ?_
    refine sy 1 7 ?_
    refine callW bodyB_73 (g_ref17_Shows_ok p0 s1.2 a12) h (fun x14 _ h=>?_)
    refine sy 2 10 (rgd (wp_seq (wg [1,2,3,4,5,6,13,14,15] [0] (rn (wp_block ?_)))))
    refine wwh h (fun s16=>⟨[(1,z1 p1),(2,vI p2),(3,vI p3),(4,vI p4),(5,eL false (eL false eTharuspexref18_Walk) p5),(6,.ptr 0 0 0),(13,eL false eTharuspexref18_Walk s16.1),(14,vI s1.2),(15,vI (zw (a10*x14))),(16,vI s16.2)],(s80_2 p0),91⟩) (fun v out=>out=.go (.exit 2) ⟨[(1,z1 p1),(2,vI p2),(3,vI p3),(4,vI p4),(5,eL false (eL false eTharuspexref18_Walk) p5),(6,.ptr 0 0 0),(13,eL false eTharuspexref18_Walk v),(14,vI s1.2)],(s80_2 p0),91⟩) (wk_gc (live:=[1,2,3,4,5,6,13,14,15,16]) (keep:=[0]) kr) ?_ ?_
    ·intro s16 o h
     unfold g_ref18_ahead_b0 at h
     refine wp_seq (wp_seq (reg_in (sz 3 3 ?_)))
     refine bind_elim h (fun a17 q18 h=>?_)
     refine idxL' (enc:=(eL false eTharuspexref18_Walk)) (l:=p5) (n:=s1.2) (fl:=false) (w:=1) (a:=a17) kr rfl gE q18 ?_
     refine sz 1 5 ?_
     refine lenL (enc:=eTharuspexref18_Walk) (l:=a17) (fl:=false) kr gE ?_
     refine sz 2 8 (rwg [1,2,3,4,5,6,13,14,15,16,56] [0] ?_)
     refine rb [56] h (fun q20 h=>?_) (fun q20 h=>?_)
     ·refine sz 3 11 (reg_end rfl ?_)
      refine wb [58,59] h (fun q22 h=>?_) (fun q22 h=>?_)
      ·refine wcT (wp_skip (wp_seq (wp_block (sq (wp_seq (rga hfol (sy 2 2 ?_)))))))
       refine sgL false [] [] true gE ?_
       refine sy 1 4 (sy 2 6 ?_)
       refine idxL' (enc:=(eL false eTharuspexref18_Walk)) (l:=p5) (n:=s1.2) (fl:=false) (w:=1) (a:=a17) kr rfl gE q18 ?_
       refine sy 2 9 ?_
       refine bind_elim h (fun a23 q24 h=>?_)
       refine idxL' (enc:=eTharuspexref18_Walk) (l:=a17) (n:=s16.2) (fl:=false) (w:=2) (a:=a23) (S:=⟨[(1,z1 p1),(2,vI p2),(3,vI p3),(4,vI p4),(5,eL false (eL false eTharuspexref18_Walk) p5),(6,.ptr 0 0 0),(13,eL false eTharuspexref18_Walk s16.1),(14,vI s1.2),(15,vI (zw (a10*x14))),(16,vI s16.2)]++[(56,vB true),(57,vI (zw (a10*x14))),(58,vB true),(59,vB true),(17,.nils),(62,.nils),(63,vI s1.2),(64,.ref 1 0 1),(65,.ref 2 0 1),(66,eL false (eL false eTharuspexref18_Walk) p5),(67,vI s1.2)]++[(68,.fz [eL false eTharuspexref18_Walk a17]),(69,eL false eTharuspexref18_Walk a17),(70,vI s16.2),(71,.fz [z1 a23.Path,vI a23.Weight])],(s80_78 p0 s1),91⟩) kr rfl kr q24 ?_
       refine sy 2 12 ?_
       refine appR (enc:=eI) (l:=([s1.2]:(List Int))) (m:=a23.Path) (w:=1) (bytes:=8) (ob:=2) (nr:=true) (fl:=true) (nr':=true) (fl':=true) (b:=z1 a23.Path) (rds:=[]) false kr kr (elems_lst (fun _=>rfl)) rfl gE kr h (fun h=>?_)
       refine sy 1 14 (rgd (wg [1,2,3,4,5,6,13,14,15,16,17] [0,3] (reg_in (sz 5 5 ?_))))
       refine idxL' (enc:=(eL false eTharuspexref18_Walk)) (l:=p5) (n:=s1.2) (fl:=false) (w:=1) (a:=a17) kr rfl gE q18 ?_
       refine sz 2 8 ?_
       refine idxL' (enc:=eTharuspexref18_Walk) (l:=a17) (n:=s16.2) (fl:=false) (w:=2) (a:=a23) kr rfl gE q24 ?_
       refine sz 5 14 ?_
       refine callR (as0:=[eL false eTharuspexref18_Walk s16.1,.agg [.ref 1 0 ((([s1.2]:(List Int))++a23.Path).length),vI (zw ((zw (a10*x14))*a23.Weight))],vI p4]) (ids:=[1]) kr bodyB_104 (msnap_cons rfl (msnap_cons (snap_agg (msnap_cons (snap_full (w:=1) (bx:=false) (ro:=false) kr) (msnap_cons rfl msnap_nil (by rfl)) (by rfl))) (msnap_cons rfl msnap_nil (by rfl)) (by rfl)) (by rfl)) (fun x25 q26=>g_ref18_insert_ok s16.1 (Tharuspexref18_Walk.mk (([s1.2]:(List Int))++a23.Path) (zw ((zw (a10*x14))*a23.Weight))) p4 x25 q26) gF h (fun x25 q26 h=>?_)
       refine sz 1 16 (reg_end rfl ?_)
       refine wgc [1,2,3,4,5,6,13,14,15,16] [0] ⟨[(1,z1 p1),(2,vI p2),(3,vI p3),(4,vI p4),(5,eL false (eL false eTharuspexref18_Walk) p5),(6,.ptr 0 0 0),(13,eL false eTharuspexref18_Walk x25),(14,vI s1.2),(15,vI (zw (a10*x14))),(16,vI s16.2)],(s80_2 p0),91⟩ ?_
       refine rn ?_
       cases h
       exact ⟨_,rfl,(wk_gc (live:=[1,2,3,4,5,6,13,14,15,16]) (keep:=[0]) kr)⟩
      refine wcF ?_
      refine wgc [1,2,3,4,5,6,13,14] [0] ⟨[(1,z1 p1),(2,vI p2),(3,vI p3),(4,vI p4),(5,eL false (eL false eTharuspexref18_Walk) p5),(6,.ptr 0 0 0),(13,eL false eTharuspexref18_Walk s16.1),(14,vI s1.2)],(s80_2 p0),91⟩ ?_
      refine wp_exit ?_
      cases h
      exact ⟨kr,rfl⟩
     refine sz 3 11 (reg_end rfl (wcF ?_))
     refine wgc [1,2,3,4,5,6,13,14] [0] ⟨[(1,z1 p1),(2,vI p2),(3,vI p3),(4,vI p4),(5,eL false (eL false eTharuspexref18_Walk) p5),(6,.ptr 0 0 0),(13,eL false eTharuspexref18_Walk s16.1),(14,vI s1.2)],(s80_2 p0),91⟩ ?_
     refine wp_exit ?_
     cases h
     exact ⟨kr,rfl⟩
    intro x28 h out hx
    subst hx
    refine rn ?_
    cases h
    exact ⟨_,rfl,(wk_gc (live:=[1,2,3,4,5,6,13,14]) (keep:=[0]) kr)⟩
   refine wcF (wp_skip (wp_seq (rga hfol (sy 5 5 ?_))))
   refine bind_elim h (fun a29 q30 h=>?_)
   refine idxL' (enc:=eI) (l:=p1) (n:=p2) (fl:=true) (w:=1) (a:=a29) kr rfl gE q30 ?_
   refine sy 1 7 ?_
   refine callW bodyB_73 (g_ref17_Shows_ok p0 s1.2 a29) h (fun x31 _ h=>?_)
   refine sy 2 10 (rgd (wp_seq ?_))
   refine wgc [1,2,3,4,5,6,13,14,15] [0] ⟨[(1,z1 p1),(2,vI p2),(3,vI p3),(4,vI p4),(5,eL false (eL false eTharuspexref18_Walk) p5),(6,.ptr 0 0 0),(13,eL false eTharuspexref18_Walk s1.1),(14,vI s1.2),(15,vI (zw (a4*x31)))],(s80_2 p0),91⟩ ?_
   refine rn (wp_block ?_)
   refine wwh h (fun s33=>⟨[(1,z1 p1),(2,vI p2),(3,vI p3),(4,vI p4),(5,eL false (eL false eTharuspexref18_Walk) p5),(6,.ptr 0 0 0),(13,eL false eTharuspexref18_Walk s33.1),(14,vI s1.2),(15,vI (zw (a4*x31))),(16,vI s33.2)],(s80_2 p0),91⟩) (fun v out=>out=.go (.exit 2) ⟨[(1,z1 p1),(2,vI p2),(3,vI p3),(4,vI p4),(5,eL false (eL false eTharuspexref18_Walk) p5),(6,.ptr 0 0 0),(13,eL false eTharuspexref18_Walk v),(14,vI s1.2)],(s80_2 p0),91⟩) (wk_gc (live:=[1,2,3,4,5,6,13,14,15,16]) (keep:=[0]) kr) ?_ ?_
   ·intro s33 o h
    unfold g_ref18_ahead_b1 at h
    refine wp_seq (wp_seq (reg_in (sz 3 3 ?_)))
    refine bind_elim h (fun a34 q35 h=>?_)
    refine idxL' (enc:=(eL false eTharuspexref18_Walk)) (l:=p5) (n:=s1.2) (fl:=false) (w:=1) (a:=a34) kr rfl gE q35 ?_
    refine sz 1 5 ?_
    refine lenL (enc:=eTharuspexref18_Walk) (l:=a34) (fl:=false) kr gE ?_
    refine sz 2 8 (rwg [1,2,3,4,5,6,13,14,15,16,56] [0] ?_)
    refine rb [56] h (fun q37 h=>?_) (fun q37 h=>?_)
    ·refine sz 3 11 (reg_end rfl ?_)
     refine wb [58,59] h (fun q39 h=>?_) (fun q39 h=>?_)
     ·refine wcT (wp_skip (wp_seq (wp_block (sq (wp_seq (rga hfol (sy 2 2 ?_)))))))
      refine sgL false [] [] true gE ?_
      refine sy 1 4 (sy 2 6 ?_)
      refine idxL' (enc:=(eL false eTharuspexref18_Walk)) (l:=p5) (n:=s1.2) (fl:=false) (w:=1) (a:=a34) kr rfl gE q35 ?_
      refine sy 2 9 ?_
      refine bind_elim h (fun a40 q41 h=>?_)
      refine idxL' (enc:=eTharuspexref18_Walk) (l:=a34) (n:=s33.2) (fl:=false) (w:=2) (a:=a40) (S:=⟨[(1,z1 p1),(2,vI p2),(3,vI p3),(4,vI p4),(5,eL false (eL false eTharuspexref18_Walk) p5),(6,.ptr 0 0 0),(13,eL false eTharuspexref18_Walk s33.1),(14,vI s1.2),(15,vI (zw (a4*x31))),(16,vI s33.2)]++[(56,vB true),(57,vI (zw (a4*x31))),(58,vB true),(59,vB true),(17,.nils),(62,.nils),(63,vI s1.2),(64,.ref 1 0 1),(65,.ref 2 0 1),(66,eL false (eL false eTharuspexref18_Walk) p5),(67,vI s1.2)]++[(68,.fz [eL false eTharuspexref18_Walk a34]),(69,eL false eTharuspexref18_Walk a34),(70,vI s33.2),(71,.fz [z1 a40.Path,vI a40.Weight])],(s80_78 p0 s1),91⟩) kr rfl kr q41 ?_
      refine sy 2 12 ?_
      refine appR (enc:=eI) (l:=([s1.2]:(List Int))) (m:=a40.Path) (w:=1) (bytes:=8) (ob:=2) (nr:=true) (fl:=true) (nr':=true) (fl':=true) (b:=z1 a40.Path) (rds:=[]) false kr kr (elems_lst (fun _=>rfl)) rfl gE kr h (fun h=>?_)
      refine sy 1 14 (rgd (wg [1,2,3,4,5,6,13,14,15,16,17] [0,3] (reg_in (sz 5 5 ?_))))
      refine idxL' (enc:=(eL false eTharuspexref18_Walk)) (l:=p5) (n:=s1.2) (fl:=false) (w:=1) (a:=a34) kr rfl gE q35 ?_
      refine sz 2 8 ?_
      refine idxL' (enc:=eTharuspexref18_Walk) (l:=a34) (n:=s33.2) (fl:=false) (w:=2) (a:=a40) kr rfl gE q41 ?_
      refine sz 5 14 ?_
      refine callR (as0:=[eL false eTharuspexref18_Walk s33.1,.agg [.ref 1 0 ((([s1.2]:(List Int))++a40.Path).length),vI (zw ((zw (a4*x31))*a40.Weight))],vI p4]) (ids:=[1]) kr bodyB_104 (msnap_cons rfl (msnap_cons (snap_agg (msnap_cons (snap_full (w:=1) (bx:=false) (ro:=false) kr) (msnap_cons rfl msnap_nil (by rfl)) (by rfl))) (msnap_cons rfl msnap_nil (by rfl)) (by rfl)) (by rfl)) (fun x42 q43=>g_ref18_insert_ok s33.1 (Tharuspexref18_Walk.mk (([s1.2]:(List Int))++a40.Path) (zw ((zw (a4*x31))*a40.Weight))) p4 x42 q43) gF h (fun x42 q43 h=>?_)
      refine sz 1 16 (reg_end rfl ?_)
      refine wgc [1,2,3,4,5,6,13,14,15,16] [0] ⟨[(1,z1 p1),(2,vI p2),(3,vI p3),(4,vI p4),(5,eL false (eL false eTharuspexref18_Walk) p5),(6,.ptr 0 0 0),(13,eL false eTharuspexref18_Walk x42),(14,vI s1.2),(15,vI (zw (a4*x31))),(16,vI s33.2)],(s80_2 p0),91⟩ ?_
      refine rn ?_
      cases h
      exact ⟨_,rfl,(wk_gc (live:=[1,2,3,4,5,6,13,14,15,16]) (keep:=[0]) kr)⟩
     refine wcF ?_
     refine wgc [1,2,3,4,5,6,13,14] [0] ⟨[(1,z1 p1),(2,vI p2),(3,vI p3),(4,vI p4),(5,eL false (eL false eTharuspexref18_Walk) p5),(6,.ptr 0 0 0),(13,eL false eTharuspexref18_Walk s33.1),(14,vI s1.2)],(s80_2 p0),91⟩ ?_
     refine wp_exit ?_
     cases h
     exact ⟨kr,rfl⟩
    refine sz 3 11 (reg_end rfl (wcF ?_))
    refine wgc [1,2,3,4,5,6,13,14] [0] ⟨[(1,z1 p1),(2,vI p2),(3,vI p3),(4,vI p4),(5,eL false (eL false eTharuspexref18_Walk) p5),(6,.ptr 0 0 0),(13,eL false eTharuspexref18_Walk s33.1),(14,vI s1.2)],(s80_2 p0),91⟩ ?_
    refine wp_exit ?_
    cases h
    exact ⟨kr,rfl⟩
   intro x45 h out hx
   subst hx
   refine rn ?_
   cases h
   exact ⟨_,rfl,(wk_gc (live:=[1,2,3,4,5,6,13,14]) (keep:=[0]) kr)⟩
  refine wg [13] [] ?_
  refine wp_exit ?_
  cases h
  exact ⟨kr,rfl⟩
 intro x47 h out hx
 subst hx
 refine sq (wg [12] [] ?_)
 cases h
 exact wp_ret (show fnOut _ _ _ _=_ from by kernel_rfl)
noncomputable abbrev s48_45 (p0:Tapi_Hidden) (s6:(Int × (List (List Tharuspexref18_Walk)))):List AObj:=[oX true false 4 (.agg [vI p0.Grain,z1 p0.First,z2 p0.Step,z2 p0.Show]),oR false 1 (eL false eTharuspexref18_Walk) s6.2]
theorem g_ref18_All_ok (p0:Tapi_Hidden) (p1:(List Int)) (p2:Int) (x:(List Tharuspexref18_Walk)) (h:g_ref18_All p0 p1 p2=some x):CallOk Try.prog 48 [.agg [vI p0.Grain,z1 p0.First,z2 p0.Step,z2 p0.Show],z1 p1,vI p2] (.ret (eL false eTharuspexref18_Walk x) []):=by
 refine fn_ok [[.lst false]] Try.func48 rfl (by decide +kernel) rfl ?_
 unfold g_ref18_All at h
 refine wp_eqB (base':=0) (st':=⟨[(0,.agg [vI p0.Grain,z1 p0.First,z2 p0.Step,z2 p0.Show]),(1,z1 p1),(2,vI p2)],[],54⟩) kr kr ?_
 refine wp_seq (reg_in ?_)
 refine sgL false [] [] false gE ?_
 refine sz 1 2 (reg_end rfl (sq (wp_seq (sq (wp_block ?_)))))
 refine wwh h (fun s1=>⟨[(1,z1 p1),(2,vI p2),(3,.ptr 0 0 0),(7,.ref 1 0 s1.2.length),(8,vI s1.1)],[oX true false 4 (.agg [vI p0.Grain,z1 p0.First,z2 p0.Step,z2 p0.Show]),oR false 1 (eL false eTharuspexref18_Walk) s1.2],54⟩) (fun v out=>out=.go (.exit 0) ⟨[(1,z1 p1),(2,vI p2),(3,.ptr 0 0 0),(7,.ref 1 0 v.length)],[oX true false 4 (.agg [vI p0.Grain,z1 p0.First,z2 p0.Step,z2 p0.Show]),oR false 1 (eL false eTharuspexref18_Walk) v],54⟩) (wk_trans (wk_gc (live:=[1,2,3,7,8]) (keep:=[0]) (st':=⟨[(1,z1 p1),(2,vI p2),(3,.ptr 0 0 0),(7,.nils),(8,vI 0)],[oX true false 4 (.agg [vI p0.Grain,z1 p0.First,z2 p0.Step,z2 p0.Show])],54⟩) kr) (wk_trans (wk_nil 7 1 true false (st':=⟨[(1,z1 p1),(2,vI p2),(3,.ptr 0 0 0),(7,.ref 1 0 0),(8,vI 0)],[oX true false 4 (.agg [vI p0.Grain,z1 p0.First,z2 p0.Step,z2 p0.Show]),.row false false true false 1 []],54⟩) kr) (wk_gc (live:=[1,2,3,7,8]) (keep:=[0,1]) kr))) ?_ ?_
 ·intro s1 o h
  unfold g_ref18_All_b0 at h
  refine wp_seq (wp_seq (reg_in (sz 3 3 ?_)))
  refine lenL (enc:=eI) (l:=p0.First) (fl:=true) kr gE ?_
  refine sz 1 5 (reg_end rfl ?_)
  refine wbz h (fun q3 h=>?_) (fun q3 h=>?_)
  ·refine wp_skip (wp_seq (wp_block (wg [1,2,3,7,8] [0,1] (reg_in (sz 2 2 ?_)))))
   refine sgL (S:=⟨[(1,z1 p1),(2,vI p2),(3,.ptr 0 0 0),(7,.ref 1 0 s1.2.length),(8,vI s1.1),(19,.ref 1 0 s1.2.length),(20,.agg [.nils,vI 1]),(21,.ref 2 0 1)],[oX true false 4 (.agg [vI p0.Grain,z1 p0.First,z2 p0.Step,z2 p0.Show]),oR false 1 (eL false eTharuspexref18_Walk) s1.2,.row false false true false 2 [.agg [.lst true [],vI 1]]],54⟩) false [] [.lst true,.keep] false kr ?_
   refine bsR (parts:=[(0,.lst false [.agg [.lst true [],vI 1]])]) (ids:=[2]) (es:=[(2,.row false true true false 2 [.agg [.lst true [],vI 1]]),(3,.row false false true (List.all [.lst false [.agg [.lst true [],vI 1]]] AV.scs) 1 [.lst false [.agg [.lst true [],vI 1]]])]) (S:=⟨[(1,z1 p1),(2,vI p2),(3,.ptr 0 0 0),(7,.ref 1 0 s1.2.length),(8,vI s1.1),(19,.ref 1 0 s1.2.length),(20,.agg [.nils,vI 1]),(21,.ref 2 0 1),(22,.ref 3 0 1)],[oX true false 4 (.agg [vI p0.Grain,z1 p0.First,z2 p0.Step,z2 p0.Show]),oR false 1 (eL false eTharuspexref18_Walk) s1.2,.row false true true false 2 [.agg [.lst true [],vI 1]],.row false false true false 1 [.lst false [.agg [.lst true [],vI 1]]]],54⟩) [.lst false] false rfl (sparts_snap rfl (show snap _ _ _=some (_,[2]) from kr) sparts_nil (by rfl)) kr ?_
   refine appR (enc:=(eL false eTharuspexref18_Walk)) (l:=s1.2) (m:=([[(Tharuspexref18_Walk.mk [] 1)]]:(List (List Tharuspexref18_Walk)))) (w:=1) (bytes:=24) (ob:=1) (nr:=true) (fl:=false) (nr':=true) (fl':=false) (b:=.ref 3 0 1) (rds:=[3]) false kr kr kr rfl gE kr h (fun h=>?_)
   refine sz 1 6 (reg_end rfl (wg [1,2,3,7,8] [0,4] (rn ?_)))
   cases h
   exact ⟨_,rfl,(wk_gc (live:=[1,2,3,7,8]) (keep:=[0,1]) kr)⟩
  refine wg [1,2,3,7] [0,1] ?_
  refine wp_exit ?_
  cases h
  exact ⟨kr,rfl⟩
 intro x5 h out hx
 subst hx
 refine wp_seq (wp_seq (reg_in (sz 1 1 ?_)))
 refine lenL (enc:=eI) (l:=p1) (fl:=true) kr gE ?_
 refine sz 2 4 (reg_end rfl (wp_block ?_))
 refine wwh h (fun s6=>⟨[(1,z1 p1),(2,vI p2),(3,.ptr 0 0 0),(7,.ref 1 0 s6.2.length),(9,vI s6.1)],(s48_45 p0 s6),54⟩) (fun v out=>out=.go (.exit 2) ⟨[(1,z1 p1),(2,vI p2),(3,.ptr 0 0 0),(7,.ref 1 0 v.length)],[oX true false 4 (.agg [vI p0.Grain,z1 p0.First,z2 p0.Step,z2 p0.Show]),oR false 1 (eL false eTharuspexref18_Walk) v],54⟩) (wk_gc (live:=[1,2,3,7,9]) (keep:=[0,1]) kr) ?_ ?_
 ·intro s6 o h
  unfold g_ref18_All_b2 at h
  refine wp_seq (sq ?_)
  refine wb [28] h (fun q8 h=>?_) (fun q8 h=>?_)
  ·refine wcT (wp_skip (wp_seq (wp_block (sq (wp_seq ?_)))))
   refine sqN (S:=⟨[(1,z1 p1),(2,vI p2),(3,.ptr 0 0 0),(7,.ref 1 0 s6.2.length),(9,vI s6.1),(27,vI s6.1),(28,vB true),(10,.nils),(11,vI 0)],(s48_45 p0 s6),54⟩) ?_
   refine wp_block ?_
   refine wwh h (fun s9=>⟨[(1,z1 p1),(2,vI p2),(3,.ptr 0 0 0),(7,eL false (eL false eTharuspexref18_Walk) s6.2),(9,vI s6.1),(10,.ref 1 0 s9.2.length),(11,vI s9.1)],[oX true false 4 (.agg [vI p0.Grain,z1 p0.First,z2 p0.Step,z2 p0.Show]),oR false 1 (eL false eTharuspexref18_Walk) s9.2],54⟩) (fun v out=>out=.go (.exit 4) ⟨[(1,z1 p1),(2,vI p2),(3,.ptr 0 0 0),(9,vI s6.1),(10,.ref 1 0 v.length)],[oX true false 4 (.agg [vI p0.Grain,z1 p0.First,z2 p0.Step,z2 p0.Show]),oR false 1 (eL false eTharuspexref18_Walk) v],54⟩) (wk_trans (wk_gc (live:=[1,2,3,7,9,10,11]) (keep:=[0,1]) (st':=⟨[(1,z1 p1),(2,vI p2),(3,.ptr 0 0 0),(7,.ref 1 0 s6.2.length),(9,vI s6.1),(10,.nils),(11,vI 0)],(s48_45 p0 s6),54⟩) kr) (wk_trans (wk_nil 10 1 true false (st':=⟨[(1,z1 p1),(2,vI p2),(3,.ptr 0 0 0),(7,.ref 1 0 s6.2.length),(9,vI s6.1),(10,.ref 2 0 0),(11,vI 0)],[oX true false 4 (.agg [vI p0.Grain,z1 p0.First,z2 p0.Step,z2 p0.Show]),oR false 1 (eL false eTharuspexref18_Walk) s6.2,.row false false true false 1 []],54⟩) kr) (wk_trans (wk_snap (st':=⟨[(1,z1 p1),(2,vI p2),(3,.ptr 0 0 0),(7,eL false (eL false eTharuspexref18_Walk) s6.2),(9,vI s6.1),(10,.ref 2 0 0),(11,vI 0)],[oX true false 4 (.agg [vI p0.Grain,z1 p0.First,z2 p0.Step,z2 p0.Show]),.row false true true false 1 (List.map (eL false eTharuspexref18_Walk) s6.2),.row false false true false 1 []],54⟩) 7 (y:=eL false (eL false eTharuspexref18_Walk) s6.2) (ids:=[1]) rfl (snap_full (w:=1) (bx:=false) (ro:=false) kr) kr) (wk_gc (live:=[1,2,3,7,9,10,11]) (keep:=[0,2]) kr)))) ?_ ?_
   ·intro s9 o h
    unfold g_ref18_All_b1 at h
    refine wp_seq (wp_seq (reg_in (sz 3 3 ?_)))
    refine lenL (enc:=eI) (l:=p0.First) (fl:=true) kr gE ?_
    refine sz 1 5 (reg_end rfl ?_)
    refine wbz h (fun q11 h=>?_) (fun q11 h=>?_)
    ·refine wp_skip (wp_seq (wp_block (wg [1,2,3,7,9,10,11] [0,1] (reg_in (sz 7 7 ?_)))))
     refine callW bodyB_80 (g_ref18_ahead_ok p0 p1 s6.1 s9.1 p2 s6.2) h (fun x12 _ h=>?_)
     refine sgL false [] [.lst false] false gE ?_
     refine appR (enc:=(eL false eTharuspexref18_Walk)) (l:=s9.2) (m:=([x12]:(List (List Tharuspexref18_Walk)))) (w:=1) (bytes:=24) (ob:=1) (nr:=true) (fl:=false) (nr':=true) (fl':=false) (b:=.ref 2 0 1) (rds:=[2]) false kr kr kr rfl gE kr h (fun h=>?_)
     refine sz 1 11 (reg_end rfl ?_)
     refine wgc [1,2,3,7,9,10,11] [0,3] ⟨[(1,z1 p1),(2,vI p2),(3,.ptr 0 0 0),(7,eL false (eL false eTharuspexref18_Walk) s6.2),(9,vI s6.1),(10,.ref 1 0 ((s9.2++([x12]:(List (List Tharuspexref18_Walk)))).length)),(11,vI s9.1)],[oX true false 4 (.agg [vI p0.Grain,z1 p0.First,z2 p0.Step,z2 p0.Show]),oR false 1 (eL false eTharuspexref18_Walk) (s9.2++([x12]:(List (List Tharuspexref18_Walk))))],54⟩ ?_
     refine rn ?_
     cases h
     exact ⟨_,rfl,(wk_gc (live:=[1,2,3,7,9,10,11]) (keep:=[0,1]) kr)⟩
    refine wg [1,2,3,9,10] [0,1] ?_
    refine wp_exit ?_
    cases h
    exact ⟨kr,rfl⟩
   intro x15 h out hx
   subst hx
   refine rn (rn ?_)
   cases h
   exact ⟨_,rfl,(wk_gc (live:=[1,2,3,7,9]) (keep:=[0,1]) kr)⟩
  refine wcF (wg [1,2,3,7] [0,1] ?_)
  refine wp_exit ?_
  cases h
  exact ⟨kr,rfl⟩
 intro x17 h out hx
 subst hx
 refine wp_seq (reg_in (sz 4 4 ?_))
 refine callR (as0:=[.agg [vI p0.Grain,z1 p0.First,z2 p0.Step,z2 p0.Show],z1 p1,vI 0,vI (-1),vI p2,.ref 1 0 x17.length]) (ids:=[1]) kr bodyB_80 (msnap_cons (snap_agg (msnap_cons rfl (msnap_cons rfl (msnap_cons rfl (msnap_cons rfl msnap_nil (by rfl)) (by rfl)) (by rfl)) (by rfl))) (msnap_cons rfl (msnap_cons rfl (msnap_cons rfl (msnap_cons rfl (msnap_cons (snap_full (w:=1) (bx:=false) (ro:=false) kr) msnap_nil (by rfl)) (by rfl)) (by rfl)) (by rfl)) (by rfl)) (by rfl)) (fun x18 q19=>g_ref18_ahead_ok p0 p1 0 (-1) p2 x17 x18 q19) gF h (fun x18 q19 h=>?_)
 refine sz 1 6 (reg_end rfl (wg [6] [] ?_))
 cases h
 exact wp_ret (show fnOut _ _ _ _=_ from by kernel_rfl)
theorem g_ref18_Most_ok (p0:Tapi_Hidden) (p1:(List Int)) (p2:Int) (x:((List Tharuspexref18_Walk) × Int)) (h:g_ref18_Most p0 p1 p2=some x):CallOk Try.prog 18 [.agg [vI p0.Grain,z1 p0.First,z2 p0.Step,z2 p0.Show],z1 p1,vI p2] (.ret (.tup [eL false eTharuspexref18_Walk x.1,vI x.2]) []):=by
 refine fn_ok [[.lst false],[.keep]] Try.func18 rfl (by decide +kernel) rfl ?_
 unfold g_ref18_Most at h
 refine wp_eqB (base':=0) (st':=⟨[(0,.agg [vI p0.Grain,z1 p0.First,z2 p0.Step,z2 p0.Show]),(1,z1 p1),(2,vI p2)],[],25⟩) kr kr ?_
 refine wp_seq (reg_in ?_)
 refine sgL false [] [] false gE ?_
 refine sz 2 3 (reg_end rfl (wp_seq (wp_seq (reg_in (sz 2 2 ?_)))))
 refine callW bodyB_37 (g_ref17_Errors_ok p0 p1) h (fun x1 _ h=>?_)
 refine sz 1 4 (reg_end rfl (wp_seq (wg [1,2,3,8] [0] (rn ?_))))
 refine wb [13] h (fun q4 h=>?_) (fun q4 h=>?_)
 ·refine wcT (wp_seq ?_)
  refine wgc [8] [] ⟨[(8,vI x1)],[],25⟩ ?_
  refine rn (wg [6,7] [] ?_)
  cases h
  exact wp_ret (show fnOut _ _ _ _=_ from by kernel_rfl)
 refine wcF (wp_skip (wp_seq (wp_seq (reg_in (sz 3 3 ?_)))))
 refine rw_wk (wk_gc (live:=[1,2,3,17]) (keep:=[0]) (st':=⟨[(1,z1 p1),(2,vI p2),(3,.ptr 0 0 0),(17,vB (decide (p2 < 1)))],[oX true false 4 (.agg [vI p0.Grain,z1 p0.First,z2 p0.Step,z2 p0.Show])],25⟩) kr) ?_
 refine rb [17] h (fun q6 h=>?_) (fun q6 h=>?_)
 ·refine sz 3 6 (reg_end rfl (wcT (wp_seq (wg [] [] (rn (wg [6,7] [] ?_))))))
  cases h
  exact wp_ret (show fnOut _ _ _ _=_ from by kernel_rfl)
 refine sz 3 6 (reg_end rfl ?_)
 refine wb [19,20] h (fun q8 h=>?_) (fun q8 h=>?_)
 ·refine wcT (wp_seq (wg [] [] (rn (wg [6,7] [] ?_))))
  cases h
  exact wp_ret (show fnOut _ _ _ _=_ from by kernel_rfl)
 refine wcF (wp_skip (wp_seq (reg_in (sz 3 3 ?_))))
 refine callW bodyB_48 (g_ref18_All_ok p0 p1 p2) h (fun x9 _ h=>?_)
 refine sz 2 6 (reg_end rfl (wg [6,7] [] ?_))
 cases h
 exact wp_ret (show fnOut _ _ _ _=_ from by kernel_rfl)
noncomputable abbrev s4_128 (p2:(List Int)) (p3:Int) (x5:(Tapi_Hidden × Tapi_Hidden)) (s7:Int) (x12:(List Int)) (s14:Int) (x55:((List Int) × Int × Int)) (x57:((List Tharuspexref18_Walk) × Int)):List (Nat × AV):=[(2,z1 p2),(3,vI p3),(4,.ptr 0 0 0),(10,.ptr 1 0 0),(31,.agg [vI x5.1.Grain,z1 x5.1.First,z2 x5.1.Step,z2 x5.1.Show,vI x5.2.Grain,z1 x5.2.First,z2 x5.2.Step,z2 x5.2.Show]),(32,vI s7),(42,.agg [z1 x12,z1 (sub p2 0 (if 10 < (zn p2) then 10 else (zn p2)))]),(43,vI s14),(22,.ref 2 0 x55.1.length),(23,vI x55.2.1),(24,vI x55.2.2),(25,eL false eTharuspexref18_Walk x57.1),(141,vB (x55.2.2 != x57.2))]
noncomputable abbrev s4_131 (p2:(List Int)) (p3:Int) (x5:(Tapi_Hidden × Tapi_Hidden)) (s7:Int):List (Nat × AV):=[(2,z1 p2),(3,vI p3),(4,.ptr 0 0 0),(31,.agg [vI x5.1.Grain,z1 x5.1.First,z2 x5.1.Step,z2 x5.1.Show,vI x5.2.Grain,z1 x5.2.First,z2 x5.2.Step,z2 x5.2.Show]),(32,vI s7)]
noncomputable abbrev s4_158 (p2:(List Int)) (p3:Int) (x5:(Tapi_Hidden × Tapi_Hidden)) (s7:Int) (x12:(List Int)) (s14:Int) (x55:((List Int) × Int × Int)) (x57:((List Tharuspexref18_Walk) × Int)):List (Nat × AV):=[(2,z1 p2),(3,vI p3),(4,.ptr 0 0 0),(10,.ptr 1 0 0),(31,.agg [vI x5.1.Grain,z1 x5.1.First,z2 x5.1.Step,z2 x5.1.Show,vI x5.2.Grain,z1 x5.2.First,z2 x5.2.Step,z2 x5.2.Show]),(32,vI s7),(42,.agg [z1 x12,z1 (sub p2 0 (if 10 < (zn p2) then 10 else (zn p2)))]),(43,vI s14),(22,.ref 2 0 x55.1.length),(23,vI x55.2.1),(24,vI x55.2.2),(25,eL false eTharuspexref18_Walk x57.1)]++[(154,vB false),(155,vI x55.2.2),(156,vB false),(157,vB false),(158,.tup []),(159,.tup []),(160,.tup []),(161,.tup []),(162,.tup []),(163,.tup []),(164,.tup []),(165,.tup []),(166,.tup []),(167,.tup []),(168,.tup []),(169,.tup []),(170,.tup []),(171,.tup []),(172,.tup []),(173,vB false),(174,vB false)]
theorem g_law18_PathFinds_ok (p0:Tharuspexref17_Draft) (p1:Tharuspexref17_Bend) (p2:(List Int)) (p3:Int) (x:Bool) (h:g_law18_PathFinds p0 p1 p2 p3=some x):CallOk Try.prog 4 [.agg [.int .u8 p0.Grain,.int .u8 p0.States,.int .u8 p0.Shows,eL true (AV.int .u8) p0.L,eL true (AV.int .u8) p0.Seen],.agg [.int .u8 p1.What,.int .u8 p1.S,.int .u8 p1.At,vI p1.N],z1 p2,vI p3] (.ret (vB x) []):=by
 refine fn_ok [] Try.func4 rfl (by decide +kernel) rfl ?_
 unfold g_law18_PathFinds at h
 refine wp_eqB (base':=0) (st':=⟨[(0,.agg [.int .u8 p0.Grain,.int .u8 p0.States,.int .u8 p0.Shows,eL true (AV.int .u8) p0.L,eL true (AV.int .u8) p0.Seen]),(1,.agg [.int .u8 p1.What,.int .u8 p1.S,.int .u8 p1.At,vI p1.N]),(2,z1 p2),(3,vI p3)],[],177⟩) kr kr ?_
 refine wp_seq (reg_in ?_)
 refine sgL false [] [] false gE ?_
 refine sz 2 3 (reg_end rfl (wp_seq (wp_seq (reg_in ?_))))
 refine callW bodyB_11 (g_law18_wakes_ok ) h (fun x1 _ h=>?_)
 refine sz 1 2 (reg_end rfl ?_)
 refine wbz h (fun q4 h=>?_) (fun q4 h=>?_)
 ·refine wp_seq (wg [] [] (rn ?_))
  refine wgc [8] [] ⟨[(8,vB false)],[],177⟩ ?_
  cases h
  exact wp_ret (show fnOut _ _ _ _=_ from by kernel_rfl)
 refine wp_skip (wp_seq (wp_seq (wg [2,3,4,5] [0,1] (reg_in (sz 2 2 ?_)))))
 refine callW bodyB_12 (g_law18_chains_ok p0 p1) h (fun x5 _ h=>?_)
 refine sz 1 4 (reg_end rfl (wp_block ?_))
 refine wwh h (fun s7=>⟨(s4_131 p2 p3 x5 s7),[oX true false 5 (.agg [.int .u8 p0.Grain,.int .u8 p0.States,.int .u8 p0.Shows,eL true (AV.int .u8) p0.L,eL true (AV.int .u8) p0.Seen])],177⟩) (fun x out=>out=match x with | .inl v=>.go (.ret) ⟨[(8,vB false)],[],177⟩ | .inr v=>.go (.exit 0) ⟨[],[],177⟩) (wk_gc (live:=[2,3,4,31,32]) (keep:=[0]) kr) ?_ ?_
 ·intro s7 o h
  unfold g_law18_PathFinds_b3 at h
  refine sq (wp_seq ?_)
  refine wb [33] h (fun q9 h=>?_) (fun q9 h=>?_)
  ·refine wcT (wp_skip (wp_seq (wp_block (wp_seq (reg_in ?_)))))
   refine bind_elim h (fun a10 q11 h=>?_)
   refine idxA (enc:=eTapi_Hidden) (l:=([x5.1,x5.2]:(List Tapi_Hidden))) (n:=s7) (a:=a10) (w:=4) (g:=true) (v:=.agg [vI a10.Grain,z1 a10.First,z2 a10.Step,z2 a10.Show]) kr (fun _=>rfl) rfl q11 kr gE ?_
   refine sgL false [] [] false gE ?_
   refine sz 1 3 (reg_end rfl (wp_seq (rga hfol (sy 1 1 ?_))))
   refine callW bodyB_13 (fun x12 q13=>CallOk.froz (g_ref17_Draft_What_ok p0 x12 q13) (snap_full (w:=1) (bx:=false) (ro:=false) rfl)) h (fun x12 q13 h=>?_)
   refine sy 2 4 ?_
   refine lenL (enc:=eI) (l:=p2) (fl:=true) kr gE ?_
   refine sy 1 6 ?_
   refine sliceL (enc:=eI) (l:=p2) (fl:=true) (lo:=none) (hi:=(some (vI (if 10 < (zn p2) then 10 else (zn p2))))) (a:=0) (b:=(if 10 < (zn p2) then 10 else (zn p2))) (w:=1) kr (fun _=>rfl) rfl rfl gE h (fun h=>?_)
   refine sy 2 9 (rgd (wp_block ?_))
   refine wwh h (fun s14=>⟨[(2,z1 p2),(3,vI p3),(4,.ptr 0 0 0),(10,.ptr 1 0 0),(31,.agg [vI x5.1.Grain,z1 x5.1.First,z2 x5.1.Step,z2 x5.1.Show,vI x5.2.Grain,z1 x5.2.First,z2 x5.2.Step,z2 x5.2.Show]),(32,vI s7),(42,.agg [z1 x12,z1 (sub p2 0 (if 10 < (zn p2) then 10 else (zn p2)))]),(43,vI s14)],[oX true false 5 (.agg [.int .u8 p0.Grain,.int .u8 p0.States,.int .u8 p0.Shows,eL true (AV.int .u8) p0.L,eL true (AV.int .u8) p0.Seen]),oX true false 4 (.agg [vI a10.Grain,z1 a10.First,z2 a10.Step,z2 a10.Show])],177⟩) (fun x out=>out=match x with | .inl v=>.go (.ret) ⟨[(8,vB false)],[],177⟩ | .inr v=>.go (.exit 2) ⟨(s4_131 p2 p3 x5 s7),[oX true false 5 (.agg [.int .u8 p0.Grain,.int .u8 p0.States,.int .u8 p0.Shows,eL true (AV.int .u8) p0.L,eL true (AV.int .u8) p0.Seen])],177⟩) (wk_gc (live:=[2,3,4,10,31,32,42,43]) (keep:=[0,1]) kr) ?_ ?_
   ·intro s14 o h
    unfold g_law18_PathFinds_b2 at h
    refine sq (wp_seq ?_)
    refine wb [44] h (fun q16 h=>?_) (fun q16 h=>?_)
    ·refine wcT (wp_skip (wp_seq (wp_block (wp_seq (reg_in ?_)))))
     refine bind_elim h (fun a17 q18 h=>?_)
     refine idxA (enc:=z1) (l:=([x12,(sub p2 0 (if 10 < (zn p2) then 10 else (zn p2)))]:(List (List Int)))) (n:=s14) (a:=a17) (w:=1) (g:=false) (v:=z1 a17) kr (fun _=>rfl) rfl q18 kr gE ?_
     refine sz 1 2 (reg_end rfl (wp_seq (sq (wp_block ?_))))
     refine wwh h (fun s19=>⟨[(2,z1 p2),(3,vI p3),(4,.ptr 0 0 0),(10,.ptr 1 0 0),(12,z1 a17),(31,.agg [vI x5.1.Grain,z1 x5.1.First,z2 x5.1.Step,z2 x5.1.Show,vI x5.2.Grain,z1 x5.2.First,z2 x5.2.Step,z2 x5.2.Show]),(32,vI s7),(42,.agg [z1 x12,z1 (sub p2 0 (if 10 < (zn p2) then 10 else (zn p2)))]),(43,vI s14),(56,.agg [vI p3,vI (zw (1+(zw (Int.tmod (zv (p3)) 20)))),vI (if 0 < p3 then 0 else p3),vI (if 21 > p3 then 21 else p3)]),(57,vI s19)],[oX true false 5 (.agg [.int .u8 p0.Grain,.int .u8 p0.States,.int .u8 p0.Shows,eL true (AV.int .u8) p0.L,eL true (AV.int .u8) p0.Seen]),oX true false 4 (.agg [vI a10.Grain,z1 a10.First,z2 a10.Step,z2 a10.Show])],177⟩) (fun x out=>out=match x with | .inl v=>.go (.ret) ⟨[(8,vB false)],[],177⟩ | .inr v=>.go (.exit 4) ⟨[(2,z1 p2),(3,vI p3),(4,.ptr 0 0 0),(10,.ptr 1 0 0),(12,z1 a17),(31,.agg [vI x5.1.Grain,z1 x5.1.First,z2 x5.1.Step,z2 x5.1.Show,vI x5.2.Grain,z1 x5.2.First,z2 x5.2.Step,z2 x5.2.Show]),(32,vI s7),(42,.agg [z1 x12,z1 (sub p2 0 (if 10 < (zn p2) then 10 else (zn p2)))]),(43,vI s14)],[oX true false 5 (.agg [.int .u8 p0.Grain,.int .u8 p0.States,.int .u8 p0.Shows,eL true (AV.int .u8) p0.L,eL true (AV.int .u8) p0.Seen]),oX true false 4 (.agg [vI a10.Grain,z1 a10.First,z2 a10.Step,z2 a10.Show])],177⟩) (wk_gc (live:=[2,3,4,10,12,31,32,42,43,56,57]) (keep:=[0,1]) kr) ?_ ?_
     ·intro s19 o h
      unfold g_law18_PathFinds_b1 at h
      refine sq (wp_seq ?_)
      refine wb [58] h (fun q21 h=>?_) (fun q21 h=>?_)
      ·refine wcT (wp_skip (wp_seq (wp_block (wp_seq (reg_in ?_)))))
       refine bind_elim h (fun a22 q23 h=>?_)
       refine idxA (enc:=eI) (l:=([p3,zw (1+(zw (Int.tmod (zv (p3)) 20))),(if 0 < p3 then 0 else p3),(if 21 > p3 then 21 else p3)]:(List Int))) (n:=s19) (a:=a22) (w:=1) (g:=false) (v:=vI a22) kr (fun _=>rfl) rfl q23 kr gE ?_
       refine sz 1 2 (reg_end rfl (wp_seq (reg_in (sz 3 3 ?_))))
       refine callW bodyB_17 (g_path_Most_ok a10 a17 a22) h (fun x24 _ h=>?_)
       refine sz 7 11 (reg_end rfl (wp_seq ?_))
       refine wgc [2,3,4,10,12,31,32,42,43,56,57,14,15,16,17] [0,1,2,3] ⟨[(2,z1 p2),(3,vI p3),(4,.ptr 0 0 0),(10,.ptr 1 0 0),(12,z1 a17),(31,.agg [vI x5.1.Grain,z1 x5.1.First,z2 x5.1.Step,z2 x5.1.Show,vI x5.2.Grain,z1 x5.2.First,z2 x5.2.Step,z2 x5.2.Show]),(32,vI s7),(42,.agg [z1 x12,z1 (sub p2 0 (if 10 < (zn p2) then 10 else (zn p2)))]),(43,vI s14),(56,.agg [vI p3,vI (zw (1+(zw (Int.tmod (zv (p3)) 20)))),vI (if 0 < p3 then 0 else p3),vI (if 21 > p3 then 21 else p3)]),(57,vI s19),(14,vI a22),(15,.ref 2 0 x24.1.length),(16,.ref 3 0 x24.2.1.length),(17,vI x24.2.2)],[oX true false 5 (.agg [.int .u8 p0.Grain,.int .u8 p0.States,.int .u8 p0.Shows,eL true (AV.int .u8) p0.L,eL true (AV.int .u8) p0.Seen]),oX true false 4 (.agg [vI a10.Grain,z1 a10.First,z2 a10.Step,z2 a10.Show]),oR false 1 z1 x24.1,oR true 1 eI x24.2.1],177⟩ ?_
       refine reg_in (sz 3 3 ?_)
       refine callW bodyB_18 (g_ref18_Most_ok a10 a17 a22) h (fun x26 _ h=>?_)
       refine sz 5 9 (reg_end rfl (wp_seq (wp_seq (wg [2,3,4,10,12,31,32,42,43,56,57,15,16,17,18,19] [0,1,2,3] (reg_in (sz 4 4 ?_))))))
       refine rw_wk (wk_gc (live:=[2,3,4,10,12,31,32,42,43,56,57,15,16,18,78]) (keep:=[0,1,2,3]) (st':=⟨[(2,z1 p2),(3,vI p3),(4,.ptr 0 0 0),(10,.ptr 1 0 0),(12,z1 a17),(31,.agg [vI x5.1.Grain,z1 x5.1.First,z2 x5.1.Step,z2 x5.1.Show,vI x5.2.Grain,z1 x5.2.First,z2 x5.2.Step,z2 x5.2.Show]),(32,vI s7),(42,.agg [z1 x12,z1 (sub p2 0 (if 10 < (zn p2) then 10 else (zn p2)))]),(43,vI s14),(56,.agg [vI p3,vI (zw (1+(zw (Int.tmod (zv (p3)) 20)))),vI (if 0 < p3 then 0 else p3),vI (if 21 > p3 then 21 else p3)]),(57,vI s19),(15,.ref 2 0 x24.1.length),(16,.ref 3 0 x24.2.1.length),(18,eL false eTharuspexref18_Walk x26.1),(78,vB (x24.2.2 != x26.2))],[oX true false 5 (.agg [.int .u8 p0.Grain,.int .u8 p0.States,.int .u8 p0.Shows,eL true (AV.int .u8) p0.L,eL true (AV.int .u8) p0.Seen]),oX true false 4 (.agg [vI a10.Grain,z1 a10.First,z2 a10.Step,z2 a10.Show]),oR false 1 z1 x24.1,oR true 1 eI x24.2.1],177⟩) kr) ?_
       refine rb [78] h (fun q29 h=>?_) (fun q29 h=>?_)
       ·refine sz 13 17 (reg_end rfl (wcT (wp_seq (wg [] [] (rn ?_)))))
        refine wgc [8] [] ⟨[(8,vB false)],[],177⟩ ?_
        refine wp_ret ?_
        cases h
        exact ⟨kr,rfl⟩
       refine sz 3 7 ?_
       refine lenL (enc:=eTharuspexref18_Walk) (l:=x26.1) (fl:=false) kr gE ?_
       refine sz 3 11 (rwg [2,3,4,10,12,31,32,42,43,56,57,15,16,18,85] [0,1,2,3] ?_)
       refine rb [85] h (fun q31 h=>?_) (fun q31 h=>?_)
       ·refine sz 6 17 (reg_end rfl (wcT (wp_seq ?_)))
        refine wgc [] [] ⟨[],[],177⟩ ?_
        refine rn (wg [8] [] ?_)
        refine wp_ret ?_
        cases h
        exact ⟨kr,rfl⟩
       refine sz 3 14 ?_
       refine lenL (enc:=eTharuspexref18_Walk) (l:=x26.1) (fl:=false) kr gE ?_
       refine sz 2 17 (reg_end rfl ?_)
       refine wbz h (fun q33 h=>?_) (fun q33 h=>?_)
       ·refine wp_seq ?_
        refine wgc [] [] ⟨[],[],177⟩ ?_
        refine rn (wg [8] [] ?_)
        refine wp_ret ?_
        cases h
        exact ⟨kr,rfl⟩
       refine wp_skip (wp_seq ?_)
       refine wgc [2,3,4,10,12,31,32,42,43,56,57,15,16,18] [0,1,2,3] ⟨[(2,z1 p2),(3,vI p3),(4,.ptr 0 0 0),(10,.ptr 1 0 0),(12,z1 a17),(31,.agg [vI x5.1.Grain,z1 x5.1.First,z2 x5.1.Step,z2 x5.1.Show,vI x5.2.Grain,z1 x5.2.First,z2 x5.2.Step,z2 x5.2.Show]),(32,vI s7),(42,.agg [z1 x12,z1 (sub p2 0 (if 10 < (zn p2) then 10 else (zn p2)))]),(43,vI s14),(56,.agg [vI p3,vI (zw (1+(zw (Int.tmod (zv (p3)) 20)))),vI (if 0 < p3 then 0 else p3),vI (if 21 > p3 then 21 else p3)]),(57,vI s19),(15,.ref 2 0 x24.1.length),(16,.ref 3 0 x24.2.1.length),(18,eL false eTharuspexref18_Walk x26.1)],[oX true false 5 (.agg [.int .u8 p0.Grain,.int .u8 p0.States,.int .u8 p0.Shows,eL true (AV.int .u8) p0.L,eL true (AV.int .u8) p0.Seen]),oX true false 4 (.agg [vI a10.Grain,z1 a10.First,z2 a10.Step,z2 a10.Show]),oR false 1 z1 x24.1,oR true 1 eI x24.2.1],177⟩ ?_
       refine reg_in (sz 1 1 ?_)
       refine lenL (enc:=eTharuspexref18_Walk) (l:=x26.1) (fl:=false) kr gE ?_
       refine sz 1 3 (reg_end rfl (wp_block ?_))
       refine wwh h (fun s34=>⟨[(2,z1 p2),(3,vI p3),(4,.ptr 0 0 0),(10,.ptr 1 0 0),(12,z1 a17),(15,.ref 2 0 x24.1.length),(16,.ref 3 0 x24.2.1.length),(31,.agg [vI x5.1.Grain,z1 x5.1.First,z2 x5.1.Step,z2 x5.1.Show,vI x5.2.Grain,z1 x5.2.First,z2 x5.2.Step,z2 x5.2.Show]),(32,vI s7),(42,.agg [z1 x12,z1 (sub p2 0 (if 10 < (zn p2) then 10 else (zn p2)))]),(43,vI s14),(56,.agg [vI p3,vI (zw (1+(zw (Int.tmod (zv (p3)) 20)))),vI (if 0 < p3 then 0 else p3),vI (if 21 > p3 then 21 else p3)]),(57,vI s19),(92,eL false eTharuspexref18_Walk x26.1),(93,vI (zn x26.1)),(94,vI s34)],[oX true false 5 (.agg [.int .u8 p0.Grain,.int .u8 p0.States,.int .u8 p0.Shows,eL true (AV.int .u8) p0.L,eL true (AV.int .u8) p0.Seen]),oX true false 4 (.agg [vI a10.Grain,z1 a10.First,z2 a10.Step,z2 a10.Show]),oR false 1 z1 x24.1,oR true 1 eI x24.2.1],177⟩) (fun x out=>out=match x with | .inl v=>.go (.ret) ⟨[(8,vB false)],[],177⟩ | .inr v=>.go (.exit 6) ⟨[(2,z1 p2),(3,vI p3),(4,.ptr 0 0 0),(10,.ptr 1 0 0),(12,z1 a17),(31,.agg [vI x5.1.Grain,z1 x5.1.First,z2 x5.1.Step,z2 x5.1.Show,vI x5.2.Grain,z1 x5.2.First,z2 x5.2.Step,z2 x5.2.Show]),(32,vI s7),(42,.agg [z1 x12,z1 (sub p2 0 (if 10 < (zn p2) then 10 else (zn p2)))]),(43,vI s14),(56,.agg [vI p3,vI (zw (1+(zw (Int.tmod (zv (p3)) 20)))),vI (if 0 < p3 then 0 else p3),vI (if 21 > p3 then 21 else p3)]),(57,vI s19)],[oX true false 5 (.agg [.int .u8 p0.Grain,.int .u8 p0.States,.int .u8 p0.Shows,eL true (AV.int .u8) p0.L,eL true (AV.int .u8) p0.Seen]),oX true false 4 (.agg [vI a10.Grain,z1 a10.First,z2 a10.Step,z2 a10.Show])],177⟩) (wk_gc (live:=[2,3,4,10,12,15,16,31,32,42,43,56,57,92,93,94]) (keep:=[0,1,2,3]) kr) ?_ ?_
       ·intro s34 o h
        unfold g_law18_PathFinds_b0 at h
        refine sq (wp_seq ?_)
        refine wb [95] h (fun q36 h=>?_) (fun q36 h=>?_)
        ·refine wcT (wp_skip (wp_seq (wp_block (wp_seq (reg_in (sz 1 1 ?_))))))
         refine bind_elim h (fun a37 q38 h=>?_)
         refine idxL' (enc:=eTharuspexref18_Walk) (l:=x26.1) (n:=s34) (fl:=false) (w:=2) (a:=a37) kr rfl gE q38 ?_
         refine sz 1 3 ?_
         refine sgL false [] [] false gE ?_
         refine sz 2 6 (reg_end rfl (wp_seq (rga hfol (sy 2 2 ?_))))
         refine bind_elim h (fun a39 q40 h=>?_)
         refine idxR' (enc:=z1) (l:=x24.1) (n:=s34) (w:=1) (ob:=2) (ro:=false) (nr:=true) (fl:=false) (a:=a39) kr kr gE q40 ?_
         refine loadR (enc:=z1) (l:=x24.1) (n:=s34) (w:=1) (ob:=2) (c:=0) (bx:=false) (ro:=false) (nr:=true) (fl:=false) (a:=a39) kr kr q40 gE ?_
         refine sy 2 6 ?_
         refine callW bodyB_19 (g_slices_Equal_int_int_ok a39 a37.Path) h (fun x41 _ h=>?_)
         refine sy 2 9 ?_
         refine rb [106,107] h (fun q44 h=>?_) (fun q44 h=>?_)
         ·refine sgy 8 17 (S:=⟨[(2,z1 p2),(3,vI p3),(4,.ptr 0 0 0),(10,.ptr 1 0 0),(12,z1 a17),(15,.ref 2 0 x24.1.length),(16,.ref 3 0 x24.2.1.length),(31,.agg [vI x5.1.Grain,z1 x5.1.First,z2 x5.1.Step,z2 x5.1.Show,vI x5.2.Grain,z1 x5.2.First,z2 x5.2.Step,z2 x5.2.Show]),(32,vI s7),(42,.agg [z1 x12,z1 (sub p2 0 (if 10 < (zn p2) then 10 else (zn p2)))]),(43,vI s14),(56,.agg [vI p3,vI (zw (1+(zw (Int.tmod (zv (p3)) 20)))),vI (if 0 < p3 then 0 else p3),vI (if 21 > p3 then 21 else p3)]),(57,vI s19),(92,eL false eTharuspexref18_Walk x26.1),(93,vI (zn x26.1)),(94,vI s34)]++[(95,vB true),(96,vI s34),(97,.fz [z1 a37.Path,vI a37.Weight]),(98,.agg [z1 a37.Path,vI a37.Weight]),(21,.ptr 4 0 0),(20,vI s34),(99,.ref 2 0 x24.1.length),(100,vI s34)]++[(101,.ptr 2 (zt s34) 0),(102,z1 a39),(103,.ptr 4 0 0),(104,z1 a37.Path),(105,vB x41),(106,vB true),(107,vB true),(108,.tup []),(109,.tup []),(110,.tup []),(111,.tup []),(112,.tup []),(113,.tup []),(114,.tup []),(115,vB true)],[oX true false 5 (.agg [.int .u8 p0.Grain,.int .u8 p0.States,.int .u8 p0.Shows,eL true (AV.int .u8) p0.L,eL true (AV.int .u8) p0.Seen]),oX true false 4 (.agg [vI a10.Grain,z1 a10.First,z2 a10.Step,z2 a10.Show]),oR false 1 z1 x24.1,oR true 1 eI x24.2.1,oX true false 2 (.agg [z1 a37.Path,vI a37.Weight])],177⟩) ?_
          refine rgd (wcT (wp_seq (wg [] [] (rn (wg [8] [] ?_)))))
          refine wp_ret ?_
          cases h
          exact ⟨kr,rfl⟩
         refine sy 2 11 ?_
         refine bind_elim h (fun a45 q46 h=>?_)
         refine idxR' (enc:=eI) (l:=x24.2.1) (n:=s34) (w:=1) (ob:=3) (ro:=false) (nr:=true) (fl:=true) (a:=a45) kr kr gE q46 ?_
         refine loadR (enc:=eI) (l:=x24.2.1) (n:=s34) (w:=1) (ob:=3) (c:=0) (bx:=false) (ro:=false) (nr:=true) (fl:=true) (a:=a45) kr kr q46 gE ?_
         refine sgy 4 17 (S:=⟨[(2,z1 p2),(3,vI p3),(4,.ptr 0 0 0),(10,.ptr 1 0 0),(12,z1 a17),(15,.ref 2 0 x24.1.length),(16,.ref 3 0 x24.2.1.length),(31,.agg [vI x5.1.Grain,z1 x5.1.First,z2 x5.1.Step,z2 x5.1.Show,vI x5.2.Grain,z1 x5.2.First,z2 x5.2.Step,z2 x5.2.Show]),(32,vI s7),(42,.agg [z1 x12,z1 (sub p2 0 (if 10 < (zn p2) then 10 else (zn p2)))]),(43,vI s14),(56,.agg [vI p3,vI (zw (1+(zw (Int.tmod (zv (p3)) 20)))),vI (if 0 < p3 then 0 else p3),vI (if 21 > p3 then 21 else p3)]),(57,vI s19),(92,eL false eTharuspexref18_Walk x26.1),(93,vI (zn x26.1)),(94,vI s34)]++[(95,vB true),(96,vI s34),(97,.fz [z1 a37.Path,vI a37.Weight]),(98,.agg [z1 a37.Path,vI a37.Weight]),(21,.ptr 4 0 0),(20,vI s34),(99,.ref 2 0 x24.1.length),(100,vI s34)]++[(101,.ptr 2 (zt s34) 0),(102,z1 a39),(103,.ptr 4 0 0),(104,z1 a37.Path),(105,vB x41),(106,vB false),(107,vB false),(108,.ref 3 0 x24.2.1.length),(109,vI s34)]++[(110,.ptr 3 (zt s34) 0),(111,vI a45),(112,.ptr 4 0 1),(113,vI a37.Weight),(114,vB (a45 != a37.Weight)),(115,vB (a45 != a37.Weight))],[oX true false 5 (.agg [.int .u8 p0.Grain,.int .u8 p0.States,.int .u8 p0.Shows,eL true (AV.int .u8) p0.L,eL true (AV.int .u8) p0.Seen]),oX true false 4 (.agg [vI a10.Grain,z1 a10.First,z2 a10.Step,z2 a10.Show]),oR false 1 z1 x24.1,oR true 1 eI x24.2.1,oX true false 2 (.agg [z1 a37.Path,vI a37.Weight])],177⟩) ?_
         refine rgd ?_
         refine wbz h (fun q48 h=>?_) (fun q48 h=>?_)
         ·refine wp_seq (wg [] [] (rn (wg [8] [] ?_)))
          refine wp_ret ?_
          cases h
          exact ⟨kr,rfl⟩
         refine wp_skip (wg [2,3,4,10,12,15,16,31,32,42,43,56,57,92,93,94] [0,1,2,3] (rn ?_))
         cases h
         exact ⟨_,rfl,(wk_gc (live:=[2,3,4,10,12,15,16,31,32,42,43,56,57,92,93,94]) (keep:=[0,1,2,3]) kr)⟩
        refine wcF (wg [2,3,4,10,12,31,32,42,43,56,57] [0,1] ?_)
        refine wp_exit ?_
        cases h
        exact ⟨kr,rfl⟩
       intro x49 h out hx
       subst hx
       rcases x49 with x50 | x51
       ·dsimp only at h ⊢
        cases h
        exact ⟨kr,rfl⟩
       ·dsimp only at h ⊢
        refine rn ?_
        cases h
        exact ⟨_,rfl,(wk_gc (live:=[2,3,4,10,12,31,32,42,43,56,57]) (keep:=[0,1]) kr)⟩
      refine wcF (wg [2,3,4,10,12,31,32,42,43] [0,1] ?_)
      refine wp_exit ?_
      cases h
      exact ⟨kr,rfl⟩
     intro x52 h out hx
     subst hx
     rcases x52 with x53 | x54
     ·dsimp only at h ⊢
      cases h
      exact ⟨kr,rfl⟩
     ·dsimp only at h ⊢
      refine wp_seq (reg_in (sz 2 2 ?_))
      refine callW bodyB_20 (g_path_Best_ok a10 a17) h (fun x55 _ h=>?_)
      refine sz 7 10 (reg_end rfl (wp_seq (wg [2,3,4,10,12,31,32,42,43,22,23,24] [0,1,2] (reg_in (sz 2 2 ?_)))))
      refine callW bodyB_18 (g_ref18_Most_ok a10 a17 1) h (fun x57 _ h=>?_)
      refine sz 5 8 (reg_end rfl (wp_seq (wp_seq ?_)))
      refine wgc [2,3,4,10,31,32,42,43,22,23,24,25,26] [0,1,2] ⟨[(2,z1 p2),(3,vI p3),(4,.ptr 0 0 0),(10,.ptr 1 0 0),(31,.agg [vI x5.1.Grain,z1 x5.1.First,z2 x5.1.Step,z2 x5.1.Show,vI x5.2.Grain,z1 x5.2.First,z2 x5.2.Step,z2 x5.2.Show]),(32,vI s7),(42,.agg [z1 x12,z1 (sub p2 0 (if 10 < (zn p2) then 10 else (zn p2)))]),(43,vI s14),(22,.ref 2 0 x55.1.length),(23,vI x55.2.1),(24,vI x55.2.2),(25,eL false eTharuspexref18_Walk x57.1),(26,vI x57.2)],[oX true false 5 (.agg [.int .u8 p0.Grain,.int .u8 p0.States,.int .u8 p0.Shows,eL true (AV.int .u8) p0.L,eL true (AV.int .u8) p0.Seen]),oX true false 4 (.agg [vI a10.Grain,z1 a10.First,z2 a10.Step,z2 a10.Show]),oR true 1 eI x55.1],177⟩ ?_
      refine reg_in (sz 3 3 ?_)
      refine rb [132,133] h (fun q60 h=>?_) (fun q60 h=>?_)
      ·refine sz 1 4 ?_
       refine lenL (enc:=eTharuspexref18_Walk) (l:=x57.1) (fl:=false) kr gE ?_
       refine sz 2 7 (reg_end rfl ?_)
       refine wbz h (fun q62 h=>?_) (fun q62 h=>?_)
       ·refine wg [2,3,4,10,31,32,42,43,22,23,24,25] [0,1,2] (rn (wp_seq (reg_in (sz 4 4 ?_))))
        refine rw_wk (wk_gc (live:=[2,3,4,10,31,32,42,43,22,23,24,25,141]) (keep:=[0,1,2]) (st':=⟨[(2,z1 p2),(3,vI p3),(4,.ptr 0 0 0),(10,.ptr 1 0 0),(31,.agg [vI x5.1.Grain,z1 x5.1.First,z2 x5.1.Step,z2 x5.1.Show,vI x5.2.Grain,z1 x5.2.First,z2 x5.2.Step,z2 x5.2.Show]),(32,vI s7),(42,.agg [z1 x12,z1 (sub p2 0 (if 10 < (zn p2) then 10 else (zn p2)))]),(43,vI s14),(22,.ref 2 0 x55.1.length),(23,vI x55.2.1),(24,vI x55.2.2),(25,eL false eTharuspexref18_Walk x57.1),(141,vB (x55.2.2 != 7))],[oX true false 5 (.agg [.int .u8 p0.Grain,.int .u8 p0.States,.int .u8 p0.Shows,eL true (AV.int .u8) p0.L,eL true (AV.int .u8) p0.Seen]),oX true false 4 (.agg [vI a10.Grain,z1 a10.First,z2 a10.Step,z2 a10.Show]),oR true 1 eI x55.1],177⟩) kr) ?_
        refine rb [141] h (fun q64 h=>?_) (fun q64 h=>?_)
        ·refine sz 33 37 (reg_end rfl (wcT (wp_seq ?_)))
         refine wgc [] [] ⟨[],[],177⟩ ?_
         refine rn (wg [8] [] ?_)
         refine wp_ret ?_
         cases h
         exact ⟨kr,rfl⟩
        refine sz 3 7 ?_
        refine rb [143,144] h (fun q66 h=>?_) (fun q66 h=>?_)
        ·refine sz 4 11 (rwg [2,3,4,10,31,32,42,43,22,23,24,25,141,144,148] [0,1,2] ?_)
         refine rb [148] h (fun q68 h=>?_) (fun q68 h=>?_)
         ·refine sz 26 37 (reg_end rfl (wcT (wp_seq ?_)))
          refine wgc [] [] ⟨[],[],177⟩ ?_
          refine rn (wg [8] [] ?_)
          refine wp_ret ?_
          cases h
          exact ⟨kr,rfl⟩
         refine sz 6 17 (rwg [2,3,4,10,31,32,42,43,22,23,24,25,154] [0,1,2] ?_)
         refine rb [154] h (fun q70 h=>?_) (fun q70 h=>?_)
         ·refine sz 20 37 (reg_end rfl (wcT (wp_seq ?_)))
          refine wgc [] [] ⟨[],[],177⟩ ?_
          refine rn (wg [8] [] ?_)
          refine wp_ret ?_
          cases h
          exact ⟨kr,rfl⟩
         refine sz 3 20 ?_
         refine rk [156,157] (ne_eq q66) ?_
         refine sgz 17 37 (S:=⟨(s4_158 p2 p3 x5 s7 x12 s14 x55 x57),[oX true false 5 (.agg [.int .u8 p0.Grain,.int .u8 p0.States,.int .u8 p0.Shows,eL true (AV.int .u8) p0.L,eL true (AV.int .u8) p0.Seen]),oX true false 4 (.agg [vI a10.Grain,z1 a10.First,z2 a10.Step,z2 a10.Show]),oR true 1 eI x55.1],177⟩) ?_
         refine reg_end rfl (wcF (wp_skip (wg [2,3,4,10,31,32,42,43] [0,1] (rn ?_))))
         cases h
         exact ⟨_,rfl,(wk_gc (live:=[2,3,4,10,31,32,42,43]) (keep:=[0,1]) kr)⟩
        refine sz 13 20 ?_
        refine rk [156,157] (ne_eq q66) ?_
        refine sz 2 22 ?_
        refine bind_elim h (fun a73 q74 h=>?_)
        refine idxL' (enc:=eTharuspexref18_Walk) (l:=x57.1) (n:=0) (fl:=false) (w:=2) (a:=a73) kr rfl gE q74 ?_
        refine sz 2 25 ?_
        refine callR (as0:=[.ref 2 0 x55.1.length,z1 a73.Path]) (ids:=[2]) kr bodyB_19 (msnap_cons (snap_full (w:=1) (bx:=false) (ro:=false) kr) (msnap_cons rfl msnap_nil (by rfl)) (by rfl)) (fun x75 q76=>g_slices_Equal_int_int_ok x55.1 a73.Path x75 q76) gF h (fun x75 q76 h=>?_)
        refine sz 2 28 ?_
        refine rw_wk (wk_gc (live:=[2,3,4,10,31,32,42,43,23,25,154,157,165]) (keep:=[0,1]) (st':=⟨[(2,z1 p2),(3,vI p3),(4,.ptr 0 0 0),(10,.ptr 1 0 0),(31,.agg [vI x5.1.Grain,z1 x5.1.First,z2 x5.1.Step,z2 x5.1.Show,vI x5.2.Grain,z1 x5.2.First,z2 x5.2.Step,z2 x5.2.Show]),(32,vI s7),(42,.agg [z1 x12,z1 (sub p2 0 (if 10 < (zn p2) then 10 else (zn p2)))]),(43,vI s14),(23,vI x55.2.1),(25,eL false eTharuspexref18_Walk x57.1),(154,vB false),(157,vB true),(165,vB (!x75))],[oX true false 5 (.agg [.int .u8 p0.Grain,.int .u8 p0.States,.int .u8 p0.Shows,eL true (AV.int .u8) p0.L,eL true (AV.int .u8) p0.Seen]),oX true false 4 (.agg [vI a10.Grain,z1 a10.First,z2 a10.Step,z2 a10.Show])],177⟩) kr) ?_
        refine rb [165] h (fun q78 h=>?_) (fun q78 h=>?_)
        ·refine sz 9 37 (reg_end rfl (wcT (wp_seq (wg [] [] (rn (wg [8] [] ?_))))))
         refine wp_ret ?_
         cases h
         exact ⟨kr,rfl⟩
        refine sz 2 30 ?_
        refine idxL' (enc:=eTharuspexref18_Walk) (l:=x57.1) (n:=0) (fl:=false) (w:=2) (a:=a73) kr rfl gE q74 ?_
        refine sz 6 37 (reg_end rfl ?_)
        refine wbz h (fun q80 h=>?_) (fun q80 h=>?_)
        ·refine wp_seq (wg [] [] (rn (wg [8] [] ?_)))
         refine wp_ret ?_
         cases h
         exact ⟨kr,rfl⟩
        refine wp_skip (wg [2,3,4,10,31,32,42,43] [0,1] (rn ?_))
        cases h
        exact ⟨_,rfl,(wk_gc (live:=[2,3,4,10,31,32,42,43]) (keep:=[0,1]) kr)⟩
       refine wp_skip (wp_seq (wg [2,3,4,10,31,32,42,43,22,23,24,25,26] [0,1,2] (reg_in (sz 4 4 ?_))))
       refine rw_wk (wk_gc (live:=[2,3,4,10,31,32,42,43,22,23,24,25,141]) (keep:=[0,1,2]) (st':=⟨(s4_128 p2 p3 x5 s7 x12 s14 x55 x57),[oX true false 5 (.agg [.int .u8 p0.Grain,.int .u8 p0.States,.int .u8 p0.Shows,eL true (AV.int .u8) p0.L,eL true (AV.int .u8) p0.Seen]),oX true false 4 (.agg [vI a10.Grain,z1 a10.First,z2 a10.Step,z2 a10.Show]),oR true 1 eI x55.1],177⟩) kr) ?_
       refine rb [141] h (fun q82 h=>?_) (fun q82 h=>?_)
       ·refine sz 33 37 (reg_end rfl (wcT (wp_seq ?_)))
        refine wgc [] [] ⟨[],[],177⟩ ?_
        refine rn (wg [8] [] ?_)
        refine wp_ret ?_
        cases h
        exact ⟨kr,rfl⟩
       refine sz 3 7 ?_
       refine rb [143,144] h (fun q84 h=>?_) (fun q84 h=>?_)
       ·refine sz 4 11 (rwg [2,3,4,10,31,32,42,43,22,23,24,25,141,144,148] [0,1,2] ?_)
        refine rb [148] h (fun q86 h=>?_) (fun q86 h=>?_)
        ·refine sz 26 37 (reg_end rfl (wcT (wp_seq ?_)))
         refine wgc [] [] ⟨[],[],177⟩ ?_
         refine rn (wg [8] [] ?_)
         refine wp_ret ?_
         cases h
         exact ⟨kr,rfl⟩
        refine sz 6 17 (rwg [2,3,4,10,31,32,42,43,22,23,24,25,154] [0,1,2] ?_)
        refine rb [154] h (fun q88 h=>?_) (fun q88 h=>?_)
        ·refine sz 20 37 (reg_end rfl (wcT (wp_seq ?_)))
         refine wgc [] [] ⟨[],[],177⟩ ?_
         refine rn (wg [8] [] ?_)
         refine wp_ret ?_
         cases h
         exact ⟨kr,rfl⟩
        refine sz 3 20 ?_
        refine rk [156,157] (ne_eq q84) ?_
        refine sgz 17 37 (S:=⟨(s4_158 p2 p3 x5 s7 x12 s14 x55 x57),[oX true false 5 (.agg [.int .u8 p0.Grain,.int .u8 p0.States,.int .u8 p0.Shows,eL true (AV.int .u8) p0.L,eL true (AV.int .u8) p0.Seen]),oX true false 4 (.agg [vI a10.Grain,z1 a10.First,z2 a10.Step,z2 a10.Show]),oR true 1 eI x55.1],177⟩) ?_
        refine reg_end rfl (wcF (wp_skip (wg [2,3,4,10,31,32,42,43] [0,1] (rn ?_))))
        cases h
        exact ⟨_,rfl,(wk_gc (live:=[2,3,4,10,31,32,42,43]) (keep:=[0,1]) kr)⟩
       refine sz 13 20 ?_
       refine rk [156,157] (ne_eq q84) ?_
       refine sz 2 22 ?_
       refine bind_elim h (fun a91 q92 h=>?_)
       refine idxL' (enc:=eTharuspexref18_Walk) (l:=x57.1) (n:=0) (fl:=false) (w:=2) (a:=a91) kr rfl gE q92 ?_
       refine sz 2 25 ?_
       refine callR (as0:=[.ref 2 0 x55.1.length,z1 a91.Path]) (ids:=[2]) kr bodyB_19 (msnap_cons (snap_full (w:=1) (bx:=false) (ro:=false) kr) (msnap_cons rfl msnap_nil (by rfl)) (by rfl)) (fun x93 q94=>g_slices_Equal_int_int_ok x55.1 a91.Path x93 q94) gF h (fun x93 q94 h=>?_)
       refine sz 2 28 ?_
       refine rw_wk (wk_gc (live:=[2,3,4,10,31,32,42,43,23,25,154,157,165]) (keep:=[0,1]) (st':=⟨[(2,z1 p2),(3,vI p3),(4,.ptr 0 0 0),(10,.ptr 1 0 0),(31,.agg [vI x5.1.Grain,z1 x5.1.First,z2 x5.1.Step,z2 x5.1.Show,vI x5.2.Grain,z1 x5.2.First,z2 x5.2.Step,z2 x5.2.Show]),(32,vI s7),(42,.agg [z1 x12,z1 (sub p2 0 (if 10 < (zn p2) then 10 else (zn p2)))]),(43,vI s14),(23,vI x55.2.1),(25,eL false eTharuspexref18_Walk x57.1),(154,vB false),(157,vB true),(165,vB (!x93))],[oX true false 5 (.agg [.int .u8 p0.Grain,.int .u8 p0.States,.int .u8 p0.Shows,eL true (AV.int .u8) p0.L,eL true (AV.int .u8) p0.Seen]),oX true false 4 (.agg [vI a10.Grain,z1 a10.First,z2 a10.Step,z2 a10.Show])],177⟩) kr) ?_
       refine rb [165] h (fun q96 h=>?_) (fun q96 h=>?_)
       ·refine sz 9 37 (reg_end rfl (wcT (wp_seq (wg [] [] (rn (wg [8] [] ?_))))))
        refine wp_ret ?_
        cases h
        exact ⟨kr,rfl⟩
       refine sz 2 30 ?_
       refine idxL' (enc:=eTharuspexref18_Walk) (l:=x57.1) (n:=0) (fl:=false) (w:=2) (a:=a91) kr rfl gE q92 ?_
       refine sz 6 37 (reg_end rfl ?_)
       refine wbz h (fun q98 h=>?_) (fun q98 h=>?_)
       ·refine wp_seq (wg [] [] (rn (wg [8] [] ?_)))
        refine wp_ret ?_
        cases h
        exact ⟨kr,rfl⟩
       refine wp_skip (wg [2,3,4,10,31,32,42,43] [0,1] (rn ?_))
       cases h
       exact ⟨_,rfl,(wk_gc (live:=[2,3,4,10,31,32,42,43]) (keep:=[0,1]) kr)⟩
      refine sz 4 7 (reg_end rfl (wcF (wp_skip (wp_seq (wg [2,3,4,10,31,32,42,43,22,23,24,25,26] [0,1,2] (reg_in (sz 4 4 ?_)))))))
      refine rw_wk (wk_gc (live:=[2,3,4,10,31,32,42,43,22,23,24,25,141]) (keep:=[0,1,2]) (st':=⟨(s4_128 p2 p3 x5 s7 x12 s14 x55 x57),[oX true false 5 (.agg [.int .u8 p0.Grain,.int .u8 p0.States,.int .u8 p0.Shows,eL true (AV.int .u8) p0.L,eL true (AV.int .u8) p0.Seen]),oX true false 4 (.agg [vI a10.Grain,z1 a10.First,z2 a10.Step,z2 a10.Show]),oR true 1 eI x55.1],177⟩) kr) ?_
      refine rb [141] h (fun q100 h=>?_) (fun q100 h=>?_)
      ·refine sz 33 37 (reg_end rfl (wcT (wp_seq ?_)))
       refine wgc [] [] ⟨[],[],177⟩ ?_
       refine rn (wg [8] [] ?_)
       refine wp_ret ?_
       cases h
       exact ⟨kr,rfl⟩
      refine sz 3 7 ?_
      refine rb [143,144] h (fun q102 h=>?_) (fun q102 h=>?_)
      ·refine sz 4 11 (rwg [2,3,4,10,31,32,42,43,22,23,24,25,141,144,148] [0,1,2] ?_)
       refine rb [148] h (fun q104 h=>?_) (fun q104 h=>?_)
       ·refine sz 26 37 (reg_end rfl (wcT (wp_seq ?_)))
        refine wgc [] [] ⟨[],[],177⟩ ?_
        refine rn (wg [8] [] ?_)
        refine wp_ret ?_
        cases h
        exact ⟨kr,rfl⟩
       refine sz 6 17 (rwg [2,3,4,10,31,32,42,43,22,23,24,25,154] [0,1,2] ?_)
       refine rb [154] h (fun q106 h=>?_) (fun q106 h=>?_)
       ·refine sz 20 37 (reg_end rfl (wcT (wp_seq ?_)))
        refine wgc [] [] ⟨[],[],177⟩ ?_
        refine rn (wg [8] [] ?_)
        refine wp_ret ?_
        cases h
        exact ⟨kr,rfl⟩
       refine sz 3 20 ?_
       refine rk [156,157] (ne_eq q102) ?_
       refine sgz 17 37 (S:=⟨(s4_158 p2 p3 x5 s7 x12 s14 x55 x57),[oX true false 5 (.agg [.int .u8 p0.Grain,.int .u8 p0.States,.int .u8 p0.Shows,eL true (AV.int .u8) p0.L,eL true (AV.int .u8) p0.Seen]),oX true false 4 (.agg [vI a10.Grain,z1 a10.First,z2 a10.Step,z2 a10.Show]),oR true 1 eI x55.1],177⟩) ?_
       refine reg_end rfl (wcF (wp_skip (wg [2,3,4,10,31,32,42,43] [0,1] (rn ?_))))
       cases h
       exact ⟨_,rfl,(wk_gc (live:=[2,3,4,10,31,32,42,43]) (keep:=[0,1]) kr)⟩
      refine sz 13 20 ?_
      refine rk [156,157] (ne_eq q102) ?_
      refine sz 2 22 ?_
      refine bind_elim h (fun a109 q110 h=>?_)
      refine idxL' (enc:=eTharuspexref18_Walk) (l:=x57.1) (n:=0) (fl:=false) (w:=2) (a:=a109) kr rfl gE q110 ?_
      refine sz 2 25 ?_
      refine callR (as0:=[.ref 2 0 x55.1.length,z1 a109.Path]) (ids:=[2]) kr bodyB_19 (msnap_cons (snap_full (w:=1) (bx:=false) (ro:=false) kr) (msnap_cons rfl msnap_nil (by rfl)) (by rfl)) (fun x111 q112=>g_slices_Equal_int_int_ok x55.1 a109.Path x111 q112) gF h (fun x111 q112 h=>?_)
      refine sz 2 28 ?_
      refine rw_wk (wk_gc (live:=[2,3,4,10,31,32,42,43,23,25,154,157,165]) (keep:=[0,1]) (st':=⟨[(2,z1 p2),(3,vI p3),(4,.ptr 0 0 0),(10,.ptr 1 0 0),(31,.agg [vI x5.1.Grain,z1 x5.1.First,z2 x5.1.Step,z2 x5.1.Show,vI x5.2.Grain,z1 x5.2.First,z2 x5.2.Step,z2 x5.2.Show]),(32,vI s7),(42,.agg [z1 x12,z1 (sub p2 0 (if 10 < (zn p2) then 10 else (zn p2)))]),(43,vI s14),(23,vI x55.2.1),(25,eL false eTharuspexref18_Walk x57.1),(154,vB false),(157,vB true),(165,vB (!x111))],[oX true false 5 (.agg [.int .u8 p0.Grain,.int .u8 p0.States,.int .u8 p0.Shows,eL true (AV.int .u8) p0.L,eL true (AV.int .u8) p0.Seen]),oX true false 4 (.agg [vI a10.Grain,z1 a10.First,z2 a10.Step,z2 a10.Show])],177⟩) kr) ?_
      refine rb [165] h (fun q114 h=>?_) (fun q114 h=>?_)
      ·refine sz 9 37 (reg_end rfl (wcT (wp_seq (wg [] [] (rn (wg [8] [] ?_))))))
       refine wp_ret ?_
       cases h
       exact ⟨kr,rfl⟩
      refine sz 2 30 ?_
      refine idxL' (enc:=eTharuspexref18_Walk) (l:=x57.1) (n:=0) (fl:=false) (w:=2) (a:=a109) kr rfl gE q110 ?_
      refine sz 6 37 (reg_end rfl ?_)
      refine wbz h (fun q116 h=>?_) (fun q116 h=>?_)
      ·refine wp_seq (wg [] [] (rn (wg [8] [] ?_)))
       refine wp_ret ?_
       cases h
       exact ⟨kr,rfl⟩
      refine wp_skip (wg [2,3,4,10,31,32,42,43] [0,1] (rn ?_))
      cases h
      exact ⟨_,rfl,(wk_gc (live:=[2,3,4,10,31,32,42,43]) (keep:=[0,1]) kr)⟩
    refine wcF (wg [2,3,4,31,32] [0] ?_)
    refine wp_exit ?_
    cases h
    exact ⟨kr,rfl⟩
   intro x117 h out hx
   subst hx
   rcases x117 with x118 | x119
   ·dsimp only at h ⊢
    cases h
    exact ⟨kr,rfl⟩
   ·dsimp only at h ⊢
    refine rn ?_
    cases h
    exact ⟨_,rfl,(wk_gc (live:=[2,3,4,31,32]) (keep:=[0]) kr)⟩
  refine wcF (wg [] [] ?_)
  refine wp_exit ?_
  cases h
  exact ⟨kr,rfl⟩
 intro x120 h out hx
 subst hx
 rcases x120 with x121 | x122
 ·dsimp only at h ⊢
  cases h
  show fnOut _ _ _ _=_
  kernel_rfl
 ·dsimp only at h ⊢
  refine sq (wg [8] [] ?_)
  cases h
  exact wp_ret (show fnOut _ _ _ _=_ from by kernel_rfl)
end Go.Ab
namespace Go.Ab
open Go
theorem whileN_spec {σ ρ:Type} {body:σ→Option (Step σ ρ)} (I:σ→Prop) (m:σ→Nat) (Q:ρ→Prop)
  (step:∀s,I s→(∃s',body s=some (.next s')∧I s'∧m s' < m s)∨(∃r,body s=some (.done r)∧Q r)) :
  ∀(n:Nat) (s:σ),I s→m s < n→∃r,whileN n body s=some r∧Q r
 | 0,s,_,h=>by omega
 | n+1,s,hI,h=>by
  unfold whileN
  rcases step s hI with ⟨s',h1,h2,h3⟩ | ⟨r,h1,h2⟩
  ·rw [h1]
   exact whileN_spec I m Q step n s' h2 (by omega)
  ·rw [h1]
   exact ⟨r,rfl,h2⟩
theorem whileN_eq {σ ρ:Type} {body:σ→Option (Step σ ρ)} (I:σ→Prop) (m:σ→Nat) (r:ρ)
  (step:∀s,I s→(∃s',body s=some (.next s')∧I s'∧m s' < m s)∨body s=some (.done r)) (s:σ) (hI:I s) (hm:m s < 1152921504606846976):whileN fuel body s=some r:=by
 obtain ⟨r',h1,h2⟩:=whileN_spec I m (fun x=>x=r) (fun s hs=>(step s hs).imp id fun h=>⟨r,h,rfl⟩) fuel s hI hm
 rw [h1,h2]
theorem whileN_ex {σ ρ:Type} {body:σ→Option (Step σ ρ)} (I:σ→Prop) (m:σ→Nat) (Q:ρ→Prop)
  (step:∀s,I s→(∃s',body s=some (.next s')∧I s'∧m s' < m s)∨(∃r,body s=some (.done r)∧Q r)) (s:σ) (hI:I s) (hm:m s < 1152921504606846976):∃r,whileN fuel body s=some r∧Q r :=
 whileN_spec I m Q step fuel s hI hm
theorem whileN_count {σ ρ:Type} {body:σ→Option (Step σ ρ)} (f:Nat → σ) (n:Nat) (r:ρ) (step:∀k,k < n→body (f k)=some (.next (f (k+1)))) (done:body (f n)=some (.done r)) (hn:n < 1152921504606846976) :
  whileN fuel body (f 0)=some r:=by
 have key:∀(j N k:Nat),k+j=n→j < N→whileN N body (f k)=some r:=by
  intro j
  induction j with
  | zero =>
   intro N k hk hN
   obtain ⟨N,rfl⟩:∃M,N=M+1:=⟨N - 1,by omega⟩
   have:k=n:=by omega
   subst this
   simp [whileN,done]
  | succ j ih =>
   intro N k hk hN
   obtain ⟨N,rfl⟩:∃M,N=M+1:=⟨N - 1,by omega⟩
   simp only [whileN,step k (by omega)]
   exact ih N (k+1) (by omega) (by omega)
 exact key n fuel 0 (by omega) hn
theorem whileN_run {σ ρ:Type} {body:σ→Option (Step σ ρ)} {s0:σ} (f:Nat → σ) (n:Nat) (r:ρ) (h0:f 0=s0) (step:∀k,k < n→body (f k)=some (.next (f (k+1)))) (done:body (f n)=some (.done r)) (hn:n < 1152921504606846976) :
  whileN fuel body s0=some r:=by rw [←h0]; exact whileN_count f n r step done hn
theorem w64 {n:Int} (h:-9223372036854775808≤n∧n≤9223372036854775807):IntKind.i64.wrap n=n:=by rw [IntKind.wrap_i64]; omega
theorem lkI_at {α:Type} {l:List α} {n:Int} (h:0≤n) (h2:n < l.length):lkI l n=some (l[n.toNat]'(by omega)):=by
 unfold lkI
 rw [if_neg (by omega),List.getElem?_eq_getElem]
theorem lkI_nat {α:Type} {l:List α} {k:Nat} (h:k < l.length):lkI l (k:Int)=some l[k]:=by
 unfold lkI
 rw [if_neg (by omega),Int.toNat_natCast,List.getElem?_eq_getElem h]
theorem tmod_pos {a b:Int} (h:0≤a):Int.tmod a b=a % b:=Int.tmod_eq_emod_of_nonneg h
end Go.Ab
namespace Go.Ab
open Go
set_option maxRecDepth 100000
def isum:List Int→Int
 | []=>0
 | x::l=>x+isum l
theorem isum_append (a b:List Int):isum (a++b)=isum a+isum b:=by
 induction a with
 | nil=>simp [isum]
 | cons x a ih=>simp only [List.cons_append,isum,ih]; omega
theorem isum_take_succ {l:List Int} {k:Nat} (hk:k < l.length):isum (l.take (k+1))=isum (l.take k)+l[k]:=by
 rw [List.take_succ_eq_append_getElem hk,isum_append]; simp [isum]
theorem isum_nonneg {l:List Int} (h:∀x∈l,0≤x):0≤isum l:=by
 induction l with
 | nil=>simp [isum]
 | cons x l ih=>simp only [isum]; have:=ih (fun y hy=>h y (List.mem_cons_of_mem _ hy)); have:=h x (by simp); omega
theorem isum_split (l:List Int) (k:Nat):isum l=isum (l.take k)+isum (l.drop k):=by
 rw [←isum_append,List.take_append_drop]
def RowP (g:Int) (l:List Int):Prop:=(∀x∈l,0≤x)∧isum l=g
instance (g:Int) (l:List Int):Decidable (RowP g l):=by unfold RowP; exact inferInstance
def rowB (g:Int) (l:List Int):Bool:=decide (RowP g l)
theorem rowB_iff {g:Int} {l:List Int}:rowB g l=true↔RowP g l:=by simp [rowB]
theorem row_le {g:Int} {l:List Int} (h:RowP g l) {k:Nat} (hk:k < l.length):0≤l[k]∧isum (l.take k)+l[k]≤g:=by
 refine ⟨h.1 _ (List.getElem_mem hk),?_⟩
 have h1:=isum_split l (k+1)
 rw [isum_take_succ hk] at h1
 have h2:=isum_nonneg (l:=l.drop (k+1)) (fun x hx=>h.1 x (List.mem_of_mem_drop hx))
 have:=h.2
 omega
theorem take_nonneg_succ {l:List Int} {k:Nat} (hk:k < l.length) (h:∀x∈l.take k,0≤x) (h0:0≤l[k]):∀x∈l.take (k+1),0≤x:=by
 intro x hx
 rw [List.take_succ_eq_append_getElem hk] at hx
 rcases List.mem_append.1 hx with hx | hx
 ·exact h x hx
 ·simp at hx; subst hx; exact h0
theorem isRow_eq (g:Int) (l:List Int) (hg:0≤g∧g≤1000) (hl:l.length≤281474976710656):g_hidden_isRow g l=some (rowB g l):=by
 unfold g_hidden_isRow
 refine Exists.elim (whileN_ex (body:=g_hidden_isRow_b0 l) (fun s=>∃k:Nat,k≤l.length∧s.2=(k:Int)∧s.1=g - isum (l.take k)∧0≤s.1∧∀x∈l.take k,0≤x) (fun s=>l.length - s.2.toNat)
  (fun r=>match r with | .inl _=>rowB g l=false | .inr x=>rowB g l=(x==0)) ?_ (g,0) ⟨0,by omega,rfl,by simp [isum],hg.1,by simp⟩ (by simp; omega)) (fun r hr=>?_)
 rotate_left
 ·obtain ⟨h1,h2⟩:=hr
  rw [h1]
  cases r with
  | inl u=>simp only [Option.bind_some]; rw [h2]
  | inr x=>simp only [Option.bind_some]; rw [h2]
 ·rintro ⟨a,i⟩ ⟨k,hk,rfl,ha,h0,hall⟩
  simp only at ha h0
  unfold g_hidden_isRow_b0
  simp only
  have hT:isum (l.take k)≤g:=by omega
  have hT0:=isum_nonneg hall
  by_cases hlt:k < l.length
  ·rw [if_pos (by simp; omega),lkI_nat hlt]
   simp only [Option.bind_some]
   by_cases hn:l[k] < 0
   ·right
    rw [if_pos (by simpa using hn)]
    refine ⟨_,rfl,?_⟩
    simp only [rowB,decide_eq_false_iff_not]
    intro hr; have:=hr.1 _ (List.getElem_mem hlt); omega
   ·rw [if_neg (by simpa using hn)]
    by_cases hgt:l[k] > a
    ·right
     rw [if_pos (by simpa using hgt)]
     refine ⟨_,rfl,?_⟩
     simp only [rowB,decide_eq_false_iff_not]
     intro hr; have:=(row_le hr hlt).2; omega
    ·left
     rw [if_neg (by simpa using hgt)]
     refine ⟨_,rfl,⟨k+1,hlt,?_,?_,?_,take_nonneg_succ hlt hall (by omega)⟩,?_⟩
     ·show IntKind.i64.wrap ((k:Int)+1)=((k+1:Nat):Int); rw [w64 (by omega)]; omega
     ·show IntKind.i64.wrap (a - l[k])=g - isum (l.take (k+1)); rw [w64 (by omega),isum_take_succ hlt]; omega
     ·show 0≤IntKind.i64.wrap (a - l[k]); rw [w64 (by omega)]; omega
     ·show l.length - (IntKind.i64.wrap ((k:Int)+1)).toNat < l.length - ((k:Int)).toNat; rw [w64 (by omega)]; omega
  ·right
   rw [if_neg (by simp; omega)]
   refine ⟨_,rfl,?_⟩
   have:k=l.length:=by omega
   subst this
   rw [List.take_length] at ha hall
   show rowB g l=(a==0)
   rw [Bool.eq_iff_iff,rowB_iff,beq_iff_eq]
   constructor
   ·rintro ⟨_,hs⟩; omega
   ·intro hz; exact ⟨hall,by omega⟩
theorem refrow_eq (g:Int) (l:List Int) (n:Int) (hg:0≤g∧g≤1000) (hl:l.length≤281474976710656):g_ref17_row l n g=some ((l.length:Int)==n && rowB g l):=by
 unfold g_ref17_row
 refine Exists.elim (whileN_ex (body:=g_ref17_row_b0 l g) (fun s=>∃k:Nat,k≤l.length∧s.2=(k:Int)∧s.1=isum (l.take k)∧s.1≤1000*k∧∀x∈l.take k,0≤x) (fun s=>l.length - s.2.toNat)
  (fun r=>match r with | .inl _=>rowB g l=false | .inr x=>rowB g l=(x==g)) ?_ (0,0) ⟨0,by omega,rfl,by simp [isum],by simp,by simp⟩ (by simp; omega)) (fun r hr=>?_)
 rotate_left
 ·obtain ⟨h1,h2⟩:=hr
  rw [h1]
  cases r with
  | inl u=>simp only [Option.bind_some]; rw [h2]; simp
  | inr x =>
   simp only [Option.bind_some]; rw [h2]
   split
   ·rename_i e; rw [e]; rfl
   ·rename_i e; rw [show ((l.length:Int)==n)=false from by simpa using e]; rfl
 ·rintro ⟨a,i⟩ ⟨k,hk,rfl,ha,h0,hall⟩
  simp only at ha h0
  unfold g_ref17_row_b0
  simp only
  have hT0:=isum_nonneg hall
  by_cases hlt:k < l.length
  ·rw [if_pos (by simp; omega),lkI_nat hlt]
   simp only [Option.bind_some]
   by_cases hn:l[k] < 0
   ·right
    rw [if_pos (by simpa using hn)]
    refine ⟨_,rfl,?_⟩
    simp only [rowB,decide_eq_false_iff_not]
    intro hr; have:=hr.1 _ (List.getElem_mem hlt); omega
   ·rw [if_neg (by simpa using hn)]
    by_cases hgt:l[k] > g
    ·right
     rw [if_pos (by simpa using hgt)]
     refine ⟨_,rfl,?_⟩
     simp only [rowB,decide_eq_false_iff_not]
     intro hr
     have:=(row_le hr hlt).2
     omega
    ·left
     rw [if_neg (by simpa using hgt)]
     refine ⟨_,rfl,⟨k+1,hlt,?_,?_,?_,take_nonneg_succ hlt hall (by omega)⟩,?_⟩
     ·show IntKind.i64.wrap ((k:Int)+1)=((k+1:Nat):Int); rw [w64 (by omega)]; omega
     ·show IntKind.i64.wrap (a+l[k])=isum (l.take (k+1)); rw [w64 (by omega),isum_take_succ hlt]; omega
     ·show IntKind.i64.wrap (a+l[k])≤1000*((k+1:Nat):Int); rw [w64 (by omega)]; omega
     ·show l.length - (IntKind.i64.wrap ((k:Int)+1)).toNat < l.length - ((k:Int)).toNat; rw [w64 (by omega)]; omega
  ·right
   rw [if_neg (by simp; omega)]
   refine ⟨_,rfl,?_⟩
   have:k=l.length:=by omega
   subst this
   rw [List.take_length] at ha hall
   show rowB g l=(a==g)
   rw [Bool.eq_iff_iff,rowB_iff,beq_iff_eq]
   constructor
   ·rintro ⟨_,hs⟩; omega
   ·intro hz; exact ⟨hall,by omega⟩
structure OkH (h:Tapi_Hidden):Prop where
 first:h.First.length≤281474976710656
 step:h.Step.length≤281474976710656
 stepL:∀l∈h.Step,l.length≤281474976710656
 shows:h.Show.length≤281474976710656
 showsL:∀l∈h.Show,l.length≤281474976710656
theorem areRows_eq (g m n:Int) (L:List (List Int)) (hg:0≤g∧g≤1000) (hL:L.length≤281474976710656) (hl:∀l∈L,l.length≤281474976710656) :
  g_hidden_areRows g m n L=some ((L.length:Int)==m && L.all fun l=>(l.length:Int)==n && rowB g l):=by
 unfold g_hidden_areRows
 by_cases hm:(L.length:Int)=m
 ·rw [if_neg (by simpa using hm),show ((L.length:Int)==m)=true from by simpa using hm]
  refine Exists.elim (whileN_ex (body:=g_hidden_areRows_b0 L n g) (fun s=>∃k:Nat,k≤L.length∧s=(k:Int)∧(L.take k).all (fun l=>(l.length:Int)==n && rowB g l)=true) (fun s=>L.length - s.toNat)
   (fun r=>match r with | .inl _=>L.all (fun l=>(l.length:Int)==n && rowB g l)=false | .inr _=>L.all (fun l=>(l.length:Int)==n && rowB g l)=true) ?_ 0 ⟨0,by omega,rfl,by simp⟩ (by simp; omega)) (fun r hr=>?_)
  rotate_left
  ·obtain ⟨h1,h2⟩:=hr
   rw [h1]
   cases r with
   | inl u=>simp only [Option.bind_some]; rw [h2]; rfl
   | inr u=>simp only [Option.bind_some]; rw [h2]; rfl
  ·rintro i ⟨k,hk,rfl,hall⟩
   unfold g_hidden_areRows_b0
   by_cases hlt:k < L.length
   ·rw [if_pos (by simp; omega),lkI_nat hlt]
    simp only [Option.bind_some]
    have hmem:=List.getElem_mem hlt
    have bad:((L[k].length:Int)==n && rowB g L[k])=false→L.all (fun l=>(l.length:Int)==n && rowB g l)=false:=fun hb=>by
     rw [List.all_eq_false]
     exact ⟨_,hmem,by rw [hb]; simp⟩
    by_cases hn:(L[k].length:Int)=n
    ·rw [if_neg (by simpa using hn),isRow_eq g _ hg (hl _ hmem)]
     simp only [Option.bind_some]
     cases hr:rowB g L[k] with
     | false =>
      right
      rw [if_pos (by simp)]
      exact ⟨_,rfl,bad (by rw [hr]; simp)⟩
     | true =>
      left
      rw [if_neg (by simp)]
      refine ⟨_,rfl,⟨k+1,hlt,by rw [w64 (by omega)]; simp,?_⟩,?_⟩
      ·rw [List.take_succ_eq_append_getElem hlt,List.all_append,hall]
       simp [hr,hn]
      ·rw [w64 (by omega)]; omega
    ·right
     rw [if_pos (by simpa using hn)]
     exact ⟨_,rfl,bad (by rw [show ((L[k].length:Int)==n)=false from by simpa using hn]; simp)⟩
   ·right
    rw [if_neg (by simp; omega)]
    have:k=L.length:=by omega
    subst this
    rw [List.take_length] at hall
    exact ⟨_,rfl,hall⟩
 ·rw [if_pos (by simpa using hm),show ((L.length:Int)==m)=false from by simpa using hm]
  rfl
end Go.Ab
namespace Go.Ab
open Go
set_option maxRecDepth 100000
def rightB (h:Tapi_Hidden):Bool :=
 decide (1≤h.Grain) && (decide (h.Grain≤12) && (decide (1≤(h.First.length:Int)) && (decide ((h.First.length:Int)≤4) && (((h.Show.length:Int)==h.First.length) && (decide (1≤((h.Show.headD []).length:Int)) && (decide (((h.Show.headD []).length:Int)≤4) &&
 (rowB h.Grain h.First && (((h.Step.length:Int)==h.First.length && h.Step.all fun l=>(l.length:Int)==h.First.length && rowB h.Grain l) && (((h.Show.length:Int)==h.First.length) && h.Show.all fun l=>(l.length:Int)==((h.Show.headD []).length:Int) && rowB h.Grain l)))))))))
theorem lkI_head {α:Type} {l:List α} {d:α} (h:1≤l.length):lkI l 0=some (l.headD d):=by
 cases l with
 | nil=>simp at h
 | cons x l=>rfl
theorem check_eq (h:Tapi_Hidden) (ok:OkH h):g_hidden_Check h=some (if rightB h=true then 0 else 170):=by
 unfold g_hidden_Check rightB
 by_cases c1:h.Grain < 1
 ·rw [if_pos (by simpa using c1),show decide (1≤h.Grain)=false by simpa using c1]; rfl
 rw [if_neg (by simpa using c1),show decide (1≤h.Grain)=true by simp; omega,Bool.true_and]
 by_cases c2:h.Grain > 12
 ·rw [if_pos (by simpa using c2),show decide (h.Grain≤12)=false by simpa using c2]; rfl
 rw [if_neg (by simpa using c2),show decide (h.Grain≤12)=true by simp; omega,Bool.true_and]
 by_cases c3:(h.First.length:Int) < 1
 ·rw [if_pos (by simpa using c3),show decide (1≤(h.First.length:Int))=false by simp at c3 ⊢; omega]; rfl
 rw [if_neg (by simpa using c3),show decide (1≤(h.First.length:Int))=true by simp at c3 ⊢; omega,Bool.true_and]
 by_cases c4:(h.First.length:Int) > 4
 ·rw [if_pos (by simpa using c4),show decide ((h.First.length:Int)≤4)=false by simp at c4 ⊢; omega]; rfl
 rw [if_neg (by simpa using c4),show decide ((h.First.length:Int)≤4)=true by simp at c4 ⊢; omega,Bool.true_and]
 by_cases c5:(h.Show.length:Int)=h.First.length
 ·rw [if_neg (by simpa using c5),show ((h.Show.length:Int)==h.First.length)=true by simpa using c5,Bool.true_and,lkI_head (d:=[]) (by omega)]
  simp only [Option.bind_some]
  by_cases c6:((h.Show.headD []).length:Int) < 1
  ·rw [if_pos (by simpa using c6),show decide (1≤((h.Show.headD []).length:Int))=false by rw [decide_eq_false_iff_not]; omega]; rfl
  rw [if_neg (by simpa using c6),show decide (1≤((h.Show.headD []).length:Int))=true by rw [decide_eq_true_eq]; omega,Bool.true_and]
  by_cases c7:((h.Show.headD []).length:Int) > 4
  ·rw [if_pos (by simpa using c7),show decide (((h.Show.headD []).length:Int)≤4)=false by rw [decide_eq_false_iff_not]; omega]; rfl
  rw [if_neg (by simpa using c7),show decide (((h.Show.headD []).length:Int)≤4)=true by rw [decide_eq_true_eq]; omega,Bool.true_and]
  rw [isRow_eq _ _ (by omega) ok.first]
  simp only [Option.bind_some]
  cases rowB h.Grain h.First with
  | false=>rfl
  | true =>
   rw [if_neg (by simp),Bool.true_and,areRows_eq _ _ _ _ (by omega) ok.step ok.stepL]
   simp only [Option.bind_some]
   cases ((h.Step.length:Int)==h.First.length && h.Step.all fun l=>(l.length:Int)==h.First.length && rowB h.Grain l) with
   | false=>rfl
   | true =>
    rw [if_neg (by simp),Bool.true_and,areRows_eq _ _ _ _ (by omega) ok.shows ok.showsL]
    simp only [Option.bind_some]
    rw [show ((h.Show.length:Int)==h.First.length)=true by simpa using c5]
    simp only [Bool.true_and]
    cases (h.Show.all fun l=>(l.length:Int)==((h.Show.headD []).length:Int) && rowB h.Grain l) with
    | false=>rfl
    | true=>rfl
 ·rw [if_pos (by simpa using c5),show ((h.Show.length:Int)==h.First.length)=false by simpa using c5]; rfl
theorem right_eq (h:Tapi_Hidden) (ok:OkH h):g_ref17_Right h=some (rightB h):=by
 unfold g_ref17_Right rightB
 by_cases c1:h.Grain < 1
 ·rw [if_pos (by simpa using c1),show decide (1≤h.Grain)=false by simpa using c1]; rfl
 rw [if_neg (by simpa using c1),show decide (1≤h.Grain)=true by simp; omega,Bool.true_and]
 by_cases c2:h.Grain > 12
 ·rw [if_pos (by simpa using c2),show decide (h.Grain≤12)=false by simpa using c2]; rfl
 rw [if_neg (by simpa using c2),show decide (h.Grain≤12)=true by simp; omega,Bool.true_and]
 by_cases c3:(h.First.length:Int) < 1
 ·rw [if_pos (by simpa using c3),show decide (1≤(h.First.length:Int))=false by simp at c3 ⊢; omega]; rfl
 rw [if_neg (by simpa using c3),show decide (1≤(h.First.length:Int))=true by simp at c3 ⊢; omega,Bool.true_and]
 by_cases c4:(h.First.length:Int) > 4
 ·rw [if_pos (by simpa using c4),show decide ((h.First.length:Int)≤4)=false by simp at c4 ⊢; omega]; rfl
 rw [if_neg (by simpa using c4),show decide ((h.First.length:Int)≤4)=true by simp at c4 ⊢; omega,Bool.true_and]
 rw [refrow_eq _ _ _ (by omega) ok.first]
 simp only [Option.bind_some,beq_self_eq_true,Bool.true_and]
 cases hr:rowB h.Grain h.First with
 | false =>
  rw [if_pos (by simp)]
  simp
 | true =>
  rw [if_neg (by simp)]
  by_cases c8:(h.Step.length:Int)=h.First.length
  ·rw [if_neg (by simpa using c8)]
   by_cases c5:(h.Show.length:Int)=h.First.length
   ·rw [if_neg (by simpa using c5),lkI_head (d:=[]) (by omega),show ((h.Show.length:Int)==h.First.length)=true by simpa using c5,show ((h.Step.length:Int)==h.First.length)=true by simpa using c8]
    simp only [Option.bind_some,Bool.true_and]
    by_cases c6:((h.Show.headD []).length:Int) < 1
    ·rw [if_pos (by simpa using c6),show decide (1≤((h.Show.headD []).length:Int))=false by rw [decide_eq_false_iff_not]; omega]; rfl
    rw [if_neg (by simpa using c6),show decide (1≤((h.Show.headD []).length:Int))=true by rw [decide_eq_true_eq]; omega,Bool.true_and]
    by_cases c7:((h.Show.headD []).length:Int) > 4
    ·rw [if_pos (by simpa using c7),show decide (((h.Show.headD []).length:Int)≤4)=false by rw [decide_eq_false_iff_not]; omega]; rfl
    rw [if_neg (by simpa using c7),show decide (((h.Show.headD []).length:Int)≤4)=true by rw [decide_eq_true_eq]; omega,Bool.true_and]
    refine Exists.elim (whileN_ex (body:=g_ref17_Right_b0 h (h.Show.headD [])) (fun s=>∃k:Nat,k≤h.First.length∧s=(k:Int)∧(h.Step.take k).all (fun l=>(l.length:Int)==h.First.length && rowB h.Grain l)=true∧(h.Show.take k).all (fun l=>(l.length:Int)==((h.Show.headD []).length:Int) && rowB h.Grain l)=true) (fun s=>h.First.length - s.toNat)
     (fun r=>match r with
      | .inl _=>((h.Step.all fun l=>(l.length:Int)==h.First.length && rowB h.Grain l) && h.Show.all fun l=>(l.length:Int)==((h.Show.headD []).length:Int) && rowB h.Grain l)=false
      | .inr _=>((h.Step.all fun l=>(l.length:Int)==h.First.length && rowB h.Grain l) && h.Show.all fun l=>(l.length:Int)==((h.Show.headD []).length:Int) && rowB h.Grain l)=true) ?_ 0 ⟨0,by omega,rfl,by simp,by simp⟩ (by simp; omega)) (fun r hr=>?_)
    rotate_left
    ·obtain ⟨h1,h2⟩:=hr
     rw [h1]
     cases r with
     | inl u=>simp only [Option.bind_some]; rw [h2]
     | inr u=>simp only [Option.bind_some]; rw [h2]
    ·rintro i ⟨k,hk,rfl,ha,hb⟩
     unfold g_ref17_Right_b0
     have hS:h.Step.length=h.First.length:=by omega
     have hW:h.Show.length=h.First.length:=by omega
     by_cases hlt:k < h.First.length
     ·have k1:k < h.Step.length:=by omega
      have k2:k < h.Show.length:=by omega
      rw [if_pos (by simp; omega),lkI_nat k1]
      simp only [Option.bind_some]
      rw [refrow_eq _ _ _ (by omega) (ok.stepL _ (List.getElem_mem k1))]
      simp only [Option.bind_some]
      cases e1:(((h.Step[k]).length:Int)==(h.First.length:Int) && rowB h.Grain h.Step[k]) with
      | false =>
       right
       rw [if_pos (by simp)]
       refine ⟨_,rfl,?_⟩
       show (_ && _)=false
       rw [show (h.Step.all fun l=>(l.length:Int)==h.First.length && rowB h.Grain l)=false by rw [List.all_eq_false]; exact ⟨_,List.getElem_mem k1,by rw [e1]; simp⟩]; rfl
      | true =>
       rw [if_neg (by simp),lkI_nat k2]
       simp only [Option.bind_some]
       rw [refrow_eq _ _ _ (by omega) (ok.showsL _ (List.getElem_mem k2))]
       simp only [Option.bind_some]
       cases e2:(((h.Show[k]).length:Int)==((h.Show.headD []).length:Int) && rowB h.Grain h.Show[k]) with
       | false =>
        right
        rw [if_pos (by simp)]
        refine ⟨_,rfl,?_⟩
        show (_ && _)=false
        rw [show (h.Show.all fun l=>(l.length:Int)==((h.Show.headD []).length:Int) && rowB h.Grain l)=false by rw [List.all_eq_false]; exact ⟨_,List.getElem_mem k2,by rw [e2]; simp⟩]; simp
       | true =>
        left
        rw [if_neg (by simp)]
        refine ⟨_,rfl,⟨k+1,hlt,by rw [w64 (by omega)]; simp,?_,?_⟩,?_⟩
        ·rw [List.take_succ_eq_append_getElem k1,List.all_append,ha]; simpa using e1
        ·rw [List.take_succ_eq_append_getElem k2,List.all_append,hb]; simpa using e2
        ·rw [w64 (by omega)]; omega
     ·right
      rw [if_neg (by simp; omega)]
      have hkk:k=h.First.length:=by omega
      rw [List.take_of_length_le (by omega)] at ha hb
      refine ⟨_,rfl,?_⟩
      show (_ && _)=true
      rw [ha,hb]; rfl
   ·rw [if_pos (by simpa using c5),show ((h.Show.length:Int)==h.First.length)=false by simpa using c5]; simp
  ·rw [if_pos (by simpa using c8),show ((h.Step.length:Int)==h.First.length)=false by simpa using c8]; simp
end Go.Ab
